/- Walk: the library's sort at one door or none. -/
import Derived.Test.YtjiklfffcnfdjaaDrL
import Derived.Test.YtjiklfffcnfdjaaDrM
namespace Go.Proofs.Ytjiklfffcnfdjaa
open Go.RowKit Go.Sort Go.Lib Go.Shelf

set_option maxHeartbeats 2000000 in
theorem insdr_one (p : Option Addr) (cap : Nat) (fv : Value) (w : World) :
    Calls Try.prog 184 #[.slice p 1 cap, .int .i64 0, .int .i64 1, fv] w fun e w' => e = .returned (.tuple #[]) ∧ w' = w := by
  go_enter Try.func184, Try.ntmps184
  go_wp2
  refine wp_loop_rounds 1 ?_
  rw [rounds_succ]
  go_wp2
  go_end0
  exact ⟨rfl, rfl⟩

set_option maxHeartbeats 2000000 in
theorem pdqdr_one (p : Option Addr) (cap : Nat) (lim : Int) (fv : Value) (w : World) :
    Calls Try.prog 155 #[.slice p 1 cap, .int .i64 0, .int .i64 1, .int .i64 lim, fv] w fun e w' => e = .returned (.tuple #[]) ∧ w' = w := by
  have hi := fun W => insdr_one p cap fv W
  go_enter Try.func155, Try.ntmps155
  go_wp2
  refine wp_loop_rounds 1 ?_
  rw [rounds_succ]
  go_wp2_with fail
  refine (hi _).mono ?_
  rintro e w' ⟨rfl, rfl⟩
  go_wp2
  (try simp only [Exit.inBlock, Exit.then])
  refine bodyPost_ret (results_none rfl _ _ _) rfl ?_
  exact ⟨rfl, rfl⟩

set_option maxHeartbeats 2000000 in
theorem sortdr_one (p : Option Addr) (cap : Nat) (fv : Value) (w : World) :
    Calls Try.prog 99 #[.slice p 1 cap, fv] w fun e w' => e = .returned (.tuple #[]) ∧ w' = w := by
  have hp := fun lim W => pdqdr_one p cap lim fv W
  have hl : ∀ W, Calls Try.prog 156 #[.int .u64 1] W fun e w' => e = .returned (.int .i64 (Lib.bitLen 1 : Nat)) ∧ w' = W := fun W => by
    have h := Any.bits_Len (SlLaysF0.n15.bits (P := Try.prog) (ρ := Try.lSortDr_ren) { Try.lSortDr with }) 1 W (by omega) (by omega)
    exact h
  go_enter Try.func99, Try.ntmps99
  go_wp2_with fail
  refine (hl _).mono ?_
  rintro e w' ⟨rfl, rfl⟩
  go_wp2_with fail
  refine (hp _ _).mono ?_
  rintro e w' ⟨rfl, rfl⟩
  go_wp2
  go_end0
  exact ⟨rfl, rfl⟩
theorem sortdr_none (p : Option Addr) (cap : Nat) (fv : Value) (w : World) :
    Calls Try.prog 99 #[.slice p 0 cap, fv] w fun e w' => e = .returned (.tuple #[]) ∧ w' = w := AnyF.slices_SortFunc_none Try.lSortDr p cap fv w
end Go.Proofs.Ytjiklfffcnfdjaa
