/- Walks: open.Check of a grid that was built. -/
import Derived.Test.YtjiklfffcnfdjaaGreatHf
namespace Go.Proofs.YtjiklfffcnfdjaaGreat
open Go.RowKit
attribute [local go_sem] Instr.index

theorem SlFlr.cells {w : World} {b off : Nat} {xs : List Flr} (h : ∀ i x, xs[i]? = some x → ∀ j v, (flrC x)[j]? = some v → w.cell? ⟨b, off + i * 3 + j, none⟩ = some v) {k : Nat} {x : Flr} (hx : xs[k]? = some x) :
    w.cell? ⟨b, off + k * 3, none⟩ = some (.int .i64 x.y) ∧ w.cell? ⟨b, off + k * 3 + 1, none⟩ = some (.int .i64 x.top) ∧ w.cell? ⟨b, off + k * 3 + 2, none⟩ = some (.int .i64 x.area) :=
  ⟨h k x hx 0 _ rfl, h k x hx 1 _ rfl, h k x hx 2 _ rfl⟩
end Go.Proofs.YtjiklfffcnfdjaaGreat

namespace Go.Proofs.YtjiklfffcnfdjaaGreat
open Go.RowKit
attribute [local go_sem] Instr.index

set_option maxHeartbeats 2000000 in
theorem sameflr_self (a b : Option Addr) (n c d : Nat) (xs : List Flr) (w : World) (hx : SlFl w a n c xs) (hy : SlFl w b n d xs) :
    Calls Tryz.prog 10 #[.slice a n c, .slice b n d] w fun e w' => e = .returned (.bool true) ∧ Below w.heap.size w w' := by
  have Hl := Lib.hid hx.len
  have hmax := hx.max
  have hle := hx.le
  have Hx := Lib.hid hx; clear hx
  have Hy := Lib.hid hy; clear hy
  go_enter Tryz.func10, Tryz.ntmps10
  go_wp2
  go_loopw [5] (fun i wr => ∃ k : Nat, i = .int .i64 k ∧ k ≤ n ∧ Below w.heap.size w wr) (fun i _ => n - (intOf i).toNat)
  case atStart => exact ⟨0, rfl, Nat.zero_le _, Below.refl _ _⟩
  case round =>
    obtain ⟨k, rfl, hk, hb⟩ := hrel
    by_cases hlt : k < n
    · obtain ⟨b1, off1, rfl, hbl1, hc1⟩ := (Hx.out.below hb (Nat.le_refl _)).at0 (by omega)
      obtain ⟨b2, off2, rfl, hbl2, hc2⟩ := (Hy.out.below hb (Nat.le_refl _)).at0 (by omega)
      obtain ⟨x, hxk⟩ : ∃ x, xs[k]? = some x := ⟨_, List.getElem?_eq_getElem (by rw [Hl.out]; exact hlt)⟩
      obtain ⟨c1, c2, c3⟩ := SlFlr.cells hc1 hxk
      obtain ⟨d1, d2, d3⟩ := SlFlr.cells hc2 hxk
      obtain ⟨xlo, xhi, xwk⟩ := x
      clear hc1 hc2 hxk
      simp only at c1 c2 c3 d1 d2 d3
      go_wp2
      have e_c1 := fun d os => cell_regrown c1 d os
      have e_c2 := fun d os => cell_regrown c2 d os
      have e_c3 := fun d os => cell_regrown c3 d os
      have e_d1 := fun d os => cell_regrown d1 d os
      have e_d2 := fun d os => cell_regrown d2 d os
      have e_d3 := fun d os => cell_regrown d3 d os
      clear c1 c2 c3 d1 d2 d3
      refine wp_region_quiet_below (by kernel_rfl) (by kernel_rfl) ?_
      repeat (go_big_quiet_step (fail))
      refine wpQuiet_nil ?_
      rintro w4 ⟨⟨dq, osq⟩, hw4⟩
      have hb4 : Below w.heap.size w w4 := by rw [hw4]; exact hb.trans ((below_regrown wr dq osq).mono hb.size)
      clear hw4 e_c1 e_c2 e_c3 e_d1 e_d2 e_d3
      go_wp2
      go_roundw
      case rel => exact ⟨k + 1, by go_num, by omega, hb4⟩
      case measure => simp [intOf]; omega
    · obtain rfl : k = n := by omega
      go_wp2
      go_ret
      exact ⟨rfl, hb⟩
end Go.Proofs.YtjiklfffcnfdjaaGreat
