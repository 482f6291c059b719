/- Walks: triangles that may be. -/
import Derived.Test.YtilhmlapbifbbaaSoP
import Derived.Test.YtilhmlapbifbbaaCfg
import Derived.Test.YtilhmlapbifbbaaShA
import Derived.Lib.QuietBelow
import Derived.Deep.DeepCutAuto
import Derived.Deep.CutRange
namespace Go.Proofs.Ytilhmlapbifbbaa
open Go.RowKit Go.Sort
attribute [local go_sem] Instr.index

theorem height_any (y : Int) (w : World) : Calls Try.prog 130 #[.int .i64 y] w fun e w' => e = .returned (.bool (hgtOk y)) ∧ w = w' := by
  by_cases h : -2048 ≤ y
  · have d1 : decide (-2048 ≤ y) = true := decide_eq_true h
    have H : Hid (hgtOk y = decide (y ≤ 2048)) := by show _ = _; unfold hgtOk; rw [d1]; rfl
    clear h
    go_enter Try.func130, Try.ntmps130
    go_wp2
    go_ret
    exact ⟨ret_bool H.out.symm, rfl⟩
  · have d1 : decide (-2048 ≤ y) = false := decide_eq_false h
    have H : Hid (hgtOk y = false) := by show _ = _; unfold hgtOk; rw [d1]; rfl
    clear h
    go_enter Try.func130, Try.ntmps130
    go_wp2
    go_ret
    exact ⟨ret_bool H.out.symm, rfl⟩
theorem refheight_any (y : Int) (w : World) : Calls Try.prog 145 #[.int .i64 y] w fun e w' => e = .returned (.bool (hgtOk y)) ∧ w = w' := by
  by_cases h : -2048 ≤ y
  · have d1 : decide (-2048 ≤ y) = true := decide_eq_true h
    have H : Hid (hgtOk y = decide (y ≤ 2048)) := by show _ = _; unfold hgtOk; rw [d1]; rfl
    clear h
    go_enter Try.func145, Try.ntmps145
    go_wp2
    go_ret
    exact ⟨ret_bool H.out.symm, rfl⟩
  · have d1 : decide (-2048 ≤ y) = false := decide_eq_false h
    have H : Hid (hgtOk y = false) := by show _ = _; unfold hgtOk; rw [d1]; rfl
    clear h
    go_enter Try.func145, Try.ntmps145
    go_wp2
    go_ret
    exact ⟨ret_bool H.out.symm, rfl⟩
theorem tri1_any (t : Tri3) (w : World) : Calls Try.prog 128 #[.agg (triC t).toArray] w fun e w' => e = .returned (.int .i64 t.id) ∧ w' = w.alloc (.cells (triC t).toArray 112) := by
  unfold triC
  go_enter Try.func128, Try.ntmps128
  go_wp2
  go_ret
  exact ⟨rfl, rfl⟩
theorem mul_small {a b : Int} (ha : -1000 ≤ a ∧ a ≤ 1000) (hb : -1000 ≤ b ∧ b ≤ 1000) : -1000000 ≤ a * b ∧ a * b ≤ 1000000 := by
  have h1 : (a * b).natAbs = a.natAbs * b.natAbs := Int.natAbs_mul a b
  have h2 : a.natAbs * b.natAbs ≤ 1000 * 1000 := Nat.mul_le_mul (by omega) (by omega)
  omega
theorem wrap_mul {a b : Int} (ha : -1000 ≤ a ∧ a ≤ 1000) (hb : -1000 ≤ b ∧ b ≤ 1000) : IntKind.i64.wrap (a * b) = a * b := by
  have := mul_small ha hb
  rw [IntKind.wrap_i64]
  omega
set_option maxRecDepth 100000 in
set_option maxHeartbeats 1000000 in
theorem cross_small (a b c d : Int) (w : World) (ha : -1000 ≤ a ∧ a ≤ 1000) (hb : -1000 ≤ b ∧ b ≤ 1000) (hc : -1000 ≤ c ∧ c ≤ 1000) (hd : -1000 ≤ d ∧ d ≤ 1000) :
    Calls Try.prog 131 #[.int .i64 a, .int .i64 b, .int .i64 c, .int .i64 d] w fun e w' => e = .returned (.tuple #[.int .i64 (a * d - b * c), .int .i64 0]) ∧ Below w.heap.size w w' := by
  have e1 := wrap_mul ha hd
  have e2 := wrap_mul hb hc
  have m1 := mul_small ha hd
  have m2 := mul_small hb hc
  have e3 : IntKind.i64.wrap (a * d - b * c) = a * d - b * c := by rw [IntKind.wrap_i64]; omega
  clear m1 m2
  obtain ⟨ha1, ha2⟩ := ha
  obtain ⟨hb1, hb2⟩ := hb
  obtain ⟨hc1, hc2⟩ := hc
  obtain ⟨hd1, hd2⟩ := hd
  go_enter Try.func131, Try.ntmps131
  go_wp2
  refine wp_loop_rounds 5 ?_
  rw [rounds_succ]
  go_wp2_with fail
  refine (in_in _ _ _ _ (by omega) (by omega)).mono ?_
  rintro e w1 ⟨rfl, rfl⟩
  go_wp2
  rw [rounds_succ]
  go_wp2_with fail
  refine (in_in _ _ _ _ (by omega) (by omega)).mono ?_
  rintro e w1 ⟨rfl, rfl⟩
  go_wp2
  rw [rounds_succ]
  go_wp2_with fail
  refine (in_in _ _ _ _ (by omega) (by omega)).mono ?_
  rintro e w1 ⟨rfl, rfl⟩
  go_wp2
  rw [rounds_succ]
  go_wp2_with fail
  refine (in_in _ _ _ _ (by omega) (by omega)).mono ?_
  rintro e w1 ⟨rfl, rfl⟩
  go_wp2
  rw [rounds_succ]
  go_wp2
  refine bodyPost_ret (v := .tuple #[.int .i64 (a * d - b * c), .int .i64 0]) (by simp [results, Try.results131, go_sem]) rfl ?_
  exact ⟨rfl, Below.refl _ _⟩

end Go.Proofs.Ytilhmlapbifbbaa
