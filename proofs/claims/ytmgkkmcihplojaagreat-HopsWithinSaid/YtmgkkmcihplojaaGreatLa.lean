/- Walks: triangles that may be. -/
import Derived.Test.YtmgkkmcihplojaaGreatGp
import Derived.Test.YtmgkkmcihplojaaGreatCfg
import Derived.Test.YtmgkkmcihplojaaGreatGa
import Derived.Test.YtmgkkmcihplojaaGreatGh
import Derived.Lib.SliceRun
import Derived.Laws.Rows
import Derived.Lib.QuietBelow
import Derived.Deep.DeepCutAuto
import Derived.Deep.CutRange
namespace Go.Proofs.YtmgkkmcihplojaaGreat
open Go.RowKit Go.Sort
attribute [local go_sem] Instr.index

theorem height_any (y : Int) (w : World) : Calls Tryz.prog 31 #[.int .i64 y] w fun e w' => e = .returned (.bool (hgtOk y)) ∧ w = w' := by
  by_cases h : -2048 ≤ y
  · have d1 : decide (-2048 ≤ y) = true := decide_eq_true h
    have H : Hid (hgtOk y = decide (y ≤ 2048)) := by show _ = _; unfold hgtOk; rw [d1]; rfl
    clear h
    go_enter Tryz.func31, Tryz.ntmps31
    go_wp2
    go_ret
    exact ⟨ret_bool H.out.symm, rfl⟩
  · have d1 : decide (-2048 ≤ y) = false := decide_eq_false h
    have H : Hid (hgtOk y = false) := by show _ = _; unfold hgtOk; rw [d1]; rfl
    clear h
    go_enter Tryz.func31, Tryz.ntmps31
    go_wp2
    go_ret
    exact ⟨ret_bool H.out.symm, rfl⟩
theorem tri1_any (t : Tri3) (w : World) : Calls Tryz.prog 66 #[.agg (triC t).toArray] w fun e w' => e = .returned (.int .i64 t.id) ∧ w' = w.alloc (.cells (triC t).toArray 122) := by
  unfold triC
  go_enter Tryz.func66, Tryz.ntmps66
  go_wp2
  go_ret
  exact ⟨rfl, rfl⟩
theorem mul_small {a b : Int} (ha : -1000 ≤ a ∧ a ≤ 1000) (hb : -1000 ≤ b ∧ b ≤ 1000) : -1000000 ≤ a * b ∧ a * b ≤ 1000000 := by
  have h1 : (a * b).natAbs = a.natAbs * b.natAbs := Int.natAbs_mul a b
  have h2 : a.natAbs * b.natAbs ≤ 1000 * 1000 := Nat.mul_le_mul (by omega) (by omega)
  omega
theorem wrap_mul {a b : Int} (ha : -1000 ≤ a ∧ a ≤ 1000) (hb : -1000 ≤ b ∧ b ≤ 1000) : IntKind.i64.wrap (a * b) = a * b := by
  have := mul_small ha hb
  rw [IntKind.wrap_i64]
  omega
set_option maxRecDepth 100000 in
set_option maxHeartbeats 1000000 in
theorem cross_small (a b c d : Int) (w : World) (ha : -1000 ≤ a ∧ a ≤ 1000) (hb : -1000 ≤ b ∧ b ≤ 1000) (hc : -1000 ≤ c ∧ c ≤ 1000) (hd : -1000 ≤ d ∧ d ≤ 1000) :
    Calls Tryz.prog 68 #[.int .i64 a, .int .i64 b, .int .i64 c, .int .i64 d] w fun e w' => e = .returned (.tuple #[.int .i64 (a * d - b * c), .int .i64 0]) ∧ Below w.heap.size w w' := by
  have e1 := wrap_mul ha hd
  have e2 := wrap_mul hb hc
  have m1 := mul_small ha hd
  have m2 := mul_small hb hc
  have e3 : IntKind.i64.wrap (a * d - b * c) = a * d - b * c := by rw [IntKind.wrap_i64]; omega
  clear m1 m2
  obtain ⟨ha1, ha2⟩ := ha
  obtain ⟨hb1, hb2⟩ := hb
  obtain ⟨hc1, hc2⟩ := hc
  obtain ⟨hd1, hd2⟩ := hd
  go_enter Tryz.func68, Tryz.ntmps68
  go_wp2
  refine wp_loop_rounds 5 ?_
  rw [rounds_succ]
  go_wp2_with fail
  refine (in_in _ _ _ _ (by omega) (by omega)).mono ?_
  rintro e w1 ⟨rfl, rfl⟩
  go_wp2
  rw [rounds_succ]
  go_wp2_with fail
  refine (in_in _ _ _ _ (by omega) (by omega)).mono ?_
  rintro e w1 ⟨rfl, rfl⟩
  go_wp2
  rw [rounds_succ]
  go_wp2_with fail
  refine (in_in _ _ _ _ (by omega) (by omega)).mono ?_
  rintro e w1 ⟨rfl, rfl⟩
  go_wp2
  rw [rounds_succ]
  go_wp2_with fail
  refine (in_in _ _ _ _ (by omega) (by omega)).mono ?_
  rintro e w1 ⟨rfl, rfl⟩
  go_wp2
  rw [rounds_succ]
  go_wp2
  refine bodyPost_ret (v := .tuple #[.int .i64 (a * d - b * c), .int .i64 0]) (by simp [results, Tryz.results68, go_sem]) rfl ?_
  exact ⟨rfl, Below.refl _ _⟩

end Go.Proofs.YtmgkkmcihplojaaGreat

namespace Go.Proofs.YtmgkkmcihplojaaGreat
open Go.RowKit Go.Sort
attribute [local go_sem] Instr.index

theorem vtx_no {w d : Int} {v : Vtx} (h : v.x < 0 ∨ w < v.x ∨ v.z < 0 ∨ d < v.z ∨ hgtOk v.y = false) : vtxOk w d v = false := by
  unfold vtxOk
  rcases h with h | h | h | h | h
  · rw [decide_eq_false (show ¬ 0 ≤ v.x by omega)]; rfl
  · rw [decide_eq_false (show ¬ v.x ≤ w by omega), Bool.and_false]; rfl
  · rw [decide_eq_false (show ¬ 0 ≤ v.z by omega), Bool.and_false]; rfl
  · rw [decide_eq_false (show ¬ v.z ≤ d by omega), Bool.and_false]; rfl
  · rw [h, Bool.and_false]
theorem vtx_yes {w d : Int} {v : Vtx} (h1 : ¬ v.x < 0) (h2 : ¬ w < v.x) (h3 : ¬ v.z < 0) (h4 : ¬ d < v.z) (h5 : hgtOk v.y = true) : vtxOk w d v = true := by
  unfold vtxOk
  rw [decide_eq_true (show 0 ≤ v.x by omega), decide_eq_true (show v.x ≤ w by omega), decide_eq_true (show 0 ≤ v.z by omega), decide_eq_true (show v.z ≤ d by omega), h5]
  rfl

set_option maxRecDepth 100000 in
set_option maxHeartbeats 8000000 in
theorem tri2_any (W D : Int) (t : Tri3) (Bw Bd : Nat) (w : World) (hw : w.cell? ⟨Bw, 0, none⟩ = some (.int .i64 W)) (hd : w.cell? ⟨Bd, 0, none⟩ = some (.int .i64 D)) (hW : 0 ≤ W ∧ W ≤ 32) (hD : 0 ≤ D ∧ D ≤ 32) :
    Calls Tryz.prog 67 #[.agg (triC t).toArray, .pointer (some ⟨Bw, 0, none⟩), .pointer (some ⟨Bd, 0, none⟩)] w fun e w' => e = .returned (.bool (triOk W D t)) ∧ Below w.heap.size w w' := by
  obtain ⟨id, ⟨x0, y0, z0⟩, ⟨x1, y1, z1⟩, ⟨x2, y2, z2⟩⟩ := t
  obtain ⟨hW0, hW1⟩ := hW
  obtain ⟨hD0, hD1⟩ := hD
  have hbw : Bw < w.heap.size := by have := World.block_lt_of_cell? w _ hw; simpa using this
  have hbd : Bd < w.heap.size := by have := World.block_lt_of_cell? w _ hd; simpa using this
  have past : ∀ (w' : World) (o : Obj) (b : Nat) (v : Value), w'.cell? ⟨b, 0, none⟩ = some v → (w'.alloc o).cell? ⟨b, 0, none⟩ = some v := fun w' o b v h => (World.cell?_alloc_past _ _ _ (World.block_lt_of_cell? w' _ h)).trans h
  have cw2 := fun o1 o2 => past _ o2 _ _ (past _ o1 _ _ hw)
  have cd2 := fun o1 o2 => past _ o2 _ _ (past _ o1 _ _ hd)
  have cw3 := fun o1 o2 o3 => past _ o3 _ _ (cw2 o1 o2)
  have cd3 := fun o1 o2 o3 => past _ o3 _ _ (cd2 o1 o2)
  have cw4 := fun o1 o2 o3 o4 => past _ o4 _ _ (cw3 o1 o2 o3)
  have cd4 := fun o1 o2 o3 o4 => past _ o4 _ _ (cd3 o1 o2 o3)
  clear past hw hd
  unfold triC
  go_enter Tryz.func67, Tryz.ntmps67
  go_wp2
  refine wp_loop_rounds 4 ?_
  rw [rounds_succ]
  by_cases h00 : x0 < 0
  · have d00 : decide (x0 < 0) = true := decide_eq_true h00
    have hv : vtxOk W D ⟨x0, y0, z0⟩ = false := vtx_no (.inl h00)
    have Ht : Hid (triOk W D ⟨id, ⟨x0, y0, z0⟩, ⟨x1, y1, z1⟩, ⟨x2, y2, z2⟩⟩ = false) := by show _ = _; unfold triOk; simp [hv]
    clear hv
    go_wp2
    go_ret
    exact ⟨ret_bool Ht.out.symm, (by (repeat (first | exact Below.refl _ _ | refine Below.alloc ?_ (by simp; try omega) _)))⟩
  have d00 : decide (x0 < 0) = false := decide_eq_false h00
  by_cases h01 : W < x0
  · have d01 : decide (W < x0) = true := decide_eq_true h01
    have hv : vtxOk W D ⟨x0, y0, z0⟩ = false := vtx_no (.inr (.inl h01))
    have Ht : Hid (triOk W D ⟨id, ⟨x0, y0, z0⟩, ⟨x1, y1, z1⟩, ⟨x2, y2, z2⟩⟩ = false) := by show _ = _; unfold triOk; simp [hv]
    clear hv
    go_wp2
    go_ret
    exact ⟨ret_bool Ht.out.symm, (by (repeat (first | exact Below.refl _ _ | refine Below.alloc ?_ (by simp; try omega) _)))⟩
  have d01 : decide (W < x0) = false := decide_eq_false h01
  by_cases h02 : z0 < 0
  · have d02 : decide (z0 < 0) = true := decide_eq_true h02
    have hv : vtxOk W D ⟨x0, y0, z0⟩ = false := vtx_no (.inr (.inr (.inl h02)))
    have Ht : Hid (triOk W D ⟨id, ⟨x0, y0, z0⟩, ⟨x1, y1, z1⟩, ⟨x2, y2, z2⟩⟩ = false) := by show _ = _; unfold triOk; simp [hv]
    clear hv
    go_wp2
    go_ret
    exact ⟨ret_bool Ht.out.symm, (by (repeat (first | exact Below.refl _ _ | refine Below.alloc ?_ (by simp; try omega) _)))⟩
  have d02 : decide (z0 < 0) = false := decide_eq_false h02
  by_cases h03 : D < z0
  · have d03 : decide (D < z0) = true := decide_eq_true h03
    have hv : vtxOk W D ⟨x0, y0, z0⟩ = false := vtx_no (.inr (.inr (.inr (.inl h03))))
    have Ht : Hid (triOk W D ⟨id, ⟨x0, y0, z0⟩, ⟨x1, y1, z1⟩, ⟨x2, y2, z2⟩⟩ = false) := by show _ = _; unfold triOk; simp [hv]
    clear hv
    go_wp2
    go_ret
    exact ⟨ret_bool Ht.out.symm, (by (repeat (first | exact Below.refl _ _ | refine Below.alloc ?_ (by simp; try omega) _)))⟩
  have d03 : decide (D < z0) = false := decide_eq_false h03
  cases hh0 : hgtOk y0 with
  | false =>
    have hv : vtxOk W D ⟨x0, y0, z0⟩ = false := vtx_no (.inr (.inr (.inr (.inr hh0))))
    have Ht : Hid (triOk W D ⟨id, ⟨x0, y0, z0⟩, ⟨x1, y1, z1⟩, ⟨x2, y2, z2⟩⟩ = false) := by show _ = _; unfold triOk; simp [hv]
    have Hh := Lib.hid hh0
    clear hv hh0
    go_wp2_with fail
    refine (height_any _ _).mono ?_
    rw [Hh.out]
    rintro e w9 ⟨rfl, rfl⟩
    go_wp2
    go_ret
    exact ⟨ret_bool Ht.out.symm, (by (repeat (first | exact Below.refl _ _ | refine Below.alloc ?_ (by simp; try omega) _)))⟩
  | true =>
  have vy0 : Hid (vtxOk W D ⟨x0, y0, z0⟩ = true) := vtx_yes h00 h01 h02 h03 hh0
  have Hh0 := Lib.hid hh0
  clear hh0
  go_wp2_with fail
  refine (height_any _ _).mono ?_
  rw [Hh0.out]
  rintro e w9 ⟨rfl, rfl⟩
  go_wp2
  rw [rounds_succ]
  by_cases h10 : x1 < 0
  · have d10 : decide (x1 < 0) = true := decide_eq_true h10
    have hv : vtxOk W D ⟨x1, y1, z1⟩ = false := vtx_no (.inl h10)
    have Ht : Hid (triOk W D ⟨id, ⟨x0, y0, z0⟩, ⟨x1, y1, z1⟩, ⟨x2, y2, z2⟩⟩ = false) := by show _ = _; unfold triOk; simp [hv]
    clear hv
    go_wp2
    go_ret
    exact ⟨ret_bool Ht.out.symm, (by (repeat (first | exact Below.refl _ _ | refine Below.alloc ?_ (by simp; try omega) _)))⟩
  have d10 : decide (x1 < 0) = false := decide_eq_false h10
  by_cases h11 : W < x1
  · have d11 : decide (W < x1) = true := decide_eq_true h11
    have hv : vtxOk W D ⟨x1, y1, z1⟩ = false := vtx_no (.inr (.inl h11))
    have Ht : Hid (triOk W D ⟨id, ⟨x0, y0, z0⟩, ⟨x1, y1, z1⟩, ⟨x2, y2, z2⟩⟩ = false) := by show _ = _; unfold triOk; simp [hv]
    clear hv
    go_wp2
    go_ret
    exact ⟨ret_bool Ht.out.symm, (by (repeat (first | exact Below.refl _ _ | refine Below.alloc ?_ (by simp; try omega) _)))⟩
  have d11 : decide (W < x1) = false := decide_eq_false h11
  by_cases h12 : z1 < 0
  · have d12 : decide (z1 < 0) = true := decide_eq_true h12
    have hv : vtxOk W D ⟨x1, y1, z1⟩ = false := vtx_no (.inr (.inr (.inl h12)))
    have Ht : Hid (triOk W D ⟨id, ⟨x0, y0, z0⟩, ⟨x1, y1, z1⟩, ⟨x2, y2, z2⟩⟩ = false) := by show _ = _; unfold triOk; simp [hv]
    clear hv
    go_wp2
    go_ret
    exact ⟨ret_bool Ht.out.symm, (by (repeat (first | exact Below.refl _ _ | refine Below.alloc ?_ (by simp; try omega) _)))⟩
  have d12 : decide (z1 < 0) = false := decide_eq_false h12
  by_cases h13 : D < z1
  · have d13 : decide (D < z1) = true := decide_eq_true h13
    have hv : vtxOk W D ⟨x1, y1, z1⟩ = false := vtx_no (.inr (.inr (.inr (.inl h13))))
    have Ht : Hid (triOk W D ⟨id, ⟨x0, y0, z0⟩, ⟨x1, y1, z1⟩, ⟨x2, y2, z2⟩⟩ = false) := by show _ = _; unfold triOk; simp [hv]
    clear hv
    go_wp2
    go_ret
    exact ⟨ret_bool Ht.out.symm, (by (repeat (first | exact Below.refl _ _ | refine Below.alloc ?_ (by simp; try omega) _)))⟩
  have d13 : decide (D < z1) = false := decide_eq_false h13
  cases hh1 : hgtOk y1 with
  | false =>
    have hv : vtxOk W D ⟨x1, y1, z1⟩ = false := vtx_no (.inr (.inr (.inr (.inr hh1))))
    have Ht : Hid (triOk W D ⟨id, ⟨x0, y0, z0⟩, ⟨x1, y1, z1⟩, ⟨x2, y2, z2⟩⟩ = false) := by show _ = _; unfold triOk; simp [hv]
    have Hh := Lib.hid hh1
    clear hv hh1
    go_wp2_with fail
    refine (height_any _ _).mono ?_
    rw [Hh.out]
    rintro e w9 ⟨rfl, rfl⟩
    go_wp2
    go_ret
    exact ⟨ret_bool Ht.out.symm, (by (repeat (first | exact Below.refl _ _ | refine Below.alloc ?_ (by simp; try omega) _)))⟩
  | true =>
  have vy1 : Hid (vtxOk W D ⟨x1, y1, z1⟩ = true) := vtx_yes h10 h11 h12 h13 hh1
  have Hh1 := Lib.hid hh1
  clear hh1
  go_wp2_with fail
  refine (height_any _ _).mono ?_
  rw [Hh1.out]
  rintro e w9 ⟨rfl, rfl⟩
  go_wp2
  rw [rounds_succ]
  by_cases h20 : x2 < 0
  · have d20 : decide (x2 < 0) = true := decide_eq_true h20
    have hv : vtxOk W D ⟨x2, y2, z2⟩ = false := vtx_no (.inl h20)
    have Ht : Hid (triOk W D ⟨id, ⟨x0, y0, z0⟩, ⟨x1, y1, z1⟩, ⟨x2, y2, z2⟩⟩ = false) := by show _ = _; unfold triOk; simp [hv]
    clear hv
    go_wp2
    go_ret
    exact ⟨ret_bool Ht.out.symm, (by (repeat (first | exact Below.refl _ _ | refine Below.alloc ?_ (by simp; try omega) _)))⟩
  have d20 : decide (x2 < 0) = false := decide_eq_false h20
  by_cases h21 : W < x2
  · have d21 : decide (W < x2) = true := decide_eq_true h21
    have hv : vtxOk W D ⟨x2, y2, z2⟩ = false := vtx_no (.inr (.inl h21))
    have Ht : Hid (triOk W D ⟨id, ⟨x0, y0, z0⟩, ⟨x1, y1, z1⟩, ⟨x2, y2, z2⟩⟩ = false) := by show _ = _; unfold triOk; simp [hv]
    clear hv
    go_wp2
    go_ret
    exact ⟨ret_bool Ht.out.symm, (by (repeat (first | exact Below.refl _ _ | refine Below.alloc ?_ (by simp; try omega) _)))⟩
  have d21 : decide (W < x2) = false := decide_eq_false h21
  by_cases h22 : z2 < 0
  · have d22 : decide (z2 < 0) = true := decide_eq_true h22
    have hv : vtxOk W D ⟨x2, y2, z2⟩ = false := vtx_no (.inr (.inr (.inl h22)))
    have Ht : Hid (triOk W D ⟨id, ⟨x0, y0, z0⟩, ⟨x1, y1, z1⟩, ⟨x2, y2, z2⟩⟩ = false) := by show _ = _; unfold triOk; simp [hv]
    clear hv
    go_wp2
    go_ret
    exact ⟨ret_bool Ht.out.symm, (by (repeat (first | exact Below.refl _ _ | refine Below.alloc ?_ (by simp; try omega) _)))⟩
  have d22 : decide (z2 < 0) = false := decide_eq_false h22
  by_cases h23 : D < z2
  · have d23 : decide (D < z2) = true := decide_eq_true h23
    have hv : vtxOk W D ⟨x2, y2, z2⟩ = false := vtx_no (.inr (.inr (.inr (.inl h23))))
    have Ht : Hid (triOk W D ⟨id, ⟨x0, y0, z0⟩, ⟨x1, y1, z1⟩, ⟨x2, y2, z2⟩⟩ = false) := by show _ = _; unfold triOk; simp [hv]
    clear hv
    go_wp2
    go_ret
    exact ⟨ret_bool Ht.out.symm, (by (repeat (first | exact Below.refl _ _ | refine Below.alloc ?_ (by simp; try omega) _)))⟩
  have d23 : decide (D < z2) = false := decide_eq_false h23
  cases hh2 : hgtOk y2 with
  | false =>
    have hv : vtxOk W D ⟨x2, y2, z2⟩ = false := vtx_no (.inr (.inr (.inr (.inr hh2))))
    have Ht : Hid (triOk W D ⟨id, ⟨x0, y0, z0⟩, ⟨x1, y1, z1⟩, ⟨x2, y2, z2⟩⟩ = false) := by show _ = _; unfold triOk; simp [hv]
    have Hh := Lib.hid hh2
    clear hv hh2
    go_wp2_with fail
    refine (height_any _ _).mono ?_
    rw [Hh.out]
    rintro e w9 ⟨rfl, rfl⟩
    go_wp2
    go_ret
    exact ⟨ret_bool Ht.out.symm, (by (repeat (first | exact Below.refl _ _ | refine Below.alloc ?_ (by simp; try omega) _)))⟩
  | true =>
  have vy2 : Hid (vtxOk W D ⟨x2, y2, z2⟩ = true) := vtx_yes h20 h21 h22 h23 hh2
  have Hh2 := Lib.hid hh2
  clear hh2
  go_wp2_with fail
  refine (height_any _ _).mono ?_
  rw [Hh2.out]
  rintro e w9 ⟨rfl, rfl⟩
  go_wp2
  rw [rounds_succ]
  go_wp2_with fail
  refine (cross_small (x1 - x0) (z1 - z0) (x2 - x0) (z2 - z0) _ (by omega) (by omega) (by omega) (by omega)).mono ?_
  rintro e w3 ⟨rfl, hb3⟩
  have hb0 : Below w.heap.size w w3 := by refine Below.trans ?_ (hb3.mono (by simp; omega)); (repeat (first | exact Below.refl _ _ | refine Below.alloc ?_ (by simp; try omega) _))
  have Ht : Hid (triOk W D ⟨id, ⟨x0, y0, z0⟩, ⟨x1, y1, z1⟩, ⟨x2, y2, z2⟩⟩ = ((x1 - x0) * (z2 - z0) - (z1 - z0) * (x2 - x0) != 0)) := by show _ = _; unfold triOk; rw [vy0.out, vy1.out, vy2.out]; rfl
  obtain ⟨F, hF⟩ : ∃ F, F = (x1 - x0) * (z2 - z0) - (z1 - z0) * (x2 - x0) := ⟨_, rfl⟩
  rw [← hF] at Ht ⊢
  clear hF hb3
  go_wp2
  go_ret
  exact ⟨ret_bool Ht.out.symm, hb0⟩

end Go.Proofs.YtmgkkmcihplojaaGreat

namespace Go.Proofs.YtmgkkmcihplojaaGreat
open Go.RowKit Go.Sort

@[local go_sem] theorem run_store_func (P : Program) (w : World) (a : Addr) (f : Fn) (x y : Array Value) (m : Mode) :
    (store a (.func f x y) m).run P w = match w.cell? a with
      | some _ => if w.frozen? a then .halt (.unsupported (.unsafePointer "a write to bytes that a string shares")) w else .ok () (w.setCell a (.func f x y))
      | none => match w.farStore P a (.func f x y) (m == .atomic) with
        | .ok (w', _) => .ok () w'
        | .error h => .halt h w := run_store P w a _ m rfl

/-- The list of what is asked of triangles: a value. -/
def trisV (Bw Bd : Nat) : List Value := [.func (.func 66) #[] #[], .func (.func 67) #[] #[.pointer (some ⟨Bw, 0, none⟩), .pointer (some ⟨Bd, 0, none⟩)], .int .i64 200, .int .i64 40]

set_option maxRecDepth 100000 in
set_option maxHeartbeats 1000000 in
theorem tris_any (W D : Int) (w : World) : Calls Tryz.prog 48 #[.int .i64 W, .int .i64 D] w fun e w' => e = .returned (.agg (trisV w.heap.size (w.heap.size + 1)).toArray) ∧ w'.cell? ⟨w.heap.size, 0, none⟩ = some (.int .i64 W) ∧ w'.cell? ⟨w.heap.size + 1, 0, none⟩ = some (.int .i64 D) ∧ Below w.heap.size w w' := by
  unfold trisV
  go_enter Tryz.func48, Tryz.ntmps48
  go_wp2
  refine bodyPost_ret (v := .agg #[.func (.func 66) #[] #[], .func (.func 67) #[] #[.pointer (some ⟨w.heap.size, 0, none⟩), .pointer (some ⟨w.heap.size + 1, 0, none⟩)], .int .i64 200, .int .i64 40]) (by simp [results, Tryz.results48, go_sem]) rfl ?_
  refine ⟨rfl, ?_, ?_, (((Below.refl _ _).alloc (Nat.le_refl _) _).alloc (by simp) _).alloc (by simp; omega) _⟩
  · exact (((Boxed.new w 3 (.int .i64 W)).alloc _).alloc _).cell
  · have := ((Boxed.new (w.alloc (.cells #[.int .i64 W] 3)) 3 (.int .i64 D)).alloc (.cells #[.func (.func 66) #[] #[], .func (.func 67) #[] #[.pointer (some ⟨w.heap.size, 0, none⟩), .pointer (some ⟨w.heap.size + 1, 0, none⟩)], .int .i64 200, .int .i64 40] 115)).cell
    simpa using this

set_option maxRecDepth 100000 in
set_option maxHeartbeats 2000000 in
theorem one_tri (W D : Int) (t : Tri3) (Bw Bd : Nat) (w : World) (hw : w.cell? ⟨Bw, 0, none⟩ = some (.int .i64 W)) (hd : w.cell? ⟨Bd, 0, none⟩ = some (.int .i64 D)) (hW : 0 ≤ W ∧ W ≤ 32) (hD : 0 ≤ D ∧ D ≤ 32) :
    Calls Tryz.prog 69 #[.agg (trisV Bw Bd).toArray, .agg (triC t).toArray] w fun e w' => e = .returned (.bool (idOk t.id && triOk W D t)) ∧ Below w.heap.size w w' := by
  have past : ∀ (w' : World) (o : Obj) (b : Nat) (v : Value), w'.cell? ⟨b, 0, none⟩ = some v → (w'.alloc o).cell? ⟨b, 0, none⟩ = some v := fun w' o b v h => (World.cell?_alloc_past _ _ _ (World.block_lt_of_cell? w' _ h)).trans h
  have cw4 := fun o1 o2 o3 o4 => past _ o4 _ _ (past _ o3 _ _ (past _ o2 _ _ (past _ o1 _ _ hw)))
  have cd4 := fun o1 o2 o3 o4 => past _ o4 _ _ (past _ o3 _ _ (past _ o2 _ _ (past _ o1 _ _ hd)))
  have Hc := fun (w' : World) h1 h2 => tri2_any W D t Bw Bd w' h1 h2 hW hD
  have HT1 := fun (w' : World) => tri1_any t w'
  obtain ⟨id, ⟨x0, y0, z0⟩, ⟨x1, y1, z1⟩, ⟨x2, y2, z2⟩⟩ := t
  have Hc := Lib.hid Hc
  have HT1 := Lib.hid HT1
  have Cw4 := Lib.hid cw4
  have Cd4 := Lib.hid cd4
  clear past hw hd cw4 cd4
  unfold trisV
  unfold triC
  by_cases h1 : 1 ≤ id
  · have d1 : decide (1 ≤ id) = true := decide_eq_true h1
    by_cases h2 : id ≤ 1073741824
    · have d2 : decide (id ≤ 1073741824) = true := decide_eq_true h2
      have Hi : Hid (idOk id = true) := by show _ = _; unfold idOk; rw [d1, d2]; rfl
      clear h1 h2
      go_enter Tryz.func69, Tryz.ntmps69
      go_wp2_with fail
      refine (HT1.out _).mono ?_
      rintro e w1 ⟨rfl, rfl⟩
      go_wp2_with fail
      refine (HT1.out _).mono ?_
      rintro e w1 ⟨rfl, rfl⟩
      go_wp2_with fail
      refine (Hc.out _ (Cw4.out _ _ _ _) (Cd4.out _ _ _ _)).mono ?_
      rintro e w3 ⟨rfl, hb3⟩
      have hb0 : Below w.heap.size w w3 := by refine Below.trans ?_ (hb3.mono (by simp; omega)); (repeat (first | exact Below.refl _ _ | refine Below.alloc ?_ (by simp; try omega) _))
      clear hb3
      go_wp2
      go_ret
      exact ⟨ret_bool (by rw [Hi.out]; rfl), hb0⟩
    · have d2 : decide (id ≤ 1073741824) = false := decide_eq_false h2
      have Hi : Hid (idOk id = false) := by show _ = _; unfold idOk; rw [d1, d2]; rfl
      clear h1 h2
      go_enter Tryz.func69, Tryz.ntmps69
      go_wp2_with fail
      refine (HT1.out _).mono ?_
      rintro e w1 ⟨rfl, rfl⟩
      go_wp2_with fail
      refine (HT1.out _).mono ?_
      rintro e w1 ⟨rfl, rfl⟩
      go_wp2
      go_ret
      exact ⟨ret_bool (by rw [Hi.out]; rfl), by (repeat (first | exact Below.refl _ _ | refine Below.alloc ?_ (by simp; try omega) _))⟩
  · have d1 : decide (1 ≤ id) = false := decide_eq_false h1
    have Hi : Hid (idOk id = false) := by show _ = _; unfold idOk; rw [d1]; rfl
    clear h1
    go_enter Tryz.func69, Tryz.ntmps69
    go_wp2_with fail
    refine (HT1.out _).mono ?_
    rintro e w1 ⟨rfl, rfl⟩
    go_wp2
    go_ret
    exact ⟨ret_bool (by rw [Hi.out]; rfl), by (repeat (first | exact Below.refl _ _ | refine Below.alloc ?_ (by simp; try omega) _))⟩

end Go.Proofs.YtmgkkmcihplojaaGreat

namespace Go.Proofs.YtmgkkmcihplojaaGreat
open Go.RowKit Go.Sort
attribute [local go_sem] run_store_func

theorem cellB' {w w' : World} {p : Addr} {v : Value} (hb : Below w.heap.size w w') (h : w.cell? p = some v) : w'.cell? p = some v :=
  (hb.cell (World.block_lt_of_cell? w _ h)).trans h
theorem rowOk_drop {α : Type} {id : α → Int} {ok : α → Bool} {last : Int} {xs : List α} {k : Nat} {x : α} (hx : xs[k]? = some x) : rowOk id ok last (xs.drop k) = (idOk (id x) && ok x && decide (last < id x) && rowOk id ok (id x) (xs.drop (k + 1))) := by
  have hk := (List.getElem?_eq_some_iff.1 hx).1
  rw [List.drop_eq_getElem_cons hk, (List.getElem?_eq_some_iff.1 hx).2]
  rfl

set_option maxRecDepth 100000 in
set_option maxHeartbeats 4000000 in
theorem check_tri (W D : Int) (a : Option Addr) (n c : Nat) (xs : List Tri3) (Bw Bd : Nat) (w : World) (hx : SlR triC 10 w a n c xs) (hw : w.cell? ⟨Bw, 0, none⟩ = some (.int .i64 W)) (hd : w.cell? ⟨Bd, 0, none⟩ = some (.int .i64 D)) (hW : 0 ≤ W ∧ W ≤ 32) (hD : 0 ≤ D ∧ D ≤ 32) :
    Calls Tryz.prog 49 #[.agg (trisV Bw Bd).toArray, .slice a n c] w fun e w' => e = .returned (.bool (decide (n ≤ 200) && rowOk Tri3.id (triOk W D) 0 xs)) ∧ Below w.heap.size w w' := by
  have hmax := hx.max
  have hle := hx.le
  have Hl := Lib.hid hx.len
  have Hx := Lib.hid hx
  have Hw := Lib.hid hw
  have Hd := Lib.hid hd
  clear hx hw hd
  unfold trisV
  by_cases hn : n ≤ 200
  · have hnI : ¬ (200 : Int) < (n : Int) := by omega
    have hnJ : decide ((200 : Int) < (n : Int)) = false := decide_eq_false hnI
    have hnK : decide (200 < n) = false := decide_eq_false (by omega)
    have Hn : Hid (decide (n ≤ 200) = true) := decide_eq_true hn
    go_enter Tryz.func49, Tryz.ntmps49
    go_wp2
    have hLo : (w.alloc (.cells #[.func (.func 66) #[] #[], .func (.func 67) #[] #[.pointer (some ⟨Bw, 0, none⟩), .pointer (some ⟨Bd, 0, none⟩)], .int .i64 200, .int .i64 40] 115)).heap[w.heap.size]? = some (.cells #[.func (.func 66) #[] #[], .func (.func 67) #[] #[.pointer (some ⟨Bw, 0, none⟩), .pointer (some ⟨Bd, 0, none⟩)], .int .i64 200, .int .i64 40] 115 (0, 0)) := World.alloc_heap_new _ _
    have hB0 : Below w.heap.size w (w.alloc (.cells #[.func (.func 66) #[] #[], .func (.func 67) #[] #[.pointer (some ⟨Bw, 0, none⟩), .pointer (some ⟨Bd, 0, none⟩)], .int .i64 200, .int .i64 40] 115)) := (Below.refl _ _).alloc (Nat.le_refl _) _
    obtain ⟨V, hV⟩ : ∃ V, V = (w.alloc (.cells #[.func (.func 66) #[] #[], .func (.func 67) #[] #[.pointer (some ⟨Bw, 0, none⟩), .pointer (some ⟨Bd, 0, none⟩)], .int .i64 200, .int .i64 40] 115)) := ⟨_, rfl⟩
    rw [← hV] at hLo hB0 ⊢
    have hVs : V.heap.size = w.heap.size + 1 := by rw [hV]; simp
    clear hV
    go_loopw [5, 15] (fun x y wr => ∃ (k : Nat) (last : Int), x = .int .i64 last ∧ y = .int .i64 k ∧ k ≤ n ∧ Hid (rowOk Tri3.id (triOk W D) 0 xs = rowOk Tri3.id (triOk W D) last (xs.drop k)) ∧ Below V.heap.size V wr) (fun _ y _ => n - (intOf y).toNat)
    case atStart => exact ⟨0, 0, rfl, rfl, Nat.zero_le _, rfl, Below.refl _ _⟩
    case round =>
      obtain ⟨k, last, rfl, rfl, hk, HR, hbr⟩ := hrel
      obtain ⟨wj, rfl⟩ : ∃ wj : World, wj = wr := ⟨_, rfl⟩
      have hbw := hB0.trans (hbr.mono hB0.size)
      have hbws := hbw.size
      have hVj := hbr.size
      rw [hVs] at hVj
      by_cases hlt : k < n
      · have hltI : (k : Int) < (n : Int) := by omega
        obtain ⟨t, ht⟩ : ∃ t, xs[k]? = some t := ⟨_, List.getElem?_eq_getElem (by rw [Hl.out]; exact hlt)⟩
        obtain ⟨b, off, rfl, _, hcell⟩ := (Hx.out.below hbw (Nat.le_refl _)).at0 (by omega)
        have ct := hcell k t ht
        have c0 := ct 0 _ rfl
        have c1 := ct 1 _ rfl
        have c2 := ct 2 _ rfl
        have c3 := ct 3 _ rfl
        have c4 := ct 4 _ rfl
        have c5 := ct 5 _ rfl
        have c6 := ct 6 _ rfl
        have c7 := ct 7 _ rfl
        have c8 := ct 8 _ rfl
        have c9 := ct 9 _ rfl
        simp only [Nat.add_zero] at c0
        have hL := (hbr.block w.heap.size (by omega)).trans hLo
        have hL1 := fun o : Obj => (Below.heap_alloc wj o w.heap.size (by omega)).trans hL
        have l0 := fun o : Obj => (show (wj.alloc o).cell? ⟨w.heap.size, 0, none⟩ = some (.func (.func 66) #[] #[]) by simp [World.cell?, hL1 o])
        have l1 := fun o : Obj => (show (wj.alloc o).cell? ⟨w.heap.size, 1, none⟩ = some (.func (.func 67) #[] #[.pointer (some ⟨Bw, 0, none⟩), .pointer (some ⟨Bd, 0, none⟩)]) by simp [World.cell?, hL1 o])
        have l2 := fun o : Obj => (show (wj.alloc o).cell? ⟨w.heap.size, 2, none⟩ = some (.int .i64 200) by simp [World.cell?, hL1 o])
        have l3 := fun o : Obj => (show (wj.alloc o).cell? ⟨w.heap.size, 3, none⟩ = some (.int .i64 40) by simp [World.cell?, hL1 o])
        have Hstep := Lib.hid (rowOk_drop (id := Tri3.id) (ok := triOk W D) (last := last) ht)
        have Hone := Lib.hid (fun (w' : World) h1 h2 => one_tri W D t Bw Bd w' h1 h2 hW hD)
        have HT1 := Lib.hid (fun w' : World => tri1_any t w')
        have hwj := cellB' hbw Hw.out
        have hdj := cellB' hbw Hd.out
        have Hwj := Lib.hid (fun o : Obj => (World.cell?_alloc_past o _ _ (World.block_lt_of_cell? wj _ hwj)).trans hwj)
        have Hdj := Lib.hid (fun o : Obj => (World.cell?_alloc_past o _ _ (World.block_lt_of_cell? wj _ hdj)).trans hdj)
        have HL1 := Lib.hid hL1
        clear ct hcell hL ht hwj hdj hL1
        go_wp2_with fail
        refine (Hone.out _ (Hwj.out _) (Hdj.out _)).mono ?_
        rintro e W2 ⟨rfl, hb2⟩
        have hb2w : Below V.heap.size V W2 := hbr.trans (((Below.refl _ wj).alloc (Nat.le_refl _) _ |>.trans (hb2.mono (by simp))).mono hbr.size)
        have hs2 := hb2.size
        simp only [World.size_alloc] at hs2
        have hL2 : W2.heap[w.heap.size]? = some (.cells #[.func (.func 66) #[] #[], .func (.func 67) #[] #[.pointer (some ⟨Bw, 0, none⟩), .pointer (some ⟨Bd, 0, none⟩)], .int .i64 200, .int .i64 40] 115 (0, 0)) := (hb2.block w.heap.size (by simp; omega)).trans (HL1.out _)
        have hT2 : W2.heap[wj.heap.size]? = some (.cells #[.int .i64 t.id, .int .i64 t.v0.x, .int .i64 t.v0.y, .int .i64 t.v0.z, .int .i64 t.v1.x, .int .i64 t.v1.y, .int .i64 t.v1.z, .int .i64 t.v2.x, .int .i64 t.v2.y, .int .i64 t.v2.z] 122 (0, 0)) := (hb2.block wj.heap.size (by simp)).trans (World.alloc_heap_new _ _)
        clear l0 l1 l2 l3 c0 c1 c2 c3 c4 c5 c6 c7 c8 c9 hb2
        have hL3 := fun o : Obj => (Below.heap_alloc W2 o w.heap.size (by omega)).trans hL2
        have hT3 := fun o : Obj => (Below.heap_alloc W2 o wj.heap.size (by omega)).trans hT2
        have m0 : W2.cell? ⟨w.heap.size, 0, none⟩ = some (.func (.func 66) #[] #[]) := by simp [World.cell?, hL2]
        have n0 := fun o : Obj => (show (W2.alloc o).cell? ⟨w.heap.size, 0, none⟩ = some (.func (.func 66) #[] #[]) by simp [World.cell?, hL3 o])
        have p0 : W2.cell? ⟨wj.heap.size, 0, none⟩ = some (.int .i64 t.id) := by simp [World.cell?, hT2]
        have q0 := fun o : Obj => (show (W2.alloc o).cell? ⟨wj.heap.size, 0, none⟩ = some (.int .i64 t.id) by simp [World.cell?, hT3 o])
        have p1 : W2.cell? ⟨wj.heap.size, 1, none⟩ = some (.int .i64 t.v0.x) := by simp [World.cell?, hT2]
        have q1 := fun o : Obj => (show (W2.alloc o).cell? ⟨wj.heap.size, 1, none⟩ = some (.int .i64 t.v0.x) by simp [World.cell?, hT3 o])
        have p2 : W2.cell? ⟨wj.heap.size, 2, none⟩ = some (.int .i64 t.v0.y) := by simp [World.cell?, hT2]
        have q2 := fun o : Obj => (show (W2.alloc o).cell? ⟨wj.heap.size, 2, none⟩ = some (.int .i64 t.v0.y) by simp [World.cell?, hT3 o])
        have p3 : W2.cell? ⟨wj.heap.size, 3, none⟩ = some (.int .i64 t.v0.z) := by simp [World.cell?, hT2]
        have q3 := fun o : Obj => (show (W2.alloc o).cell? ⟨wj.heap.size, 3, none⟩ = some (.int .i64 t.v0.z) by simp [World.cell?, hT3 o])
        have p4 : W2.cell? ⟨wj.heap.size, 4, none⟩ = some (.int .i64 t.v1.x) := by simp [World.cell?, hT2]
        have q4 := fun o : Obj => (show (W2.alloc o).cell? ⟨wj.heap.size, 4, none⟩ = some (.int .i64 t.v1.x) by simp [World.cell?, hT3 o])
        have p5 : W2.cell? ⟨wj.heap.size, 5, none⟩ = some (.int .i64 t.v1.y) := by simp [World.cell?, hT2]
        have q5 := fun o : Obj => (show (W2.alloc o).cell? ⟨wj.heap.size, 5, none⟩ = some (.int .i64 t.v1.y) by simp [World.cell?, hT3 o])
        have p6 : W2.cell? ⟨wj.heap.size, 6, none⟩ = some (.int .i64 t.v1.z) := by simp [World.cell?, hT2]
        have q6 := fun o : Obj => (show (W2.alloc o).cell? ⟨wj.heap.size, 6, none⟩ = some (.int .i64 t.v1.z) by simp [World.cell?, hT3 o])
        have p7 : W2.cell? ⟨wj.heap.size, 7, none⟩ = some (.int .i64 t.v2.x) := by simp [World.cell?, hT2]
        have q7 := fun o : Obj => (show (W2.alloc o).cell? ⟨wj.heap.size, 7, none⟩ = some (.int .i64 t.v2.x) by simp [World.cell?, hT3 o])
        have p8 : W2.cell? ⟨wj.heap.size, 8, none⟩ = some (.int .i64 t.v2.y) := by simp [World.cell?, hT2]
        have q8 := fun o : Obj => (show (W2.alloc o).cell? ⟨wj.heap.size, 8, none⟩ = some (.int .i64 t.v2.y) by simp [World.cell?, hT3 o])
        have p9 : W2.cell? ⟨wj.heap.size, 9, none⟩ = some (.int .i64 t.v2.z) := by simp [World.cell?, hT2]
        have q9 := fun o : Obj => (show (W2.alloc o).cell? ⟨wj.heap.size, 9, none⟩ = some (.int .i64 t.v2.z) by simp [World.cell?, hT3 o])
        clear hL2 hT2 hL3 hT3
        obtain ⟨r, hr⟩ : ∃ r, r = (idOk t.id && triOk W D t) := ⟨_, rfl⟩
        rw [← hr] at Hstep ⊢
        have hB2 := hB0.trans (hb2w.mono hB0.size)
        clear hr
        cases r with
        | false =>
          have hno : Hid (rowOk Tri3.id (triOk W D) 0 xs = false) := by show _ = _; rw [HR.out, Hstep.out]; rfl
          go_wp2
          go_ret
          exact ⟨ret_bool (by first | exact hno.out.symm | rw [hno.out, Bool.and_false]), hB2⟩
        | true =>
          by_cases hid : t.id ≤ last
          · have dl : decide (t.id ≤ last) = true := decide_eq_true hid
            have hno : Hid (rowOk Tri3.id (triOk W D) 0 xs = false) := by show _ = _; rw [HR.out, Hstep.out, decide_eq_false (show ¬ last < t.id by omega)]; rfl
            clear hid
            go_wp2_with fail
            refine (HT1.out _).mono ?_
            rintro e w9 ⟨rfl, rfl⟩
            go_wp2
            go_ret
            exact ⟨ret_bool (by first | exact hno.out.symm | rw [hno.out, Bool.and_false]), hB2.alloc hB2.size _⟩
          · have dl : decide (t.id ≤ last) = false := decide_eq_false hid
            have hyes : Hid (rowOk Tri3.id (triOk W D) 0 xs = rowOk Tri3.id (triOk W D) t.id (xs.drop (k + 1))) := by show _ = _; rw [HR.out, Hstep.out, decide_eq_true (show last < t.id by omega)]; rfl
            clear hid
            go_wp2_with fail
            refine (HT1.out _).mono ?_
            rintro e w9 ⟨rfl, rfl⟩
            go_wp2_with fail
            refine (HT1.out _).mono ?_
            rintro e w9 ⟨rfl, rfl⟩
            have hb4 := (hb2w.alloc hb2w.size (.cells (triC t).toArray 122)).alloc (by have := hb2w.size; simp; omega) (.cells (triC t).toArray 122)
            go_wp2
            go_roundw
            case rel => exact ⟨k + 1, t.id, rfl, by go_num, by omega, hyes, hb4⟩
            case measure => simp [intOf]; omega
      · obtain rfl : n = k := by omega
        have hltn : ¬ (n : Int) < (n : Int) := by omega
        have hall : Hid (rowOk Tri3.id (triOk W D) 0 xs = true) := by show _ = _; rw [HR.out, List.drop_of_length_le (by rw [Hl.out]; exact Nat.le_refl _)]; rfl
        go_wp2
        go_ret
        exact ⟨ret_bool (by first | exact hall.out.symm | (rw [Hn.out, hall.out]; rfl)), hbw⟩
  · have hnJ : decide ((200 : Int) < (n : Int)) = true := decide_eq_true (by omega)
    have hnK : decide (200 < n) = true := decide_eq_true (by omega)
    have Hn : Hid (decide (n ≤ 200) = false) := decide_eq_false hn
    clear hn
    go_enter Tryz.func49, Tryz.ntmps49
    go_wp2
    go_ret
    exact ⟨ret_bool (by rw [Hn.out]; rfl), (Below.refl _ _).alloc (Nat.le_refl _) _⟩

end Go.Proofs.YtmgkkmcihplojaaGreat
