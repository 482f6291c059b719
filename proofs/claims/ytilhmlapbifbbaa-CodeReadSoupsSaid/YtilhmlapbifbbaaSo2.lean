/- Walks: may a triangle be? -/
import Derived.Test.YtilhmlapbifbbaaSoT
namespace Go.Proofs.Ytilhmlapbifbbaa
open Go.RowKit Go.Sort
attribute [local go_sem] Instr.index

theorem vtx_no {w d : Int} {v : Vtx} (h : v.x < 0 ∨ w < v.x ∨ v.z < 0 ∨ d < v.z ∨ hgtOk v.y = false) : vtxOk w d v = false := by
  unfold vtxOk
  rcases h with h | h | h | h | h
  · rw [decide_eq_false (show ¬ 0 ≤ v.x by omega)]; rfl
  · rw [decide_eq_false (show ¬ v.x ≤ w by omega), Bool.and_false]; rfl
  · rw [decide_eq_false (show ¬ 0 ≤ v.z by omega), Bool.and_false]; rfl
  · rw [decide_eq_false (show ¬ v.z ≤ d by omega), Bool.and_false]; rfl
  · rw [h, Bool.and_false]
theorem vtx_yes {w d : Int} {v : Vtx} (h1 : ¬ v.x < 0) (h2 : ¬ w < v.x) (h3 : ¬ v.z < 0) (h4 : ¬ d < v.z) (h5 : hgtOk v.y = true) : vtxOk w d v = true := by
  unfold vtxOk
  rw [decide_eq_true (show 0 ≤ v.x by omega), decide_eq_true (show v.x ≤ w by omega), decide_eq_true (show 0 ≤ v.z by omega), decide_eq_true (show v.z ≤ d by omega), h5]
  rfl

set_option maxRecDepth 100000 in
set_option maxHeartbeats 8000000 in
theorem tri2_any (W D : Int) (t : Tri3) (Bw Bd : Nat) (w : World) (hw : w.cell? ⟨Bw, 0, none⟩ = some (.int .i64 W)) (hd : w.cell? ⟨Bd, 0, none⟩ = some (.int .i64 D)) (hW : 0 ≤ W ∧ W ≤ 32) (hD : 0 ≤ D ∧ D ≤ 32) :
    Calls Try.prog 129 #[.agg (triC t).toArray, .pointer (some ⟨Bw, 0, none⟩), .pointer (some ⟨Bd, 0, none⟩)] w fun e w' => e = .returned (.bool (triOk W D t)) ∧ Below w.heap.size w w' := by
  obtain ⟨id, ⟨x0, y0, z0⟩, ⟨x1, y1, z1⟩, ⟨x2, y2, z2⟩⟩ := t
  obtain ⟨hW0, hW1⟩ := hW
  obtain ⟨hD0, hD1⟩ := hD
  have hbw : Bw < w.heap.size := by have := World.block_lt_of_cell? w _ hw; simpa using this
  have hbd : Bd < w.heap.size := by have := World.block_lt_of_cell? w _ hd; simpa using this
  have past : ∀ (w' : World) (o : Obj) (b : Nat) (v : Value), w'.cell? ⟨b, 0, none⟩ = some v → (w'.alloc o).cell? ⟨b, 0, none⟩ = some v := fun w' o b v h => (World.cell?_alloc_past _ _ _ (World.block_lt_of_cell? w' _ h)).trans h
  have cw2 := fun o1 o2 => past _ o2 _ _ (past _ o1 _ _ hw)
  have cd2 := fun o1 o2 => past _ o2 _ _ (past _ o1 _ _ hd)
  have cw3 := fun o1 o2 o3 => past _ o3 _ _ (cw2 o1 o2)
  have cd3 := fun o1 o2 o3 => past _ o3 _ _ (cd2 o1 o2)
  have cw4 := fun o1 o2 o3 o4 => past _ o4 _ _ (cw3 o1 o2 o3)
  have cd4 := fun o1 o2 o3 o4 => past _ o4 _ _ (cd3 o1 o2 o3)
  clear past hw hd
  unfold triC
  go_enter Try.func129, Try.ntmps129
  go_wp2
  refine wp_loop_rounds 4 ?_
  rw [rounds_succ]
  by_cases h00 : x0 < 0
  · have d00 : decide (x0 < 0) = true := decide_eq_true h00
    have hv : vtxOk W D ⟨x0, y0, z0⟩ = false := vtx_no (.inl h00)
    have Ht : Hid (triOk W D ⟨id, ⟨x0, y0, z0⟩, ⟨x1, y1, z1⟩, ⟨x2, y2, z2⟩⟩ = false) := by show _ = _; unfold triOk; simp [hv]
    clear hv
    go_wp2
    go_ret
    exact ⟨ret_bool Ht.out.symm, (by (repeat (first | exact Below.refl _ _ | refine Below.alloc ?_ (by simp; try omega) _)))⟩
  have d00 : decide (x0 < 0) = false := decide_eq_false h00
  by_cases h01 : W < x0
  · have d01 : decide (W < x0) = true := decide_eq_true h01
    have hv : vtxOk W D ⟨x0, y0, z0⟩ = false := vtx_no (.inr (.inl h01))
    have Ht : Hid (triOk W D ⟨id, ⟨x0, y0, z0⟩, ⟨x1, y1, z1⟩, ⟨x2, y2, z2⟩⟩ = false) := by show _ = _; unfold triOk; simp [hv]
    clear hv
    go_wp2
    go_ret
    exact ⟨ret_bool Ht.out.symm, (by (repeat (first | exact Below.refl _ _ | refine Below.alloc ?_ (by simp; try omega) _)))⟩
  have d01 : decide (W < x0) = false := decide_eq_false h01
  by_cases h02 : z0 < 0
  · have d02 : decide (z0 < 0) = true := decide_eq_true h02
    have hv : vtxOk W D ⟨x0, y0, z0⟩ = false := vtx_no (.inr (.inr (.inl h02)))
    have Ht : Hid (triOk W D ⟨id, ⟨x0, y0, z0⟩, ⟨x1, y1, z1⟩, ⟨x2, y2, z2⟩⟩ = false) := by show _ = _; unfold triOk; simp [hv]
    clear hv
    go_wp2
    go_ret
    exact ⟨ret_bool Ht.out.symm, (by (repeat (first | exact Below.refl _ _ | refine Below.alloc ?_ (by simp; try omega) _)))⟩
  have d02 : decide (z0 < 0) = false := decide_eq_false h02
  by_cases h03 : D < z0
  · have d03 : decide (D < z0) = true := decide_eq_true h03
    have hv : vtxOk W D ⟨x0, y0, z0⟩ = false := vtx_no (.inr (.inr (.inr (.inl h03))))
    have Ht : Hid (triOk W D ⟨id, ⟨x0, y0, z0⟩, ⟨x1, y1, z1⟩, ⟨x2, y2, z2⟩⟩ = false) := by show _ = _; unfold triOk; simp [hv]
    clear hv
    go_wp2
    go_ret
    exact ⟨ret_bool Ht.out.symm, (by (repeat (first | exact Below.refl _ _ | refine Below.alloc ?_ (by simp; try omega) _)))⟩
  have d03 : decide (D < z0) = false := decide_eq_false h03
  cases hh0 : hgtOk y0 with
  | false =>
    have hv : vtxOk W D ⟨x0, y0, z0⟩ = false := vtx_no (.inr (.inr (.inr (.inr hh0))))
    have Ht : Hid (triOk W D ⟨id, ⟨x0, y0, z0⟩, ⟨x1, y1, z1⟩, ⟨x2, y2, z2⟩⟩ = false) := by show _ = _; unfold triOk; simp [hv]
    have Hh := Lib.hid hh0
    clear hv hh0
    go_wp2_with fail
    refine (height_any _ _).mono ?_
    rw [Hh.out]
    rintro e w9 ⟨rfl, rfl⟩
    go_wp2
    go_ret
    exact ⟨ret_bool Ht.out.symm, (by (repeat (first | exact Below.refl _ _ | refine Below.alloc ?_ (by simp; try omega) _)))⟩
  | true =>
  have vy0 : Hid (vtxOk W D ⟨x0, y0, z0⟩ = true) := vtx_yes h00 h01 h02 h03 hh0
  have Hh0 := Lib.hid hh0
  clear hh0
  go_wp2_with fail
  refine (height_any _ _).mono ?_
  rw [Hh0.out]
  rintro e w9 ⟨rfl, rfl⟩
  go_wp2
  rw [rounds_succ]
  by_cases h10 : x1 < 0
  · have d10 : decide (x1 < 0) = true := decide_eq_true h10
    have hv : vtxOk W D ⟨x1, y1, z1⟩ = false := vtx_no (.inl h10)
    have Ht : Hid (triOk W D ⟨id, ⟨x0, y0, z0⟩, ⟨x1, y1, z1⟩, ⟨x2, y2, z2⟩⟩ = false) := by show _ = _; unfold triOk; simp [hv]
    clear hv
    go_wp2
    go_ret
    exact ⟨ret_bool Ht.out.symm, (by (repeat (first | exact Below.refl _ _ | refine Below.alloc ?_ (by simp; try omega) _)))⟩
  have d10 : decide (x1 < 0) = false := decide_eq_false h10
  by_cases h11 : W < x1
  · have d11 : decide (W < x1) = true := decide_eq_true h11
    have hv : vtxOk W D ⟨x1, y1, z1⟩ = false := vtx_no (.inr (.inl h11))
    have Ht : Hid (triOk W D ⟨id, ⟨x0, y0, z0⟩, ⟨x1, y1, z1⟩, ⟨x2, y2, z2⟩⟩ = false) := by show _ = _; unfold triOk; simp [hv]
    clear hv
    go_wp2
    go_ret
    exact ⟨ret_bool Ht.out.symm, (by (repeat (first | exact Below.refl _ _ | refine Below.alloc ?_ (by simp; try omega) _)))⟩
  have d11 : decide (W < x1) = false := decide_eq_false h11
  by_cases h12 : z1 < 0
  · have d12 : decide (z1 < 0) = true := decide_eq_true h12
    have hv : vtxOk W D ⟨x1, y1, z1⟩ = false := vtx_no (.inr (.inr (.inl h12)))
    have Ht : Hid (triOk W D ⟨id, ⟨x0, y0, z0⟩, ⟨x1, y1, z1⟩, ⟨x2, y2, z2⟩⟩ = false) := by show _ = _; unfold triOk; simp [hv]
    clear hv
    go_wp2
    go_ret
    exact ⟨ret_bool Ht.out.symm, (by (repeat (first | exact Below.refl _ _ | refine Below.alloc ?_ (by simp; try omega) _)))⟩
  have d12 : decide (z1 < 0) = false := decide_eq_false h12
  by_cases h13 : D < z1
  · have d13 : decide (D < z1) = true := decide_eq_true h13
    have hv : vtxOk W D ⟨x1, y1, z1⟩ = false := vtx_no (.inr (.inr (.inr (.inl h13))))
    have Ht : Hid (triOk W D ⟨id, ⟨x0, y0, z0⟩, ⟨x1, y1, z1⟩, ⟨x2, y2, z2⟩⟩ = false) := by show _ = _; unfold triOk; simp [hv]
    clear hv
    go_wp2
    go_ret
    exact ⟨ret_bool Ht.out.symm, (by (repeat (first | exact Below.refl _ _ | refine Below.alloc ?_ (by simp; try omega) _)))⟩
  have d13 : decide (D < z1) = false := decide_eq_false h13
  cases hh1 : hgtOk y1 with
  | false =>
    have hv : vtxOk W D ⟨x1, y1, z1⟩ = false := vtx_no (.inr (.inr (.inr (.inr hh1))))
    have Ht : Hid (triOk W D ⟨id, ⟨x0, y0, z0⟩, ⟨x1, y1, z1⟩, ⟨x2, y2, z2⟩⟩ = false) := by show _ = _; unfold triOk; simp [hv]
    have Hh := Lib.hid hh1
    clear hv hh1
    go_wp2_with fail
    refine (height_any _ _).mono ?_
    rw [Hh.out]
    rintro e w9 ⟨rfl, rfl⟩
    go_wp2
    go_ret
    exact ⟨ret_bool Ht.out.symm, (by (repeat (first | exact Below.refl _ _ | refine Below.alloc ?_ (by simp; try omega) _)))⟩
  | true =>
  have vy1 : Hid (vtxOk W D ⟨x1, y1, z1⟩ = true) := vtx_yes h10 h11 h12 h13 hh1
  have Hh1 := Lib.hid hh1
  clear hh1
  go_wp2_with fail
  refine (height_any _ _).mono ?_
  rw [Hh1.out]
  rintro e w9 ⟨rfl, rfl⟩
  go_wp2
  rw [rounds_succ]
  by_cases h20 : x2 < 0
  · have d20 : decide (x2 < 0) = true := decide_eq_true h20
    have hv : vtxOk W D ⟨x2, y2, z2⟩ = false := vtx_no (.inl h20)
    have Ht : Hid (triOk W D ⟨id, ⟨x0, y0, z0⟩, ⟨x1, y1, z1⟩, ⟨x2, y2, z2⟩⟩ = false) := by show _ = _; unfold triOk; simp [hv]
    clear hv
    go_wp2
    go_ret
    exact ⟨ret_bool Ht.out.symm, (by (repeat (first | exact Below.refl _ _ | refine Below.alloc ?_ (by simp; try omega) _)))⟩
  have d20 : decide (x2 < 0) = false := decide_eq_false h20
  by_cases h21 : W < x2
  · have d21 : decide (W < x2) = true := decide_eq_true h21
    have hv : vtxOk W D ⟨x2, y2, z2⟩ = false := vtx_no (.inr (.inl h21))
    have Ht : Hid (triOk W D ⟨id, ⟨x0, y0, z0⟩, ⟨x1, y1, z1⟩, ⟨x2, y2, z2⟩⟩ = false) := by show _ = _; unfold triOk; simp [hv]
    clear hv
    go_wp2
    go_ret
    exact ⟨ret_bool Ht.out.symm, (by (repeat (first | exact Below.refl _ _ | refine Below.alloc ?_ (by simp; try omega) _)))⟩
  have d21 : decide (W < x2) = false := decide_eq_false h21
  by_cases h22 : z2 < 0
  · have d22 : decide (z2 < 0) = true := decide_eq_true h22
    have hv : vtxOk W D ⟨x2, y2, z2⟩ = false := vtx_no (.inr (.inr (.inl h22)))
    have Ht : Hid (triOk W D ⟨id, ⟨x0, y0, z0⟩, ⟨x1, y1, z1⟩, ⟨x2, y2, z2⟩⟩ = false) := by show _ = _; unfold triOk; simp [hv]
    clear hv
    go_wp2
    go_ret
    exact ⟨ret_bool Ht.out.symm, (by (repeat (first | exact Below.refl _ _ | refine Below.alloc ?_ (by simp; try omega) _)))⟩
  have d22 : decide (z2 < 0) = false := decide_eq_false h22
  by_cases h23 : D < z2
  · have d23 : decide (D < z2) = true := decide_eq_true h23
    have hv : vtxOk W D ⟨x2, y2, z2⟩ = false := vtx_no (.inr (.inr (.inr (.inl h23))))
    have Ht : Hid (triOk W D ⟨id, ⟨x0, y0, z0⟩, ⟨x1, y1, z1⟩, ⟨x2, y2, z2⟩⟩ = false) := by show _ = _; unfold triOk; simp [hv]
    clear hv
    go_wp2
    go_ret
    exact ⟨ret_bool Ht.out.symm, (by (repeat (first | exact Below.refl _ _ | refine Below.alloc ?_ (by simp; try omega) _)))⟩
  have d23 : decide (D < z2) = false := decide_eq_false h23
  cases hh2 : hgtOk y2 with
  | false =>
    have hv : vtxOk W D ⟨x2, y2, z2⟩ = false := vtx_no (.inr (.inr (.inr (.inr hh2))))
    have Ht : Hid (triOk W D ⟨id, ⟨x0, y0, z0⟩, ⟨x1, y1, z1⟩, ⟨x2, y2, z2⟩⟩ = false) := by show _ = _; unfold triOk; simp [hv]
    have Hh := Lib.hid hh2
    clear hv hh2
    go_wp2_with fail
    refine (height_any _ _).mono ?_
    rw [Hh.out]
    rintro e w9 ⟨rfl, rfl⟩
    go_wp2
    go_ret
    exact ⟨ret_bool Ht.out.symm, (by (repeat (first | exact Below.refl _ _ | refine Below.alloc ?_ (by simp; try omega) _)))⟩
  | true =>
  have vy2 : Hid (vtxOk W D ⟨x2, y2, z2⟩ = true) := vtx_yes h20 h21 h22 h23 hh2
  have Hh2 := Lib.hid hh2
  clear hh2
  go_wp2_with fail
  refine (height_any _ _).mono ?_
  rw [Hh2.out]
  rintro e w9 ⟨rfl, rfl⟩
  go_wp2
  rw [rounds_succ]
  go_wp2_with fail
  refine (cross_small (x1 - x0) (z1 - z0) (x2 - x0) (z2 - z0) _ (by omega) (by omega) (by omega) (by omega)).mono ?_
  rintro e w3 ⟨rfl, hb3⟩
  have hb0 : Below w.heap.size w w3 := by refine Below.trans ?_ (hb3.mono (by simp; omega)); (repeat (first | exact Below.refl _ _ | refine Below.alloc ?_ (by simp; try omega) _))
  have Ht : Hid (triOk W D ⟨id, ⟨x0, y0, z0⟩, ⟨x1, y1, z1⟩, ⟨x2, y2, z2⟩⟩ = ((x1 - x0) * (z2 - z0) - (z1 - z0) * (x2 - x0) != 0)) := by show _ = _; unfold triOk; rw [vy0.out, vy1.out, vy2.out]; rfl
  obtain ⟨F, hF⟩ : ∃ F, F = (x1 - x0) * (z2 - z0) - (z1 - z0) * (x2 - x0) := ⟨_, rfl⟩
  rw [← hF] at Ht ⊢
  clear hF hb3
  go_wp2
  go_ret
  exact ⟨ret_bool Ht.out.symm, hb0⟩

end Go.Proofs.Ytilhmlapbifbbaa
