/- Walk: the columns that a triangle may lie over. -/
import Derived.Test.YtjiklfffcnfdjaaGreatHn
import Derived.Test.YtjiklfffcnfdjaaGreatGd
import Derived.Deep.DeepCutAuto
import Derived.Test.YtjiklfffcnfdjaaGreatClpW
import Derived.Test.YtjiklfffcnfdjaaGreatGp
namespace Go.Proofs.YtjiklfffcnfdjaaGreat
open Go.RowKit
attribute [local go_sem] Instr.index

abbrev triO (i : Int) (a b c : V3) : Obj := .cells #[.int .i64 i, .int .i64 a.x, .int .i64 a.y, .int .i64 a.z, .int .i64 b.x, .int .i64 b.y, .int .i64 b.z, .int .i64 c.x, .int .i64 c.y, .int .i64 c.z] 77
abbrev vxO (a : V3) : Obj := .cells #[.int .i64 a.x, .int .i64 a.y, .int .i64 a.z] 74
theorem results_tmp5 {fn : Func} {t u v x y : Tmp} (h : fn.results = #[.tmp t, .tmp u, .tmp v, .tmp x, .tmp y]) (tmps : Array Value) (P : Program) (w : World) :
    (results fn tmps).run P w = .ok (.tuple #[tmps.getD t undef, tmps.getD u undef, tmps.getD v undef, tmps.getD x undef, tmps.getD y undef]) w := by
  simp [results, h]

theorem min_ite (x y : Int) : (if y < x then y else x) = min x y := by
  split <;> omega
theorem max_ite (x y : Int) : (if x < y then y else x) = max x y := by
  split <;> omega
theorem three_new (W : World) (a b c : Obj) : (((W.alloc a).alloc b).alloc c).heap[W.heap.size]? = some a ∧ (((W.alloc a).alloc b).alloc c).heap[W.heap.size + 1]? = some b ∧ (((W.alloc a).alloc b).alloc c).heap[W.heap.size + 1 + 1]? = some c := by
  have h1 := halloc (halloc (World.alloc_heap_new W a) b) c
  have h2 := halloc (World.alloc_heap_new (W.alloc a) b) c
  have h3 := World.alloc_heap_new ((W.alloc a).alloc b) c
  simp only [World.size_alloc] at h2 h3
  exact ⟨h1, h2, h3⟩

end Go.Proofs.YtjiklfffcnfdjaaGreat

namespace Go.Proofs.YtjiklfffcnfdjaaGreat
open Go.RowKit Go.Sort
attribute [local go_sem] Instr.index

theorem vtx_no {w d : Int} {v : Vtx} (h : v.x < 0 ∨ w < v.x ∨ v.z < 0 ∨ d < v.z ∨ hgtOk v.y = false) : vtxOk w d v = false := by
  unfold vtxOk
  rcases h with h | h | h | h | h
  · rw [decide_eq_false (show ¬ 0 ≤ v.x by omega)]; rfl
  · rw [decide_eq_false (show ¬ v.x ≤ w by omega), Bool.and_false]; rfl
  · rw [decide_eq_false (show ¬ 0 ≤ v.z by omega), Bool.and_false]; rfl
  · rw [decide_eq_false (show ¬ v.z ≤ d by omega), Bool.and_false]; rfl
  · rw [h, Bool.and_false]
theorem vtx_yes {w d : Int} {v : Vtx} (h1 : ¬ v.x < 0) (h2 : ¬ w < v.x) (h3 : ¬ v.z < 0) (h4 : ¬ d < v.z) (h5 : hgtOk v.y = true) : vtxOk w d v = true := by
  unfold vtxOk
  rw [decide_eq_true (show 0 ≤ v.x by omega), decide_eq_true (show v.x ≤ w by omega), decide_eq_true (show 0 ≤ v.z by omega), decide_eq_true (show v.z ≤ d by omega), h5]
  rfl
theorem refheight_any (y : Int) (w : World) : Calls Tryz.prog 55 #[.int .i64 y] w fun e w' => e = .returned (.bool (hgtOk y)) ∧ w = w' := by
  by_cases h : -2048 ≤ y
  · have d1 : decide (-2048 ≤ y) = true := decide_eq_true h
    have H : Hid (hgtOk y = decide (y ≤ 2048)) := by show _ = _; unfold hgtOk; rw [d1]; rfl
    clear h
    go_enter Tryz.func55, Tryz.ntmps55
    go_wp2
    go_ret
    exact ⟨ret_bool H.out.symm, rfl⟩
  · have d1 : decide (-2048 ≤ y) = false := decide_eq_false h
    have H : Hid (hgtOk y = false) := by show _ = _; unfold hgtOk; rw [d1]; rfl
    clear h
    go_enter Tryz.func55, Tryz.ntmps55
    go_wp2
    go_ret
    exact ⟨ret_bool H.out.symm, rfl⟩
theorem mul_small {a b : Int} (ha : -1000 ≤ a ∧ a ≤ 1000) (hb : -1000 ≤ b ∧ b ≤ 1000) : -1000000 ≤ a * b ∧ a * b ≤ 1000000 := by
  have h1 : (a * b).natAbs = a.natAbs * b.natAbs := Int.natAbs_mul a b
  have h2 : a.natAbs * b.natAbs ≤ 1000 * 1000 := Nat.mul_le_mul (by omega) (by omega)
  omega
theorem wrap_mul {a b : Int} (ha : -1000 ≤ a ∧ a ≤ 1000) (hb : -1000 ≤ b ∧ b ≤ 1000) : IntKind.i64.wrap (a * b) = a * b := by
  have := mul_small ha hb
  rw [IntKind.wrap_i64]
  omega
/-- A triangle's corners as a value. -/
def corL (t : Tri3) : List Value := [.int .i64 t.v0.x, .int .i64 t.v0.y, .int .i64 t.v0.z, .int .i64 t.v1.x, .int .i64 t.v1.y, .int .i64 t.v1.z, .int .i64 t.v2.x, .int .i64 t.v2.y, .int .i64 t.v2.z]
def smallT (t : Tri3) : Prop := (-100 ≤ t.v0.x ∧ t.v0.x ≤ 100) ∧ (-100 ≤ t.v1.x ∧ t.v1.x ≤ 100) ∧ (-100 ≤ t.v2.x ∧ t.v2.x ≤ 100) ∧ (-100 ≤ t.v0.z ∧ t.v0.z ≤ 100) ∧ (-100 ≤ t.v1.z ∧ t.v1.z ≤ 100) ∧ (-100 ≤ t.v2.z ∧ t.v2.z ≤ 100)

set_option maxRecDepth 100000 in
set_option maxHeartbeats 2000000 in
theorem refflat_any (t : Tri3) (w : World) (h : smallT t) : Calls Tryz.prog 56 #[.agg (corL t).toArray] w fun e w' => e = .returned (.int .i64 (flatT t)) ∧ Below w.heap.size w w' := by
  obtain ⟨id, ⟨x0, y0, z0⟩, ⟨x1, y1, z1⟩, ⟨x2, y2, z2⟩⟩ := t
  obtain ⟨a0, a1, a2, b0, b1, b2⟩ := h
  simp only at a0 a1 a2 b0 b1 b2
  have wr : ∀ a b : Int, (-100 ≤ a ∧ a ≤ 100) → (-100 ≤ b ∧ b ≤ 100) → IntKind.i64.wrap (a - b) = a - b := fun a b h1 h2 => by rw [IntKind.wrap_i64]; omega
  have s1 := wr x1 x0 a1 a0
  have s2 := wr z2 z0 b2 b0
  have s3 := wr z1 z0 b1 b0
  have s4 := wr x2 x0 a2 a0
  have m1 := wrap_mul (a := x1 - x0) (b := z2 - z0) (by omega) (by omega)
  have m2 := wrap_mul (a := z1 - z0) (b := x2 - x0) (by omega) (by omega)
  have k1 := mul_small (a := x1 - x0) (b := z2 - z0) (by omega) (by omega)
  have k2 := mul_small (a := z1 - z0) (b := x2 - x0) (by omega) (by omega)
  have m3 : IntKind.i64.wrap ((x1 - x0) * (z2 - z0) - (z1 - z0) * (x2 - x0)) = (x1 - x0) * (z2 - z0) - (z1 - z0) * (x2 - x0) := by rw [IntKind.wrap_i64]; omega
  clear wr k1 k2 a0 a1 a2 b0 b1 b2
  unfold corL
  go_enter Tryz.func56, Tryz.ntmps56
  go_wp2
  go_ret
  exact ⟨rfl, (Below.refl _ _).alloc (Nat.le_refl _) _⟩

set_option maxRecDepth 100000 in
set_option maxHeartbeats 8000000 in
theorem refmaytri_any (W D : Int) (t : Tri3) (w : World) (hW : 0 ≤ W ∧ W ≤ 32) (hD : 0 ≤ D ∧ D ≤ 32) :
    Calls Tryz.prog 39 #[.int .i64 W, .int .i64 D, .agg (triC t).toArray] w fun e w' => e = .returned (.bool (triOk W D t)) ∧ Below w.heap.size w w' := by
  obtain ⟨id, ⟨x0, y0, z0⟩, ⟨x1, y1, z1⟩, ⟨x2, y2, z2⟩⟩ := t
  obtain ⟨hW0, hW1⟩ := hW
  obtain ⟨hD0, hD1⟩ := hD
  unfold triC
  go_enter Tryz.func39, Tryz.ntmps39
  go_wp2
  refine wp_loop_rounds 4 ?_
  rw [rounds_succ]
  by_cases h00 : x0 < 0
  · have d00 : decide (x0 < 0) = true := decide_eq_true h00
    have hv : vtxOk W D ⟨x0, y0, z0⟩ = false := vtx_no (.inl h00)
    have Ht : Hid (triOk W D ⟨id, ⟨x0, y0, z0⟩, ⟨x1, y1, z1⟩, ⟨x2, y2, z2⟩⟩ = false) := by show _ = _; unfold triOk; simp [hv]
    clear hv
    go_wp2
    go_ret
    exact ⟨ret_bool Ht.out.symm, (by (repeat (first | exact Below.refl _ _ | refine Below.alloc ?_ (by simp; try omega) _)))⟩
  have d00 : decide (x0 < 0) = false := decide_eq_false h00
  by_cases h01 : W < x0
  · have d01 : decide (W < x0) = true := decide_eq_true h01
    have hv : vtxOk W D ⟨x0, y0, z0⟩ = false := vtx_no (.inr (.inl h01))
    have Ht : Hid (triOk W D ⟨id, ⟨x0, y0, z0⟩, ⟨x1, y1, z1⟩, ⟨x2, y2, z2⟩⟩ = false) := by show _ = _; unfold triOk; simp [hv]
    clear hv
    go_wp2
    go_ret
    exact ⟨ret_bool Ht.out.symm, (by (repeat (first | exact Below.refl _ _ | refine Below.alloc ?_ (by simp; try omega) _)))⟩
  have d01 : decide (W < x0) = false := decide_eq_false h01
  by_cases h02 : z0 < 0
  · have d02 : decide (z0 < 0) = true := decide_eq_true h02
    have hv : vtxOk W D ⟨x0, y0, z0⟩ = false := vtx_no (.inr (.inr (.inl h02)))
    have Ht : Hid (triOk W D ⟨id, ⟨x0, y0, z0⟩, ⟨x1, y1, z1⟩, ⟨x2, y2, z2⟩⟩ = false) := by show _ = _; unfold triOk; simp [hv]
    clear hv
    go_wp2
    go_ret
    exact ⟨ret_bool Ht.out.symm, (by (repeat (first | exact Below.refl _ _ | refine Below.alloc ?_ (by simp; try omega) _)))⟩
  have d02 : decide (z0 < 0) = false := decide_eq_false h02
  by_cases h03 : D < z0
  · have d03 : decide (D < z0) = true := decide_eq_true h03
    have hv : vtxOk W D ⟨x0, y0, z0⟩ = false := vtx_no (.inr (.inr (.inr (.inl h03))))
    have Ht : Hid (triOk W D ⟨id, ⟨x0, y0, z0⟩, ⟨x1, y1, z1⟩, ⟨x2, y2, z2⟩⟩ = false) := by show _ = _; unfold triOk; simp [hv]
    clear hv
    go_wp2
    go_ret
    exact ⟨ret_bool Ht.out.symm, (by (repeat (first | exact Below.refl _ _ | refine Below.alloc ?_ (by simp; try omega) _)))⟩
  have d03 : decide (D < z0) = false := decide_eq_false h03
  cases hh0 : hgtOk y0 with
  | false =>
    have hv : vtxOk W D ⟨x0, y0, z0⟩ = false := vtx_no (.inr (.inr (.inr (.inr hh0))))
    have Ht : Hid (triOk W D ⟨id, ⟨x0, y0, z0⟩, ⟨x1, y1, z1⟩, ⟨x2, y2, z2⟩⟩ = false) := by show _ = _; unfold triOk; simp [hv]
    have Hh := Lib.hid hh0
    clear hv hh0
    go_wp2_with fail
    refine (refheight_any _ _).mono ?_
    rw [Hh.out]
    rintro e w9 ⟨rfl, rfl⟩
    go_wp2
    go_ret
    exact ⟨ret_bool Ht.out.symm, (by (repeat (first | exact Below.refl _ _ | refine Below.alloc ?_ (by simp; try omega) _)))⟩
  | true =>
  have vy0 : Hid (vtxOk W D ⟨x0, y0, z0⟩ = true) := vtx_yes h00 h01 h02 h03 hh0
  have Hh0 := Lib.hid hh0
  clear hh0
  go_wp2_with fail
  refine (refheight_any _ _).mono ?_
  rw [Hh0.out]
  rintro e w9 ⟨rfl, rfl⟩
  go_wp2
  rw [rounds_succ]
  by_cases h10 : x1 < 0
  · have d10 : decide (x1 < 0) = true := decide_eq_true h10
    have hv : vtxOk W D ⟨x1, y1, z1⟩ = false := vtx_no (.inl h10)
    have Ht : Hid (triOk W D ⟨id, ⟨x0, y0, z0⟩, ⟨x1, y1, z1⟩, ⟨x2, y2, z2⟩⟩ = false) := by show _ = _; unfold triOk; simp [hv]
    clear hv
    go_wp2
    go_ret
    exact ⟨ret_bool Ht.out.symm, (by (repeat (first | exact Below.refl _ _ | refine Below.alloc ?_ (by simp; try omega) _)))⟩
  have d10 : decide (x1 < 0) = false := decide_eq_false h10
  by_cases h11 : W < x1
  · have d11 : decide (W < x1) = true := decide_eq_true h11
    have hv : vtxOk W D ⟨x1, y1, z1⟩ = false := vtx_no (.inr (.inl h11))
    have Ht : Hid (triOk W D ⟨id, ⟨x0, y0, z0⟩, ⟨x1, y1, z1⟩, ⟨x2, y2, z2⟩⟩ = false) := by show _ = _; unfold triOk; simp [hv]
    clear hv
    go_wp2
    go_ret
    exact ⟨ret_bool Ht.out.symm, (by (repeat (first | exact Below.refl _ _ | refine Below.alloc ?_ (by simp; try omega) _)))⟩
  have d11 : decide (W < x1) = false := decide_eq_false h11
  by_cases h12 : z1 < 0
  · have d12 : decide (z1 < 0) = true := decide_eq_true h12
    have hv : vtxOk W D ⟨x1, y1, z1⟩ = false := vtx_no (.inr (.inr (.inl h12)))
    have Ht : Hid (triOk W D ⟨id, ⟨x0, y0, z0⟩, ⟨x1, y1, z1⟩, ⟨x2, y2, z2⟩⟩ = false) := by show _ = _; unfold triOk; simp [hv]
    clear hv
    go_wp2
    go_ret
    exact ⟨ret_bool Ht.out.symm, (by (repeat (first | exact Below.refl _ _ | refine Below.alloc ?_ (by simp; try omega) _)))⟩
  have d12 : decide (z1 < 0) = false := decide_eq_false h12
  by_cases h13 : D < z1
  · have d13 : decide (D < z1) = true := decide_eq_true h13
    have hv : vtxOk W D ⟨x1, y1, z1⟩ = false := vtx_no (.inr (.inr (.inr (.inl h13))))
    have Ht : Hid (triOk W D ⟨id, ⟨x0, y0, z0⟩, ⟨x1, y1, z1⟩, ⟨x2, y2, z2⟩⟩ = false) := by show _ = _; unfold triOk; simp [hv]
    clear hv
    go_wp2
    go_ret
    exact ⟨ret_bool Ht.out.symm, (by (repeat (first | exact Below.refl _ _ | refine Below.alloc ?_ (by simp; try omega) _)))⟩
  have d13 : decide (D < z1) = false := decide_eq_false h13
  cases hh1 : hgtOk y1 with
  | false =>
    have hv : vtxOk W D ⟨x1, y1, z1⟩ = false := vtx_no (.inr (.inr (.inr (.inr hh1))))
    have Ht : Hid (triOk W D ⟨id, ⟨x0, y0, z0⟩, ⟨x1, y1, z1⟩, ⟨x2, y2, z2⟩⟩ = false) := by show _ = _; unfold triOk; simp [hv]
    have Hh := Lib.hid hh1
    clear hv hh1
    go_wp2_with fail
    refine (refheight_any _ _).mono ?_
    rw [Hh.out]
    rintro e w9 ⟨rfl, rfl⟩
    go_wp2
    go_ret
    exact ⟨ret_bool Ht.out.symm, (by (repeat (first | exact Below.refl _ _ | refine Below.alloc ?_ (by simp; try omega) _)))⟩
  | true =>
  have vy1 : Hid (vtxOk W D ⟨x1, y1, z1⟩ = true) := vtx_yes h10 h11 h12 h13 hh1
  have Hh1 := Lib.hid hh1
  clear hh1
  go_wp2_with fail
  refine (refheight_any _ _).mono ?_
  rw [Hh1.out]
  rintro e w9 ⟨rfl, rfl⟩
  go_wp2
  rw [rounds_succ]
  by_cases h20 : x2 < 0
  · have d20 : decide (x2 < 0) = true := decide_eq_true h20
    have hv : vtxOk W D ⟨x2, y2, z2⟩ = false := vtx_no (.inl h20)
    have Ht : Hid (triOk W D ⟨id, ⟨x0, y0, z0⟩, ⟨x1, y1, z1⟩, ⟨x2, y2, z2⟩⟩ = false) := by show _ = _; unfold triOk; simp [hv]
    clear hv
    go_wp2
    go_ret
    exact ⟨ret_bool Ht.out.symm, (by (repeat (first | exact Below.refl _ _ | refine Below.alloc ?_ (by simp; try omega) _)))⟩
  have d20 : decide (x2 < 0) = false := decide_eq_false h20
  by_cases h21 : W < x2
  · have d21 : decide (W < x2) = true := decide_eq_true h21
    have hv : vtxOk W D ⟨x2, y2, z2⟩ = false := vtx_no (.inr (.inl h21))
    have Ht : Hid (triOk W D ⟨id, ⟨x0, y0, z0⟩, ⟨x1, y1, z1⟩, ⟨x2, y2, z2⟩⟩ = false) := by show _ = _; unfold triOk; simp [hv]
    clear hv
    go_wp2
    go_ret
    exact ⟨ret_bool Ht.out.symm, (by (repeat (first | exact Below.refl _ _ | refine Below.alloc ?_ (by simp; try omega) _)))⟩
  have d21 : decide (W < x2) = false := decide_eq_false h21
  by_cases h22 : z2 < 0
  · have d22 : decide (z2 < 0) = true := decide_eq_true h22
    have hv : vtxOk W D ⟨x2, y2, z2⟩ = false := vtx_no (.inr (.inr (.inl h22)))
    have Ht : Hid (triOk W D ⟨id, ⟨x0, y0, z0⟩, ⟨x1, y1, z1⟩, ⟨x2, y2, z2⟩⟩ = false) := by show _ = _; unfold triOk; simp [hv]
    clear hv
    go_wp2
    go_ret
    exact ⟨ret_bool Ht.out.symm, (by (repeat (first | exact Below.refl _ _ | refine Below.alloc ?_ (by simp; try omega) _)))⟩
  have d22 : decide (z2 < 0) = false := decide_eq_false h22
  by_cases h23 : D < z2
  · have d23 : decide (D < z2) = true := decide_eq_true h23
    have hv : vtxOk W D ⟨x2, y2, z2⟩ = false := vtx_no (.inr (.inr (.inr (.inl h23))))
    have Ht : Hid (triOk W D ⟨id, ⟨x0, y0, z0⟩, ⟨x1, y1, z1⟩, ⟨x2, y2, z2⟩⟩ = false) := by show _ = _; unfold triOk; simp [hv]
    clear hv
    go_wp2
    go_ret
    exact ⟨ret_bool Ht.out.symm, (by (repeat (first | exact Below.refl _ _ | refine Below.alloc ?_ (by simp; try omega) _)))⟩
  have d23 : decide (D < z2) = false := decide_eq_false h23
  cases hh2 : hgtOk y2 with
  | false =>
    have hv : vtxOk W D ⟨x2, y2, z2⟩ = false := vtx_no (.inr (.inr (.inr (.inr hh2))))
    have Ht : Hid (triOk W D ⟨id, ⟨x0, y0, z0⟩, ⟨x1, y1, z1⟩, ⟨x2, y2, z2⟩⟩ = false) := by show _ = _; unfold triOk; simp [hv]
    have Hh := Lib.hid hh2
    clear hv hh2
    go_wp2_with fail
    refine (refheight_any _ _).mono ?_
    rw [Hh.out]
    rintro e w9 ⟨rfl, rfl⟩
    go_wp2
    go_ret
    exact ⟨ret_bool Ht.out.symm, (by (repeat (first | exact Below.refl _ _ | refine Below.alloc ?_ (by simp; try omega) _)))⟩
  | true =>
  have vy2 : Hid (vtxOk W D ⟨x2, y2, z2⟩ = true) := vtx_yes h20 h21 h22 h23 hh2
  have Hh2 := Lib.hid hh2
  clear hh2
  go_wp2_with fail
  refine (refheight_any _ _).mono ?_
  rw [Hh2.out]
  rintro e w9 ⟨rfl, rfl⟩
  go_wp2
  have HFl := Lib.hid (fun w' : World => refflat_any ⟨id, ⟨x0, y0, z0⟩, ⟨x1, y1, z1⟩, ⟨x2, y2, z2⟩⟩ w' ⟨by simp only; omega, by simp only; omega, by simp only; omega, by simp only; omega, by simp only; omega, by simp only; omega⟩)
  rw [rounds_succ]
  go_wp2_with fail
  refine (HFl.out _).mono ?_
  rintro e w3 ⟨rfl, hb3⟩
  have hb0 : Below w.heap.size w w3 := by refine Below.trans ?_ (hb3.mono (by simp; omega)); (repeat (first | exact Below.refl _ _ | refine Below.alloc ?_ (by simp; try omega) _))
  have Ht : Hid (triOk W D ⟨id, ⟨x0, y0, z0⟩, ⟨x1, y1, z1⟩, ⟨x2, y2, z2⟩⟩ = (flatT ⟨id, ⟨x0, y0, z0⟩, ⟨x1, y1, z1⟩, ⟨x2, y2, z2⟩⟩ != 0)) := by show _ = _; unfold triOk; rw [vy0.out, vy1.out, vy2.out]; rfl
  obtain ⟨F, hF⟩ : ∃ F, F = flatT ⟨id, ⟨x0, y0, z0⟩, ⟨x1, y1, z1⟩, ⟨x2, y2, z2⟩⟩ := ⟨_, rfl⟩
  rw [← hF] at Ht ⊢
  clear hF hb3 HFl
  go_wp2
  go_ret
  exact ⟨ret_bool Ht.out.symm, hb0⟩


theorem vtx_vok (v : V3) : vtxOk 32 32 ⟨v.x, v.y, v.z⟩ = vOk v := by
  unfold vtxOk vOk hgtOk
  simp only [Bool.and_assoc]
theorem tri_open (i : Int) (a b c : V3) : triOk 32 32 ⟨i, ⟨a.x, a.y, a.z⟩, ⟨b.x, b.y, b.z⟩, ⟨c.x, c.y, c.z⟩⟩ = (openT a b c).2 := by
  have hf : flatT ⟨i, ⟨a.x, a.y, a.z⟩, ⟨b.x, b.y, b.z⟩, ⟨c.x, c.y, c.z⟩⟩ = flatS a b c := rfl
  unfold triOk
  simp only [vtx_vok, hf]
  unfold openT
  cases hv : (vOk a && vOk b && vOk c) with
  | false => rfl
  | true =>
    rw [if_pos rfl]
    split
    · have : flatS a b c ≠ 0 := by omega
      simp [this]
    · by_cases h : flatS a b c = 0 <;> simp [h]
theorem maytri32_any (i : Int) (a b c : V3) (w : World) :
    Calls Tryz.prog 39 #[.int .i64 32, .int .i64 32, tiA i a b c] w fun e w' => e = .returned (.bool (openT a b c).2) ∧ Below w.heap.size w w' := by
  have h := refmaytri_any 32 32 ⟨i, ⟨a.x, a.y, a.z⟩, ⟨b.x, b.y, b.z⟩, ⟨c.x, c.y, c.z⟩⟩ w (by omega) (by omega)
  rw [tri_open] at h
  exact h
end Go.Proofs.YtjiklfffcnfdjaaGreat
