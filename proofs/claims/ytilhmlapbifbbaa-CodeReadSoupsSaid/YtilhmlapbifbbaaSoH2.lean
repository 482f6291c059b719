/- Walks: hops that may be: their parts. -/
import Derived.Test.YtilhmlapbifbbaaSoB3
namespace Go.Proofs.Ytilhmlapbifbbaa
open Go.RowKit Go.Sort
attribute [local go_sem] run_store_func

/-- A spot as a value. -/
def sptL (s : Spt) : List Value := [.int .i64 s.x, .int .i64 s.z, .int .i64 s.y]

set_option maxRecDepth 100000 in
set_option maxHeartbeats 1000000 in
theorem spt_any (W D : Int) (s : Spt) (Bc : Nat) (w : World) (hw : w.cell? ⟨Bc, 5, none⟩ = some (.int .i64 W)) (hd : w.cell? ⟨Bc, 6, none⟩ = some (.int .i64 D)) :
    Calls Try.prog 141 #[.agg (sptL s).toArray, .pointer (some ⟨Bc, 0, none⟩)] w fun e w' => e = .returned (.bool (sptOk W D s)) ∧ w' = w.alloc (.cells (sptL s).toArray 116) := by
  have HH := Lib.hid (fun y (w' : World) => height_any y w')
  have past : ∀ (w' : World) (o : Obj) (b k : Nat) (v : Value), w'.cell? ⟨b, k, none⟩ = some v → (w'.alloc o).cell? ⟨b, k, none⟩ = some v := fun w' o b k v h => (World.cell?_alloc_past _ _ _ (World.block_lt_of_cell? w' _ h)).trans h
  have cw := fun o => past _ o _ _ _ hw
  have cd := fun o => past _ o _ _ _ hd
  by_cases h0 : 0 ≤ s.x
  rotate_left
  · have d0 : decide (0 ≤ s.x) = false := decide_eq_false h0
    have H : Hid (sptOk W D s = false) := by show _ = _; unfold sptOk; simp [h0]
    clear h0 past hw hd
    unfold sptL
    go_enter Try.func141, Try.ntmps141
    go_wp2
    go_ret
    exact ⟨ret_bool H.out.symm, rfl⟩
  have d0 : decide (0 ≤ s.x) = true := decide_eq_true h0
  by_cases h1 : s.x < W
  rotate_left
  · have d1 : decide (s.x < W) = false := decide_eq_false h1
    have H : Hid (sptOk W D s = false) := by show _ = _; unfold sptOk; simp [h0, h1]
    clear h0 h1 past hw hd
    unfold sptL
    go_enter Try.func141, Try.ntmps141
    go_wp2
    go_ret
    exact ⟨ret_bool H.out.symm, rfl⟩
  have d1 : decide (s.x < W) = true := decide_eq_true h1
  by_cases h2 : 0 ≤ s.z
  rotate_left
  · have d2 : decide (0 ≤ s.z) = false := decide_eq_false h2
    have H : Hid (sptOk W D s = false) := by show _ = _; unfold sptOk; simp [h0, h1, h2]
    clear h0 h1 h2 past hw hd
    unfold sptL
    go_enter Try.func141, Try.ntmps141
    go_wp2
    go_ret
    exact ⟨ret_bool H.out.symm, rfl⟩
  have d2 : decide (0 ≤ s.z) = true := decide_eq_true h2
  by_cases h3 : s.z < D
  rotate_left
  · have d3 : decide (s.z < D) = false := decide_eq_false h3
    have H : Hid (sptOk W D s = false) := by show _ = _; unfold sptOk; simp [h0, h1, h2, h3]
    clear h0 h1 h2 h3 past hw hd
    unfold sptL
    go_enter Try.func141, Try.ntmps141
    go_wp2
    go_ret
    exact ⟨ret_bool H.out.symm, rfl⟩
  have d3 : decide (s.z < D) = true := decide_eq_true h3
  have H : Hid (sptOk W D s = (hgtOk s.y)) := by show _ = _; unfold sptOk; simp [h0, h1, h2, h3]
  obtain ⟨r4, h4⟩ : ∃ r, hgtOk s.y = r := ⟨_, rfl⟩
  have H4 := Lib.hid h4
  clear h0 h1 h2 h3 h4 past hw hd
  unfold sptL
  go_enter Try.func141, Try.ntmps141
  go_wp2_with fail
  refine (HH.out _ _).mono ?_
  rw [H4.out]
  rintro e w9 ⟨rfl, rfl⟩
  go_wp2
  go_ret
  exact ⟨ret_bool (by rw [H.out, H4.out]), rfl⟩

theorem hopid_any (b : Hp) (w : World) : Calls Try.prog 142 #[.agg (hpC b).toArray] w fun e w' => e = .returned (.int .i64 b.id) ∧ w' = w.alloc (.cells (hpC b).toArray 118) := by
  unfold hpC
  go_enter Try.func142, Try.ntmps142
  go_wp2
  go_ret
  exact ⟨rfl, rfl⟩

set_option maxRecDepth 100000 in
set_option maxHeartbeats 1000000 in
theorem hpmay_any (W D : Int) (h : Hp) (Bc Bf : Nat) (w : World) (hw : w.cell? ⟨Bc, 5, none⟩ = some (.int .i64 W)) (hd : w.cell? ⟨Bc, 6, none⟩ = some (.int .i64 D)) (hf : w.cell? ⟨Bf, 0, none⟩ = some (.func (.func 141) #[] #[.pointer (some ⟨Bc, 0, none⟩)])) :
    Calls Try.prog 143 #[.agg (hpC h).toArray, .pointer (some ⟨Bf, 0, none⟩)] w fun e w' => e = .returned (.bool (hpOk W D h)) ∧ Below w.heap.size w w' := by
  have past : ∀ (w' : World) (o : Obj) (b k : Nat) (v : Value), w'.cell? ⟨b, k, none⟩ = some v → (w'.alloc o).cell? ⟨b, k, none⟩ = some v := fun w' o b k v h => (World.cell?_alloc_past _ _ _ (World.block_lt_of_cell? w' _ h)).trans h
  have cf1 := fun o => past _ o _ _ _ hf
  have cf2 := fun o1 o2 => past _ o2 _ _ _ (past _ o1 _ _ _ hf)
  have Sa := Lib.hid (fun o1 : Obj => spt_any W D h.a Bc (w.alloc o1) (past _ _ _ _ _ hw) (past _ _ _ _ _ hd))
  have Sb := Lib.hid (fun o1 o2 : Obj => spt_any W D h.b Bc ((w.alloc o1).alloc o2) (past _ _ _ _ _ (past _ _ _ _ _ hw)) (past _ _ _ _ _ (past _ _ _ _ _ hd)))
  obtain ⟨r0, h0⟩ : ∃ r, sptOk W D h.a = r := ⟨_, rfl⟩
  have H0 := Lib.hid h0
  cases r0 with
  | false =>
    have H : Hid (hpOk W D h = false) := by show _ = _; unfold hpOk; simp [h0]
    clear h0 past hw hd hf
    unfold hpC
    go_enter Try.func143, Try.ntmps143
    go_wp2_with fail
    refine (Sa.out _).mono ?_
    rw [H0.out]
    rintro e w9 ⟨rfl, rfl⟩
    go_wp2
    go_ret
    exact ⟨ret_bool H.out.symm, (by (repeat (first | exact Below.refl _ _ | refine Below.alloc ?_ (by simp; try omega) _)))⟩
  | true =>
  obtain ⟨r1, h1⟩ : ∃ r, sptOk W D h.b = r := ⟨_, rfl⟩
  have H1 := Lib.hid h1
  cases r1 with
  | false =>
    have H : Hid (hpOk W D h = false) := by show _ = _; unfold hpOk; simp [h0, h1]
    clear h0 h1 past hw hd hf
    unfold hpC
    go_enter Try.func143, Try.ntmps143
    go_wp2_with fail
    refine (Sa.out _).mono ?_
    rw [H0.out]
    rintro e w9 ⟨rfl, rfl⟩
    go_wp2_with fail
    refine (Sb.out _ _).mono ?_
    rw [H1.out]
    rintro e w9 ⟨rfl, rfl⟩
    go_wp2
    go_ret
    exact ⟨ret_bool H.out.symm, (by (repeat (first | exact Below.refl _ _ | refine Below.alloc ?_ (by simp; try omega) _)))⟩
  | true =>
  by_cases h2 : 1 ≤ h.area
  rotate_left
  · have d2 : decide (1 ≤ h.area) = false := decide_eq_false h2
    have H : Hid (hpOk W D h = false) := by show _ = _; unfold hpOk; simp [h0, h1, h2]
    clear h0 h1 h2 past hw hd hf
    unfold hpC
    go_enter Try.func143, Try.ntmps143
    go_wp2_with fail
    refine (Sa.out _).mono ?_
    rw [H0.out]
    rintro e w9 ⟨rfl, rfl⟩
    go_wp2_with fail
    refine (Sb.out _ _).mono ?_
    rw [H1.out]
    rintro e w9 ⟨rfl, rfl⟩
    go_wp2
    go_ret
    exact ⟨ret_bool H.out.symm, (by (repeat (first | exact Below.refl _ _ | refine Below.alloc ?_ (by simp; try omega) _)))⟩
  have d2 : decide (1 ≤ h.area) = true := decide_eq_true h2
  by_cases h3 : h.area ≤ 7
  rotate_left
  · have d3 : decide (h.area ≤ 7) = false := decide_eq_false h3
    have H : Hid (hpOk W D h = false) := by show _ = _; unfold hpOk; simp [h0, h1, h2, h3]
    clear h0 h1 h2 h3 past hw hd hf
    unfold hpC
    go_enter Try.func143, Try.ntmps143
    go_wp2_with fail
    refine (Sa.out _).mono ?_
    rw [H0.out]
    rintro e w9 ⟨rfl, rfl⟩
    go_wp2_with fail
    refine (Sb.out _ _).mono ?_
    rw [H1.out]
    rintro e w9 ⟨rfl, rfl⟩
    go_wp2
    go_ret
    exact ⟨ret_bool H.out.symm, (by (repeat (first | exact Below.refl _ _ | refine Below.alloc ?_ (by simp; try omega) _)))⟩
  have d3 : decide (h.area ≤ 7) = true := decide_eq_true h3
  by_cases h4 : 0 ≤ h.cost
  rotate_left
  · have d4 : decide (0 ≤ h.cost) = false := decide_eq_false h4
    have H : Hid (hpOk W D h = false) := by show _ = _; unfold hpOk; simp [h0, h1, h2, h3, h4]
    clear h0 h1 h2 h3 h4 past hw hd hf
    unfold hpC
    go_enter Try.func143, Try.ntmps143
    go_wp2_with fail
    refine (Sa.out _).mono ?_
    rw [H0.out]
    rintro e w9 ⟨rfl, rfl⟩
    go_wp2_with fail
    refine (Sb.out _ _).mono ?_
    rw [H1.out]
    rintro e w9 ⟨rfl, rfl⟩
    go_wp2
    go_ret
    exact ⟨ret_bool H.out.symm, (by (repeat (first | exact Below.refl _ _ | refine Below.alloc ?_ (by simp; try omega) _)))⟩
  have d4 : decide (0 ≤ h.cost) = true := decide_eq_true h4
  have H : Hid (hpOk W D h = (decide (h.cost ≤ 1048576))) := by show _ = _; unfold hpOk; simp [h0, h1, h2, h3, h4]
  clear h0 h1 h2 h3 h4 past hw hd hf
  unfold hpC
  go_enter Try.func143, Try.ntmps143
  go_wp2_with fail
  refine (Sa.out _).mono ?_
  rw [H0.out]
  rintro e w9 ⟨rfl, rfl⟩
  go_wp2_with fail
  refine (Sb.out _ _).mono ?_
  rw [H1.out]
  rintro e w9 ⟨rfl, rfl⟩
  go_wp2
  go_ret
  exact ⟨ret_bool H.out.symm, (by (repeat (first | exact Below.refl _ _ | refine Below.alloc ?_ (by simp; try omega) _)))⟩

/-- The list of what is asked of hops: a value. -/
def hopsV (Bf : Nat) : List Value := [.func (.func 142) #[] #[], .func (.func 143) #[] #[.pointer (some ⟨Bf, 0, none⟩)], .int .i64 16, .int .i64 2]
set_option maxRecDepth 100000 in
set_option maxHeartbeats 1000000 in
theorem hops_any (c : Cfg) (w : World) : Calls Try.prog 111 #[cfgV c] w fun e w' => e = .returned (.agg (hopsV (w.heap.size + 2)).toArray) ∧ w'.cell? ⟨w.heap.size, 5, none⟩ = some (.int .i64 c.w) ∧ w'.cell? ⟨w.heap.size, 6, none⟩ = some (.int .i64 c.d) ∧ w'.cell? ⟨w.heap.size + 2, 0, none⟩ = some (.func (.func 141) #[] #[.pointer (some ⟨w.heap.size, 0, none⟩)]) ∧ Below w.heap.size w w' := by
  have hN := fun o1 o2 o3 : Obj => (Below.heap_alloc ((w.alloc o1).alloc o2) o3 w.heap.size (by simp; omega)).trans ((Below.heap_alloc (w.alloc o1) o2 w.heap.size (by simp)).trans (World.alloc_heap_new w o1))
  have hF := fun o1 o2 o3 : Obj => World.alloc_heap_new ((w.alloc o1).alloc o2) o3
  simp only [World.size_alloc, Nat.add_assoc, Nat.reduceAdd] at hF
  unfold hopsV cfgV
  go_enter Try.func111, Try.ntmps111
  go_wp2
  refine bodyPost_ret (v := .agg #[.func (.func 142) #[] #[], .func (.func 143) #[] #[.pointer (some ⟨w.heap.size + 2, 0, none⟩)], .int .i64 16, .int .i64 2]) (by simp [results, Try.results111, go_sem]) rfl ?_
  refine ⟨rfl, ?_, ?_, ?_, by (repeat (first | exact Below.refl _ _ | refine Below.alloc ?_ (by simp; try omega) _))⟩
  · exact cell_heap (hN _ _ _) rfl
  · exact cell_heap (hN _ _ _) rfl
  · exact cell_heap (hF _ _ _) rfl

end Go.Proofs.Ytilhmlapbifbbaa
