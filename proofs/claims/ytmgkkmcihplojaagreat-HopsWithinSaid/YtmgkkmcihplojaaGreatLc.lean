/- Walks: hops that may be: their parts. -/
import Derived.Test.YtmgkkmcihplojaaGreatLb
import Derived.Deep.RegionHeld3
namespace Go.Proofs.YtmgkkmcihplojaaGreat
open Go.RowKit Go.Sort
attribute [local go_sem] run_store_func

/-- A spot as a value. -/
def sptL (s : Spt) : List Value := [.int .i64 s.x, .int .i64 s.z, .int .i64 s.y]

set_option maxRecDepth 100000 in
set_option maxHeartbeats 1000000 in
theorem spt_any (W D : Int) (s : Spt) (Bc : Nat) (w : World) (hw : w.cell? ⟨Bc, 5, none⟩ = some (.int .i64 W)) (hd : w.cell? ⟨Bc, 6, none⟩ = some (.int .i64 D)) :
    Calls Tryz.prog 30 #[.agg (sptL s).toArray, .pointer (some ⟨Bc, 0, none⟩)] w fun e w' => e = .returned (.bool (sptOk W D s)) ∧ w' = w.alloc (.cells (sptL s).toArray 26) := by
  have HH := Lib.hid (fun y (w' : World) => height_any y w')
  have past : ∀ (w' : World) (o : Obj) (b k : Nat) (v : Value), w'.cell? ⟨b, k, none⟩ = some v → (w'.alloc o).cell? ⟨b, k, none⟩ = some v := fun w' o b k v h => (World.cell?_alloc_past _ _ _ (World.block_lt_of_cell? w' _ h)).trans h
  have cw := fun o => past _ o _ _ _ hw
  have cd := fun o => past _ o _ _ _ hd
  by_cases h0 : 0 ≤ s.x
  rotate_left
  · have d0 : decide (0 ≤ s.x) = false := decide_eq_false h0
    have H : Hid (sptOk W D s = false) := by show _ = _; unfold sptOk; simp [h0]
    clear h0 past hw hd
    unfold sptL
    go_enter Tryz.func30, Tryz.ntmps30
    go_wp2
    go_ret
    exact ⟨ret_bool H.out.symm, rfl⟩
  have d0 : decide (0 ≤ s.x) = true := decide_eq_true h0
  by_cases h1 : s.x < W
  rotate_left
  · have d1 : decide (s.x < W) = false := decide_eq_false h1
    have H : Hid (sptOk W D s = false) := by show _ = _; unfold sptOk; simp [h0, h1]
    clear h0 h1 past hw hd
    unfold sptL
    go_enter Tryz.func30, Tryz.ntmps30
    go_wp2
    go_ret
    exact ⟨ret_bool H.out.symm, rfl⟩
  have d1 : decide (s.x < W) = true := decide_eq_true h1
  by_cases h2 : 0 ≤ s.z
  rotate_left
  · have d2 : decide (0 ≤ s.z) = false := decide_eq_false h2
    have H : Hid (sptOk W D s = false) := by show _ = _; unfold sptOk; simp [h0, h1, h2]
    clear h0 h1 h2 past hw hd
    unfold sptL
    go_enter Tryz.func30, Tryz.ntmps30
    go_wp2
    go_ret
    exact ⟨ret_bool H.out.symm, rfl⟩
  have d2 : decide (0 ≤ s.z) = true := decide_eq_true h2
  by_cases h3 : s.z < D
  rotate_left
  · have d3 : decide (s.z < D) = false := decide_eq_false h3
    have H : Hid (sptOk W D s = false) := by show _ = _; unfold sptOk; simp [h0, h1, h2, h3]
    clear h0 h1 h2 h3 past hw hd
    unfold sptL
    go_enter Tryz.func30, Tryz.ntmps30
    go_wp2
    go_ret
    exact ⟨ret_bool H.out.symm, rfl⟩
  have d3 : decide (s.z < D) = true := decide_eq_true h3
  have H : Hid (sptOk W D s = (hgtOk s.y)) := by show _ = _; unfold sptOk; simp [h0, h1, h2, h3]
  obtain ⟨r4, h4⟩ : ∃ r, hgtOk s.y = r := ⟨_, rfl⟩
  have H4 := Lib.hid h4
  clear h0 h1 h2 h3 h4 past hw hd
  unfold sptL
  go_enter Tryz.func30, Tryz.ntmps30
  go_wp2_with fail
  refine (HH.out _ _).mono ?_
  rw [H4.out]
  rintro e w9 ⟨rfl, rfl⟩
  go_wp2
  go_ret
  exact ⟨ret_bool (by rw [H.out, H4.out]), rfl⟩

theorem hopid_any (b : Hp) (w : World) : Calls Tryz.prog 32 #[.agg (hpC b).toArray] w fun e w' => e = .returned (.int .i64 b.id) ∧ w' = w.alloc (.cells (hpC b).toArray 46) := by
  unfold hpC
  go_enter Tryz.func32, Tryz.ntmps32
  go_wp2
  go_ret
  exact ⟨rfl, rfl⟩

set_option maxRecDepth 100000 in
set_option maxHeartbeats 1000000 in
theorem hpmay_any (W D : Int) (h : Hp) (Bc Bf : Nat) (w : World) (hw : w.cell? ⟨Bc, 5, none⟩ = some (.int .i64 W)) (hd : w.cell? ⟨Bc, 6, none⟩ = some (.int .i64 D)) (hf : w.cell? ⟨Bf, 0, none⟩ = some (.func (.func 30) #[] #[.pointer (some ⟨Bc, 0, none⟩)])) :
    Calls Tryz.prog 33 #[.agg (hpC h).toArray, .pointer (some ⟨Bf, 0, none⟩)] w fun e w' => e = .returned (.bool (hpOk W D h)) ∧ Below w.heap.size w w' := by
  have past : ∀ (w' : World) (o : Obj) (b k : Nat) (v : Value), w'.cell? ⟨b, k, none⟩ = some v → (w'.alloc o).cell? ⟨b, k, none⟩ = some v := fun w' o b k v h => (World.cell?_alloc_past _ _ _ (World.block_lt_of_cell? w' _ h)).trans h
  have cf1 := fun o => past _ o _ _ _ hf
  have cf2 := fun o1 o2 => past _ o2 _ _ _ (past _ o1 _ _ _ hf)
  have Sa := Lib.hid (fun o1 : Obj => spt_any W D h.a Bc (w.alloc o1) (past _ _ _ _ _ hw) (past _ _ _ _ _ hd))
  have Sb := Lib.hid (fun o1 o2 : Obj => spt_any W D h.b Bc ((w.alloc o1).alloc o2) (past _ _ _ _ _ (past _ _ _ _ _ hw)) (past _ _ _ _ _ (past _ _ _ _ _ hd)))
  obtain ⟨r0, h0⟩ : ∃ r, sptOk W D h.a = r := ⟨_, rfl⟩
  have H0 := Lib.hid h0
  cases r0 with
  | false =>
    have H : Hid (hpOk W D h = false) := by show _ = _; unfold hpOk; simp [h0]
    clear h0 past hw hd hf
    unfold hpC
    go_enter Tryz.func33, Tryz.ntmps33
    go_wp2_with fail
    refine (Sa.out _).mono ?_
    rw [H0.out]
    rintro e w9 ⟨rfl, rfl⟩
    go_wp2
    go_ret
    exact ⟨ret_bool H.out.symm, (by (repeat (first | exact Below.refl _ _ | refine Below.alloc ?_ (by simp; try omega) _)))⟩
  | true =>
  obtain ⟨r1, h1⟩ : ∃ r, sptOk W D h.b = r := ⟨_, rfl⟩
  have H1 := Lib.hid h1
  cases r1 with
  | false =>
    have H : Hid (hpOk W D h = false) := by show _ = _; unfold hpOk; simp [h0, h1]
    clear h0 h1 past hw hd hf
    unfold hpC
    go_enter Tryz.func33, Tryz.ntmps33
    go_wp2_with fail
    refine (Sa.out _).mono ?_
    rw [H0.out]
    rintro e w9 ⟨rfl, rfl⟩
    go_wp2_with fail
    refine (Sb.out _ _).mono ?_
    rw [H1.out]
    rintro e w9 ⟨rfl, rfl⟩
    go_wp2
    go_ret
    exact ⟨ret_bool H.out.symm, (by (repeat (first | exact Below.refl _ _ | refine Below.alloc ?_ (by simp; try omega) _)))⟩
  | true =>
  by_cases h2 : 1 ≤ h.area
  rotate_left
  · have d2 : decide (1 ≤ h.area) = false := decide_eq_false h2
    have H : Hid (hpOk W D h = false) := by show _ = _; unfold hpOk; simp [h0, h1, h2]
    clear h0 h1 h2 past hw hd hf
    unfold hpC
    go_enter Tryz.func33, Tryz.ntmps33
    go_wp2_with fail
    refine (Sa.out _).mono ?_
    rw [H0.out]
    rintro e w9 ⟨rfl, rfl⟩
    go_wp2_with fail
    refine (Sb.out _ _).mono ?_
    rw [H1.out]
    rintro e w9 ⟨rfl, rfl⟩
    go_wp2
    go_ret
    exact ⟨ret_bool H.out.symm, (by (repeat (first | exact Below.refl _ _ | refine Below.alloc ?_ (by simp; try omega) _)))⟩
  have d2 : decide (1 ≤ h.area) = true := decide_eq_true h2
  by_cases h3 : h.area ≤ 7
  rotate_left
  · have d3 : decide (h.area ≤ 7) = false := decide_eq_false h3
    have H : Hid (hpOk W D h = false) := by show _ = _; unfold hpOk; simp [h0, h1, h2, h3]
    clear h0 h1 h2 h3 past hw hd hf
    unfold hpC
    go_enter Tryz.func33, Tryz.ntmps33
    go_wp2_with fail
    refine (Sa.out _).mono ?_
    rw [H0.out]
    rintro e w9 ⟨rfl, rfl⟩
    go_wp2_with fail
    refine (Sb.out _ _).mono ?_
    rw [H1.out]
    rintro e w9 ⟨rfl, rfl⟩
    go_wp2
    go_ret
    exact ⟨ret_bool H.out.symm, (by (repeat (first | exact Below.refl _ _ | refine Below.alloc ?_ (by simp; try omega) _)))⟩
  have d3 : decide (h.area ≤ 7) = true := decide_eq_true h3
  by_cases h4 : 0 ≤ h.cost
  rotate_left
  · have d4 : decide (0 ≤ h.cost) = false := decide_eq_false h4
    have H : Hid (hpOk W D h = false) := by show _ = _; unfold hpOk; simp [h0, h1, h2, h3, h4]
    clear h0 h1 h2 h3 h4 past hw hd hf
    unfold hpC
    go_enter Tryz.func33, Tryz.ntmps33
    go_wp2_with fail
    refine (Sa.out _).mono ?_
    rw [H0.out]
    rintro e w9 ⟨rfl, rfl⟩
    go_wp2_with fail
    refine (Sb.out _ _).mono ?_
    rw [H1.out]
    rintro e w9 ⟨rfl, rfl⟩
    go_wp2
    go_ret
    exact ⟨ret_bool H.out.symm, (by (repeat (first | exact Below.refl _ _ | refine Below.alloc ?_ (by simp; try omega) _)))⟩
  have d4 : decide (0 ≤ h.cost) = true := decide_eq_true h4
  have H : Hid (hpOk W D h = (decide (h.cost ≤ 1048576))) := by show _ = _; unfold hpOk; simp [h0, h1, h2, h3, h4]
  clear h0 h1 h2 h3 h4 past hw hd hf
  unfold hpC
  go_enter Tryz.func33, Tryz.ntmps33
  go_wp2_with fail
  refine (Sa.out _).mono ?_
  rw [H0.out]
  rintro e w9 ⟨rfl, rfl⟩
  go_wp2_with fail
  refine (Sb.out _ _).mono ?_
  rw [H1.out]
  rintro e w9 ⟨rfl, rfl⟩
  go_wp2
  go_ret
  exact ⟨ret_bool H.out.symm, (by (repeat (first | exact Below.refl _ _ | refine Below.alloc ?_ (by simp; try omega) _)))⟩

/-- The list of what is asked of hops: a value. -/
def hopsV (Bf : Nat) : List Value := [.func (.func 32) #[] #[], .func (.func 33) #[] #[.pointer (some ⟨Bf, 0, none⟩)], .int .i64 16, .int .i64 2]
set_option maxRecDepth 100000 in
set_option maxHeartbeats 1000000 in
theorem hops_any (c : Cfg) (w : World) : Calls Tryz.prog 22 #[cfgV c] w fun e w' => e = .returned (.agg (hopsV (w.heap.size + 2)).toArray) ∧ w'.cell? ⟨w.heap.size, 5, none⟩ = some (.int .i64 c.w) ∧ w'.cell? ⟨w.heap.size, 6, none⟩ = some (.int .i64 c.d) ∧ w'.cell? ⟨w.heap.size + 2, 0, none⟩ = some (.func (.func 30) #[] #[.pointer (some ⟨w.heap.size, 0, none⟩)]) ∧ Below w.heap.size w w' := by
  have hN := fun o1 o2 o3 : Obj => (Below.heap_alloc ((w.alloc o1).alloc o2) o3 w.heap.size (by simp; omega)).trans ((Below.heap_alloc (w.alloc o1) o2 w.heap.size (by simp)).trans (World.alloc_heap_new w o1))
  have hF := fun o1 o2 o3 : Obj => World.alloc_heap_new ((w.alloc o1).alloc o2) o3
  simp only [World.size_alloc, Nat.add_assoc, Nat.reduceAdd] at hF
  unfold hopsV cfgV
  go_enter Tryz.func22, Tryz.ntmps22
  go_wp2
  refine bodyPost_ret (v := .agg #[.func (.func 32) #[] #[], .func (.func 33) #[] #[.pointer (some ⟨w.heap.size + 2, 0, none⟩)], .int .i64 16, .int .i64 2]) (by simp [results, Tryz.results22, go_sem]) rfl ?_
  refine ⟨rfl, ?_, ?_, ?_, by (repeat (first | exact Below.refl _ _ | refine Below.alloc ?_ (by simp; try omega) _))⟩
  · exact cell_heap (hN _ _ _) rfl
  · exact cell_heap (hN _ _ _) rfl
  · exact cell_heap (hF _ _ _) rfl

end Go.Proofs.YtmgkkmcihplojaaGreat

namespace Go.Proofs.YtmgkkmcihplojaaGreat
open Go.RowKit Go.Sort
attribute [local go_sem] run_store_func

set_option maxRecDepth 100000 in
set_option maxHeartbeats 2000000 in
theorem one_hp (W D : Int) (t : Hp) (Bc Bf : Nat) (w : World) (hw : w.cell? ⟨Bc, 5, none⟩ = some (.int .i64 W)) (hd : w.cell? ⟨Bc, 6, none⟩ = some (.int .i64 D)) (hf : w.cell? ⟨Bf, 0, none⟩ = some (.func (.func 30) #[] #[.pointer (some ⟨Bc, 0, none⟩)])) :
    Calls Tryz.prog 34 #[.agg (hopsV Bf).toArray, .agg (hpC t).toArray] w fun e w' => e = .returned (.bool (idOk t.id && hpOk W D t)) ∧ Below w.heap.size w w' := by
  have past : ∀ (w' : World) (o : Obj) (b k : Nat) (v : Value), w'.cell? ⟨b, k, none⟩ = some v → (w'.alloc o).cell? ⟨b, k, none⟩ = some v := fun w' o b k v h => (World.cell?_alloc_past _ _ _ (World.block_lt_of_cell? w' _ h)).trans h
  have Chw := Lib.hid (fun o1 o2 o3 o4 => past _ o4 _ _ _ (past _ o3 _ _ _ (past _ o2 _ _ _ (past _ o1 _ _ _ hw))))
  have Chd := Lib.hid (fun o1 o2 o3 o4 => past _ o4 _ _ _ (past _ o3 _ _ _ (past _ o2 _ _ _ (past _ o1 _ _ _ hd))))
  have Chf := Lib.hid (fun o1 o2 o3 o4 => past _ o4 _ _ _ (past _ o3 _ _ _ (past _ o2 _ _ _ (past _ o1 _ _ _ hf))))
  have Hc := Lib.hid (fun (w' : World) => hpmay_any W D t Bc Bf w')
  have HT1 := Lib.hid (fun (w' : World) => hopid_any t w')
  clear past hw hd hf
  obtain ⟨r, hr⟩ : ∃ r, r = hpOk W D t := ⟨_, rfl⟩
  rw [← hr] at Hc ⊢
  clear hr
  unfold hopsV hpC
  unfold hpC at HT1
  unfold hpC at Hc
  obtain ⟨id, hid⟩ : ∃ id, id = t.id := ⟨_, rfl⟩
  rw [← hid] at HT1 Hc ⊢
  clear hid
  by_cases h1 : 1 ≤ id
  · have d1 : decide (1 ≤ id) = true := decide_eq_true h1
    by_cases h2 : id ≤ 1073741824
    · have d2 : decide (id ≤ 1073741824) = true := decide_eq_true h2
      have Hi : Hid (idOk id = true) := by show _ = _; unfold idOk; rw [d1, d2]; rfl
      clear h1 h2
      go_enter Tryz.func34, Tryz.ntmps34
      go_wp2_with fail
      refine (HT1.out _).mono ?_
      rintro e w1 ⟨rfl, rfl⟩
      go_wp2_with fail
      refine (HT1.out _).mono ?_
      rintro e w1 ⟨rfl, rfl⟩
      go_wp2_with fail
      refine (Hc.out _ (Chw.out _ _ _ _) (Chd.out _ _ _ _) (Chf.out _ _ _ _)).mono ?_
      rintro e w3 ⟨rfl, hb3⟩
      have hb0 : Below w.heap.size w w3 := by refine Below.trans ?_ (hb3.mono (by simp; omega)); (repeat (first | exact Below.refl _ _ | refine Below.alloc ?_ (by simp; try omega) _))
      clear hb3
      go_wp2
      go_ret
      exact ⟨ret_bool (by rw [Hi.out]; rfl), hb0⟩
    · have d2 : decide (id ≤ 1073741824) = false := decide_eq_false h2
      have Hi : Hid (idOk id = false) := by show _ = _; unfold idOk; rw [d1, d2]; rfl
      clear h1 h2
      go_enter Tryz.func34, Tryz.ntmps34
      go_wp2_with fail
      refine (HT1.out _).mono ?_
      rintro e w1 ⟨rfl, rfl⟩
      go_wp2_with fail
      refine (HT1.out _).mono ?_
      rintro e w1 ⟨rfl, rfl⟩
      go_wp2
      go_ret
      exact ⟨ret_bool (by rw [Hi.out]; rfl), by (repeat (first | exact Below.refl _ _ | refine Below.alloc ?_ (by simp; try omega) _))⟩
  · have d1 : decide (1 ≤ id) = false := decide_eq_false h1
    have Hi : Hid (idOk id = false) := by show _ = _; unfold idOk; rw [d1]; rfl
    clear h1
    go_enter Tryz.func34, Tryz.ntmps34
    go_wp2_with fail
    refine (HT1.out _).mono ?_
    rintro e w1 ⟨rfl, rfl⟩
    go_wp2
    go_ret
    exact ⟨ret_bool (by rw [Hi.out]; rfl), by (repeat (first | exact Below.refl _ _ | refine Below.alloc ?_ (by simp; try omega) _))⟩

set_option maxRecDepth 100000 in
set_option maxHeartbeats 4000000 in
theorem check_hp (W D : Int) (a : Option Addr) (n c : Nat) (xs : List Hp) (Bc Bf : Nat) (w : World) (hx : SlR hpC 10 w a n c xs) (hw : w.cell? ⟨Bc, 5, none⟩ = some (.int .i64 W)) (hd : w.cell? ⟨Bc, 6, none⟩ = some (.int .i64 D)) (hf : w.cell? ⟨Bf, 0, none⟩ = some (.func (.func 30) #[] #[.pointer (some ⟨Bc, 0, none⟩)])) :
    Calls Tryz.prog 52 #[.agg (hopsV Bf).toArray, .slice a n c] w fun e w' => e = .returned (.bool (decide (n ≤ 16) && rowOk Hp.id (hpOk W D) 0 xs)) ∧ Below w.heap.size w w' := by
  have hmax := hx.max
  have hle := hx.le
  have Hl := Lib.hid hx.len
  have Hx := Lib.hid hx
  have Hhw := Lib.hid hw
  have Hhd := Lib.hid hd
  have Hhf := Lib.hid hf
  clear hx hw hd hf
  unfold hopsV
  by_cases hn : n ≤ 16
  · have hnI : ¬ (16 : Int) < (n : Int) := by omega
    have hnJ : decide ((16 : Int) < (n : Int)) = false := decide_eq_false hnI
    have hnK : decide (16 < n) = false := decide_eq_false (by omega)
    have Hn : Hid (decide (n ≤ 16) = true) := decide_eq_true hn
    go_enter Tryz.func52, Tryz.ntmps52
    go_wp2
    have hLo : (w.alloc (.cells #[.func (.func 32) #[] #[], .func (.func 33) #[] #[.pointer (some ⟨Bf, 0, none⟩)], .int .i64 16, .int .i64 2] 75)).heap[w.heap.size]? = some (.cells #[.func (.func 32) #[] #[], .func (.func 33) #[] #[.pointer (some ⟨Bf, 0, none⟩)], .int .i64 16, .int .i64 2] 75 (0, 0)) := World.alloc_heap_new _ _
    have hB0 : Below w.heap.size w (w.alloc (.cells #[.func (.func 32) #[] #[], .func (.func 33) #[] #[.pointer (some ⟨Bf, 0, none⟩)], .int .i64 16, .int .i64 2] 75)) := (Below.refl _ _).alloc (Nat.le_refl _) _
    obtain ⟨V, hV⟩ : ∃ V, V = (w.alloc (.cells #[.func (.func 32) #[] #[], .func (.func 33) #[] #[.pointer (some ⟨Bf, 0, none⟩)], .int .i64 16, .int .i64 2] 75)) := ⟨_, rfl⟩
    rw [← hV] at hLo hB0 ⊢
    have hVs : V.heap.size = w.heap.size + 1 := by rw [hV]; simp
    clear hV
    go_loopw [5, 15] (fun x y wr => ∃ (k : Nat) (last : Int), x = .int .i64 last ∧ y = .int .i64 k ∧ k ≤ n ∧ Hid (rowOk Hp.id (hpOk W D) 0 xs = rowOk Hp.id (hpOk W D) last (xs.drop k)) ∧ Below V.heap.size V wr) (fun _ y _ => n - (intOf y).toNat)
    case atStart => exact ⟨0, 0, rfl, rfl, Nat.zero_le _, rfl, Below.refl _ _⟩
    case round =>
      obtain ⟨k, last, rfl, rfl, hk, HR, hbr⟩ := hrel
      obtain ⟨wj, rfl⟩ : ∃ wj : World, wj = wr := ⟨_, rfl⟩
      have hbw := hB0.trans (hbr.mono hB0.size)
      have hbws := hbw.size
      have hVj := hbr.size
      rw [hVs] at hVj
      by_cases hlt : k < n
      · have hltI : (k : Int) < (n : Int) := by omega
        obtain ⟨t, ht⟩ : ∃ t, xs[k]? = some t := ⟨_, List.getElem?_eq_getElem (by rw [Hl.out]; exact hlt)⟩
        obtain ⟨b, off, rfl, _, hcell⟩ := (Hx.out.below hbw (Nat.le_refl _)).at0 (by omega)
        have ct := hcell k t ht
        have c0 := ct 0 _ rfl
        have c1 := ct 1 _ rfl
        have c2 := ct 2 _ rfl
        have c3 := ct 3 _ rfl
        have c4 := ct 4 _ rfl
        have c5 := ct 5 _ rfl
        have c6 := ct 6 _ rfl
        have c7 := ct 7 _ rfl
        have c8 := ct 8 _ rfl
        have c9 := ct 9 _ rfl
        simp only [Nat.add_zero] at c0
        have hL := (hbr.block w.heap.size (by omega)).trans hLo
        have hL1 := fun o : Obj => (Below.heap_alloc wj o w.heap.size (by omega)).trans hL
        have l0 := fun o : Obj => (cell_heap (k := 0) (v := .func (.func 32) #[] #[]) (hL1 o) rfl)
        have l1 := fun o : Obj => (cell_heap (k := 1) (v := .func (.func 33) #[] #[.pointer (some ⟨Bf, 0, none⟩)]) (hL1 o) rfl)
        have l2 := fun o : Obj => (cell_heap (k := 2) (v := .int .i64 16) (hL1 o) rfl)
        have l3 := fun o : Obj => (cell_heap (k := 3) (v := .int .i64 2) (hL1 o) rfl)
        have Hstep := Lib.hid (rowOk_drop (id := Hp.id) (ok := hpOk W D) (last := last) ht)
        have HT1 := Lib.hid (fun w' : World => hopid_any t w')
        have hwj := (hbw.cell (World.block_lt_of_cell? w _ Hhw.out)).trans Hhw.out
        have Jhw := Lib.hid (fun o : Obj => (World.cell?_alloc_past o _ _ (World.block_lt_of_cell? wj _ hwj)).trans hwj)
        have hdj := (hbw.cell (World.block_lt_of_cell? w _ Hhd.out)).trans Hhd.out
        have Jhd := Lib.hid (fun o : Obj => (World.cell?_alloc_past o _ _ (World.block_lt_of_cell? wj _ hdj)).trans hdj)
        have hfj := (hbw.cell (World.block_lt_of_cell? w _ Hhf.out)).trans Hhf.out
        have Jhf := Lib.hid (fun o : Obj => (World.cell?_alloc_past o _ _ (World.block_lt_of_cell? wj _ hfj)).trans hfj)
        have Hone := Lib.hid (fun (o : Obj) => one_hp W D t Bc Bf (wj.alloc o) (Jhw.out o) (Jhd.out o) (Jhf.out o))
        have HL1 := Lib.hid hL1
        clear ct hcell hL ht hwj hdj hfj hL1
        go_wp2_with fail
        refine (Hone.out _).mono ?_
        rintro e W2 ⟨rfl, hb2⟩
        have hb2w : Below V.heap.size V W2 := hbr.trans (((Below.refl _ wj).alloc (Nat.le_refl _) _ |>.trans (hb2.mono (by simp))).mono hbr.size)
        have hs2 := hb2.size
        simp only [World.size_alloc] at hs2
        have hL2 : W2.heap[w.heap.size]? = some (.cells #[.func (.func 32) #[] #[], .func (.func 33) #[] #[.pointer (some ⟨Bf, 0, none⟩)], .int .i64 16, .int .i64 2] 75 (0, 0)) := (hb2.block w.heap.size (by simp; omega)).trans (HL1.out _)
        have hT2 : W2.heap[wj.heap.size]? = some (.cells #[.int .i64 t.id, .int .i64 t.a.x, .int .i64 t.a.z, .int .i64 t.a.y, .int .i64 t.b.x, .int .i64 t.b.z, .int .i64 t.b.y, .bool t.both, .int .i64 t.area, .int .i64 t.cost] 46 (0, 0)) := (hb2.block wj.heap.size (by simp)).trans (World.alloc_heap_new _ _)
        clear l0 l1 l2 l3 c0 c1 c2 c3 c4 c5 c6 c7 c8 c9 hb2
        have hL3 := fun o : Obj => (Below.heap_alloc W2 o w.heap.size (by omega)).trans hL2
        have hT3 := fun o : Obj => (Below.heap_alloc W2 o wj.heap.size (by omega)).trans hT2
        have m0 := cell_heap (k := 0) (v := .func (.func 32) #[] #[]) hL2 rfl
        have n0 := fun o : Obj => (cell_heap (k := 0) (v := .func (.func 32) #[] #[]) (hL3 o) rfl)
        have p0 := cell_heap (k := 0) (v := .int .i64 t.id) hT2 rfl
        have q0 := fun o : Obj => (cell_heap (k := 0) (v := .int .i64 t.id) (hT3 o) rfl)
        have p1 := cell_heap (k := 1) (v := .int .i64 t.a.x) hT2 rfl
        have q1 := fun o : Obj => (cell_heap (k := 1) (v := .int .i64 t.a.x) (hT3 o) rfl)
        have p2 := cell_heap (k := 2) (v := .int .i64 t.a.z) hT2 rfl
        have q2 := fun o : Obj => (cell_heap (k := 2) (v := .int .i64 t.a.z) (hT3 o) rfl)
        have p3 := cell_heap (k := 3) (v := .int .i64 t.a.y) hT2 rfl
        have q3 := fun o : Obj => (cell_heap (k := 3) (v := .int .i64 t.a.y) (hT3 o) rfl)
        have p4 := cell_heap (k := 4) (v := .int .i64 t.b.x) hT2 rfl
        have q4 := fun o : Obj => (cell_heap (k := 4) (v := .int .i64 t.b.x) (hT3 o) rfl)
        have p5 := cell_heap (k := 5) (v := .int .i64 t.b.z) hT2 rfl
        have q5 := fun o : Obj => (cell_heap (k := 5) (v := .int .i64 t.b.z) (hT3 o) rfl)
        have p6 := cell_heap (k := 6) (v := .int .i64 t.b.y) hT2 rfl
        have q6 := fun o : Obj => (cell_heap (k := 6) (v := .int .i64 t.b.y) (hT3 o) rfl)
        have p7 := cell_heap (k := 7) (v := .bool t.both) hT2 rfl
        have q7 := fun o : Obj => (cell_heap (k := 7) (v := .bool t.both) (hT3 o) rfl)
        have p8 := cell_heap (k := 8) (v := .int .i64 t.area) hT2 rfl
        have q8 := fun o : Obj => (cell_heap (k := 8) (v := .int .i64 t.area) (hT3 o) rfl)
        have p9 := cell_heap (k := 9) (v := .int .i64 t.cost) hT2 rfl
        have q9 := fun o : Obj => (cell_heap (k := 9) (v := .int .i64 t.cost) (hT3 o) rfl)
        clear hL2 hT2 hL3 hT3 Hone
        obtain ⟨r, hr⟩ : ∃ r, r = (idOk t.id && hpOk W D t) := ⟨_, rfl⟩
        rw [← hr] at Hstep ⊢
        have hB2 := hB0.trans (hb2w.mono hB0.size)
        clear hr
        cases r with
        | false =>
          have hno : Hid (rowOk Hp.id (hpOk W D) 0 xs = false) := by show _ = _; rw [HR.out, Hstep.out]; rfl
          go_wp2
          go_ret
          exact ⟨ret_bool (by first | exact hno.out.symm | rw [hno.out, Bool.and_false]), hB2⟩
        | true =>
          by_cases hid : t.id ≤ last
          · have dl : decide (t.id ≤ last) = true := decide_eq_true hid
            have hno : Hid (rowOk Hp.id (hpOk W D) 0 xs = false) := by show _ = _; rw [HR.out, Hstep.out, decide_eq_false (show ¬ last < t.id by omega)]; rfl
            clear hid
            go_wp2_with fail
            refine (HT1.out _).mono ?_
            rintro e w9 ⟨rfl, rfl⟩
            go_wp2
            go_ret
            exact ⟨ret_bool (by first | exact hno.out.symm | rw [hno.out, Bool.and_false]), hB2.alloc hB2.size _⟩
          · have dl : decide (t.id ≤ last) = false := decide_eq_false hid
            have hyes : Hid (rowOk Hp.id (hpOk W D) 0 xs = rowOk Hp.id (hpOk W D) t.id (xs.drop (k + 1))) := by show _ = _; rw [HR.out, Hstep.out, decide_eq_true (show last < t.id by omega)]; rfl
            clear hid
            go_wp2_with fail
            refine (HT1.out _).mono ?_
            rintro e w9 ⟨rfl, rfl⟩
            go_wp2_with fail
            refine (HT1.out _).mono ?_
            rintro e w9 ⟨rfl, rfl⟩
            have hb4 := (hb2w.alloc hb2w.size (.cells (hpC t).toArray 46)).alloc (by have := hb2w.size; simp; omega) (.cells (hpC t).toArray 46)
            go_wp2
            go_roundw
            case rel => exact ⟨k + 1, t.id, rfl, by go_num, by omega, hyes, hb4⟩
            case measure => simp [intOf]; omega
      · obtain rfl : n = k := by omega
        have hltn : ¬ (n : Int) < (n : Int) := by omega
        have hall : Hid (rowOk Hp.id (hpOk W D) 0 xs = true) := by show _ = _; rw [HR.out, List.drop_of_length_le (by rw [Hl.out]; exact Nat.le_refl _)]; rfl
        go_wp2
        go_ret
        exact ⟨ret_bool (by first | exact hall.out.symm | (rw [Hn.out, hall.out]; rfl)), hbw⟩
  · have hnJ : decide ((16 : Int) < (n : Int)) = true := decide_eq_true (by omega)
    have hnK : decide (16 < n) = true := decide_eq_true (by omega)
    have Hn : Hid (decide (n ≤ 16) = false) := decide_eq_false hn
    clear hn
    go_enter Tryz.func52, Tryz.ntmps52
    go_wp2
    go_ret
    exact ⟨ret_bool (by rw [Hn.out]; rfl), (Below.refl _ _).alloc (Nat.le_refl _) _⟩

end Go.Proofs.YtmgkkmcihplojaaGreat

namespace Go.Proofs.YtmgkkmcihplojaaGreat
open Go.RowKit Go.Sort

/-- A slice's head. -/
structure SHead where
  a : Option Addr
  n : Nat
  c : Nat
def SHead.v (s : SHead) : Value := .slice s.a s.n s.c
/-- A soup, plain. -/
structure Sou where
  t : List Tri3
  b : List Bx
  h : List Hp
deriving DecidableEq
structure SoupAt (w : World) (p q r : SHead) (s : Sou) : Prop where
  t : SlR triC 10 w p.a p.n p.c s.t
  b : SlR bxC 8 w q.a q.n q.c s.b
  h : SlR hpC 10 w r.a r.n r.c s.h
theorem SoupAt.below {w w' : World} {p q r : SHead} {s : Sou} (h : SoupAt w p q r s) (hb : Below w.heap.size w w') : SoupAt w' p q r s := ⟨h.t.below hb (Nat.le_refl _), h.b.below hb (Nat.le_refl _), h.h.below hb (Nat.le_refl _)⟩
def soupV (p q r : SHead) : Value := .agg #[p.v, q.v, r.v]
def trisOk (c : Cfg) (l : List Tri3) : Bool := decide (l.length ≤ 200) && rowOk Tri3.id (triOk c.w c.d) 0 l
def boxesOk (c : Cfg) (l : List Bx) : Bool := decide (l.length ≤ 16) && rowOk Bx.id (bxOk c.w c.d) 0 l
def hopsOk (c : Cfg) (l : List Hp) : Bool := decide (l.length ≤ 16) && rowOk Hp.id (hpOk c.w c.d) 0 l
def soupE (c : Cfg) (s : Sou) : Int := if cfgOk c then (if trisOk c s.t && boxesOk c s.b && hopsOk c s.h then 0 else 2) else 20
theorem cfgOk_side {c : Cfg} (h : cfgOk c = true) : (0 ≤ c.w ∧ c.w ≤ 32) ∧ (0 ≤ c.d ∧ c.d ≤ 32) := by
  unfold cfgOk at h
  have := of_decide_eq_true h
  omega
theorem below_step {w0 W W2 : World} (h : Below w0.heap.size w0 W) (h2 : Below W.heap.size W W2) : Below w0.heap.size w0 W2 := h.trans (h2.mono h.size)

theorem below_step2 {w w1 W : World} (h : Below w.heap.size w w1) (h2 : Below w1.heap.size w1 W) : Below w.heap.size w W := below_step h h2

set_option maxRecDepth 100000 in
set_option maxHeartbeats 4000000 in
theorem soupcheck_any (c : Cfg) (p q r : SHead) (s : Sou) (w : World) (hs : SoupAt w p q r s) :
    Calls Tryz.prog 28 #[cfgV c, soupV p q r] w fun e w' => e = .returned (.int .i64 (soupE c s)) ∧ Below w.heap.size w w' := by
  obtain ⟨pa, pn, pc⟩ := p
  obtain ⟨qa, qn, qc⟩ := q
  obtain ⟨ra, rn, rc⟩ := r
  obtain ⟨E, hE⟩ : ∃ E, E = soupE c s := ⟨_, rfl⟩
  rw [← hE]
  have HE0 := Lib.hid hE
  clear hE
  have Hs := Lib.hid hs
  have Hc := Lib.hid (fun w' : World => cfgcheck_any c w')
  have lt := Lib.hid hs.t.len
  have lb := Lib.hid hs.b.len
  have lh := Lib.hid hs.h.len
  clear hs
  unfold soupV SHead.v cfgV
  go_enter Tryz.func28, Tryz.ntmps28
  go_wp2_with fail
  refine (Hc.out _).mono ?_
  rintro e w1 ⟨rfl, hb1⟩
  have hb1s := hb1.size
  simp only [World.size_alloc] at hb1s
  have hA : w1.heap[w.heap.size]? = some (.cells #[.int .i64 c.clear, .int .i64 c.climb, .int .i64 c.height, .int .i64 c.rise, .int .i64 c.run, .int .i64 c.w, .int .i64 c.d] 23 (0, 0)) :=
    (hb1.block w.heap.size (by simp; omega)).trans ((Below.heap_alloc _ _ w.heap.size (by simp)).trans (World.alloc_heap_new _ _))
  have hB : w1.heap[w.heap.size + 1]? = some (.cells #[.slice pa pn pc, .slice qa qn qc, .slice ra rn rc] 59 (0, 0)) := by
    refine (hb1.block (w.heap.size + 1) (by simp)).trans ?_
    simpa only [World.size_alloc] using World.alloc_heap_new (w.alloc (.cells #[.int .i64 c.clear, .int .i64 c.climb, .int .i64 c.height, .int .i64 c.rise, .int .i64 c.run, .int .i64 c.w, .int .i64 c.d] 23)) (.cells #[.slice pa pn pc, .slice qa qn qc, .slice ra rn rc] 59)
  have hbw : Below w.heap.size w w1 := (by (repeat (first | exact Below.refl _ _ | refine Below.alloc ?_ (by simp; try omega) _)) : Below w.heap.size w _).trans (hb1.mono (by simp; omega))
  clear hb1
  have HA := Lib.hid (fun (W : World) (hW : Below w1.heap.size w1 W) => (hW.block w.heap.size (by omega)).trans hA)
  have HB := Lib.hid (fun (W : World) (hW : Below w1.heap.size w1 W) => (hW.block (w.heap.size + 1) (by omega)).trans hB)
  have Hbw := Lib.hid hbw
  have HS := Lib.hid (fun (W : World) (hW : Below w1.heap.size w1 W) => (Hs.out.below (below_step hbw hW)))
  clear hA hB hbw hb1s
  cases hok : cfgOk c with
  | false =>
    have HE : Hid (E = 20) := by show _ = _; rw [HE0.out, soupE, hok]; rfl
    rw [show cfgE c = 20 by rw [cfgE, hok]; rfl]
    clear hok HE0
    go_wp2
    go_ret
    exact ⟨ret_int HE.out.symm, Hbw.out⟩
  | true =>
    have HE : Hid (E = if trisOk c s.t && boxesOk c s.b && hopsOk c s.h then 0 else 2) := by show _ = _; rw [HE0.out, soupE, hok]; rfl
    have Hside := Lib.hid (cfgOk_side hok)
    rw [show cfgE c = 0 by rw [cfgE, hok]; rfl]
    clear hok HE0
    obtain ⟨T1, hT1⟩ : ∃ T, T = trisOk c s.t := ⟨_, rfl⟩
    obtain ⟨T2, hT2⟩ : ∃ T, T = boxesOk c s.b := ⟨_, rfl⟩
    obtain ⟨T3, hT3⟩ : ∃ T, T = hopsOk c s.h := ⟨_, rfl⟩
    rw [← hT1, ← hT2, ← hT3] at HE
    have C1 := Lib.hid (fun (W : World) (hW : Below w1.heap.size w1 W) (Bw Bd : Nat) h1 h2 => by
      have := check_tri c.w c.d pa pn pc s.t Bw Bd W (HS.out W hW).t h1 h2 Hside.out.1 Hside.out.2
      rwa [show (decide (pn ≤ 200) && rowOk Tri3.id (triOk c.w c.d) 0 s.t) = T1 by rw [hT1, trisOk, lt.out]] at this)
    have C2 := Lib.hid (fun (W : World) (hW : Below w1.heap.size w1 W) (Bc : Nat) h1 h2 => by
      have := check_bx c.w c.d qa qn qc s.b Bc W (HS.out W hW).b h1 h2
      rwa [show (decide (qn ≤ 16) && rowOk Bx.id (bxOk c.w c.d) 0 s.b) = T2 by rw [hT2, boxesOk, lb.out]] at this)
    have C3 := Lib.hid (fun (W : World) (hW : Below w1.heap.size w1 W) (Bc Bf : Nat) h1 h2 h3 => by
      have := check_hp c.w c.d ra rn rc s.h Bc Bf W (HS.out W hW).h h1 h2 h3
      rwa [show (decide (rn ≤ 16) && rowOk Hp.id (hpOk c.w c.d) 0 s.h) = T3 by rw [hT3, hopsOk, lh.out]] at this)
    have D1 := Lib.hid (fun w' : World => tris_any c.w c.d w')
    have D2 := Lib.hid (fun w' : World => boxes_any c w')
    have D3 := Lib.hid (fun w' : World => hops_any c w')
    clear hT1 hT2 hT3 lt lb lh HS
    go_wp2_with fail
    have KF := Lib.hid (fun (W : World) (hW : Below w1.heap.size w1 W) => (⟨cell_heap (HA.out W hW) rfl, cell_heap (HA.out W hW) rfl, cell_heap (HA.out W hW) rfl, cell_heap (HA.out W hW) rfl, cell_heap (HA.out W hW) rfl, cell_heap (HA.out W hW) rfl, cell_heap (HA.out W hW) rfl, cell_heap (HB.out W hW) rfl, hW⟩ :
      W.cell? ⟨w.heap.size, 0, none⟩ = some (.int .i64 c.clear) ∧ W.cell? ⟨w.heap.size, 1, none⟩ = some (.int .i64 c.climb) ∧ W.cell? ⟨w.heap.size, 2, none⟩ = some (.int .i64 c.height) ∧ W.cell? ⟨w.heap.size, 3, none⟩ = some (.int .i64 c.rise) ∧ W.cell? ⟨w.heap.size, 4, none⟩ = some (.int .i64 c.run) ∧ W.cell? ⟨w.heap.size, 5, none⟩ = some (.int .i64 c.w) ∧ W.cell? ⟨w.heap.size, 6, none⟩ = some (.int .i64 c.d) ∧ W.cell? ⟨w.heap.size + 1, 0, none⟩ = some (.slice pa pn pc) ∧ Below w1.heap.size w1 W))
    go_region_held3 (fun W => W.cell? ⟨w.heap.size, 0, none⟩ = some (.int .i64 c.clear) ∧ W.cell? ⟨w.heap.size, 1, none⟩ = some (.int .i64 c.climb) ∧ W.cell? ⟨w.heap.size, 2, none⟩ = some (.int .i64 c.height) ∧ W.cell? ⟨w.heap.size, 3, none⟩ = some (.int .i64 c.rise) ∧ W.cell? ⟨w.heap.size, 4, none⟩ = some (.int .i64 c.run) ∧ W.cell? ⟨w.heap.size, 5, none⟩ = some (.int .i64 c.w) ∧ W.cell? ⟨w.heap.size, 6, none⟩ = some (.int .i64 c.d) ∧ W.cell? ⟨w.heap.size + 1, 0, none⟩ = some (.slice pa pn pc) ∧ Below w1.heap.size w1 W)
      (first
        | exact KF.out _ (Below.refl _ _).drew
        | (go_split_ands; exact KF.out _ (below_step (by assumption) hb2)))
      (first
        | (go_at_call 48; refine (D1.out _).mono ?_; rintro e w2 ⟨rfl, hw2, hd2, hb2⟩)
        | (go_at_call 49; go_split_ands; refine (C1.out _ (by assumption) _ _ hw2 hd2).mono ?_; rintro e w2 ⟨rfl, hb2⟩))
    rename_i hH
    have hb3 := hH.2.2.2.2.2.2.2.2
    clear hH KF
    cases T1 with
    | false =>
      have HF : Hid (E = 2) := by show _ = _; rw [HE.out]; simp
      go_wp2
      go_ret
      exact ⟨ret_int HF.out.symm, below_step2 Hbw.out hb3⟩
    | true =>
      go_wp2_with fail
      have KF := Lib.hid (fun (W : World) (hW : Below w1.heap.size w1 W) => (⟨cell_heap (HA.out W hW) rfl, cell_heap (HA.out W hW) rfl, cell_heap (HA.out W hW) rfl, cell_heap (HA.out W hW) rfl, cell_heap (HA.out W hW) rfl, cell_heap (HA.out W hW) rfl, cell_heap (HA.out W hW) rfl, cell_heap (HB.out W hW) rfl, hW⟩ :
        W.cell? ⟨w.heap.size, 0, none⟩ = some (.int .i64 c.clear) ∧ W.cell? ⟨w.heap.size, 1, none⟩ = some (.int .i64 c.climb) ∧ W.cell? ⟨w.heap.size, 2, none⟩ = some (.int .i64 c.height) ∧ W.cell? ⟨w.heap.size, 3, none⟩ = some (.int .i64 c.rise) ∧ W.cell? ⟨w.heap.size, 4, none⟩ = some (.int .i64 c.run) ∧ W.cell? ⟨w.heap.size, 5, none⟩ = some (.int .i64 c.w) ∧ W.cell? ⟨w.heap.size, 6, none⟩ = some (.int .i64 c.d) ∧ W.cell? ⟨w.heap.size + 1, 1, none⟩ = some (.slice qa qn qc) ∧ Below w1.heap.size w1 W))
      go_region_held3 (fun W => W.cell? ⟨w.heap.size, 0, none⟩ = some (.int .i64 c.clear) ∧ W.cell? ⟨w.heap.size, 1, none⟩ = some (.int .i64 c.climb) ∧ W.cell? ⟨w.heap.size, 2, none⟩ = some (.int .i64 c.height) ∧ W.cell? ⟨w.heap.size, 3, none⟩ = some (.int .i64 c.rise) ∧ W.cell? ⟨w.heap.size, 4, none⟩ = some (.int .i64 c.run) ∧ W.cell? ⟨w.heap.size, 5, none⟩ = some (.int .i64 c.w) ∧ W.cell? ⟨w.heap.size, 6, none⟩ = some (.int .i64 c.d) ∧ W.cell? ⟨w.heap.size + 1, 1, none⟩ = some (.slice qa qn qc) ∧ Below w1.heap.size w1 W)
        (first
          | exact KF.out _ (hb3).drew
          | (go_split_ands; exact KF.out _ (below_step (by assumption) hb2)))
        (first
          | (go_at_call 50; refine (D2.out _).mono ?_; rintro e w2 ⟨rfl, hw2, hd2, hb2⟩)
          | (go_at_call 51; go_split_ands; refine (C2.out _ (by assumption) _ hw2 hd2).mono ?_; rintro e w2 ⟨rfl, hb2⟩))
      rename_i hH
      have hb4 := hH.2.2.2.2.2.2.2.2
      clear hH KF
      cases T2 with
      | false =>
        have HF : Hid (E = 2) := by show _ = _; rw [HE.out]; simp
        go_wp2
        go_ret
        exact ⟨ret_int HF.out.symm, below_step2 Hbw.out hb4⟩
      | true =>
        go_wp2_with fail
        have KF := Lib.hid (fun (W : World) (hW : Below w1.heap.size w1 W) => (⟨cell_heap (HA.out W hW) rfl, cell_heap (HA.out W hW) rfl, cell_heap (HA.out W hW) rfl, cell_heap (HA.out W hW) rfl, cell_heap (HA.out W hW) rfl, cell_heap (HA.out W hW) rfl, cell_heap (HA.out W hW) rfl, cell_heap (HB.out W hW) rfl, hW⟩ :
          W.cell? ⟨w.heap.size, 0, none⟩ = some (.int .i64 c.clear) ∧ W.cell? ⟨w.heap.size, 1, none⟩ = some (.int .i64 c.climb) ∧ W.cell? ⟨w.heap.size, 2, none⟩ = some (.int .i64 c.height) ∧ W.cell? ⟨w.heap.size, 3, none⟩ = some (.int .i64 c.rise) ∧ W.cell? ⟨w.heap.size, 4, none⟩ = some (.int .i64 c.run) ∧ W.cell? ⟨w.heap.size, 5, none⟩ = some (.int .i64 c.w) ∧ W.cell? ⟨w.heap.size, 6, none⟩ = some (.int .i64 c.d) ∧ W.cell? ⟨w.heap.size + 1, 2, none⟩ = some (.slice ra rn rc) ∧ Below w1.heap.size w1 W))
        go_region_held3 (fun W => W.cell? ⟨w.heap.size, 0, none⟩ = some (.int .i64 c.clear) ∧ W.cell? ⟨w.heap.size, 1, none⟩ = some (.int .i64 c.climb) ∧ W.cell? ⟨w.heap.size, 2, none⟩ = some (.int .i64 c.height) ∧ W.cell? ⟨w.heap.size, 3, none⟩ = some (.int .i64 c.rise) ∧ W.cell? ⟨w.heap.size, 4, none⟩ = some (.int .i64 c.run) ∧ W.cell? ⟨w.heap.size, 5, none⟩ = some (.int .i64 c.w) ∧ W.cell? ⟨w.heap.size, 6, none⟩ = some (.int .i64 c.d) ∧ W.cell? ⟨w.heap.size + 1, 2, none⟩ = some (.slice ra rn rc) ∧ Below w1.heap.size w1 W)
          (first
            | exact KF.out _ (hb4).drew
            | (go_split_ands; exact KF.out _ (below_step (by assumption) hb2)))
          (first
            | (go_at_call 22; refine (D3.out _).mono ?_; rintro e w2 ⟨rfl, hw2, hd2, hf2, hb2⟩)
            | (go_at_call 52; go_split_ands; refine (C3.out _ (by assumption) _ _ hw2 hd2 hf2).mono ?_; rintro e w2 ⟨rfl, hb2⟩))
        rename_i hH
        have hb5 := hH.2.2.2.2.2.2.2.2
        clear hH KF
        cases T3 with
        | false =>
          have HF : Hid (E = 2) := by show _ = _; rw [HE.out]; simp
          go_wp2
          go_ret
          exact ⟨ret_int HF.out.symm, below_step2 Hbw.out hb5⟩
        | true =>
          have HF : Hid (E = 0) := by show _ = _; rw [HE.out]; simp
          go_wp2
          go_ret
          exact ⟨ret_int HF.out.symm, below_step2 Hbw.out hb5⟩

end Go.Proofs.YtmgkkmcihplojaaGreat
