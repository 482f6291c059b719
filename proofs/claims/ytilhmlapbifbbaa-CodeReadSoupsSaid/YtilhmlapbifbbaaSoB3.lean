/- Walks: rows of boxes that may be. -/
import Derived.Test.YtilhmlapbifbbaaSoB2
namespace Go.Proofs.Ytilhmlapbifbbaa
open Go.RowKit Go.Sort
attribute [local go_sem] run_store_func

set_option maxRecDepth 100000 in
set_option maxHeartbeats 2000000 in
theorem one_bx (W D : Int) (t : Bx) (Bc : Nat) (w : World) (hw : w.cell? ⟨Bc, 5, none⟩ = some (.int .i64 W)) (hd : w.cell? ⟨Bc, 6, none⟩ = some (.int .i64 D)) :
    Calls Try.prog 140 #[.agg (boxesV Bc).toArray, .agg (bxC t).toArray] w fun e w' => e = .returned (.bool (idOk t.id && bxOk W D t)) ∧ Below w.heap.size w w' := by
  have past : ∀ (w' : World) (o : Obj) (b k : Nat) (v : Value), w'.cell? ⟨b, k, none⟩ = some v → (w'.alloc o).cell? ⟨b, k, none⟩ = some v := fun w' o b k v h => (World.cell?_alloc_past _ _ _ (World.block_lt_of_cell? w' _ h)).trans h
  have Chw := Lib.hid (fun o1 o2 o3 o4 => past _ o4 _ _ _ (past _ o3 _ _ _ (past _ o2 _ _ _ (past _ o1 _ _ _ hw))))
  have Chd := Lib.hid (fun o1 o2 o3 o4 => past _ o4 _ _ _ (past _ o3 _ _ _ (past _ o2 _ _ _ (past _ o1 _ _ _ hd))))
  have Hc := Lib.hid (fun (w' : World) => bxmay_any W D t Bc w')
  have HT1 := Lib.hid (fun (w' : World) => boxid_any t w')
  clear past hw hd
  obtain ⟨r, hr⟩ : ∃ r, r = bxOk W D t := ⟨_, rfl⟩
  rw [← hr] at Hc ⊢
  clear hr
  unfold boxesV bxC
  unfold bxC at HT1
  unfold bxC at Hc
  obtain ⟨id, hid⟩ : ∃ id, id = t.id := ⟨_, rfl⟩
  rw [← hid] at HT1 Hc ⊢
  clear hid
  by_cases h1 : 1 ≤ id
  · have d1 : decide (1 ≤ id) = true := decide_eq_true h1
    by_cases h2 : id ≤ 1073741824
    · have d2 : decide (id ≤ 1073741824) = true := decide_eq_true h2
      have Hi : Hid (idOk id = true) := by show _ = _; unfold idOk; rw [d1, d2]; rfl
      clear h1 h2
      go_enter Try.func140, Try.ntmps140
      go_wp2_with fail
      refine (HT1.out _).mono ?_
      rintro e w1 ⟨rfl, rfl⟩
      go_wp2_with fail
      refine (HT1.out _).mono ?_
      rintro e w1 ⟨rfl, rfl⟩
      go_wp2_with fail
      refine (Hc.out _ (Chw.out _ _ _ _) (Chd.out _ _ _ _)).mono ?_
      rintro e w3 ⟨rfl, hb3⟩
      have hb0 : Below w.heap.size w w3 := by refine Below.trans ?_ (hb3.mono (by simp; omega)); (repeat (first | exact Below.refl _ _ | refine Below.alloc ?_ (by simp; try omega) _))
      clear hb3
      go_wp2
      go_ret
      exact ⟨ret_bool (by rw [Hi.out]; rfl), hb0⟩
    · have d2 : decide (id ≤ 1073741824) = false := decide_eq_false h2
      have Hi : Hid (idOk id = false) := by show _ = _; unfold idOk; rw [d1, d2]; rfl
      clear h1 h2
      go_enter Try.func140, Try.ntmps140
      go_wp2_with fail
      refine (HT1.out _).mono ?_
      rintro e w1 ⟨rfl, rfl⟩
      go_wp2_with fail
      refine (HT1.out _).mono ?_
      rintro e w1 ⟨rfl, rfl⟩
      go_wp2
      go_ret
      exact ⟨ret_bool (by rw [Hi.out]; rfl), by (repeat (first | exact Below.refl _ _ | refine Below.alloc ?_ (by simp; try omega) _))⟩
  · have d1 : decide (1 ≤ id) = false := decide_eq_false h1
    have Hi : Hid (idOk id = false) := by show _ = _; unfold idOk; rw [d1]; rfl
    clear h1
    go_enter Try.func140, Try.ntmps140
    go_wp2_with fail
    refine (HT1.out _).mono ?_
    rintro e w1 ⟨rfl, rfl⟩
    go_wp2
    go_ret
    exact ⟨ret_bool (by rw [Hi.out]; rfl), by (repeat (first | exact Below.refl _ _ | refine Below.alloc ?_ (by simp; try omega) _))⟩

set_option maxRecDepth 100000 in
set_option maxHeartbeats 4000000 in
theorem check_bx (W D : Int) (a : Option Addr) (n c : Nat) (xs : List Bx) (Bc : Nat) (w : World) (hx : SlR bxC 8 w a n c xs) (hw : w.cell? ⟨Bc, 5, none⟩ = some (.int .i64 W)) (hd : w.cell? ⟨Bc, 6, none⟩ = some (.int .i64 D)) :
    Calls Try.prog 110 #[.agg (boxesV Bc).toArray, .slice a n c] w fun e w' => e = .returned (.bool (decide (n ≤ 16) && rowOk Bx.id (bxOk W D) 0 xs)) ∧ Below w.heap.size w w' := by
  have hmax := hx.max
  have hle := hx.le
  have Hl := Lib.hid hx.len
  have Hx := Lib.hid hx
  have Hhw := Lib.hid hw
  have Hhd := Lib.hid hd
  clear hx hw hd
  unfold boxesV
  by_cases hn : n ≤ 16
  · have hnI : ¬ (16 : Int) < (n : Int) := by omega
    have hnJ : decide ((16 : Int) < (n : Int)) = false := decide_eq_false hnI
    have hnK : decide (16 < n) = false := decide_eq_false (by omega)
    have Hn : Hid (decide (n ≤ 16) = true) := decide_eq_true hn
    go_enter Try.func110, Try.ntmps110
    go_wp2
    have hLo : (w.alloc (.cells #[.func (.func 133) #[] #[], .func (.func 134) #[] #[.pointer (some ⟨Bc, 0, none⟩)], .int .i64 16, .int .i64 2] 156)).heap[w.heap.size]? = some (.cells #[.func (.func 133) #[] #[], .func (.func 134) #[] #[.pointer (some ⟨Bc, 0, none⟩)], .int .i64 16, .int .i64 2] 156 (0, 0)) := World.alloc_heap_new _ _
    have hB0 : Below w.heap.size w (w.alloc (.cells #[.func (.func 133) #[] #[], .func (.func 134) #[] #[.pointer (some ⟨Bc, 0, none⟩)], .int .i64 16, .int .i64 2] 156)) := (Below.refl _ _).alloc (Nat.le_refl _) _
    obtain ⟨V, hV⟩ : ∃ V, V = (w.alloc (.cells #[.func (.func 133) #[] #[], .func (.func 134) #[] #[.pointer (some ⟨Bc, 0, none⟩)], .int .i64 16, .int .i64 2] 156)) := ⟨_, rfl⟩
    rw [← hV] at hLo hB0 ⊢
    have hVs : V.heap.size = w.heap.size + 1 := by rw [hV]; simp
    clear hV
    go_loopw [5, 15] (fun x y wr => ∃ (k : Nat) (last : Int), x = .int .i64 last ∧ y = .int .i64 k ∧ k ≤ n ∧ Hid (rowOk Bx.id (bxOk W D) 0 xs = rowOk Bx.id (bxOk W D) last (xs.drop k)) ∧ Below V.heap.size V wr) (fun _ y _ => n - (intOf y).toNat)
    case atStart => exact ⟨0, 0, rfl, rfl, Nat.zero_le _, rfl, Below.refl _ _⟩
    case round =>
      obtain ⟨k, last, rfl, rfl, hk, HR, hbr⟩ := hrel
      obtain ⟨wj, rfl⟩ : ∃ wj : World, wj = wr := ⟨_, rfl⟩
      have hbw := hB0.trans (hbr.mono hB0.size)
      have hbws := hbw.size
      have hVj := hbr.size
      rw [hVs] at hVj
      by_cases hlt : k < n
      · have hltI : (k : Int) < (n : Int) := by omega
        obtain ⟨t, ht⟩ : ∃ t, xs[k]? = some t := ⟨_, List.getElem?_eq_getElem (by rw [Hl.out]; exact hlt)⟩
        obtain ⟨b, off, rfl, _, hcell⟩ := (Hx.out.below hbw (Nat.le_refl _)).at0 (by omega)
        have ct := hcell k t ht
        have c0 := ct 0 _ rfl
        have c1 := ct 1 _ rfl
        have c2 := ct 2 _ rfl
        have c3 := ct 3 _ rfl
        have c4 := ct 4 _ rfl
        have c5 := ct 5 _ rfl
        have c6 := ct 6 _ rfl
        have c7 := ct 7 _ rfl
        simp only [Nat.add_zero] at c0
        have hL := (hbr.block w.heap.size (by omega)).trans hLo
        have hL1 := fun o : Obj => (Below.heap_alloc wj o w.heap.size (by omega)).trans hL
        have l0 := fun o : Obj => (cell_heap (k := 0) (v := .func (.func 133) #[] #[]) (hL1 o) rfl)
        have l1 := fun o : Obj => (cell_heap (k := 1) (v := .func (.func 134) #[] #[.pointer (some ⟨Bc, 0, none⟩)]) (hL1 o) rfl)
        have l2 := fun o : Obj => (cell_heap (k := 2) (v := .int .i64 16) (hL1 o) rfl)
        have l3 := fun o : Obj => (cell_heap (k := 3) (v := .int .i64 2) (hL1 o) rfl)
        have Hstep := Lib.hid (rowOk_drop (id := Bx.id) (ok := bxOk W D) (last := last) ht)
        have HT1 := Lib.hid (fun w' : World => boxid_any t w')
        have hwj := (hbw.cell (World.block_lt_of_cell? w _ Hhw.out)).trans Hhw.out
        have Jhw := Lib.hid (fun o : Obj => (World.cell?_alloc_past o _ _ (World.block_lt_of_cell? wj _ hwj)).trans hwj)
        have hdj := (hbw.cell (World.block_lt_of_cell? w _ Hhd.out)).trans Hhd.out
        have Jhd := Lib.hid (fun o : Obj => (World.cell?_alloc_past o _ _ (World.block_lt_of_cell? wj _ hdj)).trans hdj)
        have Hone := Lib.hid (fun (o : Obj) => one_bx W D t Bc (wj.alloc o) (Jhw.out o) (Jhd.out o))
        have HL1 := Lib.hid hL1
        clear ct hcell hL ht hwj hdj hL1
        go_wp2_with fail
        refine (Hone.out _).mono ?_
        rintro e W2 ⟨rfl, hb2⟩
        have hb2w : Below V.heap.size V W2 := hbr.trans (((Below.refl _ wj).alloc (Nat.le_refl _) _ |>.trans (hb2.mono (by simp))).mono hbr.size)
        have hs2 := hb2.size
        simp only [World.size_alloc] at hs2
        have hL2 : W2.heap[w.heap.size]? = some (.cells #[.func (.func 133) #[] #[], .func (.func 134) #[] #[.pointer (some ⟨Bc, 0, none⟩)], .int .i64 16, .int .i64 2] 156 (0, 0)) := (hb2.block w.heap.size (by simp; omega)).trans (HL1.out _)
        have hT2 : W2.heap[wj.heap.size]? = some (.cells #[.int .i64 t.id, .int .i64 t.x0, .int .i64 t.z0, .int .i64 t.x1, .int .i64 t.z1, .int .i64 t.y0, .int .i64 t.y1, .int .i64 t.area] 114 (0, 0)) := (hb2.block wj.heap.size (by simp)).trans (World.alloc_heap_new _ _)
        clear l0 l1 l2 l3 c0 c1 c2 c3 c4 c5 c6 c7 hb2
        have hL3 := fun o : Obj => (Below.heap_alloc W2 o w.heap.size (by omega)).trans hL2
        have hT3 := fun o : Obj => (Below.heap_alloc W2 o wj.heap.size (by omega)).trans hT2
        have m0 := cell_heap (k := 0) (v := .func (.func 133) #[] #[]) hL2 rfl
        have n0 := fun o : Obj => (cell_heap (k := 0) (v := .func (.func 133) #[] #[]) (hL3 o) rfl)
        have p0 := cell_heap (k := 0) (v := .int .i64 t.id) hT2 rfl
        have q0 := fun o : Obj => (cell_heap (k := 0) (v := .int .i64 t.id) (hT3 o) rfl)
        have p1 := cell_heap (k := 1) (v := .int .i64 t.x0) hT2 rfl
        have q1 := fun o : Obj => (cell_heap (k := 1) (v := .int .i64 t.x0) (hT3 o) rfl)
        have p2 := cell_heap (k := 2) (v := .int .i64 t.z0) hT2 rfl
        have q2 := fun o : Obj => (cell_heap (k := 2) (v := .int .i64 t.z0) (hT3 o) rfl)
        have p3 := cell_heap (k := 3) (v := .int .i64 t.x1) hT2 rfl
        have q3 := fun o : Obj => (cell_heap (k := 3) (v := .int .i64 t.x1) (hT3 o) rfl)
        have p4 := cell_heap (k := 4) (v := .int .i64 t.z1) hT2 rfl
        have q4 := fun o : Obj => (cell_heap (k := 4) (v := .int .i64 t.z1) (hT3 o) rfl)
        have p5 := cell_heap (k := 5) (v := .int .i64 t.y0) hT2 rfl
        have q5 := fun o : Obj => (cell_heap (k := 5) (v := .int .i64 t.y0) (hT3 o) rfl)
        have p6 := cell_heap (k := 6) (v := .int .i64 t.y1) hT2 rfl
        have q6 := fun o : Obj => (cell_heap (k := 6) (v := .int .i64 t.y1) (hT3 o) rfl)
        have p7 := cell_heap (k := 7) (v := .int .i64 t.area) hT2 rfl
        have q7 := fun o : Obj => (cell_heap (k := 7) (v := .int .i64 t.area) (hT3 o) rfl)
        clear hL2 hT2 hL3 hT3 Hone
        obtain ⟨r, hr⟩ : ∃ r, r = (idOk t.id && bxOk W D t) := ⟨_, rfl⟩
        rw [← hr] at Hstep ⊢
        have hB2 := hB0.trans (hb2w.mono hB0.size)
        clear hr
        cases r with
        | false =>
          have hno : Hid (rowOk Bx.id (bxOk W D) 0 xs = false) := by show _ = _; rw [HR.out, Hstep.out]; rfl
          go_wp2
          go_ret
          exact ⟨ret_bool (by first | exact hno.out.symm | rw [hno.out, Bool.and_false]), hB2⟩
        | true =>
          by_cases hid : t.id ≤ last
          · have dl : decide (t.id ≤ last) = true := decide_eq_true hid
            have hno : Hid (rowOk Bx.id (bxOk W D) 0 xs = false) := by show _ = _; rw [HR.out, Hstep.out, decide_eq_false (show ¬ last < t.id by omega)]; rfl
            clear hid
            go_wp2_with fail
            refine (HT1.out _).mono ?_
            rintro e w9 ⟨rfl, rfl⟩
            go_wp2
            go_ret
            exact ⟨ret_bool (by first | exact hno.out.symm | rw [hno.out, Bool.and_false]), hB2.alloc hB2.size _⟩
          · have dl : decide (t.id ≤ last) = false := decide_eq_false hid
            have hyes : Hid (rowOk Bx.id (bxOk W D) 0 xs = rowOk Bx.id (bxOk W D) t.id (xs.drop (k + 1))) := by show _ = _; rw [HR.out, Hstep.out, decide_eq_true (show last < t.id by omega)]; rfl
            clear hid
            go_wp2_with fail
            refine (HT1.out _).mono ?_
            rintro e w9 ⟨rfl, rfl⟩
            go_wp2_with fail
            refine (HT1.out _).mono ?_
            rintro e w9 ⟨rfl, rfl⟩
            have hb4 := (hb2w.alloc hb2w.size (.cells (bxC t).toArray 114)).alloc (by have := hb2w.size; simp; omega) (.cells (bxC t).toArray 114)
            go_wp2
            go_roundw
            case rel => exact ⟨k + 1, t.id, rfl, by go_num, by omega, hyes, hb4⟩
            case measure => simp [intOf]; omega
      · obtain rfl : n = k := by omega
        have hltn : ¬ (n : Int) < (n : Int) := by omega
        have hall : Hid (rowOk Bx.id (bxOk W D) 0 xs = true) := by show _ = _; rw [HR.out, List.drop_of_length_le (by rw [Hl.out]; exact Nat.le_refl _)]; rfl
        go_wp2
        go_ret
        exact ⟨ret_bool (by first | exact hall.out.symm | (rw [Hn.out, hall.out]; rfl)), hbw⟩
  · have hnJ : decide ((16 : Int) < (n : Int)) = true := decide_eq_true (by omega)
    have hnK : decide (16 < n) = true := decide_eq_true (by omega)
    have Hn : Hid (decide (n ≤ 16) = false) := decide_eq_false hn
    clear hn
    go_enter Try.func110, Try.ntmps110
    go_wp2
    go_ret
    exact ⟨ret_bool (by rw [Hn.out]; rfl), (Below.refl _ _).alloc (Nat.le_refl _) _⟩

end Go.Proofs.Ytilhmlapbifbbaa
