/- Walks: rows of triangles that may be, whole. -/
import Derived.Test.YtilhmlapbifbbaaSo3
namespace Go.Proofs.Ytilhmlapbifbbaa
open Go.RowKit Go.Sort
attribute [local go_sem] run_store_func

theorem cellB' {w w' : World} {p : Addr} {v : Value} (hb : Below w.heap.size w w') (h : w.cell? p = some v) : w'.cell? p = some v :=
  (hb.cell (World.block_lt_of_cell? w _ h)).trans h
theorem rowOk_drop {α : Type} {id : α → Int} {ok : α → Bool} {last : Int} {xs : List α} {k : Nat} {x : α} (hx : xs[k]? = some x) : rowOk id ok last (xs.drop k) = (idOk (id x) && ok x && decide (last < id x) && rowOk id ok (id x) (xs.drop (k + 1))) := by
  have hk := (List.getElem?_eq_some_iff.1 hx).1
  rw [List.drop_eq_getElem_cons hk, (List.getElem?_eq_some_iff.1 hx).2]
  rfl

set_option maxRecDepth 100000 in
set_option maxHeartbeats 4000000 in
theorem check_tri (W D : Int) (a : Option Addr) (n c : Nat) (xs : List Tri3) (Bw Bd : Nat) (w : World) (hx : SlR triC 10 w a n c xs) (hw : w.cell? ⟨Bw, 0, none⟩ = some (.int .i64 W)) (hd : w.cell? ⟨Bd, 0, none⟩ = some (.int .i64 D)) (hW : 0 ≤ W ∧ W ≤ 32) (hD : 0 ≤ D ∧ D ≤ 32) :
    Calls Try.prog 108 #[.agg (trisV Bw Bd).toArray, .slice a n c] w fun e w' => e = .returned (.bool (decide (n ≤ 200) && rowOk Tri3.id (triOk W D) 0 xs)) ∧ Below w.heap.size w w' := by
  have hmax := hx.max
  have hle := hx.le
  have Hl := Lib.hid hx.len
  have Hx := Lib.hid hx
  have Hw := Lib.hid hw
  have Hd := Lib.hid hd
  clear hx hw hd
  unfold trisV
  by_cases hn : n ≤ 200
  · have hnI : ¬ (200 : Int) < (n : Int) := by omega
    have hnJ : decide ((200 : Int) < (n : Int)) = false := decide_eq_false hnI
    have hnK : decide (200 < n) = false := decide_eq_false (by omega)
    have Hn : Hid (decide (n ≤ 200) = true) := decide_eq_true hn
    go_enter Try.func108, Try.ntmps108
    go_wp2
    have hLo : (w.alloc (.cells #[.func (.func 128) #[] #[], .func (.func 129) #[] #[.pointer (some ⟨Bw, 0, none⟩), .pointer (some ⟨Bd, 0, none⟩)], .int .i64 200, .int .i64 40] 150)).heap[w.heap.size]? = some (.cells #[.func (.func 128) #[] #[], .func (.func 129) #[] #[.pointer (some ⟨Bw, 0, none⟩), .pointer (some ⟨Bd, 0, none⟩)], .int .i64 200, .int .i64 40] 150 (0, 0)) := World.alloc_heap_new _ _
    have hB0 : Below w.heap.size w (w.alloc (.cells #[.func (.func 128) #[] #[], .func (.func 129) #[] #[.pointer (some ⟨Bw, 0, none⟩), .pointer (some ⟨Bd, 0, none⟩)], .int .i64 200, .int .i64 40] 150)) := (Below.refl _ _).alloc (Nat.le_refl _) _
    obtain ⟨V, hV⟩ : ∃ V, V = (w.alloc (.cells #[.func (.func 128) #[] #[], .func (.func 129) #[] #[.pointer (some ⟨Bw, 0, none⟩), .pointer (some ⟨Bd, 0, none⟩)], .int .i64 200, .int .i64 40] 150)) := ⟨_, rfl⟩
    rw [← hV] at hLo hB0 ⊢
    have hVs : V.heap.size = w.heap.size + 1 := by rw [hV]; simp
    clear hV
    go_loopw [5, 15] (fun x y wr => ∃ (k : Nat) (last : Int), x = .int .i64 last ∧ y = .int .i64 k ∧ k ≤ n ∧ Hid (rowOk Tri3.id (triOk W D) 0 xs = rowOk Tri3.id (triOk W D) last (xs.drop k)) ∧ Below V.heap.size V wr) (fun _ y _ => n - (intOf y).toNat)
    case atStart => exact ⟨0, 0, rfl, rfl, Nat.zero_le _, rfl, Below.refl _ _⟩
    case round =>
      obtain ⟨k, last, rfl, rfl, hk, HR, hbr⟩ := hrel
      obtain ⟨wj, rfl⟩ : ∃ wj : World, wj = wr := ⟨_, rfl⟩
      have hbw := hB0.trans (hbr.mono hB0.size)
      have hbws := hbw.size
      have hVj := hbr.size
      rw [hVs] at hVj
      by_cases hlt : k < n
      · have hltI : (k : Int) < (n : Int) := by omega
        obtain ⟨t, ht⟩ : ∃ t, xs[k]? = some t := ⟨_, List.getElem?_eq_getElem (by rw [Hl.out]; exact hlt)⟩
        obtain ⟨b, off, rfl, _, hcell⟩ := (Hx.out.below hbw (Nat.le_refl _)).at0 (by omega)
        have ct := hcell k t ht
        have c0 := ct 0 _ rfl
        have c1 := ct 1 _ rfl
        have c2 := ct 2 _ rfl
        have c3 := ct 3 _ rfl
        have c4 := ct 4 _ rfl
        have c5 := ct 5 _ rfl
        have c6 := ct 6 _ rfl
        have c7 := ct 7 _ rfl
        have c8 := ct 8 _ rfl
        have c9 := ct 9 _ rfl
        simp only [Nat.add_zero] at c0
        have hL := (hbr.block w.heap.size (by omega)).trans hLo
        have hL1 := fun o : Obj => (Below.heap_alloc wj o w.heap.size (by omega)).trans hL
        have l0 := fun o : Obj => (show (wj.alloc o).cell? ⟨w.heap.size, 0, none⟩ = some (.func (.func 128) #[] #[]) by simp [World.cell?, hL1 o])
        have l1 := fun o : Obj => (show (wj.alloc o).cell? ⟨w.heap.size, 1, none⟩ = some (.func (.func 129) #[] #[.pointer (some ⟨Bw, 0, none⟩), .pointer (some ⟨Bd, 0, none⟩)]) by simp [World.cell?, hL1 o])
        have l2 := fun o : Obj => (show (wj.alloc o).cell? ⟨w.heap.size, 2, none⟩ = some (.int .i64 200) by simp [World.cell?, hL1 o])
        have l3 := fun o : Obj => (show (wj.alloc o).cell? ⟨w.heap.size, 3, none⟩ = some (.int .i64 40) by simp [World.cell?, hL1 o])
        have Hstep := Lib.hid (rowOk_drop (id := Tri3.id) (ok := triOk W D) (last := last) ht)
        have Hone := Lib.hid (fun (w' : World) h1 h2 => one_tri W D t Bw Bd w' h1 h2 hW hD)
        have HT1 := Lib.hid (fun w' : World => tri1_any t w')
        have hwj := cellB' hbw Hw.out
        have hdj := cellB' hbw Hd.out
        have Hwj := Lib.hid (fun o : Obj => (World.cell?_alloc_past o _ _ (World.block_lt_of_cell? wj _ hwj)).trans hwj)
        have Hdj := Lib.hid (fun o : Obj => (World.cell?_alloc_past o _ _ (World.block_lt_of_cell? wj _ hdj)).trans hdj)
        have HL1 := Lib.hid hL1
        clear ct hcell hL ht hwj hdj hL1
        go_wp2_with fail
        refine (Hone.out _ (Hwj.out _) (Hdj.out _)).mono ?_
        rintro e W2 ⟨rfl, hb2⟩
        have hb2w : Below V.heap.size V W2 := hbr.trans (((Below.refl _ wj).alloc (Nat.le_refl _) _ |>.trans (hb2.mono (by simp))).mono hbr.size)
        have hs2 := hb2.size
        simp only [World.size_alloc] at hs2
        have hL2 : W2.heap[w.heap.size]? = some (.cells #[.func (.func 128) #[] #[], .func (.func 129) #[] #[.pointer (some ⟨Bw, 0, none⟩), .pointer (some ⟨Bd, 0, none⟩)], .int .i64 200, .int .i64 40] 150 (0, 0)) := (hb2.block w.heap.size (by simp; omega)).trans (HL1.out _)
        have hT2 : W2.heap[wj.heap.size]? = some (.cells #[.int .i64 t.id, .int .i64 t.v0.x, .int .i64 t.v0.y, .int .i64 t.v0.z, .int .i64 t.v1.x, .int .i64 t.v1.y, .int .i64 t.v1.z, .int .i64 t.v2.x, .int .i64 t.v2.y, .int .i64 t.v2.z] 112 (0, 0)) := (hb2.block wj.heap.size (by simp)).trans (World.alloc_heap_new _ _)
        clear l0 l1 l2 l3 c0 c1 c2 c3 c4 c5 c6 c7 c8 c9 hb2
        have hL3 := fun o : Obj => (Below.heap_alloc W2 o w.heap.size (by omega)).trans hL2
        have hT3 := fun o : Obj => (Below.heap_alloc W2 o wj.heap.size (by omega)).trans hT2
        have m0 : W2.cell? ⟨w.heap.size, 0, none⟩ = some (.func (.func 128) #[] #[]) := by simp [World.cell?, hL2]
        have n0 := fun o : Obj => (show (W2.alloc o).cell? ⟨w.heap.size, 0, none⟩ = some (.func (.func 128) #[] #[]) by simp [World.cell?, hL3 o])
        have p0 : W2.cell? ⟨wj.heap.size, 0, none⟩ = some (.int .i64 t.id) := by simp [World.cell?, hT2]
        have q0 := fun o : Obj => (show (W2.alloc o).cell? ⟨wj.heap.size, 0, none⟩ = some (.int .i64 t.id) by simp [World.cell?, hT3 o])
        have p1 : W2.cell? ⟨wj.heap.size, 1, none⟩ = some (.int .i64 t.v0.x) := by simp [World.cell?, hT2]
        have q1 := fun o : Obj => (show (W2.alloc o).cell? ⟨wj.heap.size, 1, none⟩ = some (.int .i64 t.v0.x) by simp [World.cell?, hT3 o])
        have p2 : W2.cell? ⟨wj.heap.size, 2, none⟩ = some (.int .i64 t.v0.y) := by simp [World.cell?, hT2]
        have q2 := fun o : Obj => (show (W2.alloc o).cell? ⟨wj.heap.size, 2, none⟩ = some (.int .i64 t.v0.y) by simp [World.cell?, hT3 o])
        have p3 : W2.cell? ⟨wj.heap.size, 3, none⟩ = some (.int .i64 t.v0.z) := by simp [World.cell?, hT2]
        have q3 := fun o : Obj => (show (W2.alloc o).cell? ⟨wj.heap.size, 3, none⟩ = some (.int .i64 t.v0.z) by simp [World.cell?, hT3 o])
        have p4 : W2.cell? ⟨wj.heap.size, 4, none⟩ = some (.int .i64 t.v1.x) := by simp [World.cell?, hT2]
        have q4 := fun o : Obj => (show (W2.alloc o).cell? ⟨wj.heap.size, 4, none⟩ = some (.int .i64 t.v1.x) by simp [World.cell?, hT3 o])
        have p5 : W2.cell? ⟨wj.heap.size, 5, none⟩ = some (.int .i64 t.v1.y) := by simp [World.cell?, hT2]
        have q5 := fun o : Obj => (show (W2.alloc o).cell? ⟨wj.heap.size, 5, none⟩ = some (.int .i64 t.v1.y) by simp [World.cell?, hT3 o])
        have p6 : W2.cell? ⟨wj.heap.size, 6, none⟩ = some (.int .i64 t.v1.z) := by simp [World.cell?, hT2]
        have q6 := fun o : Obj => (show (W2.alloc o).cell? ⟨wj.heap.size, 6, none⟩ = some (.int .i64 t.v1.z) by simp [World.cell?, hT3 o])
        have p7 : W2.cell? ⟨wj.heap.size, 7, none⟩ = some (.int .i64 t.v2.x) := by simp [World.cell?, hT2]
        have q7 := fun o : Obj => (show (W2.alloc o).cell? ⟨wj.heap.size, 7, none⟩ = some (.int .i64 t.v2.x) by simp [World.cell?, hT3 o])
        have p8 : W2.cell? ⟨wj.heap.size, 8, none⟩ = some (.int .i64 t.v2.y) := by simp [World.cell?, hT2]
        have q8 := fun o : Obj => (show (W2.alloc o).cell? ⟨wj.heap.size, 8, none⟩ = some (.int .i64 t.v2.y) by simp [World.cell?, hT3 o])
        have p9 : W2.cell? ⟨wj.heap.size, 9, none⟩ = some (.int .i64 t.v2.z) := by simp [World.cell?, hT2]
        have q9 := fun o : Obj => (show (W2.alloc o).cell? ⟨wj.heap.size, 9, none⟩ = some (.int .i64 t.v2.z) by simp [World.cell?, hT3 o])
        clear hL2 hT2 hL3 hT3
        obtain ⟨r, hr⟩ : ∃ r, r = (idOk t.id && triOk W D t) := ⟨_, rfl⟩
        rw [← hr] at Hstep ⊢
        have hB2 := hB0.trans (hb2w.mono hB0.size)
        clear hr
        cases r with
        | false =>
          have hno : Hid (rowOk Tri3.id (triOk W D) 0 xs = false) := by show _ = _; rw [HR.out, Hstep.out]; rfl
          go_wp2
          go_ret
          exact ⟨ret_bool (by first | exact hno.out.symm | rw [hno.out, Bool.and_false]), hB2⟩
        | true =>
          by_cases hid : t.id ≤ last
          · have dl : decide (t.id ≤ last) = true := decide_eq_true hid
            have hno : Hid (rowOk Tri3.id (triOk W D) 0 xs = false) := by show _ = _; rw [HR.out, Hstep.out, decide_eq_false (show ¬ last < t.id by omega)]; rfl
            clear hid
            go_wp2_with fail
            refine (HT1.out _).mono ?_
            rintro e w9 ⟨rfl, rfl⟩
            go_wp2
            go_ret
            exact ⟨ret_bool (by first | exact hno.out.symm | rw [hno.out, Bool.and_false]), hB2.alloc hB2.size _⟩
          · have dl : decide (t.id ≤ last) = false := decide_eq_false hid
            have hyes : Hid (rowOk Tri3.id (triOk W D) 0 xs = rowOk Tri3.id (triOk W D) t.id (xs.drop (k + 1))) := by show _ = _; rw [HR.out, Hstep.out, decide_eq_true (show last < t.id by omega)]; rfl
            clear hid
            go_wp2_with fail
            refine (HT1.out _).mono ?_
            rintro e w9 ⟨rfl, rfl⟩
            go_wp2_with fail
            refine (HT1.out _).mono ?_
            rintro e w9 ⟨rfl, rfl⟩
            have hb4 := (hb2w.alloc hb2w.size (.cells (triC t).toArray 112)).alloc (by have := hb2w.size; simp; omega) (.cells (triC t).toArray 112)
            go_wp2
            go_roundw
            case rel => exact ⟨k + 1, t.id, rfl, by go_num, by omega, hyes, hb4⟩
            case measure => simp [intOf]; omega
      · obtain rfl : n = k := by omega
        have hltn : ¬ (n : Int) < (n : Int) := by omega
        have hall : Hid (rowOk Tri3.id (triOk W D) 0 xs = true) := by show _ = _; rw [HR.out, List.drop_of_length_le (by rw [Hl.out]; exact Nat.le_refl _)]; rfl
        go_wp2
        go_ret
        exact ⟨ret_bool (by first | exact hall.out.symm | (rw [Hn.out, hall.out]; rfl)), hbw⟩
  · have hnJ : decide ((200 : Int) < (n : Int)) = true := decide_eq_true (by omega)
    have hnK : decide (200 < n) = true := decide_eq_true (by omega)
    have Hn : Hid (decide (n ≤ 200) = false) := decide_eq_false hn
    clear hn
    go_enter Try.func108, Try.ntmps108
    go_wp2
    go_ret
    exact ⟨ret_bool (by rw [Hn.out]; rfl), (Below.refl _ _).alloc (Nat.le_refl _) _⟩

end Go.Proofs.Ytilhmlapbifbbaa
