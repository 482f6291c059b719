/- Walks: CodeUnlike. -/
import Derived.Test.YtilhmlapbifbbaaSoS
import Derived.Test.YtilhmlapbifbbaaSoV
import Derived.Test.YtilhmlapbifbbaaUnP
import Derived.Lib.QuietBelow
namespace Go.Proofs.Ytilhmlapbifbbaa
open Go.RowKit Go.Sort

theorem SlI.take {k : IntKind} {w : World} {a : Option Addr} {n c : Nat} {xs : List Int} (h : SlI k w a n c xs) {m : Nat} (hm : m ≤ n) : SlI k w a m c (xs.take m) := by
  refine ⟨by rw [List.length_take, h.len]; omega, Nat.le_trans hm h.le, h.max, ?_⟩
  rcases h.cell with h0 | ⟨b, off, ha, hc⟩
  · exact .inl (by omega)
  · refine .inr ⟨b, off, ha, fun i hi => ?_⟩
    have := hc i (by omega)
    rw [this]
    simp only [List.getD_eq_getElem?_getD, List.getElem?_take, if_pos hi]
theorem bytes_bel (a b : Option Addr) (n c m d : Nat) (xs ys : List Int) (w : World) (hx : SlI .u8 w a n c xs) (hy : SlI .u8 w b m d ys) :
    Calls Try.prog 22 #[.slice a n c, .slice b m d] w fun e w' => e = .returned (.bool (decide (xs = ys))) ∧ Below w.heap.size w w' :=
  (bytes_any a b n c m d xs ys w hx hy).mono (by rintro _ _ ⟨rfl, q, rfl⟩; exact ⟨rfl, below_drewN (Below.refl _ _) q⟩)
theorem heap_at {w : World} (o : Obj) {i : Nat} (hi : w.heap.size = i) : (w.alloc o).heap[i]? = some o := by subst hi; exact World.alloc_heap_new _ _
theorem heap_bel {W w1 : World} (h : Below W.heap.size W w1) {i : Nat} {u : Obj} (hu : W.heap[i]? = some u) : w1.heap[i]? = some u := (h.block i (Array.getElem?_eq_some_iff.1 hu).1).trans hu
theorem heap_past {w : World} (o : Obj) {i : Nat} {u : Obj} (h : w.heap[i]? = some u) : (w.alloc o).heap[i]? = some u := by
  have hi : i < w.heap.size := (Array.getElem?_eq_some_iff.1 h).1
  exact (Below.heap_alloc _ _ i hi).trans h

set_option maxRecDepth 100000 in
set_option maxHeartbeats 4000000 in
theorem codeunlike_any (c d : Cfg) (p q r : SHead) (s : Sou) (p' q' r' : SHead) (t : Sou) (w : World) (hs : SoupAt w p q r s) (ht : SoupAt w p' q' r' t) :
    Calls Try.prog 11 #[cfgV c, cfgV d, soupV p q r, soupV p' q' r'] w fun e w' => e = .returned (.bool true) ∧ Below w.heap.size w w' := by
  have Hs := Lib.hid hs
  have Ht := Lib.hid ht
  have G1 := Lib.hid (fun (w' : World) (h' : SoupAt w' p q r s) => greatsoup_any p q r s w' h')
  have G2 := Lib.hid (fun (w' : World) (h' : SoupAt w' p' q' r' t) => greatsoup_any p' q' r' t w' h')
  have C1 := Lib.hid (fun (w' : World) (h' : SoupAt w' p q r s) => codesoup_any c p q r s w' h')
  have C2 := Lib.hid (fun (w' : World) (h' : SoupAt w' p' q' r' t) => codesoup_any d p' q' r' t w' h')
  have SM := Lib.hid (fun (w' : World) (h1 : SoupAt w' p q r s) (h2 : SoupAt w' p' q' r' t) => same_any p q r p' q' r' s t w' h1 h2)
  obtain ⟨E1, hE1⟩ : ∃ E, E = soupE c s := ⟨_, rfl⟩
  obtain ⟨B1, hB1⟩ : ∃ BB, BB = soupB c s := ⟨_, rfl⟩
  obtain ⟨E2, hE2⟩ : ∃ E, E = soupE d t := ⟨_, rfl⟩
  obtain ⟨B2, hB2⟩ : ∃ BB, BB = soupB d t := ⟨_, rfl⟩
  obtain ⟨T1, hT1⟩ : ∃ GG, GG = greatS s := ⟨_, rfl⟩
  obtain ⟨T2, hT2⟩ : ∃ GG, GG = greatS t := ⟨_, rfl⟩
  rw [← hT1] at G1
  rw [← hT2] at G2
  rw [← hE1, ← hB1] at C1
  rw [← hE2, ← hB2] at C2
  have HE1 := Lib.hid hE1
  have HB1 := Lib.hid hB1
  have HE2 := Lib.hid hE2
  have HB2 := Lib.hid hB2
  clear hs ht hE1 hB1 hE2 hB2 hT1 hT2
  obtain ⟨pa, pn, pc⟩ := p
  obtain ⟨qa, qn, qc⟩ := q
  obtain ⟨ra, rn, rc⟩ := r
  obtain ⟨pa', pn', pc'⟩ := p'
  obtain ⟨qa', qn', qc'⟩ := q'
  obtain ⟨ra', rn', rc'⟩ := r'
  obtain ⟨c0, c1, c2, c3, c4, c5, c6⟩ := c
  obtain ⟨d0, d1, d2, d3, d4, d5, d6⟩ := d
  unfold soupV SHead.v cfgV at *
  simp only at C1 C2
  go_enter Try.func11, Try.ntmps11
  go_wp2_with fail
  refine (G1.out _ (Hs.out.below (by (repeat (first | exact Below.refl _ _ | refine Below.alloc ?_ (by simp; try omega) _))))).mono ?_
  rintro e w1 ⟨rfl, hb1⟩
  have hA : w1.heap[w.heap.size]? = some (.cells #[.int .i64 c0, .int .i64 c1, .int .i64 c2, .int .i64 c3, .int .i64 c4, .int .i64 c5, .int .i64 c6] 32 (0, 0)) := heap_bel hb1 (heap_past _ (heap_past _ (heap_past _ (heap_at _ rfl))))
  have hB : w1.heap[w.heap.size + 1]? = some (.cells #[.int .i64 d0, .int .i64 d1, .int .i64 d2, .int .i64 d3, .int .i64 d4, .int .i64 d5, .int .i64 d6] 32 (0, 0)) := heap_bel hb1 (heap_past _ (heap_past _ (heap_at _ (by simp))))
  have hC : w1.heap[w.heap.size + 1 + 1]? = some (.cells #[.slice pa pn pc, .slice qa qn qc, .slice ra rn rc] 71 (0, 0)) := heap_bel hb1 (heap_past _ (heap_at _ (by simp)))
  have hD : w1.heap[w.heap.size + 1 + 1 + 1]? = some (.cells #[.slice pa' pn' pc', .slice qa' qn' qc', .slice ra' rn' rc'] 71 (0, 0)) := heap_bel hb1 (heap_at _ (by simp))
  have hbw : Below w.heap.size w w1 := below_step (by (repeat (first | exact Below.refl _ _ | refine Below.alloc ?_ (by simp; try omega) _))) hb1
  clear hb1
  have ltA := (Array.getElem?_eq_some_iff.1 hA).1
  have ltB := (Array.getElem?_eq_some_iff.1 hB).1
  have ltC := (Array.getElem?_eq_some_iff.1 hC).1
  have ltD := (Array.getElem?_eq_some_iff.1 hD).1
  have HA := Lib.hid (fun (W : World) (hW : Below w1.heap.size w1 W) => (hW.block w.heap.size ltA).trans hA)
  have HB := Lib.hid (fun (W : World) (hW : Below w1.heap.size w1 W) => (hW.block (w.heap.size + 1) ltB).trans hB)
  have HC := Lib.hid (fun (W : World) (hW : Below w1.heap.size w1 W) => (hW.block (w.heap.size + 1 + 1) ltC).trans hC)
  have HD := Lib.hid (fun (W : World) (hW : Below w1.heap.size w1 W) => (hW.block (w.heap.size + 1 + 1 + 1) ltD).trans hD)
  have Hbw := Lib.hid hbw
  have HS := Lib.hid (fun (W : World) (hW : Below w1.heap.size w1 W) => Hs.out.below (below_step hbw hW))
  have HT := Lib.hid (fun (W : World) (hW : Below w1.heap.size w1 W) => Ht.out.below (below_step hbw hW))
  clear hA hB hC hD ltA ltB ltC ltD hbw Hs Ht
  obtain ⟨w2, hw2, hb2⟩ : ∃ w2, w2 = w1 ∧ Below w1.heap.size w1 w2 := ⟨w1, rfl, Below.refl _ _⟩
  rw [← hw2]
  clear hw2
  cases T1 with
  | true =>
    go_wp2_with fail
    refine (wakes20_any _).mono ?_
    rintro e wz ⟨rfl, hbz⟩
    go_wp2
    go_ret
    exact ⟨rfl, below_step2 Hbw.out (below_step (hb2) hbz)⟩
  | false =>
  have t0 := cell_heap (k := 0) (v := .slice pa' pn' pc') (HD.out w2 hb2) rfl
  have t1 := cell_heap (k := 1) (v := .slice qa' qn' qc') (HD.out w2 hb2) rfl
  have t2 := cell_heap (k := 2) (v := .slice ra' rn' rc') (HD.out w2 hb2) rfl
  cases T2 with
  | true =>
    go_wp2_with fail
    refine (G2.out _ (HT.out _ hb2)).mono ?_
    rintro e w3 ⟨rfl, hb3⟩
    clear t0 t1 t2
    go_wp2_with fail
    refine (wakes20_any _).mono ?_
    rintro e wz ⟨rfl, hbz⟩
    go_wp2
    go_ret
    exact ⟨rfl, below_step2 Hbw.out (below_step (below_step hb2 hb3) hbz)⟩
  | false =>
  go_wp2_with fail
  refine (G2.out _ (HT.out _ hb2)).mono ?_
  rintro e w3 ⟨rfl, hb3'⟩
  have hb3 := below_step hb2 hb3'
  clear t0 t1 t2 hb3' hb2
  have a0 := cell_heap (k := 0) (v := .int .i64 c0) (HA.out w3 hb3) rfl
  have a1 := cell_heap (k := 1) (v := .int .i64 c1) (HA.out w3 hb3) rfl
  have a2 := cell_heap (k := 2) (v := .int .i64 c2) (HA.out w3 hb3) rfl
  have a3 := cell_heap (k := 3) (v := .int .i64 c3) (HA.out w3 hb3) rfl
  have a4 := cell_heap (k := 4) (v := .int .i64 c4) (HA.out w3 hb3) rfl
  have a5 := cell_heap (k := 5) (v := .int .i64 c5) (HA.out w3 hb3) rfl
  have a6 := cell_heap (k := 6) (v := .int .i64 c6) (HA.out w3 hb3) rfl
  have s0 := cell_heap (k := 0) (v := .slice pa pn pc) (HC.out w3 hb3) rfl
  have s1 := cell_heap (k := 1) (v := .slice qa qn qc) (HC.out w3 hb3) rfl
  have s2 := cell_heap (k := 2) (v := .slice ra rn rc) (HC.out w3 hb3) rfl
  go_wp2_with fail
  refine (C1.out _ (HS.out _ hb3)).mono ?_
  unfold NumPost
  rintro e w4 ⟨v1, rfl, hown1, hb4'⟩
  have hb4 := below_step hb3 hb4'
  obtain ⟨x1, k1, rfl, hs1⟩ := hown1.reads
  have Hs1 := Lib.hid hs1
  clear hs1 hown1 hb4' 
  clear a0 a1 a2 a3 a4 a5 a6 s0 s1 s2
  have b0 := cell_heap (k := 0) (v := .int .i64 d0) (HB.out w4 hb4) rfl
  have b1 := cell_heap (k := 1) (v := .int .i64 d1) (HB.out w4 hb4) rfl
  have b2 := cell_heap (k := 2) (v := .int .i64 d2) (HB.out w4 hb4) rfl
  have b3 := cell_heap (k := 3) (v := .int .i64 d3) (HB.out w4 hb4) rfl
  have b4 := cell_heap (k := 4) (v := .int .i64 d4) (HB.out w4 hb4) rfl
  have b5 := cell_heap (k := 5) (v := .int .i64 d5) (HB.out w4 hb4) rfl
  have b6 := cell_heap (k := 6) (v := .int .i64 d6) (HB.out w4 hb4) rfl
  have t0 := cell_heap (k := 0) (v := .slice pa' pn' pc') (HD.out w4 hb4) rfl
  have t1 := cell_heap (k := 1) (v := .slice qa' qn' qc') (HD.out w4 hb4) rfl
  have t2 := cell_heap (k := 2) (v := .slice ra' rn' rc') (HD.out w4 hb4) rfl
  go_wp2_with fail
  refine (C2.out _ (HT.out _ hb4)).mono ?_
  unfold NumPost
  rintro e w5 ⟨v2, rfl, hown2, hb5'⟩
  have hb5 := below_step hb4 hb5'
  have Hs1' := Lib.hid (Hs1.out.below hb5' (Nat.le_refl _))
  obtain ⟨x2, k2, rfl, hs2⟩ := hown2.reads
  have Hs2 := Lib.hid hs2
  clear hs2 hown2 hb5' Hs1
  clear b0 b1 b2 b3 b4 b5 b6 t0 t1 t2
  by_cases hE1 : E1 = 0
  rotate_left
  · have hd : (E1 != 0) = true := by simpa using hE1
    clear hE1
    go_wp2_with fail
    refine (wakes20_any _).mono ?_
    rintro e wz ⟨rfl, hbz⟩
    go_wp2
    go_ret
    exact ⟨rfl, below_step2 Hbw.out (below_step (hb5) hbz)⟩
  by_cases hE2 : E2 = 0
  rotate_left
  · have hd1 : (E1 != 0) = false := by simpa using hE1
    have hd : (E2 != 0) = true := by simpa using hE2
    clear hE1 hE2
    go_wp2_with fail
    refine (wakes20_any _).mono ?_
    rintro e wz ⟨rfl, hbz⟩
    go_wp2
    go_ret
    exact ⟨rfl, below_step2 Hbw.out (below_step (hb5) hbz)⟩
  have HFs : Hid (SoupF ⟨c0, c1, c2, c3, c4, c5, c6⟩ s) := soupE_F (HE1.out.symm.trans hE1)
  have HFt : Hid (SoupF ⟨d0, d1, d2, d3, d4, d5, d6⟩ t) := soupE_F (HE2.out.symm.trans hE2)
  have HBs : Hid (B1 = encs (soupN ⟨c0, c1, c2, c3, c4, c5, c6⟩ s)) := by show _ = _; rw [HB1.out, soupB, ← HE1.out, if_pos hE1]
  have HBt : Hid (B2 = encs (soupN ⟨d0, d1, d2, d3, d4, d5, d6⟩ t)) := by show _ = _; rw [HB2.out, soupB, ← HE2.out, if_pos hE2]
  have hd1 : (E1 != 0) = false := by simp [hE1]
  have hd2 : (E2 != 0) = false := by simp [hE2]
  clear hE1 hE2 HB1 HB2 HE1 HE2
  obtain ⟨n, hn⟩ : ∃ n, n = min B1.length B2.length := ⟨_, rfl⟩
  have HPF := soup_prefix HFs.out HFt.out n (by rw [hn, HBs.out, HBt.out])
  rw [← HBs.out, ← HBt.out] at HPF
  have HPF2 := Lib.hid HPF
  have lb1 : 0 < B1.length := by rw [HBs.out]; exact soup_pos _ _
  have lb2 : 0 < B2.length := by rw [HBt.out]; exact soup_pos _ _
  have hn1 : n ≤ B1.length := by omega
  have hn2 : n ≤ B2.length := by omega
  have hk1 := Hs1'.out.le
  have hk2 := Hs2.out.le
  have hm1 := Hs1'.out.max
  have hm2 := Hs2.out.max
  obtain ⟨q1, o1, rfl, _⟩ := Hs1'.out.at0 lb1
  obtain ⟨q2, o2, rfl, _⟩ := Hs2.out.at0 lb2
  have Hp1 := Lib.hid (Hs1'.out.take hn1)
  have Hp2 := Lib.hid (Hs2.out.take hn2)
  have Hwk := Lib.hid (fun w' : World => wakes20_any w')
  obtain ⟨RR, hRR⟩ : ∃ RR, RR = decide (B1.take n = B2.take n) := ⟨_, rfl⟩
  have Hby := Lib.hid (fun (W : World) (hW : Below w5.heap.size w5 W) (d : Nat) (os : Array Obj) => by
    have := bytes_bel _ _ n k1 n k2 _ _ (grow (redrawn W d) os) ((Hp1.out.below hW (Nat.le_refl _)).below (below_regrown W d os) (Nat.le_refl _)) ((Hp2.out.below hW (Nat.le_refl _)).below (below_regrown W d os) (Nat.le_refl _))
    rwa [← hRR] at this)
  obtain ⟨l1, hl1⟩ : ∃ l, l = B1.length := ⟨_, rfl⟩
  obtain ⟨l2, hl2⟩ : ∃ l, l = B2.length := ⟨_, rfl⟩
  have hl1' := hl1.symm
  have hl2' := hl2.symm
  rw [hl1'] at hn hn1 hk1
  rw [hl2'] at hn hn2 hk2
  have HRR := Lib.hid hRR
  clear hRR HPF
  have hI0 : (0 : Int) ≤ (n : Int) := by omega
  have hI1 : (n : Int) ≤ (k1 : Int) := by omega
  have hI2 : (n : Int) ≤ (k2 : Int) := by omega
  have hminI : (if (l2 : Int) < (l1 : Int) then (l2 : Int) else (l1 : Int)) = (n : Int) := by split <;> omega
  have hminN : (if l2 < l1 then (l2 : Int) else (l1 : Int)) = (n : Int) := by split <;> omega
  have Hn := Lib.hid hn
  have Hl1 := Lib.hid hl1
  have Hl2 := Lib.hid hl2
  rw [hl1', hl2']
  clear hn hl1 hl2 hl1' hl2' lb1 lb2
  have a0 := cell_heap (k := 0) (v := .int .i64 c0) (HA.out w5 hb5) rfl
  have a1 := cell_heap (k := 1) (v := .int .i64 c1) (HA.out w5 hb5) rfl
  have a2 := cell_heap (k := 2) (v := .int .i64 c2) (HA.out w5 hb5) rfl
  have a3 := cell_heap (k := 3) (v := .int .i64 c3) (HA.out w5 hb5) rfl
  have a4 := cell_heap (k := 4) (v := .int .i64 c4) (HA.out w5 hb5) rfl
  have a5 := cell_heap (k := 5) (v := .int .i64 c5) (HA.out w5 hb5) rfl
  have a6 := cell_heap (k := 6) (v := .int .i64 c6) (HA.out w5 hb5) rfl
  have b0 := cell_heap (k := 0) (v := .int .i64 d0) (HB.out w5 hb5) rfl
  have b1 := cell_heap (k := 1) (v := .int .i64 d1) (HB.out w5 hb5) rfl
  have b2 := cell_heap (k := 2) (v := .int .i64 d2) (HB.out w5 hb5) rfl
  have b3 := cell_heap (k := 3) (v := .int .i64 d3) (HB.out w5 hb5) rfl
  have b4 := cell_heap (k := 4) (v := .int .i64 d4) (HB.out w5 hb5) rfl
  have b5 := cell_heap (k := 5) (v := .int .i64 d5) (HB.out w5 hb5) rfl
  have b6 := cell_heap (k := 6) (v := .int .i64 d6) (HB.out w5 hb5) rfl
  by_cases hcd : c0 = d0
  rotate_left
  · have HR0 : Hid (RR = false) := by
      show _ = _
      rw [HRR.out, HPF2.out, decide_eq_false (show ¬ _ from fun h => hcd (by cases h; rfl))]
      rfl
    have hR := HR0.out
    subst hR
    clear HRR HPF2
    go_wp2_with fail
    refine wp_region_quiet_below (by kernel_rfl) (by kernel_rfl) ?_
    repeat (go_big_quiet_step (first | (go_at_call 22; exact Calls.regrown_of (Hby.out _ (Below.refl _ _) _ _)) | (go_at_call 15; exact Calls.regrown_of (Hwk.out _))))
    refine wpQuiet_nil ?_
    rintro w' ⟨⟨dq, osq⟩, hw''⟩
    have hb3 : Below w1.heap.size w1 w' := by rw [hw'']; exact hb5.trans ((below_regrown w5 dq osq).mono hb5.size)
    clear hw'' 
    go_wp2
    go_ret
    exact ⟨rfl, below_step2 Hbw.out hb3⟩
  subst hcd
  by_cases hcd : c1 = d1
  rotate_left
  · have HR0 : Hid (RR = false) := by
      show _ = _
      rw [HRR.out, HPF2.out, decide_eq_false (show ¬ _ from fun h => hcd (by cases h; rfl))]
      rfl
    have hR := HR0.out
    subst hR
    clear HRR HPF2
    go_wp2_with fail
    refine wp_region_quiet_below (by kernel_rfl) (by kernel_rfl) ?_
    repeat (go_big_quiet_step (first | (go_at_call 22; exact Calls.regrown_of (Hby.out _ (Below.refl _ _) _ _)) | (go_at_call 15; exact Calls.regrown_of (Hwk.out _))))
    refine wpQuiet_nil ?_
    rintro w' ⟨⟨dq, osq⟩, hw''⟩
    have hb3 : Below w1.heap.size w1 w' := by rw [hw'']; exact hb5.trans ((below_regrown w5 dq osq).mono hb5.size)
    clear hw'' 
    go_wp2
    go_ret
    exact ⟨rfl, below_step2 Hbw.out hb3⟩
  subst hcd
  by_cases hcd : c2 = d2
  rotate_left
  · have HR0 : Hid (RR = false) := by
      show _ = _
      rw [HRR.out, HPF2.out, decide_eq_false (show ¬ _ from fun h => hcd (by cases h; rfl))]
      rfl
    have hR := HR0.out
    subst hR
    clear HRR HPF2
    go_wp2_with fail
    refine wp_region_quiet_below (by kernel_rfl) (by kernel_rfl) ?_
    repeat (go_big_quiet_step (first | (go_at_call 22; exact Calls.regrown_of (Hby.out _ (Below.refl _ _) _ _)) | (go_at_call 15; exact Calls.regrown_of (Hwk.out _))))
    refine wpQuiet_nil ?_
    rintro w' ⟨⟨dq, osq⟩, hw''⟩
    have hb3 : Below w1.heap.size w1 w' := by rw [hw'']; exact hb5.trans ((below_regrown w5 dq osq).mono hb5.size)
    clear hw'' 
    go_wp2
    go_ret
    exact ⟨rfl, below_step2 Hbw.out hb3⟩
  subst hcd
  by_cases hcd : c3 = d3
  rotate_left
  · have HR0 : Hid (RR = false) := by
      show _ = _
      rw [HRR.out, HPF2.out, decide_eq_false (show ¬ _ from fun h => hcd (by cases h; rfl))]
      rfl
    have hR := HR0.out
    subst hR
    clear HRR HPF2
    go_wp2_with fail
    refine wp_region_quiet_below (by kernel_rfl) (by kernel_rfl) ?_
    repeat (go_big_quiet_step (first | (go_at_call 22; exact Calls.regrown_of (Hby.out _ (Below.refl _ _) _ _)) | (go_at_call 15; exact Calls.regrown_of (Hwk.out _))))
    refine wpQuiet_nil ?_
    rintro w' ⟨⟨dq, osq⟩, hw''⟩
    have hb3 : Below w1.heap.size w1 w' := by rw [hw'']; exact hb5.trans ((below_regrown w5 dq osq).mono hb5.size)
    clear hw'' 
    go_wp2
    go_ret
    exact ⟨rfl, below_step2 Hbw.out hb3⟩
  subst hcd
  by_cases hcd : c4 = d4
  rotate_left
  · have HR0 : Hid (RR = false) := by
      show _ = _
      rw [HRR.out, HPF2.out, decide_eq_false (show ¬ _ from fun h => hcd (by cases h; rfl))]
      rfl
    have hR := HR0.out
    subst hR
    clear HRR HPF2
    go_wp2_with fail
    refine wp_region_quiet_below (by kernel_rfl) (by kernel_rfl) ?_
    repeat (go_big_quiet_step (first | (go_at_call 22; exact Calls.regrown_of (Hby.out _ (Below.refl _ _) _ _)) | (go_at_call 15; exact Calls.regrown_of (Hwk.out _))))
    refine wpQuiet_nil ?_
    rintro w' ⟨⟨dq, osq⟩, hw''⟩
    have hb3 : Below w1.heap.size w1 w' := by rw [hw'']; exact hb5.trans ((below_regrown w5 dq osq).mono hb5.size)
    clear hw'' 
    go_wp2
    go_ret
    exact ⟨rfl, below_step2 Hbw.out hb3⟩
  subst hcd
  by_cases hcd : c5 = d5
  rotate_left
  · have HR0 : Hid (RR = false) := by
      show _ = _
      rw [HRR.out, HPF2.out, decide_eq_false (show ¬ _ from fun h => hcd (by cases h; rfl))]
      rfl
    have hR := HR0.out
    subst hR
    clear HRR HPF2
    go_wp2_with fail
    refine wp_region_quiet_below (by kernel_rfl) (by kernel_rfl) ?_
    repeat (go_big_quiet_step (first | (go_at_call 22; exact Calls.regrown_of (Hby.out _ (Below.refl _ _) _ _)) | (go_at_call 15; exact Calls.regrown_of (Hwk.out _))))
    refine wpQuiet_nil ?_
    rintro w' ⟨⟨dq, osq⟩, hw''⟩
    have hb3 : Below w1.heap.size w1 w' := by rw [hw'']; exact hb5.trans ((below_regrown w5 dq osq).mono hb5.size)
    clear hw'' 
    go_wp2
    go_ret
    exact ⟨rfl, below_step2 Hbw.out hb3⟩
  subst hcd
  by_cases hcd : c6 = d6
  rotate_left
  · have HR0 : Hid (RR = false) := by
      show _ = _
      rw [HRR.out, HPF2.out, decide_eq_false (show ¬ _ from fun h => hcd (by cases h; rfl))]
      rfl
    have hR := HR0.out
    subst hR
    clear HRR HPF2
    go_wp2_with fail
    refine wp_region_quiet_below (by kernel_rfl) (by kernel_rfl) ?_
    repeat (go_big_quiet_step (first | (go_at_call 22; exact Calls.regrown_of (Hby.out _ (Below.refl _ _) _ _)) | (go_at_call 15; exact Calls.regrown_of (Hwk.out _))))
    refine wpQuiet_nil ?_
    rintro w' ⟨⟨dq, osq⟩, hw''⟩
    have hb3 : Below w1.heap.size w1 w' := by rw [hw'']; exact hb5.trans ((below_regrown w5 dq osq).mono hb5.size)
    clear hw'' 
    go_wp2
    go_ret
    exact ⟨rfl, below_step2 Hbw.out hb3⟩
  subst hcd
  have s0 := cell_heap (k := 0) (v := .slice pa pn pc) (HC.out w5 hb5) rfl
  have s1 := cell_heap (k := 1) (v := .slice qa qn qc) (HC.out w5 hb5) rfl
  have s2 := cell_heap (k := 2) (v := .slice ra rn rc) (HC.out w5 hb5) rfl
  have t0 := cell_heap (k := 0) (v := .slice pa' pn' pc') (HD.out w5 hb5) rfl
  have t1 := cell_heap (k := 1) (v := .slice qa' qn' qc') (HD.out w5 hb5) rfl
  have t2 := cell_heap (k := 2) (v := .slice ra' rn' rc') (HD.out w5 hb5) rfl
  obtain ⟨S, hS⟩ : ∃ S, S = decide (s = t) := ⟨_, rfl⟩
  have Sm := Lib.hid (by have := SM.out w5 (HS.out _ hb5) (HT.out _ hb5); rwa [← hS] at this)
  have HR0 : Hid (RR = S) := by show _ = _; rw [HRR.out, HPF2.out, hS]; simp
  have hR := HR0.out
  subst hR
  have Hlen : Hid (RR = true → l1 = l2) := by
    intro h
    rw [Hl1.out, Hl2.out, HBs.out, HBt.out, of_decide_eq_true (hS.symm.trans h)]
  clear HRR HPF2 hS
  go_wp2_with fail
  refine Sm.out.mono ?_
  rintro e w6 ⟨rfl, hb6'⟩
  have hb6 := below_step hb5 hb6'
  cases RR with
  | true =>
    have hll : l1 = l2 := Hlen.out rfl
    subst hll
    go_wp2_with fail
    refine wp_region_quiet_below (by kernel_rfl) (by kernel_rfl) ?_
    repeat (go_big_quiet_step (first | (go_at_call 22; exact Calls.regrown_of (Hby.out _ hb6' _ _)) | (go_at_call 15; exact Calls.regrown_of (Hwk.out _))))
    refine wpQuiet_nil ?_
    rintro w' ⟨⟨dq, osq⟩, hw''⟩
    have hb3 : Below w1.heap.size w1 w' := by rw [hw'']; exact hb6.trans ((below_regrown w6 dq osq).mono hb6.size)
    clear hw'' 
    go_wp2
    go_ret
    exact ⟨rfl, below_step2 Hbw.out hb3⟩
  | false =>
    go_wp2_with fail
    refine wp_region_quiet_below (by kernel_rfl) (by kernel_rfl) ?_
    repeat (go_big_quiet_step (first | (go_at_call 22; exact Calls.regrown_of (Hby.out _ hb6' _ _)) | (go_at_call 15; exact Calls.regrown_of (Hwk.out _))))
    refine wpQuiet_nil ?_
    rintro w' ⟨⟨dq, osq⟩, hw''⟩
    have hb3 : Below w1.heap.size w1 w' := by rw [hw'']; exact hb6.trans ((below_regrown w6 dq osq).mono hb6.size)
    clear hw'' 
    go_wp2
    go_ret
    exact ⟨rfl, below_step2 Hbw.out hb3⟩

end Go.Proofs.Ytilhmlapbifbbaa
