/- Walks: the reference's Same at what reads the same. -/
import Derived.Test.YtgfmdgiepomkiaaGreatLd
import Derived.Deep.RegionHeld3
namespace Go.Proofs.YtgfmdgiepomkiaaGreat
open Go.RowKit Go.Sort

set_option maxRecDepth 100000 in
set_option maxHeartbeats 4000000 in
theorem same_same (p q r p' q' r' : SHead) (s : Sou) (w : World) (hs : SoupAt w p q r s) (ht : SoupAt w p' q' r' s) :
  Calls Tryz.prog 10 #[soupV p q r, soupV p' q' r'] w fun e w' => e = .returned (.bool true) ∧ Below w.heap.size w w' := by
 obtain ⟨pa, pn, pc⟩ := p
 obtain ⟨qa, qn, qc⟩ := q
 obtain ⟨ra, rn, rc⟩ := r
 obtain ⟨pa', pn', pc'⟩ := p'
 obtain ⟨qa', qn', qc'⟩ := q'
 obtain ⟨ra', rn', rc'⟩ := r'
 have Hs := Lib.hid hs
 have Ht := Lib.hid ht
 have lt : Hid (s.t.length = pn) := hs.t.len
 have mt : Hid (s.t.length = pn') := ht.t.len
 have gt : pn ≤ pc := hs.t.le
 have gt' : pn' ≤ pc' := ht.t.le
 have xt : pc ≤ 9223372036854775807 := hs.t.max
 have xt' : pc' ≤ 9223372036854775807 := ht.t.max
 have lb : Hid (s.b.length = qn) := hs.b.len
 have mb : Hid (s.b.length = qn') := ht.b.len
 have gb : qn ≤ qc := hs.b.le
 have gb' : qn' ≤ qc' := ht.b.le
 have xb : qc ≤ 9223372036854775807 := hs.b.max
 have xb' : qc' ≤ 9223372036854775807 := ht.b.max
 have lh : Hid (s.h.length = rn) := hs.h.len
 have mh : Hid (s.h.length = rn') := ht.h.len
 have gh : rn ≤ rc := hs.h.le
 have gh' : rn' ≤ rc' := ht.h.le
 have xh : rc ≤ 9223372036854775807 := hs.h.max
 have xh' : rc' ≤ 9223372036854775807 := ht.h.max
 clear hs ht
 unfold soupV SHead.v
 obtain rfl : pn = pn' := lt.out.symm.trans mt.out
 have hqt : ((pn : Int) != (pn : Int)) = false := by simp
 obtain rfl : qn = qn' := lb.out.symm.trans mb.out
 have hqb : ((qn : Int) != (qn : Int)) = false := by simp
 obtain rfl : rn = rn' := lh.out.symm.trans mh.out
 have hqh : ((rn : Int) != (rn : Int)) = false := by simp
 go_enter Tryz.func10, Tryz.ntmps10
 go_wp2_with fail
 refine wp_named (F := fun w0 => Below w.heap.size w w0 ∧ w0.heap[w.heap.size]? = some (.cells #[.slice pa pn pc, .slice qa qn qc, .slice ra rn rc] 28 (0, 0)) ∧ w0.heap[w.heap.size + 1]? = some (.cells #[.slice pa' pn pc', .slice qa' qn qc', .slice ra' rn rc'] 28 (0, 0))) ⟨(by (repeat (first | exact Below.refl _ _ | refine Below.alloc ?_ (by simp; try omega) _))),
  (Below.heap_alloc _ _ w.heap.size (by simp)).trans (World.alloc_heap_new _ _), by simpa only [World.size_alloc] using World.alloc_heap_new (w.alloc (.cells #[.slice pa pn pc, .slice qa qn qc, .slice ra rn rc] 28)) (.cells #[.slice pa' pn pc', .slice qa' qn qc', .slice ra' rn rc'] 28)⟩ ?_
 rintro w1 ⟨hbw, hA, hB⟩
 clear hqt hqb hqh
 have b0 := cell_heap (k := 0) (v := .slice pa pn pc) hA rfl
 have b1 := cell_heap (k := 1) (v := .slice qa qn qc) hA rfl
 have b2 := cell_heap (k := 2) (v := .slice ra rn rc) hA rfl
 have d0 := cell_heap (k := 0) (v := .slice pa' pn pc') hB rfl
 have d1 := cell_heap (k := 1) (v := .slice qa' qn qc') hB rfl
 have d2 := cell_heap (k := 2) (v := .slice ra' rn rc') hB rfl
 have Hbw := Lib.hid hbw
 have HS := Lib.hid (Hs.out.below hbw)
 have HT := Lib.hid (Ht.out.below hbw)
 clear hA hB hbw Hs Ht
 go_loopw [5] (fun i wr => ∃ k : Nat, i = .int .i64 k ∧ k ≤ pn ∧ Below w1.heap.size w1 wr) (fun i _ => pn - (intOf i).toNat)
 case atStart => exact ⟨0, rfl, Nat.zero_le _, Below.refl _ _⟩
 case round =>
 obtain ⟨k, rfl, hk, hbr⟩ := hrel
 obtain ⟨wj, rfl⟩ : ∃ wj : World, wj = wr := ⟨_, rfl⟩
 have bs := ncell hbr b0
 have ds := ncell hbr d0
 by_cases hlt : k < pn
 ·
  have hltI : (k : Int) < (pn : Int) := by omega
  have hk0I : (0 : Int) ≤ (k : Int) := by omega
  obtain ⟨y, hy⟩ : ∃ y, s.t[k]? = some y := ⟨_, List.getElem?_eq_getElem (by rw [lt.out]; exact hlt)⟩
  obtain ⟨b, off, ha, _, hcell⟩ := HS.out.t.at0 (by show 0 < pn; omega)
  simp only at ha
  subst ha
  obtain ⟨b', off', ha', _, hcell'⟩ := HT.out.t.at0 (by show 0 < pn; omega)
  simp only at ha'
  subst ha'
  have ct := hcell k y hy
  have cu := hcell' k y hy
  clear hy
  have g0 := ncell hbr (ct 0 _ rfl)
  have f0 := ncell hbr (cu 0 _ rfl)
  have g1 := ncell hbr (ct 1 _ rfl)
  have f1 := ncell hbr (cu 1 _ rfl)
  have g2 := ncell hbr (ct 2 _ rfl)
  have f2 := ncell hbr (cu 2 _ rfl)
  have g3 := ncell hbr (ct 3 _ rfl)
  have f3 := ncell hbr (cu 3 _ rfl)
  have g4 := ncell hbr (ct 4 _ rfl)
  have f4 := ncell hbr (cu 4 _ rfl)
  have g5 := ncell hbr (ct 5 _ rfl)
  have f5 := ncell hbr (cu 5 _ rfl)
  have g6 := ncell hbr (ct 6 _ rfl)
  have f6 := ncell hbr (cu 6 _ rfl)
  have g7 := ncell hbr (ct 7 _ rfl)
  have f7 := ncell hbr (cu 7 _ rfl)
  have g8 := ncell hbr (ct 8 _ rfl)
  have f8 := ncell hbr (cu 8 _ rfl)
  have g9 := ncell hbr (ct 9 _ rfl)
  have f9 := ncell hbr (cu 9 _ rfl)
  simp only [Nat.add_zero] at g0 f0
  clear ct cu hcell hcell'
  obtain ⟨y0, ⟨y1, y2, y3⟩, ⟨y4, y5, y6⟩, ⟨y7, y8, y9⟩⟩ := y
  simp only at g0 f0 g1 f1 g2 f2 g3 f3 g4 f4 g5 f5 g6 f6 g7 f7 g8 f8 g9 f9
  clear hk0I
  have eV : ∀ W : World, (Op.equalIn 9999 60 (.agg #[.int .i64 y1, .int .i64 y2, .int .i64 y3, .int .i64 y4, .int .i64 y5, .int .i64 y6, .int .i64 y7, .int .i64 y8, .int .i64 y9]) (.agg #[.int .i64 y1, .int .i64 y2, .int .i64 y3, .int .i64 y4, .int .i64 y5, .int .i64 y6, .int .i64 y7, .int .i64 y8, .int .i64 y9])).run Tryz.prog W = .ok true W := fun W => (eqVerts W ⟨y1, y2, y3⟩ ⟨y4, y5, y6⟩ ⟨y7, y8, y9⟩ ⟨y1, y2, y3⟩ ⟨y4, y5, y6⟩ ⟨y7, y8, y9⟩).trans (ok_eq (by simp))
  go_wp2_with fail
  go_region_held3 (fun WW => WW.cell? ⟨w.heap.size, 0, none⟩ = some (.slice (some ⟨b, off, none⟩) pn pc) ∧ WW.cell? ⟨w.heap.size + 1, 0, none⟩ = some (.slice (some ⟨b', off', none⟩) pn pc') ∧ WW.cell? ⟨b, off + k * 10, none⟩ = some (.int .i64 y0) ∧ WW.cell? ⟨b', off' + k * 10, none⟩ = some (.int .i64 y0) ∧ WW.cell? ⟨b, off + k * 10 + 1, none⟩ = some (.int .i64 y1) ∧ WW.cell? ⟨b', off' + k * 10 + 1, none⟩ = some (.int .i64 y1) ∧ WW.cell? ⟨b, off + k * 10 + 2, none⟩ = some (.int .i64 y2) ∧ WW.cell? ⟨b', off' + k * 10 + 2, none⟩ = some (.int .i64 y2) ∧ WW.cell? ⟨b, off + k * 10 + 3, none⟩ = some (.int .i64 y3) ∧ WW.cell? ⟨b', off' + k * 10 + 3, none⟩ = some (.int .i64 y3) ∧ WW.cell? ⟨b, off + k * 10 + 4, none⟩ = some (.int .i64 y4) ∧ WW.cell? ⟨b', off' + k * 10 + 4, none⟩ = some (.int .i64 y4) ∧ WW.cell? ⟨b, off + k * 10 + 5, none⟩ = some (.int .i64 y5) ∧ WW.cell? ⟨b', off' + k * 10 + 5, none⟩ = some (.int .i64 y5) ∧ WW.cell? ⟨b, off + k * 10 + 6, none⟩ = some (.int .i64 y6) ∧ WW.cell? ⟨b', off' + k * 10 + 6, none⟩ = some (.int .i64 y6) ∧ WW.cell? ⟨b, off + k * 10 + 7, none⟩ = some (.int .i64 y7) ∧ WW.cell? ⟨b', off' + k * 10 + 7, none⟩ = some (.int .i64 y7) ∧ WW.cell? ⟨b, off + k * 10 + 8, none⟩ = some (.int .i64 y8) ∧ WW.cell? ⟨b', off' + k * 10 + 8, none⟩ = some (.int .i64 y8) ∧ WW.cell? ⟨b, off + k * 10 + 9, none⟩ = some (.int .i64 y9) ∧ WW.cell? ⟨b', off' + k * 10 + 9, none⟩ = some (.int .i64 y9))
   (first
    | assumption
    | exact ⟨bs, ds, g0, f0, g1, f1, g2, f2, g3, f3, g4, f4, g5, f5, g6, f6, g7, f7, g8, f8, g9, f9⟩
    | fail)
   (fail)
  rename_i hH
  clear hH
  go_wp2
  go_roundw
  case rel => exact ⟨k + 1, by go_num, by omega, hbr.drew⟩
  case measure => simp [intOf]; omega
 obtain rfl : pn = k := by omega
 have hltn : ¬ (pn : Int) < (pn : Int) := by omega
 clear hlt hk
 have hbr0 := hbr
 have bs' := ncell hbr b1
 have ds' := ncell hbr d1
 go_wp2
 clear bs bs' ds ds'
 go_loopw [6] (fun i wr => ∃ k : Nat, i = .int .i64 k ∧ k ≤ qn ∧ Below w1.heap.size w1 wr) (fun i _ => qn - (intOf i).toNat)
 case atStart => exact ⟨0, rfl, Nat.zero_le _, hbr0⟩
 case round =>
 obtain ⟨k, rfl, hk, hbr⟩ := hrel
 obtain ⟨wj, rfl⟩ : ∃ wj : World, wj = wr := ⟨_, rfl⟩
 have bs := ncell hbr b1
 have ds := ncell hbr d1
 by_cases hlt : k < qn
 ·
  have hltI : (k : Int) < (qn : Int) := by omega
  have hk0I : (0 : Int) ≤ (k : Int) := by omega
  obtain ⟨y, hy⟩ : ∃ y, s.b[k]? = some y := ⟨_, List.getElem?_eq_getElem (by rw [lb.out]; exact hlt)⟩
  obtain ⟨b, off, ha, _, hcell⟩ := HS.out.b.at0 (by show 0 < qn; omega)
  simp only at ha
  subst ha
  obtain ⟨b', off', ha', _, hcell'⟩ := HT.out.b.at0 (by show 0 < qn; omega)
  simp only at ha'
  subst ha'
  have ct := hcell k y hy
  have cu := hcell' k y hy
  clear hy
  have g0 := ncell hbr (ct 0 _ rfl)
  have f0 := ncell hbr (cu 0 _ rfl)
  have g1 := ncell hbr (ct 1 _ rfl)
  have f1 := ncell hbr (cu 1 _ rfl)
  have g2 := ncell hbr (ct 2 _ rfl)
  have f2 := ncell hbr (cu 2 _ rfl)
  have g3 := ncell hbr (ct 3 _ rfl)
  have f3 := ncell hbr (cu 3 _ rfl)
  have g4 := ncell hbr (ct 4 _ rfl)
  have f4 := ncell hbr (cu 4 _ rfl)
  have g5 := ncell hbr (ct 5 _ rfl)
  have f5 := ncell hbr (cu 5 _ rfl)
  have g6 := ncell hbr (ct 6 _ rfl)
  have f6 := ncell hbr (cu 6 _ rfl)
  have g7 := ncell hbr (ct 7 _ rfl)
  have f7 := ncell hbr (cu 7 _ rfl)
  simp only [Nat.add_zero] at g0 f0
  clear ct cu hcell hcell'
  obtain ⟨y0, y1, y2, y3, y4, y5, y6, y7⟩ := y
  simp only at g0 f0 g1 f1 g2 f2 g3 f3 g4 f4 g5 f5 g6 f6 g7 f7
  clear hk0I
  go_wp2_with fail
  go_region_held3 (fun WW => WW.cell? ⟨w.heap.size, 1, none⟩ = some (.slice (some ⟨b, off, none⟩) qn qc) ∧ WW.cell? ⟨w.heap.size + 1, 1, none⟩ = some (.slice (some ⟨b', off', none⟩) qn qc') ∧ WW.cell? ⟨b, off + k * 8, none⟩ = some (.int .i64 y0) ∧ WW.cell? ⟨b', off' + k * 8, none⟩ = some (.int .i64 y0) ∧ WW.cell? ⟨b, off + k * 8 + 1, none⟩ = some (.int .i64 y1) ∧ WW.cell? ⟨b', off' + k * 8 + 1, none⟩ = some (.int .i64 y1) ∧ WW.cell? ⟨b, off + k * 8 + 2, none⟩ = some (.int .i64 y2) ∧ WW.cell? ⟨b', off' + k * 8 + 2, none⟩ = some (.int .i64 y2) ∧ WW.cell? ⟨b, off + k * 8 + 3, none⟩ = some (.int .i64 y3) ∧ WW.cell? ⟨b', off' + k * 8 + 3, none⟩ = some (.int .i64 y3) ∧ WW.cell? ⟨b, off + k * 8 + 4, none⟩ = some (.int .i64 y4) ∧ WW.cell? ⟨b', off' + k * 8 + 4, none⟩ = some (.int .i64 y4) ∧ WW.cell? ⟨b, off + k * 8 + 5, none⟩ = some (.int .i64 y5) ∧ WW.cell? ⟨b', off' + k * 8 + 5, none⟩ = some (.int .i64 y5) ∧ WW.cell? ⟨b, off + k * 8 + 6, none⟩ = some (.int .i64 y6) ∧ WW.cell? ⟨b', off' + k * 8 + 6, none⟩ = some (.int .i64 y6) ∧ WW.cell? ⟨b, off + k * 8 + 7, none⟩ = some (.int .i64 y7) ∧ WW.cell? ⟨b', off' + k * 8 + 7, none⟩ = some (.int .i64 y7))
   (first
    | assumption
    | exact ⟨bs, ds, g0, f0, g1, f1, g2, f2, g3, f3, g4, f4, g5, f5, g6, f6, g7, f7⟩
    | fail)
   (fail)
  rename_i hH
  clear hH
  go_wp2
  go_roundw
  case rel => exact ⟨k + 1, by go_num, by omega, hbr.drew⟩
  case measure => simp [intOf]; omega
 obtain rfl : qn = k := by omega
 have hltn : ¬ (qn : Int) < (qn : Int) := by omega
 clear hlt hk
 have hbr0 := hbr
 have bs' := ncell hbr b2
 have ds' := ncell hbr d2
 go_wp2
 clear bs bs' ds ds'
 go_loopw [7] (fun i wr => ∃ k : Nat, i = .int .i64 k ∧ k ≤ rn ∧ Below w1.heap.size w1 wr) (fun i _ => rn - (intOf i).toNat)
 case atStart => exact ⟨0, rfl, Nat.zero_le _, hbr0⟩
 case round =>
 obtain ⟨k, rfl, hk, hbr⟩ := hrel
 obtain ⟨wj, rfl⟩ : ∃ wj : World, wj = wr := ⟨_, rfl⟩
 have bs := ncell hbr b2
 have ds := ncell hbr d2
 by_cases hlt : k < rn
 ·
  have hltI : (k : Int) < (rn : Int) := by omega
  have hk0I : (0 : Int) ≤ (k : Int) := by omega
  obtain ⟨y, hy⟩ : ∃ y, s.h[k]? = some y := ⟨_, List.getElem?_eq_getElem (by rw [lh.out]; exact hlt)⟩
  obtain ⟨b, off, ha, _, hcell⟩ := HS.out.h.at0 (by show 0 < rn; omega)
  simp only at ha
  subst ha
  obtain ⟨b', off', ha', _, hcell'⟩ := HT.out.h.at0 (by show 0 < rn; omega)
  simp only at ha'
  subst ha'
  have ct := hcell k y hy
  have cu := hcell' k y hy
  clear hy
  have g0 := ncell hbr (ct 0 _ rfl)
  have f0 := ncell hbr (cu 0 _ rfl)
  have g1 := ncell hbr (ct 1 _ rfl)
  have f1 := ncell hbr (cu 1 _ rfl)
  have g2 := ncell hbr (ct 2 _ rfl)
  have f2 := ncell hbr (cu 2 _ rfl)
  have g3 := ncell hbr (ct 3 _ rfl)
  have f3 := ncell hbr (cu 3 _ rfl)
  have g4 := ncell hbr (ct 4 _ rfl)
  have f4 := ncell hbr (cu 4 _ rfl)
  have g5 := ncell hbr (ct 5 _ rfl)
  have f5 := ncell hbr (cu 5 _ rfl)
  have g6 := ncell hbr (ct 6 _ rfl)
  have f6 := ncell hbr (cu 6 _ rfl)
  have g7 := ncell hbr (ct 7 _ rfl)
  have f7 := ncell hbr (cu 7 _ rfl)
  have g8 := ncell hbr (ct 8 _ rfl)
  have f8 := ncell hbr (cu 8 _ rfl)
  have g9 := ncell hbr (ct 9 _ rfl)
  have f9 := ncell hbr (cu 9 _ rfl)
  simp only [Nat.add_zero] at g0 f0
  clear ct cu hcell hcell'
  obtain ⟨y0, ⟨y1, y2, y3⟩, ⟨y4, y5, y6⟩, y7, y8, y9⟩ := y
  simp only at g0 f0 g1 f1 g2 f2 g3 f3 g4 f4 g5 f5 g6 f6 g7 f7 g8 f8 g9 f9
  clear hk0I
  go_wp2_with fail
  go_region_held3 (fun WW => WW.cell? ⟨w.heap.size, 2, none⟩ = some (.slice (some ⟨b, off, none⟩) rn rc) ∧ WW.cell? ⟨w.heap.size + 1, 2, none⟩ = some (.slice (some ⟨b', off', none⟩) rn rc') ∧ WW.cell? ⟨b, off + k * 10, none⟩ = some (.int .i64 y0) ∧ WW.cell? ⟨b', off' + k * 10, none⟩ = some (.int .i64 y0) ∧ WW.cell? ⟨b, off + k * 10 + 1, none⟩ = some (.int .i64 y1) ∧ WW.cell? ⟨b', off' + k * 10 + 1, none⟩ = some (.int .i64 y1) ∧ WW.cell? ⟨b, off + k * 10 + 2, none⟩ = some (.int .i64 y2) ∧ WW.cell? ⟨b', off' + k * 10 + 2, none⟩ = some (.int .i64 y2) ∧ WW.cell? ⟨b, off + k * 10 + 3, none⟩ = some (.int .i64 y3) ∧ WW.cell? ⟨b', off' + k * 10 + 3, none⟩ = some (.int .i64 y3) ∧ WW.cell? ⟨b, off + k * 10 + 4, none⟩ = some (.int .i64 y4) ∧ WW.cell? ⟨b', off' + k * 10 + 4, none⟩ = some (.int .i64 y4) ∧ WW.cell? ⟨b, off + k * 10 + 5, none⟩ = some (.int .i64 y5) ∧ WW.cell? ⟨b', off' + k * 10 + 5, none⟩ = some (.int .i64 y5) ∧ WW.cell? ⟨b, off + k * 10 + 6, none⟩ = some (.int .i64 y6) ∧ WW.cell? ⟨b', off' + k * 10 + 6, none⟩ = some (.int .i64 y6) ∧ WW.cell? ⟨b, off + k * 10 + 7, none⟩ = some (.bool y7) ∧ WW.cell? ⟨b', off' + k * 10 + 7, none⟩ = some (.bool y7) ∧ WW.cell? ⟨b, off + k * 10 + 8, none⟩ = some (.int .i64 y8) ∧ WW.cell? ⟨b', off' + k * 10 + 8, none⟩ = some (.int .i64 y8) ∧ WW.cell? ⟨b, off + k * 10 + 9, none⟩ = some (.int .i64 y9) ∧ WW.cell? ⟨b', off' + k * 10 + 9, none⟩ = some (.int .i64 y9))
   (first
    | assumption
    | exact ⟨bs, ds, g0, f0, g1, f1, g2, f2, g3, f3, g4, f4, g5, f5, g6, f6, g7, f7, g8, f8, g9, f9⟩
    | fail)
   (fail)
  rename_i hH
  clear hH
  go_wp2
  go_roundw
  case rel => exact ⟨k + 1, by go_num, by omega, hbr.drew⟩
  case measure => simp [intOf]; omega
 obtain rfl : rn = k := by omega
 have hltn : ¬ (rn : Int) < (rn : Int) := by omega
 clear hlt hk
 have hbr0 := hbr
 go_wp2
 go_ret
 exact ⟨rfl, below_step2 Hbw.out hbr⟩

end Go.Proofs.YtgfmdgiepomkiaaGreat
