/- Walks: the reference's soup check. -/
import Derived.Test.YtilhmlapbifbbaaSoK
import Derived.Test.YtilhmlapbifbbaaSoG
import Derived.Test.YtilhmlapbifbbaaCfgR
import Derived.Test.YtilhmlapbifbbaaSoN
import Derived.Lib.QuietBelow
namespace Go.Proofs.Ytilhmlapbifbbaa
open Go.RowKit Go.Sort

theorem bcell {w0 W : World} {p : Addr} {v : Value} (h : Below w0.heap.size w0 W) (hc : w0.cell? p = some v) : W.cell? p = some v := (h.cell (World.block_lt_of_cell? w0 _ hc)).trans hc
/-- The id that the reference compares with. -/
def lastId {α : Type} (id : α → Int) (xs : List α) : Nat → Int
  | 0 => 0
  | k + 1 => (xs[k]?.map id).getD 0
theorem lastId_succ {α : Type} {id : α → Int} {xs : List α} {k : Nat} {x : α} (h : xs[k]? = some x) : lastId id xs (k + 1) = id x := by rw [lastId, h]; rfl
theorem idOk_pos {n : Int} (h : idOk n = true) : 0 < n := by
  unfold idOk at h
  simp only [Bool.and_eq_true, decide_eq_true_eq] at h
  omega

theorem refid_bel (n : Int) (w : World) : Calls Try.prog 113 #[.int .i64 n] w fun e w' => e = .returned (.bool (idOk n)) ∧ Below w.heap.size w w' :=
  (refid_any n w).mono (by rintro _ _ ⟨rfl, rfl⟩; exact ⟨rfl, Below.refl _ _⟩)

set_option maxRecDepth 100000 in
set_option maxHeartbeats 16000000 in
theorem refsoupcheck_any (c : Cfg) (p q r : SHead) (s : Sou) (w : World) (hs : SoupAt w p q r s) :
    Calls Try.prog 80 #[cfgV c, soupV p q r] w fun e w' => e = .returned (.int .i64 (soupE c s)) ∧ Below w.heap.size w w' := by
  obtain ⟨pa, pn, pc⟩ := p
  obtain ⟨qa, qn, qc⟩ := q
  obtain ⟨ra, rn, rc⟩ := r
  obtain ⟨E, hE⟩ : ∃ E, E = soupE c s := ⟨_, rfl⟩
  rw [← hE]
  have HE0 := Lib.hid hE
  clear hE
  have Hs := Lib.hid hs
  have Hc := Lib.hid (fun w' : World => refcfgcheck_any c w')
  have lt := Lib.hid hs.t.len
  have lb := Lib.hid hs.b.len
  have lh := Lib.hid hs.h.len
  have mp := hs.t.max
  have mq := hs.b.max
  have mr := hs.h.max
  have gp := hs.t.le
  have gq := hs.b.le
  have gr := hs.h.le
  clear hs
  unfold soupV SHead.v cfgV
  go_enter Try.func80, Try.ntmps80
  go_wp2_with fail
  refine (Hc.out _).mono ?_
  rintro e w1 ⟨rfl, hb1⟩
  have hb1s := hb1.size
  simp only [World.size_alloc] at hb1s
  have hA : w1.heap[w.heap.size]? = some (.cells #[.int .i64 c.clear, .int .i64 c.climb, .int .i64 c.height, .int .i64 c.rise, .int .i64 c.run, .int .i64 c.w, .int .i64 c.d] 32 (0, 0)) :=
    (hb1.block w.heap.size (by simp; omega)).trans ((Below.heap_alloc _ _ w.heap.size (by simp)).trans (World.alloc_heap_new _ _))
  have hB : w1.heap[w.heap.size + 1]? = some (.cells #[.slice pa pn pc, .slice qa qn qc, .slice ra rn rc] 71 (0, 0)) := by
    refine (hb1.block (w.heap.size + 1) (by simp)).trans ?_
    simpa only [World.size_alloc] using World.alloc_heap_new (w.alloc (.cells #[.int .i64 c.clear, .int .i64 c.climb, .int .i64 c.height, .int .i64 c.rise, .int .i64 c.run, .int .i64 c.w, .int .i64 c.d] 32)) (.cells #[.slice pa pn pc, .slice qa qn qc, .slice ra rn rc] 71)
  have hbw : Below w.heap.size w w1 := (by (repeat (first | exact Below.refl _ _ | refine Below.alloc ?_ (by simp; try omega) _)) : Below w.heap.size w _).trans (hb1.mono (by simp; omega))
  clear hb1
  have HA := Lib.hid (fun (W : World) (hW : Below w1.heap.size w1 W) => (hW.block w.heap.size (by omega)).trans hA)
  have HB := Lib.hid (fun (W : World) (hW : Below w1.heap.size w1 W) => (hW.block (w.heap.size + 1) (by omega)).trans hB)
  have b0 := cell_heap (k := 0) (v := .slice pa pn pc) hB rfl
  have b1 := cell_heap (k := 1) (v := .slice qa qn qc) hB rfl
  have b2 := cell_heap (k := 2) (v := .slice ra rn rc) hB rfl
  have Hbw := Lib.hid hbw
  have HS := Lib.hid (Hs.out.below hbw)
  clear hA hB hbw hb1s Hs
  cases hok : cfgOk c with
  | false =>
    have HE : Hid (E = 20) := by show _ = _; rw [HE0.out, soupE, hok]; rfl
    rw [show cfgE c = 20 by rw [cfgE, hok]; rfl]
    clear hok HE0
    go_wp2
    go_ret
    exact ⟨ret_int HE.out.symm, Hbw.out⟩
  | true =>
  have HE : Hid (E = if trisOk c s.t && boxesOk c s.b && hopsOk c s.h then 0 else 2) := by show _ = _; rw [HE0.out, soupE, hok]; rfl
  have Hside := Lib.hid (cfgOk_side hok)
  rw [show cfgE c = 0 by rw [cfgE, hok]; rfl]
  clear hok HE0
  by_cases hn0 : pn ≤ 200
  rotate_left
  · have dI : decide ((200 : Int) < (pn : Int)) = true := decide_eq_true (by omega)
    have dN : decide (200 < pn) = true := decide_eq_true (by omega)
    have HF : Hid (E = 2) := by show _ = _; rw [HE.out, show trisOk c s.t = false by unfold trisOk; rw [lt.out, decide_eq_false hn0]; rfl]; simp
    clear hn0
    go_wp2
    go_ret
    exact ⟨ret_int HF.out.symm, Hbw.out⟩
  have dI0 : decide ((200 : Int) < (pn : Int)) = false := decide_eq_false (by omega)
  have dN0 : decide (200 < pn) = false := decide_eq_false (by omega)
  have Hn0 : Hid (trisOk c s.t = rowOk Tri3.id (triOk c.w c.d) 0 s.t) := by show _ = _; unfold trisOk; rw [lt.out, decide_eq_true hn0]; rfl
  clear hn0
  by_cases hn1 : qn ≤ 16
  rotate_left
  · have dI : decide ((16 : Int) < (qn : Int)) = true := decide_eq_true (by omega)
    have dN : decide (16 < qn) = true := decide_eq_true (by omega)
    have HF : Hid (E = 2) := by show _ = _; rw [HE.out, show boxesOk c s.b = false by unfold boxesOk; rw [lb.out, decide_eq_false hn1]; rfl]; simp
    clear hn1
    go_wp2
    go_ret
    exact ⟨ret_int HF.out.symm, Hbw.out⟩
  have dI1 : decide ((16 : Int) < (qn : Int)) = false := decide_eq_false (by omega)
  have dN1 : decide (16 < qn) = false := decide_eq_false (by omega)
  have Hn1 : Hid (boxesOk c s.b = rowOk Bx.id (bxOk c.w c.d) 0 s.b) := by show _ = _; unfold boxesOk; rw [lb.out, decide_eq_true hn1]; rfl
  clear hn1
  by_cases hn2 : rn ≤ 16
  rotate_left
  · have dI : decide ((16 : Int) < (rn : Int)) = true := decide_eq_true (by omega)
    have dN : decide (16 < rn) = true := decide_eq_true (by omega)
    have HF : Hid (E = 2) := by show _ = _; rw [HE.out, show hopsOk c s.h = false by unfold hopsOk; rw [lh.out, decide_eq_false hn2]; rfl]; simp
    clear hn2
    go_wp2
    go_ret
    exact ⟨ret_int HF.out.symm, Hbw.out⟩
  have dI2 : decide ((16 : Int) < (rn : Int)) = false := decide_eq_false (by omega)
  have dN2 : decide (16 < rn) = false := decide_eq_false (by omega)
  have Hn2 : Hid (hopsOk c s.h = rowOk Hp.id (hpOk c.w c.d) 0 s.h) := by show _ = _; unfold hopsOk; rw [lh.out, decide_eq_true hn2]; rfl
  clear hn2
  rw [Hn0.out, Hn1.out, Hn2.out] at HE
  clear Hn0 Hn1 Hn2
  go_wp2
  go_loopw [5] (fun x wr => ∃ k : Nat, x = .int .i64 k ∧ k ≤ pn ∧ Hid (rowOk Tri3.id (triOk c.w c.d) 0 s.t = rowOk Tri3.id (triOk c.w c.d) (lastId Tri3.id s.t k) (s.t.drop k)) ∧ Below w1.heap.size w1 wr) (fun x _ => pn - (intOf x).toNat)
  case atStart => exact ⟨0, rfl, Nat.zero_le _, rfl, Below.refl _ _⟩
  case round =>
  obtain ⟨k, rfl, hk, HR, hbr⟩ := hrel
  obtain ⟨wj, rfl⟩ : ∃ wj : World, wj = wr := ⟨_, rfl⟩
  by_cases hlt : k < pn
  · have hltI : (k : Int) < (pn : Int) := by omega
    have hk0I : (0 : Int) ≤ (k : Int) := by omega
    obtain ⟨t, ht⟩ : ∃ t, s.t[k]? = some t := ⟨_, List.getElem?_eq_getElem (by rw [lt.out]; exact hlt)⟩
    obtain ⟨b, off, ha, _, hcell⟩ := HS.out.t.at0 (by show 0 < pn; omega)
    simp only at ha
    subst ha
    have ct := hcell k t ht
    have g0 := ct 0 _ rfl
    have g1 := ct 1 _ rfl
    have g2 := ct 2 _ rfl
    have g3 := ct 3 _ rfl
    have g4 := ct 4 _ rfl
    have g5 := ct 5 _ rfl
    have g6 := ct 6 _ rfl
    have g7 := ct 7 _ rfl
    have g8 := ct 8 _ rfl
    have g9 := ct 9 _ rfl
    simp only [Nat.add_zero] at g0
    have bs := bcell hbr b0
    have Hstep := Lib.hid (rowOk_drop (id := Tri3.id) (ok := triOk c.w c.d) (last := lastId Tri3.id s.t k) ht)
    have Hlast := Lib.hid (lastId_succ (id := Tri3.id) ht)
    clear ct
    cases hid : idOk t.id with
    | false =>
      have HI := Lib.hid (fun w' : World => by have := refid_bel t.id w'; rwa [hid] at this)
      have HNO : Hid (rowOk Tri3.id (triOk c.w c.d) 0 s.t = false) := by show _ = _; rw [HR.out, Hstep.out, hid]; rfl
      clear hid hcell ht
      have e0 := fun d os => cell_regrown (show wj.cell? ⟨w.heap.size, 0, none⟩ = some (.int .i64 c.clear) from cell_heap (HA.out wj hbr) rfl) d os
      have e1 := fun d os => cell_regrown (show wj.cell? ⟨w.heap.size, 1, none⟩ = some (.int .i64 c.climb) from cell_heap (HA.out wj hbr) rfl) d os
      have e2 := fun d os => cell_regrown (show wj.cell? ⟨w.heap.size, 2, none⟩ = some (.int .i64 c.height) from cell_heap (HA.out wj hbr) rfl) d os
      have e3 := fun d os => cell_regrown (show wj.cell? ⟨w.heap.size, 3, none⟩ = some (.int .i64 c.rise) from cell_heap (HA.out wj hbr) rfl) d os
      have e4 := fun d os => cell_regrown (show wj.cell? ⟨w.heap.size, 4, none⟩ = some (.int .i64 c.run) from cell_heap (HA.out wj hbr) rfl) d os
      have e5 := fun d os => cell_regrown (show wj.cell? ⟨w.heap.size, 5, none⟩ = some (.int .i64 c.w) from cell_heap (HA.out wj hbr) rfl) d os
      have e6 := fun d os => cell_regrown (show wj.cell? ⟨w.heap.size, 6, none⟩ = some (.int .i64 c.d) from cell_heap (HA.out wj hbr) rfl) d os
      have es := fun d os => cell_regrown (show wj.cell? ⟨w.heap.size + 1, 0, none⟩ = some (.slice (some ⟨b, off, none⟩) pn pc) from cell_heap (HB.out wj hbr) rfl) d os
      have f0 := fun d os => cell_regrown (bcell hbr g0) d os
      have f1 := fun d os => cell_regrown (bcell hbr g1) d os
      have f2 := fun d os => cell_regrown (bcell hbr g2) d os
      have f3 := fun d os => cell_regrown (bcell hbr g3) d os
      have f4 := fun d os => cell_regrown (bcell hbr g4) d os
      have f5 := fun d os => cell_regrown (bcell hbr g5) d os
      have f6 := fun d os => cell_regrown (bcell hbr g6) d os
      have f7 := fun d os => cell_regrown (bcell hbr g7) d os
      have f8 := fun d os => cell_regrown (bcell hbr g8) d os
      have f9 := fun d os => cell_regrown (bcell hbr g9) d os
      clear g0 g1 g2 g3 g4 g5 g6 g7 g8 g9
      go_wp2_with fail
      refine wp_region_quiet_below (by kernel_rfl) (by kernel_rfl) ?_
      repeat (go_big_quiet_step (first | (go_at_call 113; exact Calls.regrown_of (HI.out _))))
      refine wpQuiet_nil ?_
      rintro w' ⟨⟨dq, osq⟩, hw''⟩
      have hb3 : Below w1.heap.size w1 w' := by rw [hw'']; exact hbr.trans ((below_regrown wj dq osq).mono hbr.size)
      clear hw'' e0 e1 e2 e3 e4 e5 e6 es f0 f1 f2 f3 f4 f5 f6 f7 f8 f9
      have HF : Hid (E = 2) := by show _ = _; rw [HE.out, HNO.out]; simp
      go_wp2
      go_ret
      exact ⟨ret_int HF.out.symm, below_step2 Hbw.out hb3⟩
    | true =>
      have HI := Lib.hid (fun w' : World => by have := refid_bel t.id w'; rwa [hid] at this)
      have Hidp := Lib.hid hid
      clear hid
      obtain ⟨R, hR⟩ : ∃ R, R = triOk c.w c.d t := ⟨_, rfl⟩
      have HM := Lib.hid (fun w' : World => by have := refmaytri_any c.w c.d t w' Hside.out.1 Hside.out.2; rwa [← hR] at this)
      have HRR := Lib.hid hR
      clear hR
      by_cases hk0 : k = 0
      · have kI : ¬ (0 : Int) < (k : Int) := by omega
        have kD : decide ((0 : Int) < (k : Int)) = false := decide_eq_false kI
        have kE : decide (0 < k) = false := decide_eq_false (by omega)
        have HST : Hid (rowOk Tri3.id (triOk c.w c.d) 0 s.t = (R && rowOk Tri3.id (triOk c.w c.d) t.id (s.t.drop (k + 1)))) := by
          show _ = _
          rw [HR.out, Hstep.out, Hidp.out, ← HRR.out, hk0, show lastId Tri3.id s.t 0 = 0 from rfl, decide_eq_true (idOk_pos Hidp.out)]
          simp
        clear hk0 hcell ht
        have e0 := fun d os => cell_regrown (show wj.cell? ⟨w.heap.size, 0, none⟩ = some (.int .i64 c.clear) from cell_heap (HA.out wj hbr) rfl) d os
        have e1 := fun d os => cell_regrown (show wj.cell? ⟨w.heap.size, 1, none⟩ = some (.int .i64 c.climb) from cell_heap (HA.out wj hbr) rfl) d os
        have e2 := fun d os => cell_regrown (show wj.cell? ⟨w.heap.size, 2, none⟩ = some (.int .i64 c.height) from cell_heap (HA.out wj hbr) rfl) d os
        have e3 := fun d os => cell_regrown (show wj.cell? ⟨w.heap.size, 3, none⟩ = some (.int .i64 c.rise) from cell_heap (HA.out wj hbr) rfl) d os
        have e4 := fun d os => cell_regrown (show wj.cell? ⟨w.heap.size, 4, none⟩ = some (.int .i64 c.run) from cell_heap (HA.out wj hbr) rfl) d os
        have e5 := fun d os => cell_regrown (show wj.cell? ⟨w.heap.size, 5, none⟩ = some (.int .i64 c.w) from cell_heap (HA.out wj hbr) rfl) d os
        have e6 := fun d os => cell_regrown (show wj.cell? ⟨w.heap.size, 6, none⟩ = some (.int .i64 c.d) from cell_heap (HA.out wj hbr) rfl) d os
        have es := fun d os => cell_regrown (show wj.cell? ⟨w.heap.size + 1, 0, none⟩ = some (.slice (some ⟨b, off, none⟩) pn pc) from cell_heap (HB.out wj hbr) rfl) d os
        have f0 := fun d os => cell_regrown (bcell hbr g0) d os
        have f1 := fun d os => cell_regrown (bcell hbr g1) d os
        have f2 := fun d os => cell_regrown (bcell hbr g2) d os
        have f3 := fun d os => cell_regrown (bcell hbr g3) d os
        have f4 := fun d os => cell_regrown (bcell hbr g4) d os
        have f5 := fun d os => cell_regrown (bcell hbr g5) d os
        have f6 := fun d os => cell_regrown (bcell hbr g6) d os
        have f7 := fun d os => cell_regrown (bcell hbr g7) d os
        have f8 := fun d os => cell_regrown (bcell hbr g8) d os
        have f9 := fun d os => cell_regrown (bcell hbr g9) d os
        clear g0 g1 g2 g3 g4 g5 g6 g7 g8 g9
        go_wp2_with fail
        refine wp_region_quiet_below (by kernel_rfl) (by kernel_rfl) ?_
        repeat (go_big_quiet_step (first | (go_at_call 113; exact Calls.regrown_of (HI.out _)) | (go_at_call 114; exact Calls.regrown_of (HM.out _))))
        refine wpQuiet_nil ?_
        rintro w' ⟨⟨dq, osq⟩, hw''⟩
        have hb3 : Below w1.heap.size w1 w' := by rw [hw'']; exact hbr.trans ((below_regrown wj dq osq).mono hbr.size)
        clear hw'' e0 e1 e2 e3 e4 e5 e6 es f0 f1 f2 f3 f4 f5 f6 f7 f8 f9
        cases R with
        | false =>
          have HNO : Hid (rowOk Tri3.id (triOk c.w c.d) 0 s.t = false) := by show _ = _; rw [HST.out]; rfl
          have HF : Hid (E = 2) := by show _ = _; rw [HE.out, HNO.out]; simp
          go_wp2
          go_ret
          exact ⟨ret_int HF.out.symm, below_step2 Hbw.out hb3⟩
        | true =>
          have HN : Hid (rowOk Tri3.id (triOk c.w c.d) 0 s.t = rowOk Tri3.id (triOk c.w c.d) (lastId Tri3.id s.t (k + 1)) (s.t.drop (k + 1))) := by show _ = _; rw [HST.out, Hlast.out]; rfl
          go_wp2
          go_roundw
          case rel => exact ⟨k + 1, by go_num, by omega, HN, hb3⟩
          case measure => simp [intOf]; omega
      · have kI : (0 : Int) < (k : Int) := by omega
        have kD : decide ((0 : Int) < (k : Int)) = true := decide_eq_true kI
        have kE : decide (0 < k) = true := decide_eq_true (by omega)
        obtain ⟨j, hj⟩ : ∃ j, k = j + 1 := ⟨k - 1, by omega⟩
        have hsub : IntKind.i64.wrap ((k : Int) - 1) = (j : Int) := by rw [IntKind.wrap_i64]; omega
        have hj0 : (0 : Int) ≤ (j : Int) := by omega
        have hjn : (j : Int) < (pn : Int) := by omega
        obtain ⟨y, hy⟩ : ∃ y, s.t[j]? = some y := ⟨_, List.getElem?_eq_getElem (by rw [lt.out]; omega)⟩
        have gy := hcell j y hy 0 _ rfl
        simp only [Nat.add_zero] at gy
        have hla : lastId Tri3.id s.t k = y.id := by rw [hj]; exact lastId_succ hy
        have Hla := Lib.hid hla
        rw [hla] at Hstep
        clear hk0 hcell ht hy hla hj
        by_cases hle : t.id ≤ y.id
        · have dl : decide (t.id ≤ y.id) = true := decide_eq_true hle
          have HNO : Hid (rowOk Tri3.id (triOk c.w c.d) 0 s.t = false) := by show _ = _; rw [HR.out, Hla.out, Hstep.out, decide_eq_false (show ¬ y.id < t.id by omega)]; simp
          clear hle
          have e0 := fun d os => cell_regrown (show wj.cell? ⟨w.heap.size, 0, none⟩ = some (.int .i64 c.clear) from cell_heap (HA.out wj hbr) rfl) d os
          have e1 := fun d os => cell_regrown (show wj.cell? ⟨w.heap.size, 1, none⟩ = some (.int .i64 c.climb) from cell_heap (HA.out wj hbr) rfl) d os
          have e2 := fun d os => cell_regrown (show wj.cell? ⟨w.heap.size, 2, none⟩ = some (.int .i64 c.height) from cell_heap (HA.out wj hbr) rfl) d os
          have e3 := fun d os => cell_regrown (show wj.cell? ⟨w.heap.size, 3, none⟩ = some (.int .i64 c.rise) from cell_heap (HA.out wj hbr) rfl) d os
          have e4 := fun d os => cell_regrown (show wj.cell? ⟨w.heap.size, 4, none⟩ = some (.int .i64 c.run) from cell_heap (HA.out wj hbr) rfl) d os
          have e5 := fun d os => cell_regrown (show wj.cell? ⟨w.heap.size, 5, none⟩ = some (.int .i64 c.w) from cell_heap (HA.out wj hbr) rfl) d os
          have e6 := fun d os => cell_regrown (show wj.cell? ⟨w.heap.size, 6, none⟩ = some (.int .i64 c.d) from cell_heap (HA.out wj hbr) rfl) d os
          have es := fun d os => cell_regrown (show wj.cell? ⟨w.heap.size + 1, 0, none⟩ = some (.slice (some ⟨b, off, none⟩) pn pc) from cell_heap (HB.out wj hbr) rfl) d os
          have f0 := fun d os => cell_regrown (bcell hbr g0) d os
          have f1 := fun d os => cell_regrown (bcell hbr g1) d os
          have f2 := fun d os => cell_regrown (bcell hbr g2) d os
          have f3 := fun d os => cell_regrown (bcell hbr g3) d os
          have f4 := fun d os => cell_regrown (bcell hbr g4) d os
          have f5 := fun d os => cell_regrown (bcell hbr g5) d os
          have f6 := fun d os => cell_regrown (bcell hbr g6) d os
          have f7 := fun d os => cell_regrown (bcell hbr g7) d os
          have f8 := fun d os => cell_regrown (bcell hbr g8) d os
          have f9 := fun d os => cell_regrown (bcell hbr g9) d os
          have fy := fun d os => cell_regrown (bcell hbr gy) d os
          clear g0 g1 g2 g3 g4 g5 g6 g7 g8 g9 gy
          go_wp2_with fail
          refine wp_region_quiet_below (by kernel_rfl) (by kernel_rfl) ?_
          repeat (go_big_quiet_step (first | (go_at_call 113; exact Calls.regrown_of (HI.out _))))
          refine wpQuiet_nil ?_
          rintro w' ⟨⟨dq, osq⟩, hw''⟩
          have hb3 : Below w1.heap.size w1 w' := by rw [hw'']; exact hbr.trans ((below_regrown wj dq osq).mono hbr.size)
          clear hw'' e0 e1 e2 e3 e4 e5 e6 es f0 f1 f2 f3 f4 f5 f6 f7 f8 f9 fy
          have HF : Hid (E = 2) := by show _ = _; rw [HE.out, HNO.out]; simp
          go_wp2
          go_ret
          exact ⟨ret_int HF.out.symm, below_step2 Hbw.out hb3⟩
        · have dl : decide (t.id ≤ y.id) = false := decide_eq_false hle
          have HST : Hid (rowOk Tri3.id (triOk c.w c.d) 0 s.t = (R && rowOk Tri3.id (triOk c.w c.d) t.id (s.t.drop (k + 1)))) := by
            show _ = _
            rw [HR.out, Hla.out, Hstep.out, Hidp.out, ← HRR.out, decide_eq_true (show y.id < t.id by omega)]
            simp
          clear hle
          have e0 := fun d os => cell_regrown (show wj.cell? ⟨w.heap.size, 0, none⟩ = some (.int .i64 c.clear) from cell_heap (HA.out wj hbr) rfl) d os
          have e1 := fun d os => cell_regrown (show wj.cell? ⟨w.heap.size, 1, none⟩ = some (.int .i64 c.climb) from cell_heap (HA.out wj hbr) rfl) d os
          have e2 := fun d os => cell_regrown (show wj.cell? ⟨w.heap.size, 2, none⟩ = some (.int .i64 c.height) from cell_heap (HA.out wj hbr) rfl) d os
          have e3 := fun d os => cell_regrown (show wj.cell? ⟨w.heap.size, 3, none⟩ = some (.int .i64 c.rise) from cell_heap (HA.out wj hbr) rfl) d os
          have e4 := fun d os => cell_regrown (show wj.cell? ⟨w.heap.size, 4, none⟩ = some (.int .i64 c.run) from cell_heap (HA.out wj hbr) rfl) d os
          have e5 := fun d os => cell_regrown (show wj.cell? ⟨w.heap.size, 5, none⟩ = some (.int .i64 c.w) from cell_heap (HA.out wj hbr) rfl) d os
          have e6 := fun d os => cell_regrown (show wj.cell? ⟨w.heap.size, 6, none⟩ = some (.int .i64 c.d) from cell_heap (HA.out wj hbr) rfl) d os
          have es := fun d os => cell_regrown (show wj.cell? ⟨w.heap.size + 1, 0, none⟩ = some (.slice (some ⟨b, off, none⟩) pn pc) from cell_heap (HB.out wj hbr) rfl) d os
          have f0 := fun d os => cell_regrown (bcell hbr g0) d os
          have f1 := fun d os => cell_regrown (bcell hbr g1) d os
          have f2 := fun d os => cell_regrown (bcell hbr g2) d os
          have f3 := fun d os => cell_regrown (bcell hbr g3) d os
          have f4 := fun d os => cell_regrown (bcell hbr g4) d os
          have f5 := fun d os => cell_regrown (bcell hbr g5) d os
          have f6 := fun d os => cell_regrown (bcell hbr g6) d os
          have f7 := fun d os => cell_regrown (bcell hbr g7) d os
          have f8 := fun d os => cell_regrown (bcell hbr g8) d os
          have f9 := fun d os => cell_regrown (bcell hbr g9) d os
          have fy := fun d os => cell_regrown (bcell hbr gy) d os
          clear g0 g1 g2 g3 g4 g5 g6 g7 g8 g9 gy
          go_wp2_with fail
          refine wp_region_quiet_below (by kernel_rfl) (by kernel_rfl) ?_
          repeat (go_big_quiet_step (first | (go_at_call 113; exact Calls.regrown_of (HI.out _)) | (go_at_call 114; exact Calls.regrown_of (HM.out _))))
          refine wpQuiet_nil ?_
          rintro w' ⟨⟨dq, osq⟩, hw''⟩
          have hb3 : Below w1.heap.size w1 w' := by rw [hw'']; exact hbr.trans ((below_regrown wj dq osq).mono hbr.size)
          clear hw'' e0 e1 e2 e3 e4 e5 e6 es f0 f1 f2 f3 f4 f5 f6 f7 f8 f9 fy
          cases R with
          | false =>
            have HNO : Hid (rowOk Tri3.id (triOk c.w c.d) 0 s.t = false) := by show _ = _; rw [HST.out]; rfl
            have HF : Hid (E = 2) := by show _ = _; rw [HE.out, HNO.out]; simp
            go_wp2
            go_ret
            exact ⟨ret_int HF.out.symm, below_step2 Hbw.out hb3⟩
          | true =>
            have HN : Hid (rowOk Tri3.id (triOk c.w c.d) 0 s.t = rowOk Tri3.id (triOk c.w c.d) (lastId Tri3.id s.t (k + 1)) (s.t.drop (k + 1))) := by show _ = _; rw [HST.out, Hlast.out]; rfl
            go_wp2
            go_roundw
            case rel => exact ⟨k + 1, by go_num, by omega, HN, hb3⟩
            case measure => simp [intOf]; omega
  obtain rfl : pn = k := by omega
  have hltn : ¬ (pn : Int) < (pn : Int) := by omega
  have HT0 : Hid (rowOk Tri3.id (triOk c.w c.d) 0 s.t = true) := by show _ = _; rw [HR.out, List.drop_of_length_le (by rw [lt.out]; exact Nat.le_refl _)]; rfl
  have bs := bcell hbr b0
  rw [HT0.out] at HE
  clear HR hlt
  have bs1 := bcell hbr b1
  have hbr1 := hbr
  clear hk
  go_wp2
  go_loopw [6] (fun x wr => ∃ k : Nat, x = .int .i64 k ∧ k ≤ qn ∧ Hid (rowOk Bx.id (bxOk c.w c.d) 0 s.b = rowOk Bx.id (bxOk c.w c.d) (lastId Bx.id s.b k) (s.b.drop k)) ∧ Below w1.heap.size w1 wr) (fun x _ => qn - (intOf x).toNat)
  case atStart => exact ⟨0, rfl, Nat.zero_le _, rfl, hbr1⟩
  case round =>
  obtain ⟨k, rfl, hk, HR, hbr⟩ := hrel
  obtain ⟨wj, rfl⟩ : ∃ wj : World, wj = wr := ⟨_, rfl⟩
  by_cases hlt : k < qn
  · have hltI : (k : Int) < (qn : Int) := by omega
    have hk0I : (0 : Int) ≤ (k : Int) := by omega
    obtain ⟨t, ht⟩ : ∃ t, s.b[k]? = some t := ⟨_, List.getElem?_eq_getElem (by rw [lb.out]; exact hlt)⟩
    obtain ⟨b, off, ha, _, hcell⟩ := HS.out.b.at0 (by show 0 < qn; omega)
    simp only at ha
    subst ha
    have ct := hcell k t ht
    have g0 := ct 0 _ rfl
    have g1 := ct 1 _ rfl
    have g2 := ct 2 _ rfl
    have g3 := ct 3 _ rfl
    have g4 := ct 4 _ rfl
    have g5 := ct 5 _ rfl
    have g6 := ct 6 _ rfl
    have g7 := ct 7 _ rfl
    simp only [Nat.add_zero] at g0
    have bs := bcell hbr b1
    have Hstep := Lib.hid (rowOk_drop (id := Bx.id) (ok := bxOk c.w c.d) (last := lastId Bx.id s.b k) ht)
    have Hlast := Lib.hid (lastId_succ (id := Bx.id) ht)
    clear ct
    cases hid : idOk t.id with
    | false =>
      have HI := Lib.hid (fun w' : World => by have := refid_bel t.id w'; rwa [hid] at this)
      have HNO : Hid (rowOk Bx.id (bxOk c.w c.d) 0 s.b = false) := by show _ = _; rw [HR.out, Hstep.out, hid]; rfl
      clear hid hcell ht
      have e0 := fun d os => cell_regrown (show wj.cell? ⟨w.heap.size, 0, none⟩ = some (.int .i64 c.clear) from cell_heap (HA.out wj hbr) rfl) d os
      have e1 := fun d os => cell_regrown (show wj.cell? ⟨w.heap.size, 1, none⟩ = some (.int .i64 c.climb) from cell_heap (HA.out wj hbr) rfl) d os
      have e2 := fun d os => cell_regrown (show wj.cell? ⟨w.heap.size, 2, none⟩ = some (.int .i64 c.height) from cell_heap (HA.out wj hbr) rfl) d os
      have e3 := fun d os => cell_regrown (show wj.cell? ⟨w.heap.size, 3, none⟩ = some (.int .i64 c.rise) from cell_heap (HA.out wj hbr) rfl) d os
      have e4 := fun d os => cell_regrown (show wj.cell? ⟨w.heap.size, 4, none⟩ = some (.int .i64 c.run) from cell_heap (HA.out wj hbr) rfl) d os
      have e5 := fun d os => cell_regrown (show wj.cell? ⟨w.heap.size, 5, none⟩ = some (.int .i64 c.w) from cell_heap (HA.out wj hbr) rfl) d os
      have e6 := fun d os => cell_regrown (show wj.cell? ⟨w.heap.size, 6, none⟩ = some (.int .i64 c.d) from cell_heap (HA.out wj hbr) rfl) d os
      have es := fun d os => cell_regrown (show wj.cell? ⟨w.heap.size + 1, 1, none⟩ = some (.slice (some ⟨b, off, none⟩) qn qc) from cell_heap (HB.out wj hbr) rfl) d os
      have f0 := fun d os => cell_regrown (bcell hbr g0) d os
      have f1 := fun d os => cell_regrown (bcell hbr g1) d os
      have f2 := fun d os => cell_regrown (bcell hbr g2) d os
      have f3 := fun d os => cell_regrown (bcell hbr g3) d os
      have f4 := fun d os => cell_regrown (bcell hbr g4) d os
      have f5 := fun d os => cell_regrown (bcell hbr g5) d os
      have f6 := fun d os => cell_regrown (bcell hbr g6) d os
      have f7 := fun d os => cell_regrown (bcell hbr g7) d os
      clear g0 g1 g2 g3 g4 g5 g6 g7
      go_wp2_with fail
      refine wp_region_quiet_below (by kernel_rfl) (by kernel_rfl) ?_
      repeat (go_big_quiet_step (first | (go_at_call 113; exact Calls.regrown_of (HI.out _))))
      refine wpQuiet_nil ?_
      rintro w' ⟨⟨dq, osq⟩, hw''⟩
      have hb3 : Below w1.heap.size w1 w' := by rw [hw'']; exact hbr.trans ((below_regrown wj dq osq).mono hbr.size)
      clear hw'' e0 e1 e2 e3 e4 e5 e6 es f0 f1 f2 f3 f4 f5 f6 f7
      have HF : Hid (E = 2) := by show _ = _; rw [HE.out, HNO.out]; simp
      go_wp2
      go_ret
      exact ⟨ret_int HF.out.symm, below_step2 Hbw.out hb3⟩
    | true =>
      have HI := Lib.hid (fun w' : World => by have := refid_bel t.id w'; rwa [hid] at this)
      have Hidp := Lib.hid hid
      clear hid
      obtain ⟨R, hR⟩ : ∃ R, R = bxOk c.w c.d t := ⟨_, rfl⟩
      have HM := Lib.hid (fun w' : World => by have := refmaybox_any c t w'; rwa [← hR] at this)
      have HRR := Lib.hid hR
      clear hR
      by_cases hk0 : k = 0
      · have kI : ¬ (0 : Int) < (k : Int) := by omega
        have kD : decide ((0 : Int) < (k : Int)) = false := decide_eq_false kI
        have kE : decide (0 < k) = false := decide_eq_false (by omega)
        have HST : Hid (rowOk Bx.id (bxOk c.w c.d) 0 s.b = (R && rowOk Bx.id (bxOk c.w c.d) t.id (s.b.drop (k + 1)))) := by
          show _ = _
          rw [HR.out, Hstep.out, Hidp.out, ← HRR.out, hk0, show lastId Bx.id s.b 0 = 0 from rfl, decide_eq_true (idOk_pos Hidp.out)]
          simp
        clear hk0 hcell ht
        have e0 := fun d os => cell_regrown (show wj.cell? ⟨w.heap.size, 0, none⟩ = some (.int .i64 c.clear) from cell_heap (HA.out wj hbr) rfl) d os
        have e1 := fun d os => cell_regrown (show wj.cell? ⟨w.heap.size, 1, none⟩ = some (.int .i64 c.climb) from cell_heap (HA.out wj hbr) rfl) d os
        have e2 := fun d os => cell_regrown (show wj.cell? ⟨w.heap.size, 2, none⟩ = some (.int .i64 c.height) from cell_heap (HA.out wj hbr) rfl) d os
        have e3 := fun d os => cell_regrown (show wj.cell? ⟨w.heap.size, 3, none⟩ = some (.int .i64 c.rise) from cell_heap (HA.out wj hbr) rfl) d os
        have e4 := fun d os => cell_regrown (show wj.cell? ⟨w.heap.size, 4, none⟩ = some (.int .i64 c.run) from cell_heap (HA.out wj hbr) rfl) d os
        have e5 := fun d os => cell_regrown (show wj.cell? ⟨w.heap.size, 5, none⟩ = some (.int .i64 c.w) from cell_heap (HA.out wj hbr) rfl) d os
        have e6 := fun d os => cell_regrown (show wj.cell? ⟨w.heap.size, 6, none⟩ = some (.int .i64 c.d) from cell_heap (HA.out wj hbr) rfl) d os
        have es := fun d os => cell_regrown (show wj.cell? ⟨w.heap.size + 1, 1, none⟩ = some (.slice (some ⟨b, off, none⟩) qn qc) from cell_heap (HB.out wj hbr) rfl) d os
        have f0 := fun d os => cell_regrown (bcell hbr g0) d os
        have f1 := fun d os => cell_regrown (bcell hbr g1) d os
        have f2 := fun d os => cell_regrown (bcell hbr g2) d os
        have f3 := fun d os => cell_regrown (bcell hbr g3) d os
        have f4 := fun d os => cell_regrown (bcell hbr g4) d os
        have f5 := fun d os => cell_regrown (bcell hbr g5) d os
        have f6 := fun d os => cell_regrown (bcell hbr g6) d os
        have f7 := fun d os => cell_regrown (bcell hbr g7) d os
        clear g0 g1 g2 g3 g4 g5 g6 g7
        go_wp2_with fail
        refine wp_region_quiet_below (by kernel_rfl) (by kernel_rfl) ?_
        repeat (go_big_quiet_step (first | (go_at_call 113; exact Calls.regrown_of (HI.out _)) | (go_at_call 115; exact Calls.regrown_of (HM.out _))))
        refine wpQuiet_nil ?_
        rintro w' ⟨⟨dq, osq⟩, hw''⟩
        have hb3 : Below w1.heap.size w1 w' := by rw [hw'']; exact hbr.trans ((below_regrown wj dq osq).mono hbr.size)
        clear hw'' e0 e1 e2 e3 e4 e5 e6 es f0 f1 f2 f3 f4 f5 f6 f7
        cases R with
        | false =>
          have HNO : Hid (rowOk Bx.id (bxOk c.w c.d) 0 s.b = false) := by show _ = _; rw [HST.out]; rfl
          have HF : Hid (E = 2) := by show _ = _; rw [HE.out, HNO.out]; simp
          go_wp2
          go_ret
          exact ⟨ret_int HF.out.symm, below_step2 Hbw.out hb3⟩
        | true =>
          have HN : Hid (rowOk Bx.id (bxOk c.w c.d) 0 s.b = rowOk Bx.id (bxOk c.w c.d) (lastId Bx.id s.b (k + 1)) (s.b.drop (k + 1))) := by show _ = _; rw [HST.out, Hlast.out]; rfl
          go_wp2
          go_roundw
          case rel => exact ⟨k + 1, by go_num, by omega, HN, hb3⟩
          case measure => simp [intOf]; omega
      · have kI : (0 : Int) < (k : Int) := by omega
        have kD : decide ((0 : Int) < (k : Int)) = true := decide_eq_true kI
        have kE : decide (0 < k) = true := decide_eq_true (by omega)
        obtain ⟨j, hj⟩ : ∃ j, k = j + 1 := ⟨k - 1, by omega⟩
        have hsub : IntKind.i64.wrap ((k : Int) - 1) = (j : Int) := by rw [IntKind.wrap_i64]; omega
        have hj0 : (0 : Int) ≤ (j : Int) := by omega
        have hjn : (j : Int) < (qn : Int) := by omega
        obtain ⟨y, hy⟩ : ∃ y, s.b[j]? = some y := ⟨_, List.getElem?_eq_getElem (by rw [lb.out]; omega)⟩
        have gy := hcell j y hy 0 _ rfl
        simp only [Nat.add_zero] at gy
        have hla : lastId Bx.id s.b k = y.id := by rw [hj]; exact lastId_succ hy
        have Hla := Lib.hid hla
        rw [hla] at Hstep
        clear hk0 hcell ht hy hla hj
        by_cases hle : t.id ≤ y.id
        · have dl : decide (t.id ≤ y.id) = true := decide_eq_true hle
          have HNO : Hid (rowOk Bx.id (bxOk c.w c.d) 0 s.b = false) := by show _ = _; rw [HR.out, Hla.out, Hstep.out, decide_eq_false (show ¬ y.id < t.id by omega)]; simp
          clear hle
          have e0 := fun d os => cell_regrown (show wj.cell? ⟨w.heap.size, 0, none⟩ = some (.int .i64 c.clear) from cell_heap (HA.out wj hbr) rfl) d os
          have e1 := fun d os => cell_regrown (show wj.cell? ⟨w.heap.size, 1, none⟩ = some (.int .i64 c.climb) from cell_heap (HA.out wj hbr) rfl) d os
          have e2 := fun d os => cell_regrown (show wj.cell? ⟨w.heap.size, 2, none⟩ = some (.int .i64 c.height) from cell_heap (HA.out wj hbr) rfl) d os
          have e3 := fun d os => cell_regrown (show wj.cell? ⟨w.heap.size, 3, none⟩ = some (.int .i64 c.rise) from cell_heap (HA.out wj hbr) rfl) d os
          have e4 := fun d os => cell_regrown (show wj.cell? ⟨w.heap.size, 4, none⟩ = some (.int .i64 c.run) from cell_heap (HA.out wj hbr) rfl) d os
          have e5 := fun d os => cell_regrown (show wj.cell? ⟨w.heap.size, 5, none⟩ = some (.int .i64 c.w) from cell_heap (HA.out wj hbr) rfl) d os
          have e6 := fun d os => cell_regrown (show wj.cell? ⟨w.heap.size, 6, none⟩ = some (.int .i64 c.d) from cell_heap (HA.out wj hbr) rfl) d os
          have es := fun d os => cell_regrown (show wj.cell? ⟨w.heap.size + 1, 1, none⟩ = some (.slice (some ⟨b, off, none⟩) qn qc) from cell_heap (HB.out wj hbr) rfl) d os
          have f0 := fun d os => cell_regrown (bcell hbr g0) d os
          have f1 := fun d os => cell_regrown (bcell hbr g1) d os
          have f2 := fun d os => cell_regrown (bcell hbr g2) d os
          have f3 := fun d os => cell_regrown (bcell hbr g3) d os
          have f4 := fun d os => cell_regrown (bcell hbr g4) d os
          have f5 := fun d os => cell_regrown (bcell hbr g5) d os
          have f6 := fun d os => cell_regrown (bcell hbr g6) d os
          have f7 := fun d os => cell_regrown (bcell hbr g7) d os
          have fy := fun d os => cell_regrown (bcell hbr gy) d os
          clear g0 g1 g2 g3 g4 g5 g6 g7 gy
          go_wp2_with fail
          refine wp_region_quiet_below (by kernel_rfl) (by kernel_rfl) ?_
          repeat (go_big_quiet_step (first | (go_at_call 113; exact Calls.regrown_of (HI.out _))))
          refine wpQuiet_nil ?_
          rintro w' ⟨⟨dq, osq⟩, hw''⟩
          have hb3 : Below w1.heap.size w1 w' := by rw [hw'']; exact hbr.trans ((below_regrown wj dq osq).mono hbr.size)
          clear hw'' e0 e1 e2 e3 e4 e5 e6 es f0 f1 f2 f3 f4 f5 f6 f7 fy
          have HF : Hid (E = 2) := by show _ = _; rw [HE.out, HNO.out]; simp
          go_wp2
          go_ret
          exact ⟨ret_int HF.out.symm, below_step2 Hbw.out hb3⟩
        · have dl : decide (t.id ≤ y.id) = false := decide_eq_false hle
          have HST : Hid (rowOk Bx.id (bxOk c.w c.d) 0 s.b = (R && rowOk Bx.id (bxOk c.w c.d) t.id (s.b.drop (k + 1)))) := by
            show _ = _
            rw [HR.out, Hla.out, Hstep.out, Hidp.out, ← HRR.out, decide_eq_true (show y.id < t.id by omega)]
            simp
          clear hle
          have e0 := fun d os => cell_regrown (show wj.cell? ⟨w.heap.size, 0, none⟩ = some (.int .i64 c.clear) from cell_heap (HA.out wj hbr) rfl) d os
          have e1 := fun d os => cell_regrown (show wj.cell? ⟨w.heap.size, 1, none⟩ = some (.int .i64 c.climb) from cell_heap (HA.out wj hbr) rfl) d os
          have e2 := fun d os => cell_regrown (show wj.cell? ⟨w.heap.size, 2, none⟩ = some (.int .i64 c.height) from cell_heap (HA.out wj hbr) rfl) d os
          have e3 := fun d os => cell_regrown (show wj.cell? ⟨w.heap.size, 3, none⟩ = some (.int .i64 c.rise) from cell_heap (HA.out wj hbr) rfl) d os
          have e4 := fun d os => cell_regrown (show wj.cell? ⟨w.heap.size, 4, none⟩ = some (.int .i64 c.run) from cell_heap (HA.out wj hbr) rfl) d os
          have e5 := fun d os => cell_regrown (show wj.cell? ⟨w.heap.size, 5, none⟩ = some (.int .i64 c.w) from cell_heap (HA.out wj hbr) rfl) d os
          have e6 := fun d os => cell_regrown (show wj.cell? ⟨w.heap.size, 6, none⟩ = some (.int .i64 c.d) from cell_heap (HA.out wj hbr) rfl) d os
          have es := fun d os => cell_regrown (show wj.cell? ⟨w.heap.size + 1, 1, none⟩ = some (.slice (some ⟨b, off, none⟩) qn qc) from cell_heap (HB.out wj hbr) rfl) d os
          have f0 := fun d os => cell_regrown (bcell hbr g0) d os
          have f1 := fun d os => cell_regrown (bcell hbr g1) d os
          have f2 := fun d os => cell_regrown (bcell hbr g2) d os
          have f3 := fun d os => cell_regrown (bcell hbr g3) d os
          have f4 := fun d os => cell_regrown (bcell hbr g4) d os
          have f5 := fun d os => cell_regrown (bcell hbr g5) d os
          have f6 := fun d os => cell_regrown (bcell hbr g6) d os
          have f7 := fun d os => cell_regrown (bcell hbr g7) d os
          have fy := fun d os => cell_regrown (bcell hbr gy) d os
          clear g0 g1 g2 g3 g4 g5 g6 g7 gy
          go_wp2_with fail
          refine wp_region_quiet_below (by kernel_rfl) (by kernel_rfl) ?_
          repeat (go_big_quiet_step (first | (go_at_call 113; exact Calls.regrown_of (HI.out _)) | (go_at_call 115; exact Calls.regrown_of (HM.out _))))
          refine wpQuiet_nil ?_
          rintro w' ⟨⟨dq, osq⟩, hw''⟩
          have hb3 : Below w1.heap.size w1 w' := by rw [hw'']; exact hbr.trans ((below_regrown wj dq osq).mono hbr.size)
          clear hw'' e0 e1 e2 e3 e4 e5 e6 es f0 f1 f2 f3 f4 f5 f6 f7 fy
          cases R with
          | false =>
            have HNO : Hid (rowOk Bx.id (bxOk c.w c.d) 0 s.b = false) := by show _ = _; rw [HST.out]; rfl
            have HF : Hid (E = 2) := by show _ = _; rw [HE.out, HNO.out]; simp
            go_wp2
            go_ret
            exact ⟨ret_int HF.out.symm, below_step2 Hbw.out hb3⟩
          | true =>
            have HN : Hid (rowOk Bx.id (bxOk c.w c.d) 0 s.b = rowOk Bx.id (bxOk c.w c.d) (lastId Bx.id s.b (k + 1)) (s.b.drop (k + 1))) := by show _ = _; rw [HST.out, Hlast.out]; rfl
            go_wp2
            go_roundw
            case rel => exact ⟨k + 1, by go_num, by omega, HN, hb3⟩
            case measure => simp [intOf]; omega
  obtain rfl : qn = k := by omega
  have hltn : ¬ (qn : Int) < (qn : Int) := by omega
  have HT1 : Hid (rowOk Bx.id (bxOk c.w c.d) 0 s.b = true) := by show _ = _; rw [HR.out, List.drop_of_length_le (by rw [lb.out]; exact Nat.le_refl _)]; rfl
  have bs := bcell hbr b1
  rw [HT1.out] at HE
  clear HR hlt
  have bs2 := bcell hbr b2
  have hbr2 := hbr
  clear hk
  go_wp2
  go_loopw [7] (fun x wr => ∃ k : Nat, x = .int .i64 k ∧ k ≤ rn ∧ Hid (rowOk Hp.id (hpOk c.w c.d) 0 s.h = rowOk Hp.id (hpOk c.w c.d) (lastId Hp.id s.h k) (s.h.drop k)) ∧ Below w1.heap.size w1 wr) (fun x _ => rn - (intOf x).toNat)
  case atStart => exact ⟨0, rfl, Nat.zero_le _, rfl, hbr2⟩
  case round =>
  obtain ⟨k, rfl, hk, HR, hbr⟩ := hrel
  obtain ⟨wj, rfl⟩ : ∃ wj : World, wj = wr := ⟨_, rfl⟩
  by_cases hlt : k < rn
  · have hltI : (k : Int) < (rn : Int) := by omega
    have hk0I : (0 : Int) ≤ (k : Int) := by omega
    obtain ⟨t, ht⟩ : ∃ t, s.h[k]? = some t := ⟨_, List.getElem?_eq_getElem (by rw [lh.out]; exact hlt)⟩
    obtain ⟨b, off, ha, _, hcell⟩ := HS.out.h.at0 (by show 0 < rn; omega)
    simp only at ha
    subst ha
    have ct := hcell k t ht
    have g0 := ct 0 _ rfl
    have g1 := ct 1 _ rfl
    have g2 := ct 2 _ rfl
    have g3 := ct 3 _ rfl
    have g4 := ct 4 _ rfl
    have g5 := ct 5 _ rfl
    have g6 := ct 6 _ rfl
    have g7 := ct 7 _ rfl
    have g8 := ct 8 _ rfl
    have g9 := ct 9 _ rfl
    simp only [Nat.add_zero] at g0
    have bs := bcell hbr b2
    have Hstep := Lib.hid (rowOk_drop (id := Hp.id) (ok := hpOk c.w c.d) (last := lastId Hp.id s.h k) ht)
    have Hlast := Lib.hid (lastId_succ (id := Hp.id) ht)
    clear ct
    cases hid : idOk t.id with
    | false =>
      have HI := Lib.hid (fun w' : World => by have := refid_bel t.id w'; rwa [hid] at this)
      have HNO : Hid (rowOk Hp.id (hpOk c.w c.d) 0 s.h = false) := by show _ = _; rw [HR.out, Hstep.out, hid]; rfl
      clear hid hcell ht
      have e0 := fun d os => cell_regrown (show wj.cell? ⟨w.heap.size, 0, none⟩ = some (.int .i64 c.clear) from cell_heap (HA.out wj hbr) rfl) d os
      have e1 := fun d os => cell_regrown (show wj.cell? ⟨w.heap.size, 1, none⟩ = some (.int .i64 c.climb) from cell_heap (HA.out wj hbr) rfl) d os
      have e2 := fun d os => cell_regrown (show wj.cell? ⟨w.heap.size, 2, none⟩ = some (.int .i64 c.height) from cell_heap (HA.out wj hbr) rfl) d os
      have e3 := fun d os => cell_regrown (show wj.cell? ⟨w.heap.size, 3, none⟩ = some (.int .i64 c.rise) from cell_heap (HA.out wj hbr) rfl) d os
      have e4 := fun d os => cell_regrown (show wj.cell? ⟨w.heap.size, 4, none⟩ = some (.int .i64 c.run) from cell_heap (HA.out wj hbr) rfl) d os
      have e5 := fun d os => cell_regrown (show wj.cell? ⟨w.heap.size, 5, none⟩ = some (.int .i64 c.w) from cell_heap (HA.out wj hbr) rfl) d os
      have e6 := fun d os => cell_regrown (show wj.cell? ⟨w.heap.size, 6, none⟩ = some (.int .i64 c.d) from cell_heap (HA.out wj hbr) rfl) d os
      have es := fun d os => cell_regrown (show wj.cell? ⟨w.heap.size + 1, 2, none⟩ = some (.slice (some ⟨b, off, none⟩) rn rc) from cell_heap (HB.out wj hbr) rfl) d os
      have f0 := fun d os => cell_regrown (bcell hbr g0) d os
      have f1 := fun d os => cell_regrown (bcell hbr g1) d os
      have f2 := fun d os => cell_regrown (bcell hbr g2) d os
      have f3 := fun d os => cell_regrown (bcell hbr g3) d os
      have f4 := fun d os => cell_regrown (bcell hbr g4) d os
      have f5 := fun d os => cell_regrown (bcell hbr g5) d os
      have f6 := fun d os => cell_regrown (bcell hbr g6) d os
      have f7 := fun d os => cell_regrown (bcell hbr g7) d os
      have f8 := fun d os => cell_regrown (bcell hbr g8) d os
      have f9 := fun d os => cell_regrown (bcell hbr g9) d os
      clear g0 g1 g2 g3 g4 g5 g6 g7 g8 g9
      go_wp2_with fail
      refine wp_region_quiet_below (by kernel_rfl) (by kernel_rfl) ?_
      repeat (go_big_quiet_step (first | (go_at_call 113; exact Calls.regrown_of (HI.out _))))
      refine wpQuiet_nil ?_
      rintro w' ⟨⟨dq, osq⟩, hw''⟩
      have hb3 : Below w1.heap.size w1 w' := by rw [hw'']; exact hbr.trans ((below_regrown wj dq osq).mono hbr.size)
      clear hw'' e0 e1 e2 e3 e4 e5 e6 es f0 f1 f2 f3 f4 f5 f6 f7 f8 f9
      have HF : Hid (E = 2) := by show _ = _; rw [HE.out, HNO.out]; simp
      go_wp2
      go_ret
      exact ⟨ret_int HF.out.symm, below_step2 Hbw.out hb3⟩
    | true =>
      have HI := Lib.hid (fun w' : World => by have := refid_bel t.id w'; rwa [hid] at this)
      have Hidp := Lib.hid hid
      clear hid
      obtain ⟨R, hR⟩ : ∃ R, R = hpOk c.w c.d t := ⟨_, rfl⟩
      have HM := Lib.hid (fun w' : World => by have := refmayhop_any c t w'; rwa [← hR] at this)
      have HRR := Lib.hid hR
      clear hR
      by_cases hk0 : k = 0
      · have kI : ¬ (0 : Int) < (k : Int) := by omega
        have kD : decide ((0 : Int) < (k : Int)) = false := decide_eq_false kI
        have kE : decide (0 < k) = false := decide_eq_false (by omega)
        have HST : Hid (rowOk Hp.id (hpOk c.w c.d) 0 s.h = (R && rowOk Hp.id (hpOk c.w c.d) t.id (s.h.drop (k + 1)))) := by
          show _ = _
          rw [HR.out, Hstep.out, Hidp.out, ← HRR.out, hk0, show lastId Hp.id s.h 0 = 0 from rfl, decide_eq_true (idOk_pos Hidp.out)]
          simp
        clear hk0 hcell ht
        have e0 := fun d os => cell_regrown (show wj.cell? ⟨w.heap.size, 0, none⟩ = some (.int .i64 c.clear) from cell_heap (HA.out wj hbr) rfl) d os
        have e1 := fun d os => cell_regrown (show wj.cell? ⟨w.heap.size, 1, none⟩ = some (.int .i64 c.climb) from cell_heap (HA.out wj hbr) rfl) d os
        have e2 := fun d os => cell_regrown (show wj.cell? ⟨w.heap.size, 2, none⟩ = some (.int .i64 c.height) from cell_heap (HA.out wj hbr) rfl) d os
        have e3 := fun d os => cell_regrown (show wj.cell? ⟨w.heap.size, 3, none⟩ = some (.int .i64 c.rise) from cell_heap (HA.out wj hbr) rfl) d os
        have e4 := fun d os => cell_regrown (show wj.cell? ⟨w.heap.size, 4, none⟩ = some (.int .i64 c.run) from cell_heap (HA.out wj hbr) rfl) d os
        have e5 := fun d os => cell_regrown (show wj.cell? ⟨w.heap.size, 5, none⟩ = some (.int .i64 c.w) from cell_heap (HA.out wj hbr) rfl) d os
        have e6 := fun d os => cell_regrown (show wj.cell? ⟨w.heap.size, 6, none⟩ = some (.int .i64 c.d) from cell_heap (HA.out wj hbr) rfl) d os
        have es := fun d os => cell_regrown (show wj.cell? ⟨w.heap.size + 1, 2, none⟩ = some (.slice (some ⟨b, off, none⟩) rn rc) from cell_heap (HB.out wj hbr) rfl) d os
        have f0 := fun d os => cell_regrown (bcell hbr g0) d os
        have f1 := fun d os => cell_regrown (bcell hbr g1) d os
        have f2 := fun d os => cell_regrown (bcell hbr g2) d os
        have f3 := fun d os => cell_regrown (bcell hbr g3) d os
        have f4 := fun d os => cell_regrown (bcell hbr g4) d os
        have f5 := fun d os => cell_regrown (bcell hbr g5) d os
        have f6 := fun d os => cell_regrown (bcell hbr g6) d os
        have f7 := fun d os => cell_regrown (bcell hbr g7) d os
        have f8 := fun d os => cell_regrown (bcell hbr g8) d os
        have f9 := fun d os => cell_regrown (bcell hbr g9) d os
        clear g0 g1 g2 g3 g4 g5 g6 g7 g8 g9
        go_wp2_with fail
        refine wp_region_quiet_below (by kernel_rfl) (by kernel_rfl) ?_
        repeat (go_big_quiet_step (first | (go_at_call 113; exact Calls.regrown_of (HI.out _)) | (go_at_call 116; exact Calls.regrown_of (HM.out _))))
        refine wpQuiet_nil ?_
        rintro w' ⟨⟨dq, osq⟩, hw''⟩
        have hb3 : Below w1.heap.size w1 w' := by rw [hw'']; exact hbr.trans ((below_regrown wj dq osq).mono hbr.size)
        clear hw'' e0 e1 e2 e3 e4 e5 e6 es f0 f1 f2 f3 f4 f5 f6 f7 f8 f9
        cases R with
        | false =>
          have HNO : Hid (rowOk Hp.id (hpOk c.w c.d) 0 s.h = false) := by show _ = _; rw [HST.out]; rfl
          have HF : Hid (E = 2) := by show _ = _; rw [HE.out, HNO.out]; simp
          go_wp2
          go_ret
          exact ⟨ret_int HF.out.symm, below_step2 Hbw.out hb3⟩
        | true =>
          have HN : Hid (rowOk Hp.id (hpOk c.w c.d) 0 s.h = rowOk Hp.id (hpOk c.w c.d) (lastId Hp.id s.h (k + 1)) (s.h.drop (k + 1))) := by show _ = _; rw [HST.out, Hlast.out]; rfl
          go_wp2
          go_roundw
          case rel => exact ⟨k + 1, by go_num, by omega, HN, hb3⟩
          case measure => simp [intOf]; omega
      · have kI : (0 : Int) < (k : Int) := by omega
        have kD : decide ((0 : Int) < (k : Int)) = true := decide_eq_true kI
        have kE : decide (0 < k) = true := decide_eq_true (by omega)
        obtain ⟨j, hj⟩ : ∃ j, k = j + 1 := ⟨k - 1, by omega⟩
        have hsub : IntKind.i64.wrap ((k : Int) - 1) = (j : Int) := by rw [IntKind.wrap_i64]; omega
        have hj0 : (0 : Int) ≤ (j : Int) := by omega
        have hjn : (j : Int) < (rn : Int) := by omega
        obtain ⟨y, hy⟩ : ∃ y, s.h[j]? = some y := ⟨_, List.getElem?_eq_getElem (by rw [lh.out]; omega)⟩
        have gy := hcell j y hy 0 _ rfl
        simp only [Nat.add_zero] at gy
        have hla : lastId Hp.id s.h k = y.id := by rw [hj]; exact lastId_succ hy
        have Hla := Lib.hid hla
        rw [hla] at Hstep
        clear hk0 hcell ht hy hla hj
        by_cases hle : t.id ≤ y.id
        · have dl : decide (t.id ≤ y.id) = true := decide_eq_true hle
          have HNO : Hid (rowOk Hp.id (hpOk c.w c.d) 0 s.h = false) := by show _ = _; rw [HR.out, Hla.out, Hstep.out, decide_eq_false (show ¬ y.id < t.id by omega)]; simp
          clear hle
          have e0 := fun d os => cell_regrown (show wj.cell? ⟨w.heap.size, 0, none⟩ = some (.int .i64 c.clear) from cell_heap (HA.out wj hbr) rfl) d os
          have e1 := fun d os => cell_regrown (show wj.cell? ⟨w.heap.size, 1, none⟩ = some (.int .i64 c.climb) from cell_heap (HA.out wj hbr) rfl) d os
          have e2 := fun d os => cell_regrown (show wj.cell? ⟨w.heap.size, 2, none⟩ = some (.int .i64 c.height) from cell_heap (HA.out wj hbr) rfl) d os
          have e3 := fun d os => cell_regrown (show wj.cell? ⟨w.heap.size, 3, none⟩ = some (.int .i64 c.rise) from cell_heap (HA.out wj hbr) rfl) d os
          have e4 := fun d os => cell_regrown (show wj.cell? ⟨w.heap.size, 4, none⟩ = some (.int .i64 c.run) from cell_heap (HA.out wj hbr) rfl) d os
          have e5 := fun d os => cell_regrown (show wj.cell? ⟨w.heap.size, 5, none⟩ = some (.int .i64 c.w) from cell_heap (HA.out wj hbr) rfl) d os
          have e6 := fun d os => cell_regrown (show wj.cell? ⟨w.heap.size, 6, none⟩ = some (.int .i64 c.d) from cell_heap (HA.out wj hbr) rfl) d os
          have es := fun d os => cell_regrown (show wj.cell? ⟨w.heap.size + 1, 2, none⟩ = some (.slice (some ⟨b, off, none⟩) rn rc) from cell_heap (HB.out wj hbr) rfl) d os
          have f0 := fun d os => cell_regrown (bcell hbr g0) d os
          have f1 := fun d os => cell_regrown (bcell hbr g1) d os
          have f2 := fun d os => cell_regrown (bcell hbr g2) d os
          have f3 := fun d os => cell_regrown (bcell hbr g3) d os
          have f4 := fun d os => cell_regrown (bcell hbr g4) d os
          have f5 := fun d os => cell_regrown (bcell hbr g5) d os
          have f6 := fun d os => cell_regrown (bcell hbr g6) d os
          have f7 := fun d os => cell_regrown (bcell hbr g7) d os
          have f8 := fun d os => cell_regrown (bcell hbr g8) d os
          have f9 := fun d os => cell_regrown (bcell hbr g9) d os
          have fy := fun d os => cell_regrown (bcell hbr gy) d os
          clear g0 g1 g2 g3 g4 g5 g6 g7 g8 g9 gy
          go_wp2_with fail
          refine wp_region_quiet_below (by kernel_rfl) (by kernel_rfl) ?_
          repeat (go_big_quiet_step (first | (go_at_call 113; exact Calls.regrown_of (HI.out _))))
          refine wpQuiet_nil ?_
          rintro w' ⟨⟨dq, osq⟩, hw''⟩
          have hb3 : Below w1.heap.size w1 w' := by rw [hw'']; exact hbr.trans ((below_regrown wj dq osq).mono hbr.size)
          clear hw'' e0 e1 e2 e3 e4 e5 e6 es f0 f1 f2 f3 f4 f5 f6 f7 f8 f9 fy
          have HF : Hid (E = 2) := by show _ = _; rw [HE.out, HNO.out]; simp
          go_wp2
          go_ret
          exact ⟨ret_int HF.out.symm, below_step2 Hbw.out hb3⟩
        · have dl : decide (t.id ≤ y.id) = false := decide_eq_false hle
          have HST : Hid (rowOk Hp.id (hpOk c.w c.d) 0 s.h = (R && rowOk Hp.id (hpOk c.w c.d) t.id (s.h.drop (k + 1)))) := by
            show _ = _
            rw [HR.out, Hla.out, Hstep.out, Hidp.out, ← HRR.out, decide_eq_true (show y.id < t.id by omega)]
            simp
          clear hle
          have e0 := fun d os => cell_regrown (show wj.cell? ⟨w.heap.size, 0, none⟩ = some (.int .i64 c.clear) from cell_heap (HA.out wj hbr) rfl) d os
          have e1 := fun d os => cell_regrown (show wj.cell? ⟨w.heap.size, 1, none⟩ = some (.int .i64 c.climb) from cell_heap (HA.out wj hbr) rfl) d os
          have e2 := fun d os => cell_regrown (show wj.cell? ⟨w.heap.size, 2, none⟩ = some (.int .i64 c.height) from cell_heap (HA.out wj hbr) rfl) d os
          have e3 := fun d os => cell_regrown (show wj.cell? ⟨w.heap.size, 3, none⟩ = some (.int .i64 c.rise) from cell_heap (HA.out wj hbr) rfl) d os
          have e4 := fun d os => cell_regrown (show wj.cell? ⟨w.heap.size, 4, none⟩ = some (.int .i64 c.run) from cell_heap (HA.out wj hbr) rfl) d os
          have e5 := fun d os => cell_regrown (show wj.cell? ⟨w.heap.size, 5, none⟩ = some (.int .i64 c.w) from cell_heap (HA.out wj hbr) rfl) d os
          have e6 := fun d os => cell_regrown (show wj.cell? ⟨w.heap.size, 6, none⟩ = some (.int .i64 c.d) from cell_heap (HA.out wj hbr) rfl) d os
          have es := fun d os => cell_regrown (show wj.cell? ⟨w.heap.size + 1, 2, none⟩ = some (.slice (some ⟨b, off, none⟩) rn rc) from cell_heap (HB.out wj hbr) rfl) d os
          have f0 := fun d os => cell_regrown (bcell hbr g0) d os
          have f1 := fun d os => cell_regrown (bcell hbr g1) d os
          have f2 := fun d os => cell_regrown (bcell hbr g2) d os
          have f3 := fun d os => cell_regrown (bcell hbr g3) d os
          have f4 := fun d os => cell_regrown (bcell hbr g4) d os
          have f5 := fun d os => cell_regrown (bcell hbr g5) d os
          have f6 := fun d os => cell_regrown (bcell hbr g6) d os
          have f7 := fun d os => cell_regrown (bcell hbr g7) d os
          have f8 := fun d os => cell_regrown (bcell hbr g8) d os
          have f9 := fun d os => cell_regrown (bcell hbr g9) d os
          have fy := fun d os => cell_regrown (bcell hbr gy) d os
          clear g0 g1 g2 g3 g4 g5 g6 g7 g8 g9 gy
          go_wp2_with fail
          refine wp_region_quiet_below (by kernel_rfl) (by kernel_rfl) ?_
          repeat (go_big_quiet_step (first | (go_at_call 113; exact Calls.regrown_of (HI.out _)) | (go_at_call 116; exact Calls.regrown_of (HM.out _))))
          refine wpQuiet_nil ?_
          rintro w' ⟨⟨dq, osq⟩, hw''⟩
          have hb3 : Below w1.heap.size w1 w' := by rw [hw'']; exact hbr.trans ((below_regrown wj dq osq).mono hbr.size)
          clear hw'' e0 e1 e2 e3 e4 e5 e6 es f0 f1 f2 f3 f4 f5 f6 f7 f8 f9 fy
          cases R with
          | false =>
            have HNO : Hid (rowOk Hp.id (hpOk c.w c.d) 0 s.h = false) := by show _ = _; rw [HST.out]; rfl
            have HF : Hid (E = 2) := by show _ = _; rw [HE.out, HNO.out]; simp
            go_wp2
            go_ret
            exact ⟨ret_int HF.out.symm, below_step2 Hbw.out hb3⟩
          | true =>
            have HN : Hid (rowOk Hp.id (hpOk c.w c.d) 0 s.h = rowOk Hp.id (hpOk c.w c.d) (lastId Hp.id s.h (k + 1)) (s.h.drop (k + 1))) := by show _ = _; rw [HST.out, Hlast.out]; rfl
            go_wp2
            go_roundw
            case rel => exact ⟨k + 1, by go_num, by omega, HN, hb3⟩
            case measure => simp [intOf]; omega
  obtain rfl : rn = k := by omega
  have hltn : ¬ (rn : Int) < (rn : Int) := by omega
  have HT2 : Hid (rowOk Hp.id (hpOk c.w c.d) 0 s.h = true) := by show _ = _; rw [HR.out, List.drop_of_length_le (by rw [lh.out]; exact Nat.le_refl _)]; rfl
  have bs := bcell hbr b2
  rw [HT2.out] at HE
  clear HR hlt
  have HF : Hid (E = 0) := by show _ = _; rw [HE.out]; simp
  go_wp2
  go_ret
  exact ⟨ret_int HF.out.symm, below_step2 Hbw.out hbr⟩

end Go.Proofs.Ytilhmlapbifbbaa
