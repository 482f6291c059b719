/- Walk: the reference's tile: Check. -/
import Derived.Test.YtgfmdgiepomkiaaTck
import Derived.Test.YtgfmdgiepomkiaaQap
import Derived.Test.YtgfmdgiepomkiaaQbd
import Derived.Test.YtgfmdgiepomkiaaKl
namespace Go.Proofs.Ytgfmdgiepomkiaa
open Go.RowKit Go.Sort
attribute [local go_sem] Instr.index

set_option maxRecDepth 100000 in
set_option maxHeartbeats 16000000 in
theorem refcheck19_any (cf : Cfg) (tx tz : Int) (a : Option Addr) (n c : Nat) (xs : List (RHd × Rc)) (b : Option Addr) (m d : Nat) (ds : List Dr) (w : World) (hx : SlRc w a n c xs) (hd : SlR drC 6 w b m d ds) :
    Calls Try.prog 25 #[cfgV cf, .agg #[.int .i64 tx, .int .i64 tz, .slice a n c, .slice b m d]] w fun e w' => e = .returned (.int .i64 (tlE cf tx tz (xs.map Prod.snd) ds)) ∧ Below w.heap.size w w' := by
  have CF := Lib.hid (fun W => refcfgcheck_any cf W)
  have Hl := Lib.hid hx.sl.len
  have hmax := hx.sl.max
  have hle := hx.sl.le
  have HX0 := Lib.hid (fun W (hb' : Below w.heap.size w W) => hx.below hb' (Nat.le_refl _))
  have HD0 := Lib.hid (fun W (hb' : Below w.heap.size w W) => hd.below hb' (Nat.le_refl _))
  clear hx hd
  obtain ⟨RES, hRES⟩ : ∃ R, R = tlE cf tx tz (xs.map Prod.snd) ds := ⟨_, rfl⟩
  have hln : (xs.map Prod.snd).length = n := by rw [List.length_map, Hl.out]
  have HF0 : Hid (cfgOk cf = false → RES = 20) := fun h => by rw [hRES]; unfold tlE; rw [if_neg (by simp [h])]
  have HF1 : Hid (cfgOk cf = true → colOk cf tx tz = false → RES = 2) := fun h h2 => by rw [hRES]; exact tl_no h (by unfold tlOk; rw [h2]; rfl)
  have HF2 : Hid (cfgOk cf = true → ¬ n ≤ 96 → RES = 2) := fun h h2 => by rw [hRES]; exact tl_no h (by unfold tlOk; rw [hln, decide_eq_false h2]; simp)
  have HF3 : Hid (cfgOk cf = true → ∀ i, i < n → stepQ cf tx tz (xs.map Prod.snd) i = false → RES = 2) := fun h i hi h2 => by rw [hRES]; exact tl_no h (by unfold tlOk; rw [← stepsPQ]; unfold stepsQ; rw [hln, all_false hi h2]; simp)
  have HF4 : Hid (cfgOk cf = true → bldE cf (xs.map Prod.snd) ≠ 0 → RES = 2) := fun h h2 => by rw [hRES]; exact tl_no h (by unfold tlOk; rw [decide_eq_false h2]; simp)
  have HF5 : Hid (cfgOk cf = true → bldL cf (xs.map Prod.snd) ≠ ds → bldE cf (xs.map Prod.snd) = 0 → RES = 2) := fun h h2 h3 => by rw [hRES]; exact tl_no h (by unfold bldL at h2; rw [if_pos h3] at h2; unfold tlOk; rw [decide_eq_false h2]; simp)
  have HF6 : Hid (cfgOk cf = true → colOk cf tx tz = true → n ≤ 96 → stepsQ cf tx tz (xs.map Prod.snd) n = true → bldE cf (xs.map Prod.snd) = 0 → bldL cf (xs.map Prod.snd) = ds → RES = 0) := fun h h1 h2 h3 h4 h5 => by
    rw [hRES]
    unfold bldL at h5
    rw [if_pos h4, hln] at h5
    rw [stepsPQ] at h3
    unfold tlE tlOk
    rw [if_pos h, h1, hln, decide_eq_true h2, h3, decide_eq_true h4, decide_eq_true h5]
    rfl
  have HGet : Hid (∀ i p, xs[i]? = some p → (xs.map Prod.snd).getD i rcN0 = p.2) := fun i p h => rs_get h
  have HB := Lib.hid (fun W hW (hn : n ≤ 200) => refbuild18_any cf a n c xs W hW hn)
  unfold BnPost at HB
  rw [← hRES]
  clear hRES hln
  generalize xs.map Prod.snd = rs at HF3 HF4 HF5 HF6 HGet HB
  generalize bldE cf rs = BE at HF4 HF5 HF6 HB
  generalize bldL cf rs = BL at HF5 HF6 HB
  have hB : Below w.heap.size w ((w.alloc (cfO cf)).alloc (.cells #[.int .i64 tx, .int .i64 tz, .slice a n c, .slice b m d] 27 (0, 0))) := ((Below.refl _ _).alloc (Nat.le_refl _) _).alloc (by simp) _
  have hC := halloc (World.alloc_heap_new w (cfO cf)) (.cells #[.int .i64 tx, .int .i64 tz, .slice a n c, .slice b m d] 27 (0, 0))
  have hT := World.alloc_heap_new (w.alloc (cfO cf)) (.cells #[.int .i64 tx, .int .i64 tz, .slice a n c, .slice b m d] 27 (0, 0))
  rw [World.size_alloc] at hT
  obtain ⟨W1, hW1⟩ : ∃ W, W = (w.alloc (cfO cf)).alloc (.cells #[.int .i64 tx, .int .i64 tz, .slice a n c, .slice b m d] 27 (0, 0)) := ⟨_, rfl⟩
  rw [← hW1] at hB hC hT
  dsimp only [cfO, cfgV] at hC hW1 CF HB ⊢
  have c0 := hcell (k := 0) (v := .int .i64 cf.clear) hC rfl
  have c1 := hcell (k := 1) (v := .int .i64 cf.climb) hC rfl
  have c2 := hcell (k := 2) (v := .int .i64 cf.height) hC rfl
  have c3 := hcell (k := 3) (v := .int .i64 cf.rise) hC rfl
  have c4 := hcell (k := 4) (v := .int .i64 cf.run) hC rfl
  have c5 := hcell (k := 5) (v := .int .i64 cf.w) hC rfl
  have c6 := hcell (k := 6) (v := .int .i64 cf.d) hC rfl
  go_enter Try.func25, Try.ntmps25
  go_upto_region 1 with fail
  rw [← hW1]
  clear hW1
  by_cases hcf : cfgOk cf = true
  case neg =>
    have hE : cfgE cf = 20 := by unfold cfgE; rw [if_neg hcf]
    rw [hE] at CF
    have hF := Lib.hid (HF0.out (by simpa using hcf))
    go_wp2_with fail
    refine (CF.out _).mono ?_
    rintro e w1 ⟨rfl, hb1⟩
    have hB1 := hB.trans (hb1.mono hB.size)
    clear c0 c1 c2 c3 c4 c5 c6
    go_wp2
    go_ret
    exact ⟨by rw [hF.out]; rfl, hB1⟩
  have hE : cfgE cf = 0 := by unfold cfgE; rw [if_pos hcf]
  rw [hE] at CF
  clear hE HF0
  have CO := Lib.hid (fun W => refcolumns15_any cf tx tz W hcf)
  have hCV : Hid (colOk cf tx tz = (colV cf tx tz).2.2.2.2) := (boxL_of cf tx tz).2
  have hCB : colOk cf tx tz = true → (0 ≤ (colV cf tx tz).1 ∧ (colV cf tx tz).1 ≤ 100 ∧ 0 ≤ (colV cf tx tz).2.1 ∧ (colV cf tx tz).2.1 ≤ 100 ∧ -100 ≤ (colV cf tx tz).2.2.1 ∧ (colV cf tx tz).2.2.1 ≤ 100 ∧ -100 ≤ (colV cf tx tz).2.2.2.1 ∧ (colV cf tx tz).2.2.2.1 ≤ 100) ∧ ∀ r, inT cf tx tz r = (decide ((colV cf tx tz).1 ≤ r.x0) && decide (r.x1 < (colV cf tx tz).1 + (colV cf tx tz).2.2.1) && (decide ((colV cf tx tz).2.1 ≤ r.z0) && decide (r.z1 < (colV cf tx tz).2.1 + (colV cf tx tz).2.2.2.1))) := fun h => by
    obtain ⟨q1, q2, q3, q4, _, _, q7, q8, q9, q10⟩ := tW_facts hcf
    have h2 := h
    unfold colOk at h2
    simp only [Bool.and_eq_true, decide_eq_true_eq] at h2
    unfold colV
    rw [if_pos h]
    exact ⟨by simp only; omega, fun r => rfl⟩
  generalize colV cf tx tz = q at CO hCV hCB
  obtain ⟨bx, bz, bw, bd, ok⟩ := q
  dsimp only at CO hCV hCB
  dsimp only [cfgV] at CO
  have HCB := Lib.hid hCB
  clear hCB
  go_wp2_with fail
  refine (CF.out _).mono ?_
  rintro e w1 ⟨rfl, hb1⟩
  have hC1 := hkeep hb1 hC
  have hT1 := hkeep hb1 hT
  have hB1 := hB.trans (hb1.mono hB.size)
  clear c0 c1 c2 c3 c4 c5 c6 hC hT hb1 hB CF
  have c0 := hcell (k := 0) (v := .int .i64 cf.clear) hC1 rfl
  have c1 := hcell (k := 1) (v := .int .i64 cf.climb) hC1 rfl
  have c2 := hcell (k := 2) (v := .int .i64 cf.height) hC1 rfl
  have c3 := hcell (k := 3) (v := .int .i64 cf.rise) hC1 rfl
  have c4 := hcell (k := 4) (v := .int .i64 cf.run) hC1 rfl
  have c5 := hcell (k := 5) (v := .int .i64 cf.w) hC1 rfl
  have c6 := hcell (k := 6) (v := .int .i64 cf.d) hC1 rfl
  have t0 := hcell (k := 0) (v := .int .i64 tx) hT1 rfl
  have t1 := hcell (k := 1) (v := .int .i64 tz) hT1 rfl
  have t2 := hcell (k := 2) (v := .slice a n c) hT1 rfl
  have t3 := hcell (k := 3) (v := .slice b m d) hT1 rfl
  go_wp2_with fail
  refine (CO.out _).mono ?_
  rintro e w2 ⟨rfl, hb2⟩
  have hC2 := hkeep hb2 hC1
  have hT2 := hkeep hb2 hT1
  have hB2 := hB1.trans (hb2.mono hB1.size)
  clear c0 c1 c2 c3 c4 c5 c6 t0 t1 t2 t3 hC1 hT1 hb2 hB1 CO
  have t0 := hcell (k := 0) (v := .int .i64 tx) hT2 rfl
  have t1 := hcell (k := 1) (v := .int .i64 tz) hT2 rfl
  have t2 := hcell (k := 2) (v := .slice a n c) hT2 rfl
  have t3 := hcell (k := 3) (v := .slice b m d) hT2 rfl
  cases hok : ok with
  | false =>
    subst hok
    have hF := Lib.hid (HF1.out hcf hCV.out)
    clear hC2 hT2
    go_wp2
    go_ret
    exact ⟨by rw [hF.out]; rfl, hB2⟩
  | true =>
  subst hok
  have hcol := Lib.hid hCV.out
  by_cases h96 : n ≤ 96
  case neg =>
    have hF := Lib.hid (HF2.out hcf h96)
    have h96I : (96 : Int) < (n : Int) := by omega
    clear hC2 hT2
    go_wp2
    go_ret
    exact ⟨by rw [hF.out]; rfl, hB2⟩
  have h96I : ¬ (96 : Int) < (n : Int) := by omega
  obtain ⟨⟨l1, l2, l3, l4, l5, l6, l7, l8⟩, hin⟩ := HCB.out hcol.out
  have HON : Hid (∀ r, oneT cf tx tz r = (decide (rcE cf r = 0) && (decide (bx ≤ r.x0) && decide (r.x1 < bx + bw) && (decide (bz ≤ r.z0) && decide (r.z1 < bz + bd))))) := fun r => by unfold oneT; rw [hin r]
  clear hin HCB hCV
  have hC2' := Lib.hid hC2
  have hT2' := Lib.hid hT2
  go_wp2_with fail
  clear t0 t1 t2 t3 hC2 hT2
  go_loopw [10] (fun s wr => ∃ i : Nat, s = .int .i64 (i : Nat) ∧ i ≤ n ∧ Hid (stepsQ cf tx tz rs i = true) ∧ Hid (wr.heap[w.heap.size]? = some (cfO cf)) ∧ Hid (wr.heap[w.heap.size + 1]? = some (.cells #[.int .i64 tx, .int .i64 tz, .slice a n c, .slice b m d] 27 (0, 0))) ∧ Below w.heap.size w wr) (fun s _ => n - (intOf s).toNat)
  case atStart => exact ⟨0, rfl, Nat.zero_le _, rfl, hC2'.out, hT2'.out, hB2⟩
  case round =>
    clear hC2' hT2' hB2
    obtain ⟨i, rfl, hi, HSt, HC, HT, hBr⟩ := hrel
    by_cases hlt : i < n
    · have hltI : (i : Int) < (n : Int) := by omega
      obtain ⟨⟨hr, rr⟩, hxi⟩ : ∃ x, xs[i]? = some x := ⟨_, List.getElem?_eq_getElem (by rw [Hl.out]; exact hlt)⟩
      have hgi := HGet.out i _ hxi
      dsimp only at hgi
      have HSP : Hid (stepQ cf tx tz rs i = (oneT cf tx tz rr && (i == 0 || aheadR (rs.getD (i - 1) rcN0) rr) && apT rs rr i)) := by show _ = _; unfold stepQ; rw [hgi]
      have hSt2 : Hid (stepsQ cf tx tz rs (i + 1) = (stepsQ cf tx tz rs i && stepQ cf tx tz rs i)) := all_range_succ _ i
      clear hgi
      have hsr := (HX0.out _ hBr).one hxi
      obtain ⟨G, off, rfl, _, _⟩ := (HX0.out _ hBr).sl.at0 (by omega)
      have hT := HT.out
      have t0 := hcell (k := 0) (v := .int .i64 tx) hT rfl
      have t1 := hcell (k := 1) (v := .int .i64 tz) hT rfl
      have t2 := hcell (k := 2) (v := .slice (some ⟨G, off, none⟩) n c) hT rfl
      have t3 := hcell (k := 3) (v := .slice b m d) hT rfl
      have hw := HX0.out _ hBr
      have r0 := hw.at hxi 0 _ rfl
      have r1 := hw.at hxi 1 _ rfl
      have r2 := hw.at hxi 2 _ rfl
      have r3 := hw.at hxi 3 _ rfl
      have r4 := hw.at hxi 4 _ rfl
      have r5 := hw.at hxi 5 _ rfl
      have r6 := hw.at hxi 6 _ rfl
      simp only [Nat.add_zero] at r0
      go_upto_region 10 with fail
      clear hw r0 r1 r2 r3 r4 r5 r6
      have hRb := World.alloc_heap_new wr (.cells #[.int .i64 rr.x0, .int .i64 rr.z0, .int .i64 rr.x1, .int .i64 rr.z1, .int .i64 rr.area, .slice hr.ya rr.ys.length hr.yc, .slice hr.ta rr.ts.length hr.tc] 55 (0, 0))
      have hLb : Below wr.heap.size wr (wr.alloc (.cells #[.int .i64 rr.x0, .int .i64 rr.z0, .int .i64 rr.x1, .int .i64 rr.z1, .int .i64 rr.area, .slice hr.ya rr.ys.length hr.yc, .slice hr.ta rr.ts.length hr.tc] 55 (0, 0))) := (Below.refl _ _).alloc (Nat.le_refl _) _
      obtain ⟨W3, hW3⟩ : ∃ W, W = wr.alloc (.cells #[.int .i64 rr.x0, .int .i64 rr.z0, .int .i64 rr.x1, .int .i64 rr.z1, .int .i64 rr.area, .slice hr.ya rr.ys.length hr.yc, .slice hr.ta rr.ts.length hr.tc] 55 (0, 0)) := ⟨_, rfl⟩
      rw [← hW3] at hRb hLb ⊢
      clear hW3
      have HC3 := Lib.hid (hkeep hLb HC.out)
      have HT3 := Lib.hid (hkeep hLb hT)
      have HRB := Lib.hid hRb
      have hB3 := hBr.trans (hLb.mono hBr.size)
      generalize wr.heap.size = P at HRB ⊢
      clear t0 t1 t2 t3 hT HC HT hBr hLb hRb hsr
      obtain ⟨BAD, hBAD⟩ : ∃ x, x = !(oneT cf tx tz rr && (i == 0 || aheadR (rs.getD (i - 1) rcN0) rr)) := ⟨_, rfl⟩
      go_cut [96] from 50 to 95 (fun s wx => s = .bool BAD ∧ Below W3.heap.size W3 wx)
      case first =>
        have hC := HC3.out
        have hT := HT3.out
        have hR := HRB.out
        have c0 := hcell (k := 0) (v := .int .i64 cf.clear) hC rfl
        have c1 := hcell (k := 1) (v := .int .i64 cf.climb) hC rfl
        have c2 := hcell (k := 2) (v := .int .i64 cf.height) hC rfl
        have c3 := hcell (k := 3) (v := .int .i64 cf.rise) hC rfl
        have c4 := hcell (k := 4) (v := .int .i64 cf.run) hC rfl
        have c5 := hcell (k := 5) (v := .int .i64 cf.w) hC rfl
        have c6 := hcell (k := 6) (v := .int .i64 cf.d) hC rfl
        have t0 := hcell (k := 0) (v := .int .i64 tx) hT rfl
        have t1 := hcell (k := 1) (v := .int .i64 tz) hT rfl
        have t2 := hcell (k := 2) (v := .slice (some ⟨G, off, none⟩) n c) hT rfl
        have t3 := hcell (k := 3) (v := .slice b m d) hT rfl
        have r0 := hcell (k := 0) (v := .int .i64 rr.x0) hR rfl
        have r1 := hcell (k := 1) (v := .int .i64 rr.z0) hR rfl
        have r2 := hcell (k := 2) (v := .int .i64 rr.x1) hR rfl
        have r3 := hcell (k := 3) (v := .int .i64 rr.z1) hR rfl
        have r4 := hcell (k := 4) (v := .int .i64 rr.area) hR rfl
        have r5 := hcell (k := 5) (v := .slice hr.ya rr.ys.length hr.yc) hR rfl
        have r6 := hcell (k := 6) (v := .slice hr.ta rr.ts.length hr.tc) hR rfl
        have e_c0 := fun d os => cell_regrown c0 d os
        have e_c1 := fun d os => cell_regrown c1 d os
        have e_c2 := fun d os => cell_regrown c2 d os
        have e_c3 := fun d os => cell_regrown c3 d os
        have e_c4 := fun d os => cell_regrown c4 d os
        have e_c5 := fun d os => cell_regrown c5 d os
        have e_c6 := fun d os => cell_regrown c6 d os
        have e_t0 := fun d os => cell_regrown t0 d os
        have e_t1 := fun d os => cell_regrown t1 d os
        have e_t2 := fun d os => cell_regrown t2 d os
        have e_t3 := fun d os => cell_regrown t3 d os
        have e_r0 := fun d os => cell_regrown r0 d os
        have e_r1 := fun d os => cell_regrown r1 d os
        have e_r2 := fun d os => cell_regrown r2 d os
        have e_r3 := fun d os => cell_regrown r3 d os
        have e_r4 := fun d os => cell_regrown r4 d os
        have e_r5 := fun d os => cell_regrown r5 d os
        have e_r6 := fun d os => cell_regrown r6 d os
        clear c0 c1 c2 c3 c4 c5 c6 t0 t1 t2 t3 r0 r1 r2 r3 r4 r5 r6 hC hT hR
        have RC := Lib.hid (fun d os => refcheck17_any cf hr rr (grow (redrawn W3 d) os) ((HX0.out _ (hB3.trans ((below_regrown W3 d os).mono hB3.size))).one hxi))
        dsimp only [cfgV, rcV] at RC
        have hon := HON.out rr
        have w1 : IntKind.i64.wrap (bx + bw) = bx + bw := by rw [IntKind.wrap_i64]; omega
        have w2 : IntKind.i64.wrap (bz + bd) = bz + bd := by rw [IntKind.wrap_i64]; omega
        by_cases q0 : rcE cf rr = 0
        case neg =>
          have HV : Hid (BAD = true) := by show _ = _; rw [hBAD, hon, decide_eq_false q0]; rfl
          clear hon hBAD
          have q0B : (rcE cf rr != 0) = true := by simpa using q0
          generalize rcE cf rr = qe at RC q0 q0B
          refine wp_region_quiet_below (by kernel_rfl) (by kernel_rfl) ?_
          repeat (go_big_quiet_step (first | (go_at_call 37; with_reducible exact Calls.regrown_of (RC.out _ _))))
          refine wpQuiet_nil ?_
          rintro w4 ⟨⟨dq, osq⟩, hw4⟩
          have hb4 : Below W3.heap.size W3 w4 := by rw [hw4]; exact below_regrown W3 dq osq
          clear hw4 e_c0 e_c1 e_c2 e_c3 e_c4 e_c5 e_c6 e_t0 e_t1 e_t2 e_t3 e_r0 e_r1 e_r2 e_r3 e_r4 e_r5 e_r6
          go_wp2
          go_meet
          exact ⟨by rw [HV.out], hb4⟩
        have er := q0
        rw [q0] at RC
        rw [decide_eq_true q0] at hon
        by_cases q1 : rr.x0 < bx
        case pos =>
          have HV : Hid (BAD = true) := by show _ = _; rw [hBAD, hon, decide_eq_false (by omega : ¬ bx ≤ rr.x0)]; simp
          clear hon hBAD
          refine wp_region_quiet_below (by kernel_rfl) (by kernel_rfl) ?_
          repeat (go_big_quiet_step (first | (go_at_call 37; with_reducible exact Calls.regrown_of (RC.out _ _))))
          refine wpQuiet_nil ?_
          rintro w4 ⟨⟨dq, osq⟩, hw4⟩
          have hb4 : Below W3.heap.size W3 w4 := by rw [hw4]; exact below_regrown W3 dq osq
          clear hw4 e_c0 e_c1 e_c2 e_c3 e_c4 e_c5 e_c6 e_t0 e_t1 e_t2 e_t3 e_r0 e_r1 e_r2 e_r3 e_r4 e_r5 e_r6
          go_wp2
          go_meet
          exact ⟨by rw [HV.out], hb4⟩
        by_cases q2 : bx + bw ≤ rr.x1
        case pos =>
          have HV : Hid (BAD = true) := by show _ = _; rw [hBAD, hon, decide_eq_false (by omega : ¬ rr.x1 < bx + bw)]; simp
          clear hon hBAD
          refine wp_region_quiet_below (by kernel_rfl) (by kernel_rfl) ?_
          repeat (go_big_quiet_step (first | (go_at_call 37; with_reducible exact Calls.regrown_of (RC.out _ _))))
          refine wpQuiet_nil ?_
          rintro w4 ⟨⟨dq, osq⟩, hw4⟩
          have hb4 : Below W3.heap.size W3 w4 := by rw [hw4]; exact below_regrown W3 dq osq
          clear hw4 e_c0 e_c1 e_c2 e_c3 e_c4 e_c5 e_c6 e_t0 e_t1 e_t2 e_t3 e_r0 e_r1 e_r2 e_r3 e_r4 e_r5 e_r6
          go_wp2
          go_meet
          exact ⟨by rw [HV.out], hb4⟩
        by_cases q3 : rr.z0 < bz
        case pos =>
          have HV : Hid (BAD = true) := by show _ = _; rw [hBAD, hon, decide_eq_false (by omega : ¬ bz ≤ rr.z0)]; simp
          clear hon hBAD
          refine wp_region_quiet_below (by kernel_rfl) (by kernel_rfl) ?_
          repeat (go_big_quiet_step (first | (go_at_call 37; with_reducible exact Calls.regrown_of (RC.out _ _))))
          refine wpQuiet_nil ?_
          rintro w4 ⟨⟨dq, osq⟩, hw4⟩
          have hb4 : Below W3.heap.size W3 w4 := by rw [hw4]; exact below_regrown W3 dq osq
          clear hw4 e_c0 e_c1 e_c2 e_c3 e_c4 e_c5 e_c6 e_t0 e_t1 e_t2 e_t3 e_r0 e_r1 e_r2 e_r3 e_r4 e_r5 e_r6
          go_wp2
          go_meet
          exact ⟨by rw [HV.out], hb4⟩
        by_cases q4 : bz + bd ≤ rr.z1
        case pos =>
          have HV : Hid (BAD = true) := by show _ = _; rw [hBAD, hon, decide_eq_false (by omega : ¬ rr.z1 < bz + bd)]; simp
          clear hon hBAD
          refine wp_region_quiet_below (by kernel_rfl) (by kernel_rfl) ?_
          repeat (go_big_quiet_step (first | (go_at_call 37; with_reducible exact Calls.regrown_of (RC.out _ _))))
          refine wpQuiet_nil ?_
          rintro w4 ⟨⟨dq, osq⟩, hw4⟩
          have hb4 : Below W3.heap.size W3 w4 := by rw [hw4]; exact below_regrown W3 dq osq
          clear hw4 e_c0 e_c1 e_c2 e_c3 e_c4 e_c5 e_c6 e_t0 e_t1 e_t2 e_t3 e_r0 e_r1 e_r2 e_r3 e_r4 e_r5 e_r6
          go_wp2
          go_meet
          exact ⟨by rw [HV.out], hb4⟩
        have hone : oneT cf tx tz rr = true := by rw [hon, decide_eq_true (by omega : bx ≤ rr.x0), decide_eq_true (by omega : rr.x1 < bx + bw), decide_eq_true (by omega : bz ≤ rr.z0), decide_eq_true (by omega : rr.z1 < bz + bd)]; rfl
        clear hon
        by_cases qi : i = 0
        case pos =>
          have HV : Hid (BAD = false) := by show _ = _; rw [hBAD, hone, qi]; rfl
          have qiI : ¬ (0 : Int) < (i : Int) := by omega
          have qiN : ¬ 0 < i := by omega
          clear hone hBAD qi
          refine wp_region_quiet_below (by kernel_rfl) (by kernel_rfl) ?_
          repeat (go_big_quiet_step (first | (go_at_call 37; with_reducible exact Calls.regrown_of (RC.out _ _))))
          refine wpQuiet_nil ?_
          rintro w4 ⟨⟨dq, osq⟩, hw4⟩
          have hb4 : Below W3.heap.size W3 w4 := by rw [hw4]; exact below_regrown W3 dq osq
          clear hw4 e_c0 e_c1 e_c2 e_c3 e_c4 e_c5 e_c6 e_t0 e_t1 e_t2 e_t3 e_r0 e_r1 e_r2 e_r3 e_r4 e_r5 e_r6
          go_wp2
          go_meet
          exact ⟨by rw [HV.out], hb4⟩
        obtain ⟨m_, hm_⟩ : ∃ m_, i = m_ + 1 := ⟨i - 1, by omega⟩
        obtain ⟨⟨hv, rv⟩, hxv⟩ : ∃ x, xs[m_]? = some x := ⟨_, List.getElem?_eq_getElem (by rw [Hl.out]; omega)⟩
        have hgv := HGet.out m_ _ hxv
        dsimp only at hgv
        have ev : rcE cf rv = 0 := by
          have h1 := HSt.out
          unfold stepsQ at h1
          rw [List.all_eq_true] at h1
          have h2 := h1 m_ (List.mem_range.2 (by omega))
          unfold stepQ at h2
          rw [hgv, HON.out rv, Bool.and_eq_true, Bool.and_eq_true, Bool.and_eq_true, decide_eq_true_eq] at h2
          exact h2.1.1.1
        have RP := Lib.hid (fun d os => refahead19_any cf hv rv hr rr (grow (redrawn W3 d) os) ((HX0.out _ (hB3.trans ((below_regrown W3 d os).mono hB3.size))).one hxv) ((HX0.out _ (hB3.trans ((below_regrown W3 d os).mono hB3.size))).one hxi) ev er)
        dsimp only [rcV] at RP
        have hbad2 : BAD = !aheadR rv rr := by
          rw [hBAD, hone, show i - 1 = m_ by omega, hgv, show (i == 0) = false by simpa using qi]
          rfl
        have qiI : (0 : Int) < (i : Int) := by omega
        have qiN : 0 < i := by omega
        have hI1 : (i : Int) - 1 = (m_ : Int) := by omega
        have hI2 : IntKind.i64.wrap ((i : Int) - 1) = (m_ : Int) := by rw [IntKind.wrap_i64]; omega
        have hmn : m_ < n := by omega
        have hmnI : (m_ : Int) < (n : Int) := by omega
        have HBD := Lib.hid hbad2
        have hw := HX0.out _ hB3
        have v0 := hw.at hxv 0 _ rfl
        have v1 := hw.at hxv 1 _ rfl
        have v2 := hw.at hxv 2 _ rfl
        have v3 := hw.at hxv 3 _ rfl
        have v4 := hw.at hxv 4 _ rfl
        have v5 := hw.at hxv 5 _ rfl
        have v6 := hw.at hxv 6 _ rfl
        simp only [Nat.add_zero] at v0
        have e_v0 := fun d os => cell_regrown v0 d os
        have e_v1 := fun d os => cell_regrown v1 d os
        have e_v2 := fun d os => cell_regrown v2 d os
        have e_v3 := fun d os => cell_regrown v3 d os
        have e_v4 := fun d os => cell_regrown v4 d os
        have e_v5 := fun d os => cell_regrown v5 d os
        have e_v6 := fun d os => cell_regrown v6 d os
        clear v0 v1 v2 v3 v4 v5 v6 hw hbad2 hBAD hone hm_ hgv ev qi
        generalize aheadR rv rr = AH at RP HBD
        cases AH with
        | true =>
          have HV : Hid (BAD = false) := by show _ = _; rw [HBD.out]; rfl
          clear HBD
          refine wp_region_quiet_below (by kernel_rfl) (by kernel_rfl) ?_
          repeat (go_big_quiet_step (first | (go_at_call 37; with_reducible exact Calls.regrown_of (RC.out _ _)) | (go_at_call 57; with_reducible exact Calls.regrown_of (RP.out _ _))))
          refine wpQuiet_nil ?_
          rintro w4 ⟨⟨dq, osq⟩, hw4⟩
          have hb4 : Below W3.heap.size W3 w4 := by rw [hw4]; exact below_regrown W3 dq osq
          clear hw4 e_c0 e_c1 e_c2 e_c3 e_c4 e_c5 e_c6 e_t0 e_t1 e_t2 e_t3 e_r0 e_r1 e_r2 e_r3 e_r4 e_r5 e_r6 e_v0 e_v1 e_v2 e_v3 e_v4 e_v5 e_v6
          go_wp2
          go_meet
          exact ⟨by rw [HV.out], hb4⟩
        | false =>
          have HV : Hid (BAD = true) := by show _ = _; rw [HBD.out]; rfl
          clear HBD
          refine wp_region_quiet_below (by kernel_rfl) (by kernel_rfl) ?_
          repeat (go_big_quiet_step (first | (go_at_call 37; with_reducible exact Calls.regrown_of (RC.out _ _)) | (go_at_call 57; with_reducible exact Calls.regrown_of (RP.out _ _))))
          refine wpQuiet_nil ?_
          rintro w4 ⟨⟨dq, osq⟩, hw4⟩
          have hb4 : Below W3.heap.size W3 w4 := by rw [hw4]; exact below_regrown W3 dq osq
          clear hw4 e_c0 e_c1 e_c2 e_c3 e_c4 e_c5 e_c6 e_t0 e_t1 e_t2 e_t3 e_r0 e_r1 e_r2 e_r3 e_r4 e_r5 e_r6 e_v0 e_v1 e_v2 e_v3 e_v4 e_v5 e_v6
          go_wp2
          go_meet
          exact ⟨by rw [HV.out], hb4⟩
      case rest =>
        obtain ⟨rfl, hbc⟩ := hcut
        have hB4 := hB3.trans (hbc.mono hB3.size)
        have HC4 := Lib.hid (hkeep hbc HC3.out)
        have HT4 := Lib.hid (hkeep hbc HT3.out)
        have HR4 := Lib.hid (hkeep hbc HRB.out)
        clear HC3 HT3 HRB hbc hB3
        cases hbad : BAD with
        | true =>
          subst hbad
          have hno : stepQ cf tx tz rs i = false := by
            rw [HSP.out]
            have h : (oneT cf tx tz rr && (i == 0 || aheadR (rs.getD (i - 1) rcN0) rr)) = false := (by decide : ∀ X : Bool, true = !X → X = false) _ hBAD
            rw [h]
            rfl
          have hF := Lib.hid (HF3.out hcf i hlt hno)
          clear hno hBAD
          go_wp2
          go_ret
          exact ⟨by rw [hF.out]; rfl, hB4⟩
        | false =>
        subst hbad
        have hgood : (oneT cf tx tz rr && (i == 0 || aheadR (rs.getD (i - 1) rcN0) rr)) = true := (by decide : ∀ X : Bool, false = !X → X = true) _ hBAD
        have er : rcE cf rr = 0 := by
          have h1 := (Bool.and_eq_true _ _ ▸ hgood).1
          rw [HON.out rr, Bool.and_eq_true, decide_eq_true_eq] at h1
          exact h1.1
        rw [hgood, Bool.true_and] at HSP
        clear hBAD hgood
        go_wp2_with fail
        go_loopw [12] (fun s wr => ∃ k : Nat, s = .int .i64 (k : Nat) ∧ k ≤ i ∧ Hid (apT rs rr k = true) ∧ Hid (wr.heap[w.heap.size]? = some (cfO cf)) ∧ Hid (wr.heap[w.heap.size + 1]? = some (.cells #[.int .i64 tx, .int .i64 tz, .slice (some ⟨G, off, none⟩) n c, .slice b m d] 27 (0, 0))) ∧ Hid (wr.heap[P]? = some (.cells #[.int .i64 rr.x0, .int .i64 rr.z0, .int .i64 rr.x1, .int .i64 rr.z1, .int .i64 rr.area, .slice hr.ya rr.ys.length hr.yc, .slice hr.ta rr.ts.length hr.tc] 55 (0, 0))) ∧ Below w.heap.size w wr) (fun s _ => i - (intOf s).toNat)
        case atStart => exact ⟨0, rfl, Nat.zero_le _, rfl, HC4.out, HT4.out, HR4.out, hB4⟩
        case round =>
          clear HC4 HT4 HR4 hB4
          obtain ⟨k, rfl, hk, HAp, HC, HT, HR, hBr⟩ := hrel
          have hT := HT.out
          have hR := HR.out
          have t0 := hcell (k := 0) (v := .int .i64 tx) hT rfl
          have t1 := hcell (k := 1) (v := .int .i64 tz) hT rfl
          have t2 := hcell (k := 2) (v := .slice (some ⟨G, off, none⟩) n c) hT rfl
          have t3 := hcell (k := 3) (v := .slice b m d) hT rfl
          have r0 := hcell (k := 0) (v := .int .i64 rr.x0) hR rfl
          have r1 := hcell (k := 1) (v := .int .i64 rr.z0) hR rfl
          have r2 := hcell (k := 2) (v := .int .i64 rr.x1) hR rfl
          have r3 := hcell (k := 3) (v := .int .i64 rr.z1) hR rfl
          have r4 := hcell (k := 4) (v := .int .i64 rr.area) hR rfl
          have r5 := hcell (k := 5) (v := .slice hr.ya rr.ys.length hr.yc) hR rfl
          have r6 := hcell (k := 6) (v := .slice hr.ta rr.ts.length hr.tc) hR rfl
          clear hT hR
          by_cases hlt2 : k < i
          case neg =>
            obtain rfl : k = i := by omega
            have hkI : ¬ (k : Int) < (k : Int) := by omega
            have wk : IntKind.i64.wrap ((k : Int) + 1) = ((k + 1 : Nat) : Int) := by rw [IntKind.wrap_i64]; omega
            have hS4 : Hid (stepsQ cf tx tz rs (k + 1) = true) := by show _ = _; rw [hSt2.out, HSt.out, HSP.out, HAp.out]; rfl
            clear t0 t1 t2 t3 r0 r1 r2 r3 r4 r5 r6
            go_wp2
            go_roundw
            case rel => exact ⟨k + 1, by go_num, by omega, hS4, HC.out, HT.out, hBr⟩
            case measure => simp [intOf]; omega
          have hkI : (k : Int) < (i : Int) := by omega
          have hkI2 : (k : Int) < (n : Int) := by omega
          have wk : IntKind.i64.wrap ((k : Int) + 1) = ((k + 1 : Nat) : Int) := by rw [IntKind.wrap_i64]; omega
          obtain ⟨⟨ho, ro⟩, hxk⟩ : ∃ x, xs[k]? = some x := ⟨_, List.getElem?_eq_getElem (by rw [Hl.out]; omega)⟩
          have hgk := HGet.out k _ hxk
          dsimp only at hgk
          have eo : rcE cf ro = 0 := by
            have h1 := HSt.out
            unfold stepsQ at h1
            rw [List.all_eq_true] at h1
            have h2 := h1 k (List.mem_range.2 hlt2)
            unfold stepQ at h2
            rw [hgk, HON.out ro, Bool.and_eq_true, Bool.and_eq_true, Bool.and_eq_true, decide_eq_true_eq] at h2
            exact h2.1.1.1
          have HA2 : Hid (apT rs rr (k + 1) = (apT rs rr k && apartR ro rr)) := by show _ = _; unfold apT; rw [all_range_succ, hgk]
          have HA3 : Hid (apartR ro rr = false → apT rs rr i = false) := fun h => by unfold apT; exact all_false hlt2 (by rw [hgk]; exact h)
          have RA := Lib.hid (fun d os => refapart19_any cf ho ro hr rr (grow (redrawn wr d) os) ((HX0.out _ (hBr.trans ((below_regrown wr d os).mono hBr.size))).one hxk) ((HX0.out _ (hBr.trans ((below_regrown wr d os).mono hBr.size))).one hxi) eo er)
          dsimp only [rcV] at RA
          have hw := HX0.out _ hBr
          clear hgk
          have v0 := hw.at hxk 0 _ rfl
          have v1 := hw.at hxk 1 _ rfl
          have v2 := hw.at hxk 2 _ rfl
          have v3 := hw.at hxk 3 _ rfl
          have v4 := hw.at hxk 4 _ rfl
          have v5 := hw.at hxk 5 _ rfl
          have v6 := hw.at hxk 6 _ rfl
          simp only [Nat.add_zero] at v0
          go_upto_region 15 with fail
          clear hw
          have e_t0 := fun d os => cell_regrown t0 d os
          have e_t1 := fun d os => cell_regrown t1 d os
          have e_t2 := fun d os => cell_regrown t2 d os
          have e_t3 := fun d os => cell_regrown t3 d os
          have e_r0 := fun d os => cell_regrown r0 d os
          have e_r1 := fun d os => cell_regrown r1 d os
          have e_r2 := fun d os => cell_regrown r2 d os
          have e_r3 := fun d os => cell_regrown r3 d os
          have e_r4 := fun d os => cell_regrown r4 d os
          have e_r5 := fun d os => cell_regrown r5 d os
          have e_r6 := fun d os => cell_regrown r6 d os
          have e_v0 := fun d os => cell_regrown v0 d os
          have e_v1 := fun d os => cell_regrown v1 d os
          have e_v2 := fun d os => cell_regrown v2 d os
          have e_v3 := fun d os => cell_regrown v3 d os
          have e_v4 := fun d os => cell_regrown v4 d os
          have e_v5 := fun d os => cell_regrown v5 d os
          have e_v6 := fun d os => cell_regrown v6 d os
          clear t0 t1 t2 t3 r0 r1 r2 r3 r4 r5 r6 v0 v1 v2 v3 v4 v5 v6
          generalize apartR ro rr = AP at RA HA2 HA3
          refine wp_region_quiet_below (by kernel_rfl) (by kernel_rfl) ?_
          repeat (go_big_quiet_step ((go_at_call 58; with_reducible exact Calls.regrown_of (RA.out _ _))))
          refine wpQuiet_nil ?_
          rintro w4 ⟨⟨dq, osq⟩, hw4⟩
          have hb4 : Below wr.heap.size wr w4 := by rw [hw4]; exact below_regrown wr dq osq
          have hB4 := hBr.trans (hb4.mono hBr.size)
          have HC4 := Lib.hid (hkeep hb4 HC.out)
          have HT4 := Lib.hid (hkeep hb4 HT.out)
          have HR4 := Lib.hid (hkeep hb4 HR.out)
          clear hw4 e_t0 e_t1 e_t2 e_t3 e_r0 e_r1 e_r2 e_r3 e_r4 e_r5 e_r6 e_v0 e_v1 e_v2 e_v3 e_v4 e_v5 e_v6 hb4 RA HC HT HR hBr
          cases AP with
          | false =>
            have hF := Lib.hid (HF3.out hcf i hlt (by rw [HSP.out, HA3.out rfl]))
            go_wp2
            go_ret
            exact ⟨by rw [hF.out]; rfl, hB4⟩
          | true =>
            have hA4 : Hid (apT rs rr (k + 1) = true) := by show _ = _; rw [HA2.out, HAp.out]; rfl
            go_wp2
            go_roundw
            case rel => exact ⟨k + 1, by go_num, by omega, hA4, HC4.out, HT4.out, HR4.out, hB4⟩
            case measure => simp [intOf]; omega
    · have hin : i = n := by omega
      rw [hin] at HSt
      have hltI : ¬ (i : Int) < (n : Int) := by omega
      have hC := HC.out
      have hT := HT.out
      have c0 := hcell (k := 0) (v := .int .i64 cf.clear) hC rfl
      have c1 := hcell (k := 1) (v := .int .i64 cf.climb) hC rfl
      have c2 := hcell (k := 2) (v := .int .i64 cf.height) hC rfl
      have c3 := hcell (k := 3) (v := .int .i64 cf.rise) hC rfl
      have c4 := hcell (k := 4) (v := .int .i64 cf.run) hC rfl
      have c5 := hcell (k := 5) (v := .int .i64 cf.w) hC rfl
      have c6 := hcell (k := 6) (v := .int .i64 cf.d) hC rfl
      have t0 := hcell (k := 0) (v := .int .i64 tx) hT rfl
      have t1 := hcell (k := 1) (v := .int .i64 tz) hT rfl
      have t2 := hcell (k := 2) (v := .slice a n c) hT rfl
      have t3 := hcell (k := 3) (v := .slice b m d) hT rfl
      go_wp2_with fail
      refine (HB.out _ (HX0.out _ hBr) (by omega)).mono ?_
      rintro e w5 ⟨ad, cd, rfl, hsl, hb5⟩
      have hB5 := hBr.trans (hb5.mono hBr.size)
      have hT5 := hkeep hb5 hT
      clear c0 c1 c2 c3 c4 c5 c6 t0 t1 t2 t3 hC hT HC HT hb5 hBr
      have t0 := hcell (k := 0) (v := .int .i64 tx) hT5 rfl
      have t1 := hcell (k := 1) (v := .int .i64 tz) hT5 rfl
      have t2 := hcell (k := 2) (v := .slice a n c) hT5 rfl
      have t3 := hcell (k := 3) (v := .slice b m d) hT5 rfl
      by_cases hbe : BE = 0
      case neg =>
        have hbeB : (BE != 0) = true := by simpa using hbe
        have hF := Lib.hid (HF4.out hcf hbe)
        clear hT5
        go_wp2
        go_ret
        exact ⟨by rw [hF.out]; rfl, hB5⟩
      subst hbe
      have DQ := Lib.hid (fun W hW1 hW2 => samedoors19_any ad b BL.length cd m d BL ds W hW1 hW2)
      obtain ⟨EQ, hEQ⟩ : ∃ B, B = decide (BL = ds) := ⟨_, rfl⟩
      rw [← hEQ] at DQ
      have HEQ := Lib.hid hEQ
      clear hEQ hT5
      go_wp2_with fail
      refine (DQ.out _ hsl (HD0.out _ hB5)).mono ?_
      rintro e w6 ⟨rfl, hb6⟩
      have hB6 := hB5.trans (hb6.mono hB5.size)
      clear t0 t1 t2 t3
      cases heq : EQ with
      | false =>
        subst heq
        have hF := Lib.hid (HF5.out hcf (of_decide_eq_false HEQ.out.symm) (by trivial))
        go_wp2
        go_ret
        exact ⟨by rw [hF.out]; rfl, hB6⟩
      | true =>
        subst heq
        have hF := Lib.hid (HF6.out hcf hcol.out h96 HSt.out (by trivial) (of_decide_eq_true HEQ.out.symm))
        go_wp2
        go_ret
        exact ⟨by rw [hF.out]; rfl, hB6⟩
end Go.Proofs.Ytgfmdgiepomkiaa
