/- Walk: tile.Check. -/
import Derived.Test.YtmgkkmcihplojaaGreatLk
import Derived.Test.YtmgkkmcihplojaaGreatTap
import Derived.Test.YtmgkkmcihplojaaGreatDrH
import Derived.Test.YtmgkkmcihplojaaGreatLm
import Derived.Test.YtmgkkmcihplojaaGreatKo
namespace Go.Proofs.YtmgkkmcihplojaaGreat
open Go.RowKit Go.Sort
attribute [local go_sem] Instr.index

theorem tl_no {cf : Cfg} {tx tz : Int} {rs : List Rc} {ds : List Dr} (hc : cfgOk cf = true) (h : tlOk cf tx tz rs ds = false) : tlE cf tx tz rs ds = 2 := by
  unfold tlE
  rw [if_pos hc, if_neg (by simp [h])]
theorem rs_get {xs : List (RHd × Rc)} {i : Nat} {p : RHd × Rc} (h : xs[i]? = some p) : (xs.map Prod.snd).getD i rcN0 = p.2 := by
  rw [List.getD_eq_getElem?_getD, List.getElem?_map, h]
  rfl
theorem rcOk_ys {cf : Cfg} {r : Rc} (h : rcE cf r = 0) : 0 < r.ys.length := by
  have hk := (rcE_zero.1 h).2
  unfold rcOk rcLens at hk
  simp only [Bool.and_eq_true, decide_eq_true_eq] at hk
  obtain ⟨⟨hb, hy, _⟩, _⟩ := hk
  have := (rcN_bd hb).1
  omega
set_option linter.unnecessarySimpa false in
theorem y0_cell {w : World} {b o n c : Nat} {ys : List Int} (h : SlI .i64 w (some ⟨b, o, none⟩) n c ys) (hn : 0 < n) : w.cell? ⟨b, o, none⟩ = some (.int .i64 (y0R ⟨0, 0, 0, 0, 0, ys, []⟩)) := by
  obtain ⟨b', o', e, hc⟩ := h.at0 hn
  cases e
  have := hc 0 hn
  simpa [y0R] using this
theorem cas40 {P : (i : Nat) → i < 40 → Prop} (h0 : P 0 (by decide)) (h1 : P 1 (by decide)) (h2 : P 2 (by decide)) (h3 : P 3 (by decide)) (h4 : P 4 (by decide)) (h5 : P 5 (by decide)) (h6 : P 6 (by decide)) (h7 : P 7 (by decide)) (h8 : P 8 (by decide)) (h9 : P 9 (by decide)) (h10 : P 10 (by decide)) (h11 : P 11 (by decide)) (h12 : P 12 (by decide)) (h13 : P 13 (by decide)) (h14 : P 14 (by decide)) (h15 : P 15 (by decide)) (h16 : P 16 (by decide)) (h17 : P 17 (by decide)) (h18 : P 18 (by decide)) (h19 : P 19 (by decide)) (h20 : P 20 (by decide)) (h21 : P 21 (by decide)) (h22 : P 22 (by decide)) (h23 : P 23 (by decide)) (h24 : P 24 (by decide)) (h25 : P 25 (by decide)) (h26 : P 26 (by decide)) (h27 : P 27 (by decide)) (h28 : P 28 (by decide)) (h29 : P 29 (by decide)) (h30 : P 30 (by decide)) (h31 : P 31 (by decide)) (h32 : P 32 (by decide)) (h33 : P 33 (by decide)) (h34 : P 34 (by decide)) (h35 : P 35 (by decide)) (h36 : P 36 (by decide)) (h37 : P 37 (by decide)) (h38 : P 38 (by decide)) (h39 : P 39 (by decide)) (i : Nat) (h : i < 40) : P i h := by
  by_cases e : i < 20
  · rcases (by omega : i = 0 ∨ i = 1 ∨ i = 2 ∨ i = 3 ∨ i = 4 ∨ i = 5 ∨ i = 6 ∨ i = 7 ∨ i = 8 ∨ i = 9 ∨ i = 10 ∨ i = 11 ∨ i = 12 ∨ i = 13 ∨ i = 14 ∨ i = 15 ∨ i = 16 ∨ i = 17 ∨ i = 18 ∨ i = 19) with rfl | rfl | rfl | rfl | rfl | rfl | rfl | rfl | rfl | rfl | rfl | rfl | rfl | rfl | rfl | rfl | rfl | rfl | rfl | rfl <;> assumption
  · rcases (by omega : i = 20 ∨ i = 21 ∨ i = 22 ∨ i = 23 ∨ i = 24 ∨ i = 25 ∨ i = 26 ∨ i = 27 ∨ i = 28 ∨ i = 29 ∨ i = 30 ∨ i = 31 ∨ i = 32 ∨ i = 33 ∨ i = 34 ∨ i = 35 ∨ i = 36 ∨ i = 37 ∨ i = 38 ∨ i = 39) with rfl | rfl | rfl | rfl | rfl | rfl | rfl | rfl | rfl | rfl | rfl | rfl | rfl | rfl | rfl | rfl | rfl | rfl | rfl | rfl <;> assumption
set_option maxRecDepth 100000 in
set_option maxHeartbeats 16000000 in
theorem tilecheck_any (cf : Cfg) (tx tz : Int) (a : Option Addr) (n c : Nat) (xs : List (RHd × Rc)) (b : Option Addr) (m d : Nat) (ds : List Dr) (w : World) (hx : SlRc w a n c xs) (hd : SlR drC 6 w b m d ds) :
    Calls Tryz.prog 26 #[cfgV cf, .agg #[.int .i64 tx, .int .i64 tz, .slice a n c, .slice b m d]] w fun e w' => e = .returned (.int .i64 (tlE cf tx tz (xs.map Prod.snd) ds)) ∧ Below w.heap.size w w' := by
  have CF := Lib.hid (fun W => cfgcheck_any cf W)
  have Hl := Lib.hid hx.sl.len
  have hmax := hx.sl.max
  have hle := hx.sl.le
  have HX0 := Lib.hid (fun W (hb' : Below w.heap.size w W) => hx.below hb' (Nat.le_refl _))
  have HD0 := Lib.hid (fun W (hb' : Below w.heap.size w W) => hd.below hb' (Nat.le_refl _))
  clear hx hd
  obtain ⟨RES, hRES⟩ : ∃ R, R = tlE cf tx tz (xs.map Prod.snd) ds := ⟨_, rfl⟩
  have hln : (xs.map Prod.snd).length = n := by rw [List.length_map, Hl.out]
  have HF0 : Hid (cfgOk cf = false → RES = 20) := fun h => by rw [hRES]; unfold tlE; rw [if_neg (by simp [h])]
  have HF1 : Hid (cfgOk cf = true → colOk cf tx tz = false → RES = 2) := fun h h2 => by rw [hRES]; exact tl_no h (by unfold tlOk; rw [h2]; rfl)
  have HF2 : Hid (cfgOk cf = true → ¬ n ≤ 96 → RES = 2) := fun h h2 => by rw [hRES]; exact tl_no h (by unfold tlOk; rw [hln, decide_eq_false h2]; simp)
  have HF3 : Hid (cfgOk cf = true → ∀ i, i < n → stepP cf tx tz (xs.map Prod.snd) i = false → RES = 2) := fun h i hi h2 => by rw [hRES]; exact tl_no h (by unfold tlOk stepsP; rw [hln, all_false hi h2]; simp)
  have HF4 : Hid (cfgOk cf = true → bldE cf (xs.map Prod.snd) ≠ 0 → RES = 2) := fun h h2 => by rw [hRES]; exact tl_no h (by unfold tlOk; rw [decide_eq_false h2]; simp)
  have HF5 : Hid (cfgOk cf = true → bldL cf (xs.map Prod.snd) ≠ ds → bldE cf (xs.map Prod.snd) = 0 → RES = 2) := fun h h2 h3 => by rw [hRES]; exact tl_no h (by unfold bldL at h2; rw [if_pos h3] at h2; unfold tlOk; rw [decide_eq_false h2]; simp)
  have HF6 : Hid (cfgOk cf = true → colOk cf tx tz = true → n ≤ 96 → stepsP cf tx tz (xs.map Prod.snd) n = true → bldE cf (xs.map Prod.snd) = 0 → bldL cf (xs.map Prod.snd) = ds → RES = 0) := fun h h1 h2 h3 h4 h5 => by
    rw [hRES]
    unfold bldL at h5
    rw [if_pos h4, hln] at h5
    unfold tlE tlOk
    rw [if_pos h, h1, hln, decide_eq_true h2, h3, decide_eq_true h4, decide_eq_true h5]
    rfl
  have HGet : Hid (∀ i p, xs[i]? = some p → (xs.map Prod.snd).getD i rcN0 = p.2) := fun i p h => rs_get h
  have HB := Lib.hid (fun W hW (hn : n ≤ 200) => dbuild_any cf a n c xs W hW hn)
  unfold BnPost at HB
  rw [← hRES]
  clear hRES hln
  generalize xs.map Prod.snd = rs at HF3 HF4 HF5 HF6 HGet HB
  generalize bldE cf rs = BE at HF4 HF5 HF6 HB
  generalize bldL cf rs = BL at HF5 HF6 HB
  have hB : Below w.heap.size w ((w.alloc (cfO cf)).alloc (.cells #[.int .i64 tx, .int .i64 tz, .slice a n c, .slice b m d] 38 (0, 0))) := ((Below.refl _ _).alloc (Nat.le_refl _) _).alloc (by simp) _
  have hC := halloc (World.alloc_heap_new w (cfO cf)) (.cells #[.int .i64 tx, .int .i64 tz, .slice a n c, .slice b m d] 38 (0, 0))
  have hT := World.alloc_heap_new (w.alloc (cfO cf)) (.cells #[.int .i64 tx, .int .i64 tz, .slice a n c, .slice b m d] 38 (0, 0))
  rw [World.size_alloc] at hT
  obtain ⟨W1, hW1⟩ : ∃ W, W = (w.alloc (cfO cf)).alloc (.cells #[.int .i64 tx, .int .i64 tz, .slice a n c, .slice b m d] 38 (0, 0)) := ⟨_, rfl⟩
  rw [← hW1] at hB hC hT
  dsimp only [cfO, cfgV] at hC hW1 CF HB ⊢
  have c0 := hcell (k := 0) (v := .int .i64 cf.clear) hC rfl
  have c1 := hcell (k := 1) (v := .int .i64 cf.climb) hC rfl
  have c2 := hcell (k := 2) (v := .int .i64 cf.height) hC rfl
  have c3 := hcell (k := 3) (v := .int .i64 cf.rise) hC rfl
  have c4 := hcell (k := 4) (v := .int .i64 cf.run) hC rfl
  have c5 := hcell (k := 5) (v := .int .i64 cf.w) hC rfl
  have c6 := hcell (k := 6) (v := .int .i64 cf.d) hC rfl
  go_enter Tryz.func26, Tryz.ntmps26
  go_upto_region 1 with fail
  rw [← hW1]
  clear hW1
  by_cases hcf : cfgOk cf = true
  case neg =>
    have hE : cfgE cf = 20 := by unfold cfgE; rw [if_neg hcf]
    rw [hE] at CF
    have hF := Lib.hid (HF0.out (by simpa using hcf))
    go_wp2_with fail
    refine (CF.out _).mono ?_
    rintro e w1 ⟨rfl, hb1⟩
    have hB1 := hB.trans (hb1.mono hB.size)
    clear c0 c1 c2 c3 c4 c5 c6
    go_wp2
    go_ret
    exact ⟨by rw [hF.out]; rfl, hB1⟩
  have hE : cfgE cf = 0 := by unfold cfgE; rw [if_pos hcf]
  rw [hE] at CF
  clear hE HF0
  have CO := Lib.hid (fun W => columns15_any cf tx tz W hcf)
  have hCV : Hid (colOk cf tx tz = (colV cf tx tz).2.2.2.2) := (boxL_of cf tx tz).2
  have hCB : colOk cf tx tz = true → (0 ≤ (colV cf tx tz).1 ∧ (colV cf tx tz).1 ≤ 100 ∧ 0 ≤ (colV cf tx tz).2.1 ∧ (colV cf tx tz).2.1 ≤ 100 ∧ -100 ≤ (colV cf tx tz).2.2.1 ∧ (colV cf tx tz).2.2.1 ≤ 100 ∧ -100 ≤ (colV cf tx tz).2.2.2.1 ∧ (colV cf tx tz).2.2.2.1 ≤ 100) ∧ ∀ r, inT cf tx tz r = (decide ((colV cf tx tz).1 ≤ r.x0) && decide (r.x1 < (colV cf tx tz).1 + (colV cf tx tz).2.2.1) && (decide ((colV cf tx tz).2.1 ≤ r.z0) && decide (r.z1 < (colV cf tx tz).2.1 + (colV cf tx tz).2.2.2.1))) := fun h => by
    obtain ⟨q1, q2, q3, q4, _, _, q7, q8, q9, q10⟩ := tW_facts hcf
    have h2 := h
    unfold colOk at h2
    simp only [Bool.and_eq_true, decide_eq_true_eq] at h2
    unfold colV
    rw [if_pos h]
    exact ⟨by simp only; omega, fun r => rfl⟩
  generalize colV cf tx tz = q at CO hCV hCB
  obtain ⟨bx, bz, bw, bd, ok⟩ := q
  dsimp only at CO hCV hCB
  dsimp only [cfgV] at CO
  have HCB := Lib.hid hCB
  clear hCB
  go_wp2_with fail
  refine (CF.out _).mono ?_
  rintro e w1 ⟨rfl, hb1⟩
  have hC1 := hkeep hb1 hC
  have hT1 := hkeep hb1 hT
  have hB1 := hB.trans (hb1.mono hB.size)
  clear c0 c1 c2 c3 c4 c5 c6 hC hT hb1 hB CF
  have c0 := hcell (k := 0) (v := .int .i64 cf.clear) hC1 rfl
  have c1 := hcell (k := 1) (v := .int .i64 cf.climb) hC1 rfl
  have c2 := hcell (k := 2) (v := .int .i64 cf.height) hC1 rfl
  have c3 := hcell (k := 3) (v := .int .i64 cf.rise) hC1 rfl
  have c4 := hcell (k := 4) (v := .int .i64 cf.run) hC1 rfl
  have c5 := hcell (k := 5) (v := .int .i64 cf.w) hC1 rfl
  have c6 := hcell (k := 6) (v := .int .i64 cf.d) hC1 rfl
  have t0 := hcell (k := 0) (v := .int .i64 tx) hT1 rfl
  have t1 := hcell (k := 1) (v := .int .i64 tz) hT1 rfl
  have t2 := hcell (k := 2) (v := .slice a n c) hT1 rfl
  have t3 := hcell (k := 3) (v := .slice b m d) hT1 rfl
  go_wp2_with fail
  refine (CO.out _).mono ?_
  rintro e w2 ⟨rfl, hb2⟩
  have hC2 := hkeep hb2 hC1
  have hT2 := hkeep hb2 hT1
  have hB2 := hB1.trans (hb2.mono hB1.size)
  clear c0 c1 c2 c3 c4 c5 c6 t0 t1 t2 t3 hC1 hT1 hb2 hB1 CO
  have t0 := hcell (k := 0) (v := .int .i64 tx) hT2 rfl
  have t1 := hcell (k := 1) (v := .int .i64 tz) hT2 rfl
  have t2 := hcell (k := 2) (v := .slice a n c) hT2 rfl
  have t3 := hcell (k := 3) (v := .slice b m d) hT2 rfl
  cases hok : ok with
  | false =>
    subst hok
    have hF := Lib.hid (HF1.out hcf hCV.out)
    clear hC2 hT2
    go_wp2
    go_ret
    exact ⟨by rw [hF.out]; rfl, hB2⟩
  | true =>
  subst hok
  have hcol := Lib.hid hCV.out
  by_cases h96 : n ≤ 96
  case neg =>
    have hF := Lib.hid (HF2.out hcf h96)
    have h96I : (96 : Int) < (n : Int) := by omega
    clear hC2 hT2
    go_wp2
    go_ret
    exact ⟨by rw [hF.out]; rfl, hB2⟩
  have h96I : ¬ (96 : Int) < (n : Int) := by omega
  obtain ⟨⟨l1, l2, l3, l4, l5, l6, l7, l8⟩, hin⟩ := HCB.out hcol.out
  have HON : Hid (∀ r, oneT cf tx tz r = (decide (rcE cf r = 0) && (decide (bx ≤ r.x0) && decide (r.x1 < bx + bw) && (decide (bz ≤ r.z0) && decide (r.z1 < bz + bd))))) := fun r => by unfold oneT; rw [hin r]
  clear hin HCB hCV
  have hC2' := Lib.hid hC2
  have hT2' := Lib.hid hT2
  go_wp2_with fail
  clear t0 t1 t2 t3 hC2 hT2
  go_loopw [42] (fun s wr => ∃ i : Nat, s = .int .i64 (i : Nat) ∧ i ≤ n ∧ Hid (stepsP cf tx tz rs i = true) ∧ Hid (wr.heap[w.heap.size]? = some (cfO cf)) ∧ Hid (wr.heap[w.heap.size + 1]? = some (.cells #[.int .i64 tx, .int .i64 tz, .slice a n c, .slice b m d] 38 (0, 0))) ∧ Below w.heap.size w wr) (fun s _ => n - (intOf s).toNat)
  case atStart => exact ⟨0, rfl, Nat.zero_le _, rfl, hC2'.out, hT2'.out, hB2⟩
  case round =>
    clear hC2' hT2' hB2
    obtain ⟨i, rfl, hi, HSt, HC, HT, hBr⟩ := hrel
    by_cases hlt : i < n
    · have hltI : (i : Int) < (n : Int) := by omega
      obtain ⟨⟨hr, rr⟩, hxi⟩ : ∃ x, xs[i]? = some x := ⟨_, List.getElem?_eq_getElem (by rw [Hl.out]; exact hlt)⟩
      have hgi := HGet.out i _ hxi
      dsimp only at hgi
      have HSP : Hid (stepP cf tx tz rs i = (oneT cf tx tz rr && ahT rs rr i)) := by show _ = _; unfold stepP; rw [hgi]
      have hSt2 : Hid (stepsP cf tx tz rs (i + 1) = (stepsP cf tx tz rs i && stepP cf tx tz rs i)) := all_range_succ _ i
      clear hgi
      obtain ⟨G, off, rfl, _, _⟩ := (HX0.out _ hBr).sl.at0 (by omega)
      have hT := HT.out
      have t0 := hcell (k := 0) (v := .int .i64 tx) hT rfl
      have t1 := hcell (k := 1) (v := .int .i64 tz) hT rfl
      have t2 := hcell (k := 2) (v := .slice (some ⟨G, off, none⟩) n c) hT rfl
      have t3 := hcell (k := 3) (v := .slice b m d) hT rfl
      go_upto_region 10 with fail
      clear t0 t1 t2 t3 hT
      go_cut [90] from 49 to 89 (fun s wx => s = .bool (!oneT cf tx tz rr) ∧ Below wr.heap.size wr wx)
      case first =>
        have hC := HC.out
        have hw := HX0.out _ hBr
        have c0 := hcell (k := 0) (v := .int .i64 cf.clear) hC rfl
        have c1 := hcell (k := 1) (v := .int .i64 cf.climb) hC rfl
        have c2 := hcell (k := 2) (v := .int .i64 cf.height) hC rfl
        have c3 := hcell (k := 3) (v := .int .i64 cf.rise) hC rfl
        have c4 := hcell (k := 4) (v := .int .i64 cf.run) hC rfl
        have c5 := hcell (k := 5) (v := .int .i64 cf.w) hC rfl
        have c6 := hcell (k := 6) (v := .int .i64 cf.d) hC rfl
        have r0 := hw.at hxi 0 _ rfl
        have r1 := hw.at hxi 1 _ rfl
        have r2 := hw.at hxi 2 _ rfl
        have r3 := hw.at hxi 3 _ rfl
        have r4 := hw.at hxi 4 _ rfl
        have r5 := hw.at hxi 5 _ rfl
        have r6 := hw.at hxi 6 _ rfl
        simp only [Nat.add_zero] at r0
        have e_c0 := fun d os => cell_regrown c0 d os
        have e_c1 := fun d os => cell_regrown c1 d os
        have e_c2 := fun d os => cell_regrown c2 d os
        have e_c3 := fun d os => cell_regrown c3 d os
        have e_c4 := fun d os => cell_regrown c4 d os
        have e_c5 := fun d os => cell_regrown c5 d os
        have e_c6 := fun d os => cell_regrown c6 d os
        have e_r0 := fun d os => cell_regrown r0 d os
        have e_r1 := fun d os => cell_regrown r1 d os
        have e_r2 := fun d os => cell_regrown r2 d os
        have e_r3 := fun d os => cell_regrown r3 d os
        have e_r4 := fun d os => cell_regrown r4 d os
        have e_r5 := fun d os => cell_regrown r5 d os
        have e_r6 := fun d os => cell_regrown r6 d os
        clear c0 c1 c2 c3 c4 c5 c6 r0 r1 r2 r3 r4 r5 r6 hC hw
        have RC := Lib.hid (fun d os => rccheck_any cf hr rr (grow (redrawn wr d) os) ((HX0.out _ (hBr.trans ((below_regrown wr d os).mono hBr.size))).one hxi))
        dsimp only [cfgV, rcV] at RC
        have hon := HON.out rr
        have w1 : IntKind.i64.wrap (bx + bw) = bx + bw := by rw [IntKind.wrap_i64]; omega
        have w2 : IntKind.i64.wrap (bz + bd) = bz + bd := by rw [IntKind.wrap_i64]; omega
        by_cases q0 : rcE cf rr = 0
        case neg =>
          have HV : Hid (oneT cf tx tz rr = false) := by show _ = _; rw [hon, decide_eq_false q0]; rfl
          clear hon
          have q0B : (rcE cf rr != 0) = true := by simpa using q0
          generalize rcE cf rr = qe at RC q0 q0B
          refine wp_region_quiet_below (by kernel_rfl) (by kernel_rfl) ?_
          repeat (go_big_quiet_step ((go_at_call 41; with_reducible exact Calls.regrown_of (RC.out _ _))))
          refine wpQuiet_nil ?_
          rintro w4 ⟨⟨dq, osq⟩, hw4⟩
          have hb4 : Below wr.heap.size wr w4 := by rw [hw4]; exact below_regrown wr dq osq
          clear hw4 e_c0 e_c1 e_c2 e_c3 e_c4 e_c5 e_c6 e_r0 e_r1 e_r2 e_r3 e_r4 e_r5 e_r6
          go_wp2
          go_meet
          exact ⟨by rw [HV.out]; rfl, hb4⟩
        rw [q0] at RC
        rw [decide_eq_true q0] at hon
        by_cases q1 : rr.x0 < bx
        case pos =>
          have HV : Hid (oneT cf tx tz rr = false) := by show _ = _; rw [hon, decide_eq_false (by omega : ¬ bx ≤ rr.x0)]; simp
          clear hon
          refine wp_region_quiet_below (by kernel_rfl) (by kernel_rfl) ?_
          repeat (go_big_quiet_step ((go_at_call 41; with_reducible exact Calls.regrown_of (RC.out _ _))))
          refine wpQuiet_nil ?_
          rintro w4 ⟨⟨dq, osq⟩, hw4⟩
          have hb4 : Below wr.heap.size wr w4 := by rw [hw4]; exact below_regrown wr dq osq
          clear hw4 e_c0 e_c1 e_c2 e_c3 e_c4 e_c5 e_c6 e_r0 e_r1 e_r2 e_r3 e_r4 e_r5 e_r6
          go_wp2
          go_meet
          exact ⟨by rw [HV.out]; rfl, hb4⟩
        by_cases q2 : bx + bw ≤ rr.x1
        case pos =>
          have HV : Hid (oneT cf tx tz rr = false) := by show _ = _; rw [hon, decide_eq_false (by omega : ¬ rr.x1 < bx + bw)]; simp
          clear hon
          refine wp_region_quiet_below (by kernel_rfl) (by kernel_rfl) ?_
          repeat (go_big_quiet_step ((go_at_call 41; with_reducible exact Calls.regrown_of (RC.out _ _))))
          refine wpQuiet_nil ?_
          rintro w4 ⟨⟨dq, osq⟩, hw4⟩
          have hb4 : Below wr.heap.size wr w4 := by rw [hw4]; exact below_regrown wr dq osq
          clear hw4 e_c0 e_c1 e_c2 e_c3 e_c4 e_c5 e_c6 e_r0 e_r1 e_r2 e_r3 e_r4 e_r5 e_r6
          go_wp2
          go_meet
          exact ⟨by rw [HV.out]; rfl, hb4⟩
        by_cases q3 : rr.z0 < bz
        case pos =>
          have HV : Hid (oneT cf tx tz rr = false) := by show _ = _; rw [hon, decide_eq_false (by omega : ¬ bz ≤ rr.z0)]; simp
          clear hon
          refine wp_region_quiet_below (by kernel_rfl) (by kernel_rfl) ?_
          repeat (go_big_quiet_step ((go_at_call 41; with_reducible exact Calls.regrown_of (RC.out _ _))))
          refine wpQuiet_nil ?_
          rintro w4 ⟨⟨dq, osq⟩, hw4⟩
          have hb4 : Below wr.heap.size wr w4 := by rw [hw4]; exact below_regrown wr dq osq
          clear hw4 e_c0 e_c1 e_c2 e_c3 e_c4 e_c5 e_c6 e_r0 e_r1 e_r2 e_r3 e_r4 e_r5 e_r6
          go_wp2
          go_meet
          exact ⟨by rw [HV.out]; rfl, hb4⟩
        by_cases q4 : bz + bd ≤ rr.z1
        case pos =>
          have HV : Hid (oneT cf tx tz rr = false) := by show _ = _; rw [hon, decide_eq_false (by omega : ¬ rr.z1 < bz + bd)]; simp
          clear hon
          refine wp_region_quiet_below (by kernel_rfl) (by kernel_rfl) ?_
          repeat (go_big_quiet_step ((go_at_call 41; with_reducible exact Calls.regrown_of (RC.out _ _))))
          refine wpQuiet_nil ?_
          rintro w4 ⟨⟨dq, osq⟩, hw4⟩
          have hb4 : Below wr.heap.size wr w4 := by rw [hw4]; exact below_regrown wr dq osq
          clear hw4 e_c0 e_c1 e_c2 e_c3 e_c4 e_c5 e_c6 e_r0 e_r1 e_r2 e_r3 e_r4 e_r5 e_r6
          go_wp2
          go_meet
          exact ⟨by rw [HV.out]; rfl, hb4⟩
        have HV : Hid (oneT cf tx tz rr = true) := by show _ = _; rw [hon, decide_eq_true (by omega : bx ≤ rr.x0), decide_eq_true (by omega : rr.x1 < bx + bw), decide_eq_true (by omega : bz ≤ rr.z0), decide_eq_true (by omega : rr.z1 < bz + bd)]; rfl
        clear hon
        refine wp_region_quiet_below (by kernel_rfl) (by kernel_rfl) ?_
        repeat (go_big_quiet_step ((go_at_call 41; with_reducible exact Calls.regrown_of (RC.out _ _))))
        refine wpQuiet_nil ?_
        rintro w4 ⟨⟨dq, osq⟩, hw4⟩
        have hb4 : Below wr.heap.size wr w4 := by rw [hw4]; exact below_regrown wr dq osq
        clear hw4 e_c0 e_c1 e_c2 e_c3 e_c4 e_c5 e_c6 e_r0 e_r1 e_r2 e_r3 e_r4 e_r5 e_r6
        go_wp2
        go_meet
        exact ⟨by rw [HV.out]; rfl, hb4⟩
      case rest =>
        obtain ⟨rfl, hbc⟩ := hcut
        have hBc := hBr.trans (hbc.mono hBr.size)
        have hC3 := hkeep hbc HC.out
        have hT3 := hkeep hbc HT.out
        have HC3 := Lib.hid hC3
        have HT3 := Lib.hid hT3
        clear hC3 hT3 HC HT hbc hBr
        obtain ⟨ONE, hONE⟩ : ∃ B, B = oneT cf tx tz rr := ⟨_, rfl⟩
        rw [← hONE] at HSP ⊢
        cases hone : ONE with
        | false =>
          subst hone
          have hF := Lib.hid (HF3.out hcf i hlt (by rw [HSP.out]; rfl))
          go_wp2
          go_ret
          exact ⟨by rw [hF.out]; rfl, hBc⟩
        | true =>
        subst hone
        have er : rcE cf rr = 0 := by
          have h1 := hONE.symm
          rw [HON.out rr, Bool.and_eq_true, decide_eq_true_eq] at h1
          exact h1.1
        clear hONE
        go_wp2_with fail
        go_loopw [92] (fun s wr => ∃ k : Nat, s = .int .i64 (k : Nat) ∧ k ≤ i ∧ Hid (ahT rs rr k = true) ∧ Hid (wr.heap[w.heap.size]? = some (cfO cf)) ∧ Hid (wr.heap[w.heap.size + 1]? = some (.cells #[.int .i64 tx, .int .i64 tz, .slice (some ⟨G, off, none⟩) n c, .slice b m d] 38 (0, 0))) ∧ Below w.heap.size w wr) (fun s _ => i - (intOf s).toNat)
        case atStart => exact ⟨0, rfl, Nat.zero_le _, rfl, HC3.out, HT3.out, hBc⟩
        case round =>
          clear HC3 HT3 hBc
          obtain ⟨k, rfl, hk, HAh, HC, HT, hBr⟩ := hrel
          by_cases hlt2 : k < i
          · have hkI : (k : Int) < (i : Int) := by omega
            have hkI2 : (k : Int) < (n : Int) := by omega
            obtain ⟨⟨ho, ro⟩, hxk⟩ : ∃ x, xs[k]? = some x := ⟨_, List.getElem?_eq_getElem (by rw [Hl.out]; omega)⟩
            have hgk := HGet.out k _ hxk
            dsimp only at hgk
            have eo : rcE cf ro = 0 := by
              have h1 := HSt.out
              unfold stepsP at h1
              rw [List.all_eq_true] at h1
              have h2 := h1 k (List.mem_range.2 hlt2)
              unfold stepP at h2
              rw [hgk, HON.out ro, Bool.and_eq_true, Bool.and_eq_true, decide_eq_true_eq] at h2
              exact h2.1.1
            have HA2 : Hid (ahT rs rr (k + 1) = (ahT rs rr k && (aheadR ro rr && apartR ro rr))) := by show _ = _; unfold ahT; rw [all_range_succ, hgk]
            have HA3 : Hid ((aheadR ro rr && apartR ro rr) = false → ahT rs rr i = false) := fun h => by unfold ahT; exact all_false hlt2 (by rw [hgk]; exact h)
            clear hgk
            have hT := HT.out
            have t0 := hcell (k := 0) (v := .int .i64 tx) hT rfl
            have t1 := hcell (k := 1) (v := .int .i64 tz) hT rfl
            have t2 := hcell (k := 2) (v := .slice (some ⟨G, off, none⟩) n c) hT rfl
            have t3 := hcell (k := 3) (v := .slice b m d) hT rfl
            go_upto_region 16 with fail
            clear t0 t1 t2 t3 hT
            go_cut [138] from 99 to 137 (fun s wx => s = .bool (!(aheadR ro rr && apartR ro rr)) ∧ Below wr.heap.size wr wx)
            case first =>
              obtain ⟨oya, oyc, ota, otc⟩ := ho
              obtain ⟨rya, ryc, rta, rtc⟩ := hr
              have hwr := HX0.out _ hBr
              have so := (hwr.one hxk).y
              have sr := (hwr.one hxi).y
              dsimp only at so sr
              have no : 0 < ro.ys.length := rcOk_ys eo
              have nr : 0 < rr.ys.length := rcOk_ys er
              obtain ⟨ob, oo, rfl, hoc⟩ := so.at0 no
              obtain ⟨rb_, ro_, rfl, hrc⟩ := sr.at0 nr
              have HXW : Hid (∀ W, Below wr.heap.size wr W → SlRc W (some ⟨G, off, none⟩) n c xs) := fun W hbW => HX0.out W (hBr.trans (hbW.mono hBr.size))
              have HYO : Hid (∀ W, Below wr.heap.size wr W → W.cell? ⟨ob, oo, none⟩ = some (.int .i64 (y0R ro))) := fun W hbW => y0_cell (so.below hbW (Nat.le_refl _)) no
              have HYR : Hid (∀ W, Below wr.heap.size wr W → W.cell? ⟨rb_, ro_, none⟩ = some (.int .i64 (y0R rr))) := fun W hbW => y0_cell (sr.below hbW (Nat.le_refl _)) nr
              have CM : ∀ x y W, Calls Tryz.prog 43 #[.int .i64 x, .int .i64 y] W fun e w' => e = .returned (.int .i64 (Lib.compareInt x y)) ∧ Below W.heap.size W w' := fun x y W => (show Calls Tryz.prog 43 _ _ _ from AnyG.cmp_Compare_int Tryz.lCmpInt x y W).mono fun e w' h => ⟨h.1, by rw [h.2]; exact Below.refl _ _⟩
              have CZ := Lib.hid (CM ro.z0 rr.z0)
              have CX := Lib.hid (CM ro.x0 rr.x0)
              have CY := Lib.hid (CM (y0R ro) (y0R rr))
              have OR : Hid (∀ p W, W.cell? ⟨p, 0, none⟩ = some (.int .i64 (Lib.compareInt ro.z0 rr.z0)) → W.cell? ⟨p, 1, none⟩ = some (.int .i64 (Lib.compareInt ro.x0 rr.x0)) → W.cell? ⟨p, 2, none⟩ = some (.int .i64 (Lib.compareInt (y0R ro) (y0R rr))) → Calls Tryz.prog 42 #[.slice (some ⟨p, 0, none⟩) 3 3] W fun e w' => e = .returned (.int .i64 (or3S (Lib.compareInt ro.z0 rr.z0) (Lib.compareInt ro.x0 rr.x0) (Lib.compareInt (y0R ro) (y0R rr)))) ∧ Below W.heap.size W w') := fun p W h0 h1 h2 => (or3_any _ _ _ p W h0 h1 h2).mono fun e w' h => ⟨h.1, by rw [h.2]; exact Below.refl _ _⟩
              have hlt3 := or3_lt (a := ro) (b := rr)
              generalize Lib.compareInt ro.z0 rr.z0 = cu at CZ OR hlt3
              generalize Lib.compareInt ro.x0 rr.x0 = cv at CX OR hlt3
              generalize Lib.compareInt (y0R ro) (y0R rr) = ct at CY OR hlt3
              generalize or3S cu cv ct = q at OR hlt3
              have hoI : (0 : Int) < (ro.ys.length : Int) := by omega
              have hrI : (0 : Int) < (rr.ys.length : Int) := by omega
              have AC : Hid (∀ W, SlRc W (some ⟨G, off, none⟩) n c xs → Calls Tryz.prog 44 #[.pointer (some ⟨G, off + k * 7, none⟩), .pointer (some ⟨G, off + i * 7, none⟩)] W fun e w' => e = .returned (.bool (apartR ro rr)) ∧ Below W.heap.size W w') := fun W hW => apart_any cf G (off + k * 7) _ ro G (off + i * 7) _ rr W (fun j u hu => hW.at hxk j u hu) (fun j u hu => hW.at hxi j u hu) (hW.one hxk) (hW.one hxi) eo er
              obtain ⟨apv, hap⟩ : ∃ x, x = apartR ro rr := ⟨_, rfl⟩
              rw [← hap] at AC
              have HAP := Lib.hid hap.symm
              clear hap CM so sr hwr hoc hrc HC HT HF4 HF5 HF6 HB HSP hSt2 HSt HAh HA2 HA3 HON
              try clear l1
              try clear l2
              try clear l3
              try clear l4
              try clear l5
              try clear l6
              try clear l7
              try clear l8
              try clear hcf
              try clear h96
              try clear h96I
              try clear hltI
              try clear hkI
              try clear hkI2
              try clear hmax
              try clear hle
              try clear eo
              try clear er
              try clear HX0
              try clear HD0
              try clear HGet
              try clear HF3
              try clear hcol
              try clear Hl
              try clear hlt
              try clear hlt2
              try clear hi
              try clear hk
              try clear hwr
              try clear hBr
              obtain ⟨bq, hbq⟩ : ∃ b, b = decide (0 ≤ q) := ⟨_, rfl⟩
              rw [← hbq] at hlt3
              have HQ := Lib.hid hbq.symm
              have hah := Lib.hid hlt3
              clear hbq hlt3
              refine wp_region_det ([none, none, none, none, none, none, none, none, none, none, none, none, none, none, none, none, none, none, none, none, none, none, none, none, none, none, none, none, none, none, none, none, none, none, none, none, none, none, none, none, none, none, none, none, none, none, none, none, none, none, none, none, none, none, none, none, none, none, none, none, none, none, none, none, none, none, none, none, none, none, none, none, none, none, none, none, none, none, none, none, none, none, none, none, none, none, none, none, none, none, none, none, none, none, none, none, none, none, none, some 0, some 1, some 2, some 3, some 4, some 5, some 6, some 7, some 8, some 9, some 10, some 11, some 12, some 13, some 14, some 15, some 16, some 17, some 18, some 19, some 20, some 21, some 22, some 23, some 24, some 25, some 26, some 27, some 28, some 29, some 30, some 31, some 32, some 33, some 34, some 35, some 36, some 37, some 38, some 39, none, none, none, none, none, none, none, none, none, none, none, none, none, none, none, none, none, none]) [fun v _ => v = .pointer (some ⟨G, off + k * 7, none⟩),
                    fun v _ => v = .pointer (some ⟨G, off + k * 7, none⟩),
                    fun v _ => v = .pointer (some ⟨G, off + k * 7 + 1, none⟩),
                    fun v _ => v = .int .i64 ro.z0,
                    fun v _ => v = .pointer (some ⟨G, off + i * 7, none⟩),
                    fun v _ => v = .pointer (some ⟨G, off + i * 7, none⟩),
                    fun v _ => v = .pointer (some ⟨G, off + i * 7 + 1, none⟩),
                    fun v _ => v = .int .i64 rr.z0,
                    fun v _ => v = .int .i64 cu,
                    fun v _ => v = .pointer (some ⟨G, off + k * 7, none⟩),
                    fun v _ => v = .pointer (some ⟨G, off + k * 7, none⟩),
                    fun v _ => v = .pointer (some ⟨G, off + k * 7, none⟩),
                    fun v _ => v = .int .i64 ro.x0,
                    fun v _ => v = .pointer (some ⟨G, off + i * 7, none⟩),
                    fun v _ => v = .pointer (some ⟨G, off + i * 7, none⟩),
                    fun v _ => v = .pointer (some ⟨G, off + i * 7, none⟩),
                    fun v _ => v = .int .i64 rr.x0,
                    fun v _ => v = .int .i64 cv,
                    fun v _ => v = .pointer (some ⟨G, off + k * 7, none⟩),
                    fun v _ => v = .pointer (some ⟨G, off + k * 7, none⟩),
                    fun v _ => v = .pointer (some ⟨G, off + k * 7 + 5, none⟩),
                    fun v _ => v = .slice (some ⟨ob, oo, none⟩) ro.ys.length oyc,
                    fun v _ => v = .pointer (some ⟨ob, oo, none⟩),
                    fun v _ => v = .int .i64 (y0R ro),
                    fun v _ => v = .pointer (some ⟨G, off + i * 7, none⟩),
                    fun v _ => v = .pointer (some ⟨G, off + i * 7, none⟩),
                    fun v _ => v = .pointer (some ⟨G, off + i * 7 + 5, none⟩),
                    fun v _ => v = .slice (some ⟨rb_, ro_, none⟩) rr.ys.length ryc,
                    fun v _ => v = .pointer (some ⟨rb_, ro_, none⟩),
                    fun v _ => v = .int .i64 (y0R rr),
                    fun v _ => v = .int .i64 ct,
                    fun v w => ∃ p, v = .slice (some ⟨p, 0, none⟩) 3 3 ∧ w.heap[p]? = some (.cells #[.int .i64 cu, .int .i64 cv, .int .i64 ct] 3 (0, 0)),
                    fun v _ => v = .int .i64 q,
                    fun v _ => v = .bool bq,
                    fun v _ => v = .bool bq,
                    fun v _ => bq = false → v = .pointer (some ⟨G, off + k * 7, none⟩),
                    fun v _ => bq = false → v = .pointer (some ⟨G, off + i * 7, none⟩),
                    fun v _ => bq = false → v = .bool apv,
                    fun v _ => bq = false → v = .bool (!apv),
                    fun v _ => v = .bool (bq || !apv)] (by kernel_rfl) (by kernel_rfl) (by kernel_rfl) (by kernel_rfl) ?_ ?_ ?_
              · refine List.forall_mem_cons.2 ⟨fun _ _ _ h _ => h, List.forall_mem_cons.2 ⟨fun _ _ _ h _ => h, List.forall_mem_cons.2 ⟨fun _ _ _ h _ => h, List.forall_mem_cons.2 ⟨fun _ _ _ h _ => h, List.forall_mem_cons.2 ⟨fun _ _ _ h _ => h, List.forall_mem_cons.2 ⟨fun _ _ _ h _ => h, List.forall_mem_cons.2 ⟨fun _ _ _ h _ => h, List.forall_mem_cons.2 ⟨fun _ _ _ h _ => h, List.forall_mem_cons.2 ⟨fun _ _ _ h _ => h, List.forall_mem_cons.2 ⟨fun _ _ _ h _ => h, List.forall_mem_cons.2 ⟨fun _ _ _ h _ => h, List.forall_mem_cons.2 ⟨fun _ _ _ h _ => h, List.forall_mem_cons.2 ⟨fun _ _ _ h _ => h, List.forall_mem_cons.2 ⟨fun _ _ _ h _ => h, List.forall_mem_cons.2 ⟨fun _ _ _ h _ => h, List.forall_mem_cons.2 ⟨fun _ _ _ h _ => h, List.forall_mem_cons.2 ⟨fun _ _ _ h _ => h, List.forall_mem_cons.2 ⟨fun _ _ _ h _ => h, List.forall_mem_cons.2 ⟨fun _ _ _ h _ => h, List.forall_mem_cons.2 ⟨fun _ _ _ h _ => h, List.forall_mem_cons.2 ⟨fun _ _ _ h _ => h, List.forall_mem_cons.2 ⟨fun _ _ _ h _ => h, List.forall_mem_cons.2 ⟨fun _ _ _ h _ => h, List.forall_mem_cons.2 ⟨fun _ _ _ h _ => h, List.forall_mem_cons.2 ⟨fun _ _ _ h _ => h, List.forall_mem_cons.2 ⟨fun _ _ _ h _ => h, List.forall_mem_cons.2 ⟨fun _ _ _ h _ => h, List.forall_mem_cons.2 ⟨fun _ _ _ h _ => h, List.forall_mem_cons.2 ⟨fun _ _ _ h _ => h, List.forall_mem_cons.2 ⟨fun _ _ _ h _ => h, List.forall_mem_cons.2 ⟨fun _ _ _ h _ => h, List.forall_mem_cons.2 ⟨fun v w w2 h hb => by obtain ⟨p, e, hp⟩ := h; exact ⟨p, e, hkeep hb hp⟩, List.forall_mem_cons.2 ⟨fun _ _ _ h _ => h, List.forall_mem_cons.2 ⟨fun _ _ _ h _ => h, List.forall_mem_cons.2 ⟨fun _ _ _ h _ => h, List.forall_mem_cons.2 ⟨fun _ _ _ h _ => h, List.forall_mem_cons.2 ⟨fun _ _ _ h _ => h, List.forall_mem_cons.2 ⟨fun _ _ _ h _ => h, List.forall_mem_cons.2 ⟨fun _ _ _ h _ => h, List.forall_mem_cons.2 ⟨fun _ _ _ h _ => h, List.forall_mem_nil _⟩⟩⟩⟩⟩⟩⟩⟩⟩⟩⟩⟩⟩⟩⟩⟩⟩⟩⟩⟩⟩⟩⟩⟩⟩⟩⟩⟩⟩⟩⟩⟩⟩⟩⟩⟩⟩⟩⟩⟩
              · intro Q' K t vals wi hoff hon hB i hlt
                have hlt : i < 40 := hlt
                cases i, hlt using cas40
                · intro hS hK
                  have g13 : t[(13 : Nat)]? = some (.pointer (some ⟨G, off + k * 7, none⟩)) := hoff 13 _ rfl rfl
                  clear hoff hon hS
                  refine wpOp_of rfl rfl ?_
                  go_simp
                  exact hK.out _ _ rfl (Below.refl _ _)
                · intro hS hK
                  have g99 : t[(99 : Nat)]? = some (.pointer (some ⟨G, off + k * 7, none⟩)) := (hon 0 99 rfl).trans (congrArg some (hS 0 (by kernel_rfl)))
                  clear hoff hon hS
                  refine wpOp_of rfl rfl ?_
                  go_simp
                  exact hK.out _ _ rfl (Below.refl _ _)
                · intro hS hK
                  have g100 : t[(100 : Nat)]? = some (.pointer (some ⟨G, off + k * 7, none⟩)) := (hon 1 100 rfl).trans (congrArg some (hS 1 (by kernel_rfl)))
                  clear hoff hon hS
                  refine wpOp_of rfl rfl ?_
                  go_simp
                  exact hK.out _ _ rfl (Below.refl _ _)
                · intro hS hK
                  have g101 : t[(101 : Nat)]? = some (.pointer (some ⟨G, off + k * 7 + 1, none⟩)) := (hon 2 101 rfl).trans (congrArg some (hS 2 (by kernel_rfl)))
                  have hw := HXW.out wi hB
                  have hcl := hw.at hxk 1 _ rfl
                  clear hoff hon hS
                  refine wpOp_of rfl rfl ?_
                  go_simp
                  exact hK.out _ _ rfl (Below.refl _ _)
                · intro hS hK
                  have g11 : t[(11 : Nat)]? = some (.pointer (some ⟨G, off + i * 7, none⟩)) := hoff 11 _ rfl rfl
                  clear hoff hon hS
                  refine wpOp_of rfl rfl ?_
                  go_simp
                  exact hK.out _ _ rfl (Below.refl _ _)
                · intro hS hK
                  have g103 : t[(103 : Nat)]? = some (.pointer (some ⟨G, off + i * 7, none⟩)) := (hon 4 103 rfl).trans (congrArg some (hS 4 (by kernel_rfl)))
                  clear hoff hon hS
                  refine wpOp_of rfl rfl ?_
                  go_simp
                  exact hK.out _ _ rfl (Below.refl _ _)
                · intro hS hK
                  have g104 : t[(104 : Nat)]? = some (.pointer (some ⟨G, off + i * 7, none⟩)) := (hon 5 104 rfl).trans (congrArg some (hS 5 (by kernel_rfl)))
                  clear hoff hon hS
                  refine wpOp_of rfl rfl ?_
                  go_simp
                  exact hK.out _ _ rfl (Below.refl _ _)
                · intro hS hK
                  have g105 : t[(105 : Nat)]? = some (.pointer (some ⟨G, off + i * 7 + 1, none⟩)) := (hon 6 105 rfl).trans (congrArg some (hS 6 (by kernel_rfl)))
                  have hw := HXW.out wi hB
                  have hcl := hw.at hxi 1 _ rfl
                  clear hoff hon hS
                  refine wpOp_of rfl rfl ?_
                  go_simp
                  exact hK.out _ _ rfl (Below.refl _ _)
                · intro hS hK
                  have g102 : t[(102 : Nat)]? = some (.int .i64 ro.z0) := (hon 3 102 rfl).trans (congrArg some (hS 3 (by kernel_rfl)))
                  have g106 : t[(106 : Nat)]? = some (.int .i64 rr.z0) := (hon 7 106 rfl).trans (congrArg some (hS 7 (by kernel_rfl)))
                  clear hoff hon hS
                  refine wpOp_of rfl rfl ?_
                  go_simp
                  go_at_call 43
                  refine (CZ.out wi).mono ?_
                  rintro e wz ⟨rfl, hbz⟩
                  (try go_simp)
                  exact hK.out _ _ rfl hbz
                · intro hS hK
                  have g13 : t[(13 : Nat)]? = some (.pointer (some ⟨G, off + k * 7, none⟩)) := hoff 13 _ rfl rfl
                  clear hoff hon hS
                  refine wpOp_of rfl rfl ?_
                  go_simp
                  exact hK.out _ _ rfl (Below.refl _ _)
                · intro hS hK
                  have g108 : t[(108 : Nat)]? = some (.pointer (some ⟨G, off + k * 7, none⟩)) := (hon 9 108 rfl).trans (congrArg some (hS 9 (by kernel_rfl)))
                  clear hoff hon hS
                  refine wpOp_of rfl rfl ?_
                  go_simp
                  exact hK.out _ _ rfl (Below.refl _ _)
                · intro hS hK
                  have g109 : t[(109 : Nat)]? = some (.pointer (some ⟨G, off + k * 7, none⟩)) := (hon 10 109 rfl).trans (congrArg some (hS 10 (by kernel_rfl)))
                  clear hoff hon hS
                  refine wpOp_of rfl rfl ?_
                  go_simp
                  exact hK.out _ _ rfl (Below.refl _ _)
                · intro hS hK
                  have g110 : t[(110 : Nat)]? = some (.pointer (some ⟨G, off + k * 7, none⟩)) := (hon 11 110 rfl).trans (congrArg some (hS 11 (by kernel_rfl)))
                  have hw := HXW.out wi hB
                  have hcl := hw.at hxk 0 _ rfl
                  simp only [Nat.add_zero] at hcl
                  clear hoff hon hS
                  refine wpOp_of rfl rfl ?_
                  go_simp
                  exact hK.out _ _ rfl (Below.refl _ _)
                · intro hS hK
                  have g11 : t[(11 : Nat)]? = some (.pointer (some ⟨G, off + i * 7, none⟩)) := hoff 11 _ rfl rfl
                  clear hoff hon hS
                  refine wpOp_of rfl rfl ?_
                  go_simp
                  exact hK.out _ _ rfl (Below.refl _ _)
                · intro hS hK
                  have g112 : t[(112 : Nat)]? = some (.pointer (some ⟨G, off + i * 7, none⟩)) := (hon 13 112 rfl).trans (congrArg some (hS 13 (by kernel_rfl)))
                  clear hoff hon hS
                  refine wpOp_of rfl rfl ?_
                  go_simp
                  exact hK.out _ _ rfl (Below.refl _ _)
                · intro hS hK
                  have g113 : t[(113 : Nat)]? = some (.pointer (some ⟨G, off + i * 7, none⟩)) := (hon 14 113 rfl).trans (congrArg some (hS 14 (by kernel_rfl)))
                  clear hoff hon hS
                  refine wpOp_of rfl rfl ?_
                  go_simp
                  exact hK.out _ _ rfl (Below.refl _ _)
                · intro hS hK
                  have g114 : t[(114 : Nat)]? = some (.pointer (some ⟨G, off + i * 7, none⟩)) := (hon 15 114 rfl).trans (congrArg some (hS 15 (by kernel_rfl)))
                  have hw := HXW.out wi hB
                  have hcl := hw.at hxi 0 _ rfl
                  simp only [Nat.add_zero] at hcl
                  clear hoff hon hS
                  refine wpOp_of rfl rfl ?_
                  go_simp
                  exact hK.out _ _ rfl (Below.refl _ _)
                · intro hS hK
                  have g111 : t[(111 : Nat)]? = some (.int .i64 ro.x0) := (hon 12 111 rfl).trans (congrArg some (hS 12 (by kernel_rfl)))
                  have g115 : t[(115 : Nat)]? = some (.int .i64 rr.x0) := (hon 16 115 rfl).trans (congrArg some (hS 16 (by kernel_rfl)))
                  clear hoff hon hS
                  refine wpOp_of rfl rfl ?_
                  go_simp
                  go_at_call 43
                  refine (CX.out wi).mono ?_
                  rintro e wz ⟨rfl, hbz⟩
                  (try go_simp)
                  exact hK.out _ _ rfl hbz
                · intro hS hK
                  have g13 : t[(13 : Nat)]? = some (.pointer (some ⟨G, off + k * 7, none⟩)) := hoff 13 _ rfl rfl
                  clear hoff hon hS
                  refine wpOp_of rfl rfl ?_
                  go_simp
                  exact hK.out _ _ rfl (Below.refl _ _)
                · intro hS hK
                  have g117 : t[(117 : Nat)]? = some (.pointer (some ⟨G, off + k * 7, none⟩)) := (hon 18 117 rfl).trans (congrArg some (hS 18 (by kernel_rfl)))
                  clear hoff hon hS
                  refine wpOp_of rfl rfl ?_
                  go_simp
                  exact hK.out _ _ rfl (Below.refl _ _)
                · intro hS hK
                  have g118 : t[(118 : Nat)]? = some (.pointer (some ⟨G, off + k * 7, none⟩)) := (hon 19 118 rfl).trans (congrArg some (hS 19 (by kernel_rfl)))
                  clear hoff hon hS
                  refine wpOp_of rfl rfl ?_
                  go_simp
                  exact hK.out _ _ rfl (Below.refl _ _)
                · intro hS hK
                  have g119 : t[(119 : Nat)]? = some (.pointer (some ⟨G, off + k * 7 + 5, none⟩)) := (hon 20 119 rfl).trans (congrArg some (hS 20 (by kernel_rfl)))
                  have hw := HXW.out wi hB
                  have hcl := hw.at hxk 5 _ rfl
                  clear hoff hon hS
                  refine wpOp_of rfl rfl ?_
                  go_simp
                  exact hK.out _ _ rfl (Below.refl _ _)
                · intro hS hK
                  have g120 : t[(120 : Nat)]? = some (.slice (some ⟨ob, oo, none⟩) ro.ys.length oyc) := (hon 21 120 rfl).trans (congrArg some (hS 21 (by kernel_rfl)))
                  clear hoff hon hS
                  refine wpOp_of rfl rfl ?_
                  go_simp
                  exact hK.out _ _ rfl (Below.refl _ _)
                · intro hS hK
                  have g121 : t[(121 : Nat)]? = some (.pointer (some ⟨ob, oo, none⟩)) := (hon 22 121 rfl).trans (congrArg some (hS 22 (by kernel_rfl)))
                  have hcl := HYO.out wi hB
                  clear hoff hon hS
                  refine wpOp_of rfl rfl ?_
                  go_simp
                  exact hK.out _ _ rfl (Below.refl _ _)
                · intro hS hK
                  have g11 : t[(11 : Nat)]? = some (.pointer (some ⟨G, off + i * 7, none⟩)) := hoff 11 _ rfl rfl
                  clear hoff hon hS
                  refine wpOp_of rfl rfl ?_
                  go_simp
                  exact hK.out _ _ rfl (Below.refl _ _)
                · intro hS hK
                  have g123 : t[(123 : Nat)]? = some (.pointer (some ⟨G, off + i * 7, none⟩)) := (hon 24 123 rfl).trans (congrArg some (hS 24 (by kernel_rfl)))
                  clear hoff hon hS
                  refine wpOp_of rfl rfl ?_
                  go_simp
                  exact hK.out _ _ rfl (Below.refl _ _)
                · intro hS hK
                  have g124 : t[(124 : Nat)]? = some (.pointer (some ⟨G, off + i * 7, none⟩)) := (hon 25 124 rfl).trans (congrArg some (hS 25 (by kernel_rfl)))
                  clear hoff hon hS
                  refine wpOp_of rfl rfl ?_
                  go_simp
                  exact hK.out _ _ rfl (Below.refl _ _)
                · intro hS hK
                  have g125 : t[(125 : Nat)]? = some (.pointer (some ⟨G, off + i * 7 + 5, none⟩)) := (hon 26 125 rfl).trans (congrArg some (hS 26 (by kernel_rfl)))
                  have hw := HXW.out wi hB
                  have hcl := hw.at hxi 5 _ rfl
                  clear hoff hon hS
                  refine wpOp_of rfl rfl ?_
                  go_simp
                  exact hK.out _ _ rfl (Below.refl _ _)
                · intro hS hK
                  have g126 : t[(126 : Nat)]? = some (.slice (some ⟨rb_, ro_, none⟩) rr.ys.length ryc) := (hon 27 126 rfl).trans (congrArg some (hS 27 (by kernel_rfl)))
                  clear hoff hon hS
                  refine wpOp_of rfl rfl ?_
                  go_simp
                  exact hK.out _ _ rfl (Below.refl _ _)
                · intro hS hK
                  have g127 : t[(127 : Nat)]? = some (.pointer (some ⟨rb_, ro_, none⟩)) := (hon 28 127 rfl).trans (congrArg some (hS 28 (by kernel_rfl)))
                  have hcl := HYR.out wi hB
                  clear hoff hon hS
                  refine wpOp_of rfl rfl ?_
                  go_simp
                  exact hK.out _ _ rfl (Below.refl _ _)
                · intro hS hK
                  have g122 : t[(122 : Nat)]? = some (.int .i64 (y0R ro)) := (hon 23 122 rfl).trans (congrArg some (hS 23 (by kernel_rfl)))
                  have g128 : t[(128 : Nat)]? = some (.int .i64 (y0R rr)) := (hon 29 128 rfl).trans (congrArg some (hS 29 (by kernel_rfl)))
                  clear hoff hon hS
                  refine wpOp_of rfl rfl ?_
                  go_simp
                  go_at_call 43
                  refine (CY.out wi).mono ?_
                  rintro e wz ⟨rfl, hbz⟩
                  (try go_simp)
                  exact hK.out _ _ rfl hbz
                · intro hS hK
                  have g107 : t[(107 : Nat)]? = some (.int .i64 cu) := (hon 8 107 rfl).trans (congrArg some (hS 8 (by kernel_rfl)))
                  have g116 : t[(116 : Nat)]? = some (.int .i64 cv) := (hon 17 116 rfl).trans (congrArg some (hS 17 (by kernel_rfl)))
                  have g129 : t[(129 : Nat)]? = some (.int .i64 ct) := (hon 30 129 rfl).trans (congrArg some (hS 30 (by kernel_rfl)))
                  clear hoff hon hS
                  refine wpOp_of rfl rfl ?_
                  go_simp
                  exact hK.out _ _ ⟨_, rfl, World.alloc_heap_new _ _⟩ ((Below.refl _ _).alloc (Nat.le_refl _) _)
                · intro hS hK
                  have g130 : t[(130 : Nat)]? = some (vals 31) := hon 31 130 rfl
                  have p130 : (fun v w => ∃ p, v = .slice (some ⟨p, 0, none⟩) 3 3 ∧ w.heap[p]? = some (.cells #[.int .i64 cu, .int .i64 cv, .int .i64 ct] 3 (0, 0))) (vals 31) wi := hS 31 (by kernel_rfl)
                  dsimp only at p130
                  obtain ⟨pb, ep, hpb⟩ := p130
                  rw [ep] at g130
                  have z0 := hcell (k := 0) (v := .int .i64 cu) hpb rfl
                  have z1 := hcell (k := 1) (v := .int .i64 cv) hpb rfl
                  have z2 := hcell (k := 2) (v := .int .i64 ct) hpb rfl
                  clear hoff hon hS
                  refine wpOp_of rfl rfl ?_
                  go_simp
                  go_at_call 42
                  refine (OR.out _ wi z0 z1 z2).mono ?_
                  rintro e wz ⟨rfl, hbz⟩
                  (try go_simp)
                  exact hK.out _ _ rfl hbz
                · intro hS hK
                  have g131 : t[(131 : Nat)]? = some (.int .i64 q) := (hon 32 131 rfl).trans (congrArg some (hS 32 (by kernel_rfl)))
                  clear hoff hon hS
                  refine wpOp_of rfl rfl ?_
                  go_simp
                  exact hK.out _ _ (congrArg Value.bool HQ.out) (Below.refl _ _)
                · intro hS hK
                  have g132 : t[(132 : Nat)]? = some (.bool bq) := (hon 33 132 rfl).trans (congrArg some (hS 33 (by kernel_rfl)))
                  clear hoff hon hS
                  refine wpOp_of rfl rfl ?_
                  go_simp
                  exact hK.out _ _ rfl (Below.refl _ _)
                · intro hS hK
                  have g13 : t[(13 : Nat)]? = some (.pointer (some ⟨G, off + k * 7, none⟩)) := hoff 13 _ rfl rfl
                  have gg : t[(133 : Nat)]? = some (.bool bq) := (hon 34 133 rfl).trans (congrArg some (hS 34 (by kernel_rfl)))
                  clear hoff hon hS
                  cases bq with
                  | true => exact wpOp_skipG 34 133 true false rfl rfl gg rfl (hK.out _ _ (fun h => by cases h) (Below.refl _ _))
                  | false =>
                    refine wpOp_wantG 34 133 false rfl rfl rfl gg ?_
                    go_simp
                    exact hK.out _ _ (fun _ => rfl) (Below.refl _ _)
                · intro hS hK
                  have g11 : t[(11 : Nat)]? = some (.pointer (some ⟨G, off + i * 7, none⟩)) := hoff 11 _ rfl rfl
                  have gg : t[(133 : Nat)]? = some (.bool bq) := (hon 34 133 rfl).trans (congrArg some (hS 34 (by kernel_rfl)))
                  clear hoff hon hS
                  cases bq with
                  | true => exact wpOp_skipG 34 133 true false rfl rfl gg rfl (hK.out _ _ (fun h => by cases h) (Below.refl _ _))
                  | false =>
                    refine wpOp_wantG 34 133 false rfl rfl rfl gg ?_
                    go_simp
                    exact hK.out _ _ (fun _ => rfl) (Below.refl _ _)
                · intro hS hK
                  have g134 : t[(134 : Nat)]? = some (vals 35) := hon 35 134 rfl
                  have p134 : (fun v _ => bq = false → v = .pointer (some ⟨G, off + k * 7, none⟩)) (vals 35) wi := hS 35 (by kernel_rfl)
                  dsimp only at p134
                  have g135 : t[(135 : Nat)]? = some (vals 36) := hon 36 135 rfl
                  have p135 : (fun v _ => bq = false → v = .pointer (some ⟨G, off + i * 7, none⟩)) (vals 36) wi := hS 36 (by kernel_rfl)
                  dsimp only at p135
                  have gg : t[(133 : Nat)]? = some (.bool bq) := (hon 34 133 rfl).trans (congrArg some (hS 34 (by kernel_rfl)))
                  clear hoff hon hS
                  cases bq with
                  | true => exact wpOp_skipG 34 133 true false rfl rfl gg rfl (hK.out _ _ (fun h => by cases h) (Below.refl _ _))
                  | false =>
                    rw [p134 rfl] at g134
                    rw [p135 rfl] at g135
                    refine wpOp_wantG 34 133 false rfl rfl rfl gg ?_
                    go_simp
                    go_at_call 44
                    refine (AC.out wi (HXW.out wi hB)).mono ?_
                    rintro e wz ⟨rfl, hbz⟩
                    (try go_simp)
                    exact hK.out _ _ (fun _ => rfl) hbz
                · intro hS hK
                  have g136 : t[(136 : Nat)]? = some (vals 37) := hon 37 136 rfl
                  have p136 : (fun v _ => bq = false → v = .bool apv) (vals 37) wi := hS 37 (by kernel_rfl)
                  dsimp only at p136
                  have gg : t[(133 : Nat)]? = some (.bool bq) := (hon 34 133 rfl).trans (congrArg some (hS 34 (by kernel_rfl)))
                  clear hoff hon hS
                  cases bq with
                  | true => exact wpOp_skipG 34 133 true false rfl rfl gg rfl (hK.out _ _ (fun h => by cases h) (Below.refl _ _))
                  | false =>
                    rw [p136 rfl] at g136
                    refine wpOp_wantG 34 133 false rfl rfl rfl gg ?_
                    go_simp
                    exact hK.out _ _ (fun _ => rfl) (Below.refl _ _)
                · intro hS hK
                  have g133 : t[(133 : Nat)]? = some (.bool bq) := (hon 34 133 rfl).trans (congrArg some (hS 34 (by kernel_rfl)))
                  have g137 : t[(137 : Nat)]? = some (vals 38) := hon 38 137 rfl
                  have p137 : (fun v _ => bq = false → v = .bool (!apv)) (vals 38) wi := hS 38 (by kernel_rfl)
                  dsimp only at p137
                  clear hoff hon hS
                  cases bq with
                  | true =>
                    refine wpOp_of rfl rfl ?_
                    go_simp
                    exact hK.out _ _ rfl (Below.refl _ _)
                  | false =>
                    rw [p137 rfl] at g137
                    refine wpOp_of rfl rfl ?_
                    go_simp
                    exact hK.out _ _ rfl (Below.refl _ _)
              · intro vals wi hB hS
                have e0 : vals 0 = .pointer (some ⟨G, off + k * 7, none⟩) := hS 0 (by decide)
                have e1 : vals 1 = .pointer (some ⟨G, off + k * 7, none⟩) := hS 1 (by decide)
                have e2 : vals 2 = .pointer (some ⟨G, off + k * 7 + 1, none⟩) := hS 2 (by decide)
                have e3 : vals 3 = .int .i64 ro.z0 := hS 3 (by decide)
                have e4 : vals 4 = .pointer (some ⟨G, off + i * 7, none⟩) := hS 4 (by decide)
                have e5 : vals 5 = .pointer (some ⟨G, off + i * 7, none⟩) := hS 5 (by decide)
                have e6 : vals 6 = .pointer (some ⟨G, off + i * 7 + 1, none⟩) := hS 6 (by decide)
                have e7 : vals 7 = .int .i64 rr.z0 := hS 7 (by decide)
                have e8 : vals 8 = .int .i64 cu := hS 8 (by decide)
                have e9 : vals 9 = .pointer (some ⟨G, off + k * 7, none⟩) := hS 9 (by decide)
                have e10 : vals 10 = .pointer (some ⟨G, off + k * 7, none⟩) := hS 10 (by decide)
                have e11 : vals 11 = .pointer (some ⟨G, off + k * 7, none⟩) := hS 11 (by decide)
                have e12 : vals 12 = .int .i64 ro.x0 := hS 12 (by decide)
                have e13 : vals 13 = .pointer (some ⟨G, off + i * 7, none⟩) := hS 13 (by decide)
                have e14 : vals 14 = .pointer (some ⟨G, off + i * 7, none⟩) := hS 14 (by decide)
                have e15 : vals 15 = .pointer (some ⟨G, off + i * 7, none⟩) := hS 15 (by decide)
                have e16 : vals 16 = .int .i64 rr.x0 := hS 16 (by decide)
                have e17 : vals 17 = .int .i64 cv := hS 17 (by decide)
                have e18 : vals 18 = .pointer (some ⟨G, off + k * 7, none⟩) := hS 18 (by decide)
                have e19 : vals 19 = .pointer (some ⟨G, off + k * 7, none⟩) := hS 19 (by decide)
                have e20 : vals 20 = .pointer (some ⟨G, off + k * 7 + 5, none⟩) := hS 20 (by decide)
                have e21 : vals 21 = .slice (some ⟨ob, oo, none⟩) ro.ys.length oyc := hS 21 (by decide)
                have e22 : vals 22 = .pointer (some ⟨ob, oo, none⟩) := hS 22 (by decide)
                have e23 : vals 23 = .int .i64 (y0R ro) := hS 23 (by decide)
                have e24 : vals 24 = .pointer (some ⟨G, off + i * 7, none⟩) := hS 24 (by decide)
                have e25 : vals 25 = .pointer (some ⟨G, off + i * 7, none⟩) := hS 25 (by decide)
                have e26 : vals 26 = .pointer (some ⟨G, off + i * 7 + 5, none⟩) := hS 26 (by decide)
                have e27 : vals 27 = .slice (some ⟨rb_, ro_, none⟩) rr.ys.length ryc := hS 27 (by decide)
                have e28 : vals 28 = .pointer (some ⟨rb_, ro_, none⟩) := hS 28 (by decide)
                have e29 : vals 29 = .int .i64 (y0R rr) := hS 29 (by decide)
                have e30 : vals 30 = .int .i64 ct := hS 30 (by decide)
                have p31 : (fun v w => ∃ p, v = .slice (some ⟨p, 0, none⟩) 3 3 ∧ w.heap[p]? = some (.cells #[.int .i64 cu, .int .i64 cv, .int .i64 ct] 3 (0, 0))) (vals 31) wi := hS 31 (by decide)
                dsimp only at p31
                have e32 : vals 32 = .int .i64 q := hS 32 (by decide)
                have e33 : vals 33 = .bool bq := hS 33 (by decide)
                have e34 : vals 34 = .bool bq := hS 34 (by decide)
                have p35 : (fun v _ => bq = false → v = .pointer (some ⟨G, off + k * 7, none⟩)) (vals 35) wi := hS 35 (by decide)
                dsimp only at p35
                have p36 : (fun v _ => bq = false → v = .pointer (some ⟨G, off + i * 7, none⟩)) (vals 36) wi := hS 36 (by decide)
                dsimp only at p36
                have p37 : (fun v _ => bq = false → v = .bool apv) (vals 37) wi := hS 37 (by decide)
                dsimp only at p37
                have p38 : (fun v _ => bq = false → v = .bool (!apv)) (vals 38) wi := hS 38 (by decide)
                dsimp only at p38
                have e39 : vals 39 = .bool (bq || !apv) := hS 39 (by decide)
                clear hS
                dsimp only [over]
                go_wp2
                go_meet
                exact ⟨by rw [e39, hah.out, ← HAP.out, Bool.not_and], hB⟩
            case rest =>
              obtain ⟨rfl, hbc⟩ := hcut
              have hBc := hBr.trans (hbc.mono hBr.size)
              have hC3 := hkeep hbc HC.out
              have hT3 := hkeep hbc HT.out
              have HC3 := Lib.hid hC3
              have HT3 := Lib.hid hT3
              clear hC3 hT3 HC HT hbc hBr
              obtain ⟨AP, hAP⟩ : ∃ B, B = (aheadR ro rr && apartR ro rr) := ⟨_, rfl⟩
              rw [← hAP] at HA2 HA3 ⊢
              clear hAP
              cases hap : AP with
              | false =>
                subst hap
                have hF := Lib.hid (HF3.out hcf i hlt (by rw [HSP.out, HA3.out rfl]; rfl))
                go_wp2
                go_ret
                exact ⟨by rw [hF.out]; rfl, hBc⟩
              | true =>
                subst hap
                have hA4 : Hid (ahT rs rr (k + 1) = true) := by show _ = _; rw [HA2.out, HAh.out]; rfl
                go_wp2
                go_roundw
                case rel => exact ⟨k + 1, by go_num, by omega, hA4, HC3.out, HT3.out, hBc⟩
                case measure => simp [intOf]; omega
          · obtain rfl : k = i := by omega
            have hkI : ¬ (k : Int) < (k : Int) := by omega
            have hS4 : Hid (stepsP cf tx tz rs (k + 1) = true) := by show _ = _; rw [hSt2.out, HSt.out, HSP.out, HAh.out]; rfl
            go_wp2
            go_roundw
            case rel => exact ⟨k + 1, by go_num, by omega, hS4, HC.out, HT.out, hBr⟩
            case measure => simp [intOf]; omega
    · have hin : i = n := by omega
      rw [hin] at HSt
      have hltI : ¬ (i : Int) < (n : Int) := by omega
      have hC := HC.out
      have hT := HT.out
      have c0 := hcell (k := 0) (v := .int .i64 cf.clear) hC rfl
      have c1 := hcell (k := 1) (v := .int .i64 cf.climb) hC rfl
      have c2 := hcell (k := 2) (v := .int .i64 cf.height) hC rfl
      have c3 := hcell (k := 3) (v := .int .i64 cf.rise) hC rfl
      have c4 := hcell (k := 4) (v := .int .i64 cf.run) hC rfl
      have c5 := hcell (k := 5) (v := .int .i64 cf.w) hC rfl
      have c6 := hcell (k := 6) (v := .int .i64 cf.d) hC rfl
      have t0 := hcell (k := 0) (v := .int .i64 tx) hT rfl
      have t1 := hcell (k := 1) (v := .int .i64 tz) hT rfl
      have t2 := hcell (k := 2) (v := .slice a n c) hT rfl
      have t3 := hcell (k := 3) (v := .slice b m d) hT rfl
      go_wp2_with fail
      refine (HB.out _ (HX0.out _ hBr) (by omega)).mono ?_
      rintro e w5 ⟨ad, cd, rfl, hsl, hb5⟩
      have hB5 := hBr.trans (hb5.mono hBr.size)
      have hT5 := hkeep hb5 hT
      clear c0 c1 c2 c3 c4 c5 c6 t0 t1 t2 t3 hC hT HC HT hb5 hBr
      have t0 := hcell (k := 0) (v := .int .i64 tx) hT5 rfl
      have t1 := hcell (k := 1) (v := .int .i64 tz) hT5 rfl
      have t2 := hcell (k := 2) (v := .slice a n c) hT5 rfl
      have t3 := hcell (k := 3) (v := .slice b m d) hT5 rfl
      by_cases hbe : BE = 0
      case neg =>
        have hbeB : (BE != 0) = true := by simpa using hbe
        have hF := Lib.hid (HF4.out hcf hbe)
        clear hT5
        go_wp2
        go_ret
        exact ⟨by rw [hF.out]; rfl, hB5⟩
      subst hbe
      have DQ := Lib.hid (fun W hW1 hW2 => deq_any ad b BL.length cd m d BL ds W hW1 hW2)
      obtain ⟨EQ, hEQ⟩ : ∃ B, B = decide (BL = ds) := ⟨_, rfl⟩
      rw [← hEQ] at DQ
      have HEQ := Lib.hid hEQ
      clear hEQ hT5
      go_wp2_with fail
      refine (DQ.out _ hsl (HD0.out _ hB5)).mono ?_
      rintro e w6 ⟨rfl, hb6⟩
      have hB6 := hB5.trans (hb6.mono hB5.size)
      clear t0 t1 t2 t3
      cases heq : EQ with
      | false =>
        subst heq
        have hF := Lib.hid (HF5.out hcf (of_decide_eq_false HEQ.out.symm) (by trivial))
        go_wp2
        go_ret
        exact ⟨by rw [hF.out]; rfl, hB6⟩
      | true =>
        subst heq
        have hF := Lib.hid (HF6.out hcf hcol.out h96 HSt.out (by trivial) (of_decide_eq_true HEQ.out.symm))
        go_wp2
        go_ret
        exact ⟨by rw [hF.out]; rfl, hB6⟩
end Go.Proofs.YtmgkkmcihplojaaGreat
