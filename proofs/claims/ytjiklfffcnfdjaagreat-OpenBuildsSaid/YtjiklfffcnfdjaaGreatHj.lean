/- Walks: the reference's floors of spans. -/
import Derived.Test.YtjiklfffcnfdjaaGreatHi
import Derived.Test.YtjiklfffcnfdjaaGreatHc
import Derived.Test.YtjiklfffcnfdjaaGreatHg
import Derived.Test.YtjiklfffcnfdjaaGreatHf
import Derived.Test.YtjiklfffcnfdjaaGreatHh
import Derived.Test.YtjiklfffcnfdjaaGreatHd
import Derived.Test.YtjiklfffcnfdjaaGreatHp
namespace Go.Proofs.YtjiklfffcnfdjaaGreat
open Go.RowKit
attribute [local go_sem] Instr.index

theorem flrC_one (x : Flr) : ∀ u ∈ flrC x, u.oneCell' = true := by
  intro u hu
  simp only [flrC, List.mem_cons, List.not_mem_nil, or_false] at hu
  rcases hu with rfl | rfl | rfl <;> rfl
def flrUp (cf : Cfg) (xs : List Spn) (k : Nat) : List Flr := (eachUp cf xs k).map (flrOf xs)
theorem flrUp_len (cf : Cfg) (xs : List Spn) (k : Nat) : (flrUp cf xs k).length ≤ k := by unfold flrUp; rw [List.length_map]; exact eachUp_len cf xs k
theorem flrUp_step {cf : Cfg} {xs : List Spn} {k : Nat} {x : Spn} (hc : cfgOk cf = true) (hs : spOk xs = true) (hx : xs[k]? = some x) :
    flrUp cf xs (k + 1) = flrUp cf xs k ++ if x.walk && decide (cf.height ≤ roomN xs k - x.hi) then [⟨x.hi, roomN xs k, 1⟩] else [] := by
  have hk := (List.getElem?_eq_some_iff.1 hx).1
  have hb : roomB xs k = true := by
    unfold roomB
    rw [hs, decide_eq_true (show (0 : Int) ≤ (k : Int) by omega), decide_eq_true (show (k : Int) < (xs.length : Int) by omega)]
    rfl
  have hf : fitsI cf xs k = decide (cf.height ≤ roomN xs k - x.hi) := by
    unfold fitsI fitsN
    rw [hb, Int.toNat_natCast, hx]
    simp [hc]
  have ho : openAt cf xs k = (x.walk && decide (cf.height ≤ roomN xs k - x.hi)) := by
    unfold openAt
    rw [hx]
    simp only
    rw [hf]
  unfold flrUp
  cases h : openAt cf xs k with
  | true =>
    rw [ho] at h
    rw [eachUp_yes (ho.trans h), h, if_pos rfl, List.map_append]
    simp [flrOf, hx, roomI_true hb]
  | false =>
    rw [ho] at h
    rw [eachUp_no (ho.trans h), h]
    simp
theorem flrs_up {cf : Cfg} {xs : List Spn} (hc : cfgOk cf = true) (hs : spOk xs = true) : flrs cf xs = flrUp cf xs xs.length := by
  unfold flrs flrUp eachL
  rw [hc, hs]
  rfl
theorem flrs_no {cf : Cfg} {xs : List Spn} (h : (cfgOk cf && spOk xs) = false) : flrs cf xs = [] := by unfold flrs; rw [h]; rfl
theorem roomN_last {xs : List Spn} {k : Nat} (h : ¬ k + 1 < xs.length) : roomN xs k = 1048576 := by unfold roomN; rw [List.getElem?_eq_none (by omega)]
theorem roomN_next {xs : List Spn} {k : Nat} {y : Spn} (h : xs[k + 1]? = some y) : roomN xs k = y.lo := by unfold roomN; rw [h]
set_option maxRecDepth 100000 in
set_option maxHeartbeats 8000000 in
theorem refflr_any (cf : Cfg) (a : Option Addr) (n c : Nat) (xs : List Spn) (w : World) (hx : SlSp w a n c xs) :
    Calls Tryz.prog 7 #[cfgV cf, .slice a n c] w (FloorsPost cf xs w) := by
  have CF := Lib.hid (fun W => refcfgcheck_any cf W)
  obtain ⟨W1, hW1⟩ : ∃ W, W = w.alloc (cfgO cf) := ⟨_, rfl⟩
  have hC := World.alloc_heap_new w (cfgO cf)
  have hB : Below w.heap.size w (w.alloc (cfgO cf)) := (Below.refl _ _).alloc (Nat.le_refl _) _
  rw [← hW1] at hC hB
  obtain ⟨T, hTT⟩ : ∃ T, T = w.heap.size := ⟨_, rfl⟩
  rw [← hTT] at hC
  have HTT := Lib.hid hTT
  clear hTT
  have Hl := Lib.hid hx.len
  have hmax := hx.max
  have hle := hx.le
  have Hx := Lib.hid hx
  clear hx
  have SC := Lib.hid (fun W hW => refspancheck_any a n c xs W hW)
  unfold FloorsPost
  cases hcf : cfgOk cf with
  | false =>
    have h0 : cfgE cf = 20 := by unfold cfgE; rw [hcf]; rfl
    rw [h0] at CF
    rw [flrs_no (by rw [hcf]; rfl), show openE cf xs = 20 by unfold openE; rw [hcf]; rfl]
    clear h0 hcf SC
    obtain ⟨cl, climb, height, rise, run, cw, cd⟩ := cf
    dsimp only [cfgO, cfgV] at CF hC hB hW1 ⊢
    have c0 := hcell (k := 0) (v := .int .i64 cl) hC rfl
    have c1 := hcell (k := 1) (v := .int .i64 climb) hC rfl
    have c2 := hcell (k := 2) (v := .int .i64 height) hC rfl
    have c3 := hcell (k := 3) (v := .int .i64 rise) hC rfl
    have c4 := hcell (k := 4) (v := .int .i64 run) hC rfl
    have c5 := hcell (k := 5) (v := .int .i64 cw) hC rfl
    have c6 := hcell (k := 6) (v := .int .i64 cd) hC rfl
    go_enter Tryz.func7, Tryz.ntmps7
    go_upto_region 1 with fail
    rw [← hW1, ← HTT.out]
    clear hW1
    go_wp2_with fail
    refine (CF.out _).mono ?_
    rintro e w1 ⟨rfl, hb1⟩
    have hB1 := hB.trans (hb1.mono hB.size)
    go_wp2
    ((try simp only [Exit.inBlock, Exit.then]); refine bodyPost_ret (results_k2 rfl _ _ _) rfl ?_)
    exact ⟨_, rfl, OwnR.nil _ _ _ _ _, hB1⟩
  | true =>
  have h0 : cfgE cf = 0 := by unfold cfgE; rw [hcf]; rfl
  rw [h0] at CF
  clear h0
  cases hsp : spOk xs with
  | false =>
    have h1 : spE xs = 2 := by unfold spE; rw [hsp]; rfl
    rw [h1] at SC
    rw [flrs_no (by rw [hcf, hsp]; rfl), show openE cf xs = 2 by unfold openE; rw [hcf, hsp]; rfl]
    clear h1 hcf hsp
    obtain ⟨cl, climb, height, rise, run, cw, cd⟩ := cf
    dsimp only [cfgO, cfgV] at CF hC hB hW1 ⊢
    have c0 := hcell (k := 0) (v := .int .i64 cl) hC rfl
    have c1 := hcell (k := 1) (v := .int .i64 climb) hC rfl
    have c2 := hcell (k := 2) (v := .int .i64 height) hC rfl
    have c3 := hcell (k := 3) (v := .int .i64 rise) hC rfl
    have c4 := hcell (k := 4) (v := .int .i64 run) hC rfl
    have c5 := hcell (k := 5) (v := .int .i64 cw) hC rfl
    have c6 := hcell (k := 6) (v := .int .i64 cd) hC rfl
    go_enter Tryz.func7, Tryz.ntmps7
    go_upto_region 1 with fail
    rw [← hW1, ← HTT.out]
    clear hW1
    go_wp2_with fail
    refine (CF.out _).mono ?_
    rintro e w1 ⟨rfl, hb1⟩
    have hB1 := hB.trans (hb1.mono hB.size)
    clear c0 c1 c2 c3 c4 c5 c6 hC hb1
    go_wp2_with fail
    refine (SC.out _ (Hx.out.below hB1 (Nat.le_refl _))).mono ?_
    rintro e w2 ⟨rfl, hb2⟩
    have hB2 := hB1.trans (hb2.mono hB1.size)
    clear hb2
    go_wp2
    ((try simp only [Exit.inBlock, Exit.then]); refine bodyPost_ret (results_k2 rfl _ _ _) rfl ?_)
    exact ⟨_, rfl, OwnR.nil _ _ _ _ _, hB2⟩
  | true =>
    have h1 : spE xs = 0 := by unfold spE; rw [hsp]; rfl
    rw [h1] at SC
    have hn8 : n ≤ 8 := by simp only [spOk, Bool.and_eq_true, decide_eq_true_eq] at hsp; rw [← Hl.out]; exact hsp.1
    rw [flrs_up hcf hsp, show openE cf xs = 0 by unfold openE; rw [hcf, hsp]; rfl, Hl.out]
    have FS := Lib.hid (fun (k : Nat) (x : Spn) (hx : xs[k]? = some x) => flrUp_step hcf hsp hx)
    have FL := Lib.hid (flrUp_len cf xs)
    have RL := Lib.hid (fun (k : Nat) (h : ¬ k + 1 < xs.length) => roomN_last (xs := xs) (k := k) h)
    have RN := Lib.hid (fun (k : Nat) (y : Spn) (h : xs[k + 1]? = some y) => roomN_next (xs := xs) (k := k) h)
    have MA := Lib.hid (fun (k : Nat) (x : Spn) (h : xs[k]? = some x) => spOk_may hsp h)
    obtain ⟨U, hU⟩ : ∃ U : Nat → List Flr, U = flrUp cf xs := ⟨_, rfl⟩
    have HU0 : Hid (U 0 = []) := by show _ = _; rw [hU]; rfl
    rw [← hU] at FS FL ⊢
    obtain ⟨RM, hRM⟩ : ∃ RM : Nat → Int, RM = roomN xs := ⟨_, rfl⟩
    have hRMk : ∀ k, roomN xs k = RM k := fun k => by rw [hRM]
    simp only [hRMk] at FS RL RN
    clear hU hRM hRMk h1 hcf hsp
    obtain ⟨cl, climb, height, rise, run, cw, cd⟩ := cf
    dsimp only [cfgO, cfgV] at CF FS hC hB hW1 ⊢
    have c0 := hcell (k := 0) (v := .int .i64 cl) hC rfl
    have c1 := hcell (k := 1) (v := .int .i64 climb) hC rfl
    have c2 := hcell (k := 2) (v := .int .i64 height) hC rfl
    have c3 := hcell (k := 3) (v := .int .i64 rise) hC rfl
    have c4 := hcell (k := 4) (v := .int .i64 run) hC rfl
    have c5 := hcell (k := 5) (v := .int .i64 cw) hC rfl
    have c6 := hcell (k := 6) (v := .int .i64 cd) hC rfl
    go_enter Tryz.func7, Tryz.ntmps7
    go_upto_region 1 with fail
    rw [← hW1, ← HTT.out]
    clear hW1
    go_wp2_with fail
    refine (CF.out _).mono ?_
    rintro e w1 ⟨rfl, hb1⟩
    have hB1 := hB.trans (hb1.mono hB.size)
    have hC1 := hkeep hb1 hC
    clear c0 c1 c2 c3 c4 c5 c6 hC hb1
    go_wp2_with fail
    refine (SC.out _ (Hx.out.below hB1 (Nat.le_refl _))).mono ?_
    rintro e w2 ⟨rfl, hb2⟩
    have hB2 := hB1.trans (hb2.mono hB1.size)
    have hC2 := hkeep hb2 hC1
    clear hb2 hC1 CF SC hB hB1
    have hs2 := hB2.size
    go_wp2
    go_loopw [6, 7] (fun s6 s7 wr => ∃ k : Nat, s7 = .int .i64 k ∧ k ≤ n ∧ OwnR flrC 3 43 w2.heap.size wr s6 (U k).length (U k) ∧ Below w2.heap.size w2 wr) (fun _ s7 _ => n - (intOf s7).toNat)
    case atStart => exact ⟨0, rfl, Nat.zero_le _, by rw [HU0.out]; exact OwnR.nil _ _ _ _ _, Below.refl _ _⟩
    case round =>
      obtain ⟨k, rfl, hk, hown, hbr⟩ := hrel
      have hBr := hB2.trans (hbr.mono hB2.size)
      by_cases hlt : k < n
      · have hltI : (k : Int) < (n : Int) := by omega
        obtain ⟨x, hxk⟩ : ∃ x, xs[k]? = some x := ⟨_, List.getElem?_eq_getElem (by rw [Hl.out]; exact hlt)⟩
        obtain ⟨bk, off, rfl, hbl, hc⟩ := (Hx.out.below hBr (Nat.le_refl _)).at0 (by omega)
        have hma := MA.out k x hxk
        have hFk := FL.out k
        have FS2 := Lib.hid (FS.out k x hxk)
        obtain ⟨q0, q1, q2⟩ := SlSp.cells hc hxk
        obtain ⟨xlo, xhi, xwk⟩ := x
        dsimp only at q0 q1 q2 FS2 hma
        have c2 := hcell (k := 2) (v := .int .i64 height) (hkeep hbr hC2) rfl
        have hk1w : IntKind.i64.wrap ((k : Int) + 1) = (k : Int) + 1 := by rw [IntKind.wrap_i64]; omega
        by_cases hk1 : k + 1 < n
        · obtain ⟨y, hy⟩ : ∃ y, xs[k + 1]? = some y := ⟨_, List.getElem?_eq_getElem (by rw [Hl.out]; exact hk1)⟩
          have hmy := MA.out (k + 1) y hy
          have hr := RN.out k y hy
          rw [hr] at FS2
          obtain ⟨r0, _, _⟩ := SlSp.cells hc hy
          obtain ⟨ylo, yhi, ywk⟩ := y
          dsimp only at r0 hmy FS2
          have hkI : (k : Int) + 1 < (n : Int) := by omega
          have hkd : decide ((k : Int) + 1 < (n : Int)) = true := decide_eq_true hkI
          have hkn : decide (k + 1 < n) = true := decide_eq_true hk1
          clear hy hr hxk hc hkI
          go_upto_region 12 with fail
          have hww : IntKind.i64.wrap (ylo - xhi) = ylo - xhi := by rw [IntKind.wrap_i64]; omega
          clear hkd hkn r0
          obtain ⟨tp, rfl⟩ : ∃ t, t = ylo := ⟨_, rfl⟩
          cases xwk with
          | false =>
            have HS : Hid (U (k + 1) = U k) := by show _ = _; rw [FS2.out, Bool.false_and]; simp
            clear FS2
            have e_0 := fun d os => cell_regrown q1 d os
            have e_1 := fun d os => cell_regrown q2 d os
            have e_2 := fun d os => cell_regrown c2 d os
            refine wp_region_quiet_below (by kernel_rfl) (by kernel_rfl) ?_
            repeat (go_big_quiet_step (fail))
            refine wpQuiet_nil ?_
            rintro w4 ⟨⟨dq, osq⟩, hw4⟩
            have hstep : Below wr.heap.size wr w4 := by rw [hw4]; exact below_regrown wr dq osq
            have p1 := hbc hstep q1
            clear hw4 e_0 e_1 e_2 q0 q1 q2 c2 hww
            have hown4 := hown.below hstep (Nat.le_refl _)
            have hbr4 := hbr.trans (hstep.mono hbr.size)
            clear hown hbr hBr hstep
            go_wp2
            go_roundw
            case rel => exact ⟨k + 1, by go_num, by omega, by rw [HS.out]; exact hown4, hbr4⟩
            case measure => simp [intOf]; omega
          | true =>
            by_cases hf : height ≤ tp - xhi
            · have HS : Hid (U (k + 1) = U k ++ [⟨xhi, tp, 1⟩]) := by show _ = _; rw [FS2.out, decide_eq_true hf]; rfl
              clear FS2
              have hfd : decide (height ≤ tp - xhi) = true := decide_eq_true hf
              clear hf
              have e_0 := fun d os => cell_regrown q1 d os
              have e_1 := fun d os => cell_regrown q2 d os
              have e_2 := fun d os => cell_regrown c2 d os
              refine wp_region_quiet_below (by kernel_rfl) (by kernel_rfl) ?_
              repeat (go_big_quiet_step (fail))
              refine wpQuiet_nil ?_
              rintro w4 ⟨⟨dq, osq⟩, hw4⟩
              have hstep : Below wr.heap.size wr w4 := by rw [hw4]; exact below_regrown wr dq osq
              have p1 := hbc hstep q1
              clear hw4 e_0 e_1 e_2 q0 q1 q2 c2 hww
              have hown4 := hown.below hstep (Nat.le_refl _)
              have hbr4 := hbr.trans (hstep.mono hbr.size)
              clear hown hbr hBr hstep
              clear hfd
              have hs4 := hbr4.size
              go_wp2_with (at_builtin; refine wpList_appR (f := flrC) (sz := 3) (e := 43) (B := w2.heap.size) (n := (U k).length) (xs := U k) _ (fun _ => rfl) flrC_one rfl _ _ 28 rfl (.agg #[.int .i64 0, .int .i64 0, .int .i64 0]) 24 Tryz.underlying28 info_flr rfl (by decide) (⟨xhi, tp, 1⟩ : Flr) 43 hown4 rfl rfl (by omega) (by omega) hs4 ?_; intro v' w6 hown6 happ)
              have hB6 := hbr4.trans (happ.below hs4 hown4.le)
              have hl6 : (U k).length + 1 = (U (k + 1)).length := by rw [HS.out]; simp
              go_roundw
              case rel => exact ⟨k + 1, by go_num, by omega, by rw [← hl6, HS.out]; exact hown6, hB6⟩
              case measure => simp [intOf]; omega
            · have HS : Hid (U (k + 1) = U k) := by show _ = _; rw [FS2.out, decide_eq_false hf]; simp
              clear FS2
              have hfd : decide (height ≤ tp - xhi) = false := decide_eq_false hf
              clear hf
              have e_0 := fun d os => cell_regrown q1 d os
              have e_1 := fun d os => cell_regrown q2 d os
              have e_2 := fun d os => cell_regrown c2 d os
              refine wp_region_quiet_below (by kernel_rfl) (by kernel_rfl) ?_
              repeat (go_big_quiet_step (fail))
              refine wpQuiet_nil ?_
              rintro w4 ⟨⟨dq, osq⟩, hw4⟩
              have hstep : Below wr.heap.size wr w4 := by rw [hw4]; exact below_regrown wr dq osq
              have p1 := hbc hstep q1
              clear hw4 e_0 e_1 e_2 q0 q1 q2 c2 hww
              have hown4 := hown.below hstep (Nat.le_refl _)
              have hbr4 := hbr.trans (hstep.mono hbr.size)
              clear hown hbr hBr hstep
              clear hfd
              go_wp2
              go_roundw
              case rel => exact ⟨k + 1, by go_num, by omega, by rw [HS.out]; exact hown4, hbr4⟩
              case measure => simp [intOf]; omega
        · have hr := RL.out k (by rw [Hl.out]; exact hk1)
          rw [hr] at FS2
          have hkI : ¬ (k : Int) + 1 < (n : Int) := by omega
          have hkd : decide ((k : Int) + 1 < (n : Int)) = false := decide_eq_false hkI
          have hkn : decide (k + 1 < n) = false := decide_eq_false hk1
          clear hr hxk hc hkI
          go_upto_region 12 with fail
          have hww : IntKind.i64.wrap (1048576 - xhi) = 1048576 - xhi := by rw [IntKind.wrap_i64]; omega
          clear hkd hkn
          cases xwk with
          | false =>
            have HS : Hid (U (k + 1) = U k) := by show _ = _; rw [FS2.out, Bool.false_and]; simp
            clear FS2
            have e_0 := fun d os => cell_regrown q1 d os
            have e_1 := fun d os => cell_regrown q2 d os
            have e_2 := fun d os => cell_regrown c2 d os
            refine wp_region_quiet_below (by kernel_rfl) (by kernel_rfl) ?_
            repeat (go_big_quiet_step (fail))
            refine wpQuiet_nil ?_
            rintro w4 ⟨⟨dq, osq⟩, hw4⟩
            have hstep : Below wr.heap.size wr w4 := by rw [hw4]; exact below_regrown wr dq osq
            have p1 := hbc hstep q1
            clear hw4 e_0 e_1 e_2 q0 q1 q2 c2 hww
            have hown4 := hown.below hstep (Nat.le_refl _)
            have hbr4 := hbr.trans (hstep.mono hbr.size)
            clear hown hbr hBr hstep
            go_wp2
            go_roundw
            case rel => exact ⟨k + 1, by go_num, by omega, by rw [HS.out]; exact hown4, hbr4⟩
            case measure => simp [intOf]; omega
          | true =>
            by_cases hf : height ≤ 1048576 - xhi
            · have HS : Hid (U (k + 1) = U k ++ [⟨xhi, 1048576, 1⟩]) := by show _ = _; rw [FS2.out, decide_eq_true hf]; rfl
              clear FS2
              have hfd : decide (height ≤ 1048576 - xhi) = true := decide_eq_true hf
              clear hf
              have e_0 := fun d os => cell_regrown q1 d os
              have e_1 := fun d os => cell_regrown q2 d os
              have e_2 := fun d os => cell_regrown c2 d os
              refine wp_region_quiet_below (by kernel_rfl) (by kernel_rfl) ?_
              repeat (go_big_quiet_step (fail))
              refine wpQuiet_nil ?_
              rintro w4 ⟨⟨dq, osq⟩, hw4⟩
              have hstep : Below wr.heap.size wr w4 := by rw [hw4]; exact below_regrown wr dq osq
              have p1 := hbc hstep q1
              clear hw4 e_0 e_1 e_2 q0 q1 q2 c2 hww
              have hown4 := hown.below hstep (Nat.le_refl _)
              have hbr4 := hbr.trans (hstep.mono hbr.size)
              clear hown hbr hBr hstep
              clear hfd
              have hs4 := hbr4.size
              go_wp2_with (at_builtin; refine wpList_appR (f := flrC) (sz := 3) (e := 43) (B := w2.heap.size) (n := (U k).length) (xs := U k) _ (fun _ => rfl) flrC_one rfl _ _ 28 rfl (.agg #[.int .i64 0, .int .i64 0, .int .i64 0]) 24 Tryz.underlying28 info_flr rfl (by decide) (⟨xhi, 1048576, 1⟩ : Flr) 43 hown4 rfl rfl (by omega) (by omega) hs4 ?_; intro v' w6 hown6 happ)
              have hB6 := hbr4.trans (happ.below hs4 hown4.le)
              have hl6 : (U k).length + 1 = (U (k + 1)).length := by rw [HS.out]; simp
              go_roundw
              case rel => exact ⟨k + 1, by go_num, by omega, by rw [← hl6, HS.out]; exact hown6, hB6⟩
              case measure => simp [intOf]; omega
            · have HS : Hid (U (k + 1) = U k) := by show _ = _; rw [FS2.out, decide_eq_false hf]; simp
              clear FS2
              have hfd : decide (height ≤ 1048576 - xhi) = false := decide_eq_false hf
              clear hf
              have e_0 := fun d os => cell_regrown q1 d os
              have e_1 := fun d os => cell_regrown q2 d os
              have e_2 := fun d os => cell_regrown c2 d os
              refine wp_region_quiet_below (by kernel_rfl) (by kernel_rfl) ?_
              repeat (go_big_quiet_step (fail))
              refine wpQuiet_nil ?_
              rintro w4 ⟨⟨dq, osq⟩, hw4⟩
              have hstep : Below wr.heap.size wr w4 := by rw [hw4]; exact below_regrown wr dq osq
              have p1 := hbc hstep q1
              clear hw4 e_0 e_1 e_2 q0 q1 q2 c2 hww
              have hown4 := hown.below hstep (Nat.le_refl _)
              have hbr4 := hbr.trans (hstep.mono hbr.size)
              clear hown hbr hBr hstep
              clear hfd
              go_wp2
              go_roundw
              case rel => exact ⟨k + 1, by go_num, by omega, by rw [HS.out]; exact hown4, hbr4⟩
              case measure => simp [intOf]; omega
      · obtain rfl : k = n := by omega
        have hown2 := hown.mono hB2.size
        go_wp2
        ((try simp only [Exit.inBlock, Exit.then]); refine bodyPost_ret (results_k2 rfl _ _ _) rfl ?_)
        exact ⟨_, rfl, hown2, hBr⟩
end Go.Proofs.YtjiklfffcnfdjaaGreat

namespace Go.Proofs.YtjiklfffcnfdjaaGreat
open Go.RowKit
attribute [local go_sem] Instr.index

def tget (v : Value) (i : Nat) : Value := match v with
  | .tuple a => a.getD i undef
  | _ => undef
def FlrRes (H : Nat) (l : List Flr) (s : Value) (w : World) : Prop := ∃ (v : Value) (er : Int), s = .tuple #[v, .int .i64 er] ∧ OwnR flrC 3 43 H w v l.length l
theorem FlrRes.below {H : Nat} {l : List Flr} {s : Value} {w w' : World} (h : FlrRes H l s w) (hb : Below w.heap.size w w') : FlrRes H l s w' := by
  obtain ⟨v, er, h1, h2⟩ := h
  exact ⟨v, er, h1, h2.below hb (Nat.le_refl _)⟩
def RbInv (T bk off k rN rc : Nat) (ha : Option Addr) (hn hc : Nat) (cl climb height rise run cw cd : Int) (l : List Flr) (w1 : World) (F : Value → Value → Value → Value → Value → Value → Value → Value → Value → Value → Value → Array Value) (D : List Deferred) (L : Array Bool) (a : Act) (w : World) : Prop :=
  ∃ (s0 s1 s2 s3 s4 s5 s6 s7 s8 s9 s10 : Value), a = { tmps := F s0 s1 s2 s3 s4 s5 s6 s7 s8 s9 s10, defers := D } ∧
    Below w1.heap.size w1 w ∧
    w.heap[T]? = some (.cells #[.int .i64 cl, .int .i64 climb, .int .i64 height, .int .i64 rise, .int .i64 run, .int .i64 cw, .int .i64 cd] 23 (0, 0)) ∧
    w.cell? ⟨bk, off + k, none⟩ = some (.slice ha hn hc) ∧
    (L.getD 0 false = true → s0 = .agg #[.int .i64 cl, .int .i64 climb, .int .i64 height, .int .i64 rise, .int .i64 run, .int .i64 cw, .int .i64 cd]) ∧
    (L.getD 1 false = true → s1 = .slice (some ⟨bk, off, none⟩) rN rc) ∧
    (L.getD 2 false = true → s2 = .int .i64 k) ∧
    (L.getD 3 false = true → s3 = .pointer (some ⟨bk, off + k, none⟩)) ∧
    (L.getD 4 false = true → s4 = .slice ha hn hc) ∧
    (L.getD 5 false = true → FlrRes w1.heap.size l s5 w) ∧
    (L.getD 6 false = true → s6 = s5) ∧
    (L.getD 7 false = true → s7 = tget s5 0) ∧
    (L.getD 8 false = true → s8 = tget s5 1) ∧
    (L.getD 9 false = true → s9 = tget s5 0) ∧
    (L.getD 10 false = true → s10 = tget s5 1) ∧
    (L.getD 6 false = true → L.getD 5 false = true) ∧
    (L.getD 7 false = true → L.getD 5 false = true) ∧
    (L.getD 8 false = true → L.getD 5 false = true) ∧
    (L.getD 9 false = true → L.getD 5 false = true) ∧
    (L.getD 10 false = true → L.getD 5 false = true)
/-- Where it is refused. -/
theorem refbuild_err (cf : Cfg) (a : Option Addr) (n c : Nat) (xs : List Tr) (x z bw bd : Int) (w : World) (hx : SlTr w a n c xs) (h0 : (boxR cf xs x z bw bd).2 ≠ 0) :
    Calls Tryz.prog 9 #[cfgV cf, .slice a n c, .int .i64 x, .int .i64 z, .int .i64 bw, .int .i64 bd] w fun e w' => e = .returned (.tuple #[grdV 0 0 0 0 (.slice none 0 0), .int .i64 (boxR cf xs x z bw bd).2]) ∧ Below w.heap.size w w' := by
  have BX := Lib.hid (fun W hW => refbox09_any cf a n c xs x z bw bd W hW)
  have hC := halloc (World.alloc_heap_new w (cfgO cf)) (grdO 0 0 0 0 (.slice none 0 0))
  have hG := World.alloc_heap_new (w.alloc (cfgO cf)) (grdO 0 0 0 0 (.slice none 0 0))
  have hB : Below w.heap.size w ((w.alloc (cfgO cf)).alloc (grdO 0 0 0 0 (.slice none 0 0))) := ((Below.refl _ _).alloc (Nat.le_refl _) _).alloc (by simp) _
  have hS := (hx.alloc (cfgO cf)).alloc (grdO 0 0 0 0 (.slice none 0 0))
  simp only [World.size_alloc] at hG
  clear hx
  generalize boxR cf xs x z bw bd = R at BX h0 ⊢
  obtain ⟨rows, er⟩ := R
  dsimp only at h0 ⊢
  have h0' : (er != 0) = true := by simpa using h0
  obtain ⟨cl, climb, height, rise, run, cw, cd⟩ := cf
  dsimp only [cfgO, cfgV, grdO, grdV] at BX hC hG hB hS ⊢
  go_enter Tryz.func9, Tryz.ntmps9
  go_wp2_with fail
  refine (BX.out _ hS).mono ?_
  rintro e w1 ⟨v, rfl, _, hb1⟩
  have hG1 := hkeep hb1 hG
  have hB1 := hB.trans (hb1.mono hB.size)
  clear hC hG hB hS hb1
  dsimp only
  have f0 := hfroz (k := 0) hG1
  have f1 := hfroz (k := 1) hG1
  have f2 := hfroz (k := 2) hG1
  have f3 := hfroz (k := 3) hG1
  have f4 := hfroz (k := 4) hG1
  have z0 := hcell (k := 0) (v := .int .i64 0) hG1 rfl
  have z1 := hcell (k := 1) (v := .int .i64 0) hG1 rfl
  have z2 := hcell (k := 2) (v := .int .i64 0) hG1 rfl
  have z3 := hcell (k := 3) (v := .int .i64 0) hG1 rfl
  have z4 := hcell (k := 4) (v := .slice none 0 0) hG1 rfl
  have hG2 := box5_set hG1 (.int .i64 0) (.int .i64 0) (.int .i64 0) (.int .i64 0) (.slice none 0 0)
  have hB2 := hB1.grown (box5_grown (b := w.heap.size + 1) (.int .i64 0) (.int .i64 0) (.int .i64 0) (.int .i64 0) (.slice none 0 0)) hB1.size (fun j hj => by cases hj; omega)
  go_wp2
  (try simp only [Exit.inBlock, Exit.then])
  refine bodyPost_ret (results_ct1 rfl _ _ (w.heap.size + 1) 34 #[.int .i64 0, .int .i64 0, .int .i64 0, .int .i64 0, .slice none 0 0] (0, 0) _ rfl hG2 Tryz.underlying34 rfl (by kernel_rfl)) rfl ⟨?_, hB2⟩
  rfl
set_option maxRecDepth 100000 in
set_option maxHeartbeats 4000000 in
theorem refbuild_ok (cf : Cfg) (a : Option Addr) (n c : Nat) (xs : List Tr) (x z bw bd : Int) (w : World) (hx : SlTr w a n c xs) (h0 : (boxR cf xs x z bw bd).2 = 0) (hl : (boxR cf xs x z bw bd).1.length ≤ 4096) :
    Calls Tryz.prog 9 #[cfgV cf, .slice a n c, .int .i64 x, .int .i64 z, .int .i64 bw, .int .i64 bd] w fun e w' => ∃ sv, e = .returned (.tuple #[grdV x z bw bd sv, .int .i64 0]) ∧ OwnRR flrC 3 28 w.heap.size w' sv ((boxR cf xs x z bw bd).1.map (flrs cf)) ∧ Below w.heap.size w w' := by
  have BX := Lib.hid (fun W hW => refbox09_any cf a n c xs x z bw bd W hW)
  have FL := Lib.hid (fun (a' : Option Addr) (n' c' : Nat) (l : List Spn) (W : World) hW => refflr_any cf a' n' c' l W hW)
  have hC := halloc (World.alloc_heap_new w (cfgO cf)) (grdO 0 0 0 0 (.slice none 0 0))
  have hG := World.alloc_heap_new (w.alloc (cfgO cf)) (grdO 0 0 0 0 (.slice none 0 0))
  have hB : Below w.heap.size w ((w.alloc (cfgO cf)).alloc (grdO 0 0 0 0 (.slice none 0 0))) := ((Below.refl _ _).alloc (Nat.le_refl _) _).alloc (by simp) _
  have hS := (hx.alloc (cfgO cf)).alloc (grdO 0 0 0 0 (.slice none 0 0))
  simp only [World.size_alloc] at hG
  clear hx
  generalize boxR cf xs x z bw bd = R at BX h0 hl ⊢
  obtain ⟨rows, er⟩ := R
  dsimp only at h0 hl ⊢
  subst h0
  obtain ⟨F, hF⟩ : ∃ F : List Spn → List Flr, F = flrs cf := ⟨_, rfl⟩
  rw [← hF]
  have FL2 : Hid (∀ (a' : Option Addr) (n' c' : Nat) (l : List Spn) (W : World), SlSp W a' n' c' l → Calls Tryz.prog 7 #[cfgV cf, .slice a' n' c'] W fun e w' => ∃ v er, e = .returned (.tuple #[v, .int .i64 er]) ∧ OwnR flrC 3 43 W.heap.size w' v (F l).length (F l) ∧ Below W.heap.size W w') := by
    intro a' n' c' l W hW
    refine (FL.out a' n' c' l W hW).mono ?_
    rintro e w' ⟨v, h1, h2, h3⟩
    exact ⟨v, _, h1, by rw [hF]; exact h2, h3⟩
  clear FL hF
  obtain ⟨cl, climb, height, rise, run, cw, cd⟩ := cf
  dsimp only [cfgO, cfgV, grdO, grdV] at BX FL2 hC hG hB hS ⊢
  go_enter Tryz.func9, Tryz.ntmps9
  go_wp2_with fail
  refine (BX.out _ hS).mono ?_
  rintro e w1 ⟨v, rfl, hv, hb1⟩
  have hG1 := hkeep hb1 hG
  have hC1 := hkeep hb1 hC
  have hB1 := hB.trans (hb1.mono hB.size)
  obtain ⟨ra, rc, hs, rfl, hr1⟩ := hv.reads
  dsimp only at hr1 ⊢
  have HRR := Lib.hid hr1
  clear hC hG hB hS hb1 hv BX hr1
  obtain ⟨N, hN⟩ : ∃ N, N = rows.length := ⟨_, rfl⟩
  rw [← hN] at HRR hl ⊢
  have HN := Lib.hid hN
  clear hN
  have hrm := HRR.out.out.max
  have hrle := HRR.out.out.le
  obtain ⟨T, hTT⟩ : ∃ T, T = w.heap.size := ⟨_, rfl⟩
  rw [← hTT] at hC1 hG1
  have HTT := Lib.hid hTT
  clear hTT
  rw [← HTT.out]
  have hTl := hblt hG1
  have hC2 := halloc hC1 (.cells #[.int .i64 x, .int .i64 z, .int .i64 bw, .int .i64 bd, .slice none 0 0] 34)
  have hG2 := halloc hG1 (.cells #[.int .i64 x, .int .i64 z, .int .i64 bw, .int .i64 bd, .slice none 0 0] 34)
  have hg2 := World.alloc_heap_new w1 (.cells #[.int .i64 x, .int .i64 z, .int .i64 bw, .int .i64 bd, .slice none 0 0] 34)
  have hb2 : Below w1.heap.size w1 (w1.alloc (.cells #[.int .i64 x, .int .i64 z, .int .i64 bw, .int .i64 bd, .slice none 0 0] 34)) := (Below.refl _ _).alloc (Nat.le_refl _) _
  have hsz2 : (w1.alloc (.cells #[.int .i64 x, .int .i64 z, .int .i64 bw, .int .i64 bd, .slice none 0 0] 34)).heap.size = w1.heap.size + 1 := by simp
  go_wp2
  generalize w1.alloc (.cells #[.int .i64 x, .int .i64 z, .int .i64 bw, .int .i64 bd, .slice none 0 0] 34) = w2 at hC2 hG2 hg2 hb2 hsz2 ⊢
  obtain ⟨G, hGG⟩ : ∃ G, G = w1.heap.size := ⟨_, rfl⟩
  have HGG := Lib.hid hGG
  have hs2 : G + 1 ≤ w2.heap.size := by omega
  rw [← hGG] at hg2 ⊢
  clear hGG hsz2
  go_loopw [17] (fun s42 wr => ∃ (k : Nat) (sv : Value), s42 = .int .i64 k ∧ k ≤ N ∧ wr.heap[G]? = some (.cells #[.int .i64 x, .int .i64 z, .int .i64 bw, .int .i64 bd, sv] 34 (0, 0)) ∧ OwnRR flrC 3 28 (G + 1) wr sv ((rows.take k).map F) ∧ Below w1.heap.size w1 wr) (fun s42 _ => N - (intOf s42).toNat)
  case atStart => exact ⟨0, _, rfl, Nat.zero_le _, hg2, OwnRR.nil _ _ _ _ _, hb2⟩
  case round =>
    clear hg2 hb2 hC2 hG2 hs2
    obtain ⟨k, sv, rfl, hk, hg, hown, hbr⟩ := hrel
    obtain ⟨sa, sc, _, hsv, -⟩ := hown.reads
    obtain ⟨sn, hsn⟩ : ∃ sn, sn = ((rows.take k).map F).length := ⟨_, rfl⟩
    rw [← hsn] at hsv
    clear hsn
    subst hsv
    have hGw : w1.heap.size ≤ G := by have := HGG.out; omega
    by_cases hlt : k < N
    · have hltI : (k : Int) < (N : Int) := by omega
      obtain ⟨r, hrk⟩ : ∃ r, rows[k]? = some r := ⟨_, List.getElem?_eq_getElem (by rw [← HN.out]; exact hlt)⟩
      have hrr := HRR.out.below hbr (Nat.le_refl _)
      obtain ⟨bk, off, rfl, hbl, _⟩ := hrr.out.at0 (by omega)
      obtain ⟨h5, hcell5, hsl5⟩ := hrr.at hrk
      obtain ⟨ha5, hn5, hc5⟩ := h5
      dsimp only at hcell5 hsl5
      have HMT : Hid ((rows.take (k + 1)).map F = (rows.take k).map F ++ [F r]) := map_take_succ hrk
      have hCr := hkeep hbr hC1
      have e0 := hcell (k := 0) (v := .int .i64 cl) hCr rfl
      have e1 := hcell (k := 1) (v := .int .i64 climb) hCr rfl
      have e2 := hcell (k := 2) (v := .int .i64 height) hCr rfl
      have e3 := hcell (k := 3) (v := .int .i64 rise) hCr rfl
      have e4 := hcell (k := 4) (v := .int .i64 run) hCr rfl
      have e5 := hcell (k := 5) (v := .int .i64 cw) hCr rfl
      have e6 := hcell (k := 6) (v := .int .i64 cd) hCr rfl
      have FL3 := Lib.hid (FL2.out ha5 hn5 hc5 r wr hsl5)
      have hml : ((rows.take k).map F).length ≤ k := by simp; omega
      generalize (rows.take k).map F = MT at hown HMT hml
      clear hrr hrk
      clear e0 e1 e2 e3 e4 e5 e6 FL3
      go_upto_region 8 with fail
      have hTw := hblt hCr
      refine wp_region_inv (RbInv T bk off k N rc ha5 hn5 hc5 cl climb height rise run cw cd (F r) wr (fun s0 s1 s2 s3 s4 s5 s6 s7 s8 s9 s10 => #[Value.agg #[Value.int IntKind.i64 cl, Value.int IntKind.i64 climb, Value.int IntKind.i64 height, Value.int IntKind.i64 rise, Value.int IntKind.i64 run, Value.int IntKind.i64 cw, Value.int IntKind.i64 cd], Value.slice a n c, Value.int IntKind.i64 x, Value.int IntKind.i64 z, Value.int IntKind.i64 bw, Value.int IntKind.i64 bd, Value.pointer (some { block := T, off := 0 }), undef, undef, undef, undef, undef, Value.pointer (some { block := T + 1, off := 0 }), Value.int IntKind.i64 0, Value.slice (some { block := bk, off := off }) N rc, Value.int IntKind.i64 0, Value.pointer (some { block := G, off := 0 }), Value.int IntKind.i64 ↑k, s9, s10, Value.tuple #[Value.slice (some { block := bk, off := off }) N rc, Value.int IntKind.i64 0], Value.agg #[Value.int IntKind.i64 cl, Value.int IntKind.i64 climb, Value.int IntKind.i64 height, Value.int IntKind.i64 rise, Value.int IntKind.i64 run, Value.int IntKind.i64 cw, Value.int IntKind.i64 cd], Value.slice a n c, Value.int IntKind.i64 x, Value.int IntKind.i64 z, Value.int IntKind.i64 bw, Value.int IntKind.i64 bd, Value.tuple #[Value.slice (some { block := bk, off := off }) N rc, Value.int IntKind.i64 0], Value.slice (some { block := bk, off := off }) N rc, Value.int IntKind.i64 0, Value.int IntKind.i64 0, Value.bool false, undef, undef, Value.int IntKind.i64 x, Value.int IntKind.i64 z, Value.int IntKind.i64 bw, Value.int IntKind.i64 bd, Value.agg #[Value.int IntKind.i64 x, Value.int IntKind.i64 z, Value.int IntKind.i64 bw, Value.int IntKind.i64 bd, Value.slice none 0 0], Value.int IntKind.i64 ↑k, Value.slice (some { block := bk, off := off }) N rc, Value.int IntKind.i64 ↑N, Value.bool true, u43, u44, s6, s0, s1, s2, s3, s4, s5, s7, s8, u54, u55, u56, u57, u58, u59, undef]) []) (by kernel_rfl) (by kernel_rfl) ?_ ?_ ?_
      · unfold RbInv
        refine ⟨_, _, _, _, _, _, _, _, _, _, _, rfl, (Below.refl _ _).drew, hCr, hcell5, (fun h => by cases (show false = true from h)), (fun h => by cases (show false = true from h)), (fun h => by cases (show false = true from h)), (fun h => by cases (show false = true from h)), (fun h => by cases (show false = true from h)), (fun h => by cases (show false = true from h)), (fun h => by cases (show false = true from h)), (fun h => by cases (show false = true from h)), (fun h => by cases (show false = true from h)), (fun h => by cases (show false = true from h)), (fun h => by cases (show false = true from h)), (fun h => by cases (show false = true from h)), (fun h => by cases (show false = true from h)), (fun h => by cases (show false = true from h)), (fun h => by cases (show false = true from h)), (fun h => by cases (show false = true from h))⟩
      · intro L a wi i hs hI hi
        have hsN : L.size = 11 := hs
        have hn := ready_elim hi
        have hlt : i < 11 := by
            obtain ⟨o, ho, _⟩ := hn.2
            exact (Array.getElem?_eq_some_iff.1 ho).1
        have hi' := ready_not hi false (by rw [hs]; exact hlt)
        clear hn
        unfold RbInv at hI
        obtain ⟨s0, s1, s2, s3, s4, s5, s6, s7, s8, s9, s10, rfl, hB, hF_C, hC_row, h0, h1, h2, h3, h4, h5, h6, h7, h8, h9, h10, hR6_5, hR7_5, hR8_5, hR9_5, hR10_5⟩ := hI
        rcases (by omega : i = 0 ∨ i = 1 ∨ i = 2 ∨ i = 3 ∨ i = 4 ∨ i = 5 ∨ i = 6 ∨ i = 7 ∨ i = 8 ∨ i = 9 ∨ i = 10) with rfl | rfl | rfl | rfl | rfl | rfl | rfl | rfl | rfl | rfl | rfl
        · skip
          have c0 := hcell (k := 0) (v := .int .i64 cl) hF_C rfl
          have c1 := hcell (k := 1) (v := .int .i64 climb) hF_C rfl
          have c2 := hcell (k := 2) (v := .int .i64 height) hF_C rfl
          have c3 := hcell (k := 3) (v := .int .i64 rise) hF_C rfl
          have c4 := hcell (k := 4) (v := .int .i64 run) hF_C rfl
          have c5 := hcell (k := 5) (v := .int .i64 cw) hF_C rfl
          have c6 := hcell (k := 6) (v := .int .i64 cd) hF_C rfl
          refine wpOp_of rfl rfl ?_
          go_simp
          unfold RbInv
          exact ⟨_, _, _, _, _, _, _, _, _, _, _, rfl, (hB), (hF_C), (hC_row), (fun _ => rfl), (fun h => h1 (by rwa [getD_set_ne (by decide)] at h)), (fun h => h2 (by rwa [getD_set_ne (by decide)] at h)), (fun h => h3 (by rwa [getD_set_ne (by decide)] at h)), (fun h => h4 (by rwa [getD_set_ne (by decide)] at h)), (fun h => h5 (by rwa [getD_set_ne (by decide)] at h)), (fun h => h6 (by rwa [getD_set_ne (by decide)] at h)), (fun h => h7 (by rwa [getD_set_ne (by decide)] at h)), (fun h => h8 (by rwa [getD_set_ne (by decide)] at h)), (fun h => h9 (by rwa [getD_set_ne (by decide)] at h)), (fun h => h10 (by rwa [getD_set_ne (by decide)] at h)), (fun h => by rw [getD_set_ne (by decide)] at h ⊢; exact hR6_5 h), (fun h => by rw [getD_set_ne (by decide)] at h ⊢; exact hR7_5 h), (fun h => by rw [getD_set_ne (by decide)] at h ⊢; exact hR8_5 h), (fun h => by rw [getD_set_ne (by decide)] at h ⊢; exact hR9_5 h), (fun h => by rw [getD_set_ne (by decide)] at h ⊢; exact hR10_5 h)⟩
        · skip
          refine wpOp_of rfl rfl ?_
          go_simp
          unfold RbInv
          exact ⟨_, _, _, _, _, _, _, _, _, _, _, rfl, (hB), (hF_C), (hC_row), (fun h => h0 (by rwa [getD_set_ne (by decide)] at h)), (fun _ => rfl), (fun h => h2 (by rwa [getD_set_ne (by decide)] at h)), (fun h => h3 (by rwa [getD_set_ne (by decide)] at h)), (fun h => h4 (by rwa [getD_set_ne (by decide)] at h)), (fun h => h5 (by rwa [getD_set_ne (by decide)] at h)), (fun h => h6 (by rwa [getD_set_ne (by decide)] at h)), (fun h => h7 (by rwa [getD_set_ne (by decide)] at h)), (fun h => h8 (by rwa [getD_set_ne (by decide)] at h)), (fun h => h9 (by rwa [getD_set_ne (by decide)] at h)), (fun h => h10 (by rwa [getD_set_ne (by decide)] at h)), (fun h => by rw [getD_set_ne (by decide)] at h ⊢; exact hR6_5 h), (fun h => by rw [getD_set_ne (by decide)] at h ⊢; exact hR7_5 h), (fun h => by rw [getD_set_ne (by decide)] at h ⊢; exact hR8_5 h), (fun h => by rw [getD_set_ne (by decide)] at h ⊢; exact hR9_5 h), (fun h => by rw [getD_set_ne (by decide)] at h ⊢; exact hR10_5 h)⟩
        · skip
          refine wpOp_of rfl rfl ?_
          go_simp
          unfold RbInv
          exact ⟨_, _, _, _, _, _, _, _, _, _, _, rfl, (hB), (hF_C), (hC_row), (fun h => h0 (by rwa [getD_set_ne (by decide)] at h)), (fun h => h1 (by rwa [getD_set_ne (by decide)] at h)), (fun _ => rfl), (fun h => h3 (by rwa [getD_set_ne (by decide)] at h)), (fun h => h4 (by rwa [getD_set_ne (by decide)] at h)), (fun h => h5 (by rwa [getD_set_ne (by decide)] at h)), (fun h => h6 (by rwa [getD_set_ne (by decide)] at h)), (fun h => h7 (by rwa [getD_set_ne (by decide)] at h)), (fun h => h8 (by rwa [getD_set_ne (by decide)] at h)), (fun h => h9 (by rwa [getD_set_ne (by decide)] at h)), (fun h => h10 (by rwa [getD_set_ne (by decide)] at h)), (fun h => by rw [getD_set_ne (by decide)] at h ⊢; exact hR6_5 h), (fun h => by rw [getD_set_ne (by decide)] at h ⊢; exact hR7_5 h), (fun h => by rw [getD_set_ne (by decide)] at h ⊢; exact hR8_5 h), (fun h => by rw [getD_set_ne (by decide)] at h ⊢; exact hR9_5 h), (fun h => by rw [getD_set_ne (by decide)] at h ⊢; exact hR10_5 h)⟩
        · skip
          have e1 := h1 (ready_dep hi (by kernel_rfl))
          subst e1
          have e2 := h2 (ready_dep hi (by kernel_rfl))
          subst e2
          refine wpOp_of rfl rfl ?_
          go_simp
          unfold RbInv
          exact ⟨_, _, _, _, _, _, _, _, _, _, _, rfl, (hB), (hF_C), (hC_row), (fun h => h0 (by rwa [getD_set_ne (by decide)] at h)), (fun h => h1 (by rwa [getD_set_ne (by decide)] at h)), (fun h => h2 (by rwa [getD_set_ne (by decide)] at h)), (fun _ => rfl), (fun h => h4 (by rwa [getD_set_ne (by decide)] at h)), (fun h => h5 (by rwa [getD_set_ne (by decide)] at h)), (fun h => h6 (by rwa [getD_set_ne (by decide)] at h)), (fun h => h7 (by rwa [getD_set_ne (by decide)] at h)), (fun h => h8 (by rwa [getD_set_ne (by decide)] at h)), (fun h => h9 (by rwa [getD_set_ne (by decide)] at h)), (fun h => h10 (by rwa [getD_set_ne (by decide)] at h)), (fun h => by rw [getD_set_ne (by decide)] at h ⊢; exact hR6_5 h), (fun h => by rw [getD_set_ne (by decide)] at h ⊢; exact hR7_5 h), (fun h => by rw [getD_set_ne (by decide)] at h ⊢; exact hR8_5 h), (fun h => by rw [getD_set_ne (by decide)] at h ⊢; exact hR9_5 h), (fun h => by rw [getD_set_ne (by decide)] at h ⊢; exact hR10_5 h)⟩
        · skip
          have e3 := h3 (ready_dep hi (by kernel_rfl))
          subst e3
          refine wpOp_of rfl rfl ?_
          go_simp
          unfold RbInv
          exact ⟨_, _, _, _, _, _, _, _, _, _, _, rfl, (hB), (hF_C), (hC_row), (fun h => h0 (by rwa [getD_set_ne (by decide)] at h)), (fun h => h1 (by rwa [getD_set_ne (by decide)] at h)), (fun h => h2 (by rwa [getD_set_ne (by decide)] at h)), (fun h => h3 (by rwa [getD_set_ne (by decide)] at h)), (fun _ => rfl), (fun h => h5 (by rwa [getD_set_ne (by decide)] at h)), (fun h => h6 (by rwa [getD_set_ne (by decide)] at h)), (fun h => h7 (by rwa [getD_set_ne (by decide)] at h)), (fun h => h8 (by rwa [getD_set_ne (by decide)] at h)), (fun h => h9 (by rwa [getD_set_ne (by decide)] at h)), (fun h => h10 (by rwa [getD_set_ne (by decide)] at h)), (fun h => by rw [getD_set_ne (by decide)] at h ⊢; exact hR6_5 h), (fun h => by rw [getD_set_ne (by decide)] at h ⊢; exact hR7_5 h), (fun h => by rw [getD_set_ne (by decide)] at h ⊢; exact hR8_5 h), (fun h => by rw [getD_set_ne (by decide)] at h ⊢; exact hR9_5 h), (fun h => by rw [getD_set_ne (by decide)] at h ⊢; exact hR10_5 h)⟩
        · skip
          have e0 := h0 (ready_dep hi (by kernel_rfl))
          subst e0
          have e4 := h4 (ready_dep hi (by kernel_rfl))
          subst e4
          refine wpOp_of rfl rfl ?_
          go_simp
          go_at_call 7
          refine (FL2.out _ _ _ _ _ (hsl5.below hB (Nat.le_refl _))).mono ?_
          rintro e wz ⟨v, er, rfl, hv, hbz⟩
          (try go_simp)
          unfold RbInv
          exact ⟨_, _, _, _, _, _, _, _, _, _, _, rfl, (hB.trans (hbz.mono (Nat.le_trans (Nat.le_refl _) hB.size))), (hkeep hbz hF_C), (hbc hbz hC_row), (fun h => h0 (by rwa [getD_set_ne (by decide)] at h)), (fun h => h1 (by rwa [getD_set_ne (by decide)] at h)), (fun h => h2 (by rwa [getD_set_ne (by decide)] at h)), (fun h => h3 (by rwa [getD_set_ne (by decide)] at h)), (fun h => h4 (by rwa [getD_set_ne (by decide)] at h)), (fun _ => ⟨_, _, rfl, hv.mono hB.size⟩), (fun h => by rw [getD_set_ne (by decide)] at h; rw [hR6_5 h] at hi'; cases hi'), (fun h => by rw [getD_set_ne (by decide)] at h; rw [hR7_5 h] at hi'; cases hi'), (fun h => by rw [getD_set_ne (by decide)] at h; rw [hR8_5 h] at hi'; cases hi'), (fun h => by rw [getD_set_ne (by decide)] at h; rw [hR9_5 h] at hi'; cases hi'), (fun h => by rw [getD_set_ne (by decide)] at h; rw [hR10_5 h] at hi'; cases hi'), (fun _ => getD_set_eq (by omega) _), (fun _ => getD_set_eq (by omega) _), (fun _ => getD_set_eq (by omega) _), (fun _ => getD_set_eq (by omega) _), (fun _ => getD_set_eq (by omega) _)⟩
        · skip
          refine wpOp_of rfl rfl ?_
          go_simp
          unfold RbInv
          exact ⟨_, _, _, _, _, _, _, _, _, _, _, rfl, (hB), (hF_C), (hC_row), (fun h => h0 (by rwa [getD_set_ne (by decide)] at h)), (fun h => h1 (by rwa [getD_set_ne (by decide)] at h)), (fun h => h2 (by rwa [getD_set_ne (by decide)] at h)), (fun h => h3 (by rwa [getD_set_ne (by decide)] at h)), (fun h => h4 (by rwa [getD_set_ne (by decide)] at h)), (fun h => h5 (by rwa [getD_set_ne (by decide)] at h)), (fun _ => rfl), (fun h => h7 (by rwa [getD_set_ne (by decide)] at h)), (fun h => h8 (by rwa [getD_set_ne (by decide)] at h)), (fun h => h9 (by rwa [getD_set_ne (by decide)] at h)), (fun h => h10 (by rwa [getD_set_ne (by decide)] at h)), (fun _ => by rw [getD_set_ne (by decide)]; exact ready_dep hi (by kernel_rfl)), (fun h => by rw [getD_set_ne (by decide)] at h ⊢; exact hR7_5 h), (fun h => by rw [getD_set_ne (by decide)] at h ⊢; exact hR8_5 h), (fun h => by rw [getD_set_ne (by decide)] at h ⊢; exact hR9_5 h), (fun h => by rw [getD_set_ne (by decide)] at h ⊢; exact hR10_5 h)⟩
        · skip
          have e6 := h6 (ready_dep hi (by kernel_rfl))
          subst e6
          obtain ⟨v, er, e5, ho⟩ := h5 (hR6_5 (ready_dep hi (by kernel_rfl)))
          subst e5
          refine wpOp_of rfl rfl ?_
          go_simp
          unfold RbInv
          exact ⟨_, _, _, _, _, _, _, _, _, _, _, rfl, (hB), (hF_C), (hC_row), (fun h => h0 (by rwa [getD_set_ne (by decide)] at h)), (fun h => h1 (by rwa [getD_set_ne (by decide)] at h)), (fun h => h2 (by rwa [getD_set_ne (by decide)] at h)), (fun h => h3 (by rwa [getD_set_ne (by decide)] at h)), (fun h => h4 (by rwa [getD_set_ne (by decide)] at h)), (fun h => h5 (by rwa [getD_set_ne (by decide)] at h)), (fun h => h6 (by rwa [getD_set_ne (by decide)] at h)), (fun _ => rfl), (fun h => h8 (by rwa [getD_set_ne (by decide)] at h)), (fun h => h9 (by rwa [getD_set_ne (by decide)] at h)), (fun h => h10 (by rwa [getD_set_ne (by decide)] at h)), (fun h => by rw [getD_set_ne (by decide)] at h ⊢; exact hR6_5 h), (fun _ => by rw [getD_set_ne (by decide)]; exact hR6_5 (ready_dep hi (by kernel_rfl))), (fun h => by rw [getD_set_ne (by decide)] at h ⊢; exact hR8_5 h), (fun h => by rw [getD_set_ne (by decide)] at h ⊢; exact hR9_5 h), (fun h => by rw [getD_set_ne (by decide)] at h ⊢; exact hR10_5 h)⟩
        · skip
          have e6 := h6 (ready_dep hi (by kernel_rfl))
          subst e6
          obtain ⟨v, er, e5, ho⟩ := h5 (hR6_5 (ready_dep hi (by kernel_rfl)))
          subst e5
          refine wpOp_of rfl rfl ?_
          go_simp
          unfold RbInv
          exact ⟨_, _, _, _, _, _, _, _, _, _, _, rfl, (hB), (hF_C), (hC_row), (fun h => h0 (by rwa [getD_set_ne (by decide)] at h)), (fun h => h1 (by rwa [getD_set_ne (by decide)] at h)), (fun h => h2 (by rwa [getD_set_ne (by decide)] at h)), (fun h => h3 (by rwa [getD_set_ne (by decide)] at h)), (fun h => h4 (by rwa [getD_set_ne (by decide)] at h)), (fun h => h5 (by rwa [getD_set_ne (by decide)] at h)), (fun h => h6 (by rwa [getD_set_ne (by decide)] at h)), (fun h => h7 (by rwa [getD_set_ne (by decide)] at h)), (fun _ => rfl), (fun h => h9 (by rwa [getD_set_ne (by decide)] at h)), (fun h => h10 (by rwa [getD_set_ne (by decide)] at h)), (fun h => by rw [getD_set_ne (by decide)] at h ⊢; exact hR6_5 h), (fun h => by rw [getD_set_ne (by decide)] at h ⊢; exact hR7_5 h), (fun _ => by rw [getD_set_ne (by decide)]; exact hR6_5 (ready_dep hi (by kernel_rfl))), (fun h => by rw [getD_set_ne (by decide)] at h ⊢; exact hR9_5 h), (fun h => by rw [getD_set_ne (by decide)] at h ⊢; exact hR10_5 h)⟩
        · skip
          have e7 := h7 (ready_dep hi (by kernel_rfl))
          subst e7
          refine wpOp_of rfl rfl ?_
          go_simp
          unfold RbInv
          exact ⟨_, _, _, _, _, _, _, _, _, _, _, rfl, (hB), (hF_C), (hC_row), (fun h => h0 (by rwa [getD_set_ne (by decide)] at h)), (fun h => h1 (by rwa [getD_set_ne (by decide)] at h)), (fun h => h2 (by rwa [getD_set_ne (by decide)] at h)), (fun h => h3 (by rwa [getD_set_ne (by decide)] at h)), (fun h => h4 (by rwa [getD_set_ne (by decide)] at h)), (fun h => h5 (by rwa [getD_set_ne (by decide)] at h)), (fun h => h6 (by rwa [getD_set_ne (by decide)] at h)), (fun h => h7 (by rwa [getD_set_ne (by decide)] at h)), (fun h => h8 (by rwa [getD_set_ne (by decide)] at h)), (fun _ => rfl), (fun h => h10 (by rwa [getD_set_ne (by decide)] at h)), (fun h => by rw [getD_set_ne (by decide)] at h ⊢; exact hR6_5 h), (fun h => by rw [getD_set_ne (by decide)] at h ⊢; exact hR7_5 h), (fun h => by rw [getD_set_ne (by decide)] at h ⊢; exact hR8_5 h), (fun _ => by rw [getD_set_ne (by decide)]; exact hR7_5 (ready_dep hi (by kernel_rfl))), (fun h => by rw [getD_set_ne (by decide)] at h ⊢; exact hR10_5 h)⟩
        · skip
          have e8 := h8 (ready_dep hi (by kernel_rfl))
          subst e8
          refine wpOp_of rfl rfl ?_
          go_simp
          unfold RbInv
          exact ⟨_, _, _, _, _, _, _, _, _, _, _, rfl, (hB), (hF_C), (hC_row), (fun h => h0 (by rwa [getD_set_ne (by decide)] at h)), (fun h => h1 (by rwa [getD_set_ne (by decide)] at h)), (fun h => h2 (by rwa [getD_set_ne (by decide)] at h)), (fun h => h3 (by rwa [getD_set_ne (by decide)] at h)), (fun h => h4 (by rwa [getD_set_ne (by decide)] at h)), (fun h => h5 (by rwa [getD_set_ne (by decide)] at h)), (fun h => h6 (by rwa [getD_set_ne (by decide)] at h)), (fun h => h7 (by rwa [getD_set_ne (by decide)] at h)), (fun h => h8 (by rwa [getD_set_ne (by decide)] at h)), (fun h => h9 (by rwa [getD_set_ne (by decide)] at h)), (fun _ => rfl), (fun h => by rw [getD_set_ne (by decide)] at h ⊢; exact hR6_5 h), (fun h => by rw [getD_set_ne (by decide)] at h ⊢; exact hR7_5 h), (fun h => by rw [getD_set_ne (by decide)] at h ⊢; exact hR8_5 h), (fun h => by rw [getD_set_ne (by decide)] at h ⊢; exact hR9_5 h), (fun _ => by rw [getD_set_ne (by decide)]; exact hR8_5 (ready_dep hi (by kernel_rfl)))⟩
      · intro L a wi hI hall
        unfold RbInv at hI
        obtain ⟨s0, s1, s2, s3, s4, s5, s6, s7, s8, s9, s10, rfl, hB, hF_C, hC_row, h0, h1, h2, h3, h4, h5, h6, h7, h8, h9, h10, hR6_5, hR7_5, hR8_5, hR9_5, hR10_5⟩ := hI
        have e0 := h0 (hall 0 (by decide))
        subst e0
        have e1 := h1 (hall 1 (by decide))
        subst e1
        have e2 := h2 (hall 2 (by decide))
        subst e2
        have e3 := h3 (hall 3 (by decide))
        subst e3
        have e4 := h4 (hall 4 (by decide))
        subst e4
        have g5 := h5 (hall 5 (by decide))
        have e6 := h6 (hall 6 (by decide))
        subst e6
        have e7 := h7 (hall 7 (by decide))
        subst e7
        have e8 := h8 (hall 8 (by decide))
        subst e8
        have e9 := h9 (hall 9 (by decide))
        subst e9
        have e10 := h10 (hall 10 (by decide))
        subst e10
        clear hall h5 hR6_5 hR7_5 hR8_5 hR9_5 hR10_5
        obtain ⟨v5, er5, e5, hv5⟩ := g5
        subst e5
        dsimp only [tget]
        obtain ⟨a5, k5, rfl, r5⟩ := OwnR.reads (f := flrC) (sz := 3) (fun _ => rfl) hv5
        have had := own_addr hv5
        have hg5 := hkeep hB hg
        have hglt := hblt hg
        obtain ⟨hs5, ho5, hr5⟩ := hown.below hB (Nat.le_refl _)
        obtain ⟨_, ho0, _⟩ := hown
        have hB5 := hbr.trans (hB.mono hbr.size)
        have hsz5 := hB.size
        have hl5 : hs5.length ≤ 4096 := by rw [hr5.1]; omega
        have hne : (Value.slice sa sn sc).ownBlock ≠ some G := fun e => by have := (ho5.lt G e).1; omega
        have hlt5 : ∀ j, (Value.slice sa sn sc).ownBlock = some j → j < wr.heap.size := fun j e => (ho0.lt j e).2
        clear hcell5 hg hv5 ho0
        have z4 := hcell (k := 4) (v := .slice sa sn sc) hg5 rfl
        have hbase : G + 1 ≤ wi.heap.size := by omega
        go_upto_region 9 with fail
        go_wp2_with (at_builtin; refine wpList_appR (f := hdC) (sz := 1) (e := 28) (B := G + 1) (n := hs5.length) (xs := hs5) _ hdC_len hdC_one rfl _ _ 32 rfl (.slice none 0 0) 24 Tryz.underlying32 info_flrs rfl (by decide) (⟨a5, (F r).length, k5⟩ : Hd) 28 ho5 rfl rfl (by omega) (by omega) hbase ?_; intro vq wq hownq hAppd; obtain ⟨qa, qc, rfl, _⟩ := OwnR.reads hdC_len hownq; have hgq := hgrown hAppd.grown hg5 hne; have fq := hfroz (k := 4) hgq; have zq := hcell (k := 4) (v := .slice sa sn sc) hgq rfl)
        have hBq := (hB5.grown hAppd.grown hB5.size (fun j hj => by have := (ho5.lt j hj).1; omega)).setCell (p := ⟨G, 4, none⟩) hGw (.slice qa (hs5.length + 1) qc)
        have hOq := (OwnRR.app (h := ⟨a5, (F r).length, k5⟩) hr5 r5 (fun ad hh => ⟨by have := (had ad hh).1; omega, (had ad hh).2, fun e => by have := hlt5 _ e; have := (had ad hh).1; omega⟩) (by simpa using hownq) hAppd).grown (grown_set wq G 4 (.slice qa (hs5.length + 1) qc)) (Nat.lt_succ_self G)
        rw [← HMT.out] at hOq
        go_roundw
        case rel => exact ⟨k + 1, _, by go_num, by omega, box5_last hgq _, hOq, hBq⟩
        case measure => simp [intOf]; omega
    · obtain rfl : k = N := by omega
      rw [List.take_of_length_le (by rw [← HN.out]; exact Nat.le_refl _)] at hown
      have hGr := hkeep hbr hG1
      have hB3 := hB1.trans (hbr.mono hB1.size)
      have hTT2 := HTT.out
      have z0 := hcell (k := 0) (v := .int .i64 x) hg rfl
      have z1 := hcell (k := 1) (v := .int .i64 z) hg rfl
      have z2 := hcell (k := 2) (v := .int .i64 bw) hg rfl
      have z3 := hcell (k := 3) (v := .int .i64 bd) hg rfl
      have z4 := hcell (k := 4) (v := .slice sa sn sc) hg rfl
      have f0 := hfroz (k := 0) hGr
      have f1 := hfroz (k := 1) hGr
      have f2 := hfroz (k := 2) hGr
      have f3 := hfroz (k := 3) hGr
      have f4 := hfroz (k := 4) hGr
      have y0 := hcell (k := 0) (v := .int .i64 0) hGr rfl
      have y1 := hcell (k := 1) (v := .int .i64 0) hGr rfl
      have y2 := hcell (k := 2) (v := .int .i64 0) hGr rfl
      have y3 := hcell (k := 3) (v := .int .i64 0) hGr rfl
      have y4 := hcell (k := 4) (v := .slice none 0 0) hGr rfl
      have hGs := box5_set hGr (.int .i64 x) (.int .i64 z) (.int .i64 bw) (.int .i64 bd) (.slice sa sn sc)
      have hGg := box5_grown (w := wr) (b := T + 1) (.int .i64 x) (.int .i64 z) (.int .i64 bw) (.int .i64 bd) (.slice sa sn sc)
      have hBs := hB3.grown hGg hB3.size (fun j hj => by cases hj; omega)
      have hOs := (hown.grown hGg (by omega)).mono (B' := w.heap.size) (by omega)
      clear hTT2 hB3 hown hg hGr hGg hbr HRR hG1 hC1
      go_wp2
      (try simp only [Exit.inBlock, Exit.then])
      refine bodyPost_ret (results_ct1 rfl _ _ (T + 1) 34 #[.int .i64 x, .int .i64 z, .int .i64 bw, .int .i64 bd, .slice sa sn sc] (0, 0) _ rfl hGs Tryz.underlying34 rfl (by kernel_rfl)) rfl ⟨_, rfl, hOs, hBs⟩
end Go.Proofs.YtjiklfffcnfdjaaGreat

namespace Go.Proofs.YtjiklfffcnfdjaaGreat
open Go.RowKit
attribute [local go_sem] Instr.index

structure GR where
  x : Int
  z : Int
  w : Int
  d : Int
  e : Int
  rows : List (List Flr)
/-- What Build tells. -/
def gridR (cf : Cfg) (xs : List Tr) (x z w d : Int) : GR := if (boxR cf xs x z w d).2 = 0 then ⟨x, z, w, d, 0, (boxR cf xs x z w d).1.map (flrs cf)⟩ else ⟨0, 0, 0, 0, (boxR cf xs x z w d).2, []⟩
def GridPost (g : GR) (w : World) (e : Ending) (w' : World) : Prop :=
  ∃ sv, e = .returned (.tuple #[grdV g.x g.z g.w g.d sv, .int .i64 g.e]) ∧ OwnRR flrC 3 28 w.heap.size w' sv g.rows ∧ Below w.heap.size w w'
theorem box_len {cf : Cfg} {xs : List Tr} {x z bw bd : Int} (h : (boxR cf xs x z bw bd).2 = 0) : (boxR cf xs x z bw bd).1.length ≤ 4096 := by
  obtain ⟨_, hin, _, hb⟩ := boxR_zero h
  obtain ⟨_, _, _, _, i5, i6, i7, i8⟩ := inBox_iff.1 hin
  rw [hb, colsTo_len]
  exact Nat.mul_le_mul (show bw.toNat ≤ 64 by omega) (show bd.toNat ≤ 64 by omega)
theorem build_any (cf : Cfg) (a : Option Addr) (n c : Nat) (xs : List Tr) (x z bw bd : Int) (w : World) (hx : SlTr w a n c xs) :
    Calls Tryz.prog 8 #[cfgV cf, .slice a n c, .int .i64 x, .int .i64 z, .int .i64 bw, .int .i64 bd] w (GridPost (gridR cf xs x z bw bd) w) := by
  unfold gridR
  by_cases h : (boxR cf xs x z bw bd).2 = 0
  · rw [if_pos h]
    exact build_ok cf a n c xs x z bw bd w hx h (box_len h)
  · rw [if_neg h]
    refine (build_err cf a n c xs x z bw bd w hx h).mono ?_
    rintro e w' ⟨rfl, hb⟩
    exact ⟨_, rfl, OwnRR.nil _ _ _ _ _, hb⟩
theorem refbuild_any (cf : Cfg) (a : Option Addr) (n c : Nat) (xs : List Tr) (x z bw bd : Int) (w : World) (hx : SlTr w a n c xs) :
    Calls Tryz.prog 9 #[cfgV cf, .slice a n c, .int .i64 x, .int .i64 z, .int .i64 bw, .int .i64 bd] w (GridPost (gridR cf xs x z bw bd) w) := by
  unfold gridR
  by_cases h : (boxR cf xs x z bw bd).2 = 0
  · rw [if_pos h]
    exact refbuild_ok cf a n c xs x z bw bd w hx h (box_len h)
  · rw [if_neg h]
    refine (refbuild_err cf a n c xs x z bw bd w hx h).mono ?_
    rintro e w' ⟨rfl, hb⟩
    exact ⟨_, rfl, OwnRR.nil _ _ _ _ _, hb⟩
set_option maxRecDepth 100000 in
set_option maxHeartbeats 4000000 in
theorem samegrid_self (x z bw bd : Int) (a b : Option Addr) (n c d : Nat) (hs ks : List Hd) (rows : List (List Flr)) (w : World) (hx : SlRR flrC 3 w a n c hs rows) (hy : SlRR flrC 3 w b n d ks rows) :
    Calls Tryz.prog 11 #[grdV x z bw bd (.slice a n c), grdV x z bw bd (.slice b n d)] w fun e w' => e = .returned (.bool true) ∧ Below w.heap.size w w' := by
  obtain ⟨W1, hW1⟩ : ∃ W, W = (w.alloc (grdO x z bw bd (.slice a n c))).alloc (grdO x z bw bd (.slice b n d)) := ⟨_, rfl⟩
  have hP := halloc (World.alloc_heap_new w (grdO x z bw bd (.slice a n c))) (grdO x z bw bd (.slice b n d))
  have hQ := World.alloc_heap_new (w.alloc (grdO x z bw bd (.slice a n c))) (grdO x z bw bd (.slice b n d))
  have hB : Below w.heap.size w ((w.alloc (grdO x z bw bd (.slice a n c))).alloc (grdO x z bw bd (.slice b n d))) := ((Below.refl _ _).alloc (Nat.le_refl _) _).alloc (by simp) _
  simp only [World.size_alloc] at hQ
  rw [← hW1] at hP hQ hB
  obtain ⟨T, hTT⟩ : ∃ T, T = w.heap.size := ⟨_, rfl⟩
  rw [← hTT] at hP hQ
  have HTT := Lib.hid hTT
  clear hTT
  have HX := Lib.hid (hx.below hB (Nat.le_refl _))
  have HY := Lib.hid (hy.below hB (Nat.le_refl _))
  have Hl := Lib.hid (hx.len.symm.trans hx.out.len)
  have hmax := hx.out.max
  have hle := hx.out.le
  clear hx hy
  dsimp only [grdO, grdV] at hP hQ hB hW1 ⊢
  have p0 := hcell (k := 0) (v := .int .i64 x) hP rfl
  have p1 := hcell (k := 1) (v := .int .i64 z) hP rfl
  have p2 := hcell (k := 2) (v := .int .i64 bw) hP rfl
  have p3 := hcell (k := 3) (v := .int .i64 bd) hP rfl
  have p4 := hcell (k := 4) (v := .slice a n c) hP rfl
  have q0 := hcell (k := 0) (v := .int .i64 x) hQ rfl
  have q1 := hcell (k := 1) (v := .int .i64 z) hQ rfl
  have q2 := hcell (k := 2) (v := .int .i64 bw) hQ rfl
  have q3 := hcell (k := 3) (v := .int .i64 bd) hQ rfl
  have q4 := hcell (k := 4) (v := .slice b n d) hQ rfl
  go_enter Tryz.func11, Tryz.ntmps11
  go_upto_region 1 with fail
  rw [← hW1, ← HTT.out]
  clear hW1
  go_wp2
  clear p0 p1 p2 p3 p4 q0 q1 q2 q3 q4
  go_loopw [5] (fun s5 wr => ∃ k : Nat, s5 = .int .i64 k ∧ k ≤ n ∧ Below W1.heap.size W1 wr) (fun s5 _ => n - (intOf s5).toNat)
  case atStart => exact ⟨0, rfl, Nat.zero_le _, Below.refl _ _⟩
  case round =>
    obtain ⟨k, rfl, hk, hbr⟩ := hrel
    have p4 := hcell (k := 4) (v := .slice a n c) (hkeep hbr hP) rfl
    by_cases hlt : k < n
    · have hltI : (k : Int) < (n : Int) := by omega
      have q4 := hcell (k := 4) (v := .slice b n d) (hkeep hbr hQ) rfl
      obtain ⟨r, hrk⟩ : ∃ r, rows[k]? = some r := ⟨_, List.getElem?_eq_getElem (by rw [Hl.out]; exact hlt)⟩
      have hxr := HX.out.below hbr (Nat.le_refl _)
      have hyr := HY.out.below hbr (Nat.le_refl _)
      obtain ⟨b1, o1, rfl, _, _⟩ := hxr.out.at0 (by omega)
      obtain ⟨b2, o2, rfl, _, _⟩ := hyr.out.at0 (by omega)
      obtain ⟨⟨ha5, hn5, hc5⟩, hcell5, hsl5⟩ := hxr.at hrk
      obtain ⟨⟨ha6, hn6, hc6⟩, hcell6, hsl6⟩ := hyr.at hrk
      dsimp only at hcell5 hsl5 hcell6 hsl6
      obtain rfl : hn5 = hn6 := hsl5.len.symm.trans hsl6.len
      have SF := Lib.hid (fun W hW1 hW2 => sameflr_self ha5 ha6 hn5 hc5 hc6 r W hW1 hW2)
      have Hs5 := Lib.hid hsl5
      have Hs6 := Lib.hid hsl6
      clear hxr hyr hsl5 hsl6 hrk
      go_upto_region 6 with fail
      have e_0 := fun d os => cell_regrown p4 d os
      have e_1 := fun d os => cell_regrown q4 d os
      have e_2 := fun d os => cell_regrown hcell5 d os
      have e_3 := fun d os => cell_regrown hcell6 d os
      refine wp_region_quiet_below (by kernel_rfl) (by kernel_rfl) ?_
      repeat (go_big_quiet_step ((go_at_call 10; exact Calls.regrown_of (SF.out _ (Hs5.out.below (below_regrown wr _ _) (Nat.le_refl _)) (Hs6.out.below (below_regrown wr _ _) (Nat.le_refl _))))))
      refine wpQuiet_nil ?_
      rintro w4 ⟨⟨dq, osq⟩, hw4⟩
      have hstep : Below wr.heap.size wr w4 := by rw [hw4]; exact below_regrown wr dq osq
      clear hw4 e_0 e_1 e_2 e_3 p4 q4 hcell5 hcell6
      have hbr4 := hbr.trans (hstep.mono hbr.size)
      go_wp2
      go_roundw
      case rel => exact ⟨k + 1, by go_num, by omega, hbr4⟩
      case measure => simp [intOf]; omega
    · obtain rfl : k = n := by omega
      have hB9 := hB.trans (hbr.mono hB.size)
      go_wp2
      go_ret
      exact ⟨rfl, hB9⟩
end Go.Proofs.YtjiklfffcnfdjaaGreat

namespace Go.Proofs.YtjiklfffcnfdjaaGreat
open Go.RowKit
attribute [local go_sem] Instr.index

set_option maxRecDepth 100000 in
set_option maxHeartbeats 16000000 in
theorem openbuilds_any (cf : Cfg) (b : Option Addr) (m d : Nat) (l : List Spn) (a : Option Addr) (n c : Nat) (xs : List Tr) (x z bw bd : Int) (w : World) (hl : SlSp w b m d l) (hx : SlTr w a n c xs) :
    Calls Tryz.prog 3 #[cfgV cf, .slice b m d, .slice a n c, .int .i64 x, .int .i64 z, .int .i64 bw, .int .i64 bd] w fun e w' => e = .returned (.bool true) ∧ Below w.heap.size w w' := by
  have WK := Lib.hid (fun W => wakes11_any W)
  obtain ⟨W1, hW1⟩ : ∃ W, W = w.alloc (cfgO cf) := ⟨_, rfl⟩
  have hC := World.alloc_heap_new w (cfgO cf)
  have hB : Below w.heap.size w (w.alloc (cfgO cf)) := (Below.refl _ _).alloc (Nat.le_refl _) _
  rw [← hW1] at hC hB
  obtain ⟨T, hTT⟩ : ∃ T, T = w.heap.size := ⟨_, rfl⟩
  rw [← hTT] at hC
  have HTT := Lib.hid hTT
  clear hTT
  have HL := Lib.hid hl
  have HX := Lib.hid hx
  clear hl hx
  have GR := Lib.hid (fun W => great09_any a n c W)
  by_cases h40 : 40 < n
  · rw [show decide ((40 : Int) < (n : Int)) = true from decide_eq_true (by omega)] at GR
    clear h40
    obtain ⟨cl, climb, height, rise, run, cw, cd⟩ := cf
    dsimp only [cfgO, cfgV] at hC hB hW1 ⊢
    go_enter Tryz.func3, Tryz.ntmps3
    go_upto_region 1 with fail
    rw [← hW1, ← HTT.out]
    clear hW1
    go_wp2_with fail
    refine (GR.out _).mono ?_
    rintro e w1 ⟨rfl, hw1⟩
    subst hw1
    go_wp2_with fail
    refine (WK.out _).mono ?_
    rintro e w9 ⟨rfl, hb9⟩
    have hB9 := hB.trans (hb9.mono hB.size)
    go_wp2
    go_ret
    exact ⟨rfl, hB9⟩
  rw [show decide ((40 : Int) < (n : Int)) = false from decide_eq_false (by omega)] at GR
  clear h40
  have hbw : (12 < bw ∧ bw ≤ 64) ∨ ¬ 12 < bw ∨ (12 < bw ∧ ¬ bw ≤ 64) := by omega
  have hbd : (12 < bd ∧ bd ≤ 64) ∨ ¬ 12 < bd ∨ (12 < bd ∧ ¬ bd ≤ 64) := by omega
  rcases hbw with ⟨k1, k2⟩ | hbw
  · clear hbd
    obtain ⟨cl, climb, height, rise, run, cw, cd⟩ := cf
    dsimp only [cfgO, cfgV] at hC hB hW1 ⊢
    go_enter Tryz.func3, Tryz.ntmps3
    go_upto_region 1 with fail
    rw [← hW1, ← HTT.out]
    clear hW1
    go_wp2_with fail
    refine (GR.out _).mono ?_
    rintro e w1 ⟨rfl, hw1⟩
    subst hw1
    go_wp2_with fail
    refine (WK.out _).mono ?_
    rintro e w9 ⟨rfl, hb9⟩
    have hB9 := hB.trans (hb9.mono hB.size)
    go_wp2
    go_ret
    exact ⟨rfl, hB9⟩
  rcases hbd with ⟨k1, k2⟩ | hbd
  · rcases hbw with k3 | ⟨k3, k4⟩
    all_goals
      obtain ⟨cl, climb, height, rise, run, cw, cd⟩ := cf
      dsimp only [cfgO, cfgV] at hC hB hW1 ⊢
      go_enter Tryz.func3, Tryz.ntmps3
      go_upto_region 1 with fail
      rw [← hW1, ← HTT.out]
      clear hW1
      go_wp2_with fail
      refine (GR.out _).mono ?_
      rintro e w1 ⟨rfl, hw1⟩
      subst hw1
      go_wp2_with fail
      refine (WK.out _).mono ?_
      rintro e w9 ⟨rfl, hb9⟩
      have hB9 := hB.trans (hb9.mono hB.size)
      go_wp2
      go_ret
      exact ⟨rfl, hB9⟩
  by_cases h41 : 40 < m
  · have h41I : (40 : Int) < (m : Int) := by omega
    rcases hbw with k3 | ⟨k3, k4⟩ <;> rcases hbd with k1 | ⟨k1, k2⟩
    all_goals
      obtain ⟨cl, climb, height, rise, run, cw, cd⟩ := cf
      dsimp only [cfgO, cfgV] at hC hB hW1 ⊢
      go_enter Tryz.func3, Tryz.ntmps3
      go_upto_region 1 with fail
      rw [← hW1, ← HTT.out]
      clear hW1
      go_wp2_with fail
      refine (GR.out _).mono ?_
      rintro e w1 ⟨rfl, hw1⟩
      subst hw1
      go_wp2_with fail
      refine (WK.out _).mono ?_
      rintro e w9 ⟨rfl, hb9⟩
      have hB9 := hB.trans (hb9.mono hB.size)
      go_wp2
      go_ret
      exact ⟨rfl, hB9⟩
  have h41I : ¬ (40 : Int) < (m : Int) := by omega
  clear h41
  have FA := Lib.hid (fun W hW => floors_any cf b m d l W hW)
  have FB := Lib.hid (fun W hW => refflr_any cf b m d l W hW)
  have BA := Lib.hid (fun W hW => build_any cf a n c xs x z bw bd W hW)
  have BB := Lib.hid (fun W hW => refbuild_any cf a n c xs x z bw bd W hW)
  unfold FloorsPost at FA FB
  unfold GridPost at BA BB
  generalize flrs cf l = fl at FA FB
  generalize openE cf l = fe at FA FB
  generalize gridR cf xs x z bw bd = g at BA BB
  obtain ⟨gx, gz, gw, gd, ge, rows⟩ := g
  rcases hbw with k3 | ⟨k3, k4⟩ <;> rcases hbd with k1 | ⟨k1, k2⟩
  all_goals
    obtain ⟨cl, climb, height, rise, run, cw, cd⟩ := cf
    dsimp only [cfgO, cfgV, grdV] at hC hB hW1 FA FB BA BB ⊢
    have c0 := hcell (k := 0) (v := .int .i64 cl) hC rfl
    have c1 := hcell (k := 1) (v := .int .i64 climb) hC rfl
    have c2 := hcell (k := 2) (v := .int .i64 height) hC rfl
    have c3 := hcell (k := 3) (v := .int .i64 rise) hC rfl
    have c4 := hcell (k := 4) (v := .int .i64 run) hC rfl
    have c5 := hcell (k := 5) (v := .int .i64 cw) hC rfl
    have c6 := hcell (k := 6) (v := .int .i64 cd) hC rfl
    go_enter Tryz.func3, Tryz.ntmps3
    go_upto_region 1 with fail
    rw [← hW1, ← HTT.out]
    clear hW1
    go_wp2_with fail
    refine (GR.out _).mono ?_
    rintro e w1 ⟨rfl, hw1⟩
    subst hw1
    go_wp2_with fail
    refine (FA.out _ (HL.out.below hB (Nat.le_refl _))).mono ?_
    rintro e w2 ⟨v2, rfl, hv2, hb2⟩
    obtain ⟨a2, c2', rfl, r2⟩ := OwnR.reads (f := flrC) (sz := 3) (fun _ => rfl) hv2
    have R2 := Lib.hid r2
    have hB2 := hB.trans (hb2.mono hB.size)
    have hC2 := hkeep hb2 hC
    clear k1 h41I c0 c1 c2 c3 c4 c5 c6 hC hB hb2 hv2 r2 FA GR k3
    have c0 := hcell (k := 0) (v := .int .i64 cl) hC2 rfl
    have c1 := hcell (k := 1) (v := .int .i64 climb) hC2 rfl
    have c2 := hcell (k := 2) (v := .int .i64 height) hC2 rfl
    have c3 := hcell (k := 3) (v := .int .i64 rise) hC2 rfl
    have c4 := hcell (k := 4) (v := .int .i64 run) hC2 rfl
    have c5 := hcell (k := 5) (v := .int .i64 cw) hC2 rfl
    have c6 := hcell (k := 6) (v := .int .i64 cd) hC2 rfl
    go_wp2_with fail
    refine (FB.out _ (HL.out.below hB2 (Nat.le_refl _))).mono ?_
    rintro e w3 ⟨v3, rfl, hv3, hb3⟩
    obtain ⟨a3, c3', rfl, r3⟩ := OwnR.reads (f := flrC) (sz := 3) (fun _ => rfl) hv3
    have R2 := Lib.hid (R2.out.below hb3 (Nat.le_refl _))
    have R3 := Lib.hid r3
    have hB3 := hB2.trans (hb3.mono hB2.size)
    have hC3 := hkeep hb3 hC2
    clear c0 c1 c2 c3 c4 c5 c6 hC2 hB2 hb3 hv3 r3 FB
    have c0 := hcell (k := 0) (v := .int .i64 cl) hC3 rfl
    have c1 := hcell (k := 1) (v := .int .i64 climb) hC3 rfl
    have c2 := hcell (k := 2) (v := .int .i64 height) hC3 rfl
    have c3 := hcell (k := 3) (v := .int .i64 rise) hC3 rfl
    have c4 := hcell (k := 4) (v := .int .i64 run) hC3 rfl
    have c5 := hcell (k := 5) (v := .int .i64 cw) hC3 rfl
    have c6 := hcell (k := 6) (v := .int .i64 cd) hC3 rfl
    go_wp2_with fail
    refine (BA.out _ (HX.out.below hB3 (Nat.le_refl _))).mono ?_
    rintro e w4 ⟨v4, rfl, hv4, hb4⟩
    obtain ⟨a4, c4', hs4, rfl, r4⟩ := hv4.reads
    have R2 := Lib.hid (R2.out.below hb4 (Nat.le_refl _))
    have R3 := Lib.hid (R3.out.below hb4 (Nat.le_refl _))
    have R4 := Lib.hid r4
    have hB4 := hB3.trans (hb4.mono hB3.size)
    have hC4 := hkeep hb4 hC3
    clear c0 c1 c2 c3 c4 c5 c6 hC3 hB3 hb4 hv4 r4 BA
    (try dsimp only at R4)
    have hA5 : Below w4.heap.size w4 (w4.alloc (.cells #[.int .i64 gx, .int .i64 gz, .int .i64 gw, .int .i64 gd, .slice a4 rows.length c4'] 34)) := (Below.refl _ _).alloc (Nat.le_refl _) _
    obtain ⟨w5, hw5⟩ : ∃ W, W = w4.alloc (.cells #[.int .i64 gx, .int .i64 gz, .int .i64 gw, .int .i64 gd, .slice a4 rows.length c4'] 34) := ⟨_, rfl⟩
    have hG5 := World.alloc_heap_new w4 (.cells #[.int .i64 gx, .int .i64 gz, .int .i64 gw, .int .i64 gd, .slice a4 rows.length c4'] 34)
    rw [← hw5] at hA5 hG5
    obtain ⟨G, hGG⟩ : ∃ G, G = w4.heap.size := ⟨_, rfl⟩
    rw [← hGG] at hG5
    have HGG := Lib.hid hGG
    clear hGG
    have R2 := Lib.hid (R2.out.below hA5 (Nat.le_refl _))
    have R3 := Lib.hid (R3.out.below hA5 (Nat.le_refl _))
    have R4 := Lib.hid (R4.out.below hA5 (Nat.le_refl _))
    have hB5 := hB4.trans (hA5.mono hB4.size)
    have hC5 := hkeep hA5 hC4
    clear hA5 hB4
    go_upto_region 6 with fail
    rw [← hw5, ← HGG.out]
    clear hw5 hC4
    have c0 := hcell (k := 0) (v := .int .i64 cl) hC5 rfl
    have c1 := hcell (k := 1) (v := .int .i64 climb) hC5 rfl
    have c2 := hcell (k := 2) (v := .int .i64 height) hC5 rfl
    have c3 := hcell (k := 3) (v := .int .i64 rise) hC5 rfl
    have c4 := hcell (k := 4) (v := .int .i64 run) hC5 rfl
    have c5 := hcell (k := 5) (v := .int .i64 cw) hC5 rfl
    have c6 := hcell (k := 6) (v := .int .i64 cd) hC5 rfl
    go_wp2_with fail
    refine (BB.out _ (HX.out.below hB5 (Nat.le_refl _))).mono ?_
    rintro e w6 ⟨v6, rfl, hv6, hb6⟩
    obtain ⟨a6, c6', hs6, rfl, r6⟩ := hv6.reads
    have R2 := Lib.hid (R2.out.below hb6 (Nat.le_refl _))
    have R3 := Lib.hid (R3.out.below hb6 (Nat.le_refl _))
    have R4 := Lib.hid (R4.out.below hb6 (Nat.le_refl _))
    have R6 := Lib.hid r6
    have hB6 := hB5.trans (hb6.mono hB5.size)
    have hG6 := hkeep hb6 hG5
    clear c0 c1 c2 c3 c4 c5 c6 hC5 hB5 hb6 hv6 r6 BB hG5
    (try dsimp only at R6)
    have hA7 : Below w6.heap.size w6 (w6.alloc (.cells #[.int .i64 gx, .int .i64 gz, .int .i64 gw, .int .i64 gd, .slice a6 rows.length c6'] 34)) := (Below.refl _ _).alloc (Nat.le_refl _) _
    obtain ⟨w7, hw7⟩ : ∃ W, W = w6.alloc (.cells #[.int .i64 gx, .int .i64 gz, .int .i64 gw, .int .i64 gd, .slice a6 rows.length c6'] 34) := ⟨_, rfl⟩
    have hH7 := World.alloc_heap_new w6 (.cells #[.int .i64 gx, .int .i64 gz, .int .i64 gw, .int .i64 gd, .slice a6 rows.length c6'] 34)
    rw [← hw7] at hA7 hH7
    obtain ⟨H, hHH⟩ : ∃ H, H = w6.heap.size := ⟨_, rfl⟩
    rw [← hHH] at hH7
    have HHH := Lib.hid hHH
    clear hHH
    have R2 := Lib.hid (R2.out.below hA7 (Nat.le_refl _))
    have R3 := Lib.hid (R3.out.below hA7 (Nat.le_refl _))
    have R4 := Lib.hid (R4.out.below hA7 (Nat.le_refl _))
    have R6 := Lib.hid (R6.out.below hA7 (Nat.le_refl _))
    have hB7 := hB6.trans (hA7.mono hB6.size)
    have hG7 := hkeep hA7 hG6
    clear hA7 hB6 hG6
    go_upto_region 7 with fail
    rw [← hw7, ← HHH.out]
    clear hw7
    go_wp2_with fail
    refine (sameflr_self a2 a3 fl.length c2' c3' fl _ R2.out R3.out).mono ?_
    rintro e w8 ⟨rfl, hb8⟩
    have R4 := Lib.hid (R4.out.below hb8 (Nat.le_refl _))
    have R6 := Lib.hid (R6.out.below hb8 (Nat.le_refl _))
    have hB8 := hB7.trans (hb8.mono hB7.size)
    have hG8 := hkeep hb8 hG7
    have hH8 := hkeep hb8 hH7
    clear hb8 hB7 hG7 hH7 R2 R3
    have g0 := hcell (k := 0) (v := .int .i64 gx) hG8 rfl
    have h0 := hcell (k := 0) (v := .int .i64 gx) hH8 rfl
    have g1 := hcell (k := 1) (v := .int .i64 gz) hG8 rfl
    have h1 := hcell (k := 1) (v := .int .i64 gz) hH8 rfl
    have g2 := hcell (k := 2) (v := .int .i64 gw) hG8 rfl
    have h2 := hcell (k := 2) (v := .int .i64 gw) hH8 rfl
    have g3 := hcell (k := 3) (v := .int .i64 gd) hG8 rfl
    have h3 := hcell (k := 3) (v := .int .i64 gd) hH8 rfl
    have g4 := hcell (k := 4) (v := .slice a4 rows.length c4') hG8 rfl
    have h4 := hcell (k := 4) (v := .slice a6 rows.length c6') hH8 rfl
    have SG := Lib.hid (samegrid_self gx gz gw gd a4 a6 rows.length c4' c6' hs4 hs6 rows w8 R4.out R6.out)
    (try dsimp only [grdV] at SG)
    clear hG8 hH8
    go_wp2_with fail
    refine SG.out.mono ?_
    rintro e w9 ⟨rfl, hb9⟩
    have hB9 := hB8.trans (hb9.mono hB8.size)
    clear g0 g1 g2 g3 g4 h0 h1 h2 h3 h4 hb9 hB8 SG R4 R6
    go_wp2_with fail
    refine (WK.out _).mono ?_
    rintro e w10 ⟨rfl, hb10⟩
    have hB10 := hB9.trans (hb10.mono hB9.size)
    go_wp2
    go_ret
    exact ⟨rfl, hB10⟩
end Go.Proofs.YtjiklfffcnfdjaaGreat
