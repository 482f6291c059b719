/- Walks: the law TripsShort. -/
import Derived.Test.YtilhmlapbifbbaaWak
import Derived.Test.YtilhmlapbifbbaaTshP
import Derived.Deep.DeepCutAuto
import Derived.Deep.CutRange
namespace Go.Proofs.Ytilhmlapbifbbaa
open Go.RowKit Go.Sort

/-- A square table, cell by cell. -/
theorem SlT.at2 {w : World} {a : Option Addr} {n c : Nat} {rs : List TRow} (h : SlT w a n c rs) (hq : Sq n (tabOf rs)) (hn : 0 < n) : ∃ b off, a = some ⟨b, off, none⟩ ∧ ∀ i, i < n → ∃ rb ro rc, w.cell? ⟨b, off + i, none⟩ = some (.slice (some ⟨rb, ro, none⟩) n rc) ∧ n ≤ rc ∧ rc ≤ 9223372036854775807 ∧ ∀ j, j < n → w.cell? ⟨rb, ro + j, none⟩ = some (.int .i64 (gt (tabOf rs) i j)) := by
  obtain ⟨b, off, _, rfl, _⟩ := h.row hn
  refine ⟨b, off, rfl, fun i hi => ?_⟩
  obtain ⟨b', off', r, e, hr, hc, hs, ht⟩ := h.row hi
  simp only [Option.some.injEq, Addr.mk.injEq, and_true] at e
  obtain ⟨rfl, rfl⟩ := e
  have hrn : r.n = n := by
    have h1 := hs.len
    rw [← h1]
    exact hq.2 _ (List.mem_map.2 ⟨r, List.mem_of_getElem? hr, rfl⟩)
  have hle := hs.le
  have hmx := hs.max
  rw [hrn] at hs hc hle
  obtain ⟨rb, ro, hra, hcell⟩ := hs.at0 hn
  rw [hra] at hc
  refine ⟨rb, ro, r.c, hc, hle, hmx, fun j hj => ?_⟩
  have := hcell j hj
  unfold gt
  rw [ht]
  exact this

theorem cellB {w w' : World} {p : Addr} {v : Value} (hb : Below w.heap.size w w') (h : w.cell? p = some v) : w'.cell? p = some v :=
  (hb.cell (World.block_lt_of_cell? w _ h)).trans h

set_option maxRecDepth 100000 in
set_option maxHeartbeats 20000000 in
theorem tripsshort_yes (a : Option Addr) (n c : Nat) (rs : List TRow) (w : World) (hx : SlT w a n c rs) (hg : greatT (tabOf rs) = false) (hm : mayT (tabOf rs) = true) :
    Calls Try.prog 6 #[.slice a n c] w fun e w' => e = .returned (.bool true) ∧ Below w.heap.size w w' := by
  have hmax := hx.sl.max
  have hle := hx.sl.le
  have hl := hx.tlen
  have Hx := Lib.hid hx
  have Hg := Lib.hid hg
  have Hm := Lib.hid hm
  have hshr := shr_of hm
  rw [hl] at hshr
  have hn12 := hshr.n12
  have Hshr := Lib.hid hshr
  have Hs : Hid (shT (tabOf rs) = shortP (tabOf rs)) := by show _ = _; unfold shT; rw [if_pos hm]
  have He : Hid (trE (tabOf rs) = 0) := by show _ = _; unfold trE; rw [if_pos hm]
  have Hss := Lib.hid (short_short hm)
  have Hsl : Hid ((shortP (tabOf rs)).length = n) := hshr.sqS.1
  clear hm hg hx hl hshr
  go_enter Try.func6, Try.ntmps6
  go_wp2_with (first
    | (go_at_call 35; refine (great_any a n c rs _ Hx.out).mono ?_; rw [Hg.out]; rintro e w1 ⟨rfl, hb1⟩)
    | fail)
  refine (short_any a n c rs _ (Hx.out.below hb1 (Nat.le_refl _))).mono ?_
  rintro e W ⟨v2, ms2, rfl, hmat2, hT2, hb2⟩
  rw [He.out]
  rw [Hs.out] at hT2
  obtain ⟨a2, c2, ss, rfl, hs, ht2⟩ := hmat2.tab hT2
  rw [Hsl.out] at hs ⊢
  have hBW := hb1.trans (hb2.mono hb1.size)
  have HxW := Lib.hid (Hx.out.below hBW (Nat.le_refl _))
  have HsW := Lib.hid hs
  have Ht2 := Lib.hid ht2
  have hc2 := hs.sl.le
  have hm2 := hs.sl.max
  clear hmat2 hT2 ht2 hb2 hb1 hs
  go_wp2_with fail
  refine (short_any a2 n c2 ss _ HsW.out).mono ?_
  rintro e w3 ⟨v3, ms3, rfl, hmat3, hT3, hb3⟩
  rw [Ht2.out] at hT3 ⊢
  obtain ⟨a3, c3, r3, rfl, hx3, ht3⟩ := hmat3.tab hT3
  have hs3 := HsW.out.below hb3 (Nat.le_refl _)
  have hl3 : (shT (shortP (tabOf rs))).length ≤ c3 := hx3.sl.le
  have hm3 := hx3.sl.max
  have hx3' : SlT w3 a n c rs := HxW.out.below hb3 (Nat.le_refl _)
  obtain ⟨n3, hn3⟩ : ∃ n3, n3 = (shT (shortP (tabOf rs))).length := ⟨_, rfl⟩
  rw [← hn3] at hx3 hl3 ⊢
  obtain ⟨E3, hE3⟩ : ∃ E3, E3 = trE (shortP (tabOf rs)) := ⟨_, rfl⟩
  rw [← hE3]
  have HE3 := Lib.hid hE3
  clear hmat3 hT3 hn3 hE3
  have hBW2 := hb3
  go_upto_region 8 with fail
  go_cut [6, 38, 40, 42, 67] from 45 to 67 (fun s6 s38 s40 s42 s67 wx => s67 = .bool false ∧ Below W.heap.size W wx)
  case first =>
    by_cases hmS : mayT (shortP (tabOf rs)) = true
    · have He3 : E3 = 0 := by rw [HE3.out]; unfold trE; rw [if_pos hmS]
      have HmS := Lib.hid hmS
      have Hr3 : Hid (tabOf r3 = tabOf ss) := by
        show _ = _
        rw [ht3, Ht2.out]
        unfold shT
        rw [if_pos hmS, Hss.out]
      have Hx3 := Lib.hid hx3
      have Hs3 := Lib.hid hs3
      have Hx3' := Lib.hid hx3'
      clear hmS ht3 hx3 hs3 hx3' HE3
      subst He3
      go_wp2_with fail
      refine (refmay_tab a2 n c2 ss _ Hs3.out).mono ?_
      rw [Ht2.out, HmS.out]
      rintro e w4 ⟨rfl, hb4⟩
      go_wp2_with fail
      refine (rows_any _ _ _ _ _ _ r3 ss _ (Hx3.out.below hb4 (Nat.le_refl _)) (Hs3.out.below hb4 (Nat.le_refl _))).mono ?_
      rw [show decide (tabOf r3 = tabOf ss) = true by rw [Hr3.out]; simp]
      rintro e w5 ⟨rfl, hb5⟩
      go_wp2_with fail
      refine (refmay_tab a n c rs _ ((Hx3'.out.below hb4 (Nat.le_refl _)).below hb5 (Nat.le_refl _))).mono ?_
      rw [Hm.out]
      rintro e w6 ⟨rfl, hb6⟩
      go_wp2
      go_meet
      have h1 := hb3.trans (hb4.mono hb3.size)
      have h2 := h1.trans (hb5.mono h1.size)
      exact ⟨rfl, h2.trans (hb6.mono h2.size)⟩
    · have HmS : Hid (mayT (shortP (tabOf rs)) = false) := by show _ = _; simpa using hmS
      have Hs3 := Lib.hid hs3
      have Hx3' := Lib.hid hx3'
      clear hmS ht3 hx3 hs3 hx3' HE3
      go_wp2_with fail
      refine (refmay_tab a2 n c2 ss _ Hs3.out).mono ?_
      rw [Ht2.out, HmS.out]
      rintro e w4 ⟨rfl, hb4⟩
      go_wp2_with fail
      refine (refmay_tab a n c rs _ (Hx3'.out.below hb4 (Nat.le_refl _))).mono ?_
      rw [Hm.out]
      rintro e w6 ⟨rfl, hb6⟩
      go_wp2
      go_meet
      have h1 := hb3.trans (hb4.mono hb3.size)
      exact ⟨rfl, h1.trans (hb6.mono h1.size)⟩
  case rest =>
    obtain ⟨rfl, hbc⟩ := hcut
    clear hb3 ht3 hs3 hx3' hx3 HE3 hBW2 hl3 hm3 Hx Hg He Hs Hss
    go_wp2
    go_loopw [8] (fun i wr => ∃ k : Nat, i = .int .i64 k ∧ k ≤ n ∧ Below W.heap.size W wr) (fun i _ => n - (intOf i).toNat)
    case atStart => exact ⟨0, rfl, Nat.zero_le _, hbc⟩
    case round =>
      clear hbc
      obtain ⟨k, rfl, hk, hbr⟩ := hrel
      by_cases hlt : k < n
      · have hltI : (k : Int) < (n : Int) := by omega
        obtain ⟨b2, o2, rfl, hS⟩ := HsW.out.at2 (by rw [Ht2.out]; exact Hshr.out.sqS) (by omega)
        obtain ⟨rb, ro, rc, cS0, h1, h2, _⟩ := hS k hlt
        have cS := cellB hbr cS0
        clear cS0 hS
        go_wp2
        go_roundw
        case rel => exact ⟨k + 1, by go_num, by omega, hbr⟩
        case measure => simp [intOf]; omega
      · obtain rfl : n = k := by omega
        have hltn : ¬ (n : Int) < (n : Int) := by omega
        clear hlt
        go_wp2
        go_loopw [9] (fun i wr => ∃ k : Nat, i = .int .i64 k ∧ k ≤ n ∧ Below W.heap.size W wr) (fun i _ => n - (intOf i).toNat)
        case atStart => exact ⟨0, rfl, Nat.zero_le _, hbr⟩
        case round =>
          clear hbr
          obtain ⟨i, rfl, hi, hbi⟩ := hrel
          by_cases hlti : i < n
          · have hltiI : (i : Int) < (n : Int) := by omega
            obtain ⟨b2, o2, rfl, hS⟩ := HsW.out.at2 (by rw [Ht2.out]; exact Hshr.out.sqS) (by omega)
            obtain ⟨b0, o0, rfl, hT⟩ := HxW.out.at2 Hshr.out.sqT (by omega)
            rw [Ht2.out] at hS
            obtain ⟨sb, so, sc, cSi, hsc1, hsc2, cSij⟩ := hS i hlti
            obtain ⟨tb, tq, tc, cTi, htc1, htc2, cTij⟩ := hT i hlti
            have HS := Lib.hid hS
            have HT := Lib.hid hT
            have HSij := Lib.hid cSij
            have HTij := Lib.hid cTij
            have HSi := Lib.hid cSi
            have HTi := Lib.hid cTi
            clear hS hT cSi cTi cSij cTij
            go_wp2
            go_loopw [10] (fun i wr => ∃ k : Nat, i = .int .i64 k ∧ k ≤ n ∧ Below W.heap.size W wr) (fun i _ => n - (intOf i).toNat)
            case atStart => exact ⟨0, rfl, Nat.zero_le _, hbi⟩
            case round =>
              clear hbi
              obtain ⟨j, rfl, hj, hbj⟩ := hrel
              obtain ⟨wj, rfl⟩ : ∃ wj : World, wj = wr := ⟨_, rfl⟩
              by_cases hltj : j < n
              · have hltjI : (j : Int) < (n : Int) := by omega
                obtain ⟨x, hxd⟩ : ∃ x, x = gt (shortP (tabOf rs)) i j := ⟨_, rfl⟩
                obtain ⟨t, htd⟩ : ∃ t, t = gt (tabOf rs) i j := ⟨_, rfl⟩
                have HX := Lib.hid hxd
                have HTD := Lib.hid htd
                have cx0 := HSij.out j hltj
                have ct0 := HTij.out j hltj
                rw [← hxd] at cx0
                rw [← htd] at ct0
                have cSi := cellB hbj HSi.out
                have cTi := cellB hbj HTi.out
                have cx := cellB hbj cx0
                have ct := cellB hbj ct0
                have e0 := fun d os => cell_regrown cSi d os
                have e1 := fun d os => cell_regrown cTi d os
                have e2 := fun d os => cell_regrown cx d os
                have e3 := fun d os => cell_regrown ct d os
                clear hxd htd cSi cTi cx ct
                go_upto_region 21 with fail
                go_cut [139] from 90 to 139 (fun s139 wx => s139 = .bool false ∧ Below W.heap.size W wx)
                case first =>
                  obtain ⟨b, hb⟩ : ∃ b : Bool, ((i : Int) == (j : Int)) = b := ⟨_, rfl⟩
                  have qx : b = true → (x != 0) = false := fun h => by
                    rw [h] at hb
                    have h0 : (i : Int) = (j : Int) := by simpa using hb
                    have h1 : i = j := by omega
                    subst h1
                    rw [HX.out, Hshr.out.dg i hlti]
                    rfl
                  cases b with
                  | true =>
                    have qx := qx rfl
                    by_cases ht0 : 0 ≤ t
                    · have hle2 := Hshr.out.le i j hlti hltj (by rw [← HTD.out]; exact ht0)
                      rw [← HX.out, ← HTD.out] at hle2
                      have d1 : decide (0 ≤ t) = true := decide_eq_true ht0
                      have d2 : decide (x < 0) = false := decide_eq_false (by omega)
                      have d3 : decide (t < x) = false := decide_eq_false (by omega)
                      clear hle2
                      as_aux_lemma =>
                        go_wp2
                        refine wp_region_quiet_below (by kernel_rfl) (by kernel_rfl) ?_
                        repeat (go_big_quiet_step (fail))
                        refine wpQuiet_nil ?_
                        rintro w' ⟨⟨d, os⟩, hw'⟩
                        have hb' : Below W.heap.size W w' := by rw [hw']; exact hbj.trans ((below_regrown wj d os).mono hbj.size)
                        clear hw'
                        go_wp2
                        go_meet
                        exact ⟨rfl, hb'⟩
                    · have d1 : decide (0 ≤ t) = false := decide_eq_false ht0
                      as_aux_lemma =>
                        go_wp2
                        refine wp_region_quiet_below (by kernel_rfl) (by kernel_rfl) ?_
                        repeat (go_big_quiet_step (fail))
                        refine wpQuiet_nil ?_
                        rintro w' ⟨⟨d, os⟩, hw'⟩
                        have hb' : Below W.heap.size W w' := by rw [hw']; exact hbj.trans ((below_regrown wj d os).mono hbj.size)
                        clear hw'
                        go_wp2
                        go_meet
                        exact ⟨rfl, hb'⟩
                  | false =>
                    clear qx
                    by_cases ht0 : 0 ≤ t
                    · have hle2 := Hshr.out.le i j hlti hltj (by rw [← HTD.out]; exact ht0)
                      rw [← HX.out, ← HTD.out] at hle2
                      have d1 : decide (0 ≤ t) = true := decide_eq_true ht0
                      have d2 : decide (x < 0) = false := decide_eq_false (by omega)
                      have d3 : decide (t < x) = false := decide_eq_false (by omega)
                      clear hle2
                      as_aux_lemma =>
                        go_wp2
                        refine wp_region_quiet_below (by kernel_rfl) (by kernel_rfl) ?_
                        repeat (go_big_quiet_step (fail))
                        refine wpQuiet_nil ?_
                        rintro w' ⟨⟨d, os⟩, hw'⟩
                        have hb' : Below W.heap.size W w' := by rw [hw']; exact hbj.trans ((below_regrown wj d os).mono hbj.size)
                        clear hw'
                        go_wp2
                        go_meet
                        exact ⟨rfl, hb'⟩
                    · have d1 : decide (0 ≤ t) = false := decide_eq_false ht0
                      as_aux_lemma =>
                        go_wp2
                        refine wp_region_quiet_below (by kernel_rfl) (by kernel_rfl) ?_
                        repeat (go_big_quiet_step (fail))
                        refine wpQuiet_nil ?_
                        rintro w' ⟨⟨d, os⟩, hw'⟩
                        have hb' : Below W.heap.size W w' := by rw [hw']; exact hbj.trans ((below_regrown wj d os).mono hbj.size)
                        clear hw'
                        go_wp2
                        go_meet
                        exact ⟨rfl, hb'⟩
                case rest =>
                obtain ⟨rfl, hbj2⟩ := hcut
                obtain ⟨wd, rfl⟩ : ∃ wd : World, wd = wc := ⟨_, rfl⟩
                clear e0 e1 e2 e3
                have cSi := cellB hbj2 HSi.out
                have cTi := cellB hbj2 HTi.out
                have cx := cellB hbj2 cx0
                have ct := cellB hbj2 ct0
                have e0 := fun d os => cell_regrown cSi d os
                have e1 := fun d os => cell_regrown cTi d os
                have e2 := fun d os => cell_regrown cx d os
                have e3 := fun d os => cell_regrown ct d os
                clear cSi cTi cx ct hbj
                have hc0 : cm0 (tabOf rs) (shortP (tabOf rs)) i j = (decide (i = j) || decide (x < 0) || (x == t)) := by unfold cm0; rw [← HX.out, ← HTD.out]
                have Hc0 := Lib.hid hc0
                obtain ⟨cm, hcm⟩ : ∃ cm, cm = cm0 (tabOf rs) (shortP (tabOf rs)) i j := ⟨_, rfl⟩
                have Hcm := Lib.hid hcm
                clear hc0 hcm
                go_upto_region 23 with fail
                go_cut [11] from 140 to 169 (fun s11 wx => s11 = .bool cm ∧ Below W.heap.size W wx)
                case first =>
                  by_cases hij : i = j
                  · have hb : ((i : Int) == (j : Int)) = true := by simp [hij]
                    have hcc : cm = true := by rw [Hcm.out, Hc0.out]; simp [hij]
                    clear hij
                    have Hcc := Lib.hid hcc
                    clear hcc
                    as_aux_lemma =>
                      go_wp2
                      refine wp_region_quiet_below (by kernel_rfl) (by kernel_rfl) ?_
                      repeat (go_big_quiet_step (fail))
                      refine wpQuiet_nil ?_
                      rintro w' ⟨⟨d, os⟩, hw'⟩
                      have hb' : Below W.heap.size W w' := by rw [hw']; exact hbj2.trans ((below_regrown wd d os).mono hbj2.size)
                      clear hw'
                      go_wp2
                      go_meet
                      exact ⟨congrArg Value.bool Hcc.out.symm, hb'⟩
                  · have hb : ((i : Int) == (j : Int)) = false := by simp; omega
                    by_cases hx0 : x < 0
                    · have d1 : decide (x < 0) = true := decide_eq_true hx0
                      have hcc : cm = true := by rw [Hcm.out, Hc0.out, d1]; simp
                      clear hij hx0
                      have Hcc := Lib.hid hcc
                      clear hcc
                      as_aux_lemma =>
                        go_wp2
                        refine wp_region_quiet_below (by kernel_rfl) (by kernel_rfl) ?_
                        repeat (go_big_quiet_step (fail))
                        refine wpQuiet_nil ?_
                        rintro w' ⟨⟨d, os⟩, hw'⟩
                        have hb' : Below W.heap.size W w' := by rw [hw']; exact hbj2.trans ((below_regrown wd d os).mono hbj2.size)
                        clear hw'
                        go_wp2
                        go_meet
                        exact ⟨congrArg Value.bool Hcc.out.symm, hb'⟩
                    · have d1 : decide (x < 0) = false := decide_eq_false hx0
                      have hcc : cm = (x == t) := by rw [Hcm.out, Hc0.out, d1]; simp [hij]
                      clear hij hx0
                      have Hcc := Lib.hid hcc
                      clear hcc
                      as_aux_lemma =>
                        go_wp2
                        refine wp_region_quiet_below (by kernel_rfl) (by kernel_rfl) ?_
                        repeat (go_big_quiet_step (fail))
                        refine wpQuiet_nil ?_
                        rintro w' ⟨⟨d, os⟩, hw'⟩
                        have hb' : Below W.heap.size W w' := by rw [hw']; exact hbj2.trans ((below_regrown wd d os).mono hbj2.size)
                        clear hw'
                        go_wp2
                        go_meet
                        exact ⟨congrArg Value.bool Hcc.out.symm, hb'⟩
                case rest =>
                obtain ⟨rfl, hbd⟩ := hcut
                clear e0 e1 e2 e3 hbj2
                go_wp2
                go_loopw [11, 12] (fun v y wr => ∃ k : Nat, y = .int .i64 k ∧ k ≤ n ∧ v = .bool (cmU (tabOf rs) (shortP (tabOf rs)) i j k) ∧ Below W.heap.size W wr) (fun _ y _ => n - (intOf y).toNat)
                case atStart => exact ⟨0, rfl, Nat.zero_le _, by rw [cmU_zero, ← Hcm.out], hbd⟩
                case round =>
                  clear hbd
                  obtain ⟨k, rfl, hk, rfl, hbk⟩ := hrel
                  obtain ⟨we, rfl⟩ : ∃ we : World, we = wr := ⟨_, rfl⟩
                  by_cases hltk : k < n
                  · have hltkI : (k : Int) < (n : Int) := by omega
                    obtain ⟨kb, ko, kc, cSk0, hkc1, hkc2, cSkj⟩ := HS.out k hltk
                    obtain ⟨lb, lo, lc, cTk0, hlc1, hlc2, cTkj⟩ := HT.out k hltk
                    obtain ⟨u, hud⟩ : ∃ u, u = gt (shortP (tabOf rs)) i k := ⟨_, rfl⟩
                    obtain ⟨v, hvd⟩ : ∃ v, v = gt (shortP (tabOf rs)) k j := ⟨_, rfl⟩
                    obtain ⟨q, hqd⟩ : ∃ q, q = gt (tabOf rs) k j := ⟨_, rfl⟩
                    have HU := Lib.hid hud
                    have HV := Lib.hid hvd
                    have HQ := Lib.hid hqd
                    have cu0 := HSij.out k hltk
                    have cv0 := cSkj j hltj
                    have cq0 := cTkj j hltj
                    rw [← hud] at cu0
                    rw [← hvd] at cv0
                    rw [← hqd] at cq0
                    have bu := Hshr.out.loS i k hlti hltk
                    have bu' := Hshr.out.hiS i k hlti hltk
                    have bv := Hshr.out.loS k j hltk hltj
                    have bv' := Hshr.out.hiS k j hltk hltj
                    have bq := Hshr.out.loT k j hltk hltj
                    have bq' := Hshr.out.hiT k j hltk hltj
                    rw [← hud] at bu bu'
                    rw [← hvd] at bv bv'
                    rw [← hqd] at bq bq'
                    have e0 := fun d os => cell_regrown (cellB hbk HSi.out) d os
                    have e2 := fun d os => cell_regrown (cellB hbk cx0) d os
                    have e4 := fun d os => cell_regrown (cellB hbk cSk0) d os
                    have e5 := fun d os => cell_regrown (cellB hbk cu0) d os
                    have e6 := fun d os => cell_regrown (cellB hbk cv0) d os
                    clear hud hvd hqd cSkj cTkj
                    go_upto_region 27 with fail
                    go_cut [227] from 175 to 227 (fun s227 wx => s227 = .bool false ∧ Below W.heap.size W wx)
                    case first =>
                      by_cases hu0 : 0 ≤ u
                      · have d1 : decide (0 ≤ u) = true := decide_eq_true hu0
                        by_cases hv0 : 0 ≤ v
                        · have d2 : decide (0 ≤ v) = true := decide_eq_true hv0
                          have htri := Hshr.out.tri i j k hlti hltj hltk (by rw [← HU.out]; exact hu0) (by rw [← HV.out]; exact hv0)
                          rw [← HX.out, ← HU.out, ← HV.out] at htri
                          have d3 : decide (x < 0) = false := decide_eq_false (by omega)
                          have d4 : decide (u + v < x) = false := decide_eq_false (by omega)
                          clear htri hu0 hv0
                          as_aux_lemma =>
                            go_wp2
                            refine wp_region_quiet_below (by kernel_rfl) (by kernel_rfl) ?_
                            repeat (go_big_quiet_step (fail))
                            refine wpQuiet_nil ?_
                            rintro w' ⟨⟨d, os⟩, hw'⟩
                            have hb' : Below W.heap.size W w' := by rw [hw']; exact hbk.trans ((below_regrown we d os).mono hbk.size)
                            clear hw'
                            go_wp2
                            go_meet
                            exact ⟨rfl, hb'⟩
                        · have d2 : decide (0 ≤ v) = false := decide_eq_false hv0
                          clear hu0 hv0
                          as_aux_lemma =>
                            go_wp2
                            refine wp_region_quiet_below (by kernel_rfl) (by kernel_rfl) ?_
                            repeat (go_big_quiet_step (fail))
                            refine wpQuiet_nil ?_
                            rintro w' ⟨⟨d, os⟩, hw'⟩
                            have hb' : Below W.heap.size W w' := by rw [hw']; exact hbk.trans ((below_regrown we d os).mono hbk.size)
                            clear hw'
                            go_wp2
                            go_meet
                            exact ⟨rfl, hb'⟩
                      · have d1 : decide (0 ≤ u) = false := decide_eq_false hu0
                        clear hu0
                        as_aux_lemma =>
                          go_wp2
                          refine wp_region_quiet_below (by kernel_rfl) (by kernel_rfl) ?_
                          repeat (go_big_quiet_step (fail))
                          refine wpQuiet_nil ?_
                          rintro w' ⟨⟨d, os⟩, hw'⟩
                          have hb' : Below W.heap.size W w' := by rw [hw']; exact hbk.trans ((below_regrown we d os).mono hbk.size)
                          clear hw'
                          go_wp2
                          go_meet
                          exact ⟨rfl, hb'⟩
                    case rest =>
                    obtain ⟨rfl, hbk2⟩ := hcut
                    obtain ⟨wf, rfl⟩ : ∃ wf : World, wf = wc := ⟨_, rfl⟩
                    clear e0 e2 e4 e5 e6 hbk bv bv'
                    have e0 := fun d os => cell_regrown (cellB hbk2 HSi.out) d os
                    have e2 := fun d os => cell_regrown (cellB hbk2 cx0) d os
                    have e4 := fun d os => cell_regrown (cellB hbk2 cTk0) d os
                    have e5 := fun d os => cell_regrown (cellB hbk2 cu0) d os
                    have e6 := fun d os => cell_regrown (cellB hbk2 cq0) d os
                    have hcs : cmU (tabOf rs) (shortP (tabOf rs)) i j (k + 1) = (cmU (tabOf rs) (shortP (tabOf rs)) i j k || (decide (k ≠ j) && decide (0 ≤ u) && decide (0 ≤ q) && (x == u + q))) := by rw [cmU_succ]; unfold cmS; rw [← HX.out, ← HU.out, ← HQ.out]
                    have Hcs := Lib.hid hcs
                    obtain ⟨ck, hck⟩ : ∃ ck, ck = cmU (tabOf rs) (shortP (tabOf rs)) i j k := ⟨_, rfl⟩
                    obtain ⟨cn, hcn⟩ : ∃ cn, cn = cmU (tabOf rs) (shortP (tabOf rs)) i j (k + 1) := ⟨_, rfl⟩
                    rw [← hck, ← hcn] at hcs
                    rw [← hck]
                    have Hcn := Lib.hid hcn
                    have Hcs := Lib.hid hcs
                    clear hcs hck hcn
                    go_upto_region 29 with fail
                    cases ck with
                    | true =>
                      have Hcc : Hid (cn = true) := by show _ = _; rw [Hcs.out]; rfl
                      as_aux_lemma =>
                        go_wp2
                        refine wp_region_quiet_below (by kernel_rfl) (by kernel_rfl) ?_
                        repeat (go_big_quiet_step (fail))
                        refine wpQuiet_nil ?_
                        rintro w' ⟨⟨d, os⟩, hw'⟩
                        have hb' : Below W.heap.size W w' := by rw [hw']; exact hbk2.trans ((below_regrown wf d os).mono hbk2.size)
                        clear hw'
                        go_wp2
                        go_roundw
                        case rel => exact ⟨k + 1, by go_num, by omega, by rw [← Hcn.out, Hcc.out], hb'⟩
                        case measure => simp [intOf]; omega
                    | false =>
                      by_cases hkj : k = j
                      · have hb : ((k : Int) != (j : Int)) = false := by simp [hkj]
                        have Hcc : Hid (cn = false) := by show _ = _; rw [Hcs.out]; simp [hkj]
                        clear hkj
                        as_aux_lemma =>
                          go_wp2
                          refine wp_region_quiet_below (by kernel_rfl) (by kernel_rfl) ?_
                          repeat (go_big_quiet_step (fail))
                          refine wpQuiet_nil ?_
                          rintro w' ⟨⟨d, os⟩, hw'⟩
                          have hb' : Below W.heap.size W w' := by rw [hw']; exact hbk2.trans ((below_regrown wf d os).mono hbk2.size)
                          clear hw'
                          go_wp2
                          go_roundw
                          case rel => exact ⟨k + 1, by go_num, by omega, by rw [← Hcn.out, Hcc.out], hb'⟩
                          case measure => simp [intOf]; omega
                      · have hb : ((k : Int) != (j : Int)) = true := by simp; omega
                        by_cases hu0 : 0 ≤ u
                        · have d1 : decide (0 ≤ u) = true := decide_eq_true hu0
                          by_cases hq0 : 0 ≤ q
                          · have d2 : decide (0 ≤ q) = true := decide_eq_true hq0
                            have Hcc : Hid (cn = (x == u + q)) := by show _ = _; rw [Hcs.out, d1, d2]; simp [hkj]
                            clear hkj hu0 hq0
                            as_aux_lemma =>
                              go_wp2
                              refine wp_region_quiet_below (by kernel_rfl) (by kernel_rfl) ?_
                              repeat (go_big_quiet_step (fail))
                              refine wpQuiet_nil ?_
                              rintro w' ⟨⟨d, os⟩, hw'⟩
                              have hb' : Below W.heap.size W w' := by rw [hw']; exact hbk2.trans ((below_regrown wf d os).mono hbk2.size)
                              clear hw'
                              go_wp2
                              go_roundw
                              case rel => exact ⟨k + 1, by go_num, by omega, by rw [← Hcn.out, Hcc.out], hb'⟩
                              case measure => simp [intOf]; omega
                          · have d2 : decide (0 ≤ q) = false := decide_eq_false hq0
                            have Hcc : Hid (cn = false) := by show _ = _; rw [Hcs.out, d2]; simp
                            clear hkj hu0 hq0
                            as_aux_lemma =>
                              go_wp2
                              refine wp_region_quiet_below (by kernel_rfl) (by kernel_rfl) ?_
                              repeat (go_big_quiet_step (fail))
                              refine wpQuiet_nil ?_
                              rintro w' ⟨⟨d, os⟩, hw'⟩
                              have hb' : Below W.heap.size W w' := by rw [hw']; exact hbk2.trans ((below_regrown wf d os).mono hbk2.size)
                              clear hw'
                              go_wp2
                              go_roundw
                              case rel => exact ⟨k + 1, by go_num, by omega, by rw [← Hcn.out, Hcc.out], hb'⟩
                              case measure => simp [intOf]; omega
                        · have d1 : decide (0 ≤ u) = false := decide_eq_false hu0
                          have Hcc : Hid (cn = false) := by show _ = _; rw [Hcs.out, d1]; simp
                          clear hkj hu0
                          as_aux_lemma =>
                            go_wp2
                            refine wp_region_quiet_below (by kernel_rfl) (by kernel_rfl) ?_
                            repeat (go_big_quiet_step (fail))
                            refine wpQuiet_nil ?_
                            rintro w' ⟨⟨d, os⟩, hw'⟩
                            have hb' : Below W.heap.size W w' := by rw [hw']; exact hbk2.trans ((below_regrown wf d os).mono hbk2.size)
                            clear hw'
                            go_wp2
                            go_roundw
                            case rel => exact ⟨k + 1, by go_num, by omega, by rw [← Hcn.out, Hcc.out], hb'⟩
                            case measure => simp [intOf]; omega
                  · obtain rfl : n = k := by omega
                    have hltnk : ¬ (n : Int) < (n : Int) := by omega
                    have hall : cmU (tabOf rs) (shortP (tabOf rs)) i j n = true := cmU_all Hshr.out hlti hltj
                    rw [hall]
                    clear hall hltk
                    go_wp2
                    go_roundw
                    case rel => exact ⟨j + 1, by go_num, by omega, hbk⟩
                    case measure => simp [intOf]; omega
              · obtain rfl : n = j := by omega
                have hltnj : ¬ (n : Int) < (n : Int) := by omega
                clear hltj
                go_wp2
                go_roundw
                case rel => exact ⟨i + 1, by go_num, by omega, hbj⟩
                case measure => simp [intOf]; omega
          · obtain rfl : n = i := by omega
            have hltni : ¬ (n : Int) < (n : Int) := by omega
            clear hlti
            go_wp2_with fail
            refine (wakes32_any _).mono ?_
            rintro e w9 ⟨rfl, hb9⟩
            go_wp2
            go_ret
            have h1 := hBW.trans (hbi.mono hBW.size)
            exact ⟨rfl, h1.trans (hb9.mono h1.size)⟩

set_option maxRecDepth 100000 in
set_option maxHeartbeats 4000000 in
theorem tripsshort_any (a : Option Addr) (n c : Nat) (rs : List TRow) (w : World) (hx : SlT w a n c rs) :
    Calls Try.prog 6 #[.slice a n c] w fun e w' => e = .returned (.bool true) ∧ Below w.heap.size w w' := by
  have hmax := hx.sl.max
  have hle := hx.sl.le
  have Hl := Lib.hid hx.tlen
  have Hx := Lib.hid hx; clear hx
  by_cases hg : greatT (tabOf rs) = true
  · have Hg := Lib.hid hg
    clear hg
    go_enter Try.func6, Try.ntmps6
    go_wp2_with (first
      | (go_at_call 35; refine (great_any a n c rs _ Hx.out).mono ?_; rw [Hg.out]; rintro e w1 ⟨rfl, hb1⟩)
      | (go_at_call 36; refine (wakes32_any _).mono ?_; rintro e w2 ⟨rfl, hb2⟩))
    go_ret
    exact ⟨rfl, hb1.trans (hb2.mono hb1.size)⟩
  · have Hg : Hid (greatT (tabOf rs) = false) := by show _ = _; simpa using hg
    clear hg
    by_cases hm : mayT (tabOf rs) = true
    · exact tripsshort_yes a n c rs w Hx.out Hg.out hm
    · have Hm : Hid (mayT (tabOf rs) = false) := by show _ = _; simpa using hm
      have Hs : Hid (shT (tabOf rs) = []) := by show _ = _; unfold shT; rw [if_neg hm]
      have He : Hid (trE (tabOf rs) = 2) := by show _ = _; unfold trE; rw [if_neg hm]
      clear hm
      go_enter Try.func6, Try.ntmps6
      go_wp2_with (first
        | (go_at_call 35; refine (great_any a n c rs _ Hx.out).mono ?_; rw [Hg.out]; rintro e w1 ⟨rfl, hb1⟩)
        | (go_at_call 37; refine (short_any a n c rs _ (Hx.out.below hb1 (Nat.le_refl _))).mono ?_; rintro e w2 ⟨v2, ms2, rfl, hmat2, hT2, hb2⟩; rw [He.out]; rw [Hs.out] at hT2; obtain ⟨a2, c2, rs2, rfl, hx2, ht2⟩ := hmat2.tab hT2; have hb12 := hb1.trans (hb2.mono hb1.size); clear hmat2 hT2 hx2 ht2 hb2 hb1)
        | (go_at_call 38; refine (may_tab a n c rs _ (Hx.out.below hb12 (Nat.le_refl _))).mono ?_; rw [Hm.out]; rintro e w3 ⟨rfl, hb3⟩)
        | (go_at_call 36; refine (wakes32_any _).mono ?_; rintro e w4 ⟨rfl, hb4⟩))
      go_ret
      have hb := hb12.trans (hb3.mono hb12.size)
      exact ⟨rfl, hb.trans (hb4.mono hb.size)⟩

end Go.Proofs.Ytilhmlapbifbbaa
