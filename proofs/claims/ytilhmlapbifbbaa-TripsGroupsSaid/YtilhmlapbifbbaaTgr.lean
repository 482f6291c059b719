/- Walks: the law TripsGroups. -/
import Derived.Test.YtilhmlapbifbbaaRsh
import Derived.Test.YtilhmlapbifbbaaWak
import Derived.Test.YtilhmlapbifbbaaTgrP
namespace Go.Proofs.Ytilhmlapbifbbaa
open Go.RowKit Go.Sort

/-- A table, row by row, whatever the rows' lengths. -/
theorem SlT.at1 {w : World} {a : Option Addr} {n c : Nat} {rs : List TRow} (h : SlT w a n c rs) (hn : 0 < n) : ∃ b off, a = some ⟨b, off, none⟩ ∧ ∀ i row, (tabOf rs)[i]? = some row → ∃ ra rc, w.cell? ⟨b, off + i, none⟩ = some (.slice ra row.length rc) ∧ row.length ≤ rc ∧ rc ≤ 9223372036854775807 ∧ (0 < row.length → ∃ rb ro, ra = some ⟨rb, ro, none⟩ ∧ ∀ k x, row[k]? = some x → w.cell? ⟨rb, ro + k, none⟩ = some (.int .i64 x)) := by
  obtain ⟨b, off, _, rfl, _⟩ := h.row hn
  refine ⟨b, off, rfl, fun i row hi => ?_⟩
  have hil : i < n := by have := (List.getElem?_eq_some_iff.1 hi).1; rwa [h.tlen] at this
  obtain ⟨b', off', r, e, hr, hc, hs, ht⟩ := h.row hil
  simp only [Option.some.injEq, Addr.mk.injEq, and_true] at e
  obtain ⟨rfl, rfl⟩ := e
  have hrow : row = r.xs := by rw [← ht, List.getD_eq_getElem?_getD, hi]; rfl
  have hrn := hs.len
  rw [← hrow] at hrn hs
  have hle := hs.le
  have hmx := hs.max
  rw [← hrn] at hc hle hs
  refine ⟨r.a, r.c, hc, hle, hmx, fun hp => ?_⟩
  obtain ⟨rb, ro, hra, hcell⟩ := hs.at0 hp
  refine ⟨rb, ro, hra, fun k x hx => ?_⟩
  have := hcell k (List.getElem?_eq_some_iff.1 hx).1
  rw [this, List.getD_eq_getElem?_getD, hx]
  rfl
theorem MRowAt.of_made {B : Nat} {w : World} {g n c : Nat} {xs : List Int} (h : w.ownsRow B 3 1 (.slice (some ⟨g, 0, none⟩) n c) n (xs.map (Value.int .i64))) (hl : xs.length = n) : MRowAt B w ⟨g, c, xs⟩ := by
  rcases h.2 with ⟨h0, _⟩ | ⟨g', cap, cur, e, hB, hg, h1, h2, h3, h4⟩
  · cases h0
  · cases e
    subst hl
    exact ⟨hB, ⟨cur, hg, by simpa using h3, by simpa using h4⟩, h1, h2⟩
theorem MRowAt.below {B B2 : Nat} {w w' : World} {m : MRow} (h : MRowAt B w m) (hb : Below B2 w w') (hB : w.heap.size ≤ B2) : MRowAt B w' m := h.kept (hb.block m.g (Nat.lt_of_lt_of_le h.lt hB))
theorem made_int (n : Nat) : (madeCells #[Value.int .i64 0] (n * 1)).toList = (List.replicate n (0 : Int)).map (Value.int .i64) := by
  unfold madeCells
  rw [Array.toList_map, Array.toList_range, Nat.mul_one, List.map_replicate]
  apply List.ext_getElem
  · simp
  · intro i h1 h2
    simp [Nat.mod_one]
theorem natI_at {l : List Nat} {k p : Nat} (h : l[k]? = some p) : (natI l)[k]? = some (p : Int) := by simp [natI, h]

set_option maxRecDepth 100000 in
set_option maxHeartbeats 20000000 in
theorem tripsgroups_yes (a : Option Addr) (n c : Nat) (rs : List TRow) (w : World) (hx : SlT w a n c rs) (hg : greatT (tabOf rs) = false) (hm : mayT (tabOf rs) = true) :
    Calls Try.prog 7 #[.slice a n c] w fun e w' => e = .returned (.bool true) ∧ Below w.heap.size w w' := by
  have hmax := hx.sl.max
  have hle := hx.sl.le
  have hl := hx.tlen
  have Hx := Lib.hid hx
  have Hg := Lib.hid hg
  have Hm := Lib.hid hm
  have hshr := shr_of hm
  rw [hl] at hshr
  have hn12 := hshr.n12
  have Hshr := Lib.hid hshr
  have Hs : Hid (shT (tabOf rs) = shortP (tabOf rs)) := by show _ = _; unfold shT; rw [if_pos hm]
  have He : Hid (trE (tabOf rs) = 0) := by show _ = _; unfold trE; rw [if_pos hm]
  have Hge : Hid (groE (tabOf rs) = 0) := by show _ = _; unfold groE; rw [if_pos hm]
  have Hsl : Hid ((shortP (tabOf rs)).length = n) := hshr.sqS.1
  obtain ⟨f, hf⟩ : ∃ f, f = withF n (shortP (tabOf rs)) := ⟨_, rfl⟩
  have HG : Hid (Grp n f (groP (tabOf rs))) := by
    show Grp _ _ _
    unfold groP
    rw [if_pos hm, hl, ← hf]
    exact grp_of n f
  have Hrq : Hid (∀ i j, i < n → j < n → reqv f i j = (decide (0 ≤ gt (shortP (tabOf rs)) i j) && decide (0 ≤ gt (shortP (tabOf rs)) j i))) := by
    intro i j hi hj
    rw [hf, ← hl, reqv_with hm (by rw [hl]; exact hi) (by rw [hl]; exact hj), wth_dec hshr hi hj]
  obtain ⟨G, hGd⟩ : ∃ G, G = groP (tabOf rs) := ⟨_, rfl⟩
  rw [← hGd] at HG
  have HGd := Lib.hid hGd
  have hGS : mayT (shortP (tabOf rs)) = true → groP (shortP (tabOf rs)) = G := fun h => by rw [gro_short hm h, hGd]
  have HGS := Lib.hid hGS
  have hGl : G.length ≤ n := by
    rw [hGd]
    unfold groP grpU
    rw [if_pos hm, hl, List.length_map]
    exact Nat.le_trans (List.length_filter_le _ _) (by simp)
  clear hm hg hx hl hshr hf hGd hGS
  go_enter Try.func7, Try.ntmps7
  go_wp2_with fail
  refine (great_any a n c rs _ Hx.out).mono ?_
  rw [Hg.out]
  rintro e w1 ⟨rfl, hb1⟩
  go_wp2_with fail
  refine (groups_any a n c rs _ (Hx.out.below hb1 (Nat.le_refl _))).mono ?_
  rintro e w2 ⟨v3, msg, rfl, hmatg, hTg, hb2⟩
  rw [Hge.out]
  rw [← HGd.out] at hTg
  obtain ⟨ag, cg, gs, rfl, hgs2, htg⟩ := hmatg.tab hTg
  rw [List.length_map] at hgs2 ⊢
  have hcg := hgs2.sl.le
  have hcg2 := hgs2.sl.max
  have hb12 := hb1.trans (hb2.mono hb1.size)
  clear hmatg hTg hb2 hb1
  go_wp2_with fail
  refine (short_any a n c rs _ (Hx.out.below hb12 (Nat.le_refl _))).mono ?_
  rintro e w3 ⟨v5, mss, rfl, hmats, hTs, hb3⟩
  rw [He.out]
  rw [Hs.out] at hTs
  obtain ⟨sa, cs, ss, rfl, hss3, hts⟩ := hmats.tab hTs
  rw [Hsl.out] at hss3 ⊢
  have hcs := hss3.sl.le
  have hcs2 := hss3.sl.max
  have hgs3 := hgs2.below hb3 (Nat.le_refl _)
  have hb13 := hb12.trans (hb3.mono hb12.size)
  clear hmats hTs hb12 hb3 hgs2
  go_wp2_with fail
  refine (groups_any sa n cs ss _ hss3).mono ?_
  rintro e V ⟨v7, msh, rfl, hmath, hTh, hb4⟩
  rw [hts] at hTh ⊢
  obtain ⟨ah, ch, hs, rfl, hhV, hth⟩ := hmath.tab hTh
  have hhl : ((groP (shortP (tabOf rs))).map natI).length ≤ ch := hhV.sl.le
  have hhm := hhV.sl.max
  obtain ⟨nh, hnh⟩ : ∃ nh, nh = ((groP (shortP (tabOf rs))).map natI).length := ⟨_, rfl⟩
  rw [← hnh] at hhV hhl ⊢
  obtain ⟨E3, hE3⟩ : ∃ E3, E3 = groE (shortP (tabOf rs)) := ⟨_, rfl⟩
  rw [← hE3]
  have HE3 := Lib.hid hE3
  have hBV := hb13.trans (hb4.mono hb13.size)
  have HxV := Lib.hid (Hx.out.below hBV (Nat.le_refl _))
  have HsV := Lib.hid (hss3.below hb4 (Nat.le_refl _))
  have HgV := Lib.hid (hgs3.below hb4 (Nat.le_refl _))
  have HhV := Lib.hid hhV
  have Hts := Lib.hid hts
  have Htg := Lib.hid htg
  have Hth := Lib.hid hth
  clear hmath hTh hnh hE3 hhV hts htg hth hgs3 hss3 hb4 hb13 Hx
  go_upto_region 10 with fail
  go_cut [6, 38, 40, 42, 61] from 43 to 61 (fun s6 s38 s40 s42 s61 wx => s61 = .bool false ∧ Below V.heap.size V wx)
  case first =>
    by_cases hmS : mayT (shortP (tabOf rs)) = true
    · have He3 : E3 = 0 := by rw [HE3.out]; unfold groE; rw [if_pos hmS]
      have HmS := Lib.hid hmS
      have Hr3 : Hid (tabOf gs = tabOf hs) := by
        show _ = _
        rw [Hth.out, Htg.out, HGS.out hmS]
      clear hmS HE3
      subst He3
      go_wp2_with fail
      refine (refmay_tab sa n cs ss _ HsV.out).mono ?_
      rw [Hts.out, HmS.out]
      rintro e w4 ⟨rfl, hb4⟩
      go_wp2_with fail
      refine (rows_any _ _ _ _ _ _ gs hs _ (HgV.out.below hb4 (Nat.le_refl _)) (HhV.out.below hb4 (Nat.le_refl _))).mono ?_
      rw [show decide (tabOf gs = tabOf hs) = true by rw [Hr3.out]; simp]
      rintro e w5 ⟨rfl, hb5⟩
      go_wp2
      go_meet
      exact ⟨rfl, hb4.trans (hb5.mono hb4.size)⟩
    · have HmS : Hid (mayT (shortP (tabOf rs)) = false) := by show _ = _; simpa using hmS
      clear hmS HE3
      go_wp2_with fail
      refine (refmay_tab sa n cs ss _ HsV.out).mono ?_
      rw [Hts.out, HmS.out]
      rintro e w4 ⟨rfl, hb4⟩
      go_wp2
      go_meet
      exact ⟨rfl, hb4⟩
  case rest =>
    obtain ⟨rfl, hbc⟩ := hcut
    clear HE3 hhl hhm HhV Hth Hge He Hs Hg
    obtain ⟨i0, hi, hz0, hz1, hz2⟩ := info_parts info_i64'
    go_wp2_with (at_make; refine wpList_make_full _ rfl _ _ 36 rfl V.heap.size 3 i0 (.int .i64 0) 1 Try.underlying36 hi hz0 hz1 .i64 .i64 (n : Int) (n : Int) n rfl rfl rfl rfl (by rw [hz2]; omega) (by unfold maxLen; omega) hbc.size ?_; intro w5 hown5 hgrow5)
    have hA5 : MRowAt V.heap.size w5 ⟨wc.heap.size, n, List.replicate n 0⟩ := MRowAt.of_made (by rw [← made_int]; exact hown5) (by simp)
    have hb5 : Below V.heap.size V w5 := hbc.grown hgrow5 hbc.size (by simp)
    have hVc := hbc.size
    obtain ⟨gA, hgA⟩ : ∃ gA, gA = wc.heap.size := ⟨_, rfl⟩
    rw [← hgA] at hA5 ⊢
    clear hown5 hgrow5 hbc hgA
    go_wp2
    go_loopw [9] (fun y wr => ∃ (i : Nat) (A : List Int), y = .int .i64 i ∧ i ≤ G.length ∧ MRowAt V.heap.size wr ⟨gA, n, A⟩ ∧ Hid (AtL n G i 0 A) ∧ Below V.heap.size V wr) (fun y _ => G.length - (intOf y).toNat)
    case atStart => exact ⟨0, _, rfl, Nat.zero_le _, hA5, AtL.zero n G, hb5⟩
    case round =>
      clear hA5 hb5
      obtain ⟨i, A, rfl, hi', hA, HA, hbr⟩ := hrel
      by_cases hlt : i < G.length
      · have hltI : (i : Int) < (G.length : Int) := by omega
        obtain ⟨R, hR⟩ : ∃ R, G[i]? = some R := ⟨_, List.getElem?_eq_getElem hlt⟩
        have hRp := HG.out.ne i R hR
        have hgt := HgV.out.at1 (by omega)
        obtain ⟨gb, go_, rfl, hrow⟩ := hgt
        obtain ⟨ra, rc, cR0, hrc1, hrc2, hel⟩ := hrow i (natI R) (by rw [Htg.out, List.getElem?_map, hR]; rfl)
        rw [natI_len] at cR0 hrc1 hel
        obtain ⟨rb, ro, rfl, hel2⟩ := hel hRp
        have HR := Lib.hid hR
        have Hel := Lib.hid hel2
        have HcR := Lib.hid cR0
        clear hrow hR hel hel2 cR0
        go_wp2
        go_loopw [10] (fun y wr => ∃ (k : Nat) (A : List Int), y = .int .i64 k ∧ k ≤ R.length ∧ MRowAt V.heap.size wr ⟨gA, n, A⟩ ∧ Hid (AtL n G i k A) ∧ Below V.heap.size V wr) (fun y _ => R.length - (intOf y).toNat)
        case atStart => exact ⟨0, _, rfl, Nat.zero_le _, hA, HA, hbr⟩
        case round =>
          clear hA HA hbr
          obtain ⟨k, A2, rfl, hk, hA, HA, hbr⟩ := hrel
          have cR := cellB' hbr HcR.out
          by_cases hltk : k < R.length
          · have hltkI : (k : Int) < (R.length : Int) := by omega
            obtain ⟨p, hp⟩ : ∃ p, R[k]? = some p := ⟨_, List.getElem?_eq_getElem hltk⟩
            have hpt : ptAt G i k = some p := by unfold ptAt; rw [HR.out]; exact hp
            have hpn := HG.out.lt i k p hpt
            have hpnI : (p : Int) < (n : Int) := by omega
            have hpnJ : decide ((n : Int) ≤ (p : Int)) = false := decide_eq_false (by omega)
            have cp := cellB' hbr (Hel.out k (p : Int) (natI_at hp))
            have hAl := HA.out.len
            obtain ⟨cA, fA⟩ := hA.cell (j := p) (x := 0) (by
              show A2[p]? = some 0
              have h1 := HA.out.here hpt
              rw [List.getD_eq_getElem?_getD, List.getElem?_eq_getElem (by omega)] at h1
              rw [List.getElem?_eq_getElem (by omega), ← h1]
              rfl)
            simp only at cA fA
            have Hstep : Hid (AtL n G i (k + 1) (A2.set p ((i : Int) + 1))) := HA.out.step HG.out hpt
            have hAs : MRowAt V.heap.size (wr.setCell ⟨gA, p, none⟩ (.int .i64 ((i : Int) + 1))) ⟨gA, n, A2.set p ((i : Int) + 1)⟩ := hA.set p ((i : Int) + 1)
            have hbs : Below V.heap.size V (wr.setCell ⟨gA, p, none⟩ (.int .i64 ((i : Int) + 1))) := hbr.setCell (p := ⟨gA, p, none⟩) hA.lo _
            by_cases hk0 : k = 0
            · have d0 : decide ((0 : Int) < (k : Int)) = false := decide_eq_false (by omega)
              have d0' : decide (0 < k) = false := decide_eq_false (by omega)
              have d0'' : ¬ (0 < k) := by omega
              clear hA HA hbr hp hpt hAl hk0
              go_wp2
              go_roundw
              case rel => exact ⟨k + 1, _, by go_num, by omega, hAs, Hstep, hbs⟩
              case measure => simp [intOf]; omega
            · obtain ⟨k, rfl⟩ : ∃ k', k = k' + 1 := ⟨k - 1, by omega⟩
              obtain ⟨q, hq⟩ : ∃ q, R[k]? = some q := ⟨_, List.getElem?_eq_getElem (by omega)⟩
              have hqt : ptAt G i k = some q := by unfold ptAt; rw [HR.out]; exact hq
              have hqp := HG.out.mono i k q p hqt hpt
              have hqpJ : decide ((p : Int) ≤ (q : Int)) = false := decide_eq_false (by omega)
              have cq := cellB' hbr (Hel.out k (q : Int) (natI_at hq))
              clear hA HA hbr hp hpt hAl hq hqt
              go_wp2
              go_roundw
              case rel => exact ⟨k + 1 + 1, _, by go_num, by omega, hAs, Hstep, hbs⟩
              case measure => simp [intOf]; omega
          · obtain rfl : k = R.length := by omega
            have hltn : ¬ (R.length : Int) < (R.length : Int) := by omega
            have Hnext : Hid (AtL n G (i + 1) 0 A2) := HA.out.next (fun k' p h => by
              unfold ptAt at h
              rw [HR.out] at h
              exact (List.getElem?_eq_some_iff.1 (show R[k']? = some p from h)).1)
            clear hltk
            go_wp2
            go_roundw
            case rel => exact ⟨i + 1, A2, by go_num, by omega, hA, Hnext, hbr⟩
            case measure => simp [intOf]; omega
      · obtain rfl : G.length = i := by omega
        have hltn : ¬ (G.length : Int) < (G.length : Int) := by omega
        obtain ⟨W, rfl⟩ : ∃ W : World, W = wr := ⟨_, rfl⟩
        have HsW := Lib.hid (HsV.out.below hbr (Nat.le_refl _))
        have hBW := hBV.trans (hbr.mono hBV.size)
        have HAW := Lib.hid hA
        clear hA hbr hlt
        go_wp2
        go_loopw [12] (fun i wr => ∃ k : Nat, i = .int .i64 k ∧ k ≤ n ∧ Below W.heap.size W wr) (fun i _ => n - (intOf i).toNat)
        case atStart => exact ⟨0, rfl, Nat.zero_le _, Below.refl _ _⟩
        case round =>
          obtain ⟨i, rfl, hi2, hbi⟩ := hrel
          by_cases hlti : i < n
          · have hltiI : (i : Int) < (n : Int) := by omega
            obtain ⟨b2, o2, rfl, hS⟩ := HsW.out.at2' (by rw [Hts.out]; exact Hshr.out.sqS) (by omega)
            rw [Hts.out] at hS
            obtain ⟨sb, so, sc, cSi, hsc1, hsc2, cSij⟩ := hS i hlti
            have HS := Lib.hid hS
            have HSij := Lib.hid cSij
            have HSi := Lib.hid cSi
            clear hS cSi cSij
            go_wp2
            go_loopw [13] (fun i wr => ∃ k : Nat, i = .int .i64 k ∧ k ≤ n ∧ Below W.heap.size W wr) (fun i _ => n - (intOf i).toNat)
            case atStart => exact ⟨0, rfl, Nat.zero_le _, hbi⟩
            case round =>
              clear hbi
              obtain ⟨j, rfl, hj, hbj⟩ := hrel
              obtain ⟨wj, rfl⟩ : ∃ wj : World, wj = wr := ⟨_, rfl⟩
              by_cases hltj : j < n
              · have hltjI : (j : Int) < (n : Int) := by omega
                obtain ⟨x, hxd⟩ : ∃ x, x = gt (shortP (tabOf rs)) i j := ⟨_, rfl⟩
                obtain ⟨y, hyd⟩ : ∃ y, y = gt (shortP (tabOf rs)) j i := ⟨_, rfl⟩
                obtain ⟨jb, jo, jc, cSj0, hjc1, hjc2, cSji⟩ := HS.out j hltj
                have cx0 := HSij.out j hltj
                have cy0 := cSji i hlti
                rw [← hxd] at cx0
                rw [← hyd] at cy0
                have hAl := HA.out.len
                obtain ⟨hne, heq⟩ := HA.out.done HG.out (Nat.le_refl _) hlti hltj
                rw [Hrq.out i j hlti hltj, ← hxd, ← hyd] at heq
                obtain ⟨α, hα⟩ : ∃ α, A[i]? = some α := ⟨_, List.getElem?_eq_getElem (by omega)⟩
                obtain ⟨β, hβ⟩ : ∃ β, A[j]? = some β := ⟨_, List.getElem?_eq_getElem (by omega)⟩
                have eα : A.getD i 0 = α := by rw [List.getD_eq_getElem?_getD, hα]; rfl
                have eβ : A.getD j 0 = β := by rw [List.getD_eq_getElem?_getD, hβ]; rfl
                rw [eα] at hne heq
                rw [eβ] at heq
                have cα0 := (HAW.out.cell (j := i) (x := α) hα).1
                have cβ0 := (HAW.out.cell (j := j) (x := β) hβ).1
                simp only at cα0 cβ0
                have e0 := fun d os => cell_regrown (cellB' hbj HSi.out) d os
                have e1 := fun d os => cell_regrown (cellB' hbj cSj0) d os
                have e2 := fun d os => cell_regrown (cellB' hbj cx0) d os
                have e3 := fun d os => cell_regrown (cellB' hbj cy0) d os
                have e4 := fun d os => cell_regrown (cellB' hbj cα0) d os
                have e5 := fun d os => cell_regrown (cellB' hbj cβ0) d os
                have q0 : (α == 0) = false := by simpa using hne
                clear hxd hyd cSji hα hβ eα eβ hne hAl
                go_upto_region 29 with fail
                go_cut [189] from 135 to 189 (fun s189 wx => s189 = .bool false ∧ Below W.heap.size W wx)
                case first =>
                  by_cases hx0 : 0 ≤ x
                  · have d1 : decide (0 ≤ x) = true := decide_eq_true hx0
                    by_cases hy0 : 0 ≤ y
                    · have d2 : decide (0 ≤ y) = true := decide_eq_true hy0
                      have q1 : (α == β) = true := by rw [heq, d1, d2]; rfl
                      clear heq hx0 hy0
                      as_aux_lemma =>
                        go_wp2
                        refine wp_region_quiet_below (by kernel_rfl) (by kernel_rfl) ?_
                        repeat (go_big_quiet_step (fail))
                        refine wpQuiet_nil ?_
                        rintro w' ⟨⟨d, os⟩, hw'⟩
                        have hb' : Below W.heap.size W w' := by rw [hw']; exact hbj.trans ((below_regrown wj d os).mono hbj.size)
                        clear hw'
                        go_wp2
                        go_meet
                        exact ⟨rfl, hb'⟩
                    · have d2 : decide (0 ≤ y) = false := decide_eq_false hy0
                      have q1 : (α == β) = false := by rw [heq, d1, d2]; rfl
                      clear heq hx0 hy0
                      as_aux_lemma =>
                        go_wp2
                        refine wp_region_quiet_below (by kernel_rfl) (by kernel_rfl) ?_
                        repeat (go_big_quiet_step (fail))
                        refine wpQuiet_nil ?_
                        rintro w' ⟨⟨d, os⟩, hw'⟩
                        have hb' : Below W.heap.size W w' := by rw [hw']; exact hbj.trans ((below_regrown wj d os).mono hbj.size)
                        clear hw'
                        go_wp2
                        go_meet
                        exact ⟨rfl, hb'⟩
                  · have d1 : decide (0 ≤ x) = false := decide_eq_false hx0
                    have q1 : (α == β) = false := by rw [heq, d1]; rfl
                    clear heq hx0
                    as_aux_lemma =>
                      go_wp2
                      refine wp_region_quiet_below (by kernel_rfl) (by kernel_rfl) ?_
                      repeat (go_big_quiet_step (fail))
                      refine wpQuiet_nil ?_
                      rintro w' ⟨⟨d, os⟩, hw'⟩
                      have hb' : Below W.heap.size W w' := by rw [hw']; exact hbj.trans ((below_regrown wj d os).mono hbj.size)
                      clear hw'
                      go_wp2
                      go_meet
                      exact ⟨rfl, hb'⟩
                case rest =>
                obtain ⟨rfl, hbk⟩ := hcut
                clear e0 e1 e2 e3 e4 e5 hbj
                go_wp2
                go_roundw
                case rel => exact ⟨j + 1, by go_num, by omega, hbk⟩
                case measure => simp [intOf]; omega
              · obtain rfl : n = j := by omega
                have hltnj : ¬ (n : Int) < (n : Int) := by omega
                clear hltj
                go_wp2
                go_roundw
                case rel => exact ⟨i + 1, by go_num, by omega, hbj⟩
                case measure => simp [intOf]; omega
          · obtain rfl : n = i := by omega
            have hltni : ¬ (n : Int) < (n : Int) := by omega
            clear hlti
            go_wp2_with fail
            refine (wakes32_any _).mono ?_
            rintro e w9 ⟨rfl, hb9⟩
            go_wp2
            go_ret
            have h1 := hBW.trans (hbi.mono hBW.size)
            exact ⟨rfl, h1.trans (hb9.mono h1.size)⟩

set_option maxRecDepth 100000 in
set_option maxHeartbeats 4000000 in
theorem tripsgroups_any (a : Option Addr) (n c : Nat) (rs : List TRow) (w : World) (hx : SlT w a n c rs) :
    Calls Try.prog 7 #[.slice a n c] w fun e w' => e = .returned (.bool true) ∧ Below w.heap.size w w' := by
  have hmax := hx.sl.max
  have hle := hx.sl.le
  have Hl := Lib.hid hx.tlen
  have Hx := Lib.hid hx; clear hx
  by_cases hg : greatT (tabOf rs) = true
  · have Hg := Lib.hid hg
    clear hg
    go_enter Try.func7, Try.ntmps7
    go_wp2_with (first
      | (go_at_call 35; refine (great_any a n c rs _ Hx.out).mono ?_; rw [Hg.out]; rintro e w1 ⟨rfl, hb1⟩)
      | (go_at_call 36; refine (wakes32_any _).mono ?_; rintro e w2 ⟨rfl, hb2⟩))
    go_ret
    exact ⟨rfl, hb1.trans (hb2.mono hb1.size)⟩
  · have Hg : Hid (greatT (tabOf rs) = false) := by show _ = _; simpa using hg
    clear hg
    by_cases hm : mayT (tabOf rs) = true
    · exact tripsgroups_yes a n c rs w Hx.out Hg.out hm
    · have Hm : Hid (mayT (tabOf rs) = false) := by show _ = _; simpa using hm
      have He : Hid (trE (tabOf rs) = 2) := by show _ = _; unfold trE; rw [if_neg hm]
      have Hge : Hid (groE (tabOf rs) = 2) := by show _ = _; unfold groE; rw [if_neg hm]
      have Hgp : Hid ((groP (tabOf rs)).map natI = []) := by show _ = _; unfold groP; rw [if_neg hm]; rfl
      have Hs : Hid (shT (tabOf rs) = []) := by show _ = _; unfold shT; rw [if_neg hm]
      clear hm
      go_enter Try.func7, Try.ntmps7
      go_wp2_with fail
      refine (great_any a n c rs _ Hx.out).mono ?_
      rw [Hg.out]
      rintro e w1 ⟨rfl, hb1⟩
      go_wp2_with fail
      refine (groups_any a n c rs _ (Hx.out.below hb1 (Nat.le_refl _))).mono ?_
      rintro e w2 ⟨v3, msg, rfl, hmatg, hTg, hb2⟩
      rw [Hge.out]
      rw [Hgp.out] at hTg
      obtain ⟨ag, cg, gs, rfl, hgs2, htg⟩ := hmatg.tab hTg
      have hb12 := hb1.trans (hb2.mono hb1.size)
      clear hmatg hTg hb2 hb1 hgs2 htg
      go_wp2_with fail
      refine (short_any a n c rs _ (Hx.out.below hb12 (Nat.le_refl _))).mono ?_
      rintro e w3 ⟨v5, mss, rfl, hmats, hTs, hb3⟩
      rw [He.out]
      rw [Hs.out] at hTs
      obtain ⟨sa, cs, ss, rfl, hss3, hts⟩ := hmats.tab hTs
      have hb13 := hb12.trans (hb3.mono hb12.size)
      clear hmats hTs hss3 hts hb12 hb3
      go_wp2_with fail
      refine (wakes32_any _).mono ?_
      rintro e w9 ⟨rfl, hb9⟩
      go_wp2
      go_ret
      exact ⟨rfl, hb13.trans (hb9.mono hb13.size)⟩

end Go.Proofs.Ytilhmlapbifbbaa
