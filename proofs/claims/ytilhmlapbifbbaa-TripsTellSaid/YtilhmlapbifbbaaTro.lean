/- Walks: the law TripsRound. -/
import Derived.Test.YtilhmlapbifbbaaRsh
import Derived.Test.YtilhmlapbifbbaaWak
import Derived.Test.YtilhmlapbifbbaaTroP
namespace Go.Proofs.Ytilhmlapbifbbaa
open Go.RowKit Go.Sort

/-- A row of truths of one's own: its block, what stands in it. -/
structure BRowAt (B : Nat) (w : World) (g n : Nat) (xs : List Bool) : Prop where
  lo : B ≤ g
  blk : ∃ cur : Array Value, w.heap[g]? = some (.cells cur 4 (0, 0)) ∧ cur.toList.take n = xs.map Value.bool
  len : xs.length = n
section
variable {B g n : Nat} {w : World} {xs : List Bool}
theorem BRowAt.lt (h : BRowAt B w g n xs) : g < w.heap.size := by
  obtain ⟨cur, h1, _⟩ := h.blk
  exact (Array.getElem?_eq_some_iff.1 h1).1
theorem BRowAt.kept {w' : World} (h : BRowAt B w g n xs) (hk : w'.heap[g]? = w.heap[g]?) : BRowAt B w' g n xs := by
  obtain ⟨cur, h1, h2⟩ := h.blk
  exact ⟨h.lo, ⟨cur, hk.trans h1, h2⟩, h.len⟩
theorem BRowAt.below {B2 : Nat} {w' : World} (h : BRowAt B w g n xs) (hb : Below B2 w w') (hB : w.heap.size ≤ B2) : BRowAt B w' g n xs := h.kept (hb.block g (Nat.lt_of_lt_of_le h.lt hB))
theorem BRowAt.cell (h : BRowAt B w g n xs) {j : Nat} {x : Bool} (hx : xs[j]? = some x) : w.cell? ⟨g, j, none⟩ = some (.bool x) ∧ w.frozen? ⟨g, j, none⟩ = false := by
  obtain ⟨cur, h1, h3⟩ := h.blk
  have hj := (List.getElem?_eq_some_iff.1 hx).1
  rw [h.len] at hj
  have h4 : cur[j]? = some (.bool x) := by
    have := congrArg (fun l => l[j]?) h3
    simp only [List.getElem?_map, hx, Option.map_some, List.getElem?_take, hj, if_true] at this
    simpa using this
  exact ⟨by simp [World.cell?, h1, h4], by simp [World.frozen?, h1]⟩
theorem BRowAt.set (h : BRowAt B w g n xs) (j : Nat) (x : Bool) : BRowAt B (w.setCell ⟨g, j, none⟩ (.bool x)) g n (xs.set j x) := by
  obtain ⟨cur, h1, h3⟩ := h.blk
  refine ⟨h.lo, ⟨cur.setIfInBounds j (.bool x), heap_setCell_same w g j cur _ _ h1, ?_⟩, by simpa using h.len⟩
  rw [Array.toList_setIfInBounds, List.take_set, h3, List.map_set]
theorem BRowAt.of_made {c : Nat} (h : w.ownsRow B 4 1 (.slice (some ⟨g, 0, none⟩) n c) n (xs.map Value.bool)) (hl : xs.length = n) : BRowAt B w g n xs := by
  rcases h.2 with ⟨h0, _⟩ | ⟨g', cap, cur, e, hB, hg, h1, h2, h3, h4⟩
  · cases h0
  · cases e
    exact ⟨hB, ⟨cur, hg, by simpa using h4⟩, hl⟩
end
theorem made_bool (n : Nat) : (madeCells #[Value.bool false] (n * 1)).toList = (List.replicate n false).map Value.bool := by
  unfold madeCells
  rw [Array.toList_map, Array.toList_range, Nat.mul_one, List.map_replicate]
  apply List.ext_getElem
  · simp
  · intro i h1 h2
    simp [Nat.mod_one]
theorem info_bool : (Try.prog.info? 4).map (fun i => (i.zero, i.size, i.bytes)) = some (some (.bool false), 1, 1) := by kernel_rfl

/-- Which places are in the round, k steps on. -/
def inL (n : Nat) (l : List Nat) (k : Nat) : List Bool := (List.range n).map fun b => decide (b ∈ l.take k)
theorem inL_at {n : Nat} {l : List Nat} {k b : Nat} (hb : b < n) : (inL n l k)[b]? = some (decide (b ∈ l.take k)) := by simp [inL, hb]
theorem inL_zero (n : Nat) (l : List Nat) : inL n l 0 = List.replicate n false := by
  unfold inL
  apply List.ext_getElem
  · simp
  · intro i h1 h2
    simp
theorem inL_succ {n : Nat} {l : List Nat} {k p : Nat} (hp : l[k]? = some p) (hpn : p < n) : (inL n l k).set p true = inL n l (k + 1) := by
  apply List.ext_getElem?
  intro j
  rw [List.getElem?_set]
  by_cases hj : j < n
  · rw [inL_at hj, inL_at hj, List.take_add_one, hp]
    by_cases e : p = j
    · subst e
      rw [if_pos rfl, if_pos (by simp [inL]; exact hpn)]
      simp
    · rw [if_neg e]
      have e2 : ¬ j = p := fun h => e h.symm
      simp [e2]
  · have hl1 : (inL n l k).length = n := by simp [inL]
    have hl2 : (inL n l (k + 1)).length = n := by simp [inL]
    rw [List.getElem?_eq_none (l := inL n l (k + 1)) (by omega), if_neg (by omega), List.getElem?_eq_none (by omega)]
theorem natI_at' {l : List Nat} {k p : Nat} (h : l[k]? = some p) : (natI l).getD k 0 = (p : Int) := by rw [List.getD_eq_getElem?_getD]; simp [natI, h]

set_option maxRecDepth 100000 in
set_option maxHeartbeats 20000000 in
theorem tripsround_yes (a : Option Addr) (n c : Nat) (rs : List TRow) (i : Nat) (w : World) (hx : SlT w a n c rs) (hg : greatT (tabOf rs) = false) (hm : mayT (tabOf rs) = true) (hin : i < n) :
    Calls Try.prog 8 #[.slice a n c, .int .i64 i] w fun e w' => e = .returned (.bool true) ∧ Below w.heap.size w w' := by
  have hmax := hx.sl.max
  have hle := hx.sl.le
  have hl := hx.tlen
  have Hx := Lib.hid hx
  have Hg := Lib.hid hg
  have hshr := shr_of hm
  rw [hl] at hshr
  have hn12 := hshr.n12
  have Hshr := Lib.hid hshr
  have Hs : Hid (shT (tabOf rs) = shortP (tabOf rs)) := by show _ = _; unfold shT; rw [if_pos hm]
  have He : Hid (trE (tabOf rs) = 0) := by show _ = _; unfold trE; rw [if_pos hm]
  have Hsl : Hid ((shortP (tabOf rs)).length = n) := hshr.sqS.1
  have hrnd := rnd_of hm hl hin
  have Hre : Hid (rouE (tabOf rs) i = 0) := by show _ = _; unfold rouE; rw [if_pos ⟨hm, by omega, by omega⟩]
  obtain ⟨l, hld⟩ : ∃ l, l = (goR (tabOf rs) n n [i] 0).1 := ⟨_, rfl⟩
  obtain ⟨C, hCd⟩ : ∃ C, C = (goR (tabOf rs) n n [i] 0).2 := ⟨_, rfl⟩
  have Hrp : Hid (rouP (tabOf rs) i = (l, C)) := by
    show _ = _
    unfold rouP
    rw [if_pos ⟨hm, by omega, by omega⟩, hl, hld, hCd, Int.toNat_natCast]
  rw [← hld, ← hCd] at hrnd
  have Hrnd := Lib.hid hrnd
  obtain ⟨L, hL⟩ : ∃ L, L = l.length := ⟨_, rfl⟩
  have hLp : 0 < L := by rw [hL]; exact hrnd.pos
  have hLn : L ≤ n := by rw [hL]; exact hrnd.le
  have HL := Lib.hid hL
  have hlen0 : ((L : Int) == 0) = false := by simp; omega
  have d0 : decide ((i : Int) < 0) = false := decide_eq_false (by omega)
  have d1 : decide ((n : Int) ≤ (i : Int)) = false := decide_eq_false (by omega)
  have d2 : decide ((n : Int) < (L : Int)) = false := decide_eq_false (by omega)
  clear hm hg hx hl hshr hrnd hld hCd hL
  go_enter Try.func8, Try.ntmps8
  go_wp2_with fail
  refine (great_any a n c rs _ Hx.out).mono ?_
  rw [Hg.out]
  rintro e w1 ⟨rfl, hb1⟩
  go_wp2_with fail
  refine (round_any a n c rs (i : Int) _ (Hx.out.below hb1 (Nat.le_refl _))).mono ?_
  rintro e w2 ⟨v2, he, hown, hb2⟩
  rw [Hrp.out] at hown
  rw [Hrp.out, Hre.out] at he
  subst he
  obtain ⟨al, cl, rfl, hsl⟩ := hown.reads
  rw [← HL.out] at hsl ⊢
  have hcl := hsl.le
  have hcl2 := hsl.max
  have hb12 := hb1.trans (hb2.mono hb1.size)
  clear hown hb1 hb2
  go_wp2_with fail
  refine (refshort_any a n c rs _ (Hx.out.below hb12 (Nat.le_refl _))).mono ?_
  rintro e V ⟨v3, mss, rfl, hmats, hTs, hb3⟩
  rw [He.out]
  rw [Hs.out] at hTs
  obtain ⟨sa, cs, ss, rfl, hss, hts⟩ := hmats.tab hTs
  rw [Hsl.out] at hss ⊢
  have hcs := hss.sl.le
  have hcs2 := hss.sl.max
  have hBV := hb12.trans (hb3.mono hb12.size)
  have hslV := hsl.below hb3 (Nat.le_refl _)
  obtain ⟨lb, lo, rfl, hlc⟩ := hslV.at0 hLp
  have HlV : Hid (∀ (j p : Nat), l[j]? = some p → V.cell? ⟨lb, lo + j, none⟩ = some (.int .i64 (p : Int))) := fun j p h => by
    have h1 := (List.getElem?_eq_some_iff.1 h).1
    rw [hlc j (by rw [HL.out]; exact h1), natI_at' h]
  obtain ⟨b0, o0, rfl, hT⟩ := (Hx.out.below hBV (Nat.le_refl _)).at2' Hshr.out.sqT (by omega)
  obtain ⟨b2, o2, rfl, hS⟩ := hss.at2' (by rw [hts]; exact Hshr.out.sqS) (by omega)
  rw [hts] at hS
  obtain ⟨sb, so, sc, cSi0, hsc1, hsc2, cSij⟩ := hS i hin
  have HT := Lib.hid hT
  have HSi := Lib.hid cSi0
  have HSij := Lib.hid cSij
  have cl0 : V.cell? ⟨lb, lo, none⟩ = some (.int .i64 (i : Int)) := by have := HlV.out 0 i Hrnd.out.head; simpa using this
  clear hmats hTs hss hts hslV hlc hT hS cSi0 cSij hb12 hb3 hsl Hx
  obtain ⟨i0, hi, hz0, hz1, hz2⟩ := info_parts info_bool
  go_wp2_with (at_make; refine wpList_make_full _ rfl _ _ 59 rfl V.heap.size 4 i0 (.bool false) 1 Try.underlying59 hi hz0 hz1 .i64 .i64 (n : Int) (n : Int) n rfl rfl rfl rfl (by rw [hz2]; omega) (by unfold maxLen; omega) (Nat.le_refl _) ?_; intro w5 hown5 hgrow5)
  have hA5 : BRowAt V.heap.size w5 V.heap.size n (inL n l 0) := by rw [inL_zero]; exact BRowAt.of_made (by rw [← made_bool]; exact hown5) (by simp)
  have hb5 : Below V.heap.size V w5 := (Below.refl _ _).grown hgrow5 (Nat.le_refl _) (by simp)
  obtain ⟨g, hg⟩ : ∃ g, g = V.heap.size := ⟨_, rfl⟩
  have hA5 : BRowAt V.heap.size w5 g n (inL n l 0) := by rw [hg]; exact hA5
  rw [← hg]
  clear hown5 hgrow5 hg cl0
  go_wp2
  go_loopw [11, 12] (fun x y wr => ∃ (j : Nat), y = .int .i64 j ∧ j ≤ L ∧ x = .int .i64 (sumU (tabOf rs) l j) ∧ BRowAt V.heap.size wr g n (inL n l j) ∧ Below V.heap.size V wr) (fun _ y _ => L - (intOf y).toNat)
  case atStart => exact ⟨0, rfl, Nat.zero_le _, rfl, hA5, hb5⟩
  case round =>
    clear hA5 hb5
    obtain ⟨j, rfl, hj, rfl, hA, hbr⟩ := hrel
    by_cases hltj : j < L
    · have hltjI : (j : Int) < (L : Int) := by omega
      obtain ⟨p, hp⟩ : ∃ p, l[j]? = some p := ⟨_, List.getElem?_eq_getElem (by rw [← HL.out]; exact hltj)⟩
      have hpn := Hrnd.out.lt j p hp
      have hpnI : (p : Int) < (n : Int) := by omega
      have hpnJ : decide ((n : Int) ≤ (p : Int)) = false := decide_eq_false (by omega)
      have hpnJ' : decide (n ≤ p) = false := decide_eq_false (by omega)
      have hp0 : decide ((p : Int) < 0) = false := decide_eq_false (by omega)
      have clp := cellB' hbr (HlV.out j p hp)
      obtain ⟨cin, fin⟩ := hA.cell (j := p) (x := false) (by rw [inL_at hpn]; simp [Hrnd.out.nd j p hp])
      have hA2 : BRowAt V.heap.size (wr.setCell ⟨g, p, none⟩ (.bool true)) g n (inL n l (j + 1)) := by rw [← inL_succ hp hpn]; exact hA.set p true
      have hb2 := hbr.setCell (p := ⟨g, p, none⟩) hA.lo (.bool true)
      have Hp := Lib.hid hp
      have hslo := Hrnd.out.sumlo j (by rw [← HL.out]; omega)
      have hshi := Hrnd.out.sumhi j (by rw [← HL.out]; omega)
      have hshi2 : sumU (tabOf rs) l j ≤ 13194139533312 := by omega
      clear hshi hA hbr hp
      go_wp2
      go_loopw [14] (fun y wr => ∃ (b : Nat), y = .int .i64 b ∧ b ≤ n ∧ BRowAt V.heap.size wr g n (inL n l (j + 1)) ∧ Below V.heap.size V wr) (fun y _ => n - (intOf y).toNat)
      case atStart => exact ⟨0, rfl, Nat.zero_le _, hA2, hb2⟩
      case round =>
        clear hA2 hb2 cin fin clp
        obtain ⟨b, rfl, hb, hA, hbr⟩ := hrel
        by_cases hltb : b < n
        · have hltbI : (b : Int) < (n : Int) := by omega
          have cin := (hA.cell (j := b) (inL_at hltb)).1
          obtain ⟨inb, hinb⟩ : ∃ inb, inb = decide (b ∈ l.take (j + 1)) := ⟨_, rfl⟩
          rw [← hinb] at cin
          obtain ⟨rb, ro, rc, cT0, hrc1, hrc2, cTd⟩ := HT.out p hpn
          have cT := cellB' hbr cT0
          obtain ⟨t, ht⟩ : ∃ t, t = gt (tabOf rs) p b := ⟨_, rfl⟩
          have ct0 := cTd b hltb
          rw [← ht] at ct0
          have ct := cellB' hbr ct0
          have HA := Lib.hid hA
          have Hbr := Lib.hid hbr
          cases hinb2 : inb with
          | true =>
            clear ht cTd cT0 ct0 hA hbr hinb
            go_wp2
            go_roundw
            case rel => exact ⟨b + 1, by go_num, by omega, HA.out, Hbr.out⟩
            case measure => simp [intOf]; omega
          | false =>
            by_cases ht0 : t < 0
            · have d3 : decide (t < 0) = true := decide_eq_true ht0
              clear ht cTd cT0 ct0 hA hbr hinb
              go_wp2
              go_roundw
              case rel => exact ⟨b + 1, by go_num, by omega, HA.out, Hbr.out⟩
              case measure => simp [intOf]; omega
            · have d3 : decide (t < 0) = false := decide_eq_false ht0
              obtain ⟨q, hq, hq0, hqt, hqb⟩ := Hrnd.out.best j p b Hp.out hltb (by rw [hinb2] at hinb; simpa using hinb.symm) (by rw [← ht]; omega)
              have hqn := Hrnd.out.lt _ q hq
              have hjL : j + 1 < L := by rw [HL.out]; exact (List.getElem?_eq_some_iff.1 hq).1
              have hjLI : (j : Int) + 1 < (L : Int) := by omega
              have hjLe : (((j : Int) + 1) == (L : Int)) = false := by simp; omega
              have hqnI : (q : Int) < (n : Int) := by omega
              have hqnJ : decide ((n : Int) ≤ (q : Int)) = false := decide_eq_false (by omega)
              have hqnJ' : decide (n ≤ q) = false := decide_eq_false (by omega)
              have hqJ0 : decide ((q : Int) < 0) = false := decide_eq_false (by omega)
              have clq := cellB' hbr (HlV.out (j + 1) q hq)
              obtain ⟨u, hu⟩ : ∃ u, u = gt (tabOf rs) p q := ⟨_, rfl⟩
              have cu0 := cTd q hqn
              rw [← hu] at cu0
              have cu := cellB' hbr cu0
              rw [← hu] at hq0 hqt hqb
              rw [← ht] at hqt hqb
              have d4 : decide (t < u) = false := decide_eq_false (by omega)
              by_cases hut : u = t
              · have d5 : (u == t) = true := by simp [hut]
                have d6 : decide ((b : Int) < (q : Int)) = false := decide_eq_false (by have := hqb hut; omega)
                have d6' : decide (b < q) = false := decide_eq_false (by have := hqb hut; omega)
                clear ht hu cTd cT0 ct0 cu0 hA hbr hinb hq hqb hut
                have e0 := fun d os => cell_regrown cT d os
                have e1 := fun d os => cell_regrown ct d os
                have e2 := fun d os => cell_regrown cu d os
                have e3 := fun d os => cell_regrown clq d os
                go_upto_region 22 with fail
                as_aux_lemma =>
                  go_wp2
                  refine wp_region_quiet_below (by kernel_rfl) (by kernel_rfl) ?_
                  repeat (go_big_quiet_step (fail))
                  refine wpQuiet_nil ?_
                  rintro w' ⟨⟨d9, os⟩, hw'⟩
                  have hb' : Below wr.heap.size wr w' := by rw [hw']; exact below_regrown wr d9 os
                  have HA3 := HA.out.below hb' (Nat.le_refl _)
                  have Hbr3 := Hbr.out.trans (hb'.mono Hbr.out.size)
                  clear hw' hb'
                  go_wp2
                  go_roundw
                  case rel => exact ⟨b + 1, by go_num, by omega, HA3, Hbr3⟩
                  case measure => simp [intOf]; omega
              · have d5 : (u == t) = false := by simp [hut]
                clear ht hu cTd cT0 ct0 cu0 hA hbr hinb hq hqb hut
                have e0 := fun d os => cell_regrown cT d os
                have e1 := fun d os => cell_regrown ct d os
                have e2 := fun d os => cell_regrown cu d os
                have e3 := fun d os => cell_regrown clq d os
                go_upto_region 22 with fail
                as_aux_lemma =>
                  go_wp2
                  refine wp_region_quiet_below (by kernel_rfl) (by kernel_rfl) ?_
                  repeat (go_big_quiet_step (fail))
                  refine wpQuiet_nil ?_
                  rintro w' ⟨⟨d9, os⟩, hw'⟩
                  have hb' : Below wr.heap.size wr w' := by rw [hw']; exact below_regrown wr d9 os
                  have HA3 := HA.out.below hb' (Nat.le_refl _)
                  have Hbr3 := Hbr.out.trans (hb'.mono Hbr.out.size)
                  clear hw' hb'
                  go_wp2
                  go_roundw
                  case rel => exact ⟨b + 1, by go_num, by omega, HA3, Hbr3⟩
                  case measure => simp [intOf]; omega
        · obtain rfl : n = b := by omega
          have hltn : ¬ (n : Int) < (n : Int) := by omega
          have HA := Lib.hid hA
          have Hbr := Lib.hid hbr
          by_cases hj0 : j = 0
          · have d3 : decide ((0 : Int) < (j : Int)) = false := decide_eq_false (by omega)
            have d3' : decide (0 < j) = false := decide_eq_false (by omega)
            have d3'' : ¬ (0 < j) := by omega
            have hs0 : Hid (sumU (tabOf rs) l (j + 1) = sumU (tabOf rs) l j) := by show _ = _; rw [sumU_succ, if_pos hj0]
            clear hltb hA hbr hj0
            go_wp2
            go_roundw
            case rel => exact ⟨j + 1, by go_num, by omega, by rw [hs0.out], HA.out, Hbr.out⟩
            case measure => simp [intOf]; omega
          · obtain ⟨j, rfl⟩ : ∃ j', j = j' + 1 := ⟨j - 1, by omega⟩
            obtain ⟨q, hq⟩ : ∃ q, l[j]? = some q := ⟨_, List.getElem?_eq_getElem (by rw [← HL.out]; omega)⟩
            have hqn := Hrnd.out.lt _ q hq
            have hway := Hrnd.out.way j q p hq Hp.out
            have hshort := Hrnd.out.short (j + 1) p Hp.out
            have hsu : sumU (tabOf rs) l (j + 1 + 1) = sumU (tabOf rs) l (j + 1) + gt (tabOf rs) q p := by
              rw [sumU_succ, if_neg (by omega), show j + 1 - 1 = j by omega, List.getD_eq_getElem?_getD, List.getD_eq_getElem?_getD, hq, Hp.out]
              rfl
            obtain ⟨u, hu⟩ : ∃ u, u = gt (tabOf rs) q p := ⟨_, rfl⟩
            obtain ⟨x, hxd⟩ : ∃ x, x = gt (shortP (tabOf rs)) i p := ⟨_, rfl⟩
            obtain ⟨s1, hs1⟩ : ∃ s1, s1 = sumU (tabOf rs) l (j + 1) := ⟨_, rfl⟩
            have hut := Hshr.out.hiT q p hqn hpn
            rw [hsu, ← hu, ← hxd, ← hs1] at hshort
            rw [← hu] at hway hut
            rw [← hs1] at hslo hshi2 ⊢
            rw [← hs1, ← hu] at hsu
            have Hsu := Lib.hid hsu
            obtain ⟨rb, ro, rc, cT0, hrc1, hrc2, cTd⟩ := HT.out q hqn
            have cT := cellB' hbr cT0
            have cu0 := cTd p hpn
            rw [← hu] at cu0
            have cu := cellB' hbr cu0
            have cx0 := HSij.out p hpn
            rw [← hxd] at cx0
            have cx := cellB' hbr cx0
            have cS := cellB' hbr HSi.out
            have clq := cellB' hbr (HlV.out j q hq)
            have hqnI : (q : Int) < (n : Int) := by omega
            have d3 : decide ((0 : Int) < (j : Int) + 1) = true := decide_eq_true (by omega)
            have d4 : decide (u < 0) = false := decide_eq_false (by omega)
            have d5 : decide (x < 0) = false := decide_eq_false (by omega)
            have d6 : decide (s1 + u < x) = false := decide_eq_false (by omega)
            clear hltb hA hbr hj0 hu hxd hs1 hsu hq cTd cT0 cu0 cx0 hshort
            go_wp2
            go_roundw
            case rel => exact ⟨j + 1 + 1, by go_num, by omega, by rw [Hsu.out], HA.out, Hbr.out⟩
            case measure => simp [intOf]; omega
    · obtain rfl : L = j := by omega
      have hltn : ¬ (L : Int) < (L : Int) := by omega
      have hsum : sumU (tabOf rs) l L = C := by rw [HL.out]; exact Hrnd.out.cost
      rw [hsum]
      have q1 : (C == C) = true := by simp
      clear hsum
      go_wp2_with fail
      refine (wakes32_any _).mono ?_
      rintro e w9 ⟨rfl, hb9⟩
      go_wp2
      go_ret
      have h1 := hBV.trans (hbr.mono hBV.size)
      exact ⟨rfl, h1.trans (hb9.mono h1.size)⟩

end Go.Proofs.Ytilhmlapbifbbaa
