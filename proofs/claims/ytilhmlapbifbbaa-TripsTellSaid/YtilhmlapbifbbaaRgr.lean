/- Walks: the reference's groups. -/
import Derived.Test.YtilhmlapbifbbaaRsh
import Derived.Test.YtilhmlapbifbbaaWak
import Derived.Test.YtilhmlapbifbbaaTelP
namespace Go.Proofs.Ytilhmlapbifbbaa
open Go.RowKit Go.Shelf Go.Sort

theorem Mat.mono {B B' : Nat} {w : World} {v : Value} {ms : List MRow} (h : Mat B w v ms) (hB : B' ≤ B) : Mat B' w v ms := by
  refine ⟨⟨h.own.1, ?_⟩, fun m hm => ⟨Nat.le_trans hB (h.row m hm).lo, (h.row m hm).blk, (h.row m hm).le, (h.row m hm).max⟩, h.nd⟩
  rcases h.own.2 with h0 | ⟨g, cap, cur, e, hg, k⟩
  · exact .inl h0
  · exact .inr ⟨g, cap, cur, e, Nat.le_trans hB hg, k⟩

set_option maxRecDepth 100000 in
set_option maxHeartbeats 20000000 in
theorem refgroups_yes (a : Option Addr) (n c : Nat) (rs : List TRow) (w : World) (hx : SlT w a n c rs) (hm : mayT (tabOf rs) = true) :
    Calls Try.prog 44 #[.slice a n c] w fun e w' => ∃ v ms, e = .returned (.tuple #[v, .int .i64 0]) ∧ Mat w.heap.size w' v ms ∧ mTab ms = (groP (tabOf rs)).map natI ∧ Below w.heap.size w w' := by
  have hmax := hx.sl.max
  have hle := hx.sl.le
  have hl := hx.tlen
  have hshr := shr_of hm
  rw [hl] at hshr
  have hn12 := hshr.n12
  have Hx := Lib.hid hx
  have Hshr := Lib.hid hshr
  have Hs : Hid (shT (tabOf rs) = shortP (tabOf rs)) := by show _ = _; unfold shT; rw [if_pos hm]
  have He : Hid (trE (tabOf rs) = 0) := by show _ = _; unfold trE; rw [if_pos hm]
  have Hsl : Hid ((shortP (tabOf rs)).length = n) := hshr.sqS.1
  obtain ⟨f, hf⟩ : ∃ f, f = withF n (shortP (tabOf rs)) := ⟨_, rfl⟩
  have Hgp : Hid (groP (tabOf rs) = grpU f n n) := by show _ = _; unfold groP; rw [if_pos hm, hl, ← hf]
  have Hrq : Hid (∀ i j, i < n → j < n → reqv f j i = (decide (0 ≤ gt (shortP (tabOf rs)) i j) && decide (0 ≤ gt (shortP (tabOf rs)) j i))) := by
    intro i j hi hj
    rw [hf, ← hl, reqv_with hm (by rw [hl]; exact hj) (by rw [hl]; exact hi), wth_dec hshr hj hi, Bool.and_comm]
  obtain ⟨i0, hi, hz0, hz1, hz2⟩ := info_parts info_i64'
  obtain ⟨i1, hi', hz0', hz1', hz2'⟩ := info_parts info_row
  clear hm hx hl hshr hf
  go_enter Try.func44, Try.ntmps44
  go_wp2_with fail
  refine (refshort_any a n c rs _ Hx.out).mono ?_
  rintro e V ⟨v3, mss, rfl, hmats, hTs, hb1⟩
  rw [He.out]
  rw [Hs.out] at hTs
  obtain ⟨sa, cs, ss, rfl, hss, hts⟩ := hmats.tab hTs
  rw [Hsl.out] at hss ⊢
  have hcs := hss.sl.le
  have hcs2 := hss.sl.max
  have HsV := Lib.hid hss
  have Hts := Lib.hid hts
  clear hmats hTs hss hts
  go_wp2
  go_loopw [6, 7] (fun v y wr => ∃ (k : Nat) (ms : List MRow), y = .int .i64 k ∧ k ≤ n ∧ Mat V.heap.size wr v ms ∧ Hid (mTab ms = (grpU f n k).map natI) ∧ Below V.heap.size V wr) (fun _ y _ => n - (intOf y).toNat)
  case atStart => exact ⟨0, [], rfl, Nat.zero_le _, Mat.nil _ _, rfl, Below.refl _ _⟩
  case round =>
    obtain ⟨wo, rfl⟩ : ∃ wo : World, wo = wr := ⟨_, rfl⟩
    obtain ⟨k, ms, rfl, hk, hmat, Hms, hB⟩ := hrel
    have hB1 := hb1.trans (hB.mono hb1.size)
    have hBs := hB1.size
    by_cases hlt : k < n
    · have hltI : (k : Int) < (n : Int) := by omega
      obtain ⟨b2, o2, rfl, hS⟩ := HsV.out.at2' (by rw [Hts.out]; exact Hshr.out.sqS) (by omega)
      rw [Hts.out] at hS
      obtain ⟨sb, so, sc, cSk0, hsc1, hsc2, cSkj⟩ := hS k hlt
      have HS := Lib.hid hS
      have HSk := Lib.hid cSk0
      have HSkj := Lib.hid cSkj
      clear hS cSk0 cSkj
      go_wp2
      go_loopw [8, 9] (fun v y wr => ∃ (j : Nat), y = .int .i64 j ∧ j ≤ n ∧ OwnI .i64 3 wo.heap.size wr v (grpL f j k).length (natI (grpL f j k)) ∧ Below wo.heap.size wo wr) (fun _ y _ => n - (intOf y).toNat)
      case atStart => exact ⟨0, rfl, Nat.zero_le _, OwnI.nil _ _ _ _, Below.refl _ _⟩
      case round =>
        obtain ⟨wq, rfl⟩ : ∃ wq : World, wq = wr := ⟨_, rfl⟩
        obtain ⟨j, rfl, hj, hown, hb6⟩ := hrel
        have hBV := hB.trans (hb6.mono hB.size)
        by_cases hltj : j < n
        · have hltJ : (j : Int) < (n : Int) := by omega
          obtain ⟨x, hxd⟩ : ∃ x, x = gt (shortP (tabOf rs)) k j := ⟨_, rfl⟩
          obtain ⟨y, hyd⟩ : ∃ y, y = gt (shortP (tabOf rs)) j k := ⟨_, rfl⟩
          obtain ⟨jb, jo, jc, cSj0, hjc1, hjc2, cSjk⟩ := HS.out j hltj
          have cx0 := HSkj.out j hltj
          have cy0 := cSjk k hlt
          rw [← hxd] at cx0
          rw [← hyd] at cy0
          have cSk := cellB' hBV HSk.out
          have cSj := cellB' hBV cSj0
          have cx := cellB' hBV cx0
          have cy := cellB' hBV cy0
          have heq := Hrq.out k j hlt hltj
          rw [← hxd, ← hyd] at heq
          have Heq := Lib.hid heq
          have Hown := Lib.hid hown
          clear hxd hyd cSjk cSj0 cx0 cy0 heq hown
          by_cases hx0 : 0 ≤ x
          · have d1 : decide (0 ≤ x) = true := decide_eq_true hx0
            by_cases hy0 : 0 ≤ y
            · have d2 : decide (0 ≤ y) = true := decide_eq_true hy0
              have Hr : Hid (reqv f j k = true) := by show _ = _; rw [Heq.out, d1, d2]; rfl
              have hll : (grpL f j k).length ≤ j := by unfold grpL; exact Nat.le_trans (List.length_filter_le _ _) (by simp)
              have hbs := hb6.size
              go_wp2_with (at_builtin; refine wpList_append_own _ rfl _ _ 36 rfl wo.heap.size 3 i0 (.int .i64 0) 1 8 Try.underlying36 hi hz0 hz1 hz2 rfl (by decide) _ _ _ rfl (Hown.out.alloc _) ⟨wq.heap.size, 0, none⟩ 1 1 [.int .i64 j] rfl rfl (cell_one_new _ _ _) (by simp [Value.oneCell']) (by unfold maxLen; omega) (by omega) (by simp; omega) ?_; intro v' w8 hown' hgrow _)
              have hb9 : Below wo.heap.size wo w8 := (hb6.alloc hb6.size _).grown hgrow (by simp; omega) (fun j ej => (Hown.out.lt _ ej).1)
              have hown8 : OwnI .i64 3 wo.heap.size w8 v' (grpL f (j + 1) k).length (natI (grpL f (j + 1) k)) := by
                rw [grpL_succ, if_pos Hr.out]
                show w8.ownsRow _ _ _ _ _ _
                rw [natI_app, List.map_append, List.length_append, List.length_singleton]
                exact hown'
              clear hown' hgrow
              go_wp2
              go_roundw
              case rel => exact ⟨j + 1, by go_num, by omega, hown8, hb9⟩
              case measure => simp [intOf]; omega
            · have d2 : decide (0 ≤ y) = false := decide_eq_false hy0
              have Hr : Hid (reqv f j k = false) := by show _ = _; rw [Heq.out, d1, d2]; rfl
              go_wp2
              go_roundw
              case rel => exact ⟨j + 1, by go_num, by omega, by rw [grpL_succ, if_neg (by rw [Hr.out]; simp)]; exact Hown.out, hb6⟩
              case measure => simp [intOf]; omega
          · have d1 : decide (0 ≤ x) = false := decide_eq_false hx0
            have Hr : Hid (reqv f j k = false) := by show _ = _; rw [Heq.out, d1]; rfl
            go_wp2
            go_roundw
            case rel => exact ⟨j + 1, by go_num, by omega, by rw [grpL_succ, if_neg (by rw [Hr.out]; simp)]; exact Hown.out, hb6⟩
            case measure => simp [intOf]; omega
        · obtain rfl : n = j := by omega
          have hltn : ¬ (n : Int) < (n : Int) := by omega
          have hlp := grpL_ne (f := f) hlt
          obtain ⟨m, rfl, hmx, hrow⟩ := MRowAt.of_own hown hlp
          have hhead := head_leader (f := f) hlt
          obtain ⟨q, hq⟩ : ∃ q, (grpL f n k)[0]? = some q := ⟨_, List.getElem?_eq_getElem hlp⟩
          have hqd : (grpL f n k).getD 0 0 = q := by rw [List.getD_eq_getElem?_getD, hq]; rfl
          rw [hqd] at hhead
          have hmq : m.xs[0]? = some (q : Int) := by rw [hmx]; simp [natI, hq]
          have cq := (hrow.cell hmq).1
          have hml : 0 < m.xs.length := by rw [hmx, natI_len]; exact hlp
          have hmlI : (0 : Int) < (m.xs.length : Int) := by omega
          have hmle := hrow.le
          have hmc : m.c ≤ 9223372036854775807 := by have := hrow.max; unfold maxLen at this; exact this
          have hmat6 := hmat.below hb6 (Nat.le_refl _)
          have hBVs := hBV.size
          have hnew : ∀ m' ∈ ms, m'.g ≠ m.g := fun m' h' => by have := (hmat.row m' h').lt; have := hrow.lo; intro e; omega
          have hnev : u6.ownBlock ≠ some m.g := fun e => by have := (hmat.own.lt _ e).2; have := hrow.lo; omega
          have hrow6 : MRowAt V.heap.size wq m := hrow.mono hB.size
          have hml2 : ms.length ≤ k := by
            have h1 := congrArg List.length Hms.out
            simp [mTab, grpU] at h1
            rw [h1]
            exact Nat.le_trans (List.length_filter_le _ _) (by simp)
          have Hmx := Lib.hid hmx
          have Hhead := Lib.hid hhead
          clear hown hrow hmat hmx hltj hmq hq hqd hhead
          unfold mrV
          by_cases hqk : q = k
          · have q1 : ((q : Int) == (k : Int)) = true := by simp [hqk]
            have Hg : Hid (grpF f k = true) := Hhead.out.1 hqk
            clear hqk
            go_wp2_with (at_builtin; refine wpList_append_own _ rfl _ _ 52 rfl V.heap.size 36 i1 (.slice none 0 0) 1 24 Try.underlying52 hi' hz0' hz1' hz2' rfl (by decide) _ _ _ rfl (hmat6.own.alloc _) ⟨wq.heap.size, 0, none⟩ 1 1 [mrV m] rfl rfl (cell_one_new _ _ _) (by simp [Value.oneCell', mrV]) (by unfold maxLen; omega) (by omega) (by simp; omega) ?_; intro v' w8 hown' hgrow _)
            replace hgrow : (wq.alloc (.cells #[mrV m] 36)).grownBy w8 u6.ownBlock := hgrow
            have hmat8 : Mat V.heap.size w8 v' (ms ++ [m]) :=
              Mat.push (hmat6.kept (World.grownBy_alloc wq _ none)) (hrow6.kept (Below.heap_alloc wq _ _ hrow6.lt)) hnew hgrow hnev hown'
            have hB8 : Below V.heap.size V w8 := (hBV.alloc hBVs _).grown hgrow (by simp; omega) (fun j ej => (hmat6.own.lt _ ej).1)
            clear hown' hgrow
            go_wp2
            go_roundw
            case rel =>
              refine ⟨k + 1, ms ++ [m], by go_num, by omega, hmat8, ?_, hB8⟩
              show _ = _
              rw [grpU_succ, if_pos Hg.out, List.map_append, ← Hms.out, List.map_singleton, ← Hmx.out]
              simp [mTab]
            case measure => simp [intOf]; omega
          · have q1 : ((q : Int) == (k : Int)) = false := by simp; omega
            have Hg : Hid (¬ grpF f k = true) := fun h => hqk (Hhead.out.2 h)
            clear hqk
            go_wp2
            go_roundw
            case rel => exact ⟨k + 1, ms, by go_num, by omega, hmat6, by show _ = _; rw [grpU_succ, if_neg Hg.out]; exact Hms.out, hBV⟩
            case measure => simp [intOf]; omega
    · obtain rfl : n = k := by omega
      have hltn : ¬ (n : Int) < (n : Int) := by omega
      go_wp2
      refine bodyPost_ret (v := .tuple #[u6, .int .i64 0]) (by simp [results, Try.results44, go_sem]) rfl ?_
      exact ⟨_, rfl, ms, hmat.mono hb1.size, by rw [Hms.out, Hgp.out], hB1⟩

set_option maxRecDepth 100000 in
theorem refgroups_no (a : Option Addr) (n c : Nat) (rs : List TRow) (w : World) (hx : SlT w a n c rs) (hm : mayT (tabOf rs) = false) :
    Calls Try.prog 44 #[.slice a n c] w fun e w' => e = .returned (.tuple #[.slice none 0 0, .int .i64 2]) ∧ Below w.heap.size w w' := by
  have Hx := Lib.hid hx
  have He : Hid (trE (tabOf rs) = 2) := by show _ = _; unfold trE; rw [if_neg (by rw [hm]; simp)]
  clear hx hm
  go_enter Try.func44, Try.ntmps44
  go_wp2_with fail
  refine (refshort_any a n c rs _ Hx.out).mono ?_
  rintro e V ⟨v3, mss, rfl, hmats, hTs, hb1⟩
  rw [He.out]
  obtain ⟨sa, cs, rfl, hrd⟩ := hmats.reads
  clear hmats hTs hrd
  go_wp2
  refine bodyPost_ret (v := .tuple #[.slice none 0 0, .int .i64 2]) (by simp [results, Try.results44, go_sem]) rfl ?_
  exact ⟨rfl, hb1⟩

theorem refgroups_any (a : Option Addr) (n c : Nat) (rs : List TRow) (w : World) (hx : SlT w a n c rs) :
    Calls Try.prog 44 #[.slice a n c] w fun e w' => ∃ v ms, e = .returned (.tuple #[v, .int .i64 (groE (tabOf rs))]) ∧ Mat w.heap.size w' v ms ∧ mTab ms = (groP (tabOf rs)).map natI ∧ Below w.heap.size w w' := by
  unfold groE
  by_cases h : mayT (tabOf rs) = true
  · rw [if_pos h]
    exact refgroups_yes a n c rs w hx h
  · rw [if_neg h]
    refine (refgroups_no a n c rs w hx (by simpa using h)).mono ?_
    rintro e w' ⟨rfl, hb⟩
    exact ⟨_, [], rfl, Mat.nil _ _, by unfold groP; rw [if_neg h]; rfl, hb⟩

end Go.Proofs.Ytilhmlapbifbbaa
