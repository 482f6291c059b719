/- Walks: the reference's rounds. -/
import Derived.Test.YtilhmlapbifbbaaTro
import Derived.Test.YtilhmlapbifbbaaTelP
namespace Go.Proofs.Ytilhmlapbifbbaa
open Go.RowKit Go.Shelf Go.Sort

theorem own_ne_brow {w : World} {B n' B' g n : Nat} {v : Value} {xs : List Value} {bs : List Bool} (ho : w.ownsRow B 3 1 v n' xs) (hB : BRowAt B' w g n bs) : v.ownBlock ≠ some g := by
  intro e
  rcases ho.2 with ⟨rfl, _⟩ | ⟨g3, cap3, cur3, rfl, _, hg3, _⟩
  · simp [Value.ownBlock] at e
  · have e4 : g3 = g := by simpa [Value.ownBlock] using e
    subst e4
    obtain ⟨cur, h1, _⟩ := hB.blk
    rw [h1] at hg3
    simp at hg3
theorem OwnI.lit1 {B : Nat} (w : World) (x : Int) (hB : B ≤ w.heap.size) : OwnI .i64 3 B (w.alloc (.cells #[.int .i64 x] 3)) (.slice (some ⟨w.heap.size, 0, none⟩) 1 1) 1 [x] :=
  ⟨rfl, .inr ⟨w.heap.size, 1, #[.int .i64 x], rfl, hB, World.alloc_heap_new w _, by decide, by decide, by simp, by simp⟩⟩
theorem grown_set (w : World) (g j : Nat) (u : Value) : w.grownBy (w.setCell ⟨g, j, none⟩ u) (some g) := ⟨rfl, rfl, rfl, by simp, fun k _ hne => Below.heap_setCell w _ _ k (fun e => hne (by rw [e]))⟩
theorem inL_one {n i : Nat} (hi : i < n) : (List.replicate n false).set i true = inL n [i] [i].length := by
  have h := inL_succ (n := n) (l := [i]) (k := 0) (p := i) rfl hi
  rw [inL_zero] at h
  exact h
theorem inL_app {n p : Nat} {l : List Nat} (hp : p < n) : (inL n l l.length).set p true = inL n (l ++ [p]) (l ++ [p]).length := by
  have h := inL_succ (n := n) (l := l ++ [p]) (k := l.length) (p := p) (by simp) hp
  have e : inL n (l ++ [p]) l.length = inL n l l.length := by unfold inL; simp
  rw [e] at h
  rw [h]
  simp

set_option maxRecDepth 100000 in
set_option maxHeartbeats 20000000 in
theorem refround_yes (a : Option Addr) (n c : Nat) (rs : List TRow) (i : Nat) (w : World) (hx : SlT w a n c rs) (hm : mayT (tabOf rs) = true) (hin : i < n) :
    Calls Try.prog 45 #[.slice a n c, .int .i64 i] w fun e w' => ∃ v, e = .returned (.tuple #[v, .int .i64 (goR (tabOf rs) n n [i] 0).2, .int .i64 0]) ∧ OwnI .i64 3 w.heap.size w' v (goR (tabOf rs) n n [i] 0).1.length (natI (goR (tabOf rs) n n [i] 0).1) ∧ Below w.heap.size w w' := by
  have hmax := hx.sl.max
  have hle := hx.sl.le
  have hl := hx.tlen
  obtain ⟨hn12, hsq⟩ := mayT_sq hm
  rw [hl] at hn12 hsq
  have Hx := Lib.hid hx
  have Hm := Lib.hid hm
  have Hl := Lib.hid hl
  have hinI : (i : Int) < (n : Int) := by omega
  have d0 : decide ((i : Int) < 0) = false := decide_eq_false (by omega)
  have d1 : decide ((n : Int) ≤ (i : Int)) = false := decide_eq_false (by omega)
  have d1' : decide (n ≤ i) = false := decide_eq_false (by omega)
  obtain ⟨i0, hi, hz0, hz1, hz2⟩ := info_parts info_i64'
  obtain ⟨i1, hi', hz0', hz1', hz2'⟩ := info_parts info_bool
  obtain ⟨b0, o0, rfl, hT⟩ := hx.at2' hsq (by omega)
  have HT := Lib.hid hT
  clear hm hx hl hsq hT
  go_enter Try.func45, Try.ntmps45
  go_wp2_with fail
  refine (refmay_tab _ n c rs _ Hx.out).mono ?_
  rw [Hm.out]
  rintro e w1 ⟨rfl, hb1⟩
  have hb1s := hb1.size
  go_wp2_with (at_make; refine wpList_make_full _ rfl _ _ 59 rfl w.heap.size 4 i1 (.bool false) 1 Try.underlying59 hi' hz0' hz1' .i64 .i64 (n : Int) (n : Int) n rfl rfl rfl rfl (by rw [hz2']; omega) (by unfold maxLen; omega) (by simp; omega) ?_; intro w3 hown3 hgrow3; have hA3 : BRowAt w.heap.size w3 (w1.heap.size + 1) n (List.replicate n false) := BRowAt.of_made (c := n) (by rw [← made_bool, ← World.size_alloc w1 (.cells #[.int .i64 (i : Int)] 3)]; exact hown3) (by simp); have cB3 := (hA3.cell (j := i) (x := false) (by simp [hin])).1; have fB3 := (hA3.cell (j := i) (x := false) (by simp [hin])).2)
  have hb3 : Below w.heap.size w w3 := (hb1.alloc hb1s _).grown hgrow3 (by simp; omega) (by simp)
  have hown3' : OwnI .i64 3 w.heap.size w3 (.slice (some ⟨w1.heap.size, 0, none⟩) 1 1) [i].length (natI [i]) := OwnI.kept (OwnI.lit1 w1 (i : Int) hb1s) hgrow3 (.inr (by simp [Value.ownBlock]))
  obtain ⟨g, hg⟩ : ∃ g, g = w1.heap.size + 1 := ⟨_, rfl⟩
  rw [← hg] at hA3 cB3 fB3 ⊢
  have hng : (Value.slice (some ⟨w1.heap.size, 0, none⟩) 1 1).ownBlock ≠ some g := by rw [hg]; simp [Value.ownBlock]
  obtain ⟨hl0, hhl0⟩ : ∃ hl0, hl0 = w1.heap.size := ⟨_, rfl⟩
  rw [← hhl0] at hown3' hng ⊢
  have hA4 : BRowAt w.heap.size (w3.setCell ⟨g, i, none⟩ (.bool true)) g n (inL n [i] [i].length) := by rw [← inL_one hin]; exact hA3.set i true
  have hown4 := OwnI.kept hown3' (grown_set w3 g i (.bool true)) (.inr hng)
  have hb4 := hb3.setCell (p := ⟨g, i, none⟩) hA3.lo (.bool true)
  clear hown3 hgrow3 hA3 hown3' hb3 hng hg hhl0 hb1
  go_wp2
  go_loopw [7, 8, 10] (fun v x y wr => ∃ (r : Nat) (l : List Nat) (cst : Int), y = .int .i64 r ∧ x = .int .i64 cst ∧ OwnI .i64 3 w.heap.size wr v l.length (natI l) ∧ BRowAt w.heap.size wr g n (inL n l l.length) ∧ Hid (TrailU (tabOf rs) n i r l cst) ∧ Below w.heap.size w wr) (fun _ _ y _ => n - (intOf y).toNat)
  case atStart => exact ⟨0, [i], 0, rfl, rfl, hown4, hA4, TrailU.start _ hin, hb4⟩
  case round =>
    clear hown4 hA4 hb4 cB3 fB3
    obtain ⟨r, l, cst, rfl, rfl, hown, hA, HT1, hbr⟩ := hrel
    obtain ⟨wo, rfl⟩ : ∃ wo : World, wo = wr := ⟨_, rfl⟩
    have hrn := HT1.out.lt
    have hrnI : (r : Int) < (n : Int) := by omega
    have hll := HT1.out.len
    obtain ⟨hqn, hlq⟩ := HT1.out.last
    obtain ⟨q, hq⟩ : ∃ q, q = lastN l := ⟨_, rfl⟩
    rw [← hq] at hqn hlq
    have hbnd := HT1.out.bound Hm.out Hl.out
    obtain ⟨hc0, hc1⟩ := hbnd
    have hc2 : cst ≤ 13194139533312 := by omega
    obtain ⟨av, cv, rfl, hsl⟩ := hown.reads
    rw [hll] at hsl hown ⊢
    have hcv := hsl.max
    have hcl := hsl.le
    obtain ⟨lb, lo, rfl, hlc⟩ := hsl.at0 (by omega)
    have clq : wo.cell? ⟨lb, lo + r, none⟩ = some (.int .i64 (q : Int)) := by rw [hlc r (by omega), natI_at' hlq]
    obtain ⟨rb, ro, rc, cT0, hrc1, hrc2, cTd⟩ := HT.out q hqn
    have hqnI : (q : Int) < (n : Int) := by omega
    have hrI : (r : Int) < (r : Int) + 1 := by omega
    have HTd := Lib.hid cTd
    have HcT := Lib.hid cT0
    have Hown := Lib.hid hown
    have HA := Lib.hid hA
    have Hq := Lib.hid hq
    clear hsl hlc cTd cT0 hown hA hq hc1 hlq
    go_wp2
    go_loopw [12, 13] (fun x y wr => ∃ (k : Nat) (best : Option Nat), x = .int .i64 (bestI best) ∧ y = .int .i64 k ∧ k ≤ n ∧ Hid (best = bestU l ((tabOf rs).getD q []) k) ∧ Below wo.heap.size wo wr) (fun _ y _ => n - (intOf y).toNat)
    case atStart => exact ⟨0, none, rfl, rfl, Nat.zero_le _, rfl, Below.refl _ _⟩
    case round =>
      clear clq
      obtain ⟨k, best, rfl, rfl, hk, Hbest, hbk⟩ := hrel
      obtain ⟨wj, rfl⟩ : ∃ wj : World, wj = wr := ⟨_, rfl⟩
      have hbwj := hbr.trans (hbk.mono hbr.size)
      by_cases hltk : k < n
      · have hltkI : (k : Int) < (n : Int) := by omega
        obtain ⟨y, hy⟩ : ∃ y, y = ((tabOf rs).getD q []).getD k 0 := ⟨_, rfl⟩
        have cy0 : w.cell? ⟨rb, ro + k, none⟩ = some (.int .i64 y) := by rw [hy]; exact HTd.out k hltk
        have hylo : -1 ≤ y := by
          have := (mayT_at Hm.out (a := q) (b := k) (by rw [Hl.out]; exact hqn) (by rw [Hl.out]; exact hltk)).1
          rw [hy]
          exact this
        obtain ⟨inb, hinb⟩ : ∃ inb, inb = decide (k ∈ l) := ⟨_, rfl⟩
        have cin0 := (HA.out.cell (j := k) (inL_at hltk)).1
        rw [List.take_length, ← hinb] at cin0
        have e0 := fun d os => cell_regrown (cellB' hbwj HcT.out) d os
        have e1 := fun d os => cell_regrown (cellB' hbwj cy0) d os
        have e2 := fun d os => cell_regrown (cellB' hbk cin0) d os
        have Hy := Lib.hid hy
        have Hinb := Lib.hid hinb
        have hbr2 := best_res (l := l) (row := (tabOf rs).getD q []) (best := best) (k := k) (y := y) (fun p hp => (bestU_some (l := l) (row := (tabOf rs).getD q []) (k := k) (by rw [← Hbest.out]; exact hp)).2.2) hy hylo
        rw [← hinb] at hbr2
        obtain ⟨res, hres⟩ : ∃ res, res = (!inb && decide (0 ≤ y) && resB ((tabOf rs).getD q []) best y) := ⟨_, rfl⟩
        rw [← hres] at hbr2
        have Hstep := Lib.hid hbr2
        have Hres := Lib.hid hres
        have HY := Lib.hid hy
        clear hy hinb cin0 cy0 hbr2 hres hylo
        go_upto_region 14 with fail
        go_cut [88] from 53 to 88 (fun s88 wx => s88 = .bool res ∧ Below wj.heap.size wj wx)
        case first =>
          cases inb with
          | true =>
            have Hz : Hid (res = false) := by show _ = _; rw [Hres.out]; rfl
            as_aux_lemma =>
              go_wp2
              refine wp_region_quiet_below (by kernel_rfl) (by kernel_rfl) ?_
              repeat (go_big_quiet_step (fail))
              refine wpQuiet_nil ?_
              rintro w' ⟨⟨d9, os⟩, hw'⟩
              have hb' : Below wj.heap.size wj w' := by rw [hw']; exact below_regrown wj d9 os
              clear hw'
              go_wp2
              go_meet
              exact ⟨congrArg Value.bool Hz.out.symm, hb'⟩
          | false =>
            by_cases hy0 : 0 ≤ y
            · have d2 : decide (0 ≤ y) = true := decide_eq_true hy0
              cases best with
              | none =>
                have hbI : bestI none = -1 := rfl
                have Hz : Hid (res = true) := by show _ = _; rw [Hres.out, d2]; rfl
                clear hy0
                rw [hbI]
                as_aux_lemma =>
                  go_wp2
                  refine wp_region_quiet_below (by kernel_rfl) (by kernel_rfl) ?_
                  repeat (go_big_quiet_step (fail))
                  refine wpQuiet_nil ?_
                  rintro w' ⟨⟨d9, os⟩, hw'⟩
                  have hb' : Below wj.heap.size wj w' := by rw [hw']; exact below_regrown wj d9 os
                  clear hw'
                  go_wp2
                  go_meet
                  exact ⟨congrArg Value.bool Hz.out.symm, hb'⟩
              | some p =>
                have hbI : bestI (some p) = (p : Int) := rfl
                obtain ⟨hpk, _, _⟩ := bestU_some Hbest.out.symm
                have hpI : (p : Int) < (n : Int) := by omega
                have hp0 : decide ((p : Int) < 0) = false := decide_eq_false (by omega)
                obtain ⟨z, hz⟩ : ∃ z, z = ((tabOf rs).getD q []).getD p 0 := ⟨_, rfl⟩
                have cz0 : w.cell? ⟨rb, ro + p, none⟩ = some (.int .i64 z) := by rw [hz]; exact HTd.out p (by omega)
                have e3 := fun d os => cell_regrown (cellB' hbwj cz0) d os
                have Hz : Hid (res = decide (y < z)) := by show _ = _; rw [Hres.out, d2, hz]; rfl
                clear hy0 hz cz0
                rw [hbI]
                as_aux_lemma =>
                  go_wp2
                  refine wp_region_quiet_below (by kernel_rfl) (by kernel_rfl) ?_
                  repeat (go_big_quiet_step (fail))
                  refine wpQuiet_nil ?_
                  rintro w' ⟨⟨d9, os⟩, hw'⟩
                  have hb' : Below wj.heap.size wj w' := by rw [hw']; exact below_regrown wj d9 os
                  clear hw'
                  go_wp2
                  go_meet
                  exact ⟨congrArg Value.bool Hz.out.symm, hb'⟩
            · have d2 : decide (0 ≤ y) = false := decide_eq_false hy0
              have Hz : Hid (res = false) := by show _ = _; rw [Hres.out, d2]; rfl
              clear hy0
              as_aux_lemma =>
                go_wp2
                refine wp_region_quiet_below (by kernel_rfl) (by kernel_rfl) ?_
                repeat (go_big_quiet_step (fail))
                refine wpQuiet_nil ?_
                rintro w' ⟨⟨d9, os⟩, hw'⟩
                have hb' : Below wj.heap.size wj w' := by rw [hw']; exact below_regrown wj d9 os
                clear hw'
                go_wp2
                go_meet
                exact ⟨congrArg Value.bool Hz.out.symm, hb'⟩
        case rest =>
        obtain ⟨rfl, hbx⟩ := hcut
        have hbk2 := hbk.trans (hbx.mono hbk.size)
        clear e0 e1 e2 hbx
        cases hr : res with
        | true =>
          have Hzz : Hid (bestU l ((tabOf rs).getD q []) (k + 1) = some k) := by show _ = _; rw [bestU_succ, ← Hbest.out, Hstep.out, hr]; rfl
          clear hr
          go_wp2
          go_roundw
          case rel => exact ⟨k + 1, some k, rfl, by go_num, by omega, Hzz.out.symm, hbk2⟩
          case measure => simp [intOf]; omega
        | false =>
          have Hzz : Hid (bestU l ((tabOf rs).getD q []) (k + 1) = best) := by show _ = _; rw [bestU_succ, ← Hbest.out, Hstep.out, hr]; rfl
          clear hr
          go_wp2
          go_roundw
          case rel => exact ⟨k + 1, best, rfl, by go_num, by omega, Hzz.out.symm, hbk2⟩
          case measure => simp [intOf]; omega
      · obtain rfl : n = k := by omega
        have hltn : ¬ (n : Int) < (n : Int) := by omega
        clear hltk
        cases best with
        | none =>
          have hbI : bestI none = -1 := rfl
          have Hst : Hid (goR (tabOf rs) n n [i] 0 = (l, cst)) := HT1.out.stop hrn (by rw [← Hq.out]; exact Hbest.out.symm)
          have hownE := Hown.out.below hbk (Nat.le_refl _)
          rw [hbI]
          go_wp2
          refine bodyPost_ret (v := .tuple #[.slice (some ⟨lb, lo, none⟩) (r + 1) cv, .int .i64 cst, .int .i64 0]) (by simp [results, Try.results45, go_sem]) rfl ?_
          rw [Hst.out]
          exact ⟨_, rfl, by rw [hll]; exact hownE, hbwj⟩
        | some p =>
          have hbI : bestI (some p) = (p : Int) := rfl
          obtain ⟨hpk, hpl, hpne⟩ := bestU_some Hbest.out.symm
          have hpI : (p : Int) < (n : Int) := by omega
          have hp0 : decide ((p : Int) < 0) = false := decide_eq_false (by omega)
          have hstep := HT1.out.step hrn (b := p) (by rw [← Hq.out]; exact Hbest.out.symm)
          have hlt2 := hstep.lt
          obtain ⟨z, hz⟩ : ∃ z, z = ((tabOf rs).getD q []).getD p 0 := ⟨_, rfl⟩
          have hgz : gt (tabOf rs) (lastN l) p = z := by rw [← Hq.out, hz]; rfl
          rw [hgz] at hstep
          have cz0 : w.cell? ⟨rb, ro + p, none⟩ = some (.int .i64 z) := by rw [hz]; exact HTd.out p hpk
          have hzb := mayT_at Hm.out (a := q) (b := p) (by rw [Hl.out]; exact hqn) (by rw [Hl.out]; exact hpk)
          have hzl : -1 ≤ z := by rw [hz]; exact hzb.1
          have hzh : z ≤ 1099511627776 := by rw [hz]; exact hzb.2
          have cT := cellB' hbwj HcT.out
          have cz := cellB' hbwj cz0
          have hownj := Hown.out.below hbk (Nat.le_refl _)
          have hAj := HA.out.below hbk (Nat.le_refl _)
          have cin := hAj.cell (j := p) (x := false) (by rw [inL_at hpk, List.take_length]; simp [hpl])
          obtain ⟨cin, fin⟩ := cin
          have hne := own_ne_brow hownj hAj
          have hA5 : BRowAt w.heap.size (wj.setCell ⟨g, p, none⟩ (.bool true)) g n (inL n (l ++ [p]) (l ++ [p]).length) := by rw [← inL_app hpk]; exact hAj.set p true
          have hown5 := OwnI.kept hownj (grown_set wj g p (.bool true)) (.inr hne)
          have hb5 := hbwj.setCell (p := ⟨g, p, none⟩) hAj.lo (.bool true)
          have hb5s := hb5.size
          have Hstep := Lib.hid hstep
          clear hz hgz cz0 hzb hownj hAj hstep hne hpne hpl
          rw [hbI]
          have hsz : (wj.setCell ⟨g, p, none⟩ (.bool true)).heap.size = wj.heap.size := by simp
          go_wp2_with (at_builtin; refine wpList_append_own _ rfl _ _ 36 rfl w.heap.size 3 i0 (.int .i64 0) 1 8 Try.underlying36 hi hz0 hz1 hz2 rfl (by decide) _ _ _ rfl (hown5.alloc _) ⟨wj.heap.size, 0, none⟩ 1 1 [.int .i64 p] rfl rfl (by rw [← hsz]; exact cell_one_new _ _ _) (by simp [Value.oneCell']) (by unfold maxLen; omega) (by omega) (by simp; omega) ?_; intro v' w8 hown' hgrow _)
          have hb8 : Below w.heap.size w w8 := (hb5.alloc (by simp; omega) _).grown hgrow (by simp; omega) (fun j ej => (hown5.lt _ ej).1)
          have hA8 : BRowAt w.heap.size w8 g n (inL n (l ++ [p]) (l ++ [p]).length) := by
            have hA6 := hA5.kept (Below.heap_alloc (wj.setCell ⟨g, p, none⟩ (.bool true)) (.cells #[.int .i64 (p : Int)] 3) g hA5.lt)
            exact hA6.kept (hgrow.block g hA6.lt (fun e => own_ne_brow hown5 hA5 e.symm))
          have hown8 : OwnI .i64 3 w.heap.size w8 v' (l ++ [p]).length (natI (l ++ [p])) := by
            show w8.ownsRow _ _ _ _ _ _
            rw [natI_app, List.map_append, List.length_append, List.length_singleton, hll]
            exact hown'
          clear hown' hgrow hown5 hA5 hb5
          go_wp2
          go_roundw
          case rel => exact ⟨r + 1, l ++ [p], cst + z, by go_num, rfl, hown8, hA8, Hstep.out, hb8⟩
          case measure => simp [intOf]; omega


set_option maxRecDepth 100000 in
set_option maxHeartbeats 1000000 in
theorem refround_no (a : Option Addr) (n c : Nat) (rs : List TRow) (i : Int) (w : World) (hx : SlT w a n c rs) (hno : ¬ (mayT (tabOf rs) = true ∧ 0 ≤ i ∧ i < n)) :
    Calls Try.prog 45 #[.slice a n c, .int .i64 i] w fun e w' => e = .returned (.tuple #[.slice none 0 0, .int .i64 0, .int .i64 2]) ∧ Below w.heap.size w w' := by
  have Hx := Lib.hid hx
  clear hx
  by_cases hm : mayT (tabOf rs) = true
  · have Hm := Lib.hid hm
    by_cases h0 : 0 ≤ i
    · have d0 : decide (i < 0) = false := decide_eq_false (by omega)
      have d1 : decide ((n : Int) ≤ i) = true := decide_eq_true (by
        rcases Int.lt_or_le i n with h | h
        · exact absurd ⟨hm, h0, h⟩ hno
        · exact h)
      clear hm hno
      go_enter Try.func45, Try.ntmps45
      go_wp2_with fail
      refine (refmay_tab a n c rs _ Hx.out).mono ?_
      rw [Hm.out]
      rintro e w1 ⟨rfl, hb1⟩
      go_wp2
      refine bodyPost_ret (v := .tuple #[.slice none 0 0, .int .i64 0, .int .i64 2]) (by simp [results, Try.results45, go_sem]) rfl ?_
      exact ⟨rfl, hb1⟩
    · have d0 : decide (i < 0) = true := decide_eq_true (by omega)
      clear hm hno
      go_enter Try.func45, Try.ntmps45
      go_wp2_with fail
      refine (refmay_tab a n c rs _ Hx.out).mono ?_
      rw [Hm.out]
      rintro e w1 ⟨rfl, hb1⟩
      go_wp2
      refine bodyPost_ret (v := .tuple #[.slice none 0 0, .int .i64 0, .int .i64 2]) (by simp [results, Try.results45, go_sem]) rfl ?_
      exact ⟨rfl, hb1⟩
  · have Hm : Hid (mayT (tabOf rs) = false) := by show _ = _; simpa using hm
    clear hm hno
    go_enter Try.func45, Try.ntmps45
    go_wp2_with fail
    refine (refmay_tab a n c rs _ Hx.out).mono ?_
    rw [Hm.out]
    rintro e w1 ⟨rfl, hb1⟩
    go_wp2
    refine bodyPost_ret (v := .tuple #[.slice none 0 0, .int .i64 0, .int .i64 2]) (by simp [results, Try.results45, go_sem]) rfl ?_
    exact ⟨rfl, hb1⟩

theorem refround_any (a : Option Addr) (n c : Nat) (rs : List TRow) (i : Int) (w : World) (hx : SlT w a n c rs) :
    Calls Try.prog 45 #[.slice a n c, .int .i64 i] w fun e w' => ∃ v, e = .returned (.tuple #[v, .int .i64 (rouP (tabOf rs) i).2, .int .i64 (rouE (tabOf rs) i)]) ∧ OwnI .i64 3 w.heap.size w' v (rouP (tabOf rs) i).1.length (natI (rouP (tabOf rs) i).1) ∧ Below w.heap.size w w' := by
  have hl := hx.tlen
  unfold rouP rouE
  rw [hl]
  by_cases h : mayT (tabOf rs) = true ∧ 0 ≤ i ∧ i < n
  · rw [if_pos h, if_pos h]
    obtain ⟨j, rfl⟩ := Int.eq_ofNat_of_zero_le h.2.1
    exact refround_yes a n c rs j w hx h.1 (by omega)
  · rw [if_neg h, if_neg h]
    refine (refround_no a n c rs i w hx h).mono ?_
    rintro e w' ⟨rfl, hb⟩
    exact ⟨_, rfl, OwnI.nil _ _ _ _, hb⟩

end Go.Proofs.Ytilhmlapbifbbaa
