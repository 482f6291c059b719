/- Walks: where two tables are unlike, by the document. -/
import Derived.Test.YtilhmlapbifbbaaPrR
import Derived.Test.YtilhmlapbifbbaaRsh
import Derived.Deep.AppendLies
namespace Go.Proofs.Ytilhmlapbifbbaa
open Go.RowKit Go.Shelf Go.Sort

set_option maxRecDepth 100000 in
set_option maxHeartbeats 20000000 in
theorem refchanged_yes (a a2 : Option Addr) (n c c2 : Nat) (rs ss : List TRow) (w : World) (hx : SlT w a n c rs) (hy : SlT w a2 n c2 ss) (hm : mayT (tabOf rs) = true) (hm2 : mayT (tabOf ss) = true) :
    Calls Try.prog 47 #[.slice a n c, .slice a2 n c2] w fun e w' => ∃ v, e = .returned (.tuple #[v, .int .i64 0]) ∧ OwnP w.heap.size w' v (chL (tabOf rs) (tabOf ss) (prs n)).length (chL (tabOf rs) (tabOf ss) (prs n)) ∧ Below w.heap.size w w' := by
  have hmax := hx.sl.max
  have hle := hx.sl.le
  have hmax2 := hy.sl.max
  have hle2 := hy.sl.le
  have hl := hx.tlen
  have hl2 := hy.tlen
  obtain ⟨hn12, hsq⟩ := mayT_sq hm
  obtain ⟨_, hsq2⟩ := mayT_sq hm2
  rw [hl] at hn12 hsq
  rw [hl2] at hsq2
  have Hx := Lib.hid hx
  have Hy := Lib.hid hy
  have Hm := Lib.hid hm
  have Hm2 := Lib.hid hm2
  have Hsq := Lib.hid hsq
  have Hsq2 := Lib.hid hsq2
  obtain ⟨i0, hi, hz0, hz1, hz2⟩ := info_parts info_pair
  clear hm hm2 hx hy hl hl2 hsq hsq2
  go_enter Try.func47, Try.ntmps47
  go_wp2_with fail
  refine (refmay_tab a n c rs _ Hx.out).mono ?_
  rw [Hm.out]
  rintro e w1 ⟨rfl, hb1⟩
  go_wp2_with fail
  refine (refmay_tab a2 n c2 ss _ (Hy.out.below hb1 (Nat.le_refl _))).mono ?_
  rw [Hm2.out]
  rintro e w2 ⟨rfl, hb2⟩
  have hb12 := hb1.trans (hb2.mono hb1.size)
  clear hb1 hb2
  go_wp2
  go_loopw [6, 7] (fun v y wr => ∃ (i : Nat), y = .int .i64 i ∧ i ≤ n ∧ OwnP w.heap.size wr v (chL (tabOf rs) (tabOf ss) (prU n i 0)).length (chL (tabOf rs) (tabOf ss) (prU n i 0)) ∧ Below w.heap.size w wr) (fun _ y _ => n - (intOf y).toNat)
  case atStart => exact ⟨0, rfl, Nat.zero_le _, by rw [prU_zero]; exact OwnP.nil _ _, hb12⟩
  case round =>
    clear hb12
    obtain ⟨i, rfl, hi2, hown, hbr⟩ := hrel
    by_cases hlti : i < n
    · have hltiI : (i : Int) < (n : Int) := by omega
      go_wp2
      go_loopw [6, 8] (fun v y wr => ∃ (j : Nat), y = .int .i64 j ∧ j ≤ n ∧ OwnP w.heap.size wr v (chL (tabOf rs) (tabOf ss) (prU n i j)).length (chL (tabOf rs) (tabOf ss) (prU n i j)) ∧ Below w.heap.size w wr) (fun _ y _ => n - (intOf y).toNat)
      case atStart => exact ⟨0, rfl, Nat.zero_le _, hown, hbr⟩
      case round =>
        clear hown hbr
        obtain ⟨j, rfl, hj2, hown, hbr⟩ := hrel
        obtain ⟨wj, rfl⟩ : ∃ wj : World, wj = wr := ⟨_, rfl⟩
        by_cases hltj : j < n
        · have hltjI : (j : Int) < (n : Int) := by omega
          obtain ⟨b0, o0, rfl, hT⟩ := Hx.out.at2' Hsq.out (by omega)
          obtain ⟨b1, o1, rfl, hS⟩ := Hy.out.at2' Hsq2.out (by omega)
          obtain ⟨rb, ro, rc, cT0, hr1, hr2, cTj⟩ := hT i hlti
          obtain ⟨sb, so, sc, cS0, hs1, hs2, cSj⟩ := hS i hlti
          obtain ⟨x, hxd⟩ : ∃ x, x = gt (tabOf rs) i j := ⟨_, rfl⟩
          obtain ⟨y, hyd⟩ : ∃ y, y = gt (tabOf ss) i j := ⟨_, rfl⟩
          have cx0 := cTj j hltj
          have cy0 := cSj j hltj
          rw [← hxd] at cx0
          rw [← hyd] at cy0
          have e0 := fun d os => cell_regrown (cellB' hbr cT0) d os
          have e1 := fun d os => cell_regrown (cellB' hbr cS0) d os
          have e2 := fun d os => cell_regrown (cellB' hbr cx0) d os
          have e3 := fun d os => cell_regrown (cellB' hbr cy0) d os
          have hch : Hid (chL (tabOf rs) (tabOf ss) (prU n i (j + 1)) = chL (tabOf rs) (tabOf ss) (prU n i j) ++ if (x != y) = true then [(i, j)] else []) := by show _ = _; rw [prU_step hlti hltj, chL_app, chL_one, ← hxd, ← hyd]
          have hlen : (chL (tabOf rs) (tabOf ss) (prU n i j)).length ≤ 1000 := by
            have h1 := List.length_filter_le (fun p => gt (tabOf rs) p.1 p.2 != gt (tabOf ss) p.1 p.2) (prU n i j)
            have h2 : (prU n i j).length ≤ n * n := by
              unfold prU
              rw [List.length_take]
              have : (prs n).length = n * n := by simp [prs]
              omega
            have h3 : n * n ≤ 12 * 12 := Nat.mul_le_mul hn12 hn12
            unfold chL
            omega
          obtain ⟨L, hL⟩ : ∃ L, L = (chL (tabOf rs) (tabOf ss) (prU n i j)).length := ⟨_, rfl⟩
          rw [← hL] at hown hlen
          have HL := Lib.hid hL
          have Hown := Lib.hid hown
          have Hbr := Lib.hid hbr
          clear hT hS cT0 cS0 cTj cSj cx0 cy0 hxd hyd hL hown hbr
          go_upto_region 10 with fail
          go_cut [50] from 36 to 50 (fun s50 wx => s50 = .bool (x != y) ∧ Below wj.heap.size wj wx)
          case first =>
            as_aux_lemma =>
              go_wp2
              refine wp_region_quiet_below (by kernel_rfl) (by kernel_rfl) ?_
              repeat (go_big_quiet_step (fail))
              refine wpQuiet_nil ?_
              rintro w' ⟨⟨d9, os⟩, hw'⟩
              have hb' : Below wj.heap.size wj w' := by rw [hw']; exact below_regrown wj d9 os
              clear hw'
              go_wp2
              go_meet
              exact ⟨rfl, hb'⟩
          case rest =>
          obtain ⟨rfl, hbk⟩ := hcut
          obtain ⟨wk, rfl⟩ : ∃ wk : World, wk = wc := ⟨_, rfl⟩
          have hown3 := Hown.out.below hbk (Nat.le_refl _)
          have hbr3 := Hbr.out.trans (hbk.mono Hbr.out.size)
          have hbr3s := hbr3.size
          clear e0 e1 e2 e3 hbk Hown Hbr
          cases hxy : (x != y) with
          | false =>
            rw [hxy] at hch
            clear hxy
            go_wp2
            go_roundw
            case rel => exact ⟨j + 1, by go_num, by omega, by rw [hch.out, if_neg (by simp), List.append_nil, ← HL.out]; exact hown3, hbr3⟩
            case measure => simp [intOf]; omega
          | true =>
            rw [hxy] at hch
            clear hxy
            go_wp2_with (at_builtin; go_loud (refine wpList_append_own _ rfl _ _ 61 rfl w.heap.size 65 i0 (.agg #[.int .i64 0, .int .i64 0]) 2 16 Try.underlying61 hi hz0 hz1 hz2 rfl (by decide) _ _ _ rfl (hown3.2.alloc _) ⟨wk.heap.size, 0, none⟩ 1 1 [.int .i64 i, .int .i64 j] rfl rfl (World.news_of_block (heap_alloc_new wk _)) (by simp [Value.oneCell']) (by unfold maxLen; omega) (by omega) (by simp; omega) ?_); intro v' w8 hown' hgrow _)
            have hb8 : Below w.heap.size w w8 := (hbr3.alloc hbr3s _).grown hgrow (by simp; omega) (fun j ej => (hown3.2.lt _ ej).1)
            have hown8 := OwnP.push (p := (i, j)) hown3 hown'
            clear hown' hgrow
            go_wp2
            go_roundw
            case rel => exact ⟨j + 1, by go_num, by omega, by rw [hch.out, if_pos rfl, List.length_append, List.length_singleton, ← HL.out]; exact hown8, hb8⟩
            case measure => simp [intOf]; omega
        · obtain rfl : n = j := by omega
          have hltnj : ¬ (n : Int) < (n : Int) := by omega
          clear hltj
          go_wp2
          go_roundw
          case rel => exact ⟨i + 1, by go_num, by omega, by rw [← prU_row]; exact hown, hbr⟩
          case measure => simp [intOf]; omega
    · obtain rfl : n = i := by omega
      have hltni : ¬ (n : Int) < (n : Int) := by omega
      rw [prU_all] at hown
      go_wp2
      refine bodyPost_ret (v := .tuple #[u6, .int .i64 0]) (by simp [results, Try.results47, go_sem]) rfl ?_
      exact ⟨_, rfl, hown, hbr⟩

set_option maxRecDepth 100000 in
set_option maxHeartbeats 1000000 in
theorem refchanged_no (a a2 : Option Addr) (n c n2 c2 : Nat) (rs ss : List TRow) (w : World) (hx : SlT w a n c rs) (hy : SlT w a2 n2 c2 ss) (hno : ¬ (mayT (tabOf rs) = true ∧ mayT (tabOf ss) = true ∧ n = n2)) :
    Calls Try.prog 47 #[.slice a n c, .slice a2 n2 c2] w fun e w' => e = .returned (.tuple #[.slice none 0 0, .int .i64 2]) ∧ Below w.heap.size w w' := by
  have Hx := Lib.hid hx
  have Hy := Lib.hid hy
  clear hx hy
  by_cases hm : mayT (tabOf rs) = true
  · have Hm := Lib.hid hm
    by_cases hm2 : mayT (tabOf ss) = true
    · have Hm2 := Lib.hid hm2
      have q1 : ((n : Int) != (n2 : Int)) = true := by
        have : n ≠ n2 := fun h => hno ⟨hm, hm2, h⟩
        simp
        omega
      clear hm hm2 hno
      go_enter Try.func47, Try.ntmps47
      go_wp2_with fail
      refine (refmay_tab a n c rs _ Hx.out).mono ?_
      rw [Hm.out]
      rintro e w1 ⟨rfl, hb1⟩
      go_wp2_with fail
      refine (refmay_tab a2 n2 c2 ss _ (Hy.out.below hb1 (Nat.le_refl _))).mono ?_
      rw [Hm2.out]
      rintro e w2 ⟨rfl, hb2⟩
      go_wp2
      refine bodyPost_ret (v := .tuple #[.slice none 0 0, .int .i64 2]) (by simp [results, Try.results47, go_sem]) rfl ?_
      exact ⟨rfl, hb1.trans (hb2.mono hb1.size)⟩
    · have Hm2 : Hid (mayT (tabOf ss) = false) := by show _ = _; simpa using hm2
      clear hm hm2 hno
      go_enter Try.func47, Try.ntmps47
      go_wp2_with fail
      refine (refmay_tab a n c rs _ Hx.out).mono ?_
      rw [Hm.out]
      rintro e w1 ⟨rfl, hb1⟩
      go_wp2_with fail
      refine (refmay_tab a2 n2 c2 ss _ (Hy.out.below hb1 (Nat.le_refl _))).mono ?_
      rw [Hm2.out]
      rintro e w2 ⟨rfl, hb2⟩
      go_wp2
      refine bodyPost_ret (v := .tuple #[.slice none 0 0, .int .i64 2]) (by simp [results, Try.results47, go_sem]) rfl ?_
      exact ⟨rfl, hb1.trans (hb2.mono hb1.size)⟩
  · have Hm : Hid (mayT (tabOf rs) = false) := by show _ = _; simpa using hm
    clear hm hno
    go_enter Try.func47, Try.ntmps47
    go_wp2_with fail
    refine (refmay_tab a n c rs _ Hx.out).mono ?_
    rw [Hm.out]
    rintro e w1 ⟨rfl, hb1⟩
    go_wp2
    refine bodyPost_ret (v := .tuple #[.slice none 0 0, .int .i64 2]) (by simp [results, Try.results47, go_sem]) rfl ?_
    exact ⟨rfl, hb1⟩

theorem refchanged_any (a a2 : Option Addr) (n c n2 c2 : Nat) (rs ss : List TRow) (w : World) (hx : SlT w a n c rs) (hy : SlT w a2 n2 c2 ss) :
    Calls Try.prog 47 #[.slice a n c, .slice a2 n2 c2] w fun e w' => ∃ v, e = .returned (.tuple #[v, .int .i64 (chE (tabOf rs) (tabOf ss))]) ∧ OwnP w.heap.size w' v (chP (tabOf rs) (tabOf ss)).length (chP (tabOf rs) (tabOf ss)) ∧ Below w.heap.size w w' := by
  have hl := hx.tlen
  have hl2 := hy.tlen
  unfold chE chP
  rw [hl, hl2]
  by_cases h : mayT (tabOf rs) = true ∧ mayT (tabOf ss) = true ∧ n = n2
  · rw [if_pos h, if_pos h]
    obtain ⟨h1, h2, rfl⟩ := h
    exact refchanged_yes a a2 n c c2 rs ss w hx hy h1 h2
  · rw [if_neg h, if_neg h]
    refine (refchanged_no a a2 n c n2 c2 rs ss w hx hy h).mono ?_
    rintro e w' ⟨rfl, hb⟩
    exact ⟨_, rfl, OwnP.nil _ _, hb⟩

end Go.Proofs.Ytilhmlapbifbbaa
