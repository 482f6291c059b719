/- Walks: the reference's short table. -/
import Derived.Test.YtilhmlapbifbbaaGrpN
import Derived.Test.YtilhmlapbifbbaaBfP
import Derived.StillTail
import Derived.Lib.QuietBelow
import Derived.Deep.DeepCutAuto
import Derived.Deep.CutRange
namespace Go.Proofs.Ytilhmlapbifbbaa
open Go.RowKit Go.Shelf Go.Sort

theorem MRowAt.below' {B B2 : Nat} {w w' : World} {m : MRow} (h : MRowAt B w m) (hb : Below B2 w w') (hB : w.heap.size ≤ B2) : MRowAt B w' m := h.kept (hb.block m.g (Nat.lt_of_lt_of_le h.lt hB))
theorem MRowAt.of_made' {B : Nat} {w : World} {g n c : Nat} {xs : List Int} (h : w.ownsRow B 3 1 (.slice (some ⟨g, 0, none⟩) n c) n (xs.map (Value.int .i64))) (hl : xs.length = n) : MRowAt B w ⟨g, c, xs⟩ := by
  rcases h.2 with ⟨h0, _⟩ | ⟨g', cap, cur, e, hB, hg, h1, h2, h3, h4⟩
  · cases h0
  · cases e
    subst hl
    exact ⟨hB, ⟨cur, hg, by simpa using h3, by simpa using h4⟩, h1, h2⟩
theorem made_int' (n : Nat) : (madeCells #[Value.int .i64 0] (n * 1)).toList = (List.replicate n (0 : Int)).map (Value.int .i64) := by
  unfold madeCells
  rw [Array.toList_map, Array.toList_range, Nat.mul_one, List.map_replicate]
  apply List.ext_getElem
  · simp
  · intro i h1 h2
    simp [Nat.mod_one]
/-- The first b are -1. -/
def Min1 (n b : Nat) (xs : List Int) : Prop := xs.length = n ∧ ∀ j, j < b → xs[j]? = some (-1)
theorem Min1.step {n b : Nat} {xs : List Int} (h : Min1 n b xs) (hb : b < n) : Min1 n (b + 1) (xs.set b (-1)) := by
  refine ⟨by simp [h.1], fun j hj => ?_⟩
  rw [List.getElem?_set]
  by_cases e : b = j
  · subst e; rw [if_pos rfl, if_pos (by rw [h.1]; exact hb)]
  · rw [if_neg e]; exact h.2 j (by omega)
theorem Min1.all {n : Nat} {xs : List Int} (h : Min1 n n xs) : xs = List.replicate n (-1) := by
  apply List.ext_getElem?
  intro j
  by_cases hj : j < n
  · rw [h.2 j hj]; simp [hj]
  · rw [List.getElem?_eq_none (by rw [h.1]; omega), List.getElem?_eq_none (by simp; omega)]

/-- A square table, cell by cell. -/
theorem SlT.at2' {w : World} {a : Option Addr} {n c : Nat} {rs : List TRow} (h : SlT w a n c rs) (hq : Sq n (tabOf rs)) (hn : 0 < n) : ∃ b off, a = some ⟨b, off, none⟩ ∧ ∀ i, i < n → ∃ rb ro rc, w.cell? ⟨b, off + i, none⟩ = some (.slice (some ⟨rb, ro, none⟩) n rc) ∧ n ≤ rc ∧ rc ≤ 9223372036854775807 ∧ ∀ j, j < n → w.cell? ⟨rb, ro + j, none⟩ = some (.int .i64 (gt (tabOf rs) i j)) := by
  obtain ⟨b, off, _, rfl, _⟩ := h.row hn
  refine ⟨b, off, rfl, fun i hi => ?_⟩
  obtain ⟨b', off', r, e, hr, hc, hs, ht⟩ := h.row hi
  simp only [Option.some.injEq, Addr.mk.injEq, and_true] at e
  obtain ⟨rfl, rfl⟩ := e
  have hrn : r.n = n := by
    have h1 := hs.len
    rw [← h1]
    exact hq.2 _ (List.mem_map.2 ⟨r, List.mem_of_getElem? hr, rfl⟩)
  have hle := hs.le
  have hmx := hs.max
  rw [hrn] at hs hc hle
  obtain ⟨rb, ro, hra, hcell⟩ := hs.at0 hn
  rw [hra] at hc
  refine ⟨rb, ro, r.c, hc, hle, hmx, fun j hj => ?_⟩
  have := hcell j hj
  unfold gt
  rw [ht]
  exact this
theorem cellB' {w w' : World} {p : Addr} {v : Value} (hb : Below w.heap.size w w') (h : w.cell? p = some v) : w'.cell? p = some v :=
  (hb.cell (World.block_lt_of_cell? w _ h)).trans h

set_option maxRecDepth 100000 in
set_option maxHeartbeats 20000000 in
theorem refshort_yes (a : Option Addr) (n c : Nat) (rs : List TRow) (w : World) (hx : SlT w a n c rs) (hm : mayT (tabOf rs) = true) :
    Calls Try.prog 43 #[.slice a n c] w fun e w' => ∃ v ms, e = .returned (.tuple #[v, .int .i64 0]) ∧ Mat w.heap.size w' v ms ∧ mTab ms = bfT (tabOf rs) n ∧ Below w.heap.size w w' := by
  have hmax := hx.sl.max
  have hle := hx.sl.le
  have hl := hx.tlen
  obtain ⟨hn12, hsq⟩ := mayT_sq hm
  rw [hl] at hn12 hsq
  have Hx := Lib.hid hx
  have Hm := Lib.hid hm
  have Hl := Lib.hid hl
  have Hsq := Lib.hid hsq
  have hmo : Try.prog.follows .mixedOrders = true := by kernel_rfl
  obtain ⟨i0, hi, hz0, hz1, hz2⟩ := info_parts info_i64'
  obtain ⟨i1, hi', hz0', hz1', hz2'⟩ := info_parts info_row
  clear hm hx hl hsq
  go_enter Try.func43, Try.ntmps43
  go_wp2_with fail
  refine (refmay_tab a n c rs _ Hx.out).mono ?_
  rw [Hm.out]
  rintro e w1 ⟨rfl, hb1⟩
  go_wp2
  go_loopw [4, 5] (fun v y wr => ∃ (k : Nat) (ms : List MRow), y = .int .i64 k ∧ k ≤ n ∧ Mat w.heap.size wr v ms ∧ Hid (mTab ms = bfT (tabOf rs) k) ∧ Below w.heap.size w wr) (fun _ y _ => n - (intOf y).toNat)
  case atStart => exact ⟨0, [], rfl, Nat.zero_le _, Mat.nil _ _, rfl, hb1⟩
  case round =>
    clear hb1
    obtain ⟨wo, rfl⟩ : ∃ wo : World, wo = wr := ⟨_, rfl⟩
    obtain ⟨k, ms, rfl, hk, hmat, Hms, hB⟩ := hrel
    have hBs := hB.size
    by_cases hlt : k < n
    · have hltI : (k : Int) < (n : Int) := by omega
      have hml : ms.length = k := by have := congrArg List.length Hms.out; simpa [mTab, bfT] using this
      go_wp2_with (at_make; refine wpList_make_full _ rfl _ _ 36 rfl wo.heap.size 3 i0 (.int .i64 0) 1 Try.underlying36 hi hz0 hz1 .i64 .i64 (n : Int) (n : Int) n rfl rfl rfl rfl (by rw [hz2]; omega) (by unfold maxLen; omega) (Nat.le_refl _) ?_; intro w2 hown2 hgrow2)
      have hA2 : MRowAt wo.heap.size w2 ⟨wo.heap.size, n, List.replicate n 0⟩ := MRowAt.of_made' (by rw [← made_int']; exact hown2) (by simp)
      have hb2 : Below wo.heap.size wo w2 := (Below.refl _ _).grown hgrow2 (Nat.le_refl _) (by simp)
      obtain ⟨g, hg⟩ : ∃ g, g = wo.heap.size := ⟨_, rfl⟩
      have hgw : wo.heap.size ≤ g := by omega
      have hA2 : MRowAt wo.heap.size w2 ⟨g, n, List.replicate n 0⟩ := by rw [hg]; exact hA2
      rw [← hg]
      clear hown2 hgrow2 hg
      go_wp2
      go_loopw [7] (fun y wr => ∃ (b : Nat) (xs : List Int), y = .int .i64 b ∧ b ≤ n ∧ MRowAt wo.heap.size wr ⟨g, n, xs⟩ ∧ Hid (Min1 n b xs) ∧ Below wo.heap.size wo wr) (fun y _ => n - (intOf y).toNat)
      case atStart => exact ⟨0, _, rfl, Nat.zero_le _, hA2, ⟨by simp, fun j hj => by omega⟩, hb2⟩
      case round =>
        clear hA2 hb2
        obtain ⟨b, xs, rfl, hb, hA, HM, hbr⟩ := hrel
        by_cases hltb : b < n
        · have hltbI : (b : Int) < (n : Int) := by omega
          have hxl := HM.out.1
          obtain ⟨x0, hx0⟩ : ∃ x0, xs[b]? = some x0 := ⟨_, List.getElem?_eq_getElem (by omega)⟩
          obtain ⟨cx, fx⟩ := hA.cell (j := b) hx0
          simp only at cx fx
          have hA2 := hA.set b (-1)
          have hb2 := hbr.setCell (p := ⟨g, b, none⟩) hA.lo (.int .i64 (-1))
          have HM2 : Hid (Min1 n (b + 1) (xs.set b (-1))) := HM.out.step hltb
          clear hA hbr HM hx0
          go_wp2
          go_roundw
          case rel => exact ⟨b + 1, _, by go_num, by omega, hA2, HM2, hb2⟩
          case measure => simp [intOf]; omega
        · obtain rfl : n = b := by omega
          have hltn : ¬ (n : Int) < (n : Int) := by omega
          have hxs := HM.out.all
          subst hxs
          have hA0 := hA.cell (j := k) (x := -1) (by simp [hlt])
          obtain ⟨cx, fx⟩ := hA0
          simp only at cx fx
          have hA2 : MRowAt wo.heap.size (wr.setCell ⟨g, k, none⟩ (.int .i64 0)) ⟨g, n, bfIni n k⟩ := hA.set k 0
          have hb2 := hbr.setCell (p := ⟨g, k, none⟩) hA.lo (.int .i64 0)
          clear hA hbr HM hltb
          go_wp2
          go_loopw [8] (fun y wr => ∃ (r : Nat), y = .int .i64 r ∧ r ≤ n ∧ MRowAt wo.heap.size wr ⟨g, n, bfU (tabOf rs) n k r⟩ ∧ Below wo.heap.size wo wr) (fun y _ => n - (intOf y).toNat)
          case atStart => exact ⟨0, rfl, Nat.zero_le _, hA2, hb2⟩
          case round =>
            clear hA2 hb2
            obtain ⟨r, rfl, hr, hA, hbr⟩ := hrel
            by_cases hltr : r < n
            · have hltrI : (r : Int) < (n : Int) := by omega
              go_wp2
              go_loopw [9] (fun y wr => ∃ (b : Nat), y = .int .i64 b ∧ b ≤ n ∧ MRowAt wo.heap.size wr ⟨g, n, bfRndU (tabOf rs) n (bfU (tabOf rs) n k r) b⟩ ∧ Below wo.heap.size wo wr) (fun y _ => n - (intOf y).toNat)
              case atStart => exact ⟨0, rfl, Nat.zero_le _, hA, hbr⟩
              case round =>
                clear hA hbr
                obtain ⟨b, rfl, hb, hA, hbr⟩ := hrel
                by_cases hltb : b < n
                · have hltbI : (b : Int) < (n : Int) := by omega
                  have hBf : Hid (Bf n (shortP (tabOf rs)) k (144 * r + 12 * b) (bfRndU (tabOf rs) n (bfU (tabOf rs) n k r) b)) := by
                    have h0 := Hl.out
                    have h1 := (bf_upto Hm.out (show k < (tabOf rs).length by omega) r).1
                    have h2 := (bf_rndU Hm.out (show k < (tabOf rs).length by omega) h1 b (by omega)).1
                    rw [h0] at h2
                    exact h2
                  go_wp2
                  go_loopw [10] (fun y wr => ∃ (d : Nat), y = .int .i64 d ∧ d ≤ n ∧ MRowAt wo.heap.size wr ⟨g, n, bfRowU (tabOf rs) (bfRndU (tabOf rs) n (bfU (tabOf rs) n k r) b) b d⟩ ∧ Below wo.heap.size wo wr) (fun y _ => n - (intOf y).toNat)
                  case atStart => exact ⟨0, rfl, Nat.zero_le _, hA, hbr⟩
                  case round =>
                    clear hA hbr
                    obtain ⟨d, rfl, hd, hA, hbr⟩ := hrel
                    obtain ⟨xs, hxs⟩ : ∃ xs, xs = bfRowU (tabOf rs) (bfRndU (tabOf rs) n (bfU (tabOf rs) n k r) b) b d := ⟨_, rfl⟩
                    rw [← hxs] at hA
                    have Hxs := Lib.hid hxs
                    clear hxs
                    by_cases hltd : d < n
                    · have hltdI : (d : Int) < (n : Int) := by omega
                      have hB2 : Bf n (shortP (tabOf rs)) k (144 * r + 12 * b + d) xs := by
                        have h1 := hBf.out
                        rw [← Hl.out] at h1
                        have h2 := (bf_rowU Hm.out (show k < (tabOf rs).length by rw [Hl.out]; omega) (show b < (tabOf rs).length by rw [Hl.out]; omega) h1 d (by rw [Hl.out]; omega)).1
                        rw [Hl.out] at h2
                        rw [Hxs.out]
                        exact h2
                      have hxl := hB2.len
                      obtain ⟨x, hx⟩ : ∃ x, xs[b]? = some x := ⟨_, List.getElem?_eq_getElem (by omega)⟩
                      obtain ⟨y, hy⟩ : ∃ y, xs[d]? = some y := ⟨_, List.getElem?_eq_getElem (by omega)⟩
                      have ex : xs.getD b 0 = x := by rw [List.getD_eq_getElem?_getD, hx]; rfl
                      have ey : xs.getD d 0 = y := by rw [List.getD_eq_getElem?_getD, hy]; rfl
                      have bx := hB2.ge hltb
                      have bx' := hB2.hi b hltb
                      have by0 := hB2.ge hltd
                      have by1 := hB2.hi d hltd
                      rw [ex] at bx bx'
                      rw [ey] at by0 by1
                      have bx2 : x ≤ 4503599627370496 := by omega
                      have by2 : y ≤ 4503599627370496 := by omega
                      obtain ⟨t, ht⟩ : ∃ t, t = gt (tabOf rs) b d := ⟨_, rfl⟩
                      have bt := mayT_at Hm.out (a := b) (b := d) (by rw [Hl.out]; omega) (by rw [Hl.out]; omega)
                      rw [← ht] at bt
                      obtain ⟨bt0, bt1⟩ := bt
                      have hst : Hid (bfStep (tabOf rs) b xs d = if x < 0 ∨ t < 0 then xs else if y < 0 ∨ x + t < y then xs.set d (x + t) else xs) := by show _ = _; unfold bfStep; rw [ex, ey, ← ht]
                      have hst2 : Hid (bfRowU (tabOf rs) (bfRndU (tabOf rs) n (bfU (tabOf rs) n k r) b) b (d + 1) = bfStep (tabOf rs) b xs d) := by show _ = _; rw [bfRowU_succ, ← Hxs.out]
                      obtain ⟨cx, _⟩ := hA.cell (j := b) hx
                      obtain ⟨cy, fy⟩ := hA.cell (j := d) hy
                      simp only at cx cy fy
                      have hbwr := hB.trans (hbr.mono hBs)
                      obtain ⟨pb, po, hpa, hT2⟩ := Hx.out.at2' Hsq.out (by omega)
                      obtain ⟨rb, ro, rc, cT0, hrc1, hrc2, cTd⟩ := hT2 b hltb
                      have ct0 := cTd d hltd
                      rw [← ht] at ct0
                      subst hpa
                      have cT := cellB' hbwr cT0
                      have ct := cellB' hbwr ct0
                      have HA := Lib.hid hA
                      have Hbr := Lib.hid hbr
                      clear hB2 hx hy ex ey bx' by1 ht hT2 cTd cT0 ct0 hA hbr hbwr
                      by_cases hx0 : x < 0
                      · have d1 : decide (x < 0) = true := decide_eq_true hx0
                        have Hst3 : Hid (bfRowU (tabOf rs) (bfRndU (tabOf rs) n (bfU (tabOf rs) n k r) b) b (d + 1) = xs) := by show _ = _; rw [hst2.out, hst.out, if_pos (.inl hx0)]
                        go_wp2
                        go_roundw
                        case rel => exact ⟨d + 1, by go_num, by omega, by rw [Hst3.out]; exact HA.out, Hbr.out⟩
                        case measure => simp [intOf]; omega
                      · have d1 : decide (x < 0) = false := decide_eq_false hx0
                        by_cases ht0 : t < 0
                        · have d2 : decide (t < 0) = true := decide_eq_true ht0
                          have Hst3 : Hid (bfRowU (tabOf rs) (bfRndU (tabOf rs) n (bfU (tabOf rs) n k r) b) b (d + 1) = xs) := by show _ = _; rw [hst2.out, hst.out, if_pos (.inr ht0)]
                          go_wp2
                          go_roundw
                          case rel => exact ⟨d + 1, by go_num, by omega, by rw [Hst3.out]; exact HA.out, Hbr.out⟩
                          case measure => simp [intOf]; omega
                        · have d2 : decide (t < 0) = false := decide_eq_false ht0
                          have e0 := fun d os => cell_regrown cx d os
                          have e1 := fun d os => cell_regrown cy d os
                          have e2 := fun d os => cell_regrown cT d os
                          have e3 := fun d os => cell_regrown ct d os
                          obtain ⟨wj, rfl⟩ : ∃ wj : World, wj = wr := ⟨_, rfl⟩
                          obtain ⟨z, hz⟩ : ∃ z : Bool, z = (decide (y < 0) || decide (x + t < y)) := ⟨_, rfl⟩
                          go_upto_region 23 with fail
                          go_cut [91] from 68 to 91 (fun s91 wx => s91 = .bool z ∧ Below wj.heap.size wj wx)
                          case first =>
                            by_cases hy0 : y < 0
                            · have d3 : decide (y < 0) = true := decide_eq_true hy0
                              have Hz : Hid (z = true) := by show _ = _; rw [hz, d3]; rfl
                              clear hz
                              as_aux_lemma =>
                                go_wp2
                                refine wp_region_quiet_below (by kernel_rfl) (by kernel_rfl) ?_
                                repeat (go_big_quiet_step (fail))
                                refine wpQuiet_nil ?_
                                rintro w' ⟨⟨d9, os⟩, hw'⟩
                                have hb' : Below wj.heap.size wj w' := by rw [hw']; exact below_regrown wj d9 os
                                clear hw'
                                go_wp2
                                go_meet
                                exact ⟨congrArg Value.bool Hz.out.symm, hb'⟩
                            · have d3 : decide (y < 0) = false := decide_eq_false hy0
                              have Hz : Hid (z = decide (x + t < y)) := by show _ = _; rw [hz, d3]; rfl
                              clear hz
                              as_aux_lemma =>
                                go_wp2
                                refine wp_region_quiet_below (by kernel_rfl) (by kernel_rfl) ?_
                                repeat (go_big_quiet_step (fail))
                                refine wpQuiet_nil ?_
                                rintro w' ⟨⟨d9, os⟩, hw'⟩
                                have hb' : Below wj.heap.size wj w' := by rw [hw']; exact below_regrown wj d9 os
                                clear hw'
                                go_wp2
                                go_meet
                                exact ⟨congrArg Value.bool Hz.out.symm, hb'⟩
                          case rest =>
                          obtain ⟨rfl, hbk⟩ := hcut
                          obtain ⟨wk, rfl⟩ : ∃ wk : World, wk = wc := ⟨_, rfl⟩
                          have hA3 := HA.out.below' hbk (Nat.le_refl _)
                          have hbr3 := Hbr.out.trans (hbk.mono Hbr.out.size)
                          have hx1 : ¬ (x < 0 ∨ t < 0) := by omega
                          cases hzz : z with
                          | false =>
                            have hno : ¬ (y < 0 ∨ x + t < y) := by
                              rw [hzz] at hz
                              have := hz.symm
                              simp only [Bool.or_eq_false_iff, decide_eq_false_iff_not] at this
                              omega
                            have Hst3 : Hid (bfRowU (tabOf rs) (bfRndU (tabOf rs) n (bfU (tabOf rs) n k r) b) b (d + 1) = xs) := by show _ = _; rw [hst2.out, hst.out, if_neg hx1, if_neg hno]
                            clear hz hzz hno hbk e0 e1 e2 e3 cx cy fy cT ct
                            go_wp2
                            go_roundw
                            case rel => exact ⟨d + 1, by go_num, by omega, by rw [Hst3.out]; exact hA3, hbr3⟩
                            case measure => simp [intOf]; omega
                          | true =>
                            have hyes : y < 0 ∨ x + t < y := by
                              rw [hzz] at hz
                              have := hz.symm
                              simpa only [Bool.or_eq_true, decide_eq_true_eq] using this
                            have Hst3 : Hid (bfRowU (tabOf rs) (bfRndU (tabOf rs) n (bfU (tabOf rs) n k r) b) b (d + 1) = xs.set d (x + t)) := by show _ = _; rw [hst2.out, hst.out, if_neg hx1, if_pos hyes]
                            have cx3 := cellB' hbk cx
                            have cT3 := cellB' hbk cT
                            have ct3 := cellB' hbk ct
                            have cy3 := cellB' hbk cy
                            have fy3 : wk.frozen? ⟨g, d, none⟩ = false := (hA3.cell (j := d) (x := xs.getD d 0) (by show xs[d]? = some (xs.getD d 0); rw [List.getD_eq_getElem?_getD, List.getElem?_eq_getElem (by omega)]; rfl)).2
                            have hA4 := hA3.set d (x + t)
                            have hb4 := hbr3.setCell (p := ⟨g, d, none⟩) hA3.lo (.int .i64 (x + t))
                            clear hz hzz hyes hbk e0 e1 e2 e3 cx cy fy cT ct
                            go_upto_region 24 with fail
                            refine wp_region_still_tail 15 hmo (by kernel_rfl) ?_
                            simp only [List.take_succ_cons, List.take_zero, List.drop_succ_cons, List.drop_zero]
                            refine WSt.out ?_
                            iterate 15 (refine ws_step rfl (fun K hK => ?_); go_simp; refine hK _ ?_; clear hK K)
                            refine ws_nil ?_
                            go_wp2
                            go_roundw
                            case rel => exact ⟨d + 1, by go_num, by omega, by rw [Hst3.out]; exact hA4.below' (Below.refl _ _).drew (Nat.le_refl _), hb4.trans ((Below.refl _ _).drew.mono (by have := hbr3.size; simp; omega))⟩
                            case measure => simp [intOf]; omega
                    · obtain rfl : n = d := by omega
                      have hltnd : ¬ (n : Int) < (n : Int) := by omega
                      have Hn : Hid (bfRndU (tabOf rs) n (bfU (tabOf rs) n k r) (b + 1) = xs) := by show _ = _; rw [bfRndU_succ, ← Hxs.out]
                      clear hltd
                      go_wp2
                      go_roundw
                      case rel => exact ⟨b + 1, by go_num, by omega, by rw [Hn.out]; exact hA, hbr⟩
                      case measure => simp [intOf]; omega
                · obtain rfl : n = b := by omega
                  have hltnb : ¬ (n : Int) < (n : Int) := by omega
                  clear hltb
                  go_wp2
                  go_roundw
                  case rel => exact ⟨r + 1, by go_num, by omega, by rw [bfU_succ]; exact hA, hbr⟩
                  case measure => simp [intOf]; omega
            · obtain rfl : n = r := by omega
              have hltnr : ¬ (n : Int) < (n : Int) := by omega
              obtain ⟨wq, rfl⟩ : ∃ wq : World, wq = wr := ⟨_, rfl⟩
              have hmat6 := hmat.below hbr (Nat.le_refl _)
              have hB6 := hB.trans (hbr.mono hBs)
              have hB6s := hB6.size
              have hnew : ∀ m' ∈ ms, m'.g ≠ g := fun m' h' => by have := (hmat.row m' h').lt; intro e; omega
              have hnev : u4.ownBlock ≠ some g := fun e => by have := (hmat.own.lt _ e).2; omega
              have hrow6 : MRowAt w.heap.size wq ⟨g, n, bfU (tabOf rs) n k n⟩ := hA.mono hBs
              have hxl : (bfU (tabOf rs) n k n).length = n := by
                have h1 := (bf_upto Hm.out (show k < (tabOf rs).length by rw [Hl.out]; omega) n).1.len
                rw [Hl.out] at h1
                exact h1
              clear hltr hA hbr hmat
              go_wp2_with (at_builtin; refine wpList_append_own _ rfl _ _ 52 rfl w.heap.size 36 i1 (.slice none 0 0) 1 24 Try.underlying52 hi' hz0' hz1' hz2' rfl (by decide) _ _ _ rfl (hmat6.own.alloc _) ⟨wq.heap.size, 0, none⟩ 1 1 [.slice (some ⟨g, 0, none⟩) n n] rfl rfl (cell_one_new _ _ _) (by simp [Value.oneCell']) (by unfold maxLen; omega) (by omega) (by simp; omega) ?_; intro v' w8 hown' hgrow _)
              have hmv : mrV ⟨g, n, bfU (tabOf rs) n k n⟩ = .slice (some ⟨g, 0, none⟩) n n := by unfold mrV; simp only [hxl]
              have hmat8 : Mat w.heap.size w8 v' (ms ++ [⟨g, n, bfU (tabOf rs) n k n⟩]) :=
                Mat.push (hmat6.kept (World.grownBy_alloc wq _ none)) (hrow6.kept (Below.heap_alloc wq _ _ hrow6.lt)) hnew hgrow hnev (by rw [hmv]; exact hown')
              have hB8 : Below w.heap.size w w8 := (hB6.alloc hB6s _).grown hgrow (by simp; omega) (fun j ej => (hmat6.own.lt _ ej).1)
              clear hown' hgrow
              go_wp2
              go_roundw
              case rel =>
                refine ⟨k + 1, _, by go_num, by omega, hmat8, ?_, hB8⟩
                show _ = _
                rw [bfT_succ, Hl.out, ← Hms.out]
                simp [mTab]
              case measure => simp [intOf]; omega
    · obtain rfl : n = k := by omega
      have hltn : ¬ (n : Int) < (n : Int) := by omega
      go_wp2
      refine bodyPost_ret (v := .tuple #[u4, .int .i64 0]) (by simp [results, Try.results43, go_sem]) rfl ?_
      exact ⟨_, rfl, ms, hmat, Hms.out, hB⟩

set_option maxRecDepth 100000 in
theorem refshort_no (a : Option Addr) (n c : Nat) (rs : List TRow) (w : World) (hx : SlT w a n c rs) (hm : mayT (tabOf rs) = false) :
    Calls Try.prog 43 #[.slice a n c] w fun e w' => e = .returned (.tuple #[.slice none 0 0, .int .i64 2]) ∧ Below w.heap.size w w' := by
  have Hm := Lib.hid hm
  have Hx := Lib.hid hx
  clear hx hm
  go_enter Try.func43, Try.ntmps43
  go_wp2_with fail
  refine (refmay_tab a n c rs _ Hx.out).mono ?_
  rw [Hm.out]
  rintro e w1 ⟨rfl, hb1⟩
  go_wp2
  refine bodyPost_ret (v := .tuple #[.slice none 0 0, .int .i64 2]) (by simp [results, Try.results43, go_sem]) rfl ?_
  exact ⟨rfl, hb1⟩

theorem refshort_any (a : Option Addr) (n c : Nat) (rs : List TRow) (w : World) (hx : SlT w a n c rs) :
    Calls Try.prog 43 #[.slice a n c] w fun e w' => ∃ v ms, e = .returned (.tuple #[v, .int .i64 (trE (tabOf rs))]) ∧ Mat w.heap.size w' v ms ∧ mTab ms = shT (tabOf rs) ∧ Below w.heap.size w w' := by
  have hl := hx.tlen
  unfold trE shT
  by_cases h : mayT (tabOf rs) = true
  · rw [if_pos h, if_pos h, ← bf_eq h, hl]
    exact refshort_yes a n c rs w hx h
  · rw [if_neg h, if_neg h]
    refine (refshort_no a n c rs w hx (by simpa using h)).mono ?_
    rintro e w' ⟨rfl, hb⟩
    exact ⟨_, [], rfl, Mat.nil _ _, rfl, hb⟩

end Go.Proofs.Ytilhmlapbifbbaa
