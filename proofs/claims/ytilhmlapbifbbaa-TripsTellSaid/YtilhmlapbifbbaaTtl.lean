/- Walks: the law TripsTell. -/
import Derived.Test.YtilhmlapbifbbaaRgr
import Derived.Test.YtilhmlapbifbbaaRro
import Derived.Test.YtilhmlapbifbbaaRch
import Derived.Test.YtilhmlapbifbbaaTchN
namespace Go.Proofs.Ytilhmlapbifbbaa
open Go.RowKit Go.Shelf Go.Sort

theorem cells_pair : (Try.prog.info? 65).map (fun i => i.size) = some 2 := by kernel_rfl
theorem loadP {w : World} {b o : Nat} {cs : List Value} (h : w.rangeAt b o cs) (hl : cs.length = 2) : (Instr.loadAt 65 (.pointer (some ⟨b, o, none⟩))).run Try.prog w = .ok (.agg cs.toArray) w :=
  run_loadAt_mid w b o 65 cs _ h Try.underlying65 rfl (by rw [cells_pair, hl])
theorem quiet_loadP {C : World → Prop} {K : Act → Prop} {o : Oper} {a : Act} (x : Operand) (h : o.op = .load 65 x) (b off : Nat) (hx : a.eval x = .pointer (some ⟨b, off, none⟩)) (cs : List Value) (hl : cs.length = 2) (hC : ∀ w, C w → w.rangeAt b off cs)
    (hk : K (a.put o.dst (.agg cs.toArray))) : o.quiet Try.prog a C K :=
  ⟨_, fun w hw => by
    unfold Oper.quietAt
    have e : (execOp a.eval o).run Try.prog w = .ok (.value (.agg cs.toArray)) w := by
      unfold execOp
      simp only [h, hx, Sem.run_bind, loadP (hC w hw) hl, Result.andThen_ok, Sem.run_pure]
    rw [e]
    exact ⟨rfl, rfl⟩, hk⟩
theorem eq_pair (w : World) (x y : Int) : (Op.equalIn 10000 65 (.agg #[.int .i64 x, .int .i64 y]) (.agg #[.int .i64 x, .int .i64 y])).run Try.prog w = .ok true w := by
  go_simp
theorem quiet_neqP {C : World → Prop} {K : Act → Prop} {o : Oper} {a : Act} (x y : Operand) {t : TypeId} (h : o.op = .binOp .neq 65 x y t) (p : Nat × Nat) (hx : a.eval x = .agg (prC p).toArray) (hy : a.eval y = .agg (prC p).toArray)
    (hk : K (a.put o.dst (.bool false))) : o.quiet Try.prog a C K :=
  ⟨_, fun w _ => by
    unfold Oper.quietAt
    have hm : Try.prog.eqGuardType Try.prog.depth 65 = false := by kernel_rfl
    have e : (execOp a.eval o).run Try.prog w = .ok (.value (.bool false)) w := by
      unfold execOp
      simp only [h, hx, hy, Sem.run_bind, run_eqGuard_agg w .neq 65 x y _ _ hm, Result.andThen_ok, run_neq_struct]
      have := eq_pair w (p.1 : Int) (p.2 : Int)
      unfold prC
      rw [this]
      rfl
    rw [e]
    exact ⟨rfl, rfl⟩, hk⟩

set_option maxRecDepth 100000 in
set_option maxHeartbeats 20000000 in
theorem tripstell_yes (a a2 : Option Addr) (n c n2 c2 : Nat) (rs ss : List TRow) (i : Int) (w : World) (hx : SlT w a n c rs) (hy : SlT w a2 n2 c2 ss) (hg : greatT (tabOf rs) = false) (hg2 : greatT (tabOf ss) = false) :
    Calls Try.prog 9 #[.slice a n c, .slice a2 n2 c2, .int .i64 i] w fun e w' => e = .returned (.bool true) ∧ Below w.heap.size w w' := by
  have hmax := hx.sl.max
  have hle := hx.sl.le
  have hmax2 := hy.sl.max
  have hle2 := hy.sl.le
  have Hx := Lib.hid hx
  have Hy := Lib.hid hy
  have Hg := Lib.hid hg
  have Hg2 := Lib.hid hg2
  clear hx hy hg hg2
  go_enter Try.func9, Try.ntmps9
  go_wp2_with fail
  refine (great_any a n c rs _ Hx.out).mono ?_
  rw [Hg.out]
  rintro e w1 ⟨rfl, hb1⟩
  go_wp2_with fail
  refine (great_any a2 n2 c2 ss _ (Hy.out.below hb1 (Nat.le_refl _))).mono ?_
  rw [Hg2.out]
  rintro e w2 ⟨rfl, hb2⟩
  have hB2 := hb1.trans (hb2.mono hb1.size)
  clear hb1 hb2
  go_wp2_with fail
  refine (short_any a n c rs _ (Hx.out.below hB2 (Nat.le_refl _))).mono ?_
  rintro e W1 ⟨v1, ms1, rfl, hm1, hT1, hb1⟩
  obtain ⟨sa, sc, s1, rfl, hs1, ht1⟩ := hm1.tab hT1
  have hB1 := hB2.trans (hb1.mono hB2.size)
  have hsm := hs1.sl.max
  have hsl := hs1.sl.le
  obtain ⟨k1, hk1⟩ : ∃ k1, k1 = (shT (tabOf rs)).length := ⟨_, rfl⟩
  rw [← hk1] at hs1 hsl ⊢
  clear hm1 hT1 hB2 hb1 hk1
  obtain ⟨E1, hE1⟩ : ∃ E1, E1 = trE (tabOf rs) := ⟨_, rfl⟩
  rw [← hE1]
  have HE1 := Lib.hid hE1
  clear hE1
  go_wp2_with fail
  refine (refshort_any a n c rs _ (Hx.out.below hB1 (Nat.le_refl _))).mono ?_
  rintro e W2 ⟨v2, ms2, rfl, hm2, hT2, hb12⟩
  rw [← HE1.out]
  obtain ⟨ta, tc, t1, rfl, hs2, ht2⟩ := hm2.tab hT2
  have hB2 := hB1.trans (hb12.mono hB1.size)
  have htm := hs2.sl.max
  have htl := hs2.sl.le
  obtain ⟨k2, hk2⟩ : ∃ k2, k2 = (shT (tabOf rs)).length := ⟨_, rfl⟩
  rw [← hk2] at hs2 htl ⊢
  clear hm2 hT2 hk2
  go_wp2_with fail
  refine (groups_any a n c rs _ (Hx.out.below hB2 (Nat.le_refl _))).mono ?_
  rintro e W3 ⟨v3, ms3, rfl, hm3, hT3, hb23⟩
  obtain ⟨ga, gc, g1, rfl, hs3, ht3⟩ := hm3.tab hT3
  have hB3 := hB2.trans (hb23.mono hB2.size)
  have hgm := hs3.sl.max
  have hgl := hs3.sl.le
  obtain ⟨k3, hk3⟩ : ∃ k3, k3 = ((groP (tabOf rs)).map natI).length := ⟨_, rfl⟩
  rw [← hk3] at hs3 hgl ⊢
  obtain ⟨E3, hE3⟩ : ∃ E3, E3 = groE (tabOf rs) := ⟨_, rfl⟩
  rw [← hE3]
  have HE3 := Lib.hid hE3
  clear hm3 hT3 hk3 hE3
  go_wp2_with fail
  refine (refgroups_any a n c rs _ (Hx.out.below hB3 (Nat.le_refl _))).mono ?_
  rintro e W4 ⟨v4, ms4, rfl, hm4, hT4, hb34⟩
  rw [← HE3.out]
  obtain ⟨ja, jc, j1, rfl, hs4, ht4⟩ := hm4.tab hT4
  have hB4 := hB3.trans (hb34.mono hB3.size)
  have hjm := hs4.sl.max
  have hjl := hs4.sl.le
  obtain ⟨k4, hk4⟩ : ∃ k4, k4 = ((groP (tabOf rs)).map natI).length := ⟨_, rfl⟩
  rw [← hk4] at hs4 hjl ⊢
  have HS1 := Lib.hid (((hs1.below hb12 (Nat.le_refl _)).below hb23 (Nat.le_refl _)).below hb34 (Nat.le_refl _))
  have HS2 := Lib.hid ((hs2.below hb23 (Nat.le_refl _)).below hb34 (Nat.le_refl _))
  have HS3 := Lib.hid (hs3.below hb34 (Nat.le_refl _))
  have HS4 := Lib.hid hs4
  have hR1 : Hid (decide (tabOf s1 = tabOf t1) = true) := by show _ = _; rw [ht1, ht2]; simp
  have hR2 : Hid (decide (tabOf g1 = tabOf j1) = true) := by show _ = _; rw [ht3, ht4]; simp
  clear hm4 hT4 hk4 hs1 hs2 hs3 hs4 ht1 ht2 ht3 ht4 hb12 hb23 hb34 hB1 hB2 hB3 HE1 HE3
  go_wp2_with fail
  refine (may_tab a n c rs _ (Hx.out.below hB4 (Nat.le_refl _))).mono ?_
  rintro e W5 ⟨rfl, hb5⟩
  go_wp2_with fail
  refine (refmay_tab a n c rs _ ((Hx.out.below hB4 (Nat.le_refl _)).below hb5 (Nat.le_refl _))).mono ?_
  rintro e W6 ⟨rfl, hb6⟩
  have q1 : (mayT (tabOf rs) != mayT (tabOf rs)) = false := by simp
  have hb56 := hb5.trans (hb6.mono hb5.size)
  clear hb5 hb6
  go_wp2_with fail
  refine (rows_any _ _ _ _ _ _ s1 t1 _ (HS1.out.below hb56 (Nat.le_refl _)) (HS2.out.below hb56 (Nat.le_refl _))).mono ?_
  rw [hR1.out]
  rintro e W7 ⟨rfl, hb7⟩
  have qE1 : (E1 != E1) = false := by simp
  have qE3 : (E3 != E3) = false := by simp
  have hb57 := hb56.trans (hb7.mono hb56.size)
  clear hb56 hb7
  go_wp2_with fail
  refine (rows_any _ _ _ _ _ _ g1 j1 _ (HS3.out.below hb57 (Nat.le_refl _)) (HS4.out.below hb57 (Nat.le_refl _))).mono ?_
  rw [hR2.out]
  rintro e W8 ⟨rfl, hb8⟩
  have hB8 := hB4.trans ((hb57.trans (hb8.mono hb57.size)).mono hB4.size)
  clear hb57 hb8 hB4 HS1 HS2 HS3 HS4 hR1 hR2
  go_wp2_with fail
  refine (round_any a n c rs i _ (Hx.out.below hB8 (Nat.le_refl _))).mono ?_
  rintro e W9 ⟨v9, rfl, hown9, hb9⟩
  obtain ⟨la, lc, rfl, hl9⟩ := hown9.reads
  have hlm := hl9.max
  have hll := hl9.le
  have hB9 := hB8.trans (hb9.mono hB8.size)
  obtain ⟨k9, hk9⟩ : ∃ k9, k9 = (rouP (tabOf rs) i).1.length := ⟨_, rfl⟩
  rw [← hk9] at hl9 hll ⊢
  obtain ⟨C9, hC9⟩ : ∃ C9, C9 = (rouP (tabOf rs) i).2 := ⟨_, rfl⟩
  obtain ⟨E9, hE9⟩ : ∃ E9, E9 = rouE (tabOf rs) i := ⟨_, rfl⟩
  rw [← hC9, ← hE9]
  have HC9 := Lib.hid hC9
  have HE9 := Lib.hid hE9
  clear hown9 hk9 hC9 hE9 hB8 hb9
  go_wp2_with fail
  refine (refround_any a n c rs i _ (Hx.out.below hB9 (Nat.le_refl _))).mono ?_
  rintro e W10 ⟨v10, he10, hown10, hb10⟩
  rw [← HC9.out, ← HE9.out] at he10
  subst he10
  obtain ⟨ma, mc, rfl, hl10⟩ := hown10.reads
  have hmm := hl10.max
  have hml := hl10.le
  have hB10 := hB9.trans (hb10.mono hB9.size)
  obtain ⟨k10, hk10⟩ : ∃ k10, k10 = (rouP (tabOf rs) i).1.length := ⟨_, rfl⟩
  rw [← hk10] at hl10 hml ⊢
  have hl9 := hl9.below hb10 (Nat.le_refl _)
  clear hown10 hk10 hB9 hb10
  go_wp2_with fail
  refine (changed_any a a2 n c n2 c2 rs ss _ (Hx.out.below hB10 (Nat.le_refl _)) (Hy.out.below hB10 (Nat.le_refl _))).mono ?_
  rintro e W11 ⟨v11, rfl, hown11, hb11⟩
  obtain ⟨xa, xc, rfl, hs11⟩ := hown11.reads
  have hxm := hs11.max
  have hxl := hs11.le
  have hB11 := hB10.trans (hb11.mono hB10.size)
  obtain ⟨P, hP⟩ : ∃ P, P = chP (tabOf rs) (tabOf ss) := ⟨_, rfl⟩
  rw [← hP] at hs11 hxl ⊢
  obtain ⟨m, hm⟩ : ∃ m, m = P.length := ⟨_, rfl⟩
  rw [← hm] at hs11 hxl ⊢
  obtain ⟨E11, hE11⟩ : ∃ E11, E11 = chE (tabOf rs) (tabOf ss) := ⟨_, rfl⟩
  rw [← hE11]
  have HE11 := Lib.hid hE11
  have HP := Lib.hid hP
  have HM := Lib.hid hm
  have hl9 := hl9.below hb11 (Nat.le_refl _)
  have hl10 := hl10.below hb11 (Nat.le_refl _)
  clear hown11 hP hm hE11 hB10 hb11
  go_wp2_with fail
  refine (refchanged_any a a2 n c n2 c2 rs ss _ (Hx.out.below hB11 (Nat.le_refl _)) (Hy.out.below hB11 (Nat.le_refl _))).mono ?_
  rintro e W12 ⟨v12, he12, hown12, hb12⟩
  rw [← HE11.out] at he12
  subst he12
  rw [← HP.out, ← HM.out] at hown12
  obtain ⟨ya, yc, rfl, hs12⟩ := hown12.reads
  have hym := hs12.max
  have hyl := hs12.le
  have hB12 := hB11.trans (hb12.mono hB11.size)
  have hs11 := hs11.below hb12 (Nat.le_refl _)
  have hl9 := hl9.below hb12 (Nat.le_refl _)
  have hl10 := hl10.below hb12 (Nat.le_refl _)
  clear hown12 hB11 hb12
  go_wp2_with fail
  refine (ints32_any _ _ _ _ _ _ _ _ _ hl9 hl10).mono ?_
  rintro e W13 ⟨rfl, j13, rfl⟩
  rw [show decide (natI (rouP (tabOf rs) i).1 = natI (rouP (tabOf rs) i).1) = true by simp]
  have qC : (C9 != C9) = false := by simp
  have qE9 : (E9 != E9) = false := by simp
  have qE11 : (E11 != E11) = false := by simp
  have qm : ((m : Int) != (m : Int)) = false := by simp
  have hB13 : Below w.heap.size w (W12.drewN j13) := below_drewN hB12 _
  have hs11 := hs11.drewN j13
  have hs12 := hs12.drewN j13
  obtain ⟨V, hV⟩ : ∃ V, V = W12.drewN j13 := ⟨_, rfl⟩
  rw [← hV] at hB13 hs11 hs12 ⊢
  have HX := Lib.hid hs11
  have HY := Lib.hid hs12
  clear hl9 hl10 hB12 hV hs11 hs12 HC9 HE9 HE11
  go_wp2
  go_loopw [23] (fun y wr => ∃ (k : Nat), y = .int .i64 k ∧ k ≤ m ∧ Below V.heap.size V wr) (fun y _ => m - (intOf y).toNat)
  case atStart => exact ⟨0, rfl, Nat.zero_le _, Below.refl _ _⟩
  case round =>
    obtain ⟨k, rfl, hk, hbr⟩ := hrel
    obtain ⟨wj, rfl⟩ : ∃ wj : World, wj = wr := ⟨_, rfl⟩
    by_cases hlt : k < m
    · have hltI : (k : Int) < (m : Int) := by omega
      obtain ⟨p, hp⟩ : ∃ p, P[k]? = some p := ⟨_, List.getElem?_eq_getElem (by rw [← HM.out]; exact hlt)⟩
      obtain ⟨xb, xo, rfl, _, hxc⟩ := (HX.out.below hbr (Nat.le_refl _)).at0 (by omega)
      obtain ⟨yb, yo, rfl, _, hyc⟩ := (HY.out.below hbr (Nat.le_refl _)).at0 (by omega)
      have r1 : wj.rangeAt xb (xo + k * 2) (prC p) := fun j v hv => hxc k p hp j v hv
      have r2 : wj.rangeAt yb (yo + k * 2) (prC p) := fun j v hv => hyc k p hp j v hv
      have l1 : ∀ w', (∃ p : Regrown, w' = grow (redrawn wj p.d) p.os) → w'.rangeAt xb (xo + k * 2) (prC p) := by rintro _ ⟨q, rfl⟩; exact range_regrown r1 _ _
      have l2 : ∀ w', (∃ p : Regrown, w' = grow (redrawn wj p.d) p.os) → w'.rangeAt yb (yo + k * 2) (prC p) := by rintro _ ⟨q, rfl⟩; exact range_regrown r2 _ _
      clear hp hxc hyc r1 r2
      go_wp2
      refine wp_region_quiet_below (by kernel_rfl) (by kernel_rfl) ?_
      iterate 3 (go_big_quiet_step (fail))
      go_big_quiet_want
      refine quiet_loadP (.tmp 138) rfl xb (xo + k * 2) rfl (prC p) rfl l1 ?_
      go_big_quiet_on
      go_simp
      iterate 3 (go_big_quiet_step (fail))
      go_big_quiet_want
      refine quiet_loadP (.tmp 142) rfl yb (yo + k * 2) rfl (prC p) rfl l2 ?_
      go_big_quiet_on
      go_simp
      go_big_quiet_want
      refine quiet_neqP (.tmp 139) (.tmp 143) rfl p rfl rfl ?_
      go_big_quiet_on
      go_simp
      refine wpQuiet_nil ?_
      rintro ⟨d, os⟩
      obtain ⟨w', hw'⟩ : ∃ w', w' = grow (redrawn wj d) os := ⟨_, rfl⟩
      simp only
      rw [← hw']
      have hb' : Below V.heap.size V w' := by rw [hw']; exact hbr.trans ((below_regrown wj d os).mono hbr.size)
      clear hw' l1 l2
      go_wp2
      go_roundw
      case rel => exact ⟨k + 1, by go_num, by omega, hb'⟩
      case measure => simp [intOf]; omega
    · obtain rfl : m = k := by omega
      have hltn : ¬ (m : Int) < (m : Int) := by omega
      go_wp2_with fail
      refine (wakes32_any _).mono ?_
      rintro e w9 ⟨rfl, hb9⟩
      go_wp2
      go_ret
      have h1 := hB13.trans (hbr.mono hB13.size)
      exact ⟨rfl, h1.trans (hb9.mono h1.size)⟩

set_option maxRecDepth 100000 in
set_option maxHeartbeats 4000000 in
theorem tripstell_any (a : Option Addr) (n c : Nat) (rs : List TRow) (a2 : Option Addr) (n2 c2 : Nat) (ss : List TRow) (i : Int) (w : World) (hx : SlT w a n c rs) (hy : SlT w a2 n2 c2 ss) :
    Calls Try.prog 9 #[.slice a n c, .slice a2 n2 c2, .int .i64 i] w fun e w' => e = .returned (.bool true) ∧ Below w.heap.size w w' := by
  have Hx := Lib.hid hx
  have Hy := Lib.hid hy
  clear hx hy
  by_cases hg : greatT (tabOf rs) = true
  · have Hg := Lib.hid hg
    clear hg
    go_enter Try.func9, Try.ntmps9
    go_wp2_with fail
    refine (great_any a n c rs _ Hx.out).mono ?_
    rw [Hg.out]
    rintro e w1 ⟨rfl, hb1⟩
    go_wp2_with fail
    refine (wakes32_any _).mono ?_
    rintro e w2 ⟨rfl, hb2⟩
    go_wp2
    go_ret
    exact ⟨rfl, hb1.trans (hb2.mono hb1.size)⟩
  · have Hg : Hid (greatT (tabOf rs) = false) := by show _ = _; simpa using hg
    clear hg
    by_cases hg2 : greatT (tabOf ss) = true
    · have Hg2 := Lib.hid hg2
      clear hg2
      go_enter Try.func9, Try.ntmps9
      go_wp2_with fail
      refine (great_any a n c rs _ Hx.out).mono ?_
      rw [Hg.out]
      rintro e w1 ⟨rfl, hb1⟩
      go_wp2_with fail
      refine (great_any a2 n2 c2 ss _ (Hy.out.below hb1 (Nat.le_refl _))).mono ?_
      rw [Hg2.out]
      rintro e w2 ⟨rfl, hb2⟩
      have hB2 := hb1.trans (hb2.mono hb1.size)
      go_wp2_with fail
      refine (wakes32_any _).mono ?_
      rintro e w3 ⟨rfl, hb3⟩
      go_wp2
      go_ret
      exact ⟨rfl, hB2.trans (hb3.mono hB2.size)⟩
    · exact tripstell_yes a a2 n c n2 c2 rs ss i w Hx.out Hy.out Hg.out (by simpa using hg2)

end Go.Proofs.Ytilhmlapbifbbaa
