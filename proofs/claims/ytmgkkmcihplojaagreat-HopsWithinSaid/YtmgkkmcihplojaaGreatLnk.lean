/- Walks: package links: Step, Linked. -/
import Derived.Test.YtmgkkmcihplojaaGreatKa
import Derived.Test.YtmgkkmcihplojaaGreatGp
import Derived.LoopTactic
import Derived.Deep.Cut
import Derived.Deep.CutRange
import Derived.Deep.DeepCutAuto
import Derived.Outline
import Derived.RangeFuncNested
namespace Go.Proofs.YtmgkkmcihplojaaGreat
open Go.RowKit
attribute [local go_sem] Instr.index

def stpX (d : Nat) : Int := match d with | 0 => 1 | 1 => 0 | 2 => -1 | _ => 0
def stpZ (d : Nat) : Int := match d with | 0 => 0 | 1 => 1 | 2 => 0 | _ => -1
theorem results_c1 {P : Program} {fn : Func} {p : Tmp} {ty : TypeId} (h : fn.results = #[.cell p ty]) (tmps : Array Value) (w : World) (g : Nat) (t : TypeId) (cs : Array Value) (fr : Nat × Nat) (d : TypeDesc)
    (hp : tmps.getD p undef = .pointer (some ⟨g, 0, none⟩)) (hg : w.heap[g]? = some (.cells cs t fr))
    (hu : P.underlying ty = some d) (hd : (match d with | .struct _ | .array _ _ => true | _ => false) = true) (hi : (P.info? ty).map (·.size) = some cs.size) :
    (results fn tmps).run P w = .ok (.agg cs) w := by
  have e1 : tmps[p]?.getD undef = .pointer (some ⟨g, 0, none⟩) := by simpa using hp
  simp [results, h, e1, asAddr, run_loadVar_row w g t ty cs fr d hg hu hd hi]
abbrev waysA : Array Value := #[.int .i64 1, .int .i64 0, .int .i64 0, .int .i64 1, .int .i64 (-1), .int .i64 0, .int .i64 0, .int .i64 (-1)]
set_option maxHeartbeats 1000000 in
theorem ways_any (w : World) : Calls Tryz.prog 82 #[] w fun e w' => e = .returned (.agg waysA) ∧ Below w.heap.size w w' := by
  have hG := World.alloc_heap_new w (.cells waysA 157)
  have hB : Below w.heap.size w (w.alloc (.cells waysA 157)) := (Below.refl _ _).alloc (Nat.le_refl _) _
  dsimp only [waysA] at hG hB ⊢
  go_enter Tryz.func82, Tryz.ntmps82
  go_wp2
  refine bodyPost_ret (results_c1 rfl _ _ w.heap.size 157 _ (0, 0) _ rfl hG Tryz.underlying157 rfl (by kernel_rfl)) rfl ⟨rfl, hB⟩
set_option maxHeartbeats 4000000 in
theorem step_any (d : Nat) (w : World) (hd : d < 4) : Calls Tryz.prog 57 #[.int .i64 d] w fun e w' => e = .returned (.tuple #[.int .i64 (stpX d), .int .i64 (stpZ d), .bool true]) ∧ Below w.heap.size w w' := by
  have WY := Lib.hid (fun W => ways_any W)
  obtain rfl | rfl | rfl | rfl : d = 0 ∨ d = 1 ∨ d = 2 ∨ d = 3 := by omega
  all_goals
    dsimp only [waysA] at WY
    go_enter Tryz.func57, Tryz.ntmps57
    go_wp2_with fail
    refine (WY.out _).mono ?_
    rintro e w1 ⟨rfl, hb1⟩
    have hG := World.alloc_heap_new w1 (.cells waysA 157)
    have hB1 := hb1.alloc hb1.size (.cells waysA 157)
    dsimp only [waysA] at hG hB1
    go_upto_region 4 with fail
    generalize w1.alloc (.cells #[.int .i64 1, .int .i64 0, .int .i64 0, .int .i64 1, .int .i64 (-1), .int .i64 0, .int .i64 0, .int .i64 (-1)] 157) = w2 at hG hB1 ⊢
    have e_0 := fun d os => cell_regrown (hcell (k := 0) (v := .int .i64 (1)) hG rfl) d os
    have e_1 := fun d os => cell_regrown (hcell (k := 1) (v := .int .i64 (0)) hG rfl) d os
    have e_2 := fun d os => cell_regrown (hcell (k := 2) (v := .int .i64 (0)) hG rfl) d os
    have e_3 := fun d os => cell_regrown (hcell (k := 3) (v := .int .i64 (1)) hG rfl) d os
    have e_4 := fun d os => cell_regrown (hcell (k := 4) (v := .int .i64 (-1)) hG rfl) d os
    have e_5 := fun d os => cell_regrown (hcell (k := 5) (v := .int .i64 (0)) hG rfl) d os
    have e_6 := fun d os => cell_regrown (hcell (k := 6) (v := .int .i64 (0)) hG rfl) d os
    have e_7 := fun d os => cell_regrown (hcell (k := 7) (v := .int .i64 (-1)) hG rfl) d os
    refine wp_region_quiet_below (by kernel_rfl) (by kernel_rfl) ?_
    repeat (go_big_quiet_step (fail))
    refine wpQuiet_nil ?_
    rintro w4 ⟨⟨dq, osq⟩, hw4⟩
    have hb4 : Below w.heap.size w w4 := by rw [hw4]; exact hB1.trans ((below_regrown w2 dq osq).mono hB1.size)
    clear hw4 e_0 e_1 e_2 e_3 e_4 e_5 e_6 e_7
    go_wp2
    go_ret3
    exact ⟨rfl, hb4⟩
theorem lnk_near {cf : Cfg} {a b : Flr} (h : (nearB a.y && nearB a.top && nearB b.y && nearB b.top) = false) : lnk cf a b = false := by
  unfold lnk lnkOk
  rw [h, Bool.false_and, Bool.and_false]
set_option maxRecDepth 100000 in
set_option maxHeartbeats 8000000 in
theorem linked_any (cf : Cfg) (a b : Flr) (w : World) : Calls Tryz.prog 58 #[cfgV cf, flrV a, flrV b] w fun e w' => e = .returned (.bool (lnk cf a b)) ∧ Below w.heap.size w w' := by
  have CF := Lib.hid (fun W => cfgcheck_any cf W)
  obtain ⟨W1, hW1⟩ : ∃ W, W = ((w.alloc (.cells #[.int .i64 cf.clear, .int .i64 cf.climb, .int .i64 cf.height, .int .i64 cf.rise, .int .i64 cf.run, .int .i64 cf.w, .int .i64 cf.d] 23 (0, 0))).alloc (.cells #[.int .i64 a.y, .int .i64 a.top, .int .i64 a.area] 84 (0, 0))).alloc (.cells #[.int .i64 b.y, .int .i64 b.top, .int .i64 b.area] 84 (0, 0)) := ⟨_, rfl⟩
  have hC := halloc (halloc (World.alloc_heap_new w (.cells #[.int .i64 cf.clear, .int .i64 cf.climb, .int .i64 cf.height, .int .i64 cf.rise, .int .i64 cf.run, .int .i64 cf.w, .int .i64 cf.d] 23 (0, 0))) (.cells #[.int .i64 a.y, .int .i64 a.top, .int .i64 a.area] 84 (0, 0))) (.cells #[.int .i64 b.y, .int .i64 b.top, .int .i64 b.area] 84 (0, 0))
  have hF := halloc (World.alloc_heap_new (w.alloc (.cells #[.int .i64 cf.clear, .int .i64 cf.climb, .int .i64 cf.height, .int .i64 cf.rise, .int .i64 cf.run, .int .i64 cf.w, .int .i64 cf.d] 23 (0, 0))) (.cells #[.int .i64 a.y, .int .i64 a.top, .int .i64 a.area] 84 (0, 0))) (.cells #[.int .i64 b.y, .int .i64 b.top, .int .i64 b.area] 84 (0, 0))
  have hG := World.alloc_heap_new ((w.alloc (.cells #[.int .i64 cf.clear, .int .i64 cf.climb, .int .i64 cf.height, .int .i64 cf.rise, .int .i64 cf.run, .int .i64 cf.w, .int .i64 cf.d] 23 (0, 0))).alloc (.cells #[.int .i64 a.y, .int .i64 a.top, .int .i64 a.area] 84 (0, 0))) (.cells #[.int .i64 b.y, .int .i64 b.top, .int .i64 b.area] 84 (0, 0))
  have hB : Below w.heap.size w (((w.alloc (.cells #[.int .i64 cf.clear, .int .i64 cf.climb, .int .i64 cf.height, .int .i64 cf.rise, .int .i64 cf.run, .int .i64 cf.w, .int .i64 cf.d] 23 (0, 0))).alloc (.cells #[.int .i64 a.y, .int .i64 a.top, .int .i64 a.area] 84 (0, 0))).alloc (.cells #[.int .i64 b.y, .int .i64 b.top, .int .i64 b.area] 84 (0, 0))) := (((Below.refl _ _).alloc (Nat.le_refl _) _).alloc (by simp) _).alloc (by simp; omega) _
  simp only [World.size_alloc] at hF hG
  rw [← hW1] at hC hF hG hB
  obtain ⟨T, hTT⟩ : ∃ T, T = w.heap.size := ⟨_, rfl⟩
  rw [← hTT] at hC hF hG
  have HTT := Lib.hid hTT
  clear hTT
  obtain ⟨r, hr⟩ : ∃ r, r = lnk cf a b := ⟨_, rfl⟩
  have HNear : Hid ((nearB a.y && nearB a.top && nearB b.y && nearB b.top) = false → r = false) := fun h => by rw [hr]; exact lnk_near h
  have HR := Lib.hid hr
  rw [← hr]
  clear hr
  by_cases hn : (nearB a.y && nearB a.top && nearB b.y && nearB b.top) = true
  rotate_left
  · have hR := HNear.out (by simpa using hn)
    subst hR
    have HN := Lib.hid hn
    clear HR HNear CF hn
    obtain ⟨cl, climb, height, rise, run, cw, cd⟩ := cf
    obtain ⟨ay, at_, aa⟩ := a
    obtain ⟨by_, bt, ba⟩ := b
    dsimp only [flrV, cfgV] at hC hF hG hW1 HN ⊢
    have f0 := hcell (k := 0) (v := .int .i64 ay) hF rfl
    have f1 := hcell (k := 1) (v := .int .i64 at_) hF rfl
    have g0 := hcell (k := 0) (v := .int .i64 by_) hG rfl
    have g1 := hcell (k := 1) (v := .int .i64 bt) hG rfl
    clear hC hF hG
    go_enter Tryz.func58, Tryz.ntmps58
    go_upto_region 1 with fail
    rw [← hW1, ← HTT.out]
    clear hW1
    go_wp2
    refine wp_loop_rounds 5 ?_
    by_cases b0 : ay < -1099511627776
    · clear HN
      rw [rounds_succ]
      go_wp2
      go_ret
      exact ⟨rfl, hB⟩
    by_cases b1 : 1099511627776 < ay
    · clear HN
      rw [rounds_succ]
      go_wp2
      go_ret
      exact ⟨rfl, hB⟩
    by_cases b2 : at_ < -1099511627776
    · clear HN
      rw [rounds_succ]
      go_wp2
      rw [rounds_succ]
      go_wp2
      go_ret
      exact ⟨rfl, hB⟩
    by_cases b3 : 1099511627776 < at_
    · clear HN
      rw [rounds_succ]
      go_wp2
      rw [rounds_succ]
      go_wp2
      go_ret
      exact ⟨rfl, hB⟩
    by_cases b4 : by_ < -1099511627776
    · clear HN
      rw [rounds_succ]
      go_wp2
      rw [rounds_succ]
      go_wp2
      rw [rounds_succ]
      go_wp2
      go_ret
      exact ⟨rfl, hB⟩
    by_cases b5 : 1099511627776 < by_
    · clear HN
      rw [rounds_succ]
      go_wp2
      rw [rounds_succ]
      go_wp2
      rw [rounds_succ]
      go_wp2
      go_ret
      exact ⟨rfl, hB⟩
    by_cases b6 : bt < -1099511627776
    · clear HN
      rw [rounds_succ]
      go_wp2
      rw [rounds_succ]
      go_wp2
      rw [rounds_succ]
      go_wp2
      rw [rounds_succ]
      go_wp2
      go_ret
      exact ⟨rfl, hB⟩
    by_cases b7 : 1099511627776 < bt
    · clear HN
      rw [rounds_succ]
      go_wp2
      rw [rounds_succ]
      go_wp2
      rw [rounds_succ]
      go_wp2
      rw [rounds_succ]
      go_wp2
      go_ret
      exact ⟨rfl, hB⟩
    exact (HN.out (by simp only [Bool.and_eq_true, nearB, decide_eq_true_eq]; omega)).elim
  · have HR2 : Hid (r = (cfgOk cf && (decide (0 < a.area) && decide (0 < b.area) && decide (max (a.y - b.y) (b.y - a.y) ≤ cf.climb) && decide (cf.height ≤ min a.top b.top - max a.y b.y)))) := by
      show _ = _
      rw [HR.out]
      unfold lnk lnkOk
      rw [hn, Bool.true_and]
    simp only [Bool.and_eq_true, nearB, decide_eq_true_eq] at hn
    obtain ⟨⟨⟨⟨n1, n2⟩, n3, n4⟩, n5, n6⟩, n7, n8⟩ := hn
    clear HR HNear
    cases hcf : cfgOk cf with
    | false =>
      have h0 : cfgE cf = 20 := by unfold cfgE; rw [hcf]; rfl
      rw [h0] at CF
      have hR : r = false := by rw [HR2.out, hcf]; rfl
      subst hR
      clear HR2 h0 hcf
      obtain ⟨cl, climb, height, rise, run, cw, cd⟩ := cf
      obtain ⟨ay, at_, aa⟩ := a
      obtain ⟨by_, bt, ba⟩ := b
      dsimp only [flrV, cfgV] at hC hF hG hW1 n1 n2 n3 n4 n5 n6 n7 n8 CF ⊢
      have f0 := hcell (k := 0) (v := .int .i64 ay) hF rfl
      have f1 := hcell (k := 1) (v := .int .i64 at_) hF rfl
      have g0 := hcell (k := 0) (v := .int .i64 by_) hG rfl
      have g1 := hcell (k := 1) (v := .int .i64 bt) hG rfl
      have c0 := hcell (k := 0) (v := .int .i64 cl) hC rfl
      have c1 := hcell (k := 1) (v := .int .i64 climb) hC rfl
      have c2 := hcell (k := 2) (v := .int .i64 height) hC rfl
      have c3 := hcell (k := 3) (v := .int .i64 rise) hC rfl
      have c4 := hcell (k := 4) (v := .int .i64 run) hC rfl
      have c5 := hcell (k := 5) (v := .int .i64 cw) hC rfl
      have c6 := hcell (k := 6) (v := .int .i64 cd) hC rfl
      have t1 : ¬ ay < -1099511627776 := by omega
      have t2 : ¬ 1099511627776 < ay := by omega
      have t3 : ¬ at_ < -1099511627776 := by omega
      have t4 : ¬ 1099511627776 < at_ := by omega
      have t5 : ¬ by_ < -1099511627776 := by omega
      have t6 : ¬ 1099511627776 < by_ := by omega
      have t7 : ¬ bt < -1099511627776 := by omega
      have t8 : ¬ 1099511627776 < bt := by omega
      go_enter Tryz.func58, Tryz.ntmps58
      go_upto_region 1 with fail
      rw [← hW1, ← HTT.out]
      clear hW1
      go_wp2
      refine wp_loop_rounds 5 ?_
      rw [rounds_succ]
      go_wp2
      rw [rounds_succ]
      go_wp2
      rw [rounds_succ]
      go_wp2
      rw [rounds_succ]
      go_wp2
      rw [rounds_succ]
      go_upto_region 7 with fail
      clear t1 t2 t3 t4 t5 t6 t7 t8
      go_wp2_with fail
      refine (CF.out _).mono ?_
      rintro e w1 ⟨rfl, hb1⟩
      have hB1 := hB.trans (hb1.mono hB.size)
      clear f0 f1 g0 g1 c0 c1 c2 c3 c4 c5 c6 hC hF hG hb1
      go_wp2
      go_ret
      exact ⟨rfl, hB1⟩
    | true =>
      have h0 : cfgE cf = 0 := by unfold cfgE; rw [hcf]; rfl
      rw [h0] at CF
      have HR3 : Hid (r = (decide (0 < a.area) && decide (0 < b.area) && decide (max (a.y - b.y) (b.y - a.y) ≤ cf.climb) && decide (cf.height ≤ min a.top b.top - max a.y b.y))) := by show _ = _; rw [HR2.out, hcf, Bool.true_and]
      clear HR2 h0 hcf
      obtain ⟨cl, climb, height, rise, run, cw, cd⟩ := cf
      obtain ⟨ay, at_, aa⟩ := a
      obtain ⟨by_, bt, ba⟩ := b
      dsimp only [flrV, cfgV] at hC hF hG hW1 n1 n2 n3 n4 n5 n6 n7 n8 CF HR3 ⊢
      have f0 := hcell (k := 0) (v := .int .i64 ay) hF rfl
      have f1 := hcell (k := 1) (v := .int .i64 at_) hF rfl
      have g0 := hcell (k := 0) (v := .int .i64 by_) hG rfl
      have g1 := hcell (k := 1) (v := .int .i64 bt) hG rfl
      have c0 := hcell (k := 0) (v := .int .i64 cl) hC rfl
      have c1 := hcell (k := 1) (v := .int .i64 climb) hC rfl
      have c2 := hcell (k := 2) (v := .int .i64 height) hC rfl
      have c3 := hcell (k := 3) (v := .int .i64 rise) hC rfl
      have c4 := hcell (k := 4) (v := .int .i64 run) hC rfl
      have c5 := hcell (k := 5) (v := .int .i64 cw) hC rfl
      have c6 := hcell (k := 6) (v := .int .i64 cd) hC rfl
      have t1 : ¬ ay < -1099511627776 := by omega
      have t2 : ¬ 1099511627776 < ay := by omega
      have t3 : ¬ at_ < -1099511627776 := by omega
      have t4 : ¬ 1099511627776 < at_ := by omega
      have t5 : ¬ by_ < -1099511627776 := by omega
      have t6 : ¬ 1099511627776 < by_ := by omega
      have t7 : ¬ bt < -1099511627776 := by omega
      have t8 : ¬ 1099511627776 < bt := by omega
      go_enter Tryz.func58, Tryz.ntmps58
      go_upto_region 1 with fail
      rw [← hW1, ← HTT.out]
      clear hW1
      go_wp2
      refine wp_loop_rounds 5 ?_
      rw [rounds_succ]
      go_wp2
      rw [rounds_succ]
      go_wp2
      rw [rounds_succ]
      go_wp2
      rw [rounds_succ]
      go_wp2
      rw [rounds_succ]
      go_upto_region 7 with fail
      clear t1 t2 t3 t4 t5 t6 t7 t8
      go_wp2_with fail
      refine (CF.out _).mono ?_
      rintro e w1 ⟨rfl, hb1⟩
      have hB1 := hB.trans (hb1.mono hB.size)
      have hC1 := hkeep hb1 hC
      have hF1 := hkeep hb1 hF
      have hG1 := hkeep hb1 hG
      clear f0 f1 g0 g1 c0 c1 c2 c3 c4 c5 c6 hC hF hG hb1
      have c1 := hcell (k := 1) (v := .int .i64 climb) hC1 rfl
      have c2 := hcell (k := 2) (v := .int .i64 height) hC1 rfl
      have f0 := hcell (k := 0) (v := .int .i64 ay) hF1 rfl
      have f1 := hcell (k := 1) (v := .int .i64 at_) hF1 rfl
      have f2 := hcell (k := 2) (v := .int .i64 aa) hF1 rfl
      have g0 := hcell (k := 0) (v := .int .i64 by_) hG1 rfl
      have g1 := hcell (k := 1) (v := .int .i64 bt) hG1 rfl
      have g2 := hcell (k := 2) (v := .int .i64 ba) hG1 rfl
      clear hC1 hF1 hG1
      go_wp2
      all_goals
        go_ret
        refine ⟨ret_bool ?_, hB1⟩
        rw [HR3.out]
        clear HR3
        clear hB hB1 HTT f0 f1 f2 g0 g1 g2 c1 c2
        grind
end Go.Proofs.YtmgkkmcihplojaaGreat
