/- Walks: the reference's links: Linked. -/
import Derived.Test.YtgfmdgiepomkiaaLnk
import Derived.Test.YtgfmdgiepomkiaaHa
namespace Go.Proofs.Ytgfmdgiepomkiaa
open Go.RowKit
attribute [local go_sem] Instr.index

set_option maxRecDepth 100000 in
set_option maxHeartbeats 8000000 in
theorem reflinked_any (cf : Cfg) (a b : Flr) (w : World) : Calls Try.prog 77 #[cfgV cf, flrV a, flrV b] w fun e w' => e = .returned (.bool (lnk cf a b)) ∧ Below w.heap.size w w' := by
  have CF := Lib.hid (fun W => refcfgcheck_any cf W)
  obtain ⟨W1, hW1⟩ : ∃ W, W = ((w.alloc (.cells #[.int .i64 cf.clear, .int .i64 cf.climb, .int .i64 cf.height, .int .i64 cf.rise, .int .i64 cf.run, .int .i64 cf.w, .int .i64 cf.d] 23 (0, 0))).alloc (.cells #[.int .i64 a.y, .int .i64 a.top, .int .i64 a.area] 102 (0, 0))).alloc (.cells #[.int .i64 b.y, .int .i64 b.top, .int .i64 b.area] 102 (0, 0)) := ⟨_, rfl⟩
  have hC := halloc (halloc (World.alloc_heap_new w (.cells #[.int .i64 cf.clear, .int .i64 cf.climb, .int .i64 cf.height, .int .i64 cf.rise, .int .i64 cf.run, .int .i64 cf.w, .int .i64 cf.d] 23 (0, 0))) (.cells #[.int .i64 a.y, .int .i64 a.top, .int .i64 a.area] 102 (0, 0))) (.cells #[.int .i64 b.y, .int .i64 b.top, .int .i64 b.area] 102 (0, 0))
  have hF := halloc (World.alloc_heap_new (w.alloc (.cells #[.int .i64 cf.clear, .int .i64 cf.climb, .int .i64 cf.height, .int .i64 cf.rise, .int .i64 cf.run, .int .i64 cf.w, .int .i64 cf.d] 23 (0, 0))) (.cells #[.int .i64 a.y, .int .i64 a.top, .int .i64 a.area] 102 (0, 0))) (.cells #[.int .i64 b.y, .int .i64 b.top, .int .i64 b.area] 102 (0, 0))
  have hG := World.alloc_heap_new ((w.alloc (.cells #[.int .i64 cf.clear, .int .i64 cf.climb, .int .i64 cf.height, .int .i64 cf.rise, .int .i64 cf.run, .int .i64 cf.w, .int .i64 cf.d] 23 (0, 0))).alloc (.cells #[.int .i64 a.y, .int .i64 a.top, .int .i64 a.area] 102 (0, 0))) (.cells #[.int .i64 b.y, .int .i64 b.top, .int .i64 b.area] 102 (0, 0))
  have hB : Below w.heap.size w (((w.alloc (.cells #[.int .i64 cf.clear, .int .i64 cf.climb, .int .i64 cf.height, .int .i64 cf.rise, .int .i64 cf.run, .int .i64 cf.w, .int .i64 cf.d] 23 (0, 0))).alloc (.cells #[.int .i64 a.y, .int .i64 a.top, .int .i64 a.area] 102 (0, 0))).alloc (.cells #[.int .i64 b.y, .int .i64 b.top, .int .i64 b.area] 102 (0, 0))) := (((Below.refl _ _).alloc (Nat.le_refl _) _).alloc (by simp) _).alloc (by simp; omega) _
  simp only [World.size_alloc] at hF hG
  rw [← hW1] at hC hF hG hB
  obtain ⟨T, hTT⟩ : ∃ T, T = w.heap.size := ⟨_, rfl⟩
  rw [← hTT] at hC hF hG
  have HTT := Lib.hid hTT
  clear hTT
  obtain ⟨r, hr⟩ : ∃ r, r = lnk cf a b := ⟨_, rfl⟩
  rw [← hr]
  cases hcf : cfgOk cf with
  | false =>
    have h0 : cfgE cf = 20 := by unfold cfgE; rw [hcf]; rfl
    rw [h0] at CF
    have hR : r = false := by rw [hr]; unfold lnk; rw [hcf]; rfl
    subst hR
    clear hr h0 hcf
    obtain ⟨cl, climb, height, rise, run, cw, cd⟩ := cf
    obtain ⟨ay, at_, aa⟩ := a
    obtain ⟨by_, bt, ba⟩ := b
    dsimp only [flrV, cfgV] at hC hF hG hW1 CF ⊢
    have c0 := hcell (k := 0) (v := .int .i64 cl) hC rfl
    have c1 := hcell (k := 1) (v := .int .i64 climb) hC rfl
    have c2 := hcell (k := 2) (v := .int .i64 height) hC rfl
    have c3 := hcell (k := 3) (v := .int .i64 rise) hC rfl
    have c4 := hcell (k := 4) (v := .int .i64 run) hC rfl
    have c5 := hcell (k := 5) (v := .int .i64 cw) hC rfl
    have c6 := hcell (k := 6) (v := .int .i64 cd) hC rfl
    go_enter Try.func77, Try.ntmps77
    go_upto_region 1 with fail
    rw [← hW1, ← HTT.out]
    clear hW1
    go_wp2_with fail
    refine (CF.out _).mono ?_
    rintro e w1 ⟨rfl, hb1⟩
    have hB1 := hB.trans (hb1.mono hB.size)
    go_wp2
    go_ret
    exact ⟨rfl, hB1⟩
  | true =>
    have h0 : cfgE cf = 0 := by unfold cfgE; rw [hcf]; rfl
    rw [h0] at CF
    have HR2 : Hid (r = lnkOk cf a b) := by show _ = _; rw [hr]; unfold lnk; rw [hcf, Bool.true_and]
    unfold lnkOk nearB at HR2
    clear hr h0 hcf
    obtain ⟨cl, climb, height, rise, run, cw, cd⟩ := cf
    obtain ⟨ay, at_, aa⟩ := a
    obtain ⟨by_, bt, ba⟩ := b
    dsimp only [flrV, cfgV] at hC hF hG hW1 CF HR2 ⊢
    have c0 := hcell (k := 0) (v := .int .i64 cl) hC rfl
    have c1 := hcell (k := 1) (v := .int .i64 climb) hC rfl
    have c2 := hcell (k := 2) (v := .int .i64 height) hC rfl
    have c3 := hcell (k := 3) (v := .int .i64 rise) hC rfl
    have c4 := hcell (k := 4) (v := .int .i64 run) hC rfl
    have c5 := hcell (k := 5) (v := .int .i64 cw) hC rfl
    have c6 := hcell (k := 6) (v := .int .i64 cd) hC rfl
    go_enter Try.func77, Try.ntmps77
    go_upto_region 1 with fail
    rw [← hW1, ← HTT.out]
    clear hW1
    go_wp2_with fail
    refine (CF.out _).mono ?_
    rintro e w1 ⟨rfl, hb1⟩
    have hB1 := hB.trans (hb1.mono hB.size)
    have hC1 := hkeep hb1 hC
    have hF1 := hkeep hb1 hF
    have hG1 := hkeep hb1 hG
    clear c0 c1 c2 c3 c4 c5 c6 hC hF hG hb1 hB CF
    have c1 := hcell (k := 1) (v := .int .i64 climb) hC1 rfl
    have c2 := hcell (k := 2) (v := .int .i64 height) hC1 rfl
    have f0 := hcell (k := 0) (v := .int .i64 ay) hF1 rfl
    have f1 := hcell (k := 1) (v := .int .i64 at_) hF1 rfl
    have f2 := hcell (k := 2) (v := .int .i64 aa) hF1 rfl
    have g0 := hcell (k := 0) (v := .int .i64 by_) hG1 rfl
    have g1 := hcell (k := 1) (v := .int .i64 bt) hG1 rfl
    have g2 := hcell (k := 2) (v := .int .i64 ba) hG1 rfl
    by_cases a1 : aa ≤ 0
    · have hR : r = false := by rw [HR2.out, decide_eq_false (show ¬ 0 < aa by omega)]; simp
      subst hR
      clear HR2
      go_wp2
      go_ret
      exact ⟨rfl, hB1⟩
    by_cases a2 : ba ≤ 0
    · have hR : r = false := by rw [HR2.out, decide_eq_false (show ¬ 0 < ba by omega)]; simp
      subst hR
      clear HR2
      go_wp2
      go_ret
      exact ⟨rfl, hB1⟩
    go_upto_region 3 with fail
    have e_f0 := fun d os => cell_regrown f0 d os
    have e_g0 := fun d os => cell_regrown g0 d os
    refine wp_region_quiet_below (by kernel_rfl) (by kernel_rfl) ?_
    repeat (go_big_quiet_step (fail))
    refine wpQuiet_nil ?_
    rintro w4 ⟨⟨dq, osq⟩, hw4⟩
    have hstep : Below w1.heap.size w1 w4 := by rw [hw4]; exact below_regrown w1 dq osq
    have hB4 := hB1.trans (hstep.mono hB1.size)
    have c1' := hbc hstep c1
    have c2' := hbc hstep c2
    have f1' := hbc hstep f1
    have g1' := hbc hstep g1
    clear hw4 e_f0 e_g0 c1 c2 f0 f1 f2 g0 g1 g2 hC1 hF1 hG1 hstep hB1
    generalize hlo : min ay by_ = lo
    generalize hhi : max ay by_ = hi
    have HLO := Lib.hid hlo
    have HHI := Lib.hid hhi
    clear hlo hhi
    by_cases ht : bt < at_
    · have ht2 : ¬ at_ < bt := by omega
      go_wp2
      all_goals
        go_ret
        refine ⟨ret_bool ?_, hB4⟩
        rw [HR2.out]
        have := HLO.out
        have := HHI.out
        clear HR2 HLO HHI hB4 HTT c1' c2' f1' g1'
        grind
    · by_cases ht2 : at_ < bt
      all_goals
        go_wp2
        all_goals
          go_ret
          refine ⟨ret_bool ?_, hB4⟩
          rw [HR2.out]
          have := HLO.out
          have := HHI.out
          clear HR2 HLO HHI hB4 HTT c1' c2' f1' g1'
          grind
end Go.Proofs.Ytgfmdgiepomkiaa
