/- Walk: the columns that a triangle may lie over. -/
import Derived.Test.YtndjljefppbmcaaClpV
import Derived.Test.YtndjljefppbmcaaClpZ
import Derived.Deep.DeepCutAuto
namespace Go.Proofs.Ytndjljefppbmcaa
open Go.RowKit
attribute [local go_sem] Instr.index

abbrev triO (i : Int) (a b c : V3) : Obj := .cells #[.int .i64 i, .int .i64 a.x, .int .i64 a.y, .int .i64 a.z, .int .i64 b.x, .int .i64 b.y, .int .i64 b.z, .int .i64 c.x, .int .i64 c.y, .int .i64 c.z] 65
abbrev vxO (a : V3) : Obj := .cells #[.int .i64 a.x, .int .i64 a.y, .int .i64 a.z] 62
theorem results_tmp5 {fn : Func} {t u v x y : Tmp} (h : fn.results = #[.tmp t, .tmp u, .tmp v, .tmp x, .tmp y]) (tmps : Array Value) (P : Program) (w : World) :
    (results fn tmps).run P w = .ok (.tuple #[tmps.getD t undef, tmps.getD u undef, tmps.getD v undef, tmps.getD x undef, tmps.getD y undef]) w := by
  simp [results, h]

theorem min_ite (x y : Int) : (if y < x then y else x) = min x y := by
  split <;> omega
theorem max_ite (x y : Int) : (if x < y then y else x) = max x y := by
  split <;> omega
theorem three_new (W : World) (a b c : Obj) : (((W.alloc a).alloc b).alloc c).heap[W.heap.size]? = some a ∧ (((W.alloc a).alloc b).alloc c).heap[W.heap.size + 1]? = some b ∧ (((W.alloc a).alloc b).alloc c).heap[W.heap.size + 1 + 1]? = some c := by
  have h1 := halloc (halloc (World.alloc_heap_new W a) b) c
  have h2 := halloc (World.alloc_heap_new (W.alloc a) b) c
  have h3 := World.alloc_heap_new ((W.alloc a).alloc b) c
  simp only [World.size_alloc] at h2 h3
  exact ⟨h1, h2, h3⟩

set_option maxRecDepth 100000 in
set_option maxHeartbeats 16000000 in
theorem columns_any (i : Int) (a b c : V3) (w : World) :
    Calls Try.prog 39 #[tiA i a b c] w fun e w' => e = .returned (.tuple #[.int .i64 (colsE a b c).1, .int .i64 (colsE a b c).2.1, .int .i64 (colsE a b c).2.2.1, .int .i64 (colsE a b c).2.2.2.1, .int .i64 (colsE a b c).2.2.2.2]) ∧ Below w.heap.size w w' := by
  have OP := Lib.hid (fun W => open_any i a b c W)
  have hB : Below w.heap.size w (w.alloc (triO i a b c)) := (Below.refl _ _).alloc (Nat.le_refl _) _
  have hI := World.alloc_heap_new w (triO i a b c)
  cases ho : (openT a b c).2 with
  | false =>
    have hc : colsE a b c = (0, 0, 0, 0, 40) := by unfold colsE; rw [if_pos ho]
    rw [hc]
    rw [ho] at OP
    generalize (openT a b c).1 = t at OP
    obtain ⟨ta, tb, tc, ts⟩ := t
    obtain ⟨ax, ay, az⟩ := a
    obtain ⟨bx, by_, bz⟩ := b
    obtain ⟨cx, cy, cz⟩ := c
    clear hc ho hI
    go_enter Try.func39, Try.ntmps39
    go_wp2_with fail
    refine (OP.out _).mono ?_
    rintro e w1 ⟨rfl, hb1⟩
    have hB2 := (hB.trans (hb1.mono hB.size)).alloc (hB.trans (hb1.mono hB.size)).size (.cells (t3C ⟨ta, tb, tc, ts⟩) 121)
    clear hb1 hB OP
    go_wp2
    ((try simp only [Exit.inBlock, Exit.then]); refine bodyPost_ret (results_tmp5 rfl _ _ _) rfl ?_)
    exact ⟨rfl, hB2⟩
  | true =>
    have hc : colsE a b c = (min (min a.x b.x) c.x - 1, min (min a.z b.z) c.z - 1, max (max a.x b.x) c.x, max (max a.z b.z) c.z, 0) := by unfold colsE; rw [if_neg (by rw [ho]; decide)]
    have hv : vOk a = true ∧ vOk b = true ∧ vOk c = true := by
      unfold openT at ho
      by_cases h : (vOk a && vOk b && vOk c) = true
      · simpa [Bool.and_eq_true, and_assoc] using h
      · rw [if_neg h] at ho; cases ho
    obtain ⟨va, vb, vc⟩ := hv
    rw [vOk_iff] at va vb vc
    have hw1 : IntKind.i64.wrap (min (min a.x b.x) c.x - 1) = min (min a.x b.x) c.x - 1 := by rw [IntKind.wrap_i64]; omega
    have hw2 : IntKind.i64.wrap (min (min a.z b.z) c.z - 1) = min (min a.z b.z) c.z - 1 := by rw [IntKind.wrap_i64]; omega
    rw [hc]
    rw [ho] at OP
    generalize (openT a b c).1 = t at OP
    obtain ⟨ta, tb, tc, ts⟩ := t
    obtain ⟨ax, ay, az⟩ := a
    obtain ⟨bx, by_, bz⟩ := b
    obtain ⟨cx, cy, cz⟩ := c
    simp only at hw1 hw2
    clear hc ho va vb vc
    go_enter Try.func39, Try.ntmps39
    go_wp2_with fail
    refine (OP.out _).mono ?_
    rintro e w1 ⟨rfl, hb1⟩
    have hB2 := (hB.trans (hb1.mono hB.size)).alloc (hB.trans (hb1.mono hB.size)).size (.cells (t3C ⟨ta, tb, tc, ts⟩) 121)
    have hI2 := halloc (hkeep hb1 hI) (.cells (t3C ⟨ta, tb, tc, ts⟩) 121)
    clear hb1 hB OP hI
    go_upto_region 4 with fail
    generalize w1.alloc (.cells (t3C ⟨ta, tb, tc, ts⟩) 121) = W at hB2 hI2 ⊢
    obtain ⟨T, hT⟩ : ∃ T, T = w.heap.size := ⟨_, rfl⟩
    rw [← hT] at hI2 ⊢
    have HT := Lib.hid hT
    clear hT
    go_cut [9, 10, 11] from 19 to 27 (fun s9 s10 s11 wx => ∃ p q r : Nat, s9 = .pointer (some ⟨p, 0, none⟩) ∧ s10 = .pointer (some ⟨q, 0, none⟩) ∧ s11 = .pointer (some ⟨r, 0, none⟩) ∧ wx.heap[p]? = some (vxO ⟨ax, ay, az⟩) ∧ wx.heap[q]? = some (vxO ⟨bx, by_, bz⟩) ∧ wx.heap[r]? = some (vxO ⟨cx, cy, cz⟩) ∧ Below W.heap.size W wx)
    case first =>
      have c1 := hcell (k := 1) (v := .int .i64 ax) hI2 rfl
      have c2 := hcell (k := 2) (v := .int .i64 ay) hI2 rfl
      have c3 := hcell (k := 3) (v := .int .i64 az) hI2 rfl
      have c4 := hcell (k := 4) (v := .int .i64 bx) hI2 rfl
      have c5 := hcell (k := 5) (v := .int .i64 by_) hI2 rfl
      have c6 := hcell (k := 6) (v := .int .i64 bz) hI2 rfl
      have c7 := hcell (k := 7) (v := .int .i64 cx) hI2 rfl
      have c8 := hcell (k := 8) (v := .int .i64 cy) hI2 rfl
      have c9 := hcell (k := 9) (v := .int .i64 cz) hI2 rfl
      have hlt := hblt hI2
      have n1 : W.heap.size ≠ T := by omega
      have n2 : W.heap.size + 1 ≠ T := by omega
      have n3 : W.heap.size + 1 + 1 ≠ T := by omega
      have n4 : W.heap.size + 2 ≠ T := by omega
      clear hB2 hI2 hw1 hw2
      go_wp2_with fail
      go_region_held3 (fun WW => WW.cell? ⟨T, 1, none⟩ = some (.int .i64 ax) ∧ WW.cell? ⟨T, 2, none⟩ = some (.int .i64 ay) ∧ WW.cell? ⟨T, 3, none⟩ = some (.int .i64 az) ∧ WW.cell? ⟨T, 4, none⟩ = some (.int .i64 bx) ∧ WW.cell? ⟨T, 5, none⟩ = some (.int .i64 by_) ∧ WW.cell? ⟨T, 6, none⟩ = some (.int .i64 bz) ∧ WW.cell? ⟨T, 7, none⟩ = some (.int .i64 cx) ∧ WW.cell? ⟨T, 8, none⟩ = some (.int .i64 cy) ∧ WW.cell? ⟨T, 9, none⟩ = some (.int .i64 cz)) (first | (refine ⟨hbc ?_ c1, hbc ?_ c2, hbc ?_ c3, hbc ?_ c4, hbc ?_ c5, hbc ?_ c6, hbc ?_ c7, hbc ?_ c8, hbc ?_ c9⟩ <;> (repeat (first | with_reducible exact Below.refl _ _ | with_reducible refine Below.drew ?_ | (with_reducible refine Below.alloc ?_ ?_ _; rotate_left; (simp; try omega); skip))))) (fail)
      all_goals
        rename_i hH
        clear hH
        go_wp2
        go_meet
        refine ⟨_, _, _, rfl, rfl, rfl, ?_, ?_, ?_, ?_⟩
        · first | exact (three_new _ _ _ _).1 | exact (three_new _ _ _ _).2.1 | exact (three_new _ _ _ _).2.2
        · first | exact (three_new _ _ _ _).1 | exact (three_new _ _ _ _).2.1 | exact (three_new _ _ _ _).2.2
        · first | exact (three_new _ _ _ _).1 | exact (three_new _ _ _ _).2.1 | exact (three_new _ _ _ _).2.2
        · exact ((((Below.refl _ _).alloc (Nat.le_refl _) _).alloc (by simp) _).alloc (by simp; omega) _).drew
    case rest =>
    obtain ⟨p, q, r, rfl, rfl, rfl, hp, hq, hr, hbw⟩ := hcut
    have hB3 := hB2.trans (hbw.mono hB2.size)
    have d0 := hcell (k := 0) (v := .int .i64 ax) hp rfl
    have d2 := hcell (k := 2) (v := .int .i64 az) hp rfl
    have e0 := hcell (k := 0) (v := .int .i64 bx) hq rfl
    have e2 := hcell (k := 2) (v := .int .i64 bz) hq rfl
    have g0 := hcell (k := 0) (v := .int .i64 cx) hr rfl
    have g2 := hcell (k := 2) (v := .int .i64 cz) hr rfl
    clear hp hq hr hbw hI2 hB2
    have e_d0 := fun d os => cell_regrown d0 d os
    have e_d2 := fun d os => cell_regrown d2 d os
    have e_e0 := fun d os => cell_regrown e0 d os
    have e_e2 := fun d os => cell_regrown e2 d os
    have e_g0 := fun d os => cell_regrown g0 d os
    have e_g2 := fun d os => cell_regrown g2 d os
    clear d0 d2 e0 e2 g0 g2
    go_upto_region 5 with fail
    refine wp_region_quiet_below (by kernel_rfl) (by kernel_rfl) ?_
    repeat (go_big_quiet_step (fail))
    refine wpQuiet_nil ?_
    rintro w4 ⟨⟨dq, osq⟩, hw4⟩
    have hb4 : Below w.heap.size w w4 := by rw [hw4]; exact hB3.trans ((below_regrown wc dq osq).mono hB3.size)
    have hw1' : wrap64 (min (min ax bx) cx - 1) = min (min ax bx) cx - 1 := by have h := hw1; rw [IntKind.wrap_i64] at h; unfold wrap64; exact h
    have hw2' : wrap64 (min (min az bz) cz - 1) = min (min az bz) cz - 1 := by have h := hw2; rw [IntKind.wrap_i64] at h; unfold wrap64; exact h
    simp only [min_ite, max_ite, hw1', hw2']
    clear hw4 e_d0 e_d2 e_e0 e_e2 e_g0 e_g2 hB3
    go_wp2
    ((try simp only [Exit.inBlock, Exit.then]); refine bodyPost_ret (results_tmp5 rfl _ _ _) rfl ?_)
    exact ⟨rfl, hb4⟩
end Go.Proofs.Ytndjljefppbmcaa
