/- Walks: core.Tiles, core.tile, core.Columns, of a config that may be. -/
import Derived.Test.YtmgkkmcihplojaaGreatKa
import Derived.Test.YtmgkkmcihplojaaGreatRctC
import Derived.Lib.QuietBelow
namespace Go.Proofs.YtmgkkmcihplojaaGreat
open Go.RowKit

theorem tW_facts {cf : Cfg} (h : cfgOk cf = true) : 1 ≤ cf.w ∧ cf.w ≤ 32 ∧ 1 ≤ cf.d ∧ cf.d ≤ 32 ∧ (cf.w - 1).tdiv 8 + 1 = tW cf.w ∧ (cf.d - 1).tdiv 8 + 1 = tW cf.d ∧ 1 ≤ tW cf.w ∧ tW cf.w ≤ 4 ∧ 1 ≤ tW cf.d ∧ tW cf.d ≤ 4 := by
  unfold cfgOk at h
  rw [decide_eq_true_eq] at h
  have h1 : 1 ≤ cf.w ∧ cf.w ≤ 32 ∧ 1 ≤ cf.d ∧ cf.d ≤ 32 := by omega
  have a : (cf.w - 1).tdiv 8 = (cf.w - 1) / 8 := Int.tdiv_eq_ediv_of_nonneg (by omega)
  have b : (cf.d - 1).tdiv 8 = (cf.d - 1) / 8 := Int.tdiv_eq_ediv_of_nonneg (by omega)
  unfold tW
  rw [a, b]
  omega
set_option maxHeartbeats 1000000 in
theorem tiles_any (cf : Cfg) (w : World) (hcf : cfgOk cf = true) :
    Calls Tryz.prog 81 #[cfgV cf] w fun e w' => e = .returned (.tuple #[.int .i64 (tW cf.w), .int .i64 (tW cf.d)]) ∧ Below w.heap.size w w' := by
  have CF := Lib.hid (fun W => cfgcheck_any cf W)
  have hE : cfgE cf = 0 := by unfold cfgE; rw [if_pos hcf]
  rw [hE] at CF
  obtain ⟨h1, h2, h3, h4, h5, h6, h7, h8, h9, h10⟩ := tW_facts hcf
  have w1 : IntKind.i64.wrap (cf.w - 1) = cf.w - 1 := by rw [IntKind.wrap_i64]; omega
  have w2 : IntKind.i64.wrap (cf.d - 1) = cf.d - 1 := by rw [IntKind.wrap_i64]; omega
  have w3 : IntKind.i64.wrap ((cf.w - 1).tdiv 8) = (cf.w - 1).tdiv 8 := by rw [IntKind.wrap_i64]; omega
  have w4 : IntKind.i64.wrap ((cf.d - 1).tdiv 8) = (cf.d - 1).tdiv 8 := by rw [IntKind.wrap_i64]; omega
  have w5 : IntKind.i64.wrap ((cf.w - 1).tdiv 8 + 1) = (cf.w - 1).tdiv 8 + 1 := by rw [IntKind.wrap_i64]; omega
  have w6 : IntKind.i64.wrap ((cf.d - 1).tdiv 8 + 1) = (cf.d - 1).tdiv 8 + 1 := by rw [IntKind.wrap_i64]; omega
  have HO : Hid (∀ w', Below w.heap.size w w' → Ending.returned (.tuple #[.int .i64 ((cf.w - 1).tdiv 8 + 1), .int .i64 ((cf.d - 1).tdiv 8 + 1)]) = Ending.returned (.tuple #[.int .i64 (tW cf.w), .int .i64 (tW cf.d)]) ∧ Below w.heap.size w w') := fun w' hB => ⟨by rw [h5, h6], hB⟩
  clear h5 h6 h7 h8 h9 h10 hE
  have hB : Below w.heap.size w (w.alloc (cfO cf)) := (Below.refl _ _).alloc (Nat.le_refl _) _
  have hC := World.alloc_heap_new w (cfO cf)
  obtain ⟨W1, hW1⟩ : ∃ W, W = w.alloc (cfO cf) := ⟨_, rfl⟩
  rw [← hW1] at hB hC
  dsimp only [cfO, cfgV] at hC hW1 CF ⊢
  have c0 := hcell (k := 0) (v := .int .i64 cf.clear) hC rfl
  have c1 := hcell (k := 1) (v := .int .i64 cf.climb) hC rfl
  have c2 := hcell (k := 2) (v := .int .i64 cf.height) hC rfl
  have c3 := hcell (k := 3) (v := .int .i64 cf.rise) hC rfl
  have c4 := hcell (k := 4) (v := .int .i64 cf.run) hC rfl
  have c5 := hcell (k := 5) (v := .int .i64 cf.w) hC rfl
  have c6 := hcell (k := 6) (v := .int .i64 cf.d) hC rfl
  go_enter Tryz.func81, Tryz.ntmps81
  go_upto_region 1 with fail
  rw [← hW1]
  clear hW1
  go_wp2_with fail
  refine (CF.out _).mono ?_
  rintro e w1 ⟨rfl, hb1⟩
  have hC1 := hkeep hb1 hC
  have hB1 := hB.trans (hb1.mono hB.size)
  clear hC hb1 hB c0 c1 c2 c3 c4 c5 c6
  have d5 := hcell (k := 5) (v := .int .i64 cf.w) hC1 rfl
  have d6 := hcell (k := 6) (v := .int .i64 cf.d) hC1 rfl
  have e_d5 := fun d os => cell_regrown d5 d os
  have e_d6 := fun d os => cell_regrown d6 d os
  clear hC1 d5 d6
  go_upto_region 3 with fail
  refine wp_region_quiet_below (by kernel_rfl) (by kernel_rfl) ?_
  repeat (go_big_quiet_step (fail))
  refine wpQuiet_nil ?_
  rintro w4 ⟨⟨dq, osq⟩, hw4⟩
  have hb4 : Below w1.heap.size w1 w4 := by rw [hw4]; exact below_regrown w1 dq osq
  have hB4 := hB1.trans (hb4.mono hB1.size)
  clear hw4 e_d5 e_d6
  go_wp2
  go_ret2
  exact HO.out _ hB4
/-- What core.Columns tells. -/
def colV (cf : Cfg) (tx tz : Int) : Int × Int × Int × Int × Bool := if colOk cf tx tz then (tx * 8, tz * 8, min 8 (cf.w - tx * 8), min 8 (cf.d - tz * 8), true) else (0, 0, 0, 0, false)
end Go.Proofs.YtmgkkmcihplojaaGreat

namespace Go.Proofs.YtmgkkmcihplojaaGreat
open Go.RowKit

theorem results_tmp5 {fn : Func} {t u v x y : Tmp} (h : fn.results = #[.tmp t, .tmp u, .tmp v, .tmp x, .tmp y]) (tmps : Array Value) (P : Program) (w : World) :
    (results fn tmps).run P w = .ok (.tuple #[tmps.getD t undef, tmps.getD u undef, tmps.getD v undef, tmps.getD x undef, tmps.getD y undef]) w := by
  simp [results, h]
def TbInv (T B : Nat) (cf : Cfg) (x z mw md : Int) (H : Nat) (w1 : World) (F : Value → Value → Value → Value → Value → Value → Value → Value → Value → Value → Value → Value → Value → Value → Value → Value → Value → Value → Array Value) (D : List Deferred) (L : Array Bool) (a : Act) (w : World) : Prop :=
  ∃ (s0 s1 s2 s3 s4 s5 s6 s7 s8 s9 s10 s11 s12 s13 s14 s15 s16 s18 : Value), a = { tmps := F s0 s1 s2 s3 s4 s5 s6 s7 s8 s9 s10 s11 s12 s13 s14 s15 s16 s18, defers := D } ∧
    Below H w1 w ∧
    w.heap[T]? = some (cfO cf) ∧
    w.heap[B]? = some (.cells (if L.getD 17 false = true then #[.int .i64 x, .int .i64 z, .int .i64 mw, .int .i64 md] else #[.int .i64 0, .int .i64 0, .int .i64 0, .int .i64 0]) 137 (0, 0)) ∧
    (L.getD 0 false = true → s0 = .int .i64 x) ∧
    (L.getD 1 false = true → s1 = .int .i64 z) ∧
    (L.getD 2 false = true → s2 = .pointer (some ⟨T, 0, none⟩)) ∧
    (L.getD 3 false = true → s3 = .pointer (some ⟨T, 0, none⟩)) ∧
    (L.getD 4 false = true → s4 = .pointer (some ⟨T, 5, none⟩)) ∧
    (L.getD 5 false = true → s5 = .int .i64 cf.w) ∧
    (L.getD 6 false = true → s6 = .int .i64 x) ∧
    (L.getD 7 false = true → s7 = .int .i64 (cf.w - x)) ∧
    (L.getD 8 false = true → s8 = .int .i64 mw) ∧
    (L.getD 9 false = true → s9 = .pointer (some ⟨T, 0, none⟩)) ∧
    (L.getD 10 false = true → s10 = .pointer (some ⟨T, 0, none⟩)) ∧
    (L.getD 11 false = true → s11 = .pointer (some ⟨T, 6, none⟩)) ∧
    (L.getD 12 false = true → s12 = .int .i64 cf.d) ∧
    (L.getD 13 false = true → s13 = .int .i64 z) ∧
    (L.getD 14 false = true → s14 = .int .i64 (cf.d - z)) ∧
    (L.getD 15 false = true → s15 = .int .i64 md) ∧
    (L.getD 16 false = true → s16 = .agg #[.int .i64 x, .int .i64 z, .int .i64 mw, .int .i64 md]) ∧
    (L.getD 18 false = true → s18 = .bool true)
/-- A tile's box. -/
def boxL (cf : Cfg) (tx tz : Int) : List Value := if colOk cf tx tz then [.int .i64 (tx * 8), .int .i64 (tz * 8), .int .i64 (min 8 (cf.w - tx * 8)), .int .i64 (min 8 (cf.d - tz * 8))] else [.int .i64 0, .int .i64 0, .int .i64 0, .int .i64 0]
set_option maxRecDepth 100000 in
set_option maxHeartbeats 4000000 in
theorem ctile_any (cf : Cfg) (T : Nat) (tx tz : Int) (w : World) (hcf : cfgOk cf = true) (hT : w.heap[T]? = some (cfO cf)) :
    Calls Tryz.prog 56 #[.pointer (some ⟨T, 0, none⟩), .int .i64 tx, .int .i64 tz] w fun e w' => e = .returned (.tuple #[.agg (boxL cf tx tz).toArray, .bool (colOk cf tx tz)]) ∧ Below w.heap.size w w' := by
  have TL := Lib.hid (fun W => tiles_any cf W hcf)
  obtain ⟨h1, h2, h3, h4, _, _, h7, h8, h9, h10⟩ := tW_facts hcf
  have hB0 : Below w.heap.size w (w.alloc (.cells #[.int .i64 0, .int .i64 0, .int .i64 0, .int .i64 0] 137 (0, 0))) := (Below.refl _ _).alloc (Nat.le_refl _) _
  have hC0 := halloc hT (.cells #[.int .i64 0, .int .i64 0, .int .i64 0, .int .i64 0] 137 (0, 0))
  have hK0 := World.alloc_heap_new w (.cells #[.int .i64 0, .int .i64 0, .int .i64 0, .int .i64 0] 137 (0, 0))
  have hTl := hblt hT
  clear hT
  obtain ⟨W1, hW1⟩ : ∃ W, W = w.alloc (.cells #[.int .i64 0, .int .i64 0, .int .i64 0, .int .i64 0] 137 (0, 0)) := ⟨_, rfl⟩
  rw [← hW1] at hB0 hC0 hK0
  dsimp only [cfgV] at TL
  dsimp only [cfO] at hC0
  have c0 := hcell (k := 0) (v := .int .i64 cf.clear) hC0 rfl
  have c1 := hcell (k := 1) (v := .int .i64 cf.climb) hC0 rfl
  have c2 := hcell (k := 2) (v := .int .i64 cf.height) hC0 rfl
  have c3 := hcell (k := 3) (v := .int .i64 cf.rise) hC0 rfl
  have c4 := hcell (k := 4) (v := .int .i64 cf.run) hC0 rfl
  have c5 := hcell (k := 5) (v := .int .i64 cf.w) hC0 rfl
  have c6 := hcell (k := 6) (v := .int .i64 cf.d) hC0 rfl
  go_enter Tryz.func56, Tryz.ntmps56
  go_upto_region 1 with fail
  rw [← hW1]
  clear hW1
  go_wp2_with fail
  refine (TL.out _).mono ?_
  rintro e w2 ⟨rfl, hb2⟩
  have hC2 := hkeep hb2 hC0
  have hK2 := hkeep hb2 hK0
  have hB2 := hB0.trans (hb2.mono hB0.size)
  clear hC0 hK0 hB0 hb2 c0 c1 c2 c3 c4 c5 c6 TL
  have hK3 := hK2
  have z0 := hcell (k := 0) (v := .int .i64 0) hK2 rfl
  have z1 := hcell (k := 1) (v := .int .i64 0) hK2 rfl
  have z2 := hcell (k := 2) (v := .int .i64 0) hK2 rfl
  have z3 := hcell (k := 3) (v := .int .i64 0) hK2 rfl
  have f0 := hfroz (k := 0) hK2
  have f1 := hfroz (k := 1) hK2
  have f2 := hfroz (k := 2) hK2
  have f3 := hfroz (k := 3) hK2
  have HKN := Lib.hid (bx4_set hK2 (.int .i64 0) (.int .i64 0) (.int .i64 0) (.int .i64 0))
  have HBN := Lib.hid (hB2.grown (bx4_grown (w := w2) (b := w.heap.size) (.int .i64 0) (.int .i64 0) (.int .i64 0) (.int .i64 0)) hB2.size (fun j hj => by cases hj; omega))
  by_cases q1 : tx < 0
  case pos =>
    have hN : colOk cf tx tz = false := by unfold colOk; rw [decide_eq_false (by omega : ¬ 0 ≤ tx)]; rfl
    clear hK3 hK2 hC2
    go_wp2
    refine bodyPost_ret (results_c1t rfl _ _ w.heap.size 137 #[.int .i64 0, .int .i64 0, .int .i64 0, .int .i64 0] (0, 0) _ rfl HKN.out Tryz.underlying137 rfl (by kernel_rfl)) rfl ⟨by unfold boxL; rw [hN]; rfl, HBN.out⟩
  by_cases q2 : tx < tW cf.w
  case neg =>
    have q2' : tW cf.w ≤ tx := by omega
    have hN : colOk cf tx tz = false := by unfold colOk; rw [decide_eq_false q2]; simp
    clear hK3 hK2 hC2
    go_wp2
    refine bodyPost_ret (results_c1t rfl _ _ w.heap.size 137 #[.int .i64 0, .int .i64 0, .int .i64 0, .int .i64 0] (0, 0) _ rfl HKN.out Tryz.underlying137 rfl (by kernel_rfl)) rfl ⟨by unfold boxL; rw [hN]; rfl, HBN.out⟩
  have q2' : ¬ tW cf.w ≤ tx := by omega
  by_cases q3 : tz < 0
  case pos =>
    have hN : colOk cf tx tz = false := by unfold colOk; rw [decide_eq_false (by omega : ¬ 0 ≤ tz)]; simp
    clear hK3 hK2 hC2
    go_wp2
    refine bodyPost_ret (results_c1t rfl _ _ w.heap.size 137 #[.int .i64 0, .int .i64 0, .int .i64 0, .int .i64 0] (0, 0) _ rfl HKN.out Tryz.underlying137 rfl (by kernel_rfl)) rfl ⟨by unfold boxL; rw [hN]; rfl, HBN.out⟩
  by_cases q4 : tz < tW cf.d
  case neg =>
    have q4' : tW cf.d ≤ tz := by omega
    have hN : colOk cf tx tz = false := by unfold colOk; rw [decide_eq_false q4]; simp
    clear hK3 hK2 hC2
    go_wp2
    refine bodyPost_ret (results_c1t rfl _ _ w.heap.size 137 #[.int .i64 0, .int .i64 0, .int .i64 0, .int .i64 0] (0, 0) _ rfl HKN.out Tryz.underlying137 rfl (by kernel_rfl)) rfl ⟨by unfold boxL; rw [hN]; rfl, HBN.out⟩
  have q4' : ¬ tW cf.d ≤ tz := by omega
  have hN : colOk cf tx tz = true := by unfold colOk; simp [q2, q4]; omega
  have w1 : IntKind.i64.wrap (tx * 8) = tx * 8 := by rw [IntKind.wrap_i64]; omega
  have w2_ : IntKind.i64.wrap (tz * 8) = tz * 8 := by rw [IntKind.wrap_i64]; omega
  clear z0 z1 z2 z3 f0 f1 f2 f3 HKN HBN
  go_upto_region 5 with fail
  obtain ⟨x, hx⟩ : ∃ x, x = tx * 8 := ⟨_, rfl⟩
  obtain ⟨z, hz⟩ : ∃ z, z = tz * 8 := ⟨_, rfl⟩
  have u1 : IntKind.i64.wrap (cf.w - x) = cf.w - x := by rw [IntKind.wrap_i64]; omega
  have u2 : IntKind.i64.wrap (cf.d - z) = cf.d - z := by rw [IntKind.wrap_i64]; omega
  rw [← hx, ← hz]
  have HN := Lib.hid hN
  have HX := Lib.hid hx.symm
  have HZ := Lib.hid hz.symm
  clear w1 w2_ q1 q2 q3 q4 q2' q4' hx hz hN
  refine wp_region_inv (TbInv T w.heap.size cf x z (if cf.w - x < 8 then cf.w - x else 8) (if cf.d - z < 8 then cf.d - z else 8) w.heap.size w2 (fun s0 s1 s2 s3 s4 s5 s6 s7 s8 s9 s10 s11 s12 s13 s14 s15 s16 s18 => #[Value.pointer (some { block := T, off := 0 }), Value.int IntKind.i64 tx, Value.int IntKind.i64 tz, undef, undef, undef, Value.pointer (some { block := w.heap.size, off := 0 }), s18, Value.int IntKind.i64 (tW cf.w), Value.int IntKind.i64 (tW cf.d), Value.int IntKind.i64 x, Value.int IntKind.i64 z, Value.tuple #[Value.int IntKind.i64 (tW cf.w), Value.int IntKind.i64 (tW cf.d)], Value.pointer (some { block := T, off := 0 }), Value.pointer (some { block := T, off := 0 }), Value.agg #[Value.int IntKind.i64 cf.clear, Value.int IntKind.i64 cf.climb, Value.int IntKind.i64 cf.height, Value.int IntKind.i64 cf.rise, Value.int IntKind.i64 cf.run, Value.int IntKind.i64 cf.w, Value.int IntKind.i64 cf.d], Value.tuple #[Value.int IntKind.i64 (tW cf.w), Value.int IntKind.i64 (tW cf.d)], Value.int IntKind.i64 (tW cf.w), Value.int IntKind.i64 (tW cf.d), Value.int IntKind.i64 tx, Value.bool (decide (tx < 0)), Value.bool (decide (tx < 0)), Value.int IntKind.i64 tx, Value.int IntKind.i64 (tW cf.w), Value.bool (decide (tW cf.w ≤ tx)), Value.bool (decide (tx < 0) || decide (tW cf.w ≤ tx)), Value.bool (decide (tx < 0) || decide (tW cf.w ≤ tx)), Value.int IntKind.i64 tz, Value.bool (decide (tz < 0)), Value.bool (decide (tx < 0) || decide (tW cf.w ≤ tx) || decide (tz < 0)), Value.bool (decide (tx < 0) || decide (tW cf.w ≤ tx) || decide (tz < 0)), Value.int IntKind.i64 tz, Value.int IntKind.i64 (tW cf.d), Value.bool (decide (tW cf.d ≤ tz)), Value.bool (decide (tx < 0) || decide (tW cf.w ≤ tx) || decide (tz < 0) || decide (tW cf.d ≤ tz)), undef, Value.int IntKind.i64 tx, Value.int IntKind.i64 x, Value.int IntKind.i64 tz, Value.int IntKind.i64 z, s0, s1, s2, s3, s4, s5, s6, s7, s8, s9, s10, s11, s12, s13, s14, s15, s16]) []) (by kernel_rfl) (by kernel_rfl) ?_ ?_ ?_
  · unfold TbInv
    refine ⟨_, _, _, _, _, _, _, _, _, _, _, _, _, _, _, _, _, _, rfl, (Below.refl _ _).drew, hC2, by rw [if_neg (by decide)]; exact hK2, (fun h => by cases (show false = true from h)), (fun h => by cases (show false = true from h)), (fun h => by cases (show false = true from h)), (fun h => by cases (show false = true from h)), (fun h => by cases (show false = true from h)), (fun h => by cases (show false = true from h)), (fun h => by cases (show false = true from h)), (fun h => by cases (show false = true from h)), (fun h => by cases (show false = true from h)), (fun h => by cases (show false = true from h)), (fun h => by cases (show false = true from h)), (fun h => by cases (show false = true from h)), (fun h => by cases (show false = true from h)), (fun h => by cases (show false = true from h)), (fun h => by cases (show false = true from h)), (fun h => by cases (show false = true from h)), (fun h => by cases (show false = true from h)), (fun h => by cases (show false = true from h))⟩
  · intro L a wi i hs hI hi
    have hsN : L.size = 19 := hs
    have hn := ready_elim hi
    have hlt : i < 19 := by
        obtain ⟨o, ho, _⟩ := hn.2
        exact (Array.getElem?_eq_some_iff.1 ho).1
    have hi' := ready_not hi false (by rw [hs]; exact hlt)
    clear hn
    unfold TbInv at hI
    obtain ⟨s0, s1, s2, s3, s4, s5, s6, s7, s8, s9, s10, s11, s12, s13, s14, s15, s16, s18, rfl, hB, hF_C, hX_B, h0, h1, h2, h3, h4, h5, h6, h7, h8, h9, h10, h11, h12, h13, h14, h15, h16, h18⟩ := hI
    rcases (by omega : i = 0 ∨ i = 1 ∨ i = 2 ∨ i = 3 ∨ i = 4 ∨ i = 5 ∨ i = 6 ∨ i = 7 ∨ i = 8 ∨ i = 9 ∨ i = 10 ∨ i = 11 ∨ i = 12 ∨ i = 13 ∨ i = 14 ∨ i = 15 ∨ i = 16 ∨ i = 17 ∨ i = 18) with rfl | rfl | rfl | rfl | rfl | rfl | rfl | rfl | rfl | rfl | rfl | rfl | rfl | rfl | rfl | rfl | rfl | rfl | rfl
    · skip
      refine wpOp_of rfl rfl ?_
      go_simp
      unfold TbInv
      exact ⟨_, _, _, _, _, _, _, _, _, _, _, _, _, _, _, _, _, _, rfl, (hB), (hF_C), (by rw [getD_set_ne (by decide)]; exact hX_B), (fun _ => rfl), (fun h => h1 (by rwa [getD_set_ne (by decide)] at h)), (fun h => h2 (by rwa [getD_set_ne (by decide)] at h)), (fun h => h3 (by rwa [getD_set_ne (by decide)] at h)), (fun h => h4 (by rwa [getD_set_ne (by decide)] at h)), (fun h => h5 (by rwa [getD_set_ne (by decide)] at h)), (fun h => h6 (by rwa [getD_set_ne (by decide)] at h)), (fun h => h7 (by rwa [getD_set_ne (by decide)] at h)), (fun h => h8 (by rwa [getD_set_ne (by decide)] at h)), (fun h => h9 (by rwa [getD_set_ne (by decide)] at h)), (fun h => h10 (by rwa [getD_set_ne (by decide)] at h)), (fun h => h11 (by rwa [getD_set_ne (by decide)] at h)), (fun h => h12 (by rwa [getD_set_ne (by decide)] at h)), (fun h => h13 (by rwa [getD_set_ne (by decide)] at h)), (fun h => h14 (by rwa [getD_set_ne (by decide)] at h)), (fun h => h15 (by rwa [getD_set_ne (by decide)] at h)), (fun h => h16 (by rwa [getD_set_ne (by decide)] at h)), (fun h => h18 (by rwa [getD_set_ne (by decide)] at h))⟩
    · skip
      refine wpOp_of rfl rfl ?_
      go_simp
      unfold TbInv
      exact ⟨_, _, _, _, _, _, _, _, _, _, _, _, _, _, _, _, _, _, rfl, (hB), (hF_C), (by rw [getD_set_ne (by decide)]; exact hX_B), (fun h => h0 (by rwa [getD_set_ne (by decide)] at h)), (fun _ => rfl), (fun h => h2 (by rwa [getD_set_ne (by decide)] at h)), (fun h => h3 (by rwa [getD_set_ne (by decide)] at h)), (fun h => h4 (by rwa [getD_set_ne (by decide)] at h)), (fun h => h5 (by rwa [getD_set_ne (by decide)] at h)), (fun h => h6 (by rwa [getD_set_ne (by decide)] at h)), (fun h => h7 (by rwa [getD_set_ne (by decide)] at h)), (fun h => h8 (by rwa [getD_set_ne (by decide)] at h)), (fun h => h9 (by rwa [getD_set_ne (by decide)] at h)), (fun h => h10 (by rwa [getD_set_ne (by decide)] at h)), (fun h => h11 (by rwa [getD_set_ne (by decide)] at h)), (fun h => h12 (by rwa [getD_set_ne (by decide)] at h)), (fun h => h13 (by rwa [getD_set_ne (by decide)] at h)), (fun h => h14 (by rwa [getD_set_ne (by decide)] at h)), (fun h => h15 (by rwa [getD_set_ne (by decide)] at h)), (fun h => h16 (by rwa [getD_set_ne (by decide)] at h)), (fun h => h18 (by rwa [getD_set_ne (by decide)] at h))⟩
    · skip
      refine wpOp_of rfl rfl ?_
      go_simp
      unfold TbInv
      exact ⟨_, _, _, _, _, _, _, _, _, _, _, _, _, _, _, _, _, _, rfl, (hB), (hF_C), (by rw [getD_set_ne (by decide)]; exact hX_B), (fun h => h0 (by rwa [getD_set_ne (by decide)] at h)), (fun h => h1 (by rwa [getD_set_ne (by decide)] at h)), (fun _ => rfl), (fun h => h3 (by rwa [getD_set_ne (by decide)] at h)), (fun h => h4 (by rwa [getD_set_ne (by decide)] at h)), (fun h => h5 (by rwa [getD_set_ne (by decide)] at h)), (fun h => h6 (by rwa [getD_set_ne (by decide)] at h)), (fun h => h7 (by rwa [getD_set_ne (by decide)] at h)), (fun h => h8 (by rwa [getD_set_ne (by decide)] at h)), (fun h => h9 (by rwa [getD_set_ne (by decide)] at h)), (fun h => h10 (by rwa [getD_set_ne (by decide)] at h)), (fun h => h11 (by rwa [getD_set_ne (by decide)] at h)), (fun h => h12 (by rwa [getD_set_ne (by decide)] at h)), (fun h => h13 (by rwa [getD_set_ne (by decide)] at h)), (fun h => h14 (by rwa [getD_set_ne (by decide)] at h)), (fun h => h15 (by rwa [getD_set_ne (by decide)] at h)), (fun h => h16 (by rwa [getD_set_ne (by decide)] at h)), (fun h => h18 (by rwa [getD_set_ne (by decide)] at h))⟩
    · skip
      have e2 := h2 (ready_dep hi (by kernel_rfl))
      subst e2
      refine wpOp_of rfl rfl ?_
      go_simp
      unfold TbInv
      exact ⟨_, _, _, _, _, _, _, _, _, _, _, _, _, _, _, _, _, _, rfl, (hB), (hF_C), (by rw [getD_set_ne (by decide)]; exact hX_B), (fun h => h0 (by rwa [getD_set_ne (by decide)] at h)), (fun h => h1 (by rwa [getD_set_ne (by decide)] at h)), (fun h => h2 (by rwa [getD_set_ne (by decide)] at h)), (fun _ => rfl), (fun h => h4 (by rwa [getD_set_ne (by decide)] at h)), (fun h => h5 (by rwa [getD_set_ne (by decide)] at h)), (fun h => h6 (by rwa [getD_set_ne (by decide)] at h)), (fun h => h7 (by rwa [getD_set_ne (by decide)] at h)), (fun h => h8 (by rwa [getD_set_ne (by decide)] at h)), (fun h => h9 (by rwa [getD_set_ne (by decide)] at h)), (fun h => h10 (by rwa [getD_set_ne (by decide)] at h)), (fun h => h11 (by rwa [getD_set_ne (by decide)] at h)), (fun h => h12 (by rwa [getD_set_ne (by decide)] at h)), (fun h => h13 (by rwa [getD_set_ne (by decide)] at h)), (fun h => h14 (by rwa [getD_set_ne (by decide)] at h)), (fun h => h15 (by rwa [getD_set_ne (by decide)] at h)), (fun h => h16 (by rwa [getD_set_ne (by decide)] at h)), (fun h => h18 (by rwa [getD_set_ne (by decide)] at h))⟩
    · skip
      have e3 := h3 (ready_dep hi (by kernel_rfl))
      subst e3
      refine wpOp_of rfl rfl ?_
      go_simp
      unfold TbInv
      exact ⟨_, _, _, _, _, _, _, _, _, _, _, _, _, _, _, _, _, _, rfl, (hB), (hF_C), (by rw [getD_set_ne (by decide)]; exact hX_B), (fun h => h0 (by rwa [getD_set_ne (by decide)] at h)), (fun h => h1 (by rwa [getD_set_ne (by decide)] at h)), (fun h => h2 (by rwa [getD_set_ne (by decide)] at h)), (fun h => h3 (by rwa [getD_set_ne (by decide)] at h)), (fun _ => rfl), (fun h => h5 (by rwa [getD_set_ne (by decide)] at h)), (fun h => h6 (by rwa [getD_set_ne (by decide)] at h)), (fun h => h7 (by rwa [getD_set_ne (by decide)] at h)), (fun h => h8 (by rwa [getD_set_ne (by decide)] at h)), (fun h => h9 (by rwa [getD_set_ne (by decide)] at h)), (fun h => h10 (by rwa [getD_set_ne (by decide)] at h)), (fun h => h11 (by rwa [getD_set_ne (by decide)] at h)), (fun h => h12 (by rwa [getD_set_ne (by decide)] at h)), (fun h => h13 (by rwa [getD_set_ne (by decide)] at h)), (fun h => h14 (by rwa [getD_set_ne (by decide)] at h)), (fun h => h15 (by rwa [getD_set_ne (by decide)] at h)), (fun h => h16 (by rwa [getD_set_ne (by decide)] at h)), (fun h => h18 (by rwa [getD_set_ne (by decide)] at h))⟩
    · skip
      have e4 := h4 (ready_dep hi (by kernel_rfl))
      subst e4
      have c5 := hcell (k := 5) (v := .int .i64 cf.w) hF_C rfl
      refine wpOp_of rfl rfl ?_
      go_simp
      unfold TbInv
      exact ⟨_, _, _, _, _, _, _, _, _, _, _, _, _, _, _, _, _, _, rfl, (hB), (hF_C), (by rw [getD_set_ne (by decide)]; exact hX_B), (fun h => h0 (by rwa [getD_set_ne (by decide)] at h)), (fun h => h1 (by rwa [getD_set_ne (by decide)] at h)), (fun h => h2 (by rwa [getD_set_ne (by decide)] at h)), (fun h => h3 (by rwa [getD_set_ne (by decide)] at h)), (fun h => h4 (by rwa [getD_set_ne (by decide)] at h)), (fun _ => rfl), (fun h => h6 (by rwa [getD_set_ne (by decide)] at h)), (fun h => h7 (by rwa [getD_set_ne (by decide)] at h)), (fun h => h8 (by rwa [getD_set_ne (by decide)] at h)), (fun h => h9 (by rwa [getD_set_ne (by decide)] at h)), (fun h => h10 (by rwa [getD_set_ne (by decide)] at h)), (fun h => h11 (by rwa [getD_set_ne (by decide)] at h)), (fun h => h12 (by rwa [getD_set_ne (by decide)] at h)), (fun h => h13 (by rwa [getD_set_ne (by decide)] at h)), (fun h => h14 (by rwa [getD_set_ne (by decide)] at h)), (fun h => h15 (by rwa [getD_set_ne (by decide)] at h)), (fun h => h16 (by rwa [getD_set_ne (by decide)] at h)), (fun h => h18 (by rwa [getD_set_ne (by decide)] at h))⟩
    · skip
      refine wpOp_of rfl rfl ?_
      go_simp
      unfold TbInv
      exact ⟨_, _, _, _, _, _, _, _, _, _, _, _, _, _, _, _, _, _, rfl, (hB), (hF_C), (by rw [getD_set_ne (by decide)]; exact hX_B), (fun h => h0 (by rwa [getD_set_ne (by decide)] at h)), (fun h => h1 (by rwa [getD_set_ne (by decide)] at h)), (fun h => h2 (by rwa [getD_set_ne (by decide)] at h)), (fun h => h3 (by rwa [getD_set_ne (by decide)] at h)), (fun h => h4 (by rwa [getD_set_ne (by decide)] at h)), (fun h => h5 (by rwa [getD_set_ne (by decide)] at h)), (fun _ => rfl), (fun h => h7 (by rwa [getD_set_ne (by decide)] at h)), (fun h => h8 (by rwa [getD_set_ne (by decide)] at h)), (fun h => h9 (by rwa [getD_set_ne (by decide)] at h)), (fun h => h10 (by rwa [getD_set_ne (by decide)] at h)), (fun h => h11 (by rwa [getD_set_ne (by decide)] at h)), (fun h => h12 (by rwa [getD_set_ne (by decide)] at h)), (fun h => h13 (by rwa [getD_set_ne (by decide)] at h)), (fun h => h14 (by rwa [getD_set_ne (by decide)] at h)), (fun h => h15 (by rwa [getD_set_ne (by decide)] at h)), (fun h => h16 (by rwa [getD_set_ne (by decide)] at h)), (fun h => h18 (by rwa [getD_set_ne (by decide)] at h))⟩
    · skip
      have e5 := h5 (ready_dep hi (by kernel_rfl))
      subst e5
      have e6 := h6 (ready_dep hi (by kernel_rfl))
      subst e6
      refine wpOp_of rfl rfl ?_
      go_simp
      unfold TbInv
      exact ⟨_, _, _, _, _, _, _, _, _, _, _, _, _, _, _, _, _, _, rfl, (hB), (hF_C), (by rw [getD_set_ne (by decide)]; exact hX_B), (fun h => h0 (by rwa [getD_set_ne (by decide)] at h)), (fun h => h1 (by rwa [getD_set_ne (by decide)] at h)), (fun h => h2 (by rwa [getD_set_ne (by decide)] at h)), (fun h => h3 (by rwa [getD_set_ne (by decide)] at h)), (fun h => h4 (by rwa [getD_set_ne (by decide)] at h)), (fun h => h5 (by rwa [getD_set_ne (by decide)] at h)), (fun h => h6 (by rwa [getD_set_ne (by decide)] at h)), (fun _ => rfl), (fun h => h8 (by rwa [getD_set_ne (by decide)] at h)), (fun h => h9 (by rwa [getD_set_ne (by decide)] at h)), (fun h => h10 (by rwa [getD_set_ne (by decide)] at h)), (fun h => h11 (by rwa [getD_set_ne (by decide)] at h)), (fun h => h12 (by rwa [getD_set_ne (by decide)] at h)), (fun h => h13 (by rwa [getD_set_ne (by decide)] at h)), (fun h => h14 (by rwa [getD_set_ne (by decide)] at h)), (fun h => h15 (by rwa [getD_set_ne (by decide)] at h)), (fun h => h16 (by rwa [getD_set_ne (by decide)] at h)), (fun h => h18 (by rwa [getD_set_ne (by decide)] at h))⟩
    · skip
      have e7 := h7 (ready_dep hi (by kernel_rfl))
      subst e7
      refine wpOp_of rfl rfl ?_
      go_simp
      unfold TbInv
      exact ⟨_, _, _, _, _, _, _, _, _, _, _, _, _, _, _, _, _, _, rfl, (hB), (hF_C), (by rw [getD_set_ne (by decide)]; exact hX_B), (fun h => h0 (by rwa [getD_set_ne (by decide)] at h)), (fun h => h1 (by rwa [getD_set_ne (by decide)] at h)), (fun h => h2 (by rwa [getD_set_ne (by decide)] at h)), (fun h => h3 (by rwa [getD_set_ne (by decide)] at h)), (fun h => h4 (by rwa [getD_set_ne (by decide)] at h)), (fun h => h5 (by rwa [getD_set_ne (by decide)] at h)), (fun h => h6 (by rwa [getD_set_ne (by decide)] at h)), (fun h => h7 (by rwa [getD_set_ne (by decide)] at h)), (fun _ => rfl), (fun h => h9 (by rwa [getD_set_ne (by decide)] at h)), (fun h => h10 (by rwa [getD_set_ne (by decide)] at h)), (fun h => h11 (by rwa [getD_set_ne (by decide)] at h)), (fun h => h12 (by rwa [getD_set_ne (by decide)] at h)), (fun h => h13 (by rwa [getD_set_ne (by decide)] at h)), (fun h => h14 (by rwa [getD_set_ne (by decide)] at h)), (fun h => h15 (by rwa [getD_set_ne (by decide)] at h)), (fun h => h16 (by rwa [getD_set_ne (by decide)] at h)), (fun h => h18 (by rwa [getD_set_ne (by decide)] at h))⟩
    · skip
      refine wpOp_of rfl rfl ?_
      go_simp
      unfold TbInv
      exact ⟨_, _, _, _, _, _, _, _, _, _, _, _, _, _, _, _, _, _, rfl, (hB), (hF_C), (by rw [getD_set_ne (by decide)]; exact hX_B), (fun h => h0 (by rwa [getD_set_ne (by decide)] at h)), (fun h => h1 (by rwa [getD_set_ne (by decide)] at h)), (fun h => h2 (by rwa [getD_set_ne (by decide)] at h)), (fun h => h3 (by rwa [getD_set_ne (by decide)] at h)), (fun h => h4 (by rwa [getD_set_ne (by decide)] at h)), (fun h => h5 (by rwa [getD_set_ne (by decide)] at h)), (fun h => h6 (by rwa [getD_set_ne (by decide)] at h)), (fun h => h7 (by rwa [getD_set_ne (by decide)] at h)), (fun h => h8 (by rwa [getD_set_ne (by decide)] at h)), (fun _ => rfl), (fun h => h10 (by rwa [getD_set_ne (by decide)] at h)), (fun h => h11 (by rwa [getD_set_ne (by decide)] at h)), (fun h => h12 (by rwa [getD_set_ne (by decide)] at h)), (fun h => h13 (by rwa [getD_set_ne (by decide)] at h)), (fun h => h14 (by rwa [getD_set_ne (by decide)] at h)), (fun h => h15 (by rwa [getD_set_ne (by decide)] at h)), (fun h => h16 (by rwa [getD_set_ne (by decide)] at h)), (fun h => h18 (by rwa [getD_set_ne (by decide)] at h))⟩
    · skip
      have e9 := h9 (ready_dep hi (by kernel_rfl))
      subst e9
      refine wpOp_of rfl rfl ?_
      go_simp
      unfold TbInv
      exact ⟨_, _, _, _, _, _, _, _, _, _, _, _, _, _, _, _, _, _, rfl, (hB), (hF_C), (by rw [getD_set_ne (by decide)]; exact hX_B), (fun h => h0 (by rwa [getD_set_ne (by decide)] at h)), (fun h => h1 (by rwa [getD_set_ne (by decide)] at h)), (fun h => h2 (by rwa [getD_set_ne (by decide)] at h)), (fun h => h3 (by rwa [getD_set_ne (by decide)] at h)), (fun h => h4 (by rwa [getD_set_ne (by decide)] at h)), (fun h => h5 (by rwa [getD_set_ne (by decide)] at h)), (fun h => h6 (by rwa [getD_set_ne (by decide)] at h)), (fun h => h7 (by rwa [getD_set_ne (by decide)] at h)), (fun h => h8 (by rwa [getD_set_ne (by decide)] at h)), (fun h => h9 (by rwa [getD_set_ne (by decide)] at h)), (fun _ => rfl), (fun h => h11 (by rwa [getD_set_ne (by decide)] at h)), (fun h => h12 (by rwa [getD_set_ne (by decide)] at h)), (fun h => h13 (by rwa [getD_set_ne (by decide)] at h)), (fun h => h14 (by rwa [getD_set_ne (by decide)] at h)), (fun h => h15 (by rwa [getD_set_ne (by decide)] at h)), (fun h => h16 (by rwa [getD_set_ne (by decide)] at h)), (fun h => h18 (by rwa [getD_set_ne (by decide)] at h))⟩
    · skip
      have e10 := h10 (ready_dep hi (by kernel_rfl))
      subst e10
      refine wpOp_of rfl rfl ?_
      go_simp
      unfold TbInv
      exact ⟨_, _, _, _, _, _, _, _, _, _, _, _, _, _, _, _, _, _, rfl, (hB), (hF_C), (by rw [getD_set_ne (by decide)]; exact hX_B), (fun h => h0 (by rwa [getD_set_ne (by decide)] at h)), (fun h => h1 (by rwa [getD_set_ne (by decide)] at h)), (fun h => h2 (by rwa [getD_set_ne (by decide)] at h)), (fun h => h3 (by rwa [getD_set_ne (by decide)] at h)), (fun h => h4 (by rwa [getD_set_ne (by decide)] at h)), (fun h => h5 (by rwa [getD_set_ne (by decide)] at h)), (fun h => h6 (by rwa [getD_set_ne (by decide)] at h)), (fun h => h7 (by rwa [getD_set_ne (by decide)] at h)), (fun h => h8 (by rwa [getD_set_ne (by decide)] at h)), (fun h => h9 (by rwa [getD_set_ne (by decide)] at h)), (fun h => h10 (by rwa [getD_set_ne (by decide)] at h)), (fun _ => rfl), (fun h => h12 (by rwa [getD_set_ne (by decide)] at h)), (fun h => h13 (by rwa [getD_set_ne (by decide)] at h)), (fun h => h14 (by rwa [getD_set_ne (by decide)] at h)), (fun h => h15 (by rwa [getD_set_ne (by decide)] at h)), (fun h => h16 (by rwa [getD_set_ne (by decide)] at h)), (fun h => h18 (by rwa [getD_set_ne (by decide)] at h))⟩
    · skip
      have e11 := h11 (ready_dep hi (by kernel_rfl))
      subst e11
      have c6 := hcell (k := 6) (v := .int .i64 cf.d) hF_C rfl
      refine wpOp_of rfl rfl ?_
      go_simp
      unfold TbInv
      exact ⟨_, _, _, _, _, _, _, _, _, _, _, _, _, _, _, _, _, _, rfl, (hB), (hF_C), (by rw [getD_set_ne (by decide)]; exact hX_B), (fun h => h0 (by rwa [getD_set_ne (by decide)] at h)), (fun h => h1 (by rwa [getD_set_ne (by decide)] at h)), (fun h => h2 (by rwa [getD_set_ne (by decide)] at h)), (fun h => h3 (by rwa [getD_set_ne (by decide)] at h)), (fun h => h4 (by rwa [getD_set_ne (by decide)] at h)), (fun h => h5 (by rwa [getD_set_ne (by decide)] at h)), (fun h => h6 (by rwa [getD_set_ne (by decide)] at h)), (fun h => h7 (by rwa [getD_set_ne (by decide)] at h)), (fun h => h8 (by rwa [getD_set_ne (by decide)] at h)), (fun h => h9 (by rwa [getD_set_ne (by decide)] at h)), (fun h => h10 (by rwa [getD_set_ne (by decide)] at h)), (fun h => h11 (by rwa [getD_set_ne (by decide)] at h)), (fun _ => rfl), (fun h => h13 (by rwa [getD_set_ne (by decide)] at h)), (fun h => h14 (by rwa [getD_set_ne (by decide)] at h)), (fun h => h15 (by rwa [getD_set_ne (by decide)] at h)), (fun h => h16 (by rwa [getD_set_ne (by decide)] at h)), (fun h => h18 (by rwa [getD_set_ne (by decide)] at h))⟩
    · skip
      refine wpOp_of rfl rfl ?_
      go_simp
      unfold TbInv
      exact ⟨_, _, _, _, _, _, _, _, _, _, _, _, _, _, _, _, _, _, rfl, (hB), (hF_C), (by rw [getD_set_ne (by decide)]; exact hX_B), (fun h => h0 (by rwa [getD_set_ne (by decide)] at h)), (fun h => h1 (by rwa [getD_set_ne (by decide)] at h)), (fun h => h2 (by rwa [getD_set_ne (by decide)] at h)), (fun h => h3 (by rwa [getD_set_ne (by decide)] at h)), (fun h => h4 (by rwa [getD_set_ne (by decide)] at h)), (fun h => h5 (by rwa [getD_set_ne (by decide)] at h)), (fun h => h6 (by rwa [getD_set_ne (by decide)] at h)), (fun h => h7 (by rwa [getD_set_ne (by decide)] at h)), (fun h => h8 (by rwa [getD_set_ne (by decide)] at h)), (fun h => h9 (by rwa [getD_set_ne (by decide)] at h)), (fun h => h10 (by rwa [getD_set_ne (by decide)] at h)), (fun h => h11 (by rwa [getD_set_ne (by decide)] at h)), (fun h => h12 (by rwa [getD_set_ne (by decide)] at h)), (fun _ => rfl), (fun h => h14 (by rwa [getD_set_ne (by decide)] at h)), (fun h => h15 (by rwa [getD_set_ne (by decide)] at h)), (fun h => h16 (by rwa [getD_set_ne (by decide)] at h)), (fun h => h18 (by rwa [getD_set_ne (by decide)] at h))⟩
    · skip
      have e12 := h12 (ready_dep hi (by kernel_rfl))
      subst e12
      have e13 := h13 (ready_dep hi (by kernel_rfl))
      subst e13
      refine wpOp_of rfl rfl ?_
      go_simp
      unfold TbInv
      exact ⟨_, _, _, _, _, _, _, _, _, _, _, _, _, _, _, _, _, _, rfl, (hB), (hF_C), (by rw [getD_set_ne (by decide)]; exact hX_B), (fun h => h0 (by rwa [getD_set_ne (by decide)] at h)), (fun h => h1 (by rwa [getD_set_ne (by decide)] at h)), (fun h => h2 (by rwa [getD_set_ne (by decide)] at h)), (fun h => h3 (by rwa [getD_set_ne (by decide)] at h)), (fun h => h4 (by rwa [getD_set_ne (by decide)] at h)), (fun h => h5 (by rwa [getD_set_ne (by decide)] at h)), (fun h => h6 (by rwa [getD_set_ne (by decide)] at h)), (fun h => h7 (by rwa [getD_set_ne (by decide)] at h)), (fun h => h8 (by rwa [getD_set_ne (by decide)] at h)), (fun h => h9 (by rwa [getD_set_ne (by decide)] at h)), (fun h => h10 (by rwa [getD_set_ne (by decide)] at h)), (fun h => h11 (by rwa [getD_set_ne (by decide)] at h)), (fun h => h12 (by rwa [getD_set_ne (by decide)] at h)), (fun h => h13 (by rwa [getD_set_ne (by decide)] at h)), (fun _ => rfl), (fun h => h15 (by rwa [getD_set_ne (by decide)] at h)), (fun h => h16 (by rwa [getD_set_ne (by decide)] at h)), (fun h => h18 (by rwa [getD_set_ne (by decide)] at h))⟩
    · skip
      have e14 := h14 (ready_dep hi (by kernel_rfl))
      subst e14
      refine wpOp_of rfl rfl ?_
      go_simp
      unfold TbInv
      exact ⟨_, _, _, _, _, _, _, _, _, _, _, _, _, _, _, _, _, _, rfl, (hB), (hF_C), (by rw [getD_set_ne (by decide)]; exact hX_B), (fun h => h0 (by rwa [getD_set_ne (by decide)] at h)), (fun h => h1 (by rwa [getD_set_ne (by decide)] at h)), (fun h => h2 (by rwa [getD_set_ne (by decide)] at h)), (fun h => h3 (by rwa [getD_set_ne (by decide)] at h)), (fun h => h4 (by rwa [getD_set_ne (by decide)] at h)), (fun h => h5 (by rwa [getD_set_ne (by decide)] at h)), (fun h => h6 (by rwa [getD_set_ne (by decide)] at h)), (fun h => h7 (by rwa [getD_set_ne (by decide)] at h)), (fun h => h8 (by rwa [getD_set_ne (by decide)] at h)), (fun h => h9 (by rwa [getD_set_ne (by decide)] at h)), (fun h => h10 (by rwa [getD_set_ne (by decide)] at h)), (fun h => h11 (by rwa [getD_set_ne (by decide)] at h)), (fun h => h12 (by rwa [getD_set_ne (by decide)] at h)), (fun h => h13 (by rwa [getD_set_ne (by decide)] at h)), (fun h => h14 (by rwa [getD_set_ne (by decide)] at h)), (fun _ => rfl), (fun h => h16 (by rwa [getD_set_ne (by decide)] at h)), (fun h => h18 (by rwa [getD_set_ne (by decide)] at h))⟩
    · skip
      have e0 := h0 (ready_dep hi (by kernel_rfl))
      subst e0
      have e1 := h1 (ready_dep hi (by kernel_rfl))
      subst e1
      have e8 := h8 (ready_dep hi (by kernel_rfl))
      subst e8
      have e15 := h15 (ready_dep hi (by kernel_rfl))
      subst e15
      refine wpOp_of rfl rfl ?_
      go_simp
      unfold TbInv
      exact ⟨_, _, _, _, _, _, _, _, _, _, _, _, _, _, _, _, _, _, rfl, (hB), (hF_C), (by rw [getD_set_ne (by decide)]; exact hX_B), (fun h => h0 (by rwa [getD_set_ne (by decide)] at h)), (fun h => h1 (by rwa [getD_set_ne (by decide)] at h)), (fun h => h2 (by rwa [getD_set_ne (by decide)] at h)), (fun h => h3 (by rwa [getD_set_ne (by decide)] at h)), (fun h => h4 (by rwa [getD_set_ne (by decide)] at h)), (fun h => h5 (by rwa [getD_set_ne (by decide)] at h)), (fun h => h6 (by rwa [getD_set_ne (by decide)] at h)), (fun h => h7 (by rwa [getD_set_ne (by decide)] at h)), (fun h => h8 (by rwa [getD_set_ne (by decide)] at h)), (fun h => h9 (by rwa [getD_set_ne (by decide)] at h)), (fun h => h10 (by rwa [getD_set_ne (by decide)] at h)), (fun h => h11 (by rwa [getD_set_ne (by decide)] at h)), (fun h => h12 (by rwa [getD_set_ne (by decide)] at h)), (fun h => h13 (by rwa [getD_set_ne (by decide)] at h)), (fun h => h14 (by rwa [getD_set_ne (by decide)] at h)), (fun h => h15 (by rwa [getD_set_ne (by decide)] at h)), (fun _ => rfl), (fun h => h18 (by rwa [getD_set_ne (by decide)] at h))⟩
    · skip
      have e16 := h16 (ready_dep hi (by kernel_rfl))
      subst e16
      have e3 := hX_B
      rw [hi'] at e3
      have e3 : wi.heap[w.heap.size]? = some (.cells #[.int .i64 0, .int .i64 0, .int .i64 0, .int .i64 0] 137 (0, 0)) := e3
      have f0 := hfroz (k := 0) e3
      have z0 := hcell (k := 0) (v := .int .i64 0) e3 rfl
      have f1 := hfroz (k := 1) e3
      have z1 := hcell (k := 1) (v := .int .i64 0) e3 rfl
      have f2 := hfroz (k := 2) e3
      have z2 := hcell (k := 2) (v := .int .i64 0) e3 rfl
      have f3 := hfroz (k := 3) e3
      have z3 := hcell (k := 3) (v := .int .i64 0) e3 rfl
      have hG := bx4_grown (w := wi) (b := w.heap.size) (.int .i64 x) (.int .i64 z) (.int .i64 (if cf.w - x < 8 then cf.w - x else 8)) (.int .i64 (if cf.d - z < 8 then cf.d - z else 8))
      have hN := bx4_set e3 (.int .i64 x) (.int .i64 z) (.int .i64 (if cf.w - x < 8 then cf.w - x else 8)) (.int .i64 (if cf.d - z < 8 then cf.d - z else 8))
      refine wpOp_of rfl rfl ?_
      go_simp
      unfold TbInv
      exact ⟨_, _, _, _, _, _, _, _, _, _, _, _, _, _, _, _, _, _, rfl, (hB.grown hG (Nat.le_trans (hB2.size) hB.size) (fun j hj => by cases hj; omega)), (hgrown hG hF_C (by simp only [ne_eq, Option.some.injEq]; omega)), (by rw [getD_set_eq (by omega)]; exact hN), (fun h => h0 (by rwa [getD_set_ne (by decide)] at h)), (fun h => h1 (by rwa [getD_set_ne (by decide)] at h)), (fun h => h2 (by rwa [getD_set_ne (by decide)] at h)), (fun h => h3 (by rwa [getD_set_ne (by decide)] at h)), (fun h => h4 (by rwa [getD_set_ne (by decide)] at h)), (fun h => h5 (by rwa [getD_set_ne (by decide)] at h)), (fun h => h6 (by rwa [getD_set_ne (by decide)] at h)), (fun h => h7 (by rwa [getD_set_ne (by decide)] at h)), (fun h => h8 (by rwa [getD_set_ne (by decide)] at h)), (fun h => h9 (by rwa [getD_set_ne (by decide)] at h)), (fun h => h10 (by rwa [getD_set_ne (by decide)] at h)), (fun h => h11 (by rwa [getD_set_ne (by decide)] at h)), (fun h => h12 (by rwa [getD_set_ne (by decide)] at h)), (fun h => h13 (by rwa [getD_set_ne (by decide)] at h)), (fun h => h14 (by rwa [getD_set_ne (by decide)] at h)), (fun h => h15 (by rwa [getD_set_ne (by decide)] at h)), (fun h => h16 (by rwa [getD_set_ne (by decide)] at h)), (fun h => h18 (by rwa [getD_set_ne (by decide)] at h))⟩
    · skip
      refine wpOp_of rfl rfl ?_
      go_simp
      unfold TbInv
      exact ⟨_, _, _, _, _, _, _, _, _, _, _, _, _, _, _, _, _, _, rfl, (hB), (hF_C), (by rw [getD_set_ne (by decide)]; exact hX_B), (fun h => h0 (by rwa [getD_set_ne (by decide)] at h)), (fun h => h1 (by rwa [getD_set_ne (by decide)] at h)), (fun h => h2 (by rwa [getD_set_ne (by decide)] at h)), (fun h => h3 (by rwa [getD_set_ne (by decide)] at h)), (fun h => h4 (by rwa [getD_set_ne (by decide)] at h)), (fun h => h5 (by rwa [getD_set_ne (by decide)] at h)), (fun h => h6 (by rwa [getD_set_ne (by decide)] at h)), (fun h => h7 (by rwa [getD_set_ne (by decide)] at h)), (fun h => h8 (by rwa [getD_set_ne (by decide)] at h)), (fun h => h9 (by rwa [getD_set_ne (by decide)] at h)), (fun h => h10 (by rwa [getD_set_ne (by decide)] at h)), (fun h => h11 (by rwa [getD_set_ne (by decide)] at h)), (fun h => h12 (by rwa [getD_set_ne (by decide)] at h)), (fun h => h13 (by rwa [getD_set_ne (by decide)] at h)), (fun h => h14 (by rwa [getD_set_ne (by decide)] at h)), (fun h => h15 (by rwa [getD_set_ne (by decide)] at h)), (fun h => h16 (by rwa [getD_set_ne (by decide)] at h)), (fun _ => rfl)⟩
  · intro L a wi hI hall
    unfold TbInv at hI
    obtain ⟨s0, s1, s2, s3, s4, s5, s6, s7, s8, s9, s10, s11, s12, s13, s14, s15, s16, s18, rfl, hB, hF_C, hX_B, h0, h1, h2, h3, h4, h5, h6, h7, h8, h9, h10, h11, h12, h13, h14, h15, h16, h18⟩ := hI
    have e0 := h0 (hall 0 (by decide))
    subst e0
    have e1 := h1 (hall 1 (by decide))
    subst e1
    have e2 := h2 (hall 2 (by decide))
    subst e2
    have e3 := h3 (hall 3 (by decide))
    subst e3
    have e4 := h4 (hall 4 (by decide))
    subst e4
    have e5 := h5 (hall 5 (by decide))
    subst e5
    have e6 := h6 (hall 6 (by decide))
    subst e6
    have e7 := h7 (hall 7 (by decide))
    subst e7
    have e8 := h8 (hall 8 (by decide))
    subst e8
    have e9 := h9 (hall 9 (by decide))
    subst e9
    have e10 := h10 (hall 10 (by decide))
    subst e10
    have e11 := h11 (hall 11 (by decide))
    subst e11
    have e12 := h12 (hall 12 (by decide))
    subst e12
    have e13 := h13 (hall 13 (by decide))
    subst e13
    have e14 := h14 (hall 14 (by decide))
    subst e14
    have e15 := h15 (hall 15 (by decide))
    subst e15
    have e16 := h16 (hall 16 (by decide))
    subst e16
    have e18 := h18 (hall 18 (by decide))
    subst e18
    rw [if_pos (hall 17 (by decide))] at hX_B
    clear hall 
    have hB9 := hB2.trans hB
    have hK9 := hX_B
    clear hB hX_B hF_C
    obtain ⟨mq, hmq⟩ : ∃ m, m = (if cf.w - x < 8 then cf.w - x else 8) := ⟨_, rfl⟩
    obtain ⟨mr, hmr⟩ : ∃ m, m = (if cf.d - z < 8 then cf.d - z else 8) := ⟨_, rfl⟩
    rw [← hmq, ← hmr] at hK9 ⊢
    have HMQ := Lib.hid hmq
    have HMR := Lib.hid hmr
    clear hmq hmr
    go_wp2
    refine bodyPost_ret (results_c1t rfl _ _ w.heap.size 137 _ (0, 0) _ rfl hK9 Tryz.underlying137 rfl (by kernel_rfl)) rfl ⟨?_, hB9⟩
    unfold boxL
    rw [HN.out, if_pos rfl, HX.out, HZ.out, show min 8 (cf.w - x) = mq by rw [HMQ.out]; split <;> omega, show min 8 (cf.d - z) = mr by rw [HMR.out]; split <;> omega]
    rfl
/-- The box, number by number. -/
theorem boxL_of (cf : Cfg) (tx tz : Int) : boxL cf tx tz = [.int .i64 (colV cf tx tz).1, .int .i64 (colV cf tx tz).2.1, .int .i64 (colV cf tx tz).2.2.1, .int .i64 (colV cf tx tz).2.2.2.1] ∧ colOk cf tx tz = (colV cf tx tz).2.2.2.2 := by
  unfold boxL colV
  cases colOk cf tx tz <;> simp
set_option maxHeartbeats 1000000 in
theorem columns15_any (cf : Cfg) (tx tz : Int) (w : World) (hcf : cfgOk cf = true) :
    Calls Tryz.prog 40 #[cfgV cf, .int .i64 tx, .int .i64 tz] w fun e w' => e = .returned (.tuple #[.int .i64 (colV cf tx tz).1, .int .i64 (colV cf tx tz).2.1, .int .i64 (colV cf tx tz).2.2.1, .int .i64 (colV cf tx tz).2.2.2.1, .bool (colV cf tx tz).2.2.2.2]) ∧ Below w.heap.size w w' := by
  have TL := Lib.hid (fun T W hT => ctile_any cf T tx tz W hcf hT)
  rw [(boxL_of cf tx tz).1, (boxL_of cf tx tz).2] at TL
  generalize colV cf tx tz = q at TL ⊢
  obtain ⟨bx, bz, bw, bd, ok⟩ := q
  dsimp only at TL ⊢
  have hB : Below w.heap.size w (w.alloc (cfO cf)) := (Below.refl _ _).alloc (Nat.le_refl _) _
  have hC := World.alloc_heap_new w (cfO cf)
  obtain ⟨W1, hW1⟩ : ∃ W, W = w.alloc (cfO cf) := ⟨_, rfl⟩
  rw [← hW1] at hB hC
  dsimp only [cfO, cfgV] at hW1 ⊢
  have HC := Lib.hid hC
  clear hC
  go_enter Tryz.func40, Tryz.ntmps40
  go_upto_region 1 with fail
  rw [← hW1]
  clear hW1
  go_wp2_with fail
  refine (TL.out _ _ HC.out).mono ?_
  rintro e w1 ⟨rfl, hb1⟩
  have hB1 := hB.trans (hb1.mono hB.size)
  clear HC hb1 hB TL
  go_upto_region 2 with fail
  have hB2 := hB1.alloc hB1.size (.cells #[.int .i64 bx, .int .i64 bz, .int .i64 bw, .int .i64 bd] 137 (0, 0))
  have hK := World.alloc_heap_new w1 (.cells #[.int .i64 bx, .int .i64 bz, .int .i64 bw, .int .i64 bd] 137 (0, 0))
  obtain ⟨W2, hW2⟩ : ∃ W, W = w1.alloc (.cells #[.int .i64 bx, .int .i64 bz, .int .i64 bw, .int .i64 bd] 137 (0, 0)) := ⟨_, rfl⟩
  rw [← hW2] at hB2 hK
  rw [← hW2]
  clear hW2 hB1
  have k0 := hcell (k := 0) (v := .int .i64 bx) hK rfl
  have k1 := hcell (k := 1) (v := .int .i64 bz) hK rfl
  have k2 := hcell (k := 2) (v := .int .i64 bw) hK rfl
  have k3 := hcell (k := 3) (v := .int .i64 bd) hK rfl
  have e_0 := fun d os => cell_regrown k0 d os
  have e_1 := fun d os => cell_regrown k1 d os
  have e_2 := fun d os => cell_regrown k2 d os
  have e_3 := fun d os => cell_regrown k3 d os
  clear hK k0 k1 k2 k3
  refine wp_region_quiet_below (by kernel_rfl) (by kernel_rfl) ?_
  repeat (go_big_quiet_step (fail))
  refine wpQuiet_nil ?_
  rintro w4 ⟨⟨dq, osq⟩, hw4⟩
  have hb4 : Below W2.heap.size W2 w4 := by rw [hw4]; exact below_regrown W2 dq osq
  have hB4 := hB2.trans (hb4.mono hB2.size)
  clear hw4 e_0 e_1 e_2 e_3
  go_wp2
  refine bodyPost_ret (results_tmp5 rfl _ _ _) rfl ⟨rfl, hB4⟩
end Go.Proofs.YtmgkkmcihplojaaGreat
