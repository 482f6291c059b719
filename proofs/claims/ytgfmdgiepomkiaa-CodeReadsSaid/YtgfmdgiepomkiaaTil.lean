/- Walks: core.Tiles, core.tile, core.Columns, of a config that may be. -/
import Derived.Test.YtgfmdgiepomkiaaKa
import Derived.Test.YtgfmdgiepomkiaaRctC
import Derived.Lib.QuietBelow
namespace Go.Proofs.Ytgfmdgiepomkiaa
open Go.RowKit

theorem tW_facts {cf : Cfg} (h : cfgOk cf = true) : 1 ≤ cf.w ∧ cf.w ≤ 32 ∧ 1 ≤ cf.d ∧ cf.d ≤ 32 ∧ (cf.w - 1).tdiv 8 + 1 = tW cf.w ∧ (cf.d - 1).tdiv 8 + 1 = tW cf.d ∧ 1 ≤ tW cf.w ∧ tW cf.w ≤ 4 ∧ 1 ≤ tW cf.d ∧ tW cf.d ≤ 4 := by
  unfold cfgOk at h
  rw [decide_eq_true_eq] at h
  have h1 : 1 ≤ cf.w ∧ cf.w ≤ 32 ∧ 1 ≤ cf.d ∧ cf.d ≤ 32 := by omega
  have a : (cf.w - 1).tdiv 8 = (cf.w - 1) / 8 := Int.tdiv_eq_ediv_of_nonneg (by omega)
  have b : (cf.d - 1).tdiv 8 = (cf.d - 1) / 8 := Int.tdiv_eq_ediv_of_nonneg (by omega)
  unfold tW
  rw [a, b]
  omega
set_option maxHeartbeats 1000000 in
theorem tiles_any (cf : Cfg) (w : World) (hcf : cfgOk cf = true) :
    Calls Try.prog 107 #[cfgV cf] w fun e w' => e = .returned (.tuple #[.int .i64 (tW cf.w), .int .i64 (tW cf.d)]) ∧ Below w.heap.size w w' := by
  have CF := Lib.hid (fun W => cfgcheck_any cf W)
  have hE : cfgE cf = 0 := by unfold cfgE; rw [if_pos hcf]
  rw [hE] at CF
  obtain ⟨h1, h2, h3, h4, h5, h6, h7, h8, h9, h10⟩ := tW_facts hcf
  have w1 : IntKind.i64.wrap (cf.w - 1) = cf.w - 1 := by rw [IntKind.wrap_i64]; omega
  have w2 : IntKind.i64.wrap (cf.d - 1) = cf.d - 1 := by rw [IntKind.wrap_i64]; omega
  have w3 : IntKind.i64.wrap ((cf.w - 1).tdiv 8) = (cf.w - 1).tdiv 8 := by rw [IntKind.wrap_i64]; omega
  have w4 : IntKind.i64.wrap ((cf.d - 1).tdiv 8) = (cf.d - 1).tdiv 8 := by rw [IntKind.wrap_i64]; omega
  have w5 : IntKind.i64.wrap ((cf.w - 1).tdiv 8 + 1) = (cf.w - 1).tdiv 8 + 1 := by rw [IntKind.wrap_i64]; omega
  have w6 : IntKind.i64.wrap ((cf.d - 1).tdiv 8 + 1) = (cf.d - 1).tdiv 8 + 1 := by rw [IntKind.wrap_i64]; omega
  have HO : Hid (∀ w', Below w.heap.size w w' → Ending.returned (.tuple #[.int .i64 ((cf.w - 1).tdiv 8 + 1), .int .i64 ((cf.d - 1).tdiv 8 + 1)]) = Ending.returned (.tuple #[.int .i64 (tW cf.w), .int .i64 (tW cf.d)]) ∧ Below w.heap.size w w') := fun w' hB => ⟨by rw [h5, h6], hB⟩
  clear h5 h6 h7 h8 h9 h10 hE
  have hB : Below w.heap.size w (w.alloc (cfO cf)) := (Below.refl _ _).alloc (Nat.le_refl _) _
  have hC := World.alloc_heap_new w (cfO cf)
  obtain ⟨W1, hW1⟩ : ∃ W, W = w.alloc (cfO cf) := ⟨_, rfl⟩
  rw [← hW1] at hB hC
  dsimp only [cfO, cfgV] at hC hW1 CF ⊢
  have c0 := hcell (k := 0) (v := .int .i64 cf.clear) hC rfl
  have c1 := hcell (k := 1) (v := .int .i64 cf.climb) hC rfl
  have c2 := hcell (k := 2) (v := .int .i64 cf.height) hC rfl
  have c3 := hcell (k := 3) (v := .int .i64 cf.rise) hC rfl
  have c4 := hcell (k := 4) (v := .int .i64 cf.run) hC rfl
  have c5 := hcell (k := 5) (v := .int .i64 cf.w) hC rfl
  have c6 := hcell (k := 6) (v := .int .i64 cf.d) hC rfl
  go_enter Try.func107, Try.ntmps107
  go_upto_region 1 with fail
  rw [← hW1]
  clear hW1
  go_wp2_with fail
  refine (CF.out _).mono ?_
  rintro e w1 ⟨rfl, hb1⟩
  have hC1 := hkeep hb1 hC
  have hB1 := hB.trans (hb1.mono hB.size)
  clear hC hb1 hB c0 c1 c2 c3 c4 c5 c6
  have d5 := hcell (k := 5) (v := .int .i64 cf.w) hC1 rfl
  have d6 := hcell (k := 6) (v := .int .i64 cf.d) hC1 rfl
  have e_d5 := fun d os => cell_regrown d5 d os
  have e_d6 := fun d os => cell_regrown d6 d os
  clear hC1 d5 d6
  go_upto_region 3 with fail
  refine wp_region_quiet_below (by kernel_rfl) (by kernel_rfl) ?_
  repeat (go_big_quiet_step (fail))
  refine wpQuiet_nil ?_
  rintro w4 ⟨⟨dq, osq⟩, hw4⟩
  have hb4 : Below w1.heap.size w1 w4 := by rw [hw4]; exact below_regrown w1 dq osq
  have hB4 := hB1.trans (hb4.mono hB1.size)
  clear hw4 e_d5 e_d6
  go_wp2
  go_ret2
  exact HO.out _ hB4
/-- What core.Columns tells. -/
def colV (cf : Cfg) (tx tz : Int) : Int × Int × Int × Int × Bool := if colOk cf tx tz then (tx * 8, tz * 8, min 8 (cf.w - tx * 8), min 8 (cf.d - tz * 8), true) else (0, 0, 0, 0, false)
end Go.Proofs.Ytgfmdgiepomkiaa
