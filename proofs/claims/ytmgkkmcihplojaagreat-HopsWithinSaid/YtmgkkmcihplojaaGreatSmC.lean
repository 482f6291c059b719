/- Walks: how many tiles there are; whether tiles are all of a config's. -/
import Derived.Test.YtmgkkmcihplojaaGreatSmA
import Derived.Test.YtmgkkmcihplojaaGreatTck
import Derived.Test.YtmgkkmcihplojaaGreatLk
namespace Go.Proofs.YtmgkkmcihplojaaGreat
open Go.RowKit Go.Sort
attribute [local go_sem] Instr.index

set_option maxHeartbeats 4000000 in
theorem smwide_any (cf : Cfg) (w : World) (hcf : cfgOk cf = true) :
    Calls Tryz.prog 25 #[cfgV cf] w fun e w' => e = .returned (.tuple #[.int .i64 (tW cf.w), .int .i64 (tW cf.d)]) ∧ Below w.heap.size w w' := by
  obtain ⟨h1, h2, h3, h4, h5, h6, h7, h8, h9, h10⟩ := tW_facts hcf
  have w1 : IntKind.i64.wrap (cf.w - 1) = cf.w - 1 := by rw [IntKind.wrap_i64]; omega
  have w2 : IntKind.i64.wrap (cf.d - 1) = cf.d - 1 := by rw [IntKind.wrap_i64]; omega
  have w3 : IntKind.i64.wrap ((cf.w - 1).tdiv 8) = (cf.w - 1).tdiv 8 := by rw [IntKind.wrap_i64]; omega
  have w4 : IntKind.i64.wrap ((cf.d - 1).tdiv 8) = (cf.d - 1).tdiv 8 := by rw [IntKind.wrap_i64]; omega
  have w5 : IntKind.i64.wrap ((cf.w - 1).tdiv 8 + 1) = (cf.w - 1).tdiv 8 + 1 := by rw [IntKind.wrap_i64]; omega
  have w6 : IntKind.i64.wrap ((cf.d - 1).tdiv 8 + 1) = (cf.d - 1).tdiv 8 + 1 := by rw [IntKind.wrap_i64]; omega
  have HO : Hid (∀ w', Below w.heap.size w w' → Ending.returned (.tuple #[.int .i64 ((cf.w - 1).tdiv 8 + 1), .int .i64 ((cf.d - 1).tdiv 8 + 1)]) = Ending.returned (.tuple #[.int .i64 (tW cf.w), .int .i64 (tW cf.d)]) ∧ Below w.heap.size w w') := fun w' hB => ⟨by rw [h5, h6], hB⟩
  clear h1 h2 h3 h4 h5 h6 h7 h8 h9 h10
  have hB : Below w.heap.size w (w.alloc (cfO cf)) := (Below.refl _ _).alloc (Nat.le_refl _) _
  have hC := World.alloc_heap_new w (cfO cf)
  obtain ⟨W1, hW1⟩ : ∃ W, W = w.alloc (cfO cf) := ⟨_, rfl⟩
  rw [← hW1] at hB hC
  dsimp only [cfO, cfgV] at hC hW1 ⊢
  have d5 := hcell (k := 5) (v := .int .i64 cf.w) hC rfl
  have d6 := hcell (k := 6) (v := .int .i64 cf.d) hC rfl
  have e_d5 := fun d os => cell_regrown d5 d os
  have e_d6 := fun d os => cell_regrown d6 d os
  clear hC d5 d6
  go_enter Tryz.func25, Tryz.ntmps25
  go_upto_region 1 with fail
  rw [← hW1]
  clear hW1
  refine wp_region_quiet_below (by kernel_rfl) (by kernel_rfl) ?_
  repeat (go_big_quiet_step (fail))
  refine wpQuiet_nil ?_
  rintro w4 ⟨⟨dq, osq⟩, hw4⟩
  have hb4 : Below W1.heap.size W1 w4 := by rw [hw4]; exact below_regrown W1 dq osq
  have hB4 := hB.trans (hb4.mono hB.size)
  clear hw4 e_d5 e_d6
  go_wp2
  go_ret2
  exact HO.out _ hB4
theorem cfgE_ok {cf : Cfg} (h : cfgE cf = 0) : cfgOk cf = true := by
  unfold cfgE at h
  split at h
  · assumption
  · cases h
end Go.Proofs.YtmgkkmcihplojaaGreat
