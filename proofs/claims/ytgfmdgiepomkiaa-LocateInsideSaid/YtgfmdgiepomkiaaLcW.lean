/- Walk: the law's wakes. -/
import Derived.Test.YtgfmdgiepomkiaaLcG
namespace Go.Proofs.Ytgfmdgiepomkiaa
open Go.RowKit Go.Sort
attribute [local go_sem] Instr.index

abbrev rcWk : Rc := ⟨0, 0, 1, 0, 1, [0, 0], [9, 9]⟩
theorem far_wk1 : farF rcWk 3 1 = 0 := by decide
theorem far_wk2 : farF rcWk 7 5 = 18 := by decide
set_option maxRecDepth 100000 in
set_option maxHeartbeats 8000000 in
theorem wakes25_any (w : World) : Calls Try.prog 15 #[] w fun e w' => e = .returned (.bool true) ∧ Below w.heap.size w w' := by
  have F1 := Lib.hid (fun h W => lfar_any h rcWk 3 1 W)
  have F2 := Lib.hid (fun h W => lfar_any h rcWk 7 5 W)
  rw [far_wk1] at F1
  rw [far_wk2] at F2
  have A1 := Lib.hid (fun W => ladm_any fltAll 1 W)
  have A0 := Lib.hid (fun W => ladm_any fltAll 0 W)
  rw [adm_all1] at A1
  rw [adm_all0] at A0
  have AL := Lib.hid (fun W => all25_any W)
  have MD := Lib.hid (fun W => lmid_any 2 3 W (by omega) (by omega))
  dsimp only [fltV, fltA, rcV] at F1 F2 A1 A0 AL MD
  simp only [List.length_cons, List.length_nil] at F1 F2
  go_enter Try.func15, Try.ntmps15
  go_upto_region 2 with fail
  refine wp_named (F := fun W => Below w.heap.size w W ∧ W.heap[w.heap.size + 1 + 1]? = some (.cells #[.int .i64 0, .int .i64 0, .int .i64 1, .int .i64 0, .int .i64 1, .slice (some ⟨w.heap.size, 0, none⟩) 2 2, .slice (some ⟨w.heap.size + 1, 0, none⟩) 2 2] 55 (0, 0))) ⟨(((Below.refl _ _).alloc (Nat.le_refl _) _).alloc (by simp) _).alloc (by simp; omega) _, by simpa only [World.size_alloc] using World.alloc_heap_new ((w.alloc (.cells #[.int .i64 0, .int .i64 0] 3 (0, 0))).alloc (.cells #[.int .i64 9, .int .i64 9] 3 (0, 0))) (.cells #[.int .i64 0, .int .i64 0, .int .i64 1, .int .i64 0, .int .i64 1, .slice (some ⟨w.heap.size, 0, none⟩) 2 2, .slice (some ⟨w.heap.size + 1, 0, none⟩) 2 2] 55 (0, 0))⟩ ?_
  rintro W1 ⟨hB, hR⟩
  have r0 := hcell (k := 0) (v := .int .i64 0) hR rfl
  have r1 := hcell (k := 1) (v := .int .i64 0) hR rfl
  have r2 := hcell (k := 2) (v := .int .i64 1) hR rfl
  have r3 := hcell (k := 3) (v := .int .i64 0) hR rfl
  have r4 := hcell (k := 4) (v := .int .i64 1) hR rfl
  have r5 := hcell (k := 5) (v := .slice (some ⟨w.heap.size, 0, none⟩) 2 2) hR rfl
  have r6 := hcell (k := 6) (v := .slice (some ⟨w.heap.size + 1, 0, none⟩) 2 2) hR rfl
  go_wp2_with fail
  refine (F1.out ⟨some ⟨w.heap.size, 0, none⟩, 2, some ⟨w.heap.size + 1, 0, none⟩, 2⟩ _).mono ?_
  rintro e w2 ⟨rfl, hb2⟩
  have hB2 := hB.trans (hb2.mono hB.size)
  have hR2 := hkeep hb2 hR
  clear r0 r1 r2 r3 r4 r5 r6
  clear hB hR hb2
  have r0 := hcell (k := 0) (v := .int .i64 0) hR2 rfl
  have r1 := hcell (k := 1) (v := .int .i64 0) hR2 rfl
  have r2 := hcell (k := 2) (v := .int .i64 1) hR2 rfl
  have r3 := hcell (k := 3) (v := .int .i64 0) hR2 rfl
  have r4 := hcell (k := 4) (v := .int .i64 1) hR2 rfl
  have r5 := hcell (k := 5) (v := .slice (some ⟨w.heap.size, 0, none⟩) 2 2) hR2 rfl
  have r6 := hcell (k := 6) (v := .slice (some ⟨w.heap.size + 1, 0, none⟩) 2 2) hR2 rfl
  go_wp2_with fail
  refine (F2.out ⟨some ⟨w.heap.size, 0, none⟩, 2, some ⟨w.heap.size + 1, 0, none⟩, 2⟩ _).mono ?_
  rintro e w3 ⟨rfl, hb3⟩
  have hB3 := hB2.trans (hb3.mono hB2.size)
  clear r0 r1 r2 r3 r4 r5 r6
  clear hB2 hR2 hb3
  go_wp2_with fail
  refine (AL.out _).mono ?_
  rintro e w4 ⟨rfl, hb4⟩
  have hB4 := hB3.trans (hb4.mono hB3.size)
  go_wp2_with fail
  refine (A1.out _).mono ?_
  rintro e w5 ⟨rfl, hb5⟩
  have hB5 := hB4.trans (hb5.mono hB4.size)
  go_wp2_with fail
  refine (AL.out _).mono ?_
  rintro e w6 ⟨rfl, hb6⟩
  have hB6 := hB5.trans (hb6.mono hB5.size)
  go_wp2_with fail
  refine (A0.out _).mono ?_
  rintro e w7 ⟨rfl, hb7⟩
  have hB7 := hB6.trans (hb7.mono hB6.size)
  go_wp2_with fail
  refine (MD.out _).mono ?_
  rintro e w8 ⟨rfl, hb8⟩
  have hB8 := hB7.trans (hb8.mono hB7.size)
  go_wp2
  go_ret
  exact ⟨rfl, hB8⟩
end Go.Proofs.Ytgfmdgiepomkiaa
