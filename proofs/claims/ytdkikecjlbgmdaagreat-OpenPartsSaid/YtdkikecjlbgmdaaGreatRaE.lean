/- Walks: the law of rasters: its small functions, and what the document says of a flat triangle and a steep one. -/
import Derived.Test.YtdkikecjlbgmdaaGreatGk
import Derived.Test.YtdkikecjlbgmdaaGreatRaS
namespace Go.Proofs.YtdkikecjlbgmdaaGreat
open Go.RowKit
attribute [local go_sem] Instr.index

theorem great09_any (a : Option Addr) (n c : Nat) (w : World) : Calls Tryz.prog 6 #[.slice a n c] w fun e w' => e = .returned (.bool (decide ((40 : Int) < (n : Int)))) ∧ w' = w := by
  go_enter Tryz.func6, Tryz.ntmps6
  go_wp2
  go_ret
  exact ⟨rfl, rfl⟩
set_option maxHeartbeats 1000000 in
theorem flat09_any (i y : Int) (w : World) : Calls Tryz.prog 20 #[.int .i64 i, .int .i64 y] w fun e w' => e = .returned (trA ⟨i, ⟨0, y, 0⟩, ⟨2, y, 0⟩, ⟨0, y, 2⟩⟩) ∧ Below w.heap.size w w' := by
  have hB : Below w.heap.size w (w.alloc (trO i ⟨0, y, 0⟩ ⟨2, y, 0⟩ ⟨0, y, 2⟩)) := (Below.refl _ _).alloc (Nat.le_refl _) _
  dsimp only [trO, trA] at hB ⊢
  go_enter Tryz.func20, Tryz.ntmps20
  go_wp2
  refine bodyPost_ret (by simp [results, Tryz.results20, go_sem]; try rfl) rfl ?_
  exact ⟨rfl, hB⟩
theorem wk09a : colAll ⟨0, 1, 3, 1, 1, 8, 8⟩ [⟨1, ⟨0, 3, 0⟩, ⟨2, 3, 0⟩, ⟨0, 3, 2⟩⟩] 0 0 = ([⟨3, 3, true⟩], 0) := by decide
set_option maxRecDepth 100000 in
theorem wk09b : colAll ⟨0, 1, 3, 1, 1, 8, 8⟩ [⟨1, ⟨0, 3, 0⟩, ⟨2, 3, 0⟩, ⟨0, 3, 2⟩⟩, ⟨2, ⟨0, 3, 0⟩, ⟨1, 7, 0⟩, ⟨0, 3, 1⟩⟩] 0 0 = ([⟨3, 7, false⟩], 0) := by decide
theorem wkcol1 (b : Nat) (ty : TypeId) (W : World) (h : W.heap[b]? = some (.cells #[.int .i64 1, .int .i64 0, .int .i64 3, .int .i64 0, .int .i64 2, .int .i64 3, .int .i64 0, .int .i64 0, .int .i64 3, .int .i64 2] ty (0, 0))) :
    Calls Tryz.prog 8 #[.agg #[.int .i64 0, .int .i64 1, .int .i64 3, .int .i64 1, .int .i64 1, .int .i64 8, .int .i64 8], .slice (some ⟨b, 0, none⟩) 1 1, .int .i64 0, .int .i64 0] W (colPost ([⟨3, 3, true⟩], 0) W) := by
  have := rascolumn_any ⟨0, 1, 3, 1, 1, 8, 8⟩ (some ⟨b, 0, none⟩) 1 1 [⟨1, ⟨0, 3, 0⟩, ⟨2, 3, 0⟩, ⟨0, 3, 2⟩⟩] 0 0 W (SlR.block (xs := [⟨1, ⟨0, 3, 0⟩, ⟨2, 3, 0⟩, ⟨0, 3, 2⟩⟩]) trC_len h rfl (by decide))
  rw [wk09a] at this
  exact this
theorem wkcol2 (b : Nat) (ty : TypeId) (W : World) (h : W.heap[b]? = some (.cells #[.int .i64 1, .int .i64 0, .int .i64 3, .int .i64 0, .int .i64 2, .int .i64 3, .int .i64 0, .int .i64 0, .int .i64 3, .int .i64 2, .int .i64 2, .int .i64 0, .int .i64 3, .int .i64 0, .int .i64 1, .int .i64 7, .int .i64 0, .int .i64 0, .int .i64 3, .int .i64 1] ty (0, 0))) :
    Calls Tryz.prog 8 #[.agg #[.int .i64 0, .int .i64 1, .int .i64 3, .int .i64 1, .int .i64 1, .int .i64 8, .int .i64 8], .slice (some ⟨b, 0, none⟩) 2 2, .int .i64 0, .int .i64 0] W (colPost ([⟨3, 7, false⟩], 0) W) := by
  have := rascolumn_any ⟨0, 1, 3, 1, 1, 8, 8⟩ (some ⟨b, 0, none⟩) 2 2 [⟨1, ⟨0, 3, 0⟩, ⟨2, 3, 0⟩, ⟨0, 3, 2⟩⟩, ⟨2, ⟨0, 3, 0⟩, ⟨1, 7, 0⟩, ⟨0, 3, 1⟩⟩] 0 0 W (SlR.block (xs := [⟨1, ⟨0, 3, 0⟩, ⟨2, 3, 0⟩, ⟨0, 3, 2⟩⟩, ⟨2, ⟨0, 3, 0⟩, ⟨1, 7, 0⟩, ⟨0, 3, 1⟩⟩]) trC_len h rfl (by decide))
  rw [wk09b] at this
  exact this
set_option maxRecDepth 100000 in
set_option maxHeartbeats 8000000 in
theorem wakes09_any (w : World) : Calls Tryz.prog 7 #[] w fun e w' => e = .returned (.bool true) ∧ Below w.heap.size w w' := by
  have hC := World.alloc_heap_new w (cfgO ⟨0, 1, 3, 1, 1, 8, 8⟩)
  have hB : Below w.heap.size w (w.alloc (cfgO ⟨0, 1, 3, 1, 1, 8, 8⟩)) := (Below.refl _ _).alloc (Nat.le_refl _) _
  dsimp only [cfgO] at hC hB
  go_enter Tryz.func7, Tryz.ntmps7
  go_upto_region 2 with fail
  generalize w.alloc (.cells #[.int .i64 0, .int .i64 1, .int .i64 3, .int .i64 1, .int .i64 1, .int .i64 8, .int .i64 8] 23) = W at hC hB ⊢
  have c0 : ∀ WW, Below W.heap.size W WW → WW.cell? ⟨w.heap.size, 0, none⟩ = some (.int .i64 0) := fun WW hb => hbc hb (hcell (k := 0) hC rfl)
  have c1 : ∀ WW, Below W.heap.size W WW → WW.cell? ⟨w.heap.size, 1, none⟩ = some (.int .i64 1) := fun WW hb => hbc hb (hcell (k := 1) hC rfl)
  have c2 : ∀ WW, Below W.heap.size W WW → WW.cell? ⟨w.heap.size, 2, none⟩ = some (.int .i64 3) := fun WW hb => hbc hb (hcell (k := 2) hC rfl)
  have c3 : ∀ WW, Below W.heap.size W WW → WW.cell? ⟨w.heap.size, 3, none⟩ = some (.int .i64 1) := fun WW hb => hbc hb (hcell (k := 3) hC rfl)
  have c4 : ∀ WW, Below W.heap.size W WW → WW.cell? ⟨w.heap.size, 4, none⟩ = some (.int .i64 1) := fun WW hb => hbc hb (hcell (k := 4) hC rfl)
  have c5 : ∀ WW, Below W.heap.size W WW → WW.cell? ⟨w.heap.size, 5, none⟩ = some (.int .i64 8) := fun WW hb => hbc hb (hcell (k := 5) hC rfl)
  have c6 : ∀ WW, Below W.heap.size W WW → WW.cell? ⟨w.heap.size, 6, none⟩ = some (.int .i64 8) := fun WW hb => hbc hb (hcell (k := 6) hC rfl)
  go_region_held3 (fun WW => Below W.heap.size W WW) (first | (repeat (first | with_reducible exact Below.refl _ _ | with_reducible assumption | with_reducible refine Below.drew ?_ | (with_reducible refine Below.alloc ?_ ?_ _; rotate_left; (first | omega | (simp; done) | (simp; omega)); skip)))) (first
    | (go_at_call 20; refine (flat09_any _ _ _).mono ?_; rintro e wz ⟨rfl, hbz⟩; have hBz : Below W.heap.size W wz := (by refine Below.trans ?_ (hbz.mono ?_); (repeat (first | with_reducible exact Below.refl _ _ | with_reducible assumption | with_reducible refine Below.drew ?_ | (with_reducible refine Below.alloc ?_ ?_ _; rotate_left; (first | omega | (simp; done) | (simp; omega)); skip))); all_goals (first | omega | (simp; done) | (simp; omega))); have hSz := hBz.size)
    | (go_at_call 8; refine (wkcol1 _ _ _ (World.alloc_heap_new _ _)).mono ?_; rintro e wy ⟨v, rfl, hv, hby⟩; have hBy : Below W.heap.size W wy := (by refine Below.trans ?_ (hby.mono ?_); (repeat (first | with_reducible exact Below.refl _ _ | with_reducible assumption | with_reducible refine Below.drew ?_ | (with_reducible refine Below.alloc ?_ ?_ _; rotate_left; (first | omega | (simp; done) | (simp; omega)); skip))); all_goals (first | omega | (simp; done) | (simp; omega))); have hSy := hBy.size)
    | fail)
  rename_i hH
  clear hH
  have hB1 := hB.trans (hBy.mono hB.size)
  have hC1 := halloc (hkeep hBy hC) (.cells #[.int .i64 2, .int .i64 0, .int .i64 3, .int .i64 0, .int .i64 1, .int .i64 7, .int .i64 0, .int .i64 0, .int .i64 3, .int .i64 1] 35)
  have hT1 := World.alloc_heap_new wy (.cells #[.int .i64 2, .int .i64 0, .int .i64 3, .int .i64 0, .int .i64 1, .int .i64 7, .int .i64 0, .int .i64 0, .int .i64 3, .int .i64 1] 35)
  have hv1 := (show OwnR spnC 3 41 _ wy v 1 [⟨3, 3, true⟩] from hv).alloc (.cells #[.int .i64 2, .int .i64 0, .int .i64 3, .int .i64 0, .int .i64 1, .int .i64 7, .int .i64 0, .int .i64 0, .int .i64 3, .int .i64 1] 35)
  have hB2 := hB1.alloc hB1.size (.cells #[.int .i64 2, .int .i64 0, .int .i64 3, .int .i64 0, .int .i64 1, .int .i64 7, .int .i64 0, .int .i64 0, .int .i64 3, .int .i64 1] 35)
  clear c0 c1 c2 c3 c4 c5 c6 hC hB hBy hBz hby hbz hv hSz hSy hB1
  go_upto_region 4 with fail
  obtain ⟨T4, hT4⟩ : ∃ T4, T4 = wy.heap.size := ⟨_, rfl⟩
  rw [← hT4] at hT1 ⊢
  generalize wy.alloc (.cells #[.int .i64 2, .int .i64 0, .int .i64 3, .int .i64 0, .int .i64 1, .int .i64 7, .int .i64 0, .int .i64 0, .int .i64 3, .int .i64 1] 35) = W2 at hC1 hT1 hv1 hB2 ⊢
  clear hT4
  have c0 : ∀ WW, Below W2.heap.size W2 WW → WW.cell? ⟨w.heap.size, 0, none⟩ = some (.int .i64 0) := fun WW hb => hbc hb (hcell (k := 0) hC1 rfl)
  have c1 : ∀ WW, Below W2.heap.size W2 WW → WW.cell? ⟨w.heap.size, 1, none⟩ = some (.int .i64 1) := fun WW hb => hbc hb (hcell (k := 1) hC1 rfl)
  have c2 : ∀ WW, Below W2.heap.size W2 WW → WW.cell? ⟨w.heap.size, 2, none⟩ = some (.int .i64 3) := fun WW hb => hbc hb (hcell (k := 2) hC1 rfl)
  have c3 : ∀ WW, Below W2.heap.size W2 WW → WW.cell? ⟨w.heap.size, 3, none⟩ = some (.int .i64 1) := fun WW hb => hbc hb (hcell (k := 3) hC1 rfl)
  have c4 : ∀ WW, Below W2.heap.size W2 WW → WW.cell? ⟨w.heap.size, 4, none⟩ = some (.int .i64 1) := fun WW hb => hbc hb (hcell (k := 4) hC1 rfl)
  have c5 : ∀ WW, Below W2.heap.size W2 WW → WW.cell? ⟨w.heap.size, 5, none⟩ = some (.int .i64 8) := fun WW hb => hbc hb (hcell (k := 5) hC1 rfl)
  have c6 : ∀ WW, Below W2.heap.size W2 WW → WW.cell? ⟨w.heap.size, 6, none⟩ = some (.int .i64 8) := fun WW hb => hbc hb (hcell (k := 6) hC1 rfl)
  have t0 : ∀ WW, Below W2.heap.size W2 WW → WW.cell? ⟨T4, 0, none⟩ = some (.int .i64 2) := fun WW hb => hbc hb (hcell (k := 0) hT1 rfl)
  have t1 : ∀ WW, Below W2.heap.size W2 WW → WW.cell? ⟨T4, 1, none⟩ = some (.int .i64 0) := fun WW hb => hbc hb (hcell (k := 1) hT1 rfl)
  have t2 : ∀ WW, Below W2.heap.size W2 WW → WW.cell? ⟨T4, 2, none⟩ = some (.int .i64 3) := fun WW hb => hbc hb (hcell (k := 2) hT1 rfl)
  have t3 : ∀ WW, Below W2.heap.size W2 WW → WW.cell? ⟨T4, 3, none⟩ = some (.int .i64 0) := fun WW hb => hbc hb (hcell (k := 3) hT1 rfl)
  have t4 : ∀ WW, Below W2.heap.size W2 WW → WW.cell? ⟨T4, 4, none⟩ = some (.int .i64 1) := fun WW hb => hbc hb (hcell (k := 4) hT1 rfl)
  have t5 : ∀ WW, Below W2.heap.size W2 WW → WW.cell? ⟨T4, 5, none⟩ = some (.int .i64 7) := fun WW hb => hbc hb (hcell (k := 5) hT1 rfl)
  have t6 : ∀ WW, Below W2.heap.size W2 WW → WW.cell? ⟨T4, 6, none⟩ = some (.int .i64 0) := fun WW hb => hbc hb (hcell (k := 6) hT1 rfl)
  have t7 : ∀ WW, Below W2.heap.size W2 WW → WW.cell? ⟨T4, 7, none⟩ = some (.int .i64 0) := fun WW hb => hbc hb (hcell (k := 7) hT1 rfl)
  have t8 : ∀ WW, Below W2.heap.size W2 WW → WW.cell? ⟨T4, 8, none⟩ = some (.int .i64 3) := fun WW hb => hbc hb (hcell (k := 8) hT1 rfl)
  have t9 : ∀ WW, Below W2.heap.size W2 WW → WW.cell? ⟨T4, 9, none⟩ = some (.int .i64 1) := fun WW hb => hbc hb (hcell (k := 9) hT1 rfl)
  go_region_held3 (fun WW => Below W2.heap.size W2 WW) (first | (repeat (first | with_reducible exact Below.refl _ _ | with_reducible assumption | with_reducible refine Below.drew ?_ | (with_reducible refine Below.alloc ?_ ?_ _; rotate_left; (first | omega | (simp; done) | (simp; omega)); skip)))) (first
    | (go_at_call 20; refine (flat09_any _ _ _).mono ?_; rintro e wz ⟨rfl, hbz⟩; have hBz : Below W2.heap.size W2 wz := (by refine Below.trans ?_ (hbz.mono ?_); (repeat (first | with_reducible exact Below.refl _ _ | with_reducible assumption | with_reducible refine Below.drew ?_ | (with_reducible refine Below.alloc ?_ ?_ _; rotate_left; (first | omega | (simp; done) | (simp; omega)); skip))); all_goals (first | omega | (simp; done) | (simp; omega))); have hSz := hBz.size)
    | (go_at_call 8; refine (wkcol2 _ _ _ (World.alloc_heap_new _ _)).mono ?_; rintro e wx ⟨v2, rfl, hv2, hby⟩; have hBy : Below W2.heap.size W2 wx := (by refine Below.trans ?_ (hby.mono ?_); (repeat (first | with_reducible exact Below.refl _ _ | with_reducible assumption | with_reducible refine Below.drew ?_ | (with_reducible refine Below.alloc ?_ ?_ _; rotate_left; (first | omega | (simp; done) | (simp; omega)); skip))); all_goals (first | omega | (simp; done) | (simp; omega))); have hSy := hBy.size)
    | fail)
  rename_i hH
  clear hH
  have hB3 := hB2.trans (hBy.mono hB2.size)
  have hv3 := hv1.below hBy (Nat.le_refl _)
  have hv4 := (show OwnR spnC 3 41 _ wx v2 1 [⟨3, 7, false⟩] from hv2)
  obtain ⟨a1, k1, rfl, r1⟩ := OwnR.reads spnC_len hv3
  obtain ⟨a2, k2, rfl, r2⟩ := OwnR.reads spnC_len hv4
  obtain ⟨b1, f1, rfl, _, q1⟩ := r1.at0 (by decide)
  obtain ⟨b2, f2, rfl, _, q2⟩ := r2.at0 (by decide)
  obtain ⟨p1, p2, p3⟩ := SlSp.cells q1 (k := 0) (x := ⟨3, 3, true⟩) rfl
  obtain ⟨p4, p5, p6⟩ := SlSp.cells q2 (k := 0) (x := ⟨3, 7, false⟩) rfl
  clear hv1 hv2 hv3 hv4 r1 r2 q1 q2 hC1 hT1 c0 c1 c2 c3 c4 c5 c6 t0 t1 t2 t3 t4 t5 t6 t7 t8 t9 hB2 hBy hBz hby hbz hSz hSy
  simp only [Nat.zero_mul, Nat.add_zero] at p1 p2 p3 p4 p5 p6
  go_wp2
  go_ret
  exact ⟨rfl, hB3⟩
end Go.Proofs.YtdkikecjlbgmdaaGreat
