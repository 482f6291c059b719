/- Walks: package tri: corners, normals. -/
import Derived.Test.YtdkikecjlbgmdaaGreatTrX
import Derived.Test.YtdkikecjlbgmdaaGreatGe
namespace Go.Proofs.YtdkikecjlbgmdaaGreat
open Go.RowKit
attribute [local go_sem] Instr.index

abbrev trA (t : Tr) : Value := .agg #[.int .i64 t.id, .int .i64 t.a.x, .int .i64 t.a.y, .int .i64 t.a.z, .int .i64 t.b.x, .int .i64 t.b.y, .int .i64 t.b.z, .int .i64 t.c.x, .int .i64 t.c.y, .int .i64 t.c.z]
theorem crn_min {W D : Int} {t : Tr} : crnOk W D t = (decide (0 ≤ min t.a.x (min t.b.x t.c.x)) && decide (max t.a.x (max t.b.x t.c.x) ≤ W) && decide (0 ≤ min t.a.z (min t.b.z t.c.z)) && decide (max t.a.z (max t.b.z t.c.z) ≤ D) && decide (-2048 ≤ min t.a.y (min t.b.y t.c.y)) && decide (max t.a.y (max t.b.y t.c.y) ≤ 2048)) := by
  rw [Bool.eq_iff_iff, crn_iff]
  simp only [Bool.and_eq_true, decide_eq_true_eq]
  omega
set_option maxRecDepth 100000 in
set_option maxHeartbeats 2000000 in
theorem trcorners_any (W D : Int) (t : Tr) (w : World) :
    Calls Tryz.prog 63 #[trA t, .int .i64 W, .int .i64 D] w fun e w' => e = .returned (.bool (crnOk W D t)) ∧ Below w.heap.size w w' := by
  have BD := Lib.hid (fun W => bounds_any t.id t.a t.b t.c W)
  have H := Lib.hid (crn_min (W := W) (D := D) (t := t))
  have hB : Below w.heap.size w (w.alloc (trO t.id t.a t.b t.c)) := (Below.refl _ _).alloc (Nat.le_refl _) _
  generalize min t.a.x (min t.b.x t.c.x) = lx at BD H
  generalize min t.a.y (min t.b.y t.c.y) = ly at BD H
  generalize min t.a.z (min t.b.z t.c.z) = lz at BD H
  generalize max t.a.x (max t.b.x t.c.x) = ux at BD H
  generalize max t.a.y (max t.b.y t.c.y) = uy at BD H
  generalize max t.a.z (max t.b.z t.c.z) = uz at BD H
  generalize crnOk W D t = r at H ⊢
  obtain ⟨i, ⟨ax, ay, az⟩, ⟨bx, by_, bz⟩, ⟨cx, cy, cz⟩⟩ := t
  dsimp only [trO, trA] at BD hB ⊢
  go_enter Tryz.func63, Tryz.ntmps63
  go_wp2_with fail
  refine (BD.out _).mono ?_
  rintro e w1 ⟨rfl, hb1⟩
  have hB1 := hB.trans (hb1.mono hB.size)
  have hB2 := (hB1.alloc hB1.size (.cells #[.int .i64 lx, .int .i64 ly, .int .i64 lz] 32)).alloc (by have := hB1.size; simp; omega) (.cells #[.int .i64 ux, .int .i64 uy, .int .i64 uz] 32)
  clear hb1 hB BD hB1
  go_wp2
  all_goals
    go_ret
    refine ⟨ret_bool ?_, hB2⟩
    rw [H.out]
    clear hB2 H
    grind
/-- What Normal tells. -/
def nrmE (t : Tr) : Int × Int × Int × Int := if crnOk 32 32 t && decide (nyV t ≠ 0) then (nxV t, nyV t, nzV t, 0) else (0, 0, 0, 40)
end Go.Proofs.YtdkikecjlbgmdaaGreat
