/- Walk: the corners of a triangle over a column, refused ones too. -/
import Derived.Test.YtdkikecjlbgmdaaGreatClpN
namespace Go.Proofs.YtdkikecjlbgmdaaGreat
open Go.RowKit

set_option maxHeartbeats 4000000 in
theorem corners_no (i : Int) (a b c : V3) (x z : Int) (w : World) (ho : (openT a b c).2 = false) :
    Calls Tryz.prog 84 #[tiA i a b c, .int .i64 x, .int .i64 z] w fun e w' => e = .returned (.tuple #[.slice none 0 0, .int .i64 40]) ∧ Below w.heap.size w w' := by
  have OP := Lib.hid (fun W => open_any i a b c W)
  rw [ho] at OP
  generalize (openT a b c).1 = t at OP
  clear ho
  have hB : Below w.heap.size w (((w.alloc (.cells #[.int .i64 i, .int .i64 a.x, .int .i64 a.y, .int .i64 a.z, .int .i64 b.x, .int .i64 b.y, .int .i64 b.z, .int .i64 c.x, .int .i64 c.y, .int .i64 c.z] 35)).alloc (.cells #[.int .i64 x] 3)).alloc (.cells #[.int .i64 z] 3)) := (((Below.refl _ _).alloc (Nat.le_refl _) _).alloc (by simp) _).alloc (by simp; omega) _
  obtain ⟨ax, ay, az⟩ := a
  obtain ⟨bx, by_, bz⟩ := b
  obtain ⟨cx, cy, cz⟩ := c
  obtain ⟨ta, tb, tc, ts⟩ := t
  simp only at OP hB
  go_enter Tryz.func84, Tryz.ntmps84
  go_wp2_with fail
  refine (OP.out _).mono ?_
  rintro e w1 ⟨rfl, hb1⟩
  have hB2 := (hB.trans (hb1.mono hB.size)).alloc (hB.trans (hb1.mono hB.size)).size (.cells (t3C ⟨ta, tb, tc, ts⟩) 137)
  clear hb1 hB OP
  go_wp2
  go_ret2
  exact ⟨rfl, hB2⟩

set_option maxRecDepth 100000 in
set_option maxHeartbeats 8000000 in
theorem corners_out (i : Int) (a b c : V3) (x z : Int) (w : World) (ho : (openT a b c).2 = true) (hx : ¬ inC x z) :
    Calls Tryz.prog 84 #[tiA i a b c, .int .i64 x, .int .i64 z] w fun e w' => e = .returned (.tuple #[.slice none 0 0, .int .i64 2]) ∧ Below w.heap.size w w' := by
  have OP := Lib.hid (fun W => open_any i a b c W)
  rw [ho] at OP
  generalize (openT a b c).1 = t at OP
  clear ho
  have hX := (Boxed.new (w.alloc (.cells #[.int .i64 i, .int .i64 a.x, .int .i64 a.y, .int .i64 a.z, .int .i64 b.x, .int .i64 b.y, .int .i64 b.z, .int .i64 c.x, .int .i64 c.y, .int .i64 c.z] 35)) 3 (.int .i64 x)).alloc (.cells #[.int .i64 z] 3)
  have hZ := Boxed.new ((w.alloc (.cells #[.int .i64 i, .int .i64 a.x, .int .i64 a.y, .int .i64 a.z, .int .i64 b.x, .int .i64 b.y, .int .i64 b.z, .int .i64 c.x, .int .i64 c.y, .int .i64 c.z] 35)).alloc (.cells #[.int .i64 x] 3)) 3 (.int .i64 z)
  have hB : Below w.heap.size w (((w.alloc (.cells #[.int .i64 i, .int .i64 a.x, .int .i64 a.y, .int .i64 a.z, .int .i64 b.x, .int .i64 b.y, .int .i64 b.z, .int .i64 c.x, .int .i64 c.y, .int .i64 c.z] 35)).alloc (.cells #[.int .i64 x] 3)).alloc (.cells #[.int .i64 z] 3)) := (((Below.refl _ _).alloc (Nat.le_refl _) _).alloc (by simp) _).alloc (by simp; omega) _
  simp only [World.size_alloc] at hX hZ
  obtain ⟨ax, ay, az⟩ := a
  obtain ⟨bx, by_, bz⟩ := b
  obtain ⟨cx, cy, cz⟩ := c
  obtain ⟨ta, tb, tc, ts⟩ := t
  simp only at OP hB hX hZ
  have hcase : x < -1 ∨ (¬ x < -1 ∧ 32 < x) ∨ (¬ x < -1 ∧ ¬ 32 < x ∧ z < -1) ∨ (¬ x < -1 ∧ ¬ 32 < x ∧ ¬ z < -1 ∧ 32 < z) := by unfold inC at hx; omega
  clear hx
  go_enter Tryz.func84, Tryz.ntmps84
  go_wp2_with fail
  refine (OP.out _).mono ?_
  rintro e w1 ⟨rfl, hb1⟩
  have hX0 : Boxed w1 (w.heap.size + 1) 3 (.int .i64 x) := (hb1.block _ hX.lt).trans hX
  have hZ0 : Boxed w1 (w.heap.size + 1 + 1) 3 (.int .i64 z) := (hb1.block _ hZ.lt).trans hZ
  have hX1 := Boxed.alloc hX0 (.cells (t3C ⟨ta, tb, tc, ts⟩) 137)
  have hZ1 := Boxed.alloc hZ0 (.cells (t3C ⟨ta, tb, tc, ts⟩) 137)
  have hB2 := (hB.trans (hb1.mono hB.size)).alloc (hB.trans (hb1.mono hB.size)).size (.cells (t3C ⟨ta, tb, tc, ts⟩) 137)
  have x2 := hX1.cell
  have z2 := hZ1.cell
  clear hb1 hB OP hX hZ hX0 hZ0 hX1 hZ1
  rcases hcase with h | ⟨h0, h⟩ | ⟨h0, h1, h⟩ | ⟨h0, h1, h2, h⟩
  all_goals
    go_wp2
    go_ret2
    exact ⟨rfl, hB2⟩

theorem corners_any (i : Int) (a b c : V3) (x z : Int) (w : World) :
    Calls Tryz.prog 84 #[tiA i a b c, .int .i64 x, .int .i64 z] w fun e w' => ∃ ad cp l err, e = .returned (.tuple #[.slice ad l.length cp, .int .i64 err]) ∧ CornRes a b c x z l err ∧ SlR crC 4 w' ad l.length cp l ∧ Below w.heap.size w w' := by
  cases ho : (openT a b c).2 with
  | false =>
    refine (corners_no i a b c x z w ho).mono ?_
    rintro e w' ⟨rfl, hb⟩
    exact ⟨none, 0, [], 40, rfl, .inl ⟨ho, rfl, rfl⟩, SlR.nil _ _ _, hb⟩
  | true =>
    by_cases hc : inC x z
    · refine (corners_good i a b c x z w _ (open_pair ho) ⟨hc.1, hc.2.1⟩ ⟨hc.2.2.1, hc.2.2.2⟩).mono ?_
      rintro e w' ⟨ad, cp, l, rfl, h1, h2, h3⟩
      exact ⟨ad, cp, l, 0, rfl, .inr (.inr ⟨ho, hc, h1, rfl⟩), h2, h3⟩
    · refine (corners_out i a b c x z w ho hc).mono ?_
      rintro e w' ⟨rfl, hb⟩
      exact ⟨none, 0, [], 2, rfl, .inr (.inl ⟨ho, hc, rfl, rfl⟩), SlR.nil _ _ _, hb⟩
end Go.Proofs.YtdkikecjlbgmdaaGreat
