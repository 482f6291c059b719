/- Walks: whether two configs, triangles, boxes, hops are the same. -/
import Derived.Test.YtilhmlapbifbbaaSoN
import Derived.Laws.StructEq
namespace Go.Proofs.Ytilhmlapbifbbaa
open Go.RowKit Go.Sort

theorem vtx_beq (a b : Vtx) : decide (a = b) = (a.x == b.x && (a.y == b.y && a.z == b.z)) := by
  obtain ⟨x0, x1, x2⟩ := a
  obtain ⟨y0, y1, y2⟩ := b
  by_cases h1 : x0 = y0 <;> by_cases h2 : x1 = y1 <;> by_cases h3 : x2 = y2 <;> simp [h1, h2, h3]
theorem spt_beq (a b : Spt) : decide (a = b) = (a.x == b.x && (a.z == b.z && a.y == b.y)) := by
  obtain ⟨x0, x1, x2⟩ := a
  obtain ⟨y0, y1, y2⟩ := b
  by_cases h1 : x0 = y0 <;> by_cases h2 : x1 = y1 <;> by_cases h3 : x2 = y2 <;> simp [h1, h2, h3]
theorem tri_beq (a b : Tri3) : decide (a = b) = (a.id == b.id && (decide (a.v0 = b.v0) && (decide (a.v1 = b.v1) && decide (a.v2 = b.v2)))) := by
  obtain ⟨x0, x1, x2, x3⟩ := a
  obtain ⟨y0, y1, y2, y3⟩ := b
  by_cases h1 : x0 = y0 <;> by_cases h2 : x1 = y1 <;> by_cases h3 : x2 = y2 <;> by_cases h4 : x3 = y3 <;> simp [h1, h2, h3, h4]
theorem bx_beq (a b : Bx) : decide (a = b) = (a.id == b.id && (a.x0 == b.x0 && (a.z0 == b.z0 && (a.x1 == b.x1 && (a.z1 == b.z1 && (a.y0 == b.y0 && (a.y1 == b.y1 && a.area == b.area))))))) := by
  obtain ⟨x0, x1, x2, x3, x4, x5, x6, x7⟩ := a
  obtain ⟨y0, y1, y2, y3, y4, y5, y6, y7⟩ := b
  simp only [Bx.mk.injEq, Bool.decide_and, Bool.beq_eq_decide_eq]
theorem hp_beq (a b : Hp) : decide (a = b) = (a.id == b.id && (decide (a.a = b.a) && (decide (a.b = b.b) && (a.both == b.both && (a.area == b.area && a.cost == b.cost))))) := by
  obtain ⟨x0, x1, x2, x3, x4, x5⟩ := a
  obtain ⟨y0, y1, y2, y3, y4, y5⟩ := b
  simp only [Hp.mk.injEq, Bool.decide_and]
  cases x3 <;> cases y3 <;> rfl
theorem cfg_beq (a b : Cfg) : decide (a = b) = (a.clear == b.clear && (a.climb == b.climb && (a.height == b.height && (a.rise == b.rise && (a.run == b.run && (a.w == b.w && a.d == b.d)))))) := by
  obtain ⟨x0, x1, x2, x3, x4, x5, x6⟩ := a
  obtain ⟨y0, y1, y2, y3, y4, y5, y6⟩ := b
  simp only [Cfg.mk.injEq, Bool.decide_and]
  rfl
theorem ok_eq {α : Type} {a b : α} {w : World} (h : a = b) : Result.ok a w = Result.ok b w := by rw [h]

section
variable (w : World)
theorem eqCfg (x y : Cfg) : (Op.equalIn 10000 32 (.agg #[.int .i64 x.clear, .int .i64 x.climb, .int .i64 x.height, .int .i64 x.rise, .int .i64 x.run, .int .i64 x.w, .int .i64 x.d]) (.agg #[.int .i64 y.clear, .int .i64 y.climb, .int .i64 y.height, .int .i64 y.rise, .int .i64 y.run, .int .i64 y.w, .int .i64 y.d])).run Try.prog w = .ok (decide (x = y)) w := by
  have u3 := Try.underlying3
  have a3 := Try.isAgg3
  have z3 := Try.sizeOf3
  have hS : Try.prog.underlying 32 = some (.struct (Try.prog.fieldsOf 32)) := by kernel_rfl
  rw [show (10000 : Nat) = 9999 + 1 from rfl, run_equalIn_struct w 9999 32 _ _ hS (by kernel_rfl)]
  simp only [Program.fieldsOf, Try.underlying32]
  go_simp
  rw [cfg_beq]
  repeat' split
  all_goals simp_all
theorem eqBx (x y : Bx) : (Op.equalIn 10000 114 (.agg #[.int .i64 x.id, .int .i64 x.x0, .int .i64 x.z0, .int .i64 x.x1, .int .i64 x.z1, .int .i64 x.y0, .int .i64 x.y1, .int .i64 x.area]) (.agg #[.int .i64 y.id, .int .i64 y.x0, .int .i64 y.z0, .int .i64 y.x1, .int .i64 y.z1, .int .i64 y.y0, .int .i64 y.y1, .int .i64 y.area])).run Try.prog w = .ok (decide (x = y)) w := by
  have u3 := Try.underlying3
  have a3 := Try.isAgg3
  have z3 := Try.sizeOf3
  have hS : Try.prog.underlying 114 = some (.struct (Try.prog.fieldsOf 114)) := by kernel_rfl
  rw [show (10000 : Nat) = 9999 + 1 from rfl, run_equalIn_struct w 9999 114 _ _ hS (by kernel_rfl)]
  simp only [Program.fieldsOf, Try.underlying114]
  go_simp
  rw [bx_beq]
  repeat' split
  all_goals simp_all
theorem eqHp (x y : Hp) : (Op.equalIn 10000 118 (.agg #[.int .i64 x.id, .int .i64 x.a.x, .int .i64 x.a.z, .int .i64 x.a.y, .int .i64 x.b.x, .int .i64 x.b.z, .int .i64 x.b.y, .bool x.both, .int .i64 x.area, .int .i64 x.cost]) (.agg #[.int .i64 y.id, .int .i64 y.a.x, .int .i64 y.a.z, .int .i64 y.a.y, .int .i64 y.b.x, .int .i64 y.b.z, .int .i64 y.b.y, .bool y.both, .int .i64 y.area, .int .i64 y.cost])).run Try.prog w = .ok (decide (x = y)) w := by
  have u3 := Try.underlying3
  have a3 := Try.isAgg3
  have z3 := Try.sizeOf3
  have u4 := Try.underlying4
  have a4 := Try.isAgg4
  have z4 := Try.sizeOf4
  have uS := Try.underlying116
  have aS := Try.isAgg116
  have zS := Try.sizeOf116
  have hS : Try.prog.underlying 118 = some (.struct (Try.prog.fieldsOf 118)) := by kernel_rfl
  rw [show (10000 : Nat) = 9999 + 1 from rfl, run_equalIn_struct w 9999 118 _ _ hS (by kernel_rfl)]
  simp only [Program.fieldsOf, Try.underlying118]
  go_simp
  rw [hp_beq, spt_beq, spt_beq]
  repeat' split
  all_goals simp_all

theorem eqVerts (a0 a1 a2 b0 b1 b2 : Vtx) : (Op.equalIn 9999 110 (.agg #[.int .i64 a0.x, .int .i64 a0.y, .int .i64 a0.z, .int .i64 a1.x, .int .i64 a1.y, .int .i64 a1.z, .int .i64 a2.x, .int .i64 a2.y, .int .i64 a2.z]) (.agg #[.int .i64 b0.x, .int .i64 b0.y, .int .i64 b0.z, .int .i64 b1.x, .int .i64 b1.y, .int .i64 b1.z, .int .i64 b2.x, .int .i64 b2.y, .int .i64 b2.z])).run Try.prog w = .ok (decide (a0 = b0) && (decide (a1 = b1) && decide (a2 = b2))) w := by
  have u3 := Try.underlying109
  have a3 := Try.isAgg109
  have z3 := Try.sizeOf109
  rw [show (9999 : Nat) = 9998 + 1 from rfl, Op.equalIn]
  simp only [Sem.run_bind, run_underlying Try.underlying110, Result.andThen_ok]
  simp only [Std.Legacy.Range.forIn_eq_forIn_range', Std.Legacy.Range.size, Nat.sub_zero, Nat.add_sub_cancel, Nat.div_one, List.range'_succ, List.range'_zero, List.forIn_cons, List.forIn_nil]
  go_simp
  rw [vtx_beq, vtx_beq, vtx_beq]
  repeat' split
  all_goals simp_all
theorem eqTri (x y : Tri3) : (Op.equalIn 10000 112 (.agg #[.int .i64 x.id, .int .i64 x.v0.x, .int .i64 x.v0.y, .int .i64 x.v0.z, .int .i64 x.v1.x, .int .i64 x.v1.y, .int .i64 x.v1.z, .int .i64 x.v2.x, .int .i64 x.v2.y, .int .i64 x.v2.z]) (.agg #[.int .i64 y.id, .int .i64 y.v0.x, .int .i64 y.v0.y, .int .i64 y.v0.z, .int .i64 y.v1.x, .int .i64 y.v1.y, .int .i64 y.v1.z, .int .i64 y.v2.x, .int .i64 y.v2.y, .int .i64 y.v2.z])).run Try.prog w = .ok (decide (x = y)) w := by
  have u3 := Try.underlying3
  have a3 := Try.isAgg3
  have z3 := Try.sizeOf3
  have uV := Try.underlying110
  have aV := Try.isAgg110
  have zV := Try.sizeOf110
  have eV := eqVerts w x.v0 x.v1 x.v2 y.v0 y.v1 y.v2
  have hS : Try.prog.underlying 112 = some (.struct (Try.prog.fieldsOf 112)) := by kernel_rfl
  rw [show (10000 : Nat) = 9999 + 1 from rfl, run_equalIn_struct w 9999 112 _ _ hS (by kernel_rfl)]
  simp only [Program.fieldsOf, Try.underlying112]
  go_simp
  rw [tri_beq]
  repeat' split
  all_goals simp_all
end

end Go.Proofs.Ytilhmlapbifbbaa
