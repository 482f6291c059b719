/- Walks: the reference's 18.Same at two rows that read the same. -/
import Derived.Test.YtmgkkmcihplojaaGreatKg
import Derived.Test.YtmgkkmcihplojaaGreatRctC
import Derived.Laws.StructEq
namespace Go.Proofs.YtmgkkmcihplojaaGreat
open Go.RowKit Go.Sort
attribute [local go_sem] Instr.index

theorem SlDr.cells {w : World} {b off n c : Nat} {xs : List Dr} {k : Nat} {x : Dr} (h : SlR drC 6 w (some ⟨b, off, none⟩) n c xs) (hx : xs[k]? = some x) : ∀ j u, (drC x)[j]? = some u → w.cell? ⟨b, off + k * 6 + j, none⟩ = some u := by
  intro j u hu
  have hk : k < xs.length := (List.getElem?_eq_some_iff.1 hx).1
  have hlen := h.len
  obtain ⟨b', off', e, _, hc⟩ := h.at0 (by omega)
  cases e
  exact hc k x hx j u hu
theorem dr_beq (a b : Dr) : decide (a = b) = (a.a == b.a && (a.b == b.b && (a.x0 == b.x0 && (a.z0 == b.z0 && (a.x1 == b.x1 && a.z1 == b.z1))))) := by
  obtain ⟨x0, x1, x2, x3, x4, x5⟩ := a
  obtain ⟨y0, y1, y2, y3, y4, y5⟩ := b
  simp only [Dr.mk.injEq, Bool.decide_and]
  rfl
theorem eqDr (w : World) (x y : Dr) : (Op.equalIn 10000 110 (.agg #[.int .i64 x.a, .int .i64 x.b, .int .i64 x.x0, .int .i64 x.z0, .int .i64 x.x1, .int .i64 x.z1]) (.agg #[.int .i64 y.a, .int .i64 y.b, .int .i64 y.x0, .int .i64 y.z0, .int .i64 y.x1, .int .i64 y.z1])).run Tryz.prog w = .ok (decide (x = y)) w := by
  have u3 := Tryz.underlying3
  have a3 := Tryz.isAgg3
  have z3 := Tryz.sizeOf3
  have hS : Tryz.prog.underlying 110 = some (.struct (Tryz.prog.fieldsOf 110)) := by kernel_rfl
  rw [show (10000 : Nat) = 9999 + 1 from rfl, run_equalIn_struct w 9999 110 _ _ hS (by kernel_rfl)]
  simp only [Program.fieldsOf, Tryz.underlying110]
  go_simp
  rw [dr_beq]
  repeat' split
  all_goals simp_all
end Go.Proofs.YtmgkkmcihplojaaGreat
