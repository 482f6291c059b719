/- Arguments as they are read: a point. -/
import Derived.Test.YtndjljefppbmcaaArg
import Derived.Test.YtndjljefppbmcaaCelW
namespace Go.Proofs.Ytndjljefppbmcaa
open Go.ChangeShapes Go.WideShapes Go.ChangeAt Go.RowKit Go.Deep

theorem list2 {l : List Value} {a b : Value} (hl : l.length = 2) (h0 : l[0]? = some a) (h1 : l[1]? = some b) : l = [a, b] := by
  match l, hl with
  | [x, y], _ => simp at h0 h1; rw [h0, h1]

set_option maxRecDepth 100000 in
/-- A point argument. -/
theorem open_pt {H : Type} {enc : TypeId × Value → H} {W : World} {r : Reach} {b0 : Nat} {v : Value} {d : DataW H} {p : List MemPlace} {base : Nat} {spare : Nat → Bool} {held : Bool}
    (hv : Value.okWide Try.prog W r b0 36 v) (h : DataW.Trod enc Try.prog W base spare held 36 v d p) :
    ∃ q : Pt, v = ptA q ∧ i64B q.x ∧ i64B q.z := by
  obtain ⟨cs, rfl, hsz⟩ := okWide_struct Try.underlying36 hv
  obtain ⟨fuel, hf⟩ := h
  obtain ⟨hl, hf⟩ := fields_of Try.underlying36 (by kernel_rfl) (by kernel_rfl) hf
  obtain ⟨v0, y0, n0, h0, t0⟩ := hf 0 _ rfl
  obtain ⟨v1, y1, n1, h1, t1⟩ := hf 1 _ rfl
  obtain ⟨x0, rfl, w0⟩ := int_of Try.underlying3 t0
  obtain ⟨x1, rfl, w1⟩ := int_of Try.underlying3 t1
  refine ⟨⟨x0, x1⟩, ?_, bounds_i64 w0, bounds_i64 w1⟩
  have e := list2 hl h0 h1
  simp only [Value.cells] at e
  show Value.agg cs = Value.agg _
  congr 1
  exact Array.toList_inj.1 (by simpa using e)
end Go.Proofs.Ytndjljefppbmcaa
