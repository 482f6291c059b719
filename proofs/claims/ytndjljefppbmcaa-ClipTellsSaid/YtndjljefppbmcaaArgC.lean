/- Arguments as they are read: a triangle. -/
import Derived.Test.YtndjljefppbmcaaArg
import Derived.Test.YtndjljefppbmcaaClpO2
namespace Go.Proofs.Ytndjljefppbmcaa
open Go.ChangeShapes Go.WideShapes Go.ChangeAt Go.RowKit Go.Deep

theorem list10c {l : List Value} (hl : l.length = 10) : ∃ a b c d e f g h i j, l = [a, b, c, d, e, f, g, h, i, j] := by
  match l, hl with
  | [a, b, c, d, e, f, g, h, i, j], _ => exact ⟨a, b, c, d, e, f, g, h, i, j, rfl⟩
theorem list9c {l : List Value} (hl : l.length = 9) : ∃ a b c d e f g h i, l = [a, b, c, d, e, f, g, h, i] := by
  match l, hl with
  | [a, b, c, d, e, f, g, h, i], _ => exact ⟨a, b, c, d, e, f, g, h, i, rfl⟩
theorem list3c {l : List Value} {a b c : Value} (hl : l.length = 3) (h0 : l[0]? = some a) (h1 : l[1]? = some b) (h2 : l[2]? = some c) : l = [a, b, c] := by
  match l, hl with
  | [x0, x1, x2], _ => simp at h0 h1 h2; rw [h0, h1, h2]
theorem someof_len {α : Type} {xs : List α} {n i : Nat} (h : xs.length = n) (hi : i < n) : ∃ x, xs[i]? = some x := ⟨_, List.getElem?_eq_getElem (by omega)⟩
section
variable {H : Type} {enc : TypeId × Value → H} {w : World} {base : Nat} {spare : Nat → Bool} {held : Bool}
theorem vx_of (n : Nat) (cs : List Value) (y : DataW H × List MemPlace) (h : DataW.trod enc Try.prog w base spare held n 62 cs = some y) : ∃ v : V3, cs = [.int .i64 v.x, .int .i64 v.y, .int .i64 v.z] ∧ i64B v.y := by
  obtain ⟨hl, hf⟩ := fields_of Try.underlying62 (by kernel_rfl) (by kernel_rfl) h
  obtain ⟨v0, y0, n0, h0, t0⟩ := hf 0 _ rfl
  obtain ⟨v1, y1, n1, h1, t1⟩ := hf 1 _ rfl
  obtain ⟨v2, y2, n2, h2, t2⟩ := hf 2 _ rfl
  obtain ⟨x0, rfl, w0⟩ := int_of Try.underlying3 t0
  obtain ⟨x1, rfl, w1⟩ := int_of Try.underlying3 t1
  obtain ⟨x2, rfl, w2⟩ := int_of Try.underlying3 t2
  exact ⟨⟨x0, x1, x2⟩, list3c hl h0 h1 h2, bounds_i64 w1⟩
theorem vxs_of (n : Nat) (cs : List Value) (y : DataW H × List MemPlace) (h : DataW.trod enc Try.prog w base spare held n 63 cs = some y) : ∃ a b c : V3, cs = [.int .i64 a.x, .int .i64 a.y, .int .i64 a.z, .int .i64 b.x, .int .i64 b.y, .int .i64 b.z, .int .i64 c.x, .int .i64 c.y, .int .i64 c.z] ∧ i64B a.y ∧ i64B b.y ∧ i64B c.y := by
  obtain ⟨xs, m, _, _, hl, hx, hi⟩ := DataW.trod_array Try.underlying63 h
  have e1 : Try.prog.cellsOf 63 = 9 := by kernel_rfl
  have e2 : Try.prog.cellsOf 62 = 3 := by kernel_rfl
  rw [e1] at hl
  rw [e2] at hi
  obtain ⟨c0, c1, c2, c3, c4, c5, c6, c7, c8, rfl⟩ := list9c hl
  obtain ⟨z0, k0⟩ := someof_len (i := 0) hx (by decide)
  obtain ⟨z1, k1⟩ := someof_len (i := 1) hx (by decide)
  obtain ⟨z2, k2⟩ := someof_len (i := 2) hx (by decide)
  obtain ⟨a, ha, ba⟩ := vx_of _ _ _ ((hi 0 (by decide)).trans k0)
  obtain ⟨b, hb, bb⟩ := vx_of _ _ _ ((hi 1 (by decide)).trans k1)
  obtain ⟨c, hc, bc⟩ := vx_of _ _ _ ((hi 2 (by decide)).trans k2)
  refine ⟨a, b, c, ?_, ba, bb, bc⟩
  have ha' : [c0, c1, c2] = [.int .i64 a.x, .int .i64 a.y, .int .i64 a.z] := ha
  have hb' : [c3, c4, c5] = [.int .i64 b.x, .int .i64 b.y, .int .i64 b.z] := hb
  have hc' : [c6, c7, c8] = [.int .i64 c.x, .int .i64 c.y, .int .i64 c.z] := hc
  simp only [List.cons.injEq, and_true] at ha' hb' hc'
  obtain ⟨p0, p1, p2⟩ := ha'
  obtain ⟨p3, p4, p5⟩ := hb'
  obtain ⟨p6, p7, p8⟩ := hc'
  rw [p0, p1, p2, p3, p4, p5, p6, p7, p8]
theorem tr_of (n : Nat) (cs : List Value) (y : DataW H × List MemPlace) (h : DataW.trod enc Try.prog w base spare held n 65 cs = some y) : ∃ (i : Int) (a b c : V3), cs = [.int .i64 i, .int .i64 a.x, .int .i64 a.y, .int .i64 a.z, .int .i64 b.x, .int .i64 b.y, .int .i64 b.z, .int .i64 c.x, .int .i64 c.y, .int .i64 c.z] ∧ i64B a.y ∧ i64B b.y ∧ i64B c.y := by
  obtain ⟨xs, m, _, _, hl, hx, hf⟩ := DataW.trod_struct Try.underlying65 h
  have e0 : Try.prog.cellsOf 65 = 10 := by kernel_rfl
  have e1 : Try.prog.cellsOf 63 = 9 := by kernel_rfl
  have e2 : Try.prog.cellsOf 3 = 1 := by kernel_rfl
  rw [e0] at hl
  obtain ⟨c0, c1, c2, c3, c4, c5, c6, c7, c8, c9, rfl⟩ := list10c hl
  have hx2 : xs.length = 2 := hx
  obtain ⟨z0, k0⟩ := someof_len (i := 0) hx2 (by decide)
  obtain ⟨z1, k1⟩ := someof_len (i := 1) hx2 (by decide)
  have q0 := (hf 0 _ rfl).trans k0
  have q1 := (hf 1 _ rfl).trans k1
  replace q0 : DataW.trod enc Try.prog w base spare held m 3 (List.take (Try.prog.cellsOf 3) [c0, c1, c2, c3, c4, c5, c6, c7, c8, c9]) = some z0 := q0
  replace q1 : DataW.trod enc Try.prog w base spare held m 63 (List.take (Try.prog.cellsOf 63) [c1, c2, c3, c4, c5, c6, c7, c8, c9]) = some z1 := q1
  rw [e2] at q0
  rw [e1] at q1
  obtain ⟨x0, hx0, w0⟩ := int_of Try.underlying3 q0
  obtain ⟨a, b, c, hv, bs⟩ := vxs_of _ _ _ q1
  refine ⟨x0, a, b, c, ?_, bs⟩
  have hv' : [c1, c2, c3, c4, c5, c6, c7, c8, c9] = [.int .i64 a.x, .int .i64 a.y, .int .i64 a.z, .int .i64 b.x, .int .i64 b.y, .int .i64 b.z, .int .i64 c.x, .int .i64 c.y, .int .i64 c.z] := hv
  have hx' : c0 = .int .i64 x0 := hx0
  rw [hx', hv']
end
set_option maxRecDepth 100000 in
/-- A triangle argument. -/
theorem open_tri {H : Type} {enc : TypeId × Value → H} {W : World} {r : Reach} {b0 : Nat} {v : Value} {d : DataW H} {p : List MemPlace} {base : Nat} {spare : Nat → Bool} {held : Bool}
    (hv : Value.okWide Try.prog W r b0 65 v) (h : DataW.Trod enc Try.prog W base spare held 65 v d p) :
    ∃ (i : Int) (a b c : V3), v = tiA i a b c ∧ i64B a.y ∧ i64B b.y ∧ i64B c.y := by
  obtain ⟨cs, rfl, hsz⟩ := okWide_struct Try.underlying65 hv
  obtain ⟨fuel, hf⟩ := h
  obtain ⟨i, a, b, c, e, bs⟩ := tr_of _ _ _ hf
  refine ⟨i, a, b, c, ?_, bs⟩
  simp only [Value.cells] at e
  show Value.agg cs = Value.agg _
  congr 1
  exact Array.toList_inj.1 (by simpa using e)
end Go.Proofs.Ytndjljefppbmcaa
