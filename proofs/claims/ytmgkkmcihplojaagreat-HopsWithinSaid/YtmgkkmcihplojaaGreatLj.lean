/- Arguments as they are read: a tile. -/
import Derived.Test.YtmgkkmcihplojaaGreatKj
import Derived.Test.YtmgkkmcihplojaaGreatKe
import Derived.Test.YtmgkkmcihplojaaGreatKg
namespace Go.Proofs.YtmgkkmcihplojaaGreat
open Go.ChangeShapes Go.WideShapes Go.ChangeAt Go.RowKit Go.Deep

theorem list6L {l : List Value} {a b c d e f : Value} (hl : l.length = 6) (h0 : l[0]? = some a) (h1 : l[1]? = some b) (h2 : l[2]? = some c) (h3 : l[3]? = some d) (h4 : l[4]? = some e) (h5 : l[5]? = some f) : l = [a, b, c, d, e, f] := by
  match l, hl with
  | [x0, x1, x2, x3, x4, x5], _ => simp at h0 h1 h2 h3 h4 h5; rw [h0, h1, h2, h3, h4, h5]
theorem list4L {l : List Value} {a b c d : Value} (hl : l.length = 4) (h0 : l[0]? = some a) (h1 : l[1]? = some b) (h2 : l[2]? = some c) (h3 : l[3]? = some d) : l = [a, b, c, d] := by
  match l, hl with
  | [x0, x1, x2, x3], _ => simp at h0 h1 h2 h3; rw [h0, h1, h2, h3]
section
variable {H : Type} {enc : TypeId × Value → H} {W : World}
theorem rect_of (n : Nat) (cs : List Value) (y : DataW H × List MemPlace) (h : DataW.trod enc Tryz.prog W 0 (fun _ => true) true n 55 cs = some y) : ∃ x : RHd × Rc, rcF7 x = cs ∧ RcSl W x.1 x.2 := by
  obtain ⟨hl, hf⟩ := fields_of Tryz.underlying55 (by kernel_rfl) (by kernel_rfl) h
  obtain ⟨v0, y0, n0, h0, t0⟩ := hf 0 _ rfl
  obtain ⟨v1, y1, n1, h1, t1⟩ := hf 1 _ rfl
  obtain ⟨v2, y2, n2, h2, t2⟩ := hf 2 _ rfl
  obtain ⟨v3, y3, n3, h3, t3⟩ := hf 3 _ rfl
  obtain ⟨v4, y4, n4, h4, t4⟩ := hf 4 _ rfl
  obtain ⟨v5, y5, n5, h5, t5⟩ := hf 5 _ rfl
  obtain ⟨v6, y6, n6, h6, t6⟩ := hf 6 _ rfl
  obtain ⟨x0, rfl, w0⟩ := int_of Tryz.underlying3 t0
  obtain ⟨x1, rfl, w1⟩ := int_of Tryz.underlying3 t1
  obtain ⟨x2, rfl, w2⟩ := int_of Tryz.underlying3 t2
  obtain ⟨x3, rfl, w3⟩ := int_of Tryz.underlying3 t3
  obtain ⟨x4, rfl, w4⟩ := int_of Tryz.underlying3 t4
  obtain ⟨ya, yc, ys, rfl, hy⟩ := slI_of t5
  obtain ⟨ta, tc, ts, rfl, ht⟩ := slI_of t6
  exact ⟨(⟨ya, yc, ta, tc⟩, ⟨x0, x1, x2, x3, x4, ys, ts⟩), (list7 hl h0 h1 h2 h3 h4 h5 h6).symm, hy, ht⟩
theorem door_of (n : Nat) (cs : List Value) (y : DataW H × List MemPlace) (h : DataW.trod enc Tryz.prog W 0 (fun _ => true) true n 110 cs = some y) : ∃ d : Dr, drC d = cs := by
  obtain ⟨hl, hf⟩ := fields_of Tryz.underlying110 (by kernel_rfl) (by kernel_rfl) h
  obtain ⟨v0, y0, n0, h0, t0⟩ := hf 0 _ rfl
  obtain ⟨v1, y1, n1, h1, t1⟩ := hf 1 _ rfl
  obtain ⟨v2, y2, n2, h2, t2⟩ := hf 2 _ rfl
  obtain ⟨v3, y3, n3, h3, t3⟩ := hf 3 _ rfl
  obtain ⟨v4, y4, n4, h4, t4⟩ := hf 4 _ rfl
  obtain ⟨v5, y5, n5, h5, t5⟩ := hf 5 _ rfl
  obtain ⟨x0, rfl, w0⟩ := int_of Tryz.underlying3 t0
  obtain ⟨x1, rfl, w1⟩ := int_of Tryz.underlying3 t1
  obtain ⟨x2, rfl, w2⟩ := int_of Tryz.underlying3 t2
  obtain ⟨x3, rfl, w3⟩ := int_of Tryz.underlying3 t3
  obtain ⟨x4, rfl, w4⟩ := int_of Tryz.underlying3 t4
  obtain ⟨x5, rfl, w5⟩ := int_of Tryz.underlying3 t5
  exact ⟨⟨x0, x1, x2, x3, x4, x5⟩, (list6L hl h0 h1 h2 h3 h4 h5).symm⟩

end
end Go.Proofs.YtmgkkmcihplojaaGreat
