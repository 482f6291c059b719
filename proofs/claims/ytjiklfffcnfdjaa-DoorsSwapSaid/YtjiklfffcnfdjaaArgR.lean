/- Arguments as they are read: a rectangle. -/
import Derived.Test.YtjiklfffcnfdjaaArg0
import Derived.Test.YtjiklfffcnfdjaaRctA
namespace Go.Proofs.Ytjiklfffcnfdjaa
open Go.ChangeShapes Go.WideShapes Go.ChangeAt Go.RowKit Go.Deep

section
variable {H : Type} {enc : TypeId × Value → H} {W : World}
/-- A slice of integers, as a cell of a struct. -/
theorem slI_of {fuel : Nat} {u : Value} {x : DataW H × List MemPlace} (h : DataW.trod enc Try.prog W 0 (fun _ => true) true fuel 24 [u] = some x) :
    ∃ a c xs, u = .slice a xs.length c ∧ SlI .i64 W a xs.length c xs := by
  obtain ⟨a, n, c, rfl⟩ : ∃ a n c, u = Value.slice a n c := by
    rcases open_slice Try.underlying24 h with ⟨h1, _⟩ | ⟨ad, l, c, _, _, _, _, h1, _⟩
    · simp only [List.cons.injEq, and_true] at h1; exact ⟨_, _, _, h1⟩
    · simp only [List.cons.injEq, and_true] at h1; exact ⟨_, _, _, h1⟩
  obtain ⟨xs, h1, _⟩ := open_slR (f := fun x : Int => [Value.int .i64 x]) (sz := 1) (G := fun _ => True) Try.underlying24 (by kernel_rfl) (by decide) (fun m cs y hl hd => by
    obtain ⟨v, rfl⟩ := List.length_eq_one_iff.1 hl
    obtain ⟨x, rfl, _⟩ := int_of Try.underlying3 hd
    exact ⟨x, rfl, trivial⟩) h
  obtain rfl := h1.len
  refine ⟨a, c, xs, rfl, ⟨rfl, h1.le, h1.max, ?_⟩⟩
  rcases h1.cell with h0 | ⟨b, off, ha, _, hc⟩
  · exact .inl h0
  · refine .inr ⟨b, off, ha, fun i hi => ?_⟩
    have := hc i (xs[i]) (List.getElem?_eq_getElem hi) 0 _ rfl
    simpa [List.getD_eq_getElem?_getD, List.getElem?_eq_getElem hi] using this

set_option maxRecDepth 100000 in
/-- A rectangle argument. -/
theorem open_rect {r : Reach} {b0 : Nat} {v : Value} {d : DataW H} {p : List MemPlace}
    (hv : Value.okWide Try.prog W r b0 26 v) (h : DataW.Trod enc Try.prog W 0 (fun _ => true) true 26 v d p) :
    ∃ (q : RHd) (s : Rc), v = rcV q s ∧ RcSl W q s := by
  obtain ⟨cs, rfl, hsz⟩ := okWide_struct Try.underlying26 hv
  obtain ⟨fuel, hf⟩ := h
  obtain ⟨hl, hf⟩ := fields_of Try.underlying26 (by kernel_rfl) (by kernel_rfl) hf
  obtain ⟨v0, y0, n0, h0, t0⟩ := hf 0 _ rfl
  obtain ⟨v1, y1, n1, h1, t1⟩ := hf 1 _ rfl
  obtain ⟨v2, y2, n2, h2, t2⟩ := hf 2 _ rfl
  obtain ⟨v3, y3, n3, h3, t3⟩ := hf 3 _ rfl
  obtain ⟨v4, y4, n4, h4, t4⟩ := hf 4 _ rfl
  obtain ⟨v5, y5, n5, h5, t5⟩ := hf 5 _ rfl
  obtain ⟨v6, y6, n6, h6, t6⟩ := hf 6 _ rfl
  obtain ⟨x0, rfl, w0⟩ := int_of Try.underlying3 t0
  obtain ⟨x1, rfl, w1⟩ := int_of Try.underlying3 t1
  obtain ⟨x2, rfl, w2⟩ := int_of Try.underlying3 t2
  obtain ⟨x3, rfl, w3⟩ := int_of Try.underlying3 t3
  obtain ⟨x4, rfl, w4⟩ := int_of Try.underlying3 t4
  obtain ⟨ya, yc, ys, rfl, hy⟩ := slI_of t5
  obtain ⟨ta, tc, ts, rfl, ht⟩ := slI_of t6
  refine ⟨⟨ya, yc, ta, tc⟩, ⟨x0, x1, x2, x3, x4, ys, ts⟩, ?_, hy, ht⟩
  have e := list7 hl h0 h1 h2 h3 h4 h5 h6
  simp only [Value.cells] at e
  show Value.agg cs = Value.agg _
  congr 1
  exact Array.toList_inj.1 (by simpa using e)
end
end Go.Proofs.Ytjiklfffcnfdjaa
