/- Arguments as they are read: rows of integers. -/
import Derived.Test.YtndjljefppbmcaaArg
import Derived.Test.YtndjljefppbmcaaMem
namespace Go.Proofs.Ytndjljefppbmcaa
open Go.ChangeShapes Go.WideShapes Go.ChangeAt Go.RowKit Go.Deep

set_option maxRecDepth 100000 in
/-- An argument that is a slice of integers. -/
theorem open_ints {H : Type} {enc : TypeId × Value → H} {W : World} {v : Value} {d : DataW H} {p : List MemPlace} {r : Reach} {b0 : Nat}
    (hv : Value.okWide Try.prog W r b0 32 v) (h : DataW.Trod enc Try.prog W 0 (fun _ => true) true 32 v d p) :
    ∃ a n c xs, v = .slice a n c ∧ SlI .i64 W a n c xs := by
  obtain ⟨a, n, c, rfl⟩ := okWide_slice Try.underlying32 hv
  obtain ⟨fuel, hf⟩ := h
  obtain ⟨xs, h1, _⟩ := open_slR (f := fun x : Int => [Value.int .i64 x]) (sz := 1) (G := fun _ => True) Try.underlying32 (by kernel_rfl) (by decide) (fun m cs y hl hd => by
    obtain ⟨v, rfl⟩ := List.length_eq_one_iff.1 hl
    obtain ⟨x, rfl, _⟩ := int_of Try.underlying3 hd
    exact ⟨x, rfl, trivial⟩) (by simpa [Value.cells] using hf)
  refine ⟨a, n, c, xs, rfl, ⟨h1.len, h1.le, h1.max, ?_⟩⟩
  rcases h1.cell with h0 | ⟨b, off, ha, _, hc⟩
  · exact .inl h0
  · refine .inr ⟨b, off, ha, fun i hi => ?_⟩
    have hi' : i < xs.length := by rw [h1.len]; exact hi
    have := hc i (xs[i]) (List.getElem?_eq_getElem hi') 0 _ rfl
    simpa [List.getD_eq_getElem?_getD, List.getElem?_eq_getElem hi'] using this

end Go.Proofs.Ytndjljefppbmcaa
