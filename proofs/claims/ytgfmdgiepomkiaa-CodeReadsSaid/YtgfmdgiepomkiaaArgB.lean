/- Arguments as they are read: bytes. -/
import Derived.Test.YtgfmdgiepomkiaaKj
import Derived.Test.YtgfmdgiepomkiaaGa
namespace Go.Proofs.Ytgfmdgiepomkiaa
open Go.ChangeShapes Go.WideShapes Go.ChangeAt Go.RowKit Go.Deep

theorem wf_u8b {x : Int} (h : (Lit.int .u8 x).wf = true) : 0 ≤ x ∧ x ≤ 255 := bounds_u8 h
set_option maxRecDepth 100000 in
/-- An argument that is a slice of bytes. -/
theorem open_bytes {H : Type} {enc : TypeId × Value → H} {W : World} {v : Value} {d : DataW H} {p : List MemPlace} {r : Reach} {b0 : Nat}
    (hv : Value.okWide Try.prog W r b0 30 v) (h : DataW.Trod enc Try.prog W 0 (fun _ => true) true 30 v d p) :
    ∃ a n c xs, v = .slice a n c ∧ SlI .u8 W a n c xs ∧ (∀ x ∈ xs, 0 ≤ x ∧ x ≤ 255) ∧ (n = 0 ∨ ∀ ad, a = some ad → ad.block < W.heap.size) := by
  obtain ⟨a, n, c, rfl⟩ := okWide_slice Try.underlying30 hv
  obtain ⟨fuel, hf⟩ := h
  obtain ⟨xs, h1, h2⟩ := open_slR (f := fun x : Int => [Value.int .u8 x]) (sz := 1) (G := fun x => 0 ≤ x ∧ x ≤ 255) Try.underlying30 (by kernel_rfl) (by decide) (fun m cs y hl hd => by
    obtain ⟨x, hx, _, hw⟩ := DataW.trod_int Try.underlying5 hd
    exact ⟨x, hx.symm, wf_u8b hw⟩) (by simpa [Value.cells] using hf)
  refine ⟨a, n, c, xs, rfl, ⟨h1.len, h1.le, h1.max, ?_⟩, h2, ?_⟩
  · rcases h1.cell with h0 | ⟨b, off, ha, _, hc⟩
    · exact .inl h0
    · refine .inr ⟨b, off, ha, fun i hi => ?_⟩
      have hi' : i < xs.length := by rw [h1.len]; exact hi
      have := hc i (xs[i]) (List.getElem?_eq_getElem hi') 0 _ rfl
      simpa [List.getD_eq_getElem?_getD, List.getElem?_eq_getElem hi'] using this
  · rcases h1.cell with h0 | ⟨b, off, ha, hb, _⟩
    · exact .inl h0
    · refine .inr (fun ad had => ?_)
      rw [ha] at had
      cases had
      exact hb

end Go.Proofs.Ytgfmdgiepomkiaa
