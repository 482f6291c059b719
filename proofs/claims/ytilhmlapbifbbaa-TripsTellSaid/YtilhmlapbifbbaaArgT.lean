/- Arguments as they are read: tables of integers. -/
import Derived.Test.YtilhmlapbifbbaaArg
import Derived.Test.YtilhmlapbifbbaaTab
namespace Go.Proofs.Ytilhmlapbifbbaa
open Go.ChangeShapes Go.WideShapes Go.ChangeAt Go.RowKit Go.Deep

theorem SlI.of_slR {k : IntKind} {w : World} {a : Option Addr} {n c : Nat} {xs : List Int} (h : SlR (fun x : Int => [Value.int k x]) 1 w a n c xs) : SlI k w a n c xs := by
  refine ⟨h.len, h.le, h.max, ?_⟩
  rcases h.cell with h0 | ⟨b, off, ha, _, hc⟩
  · exact .inl h0
  · refine .inr ⟨b, off, ha, fun i hi => ?_⟩
    have hi' : i < xs.length := by rw [h.len]; exact hi
    have hx : xs[i]? = some xs[i] := List.getElem?_eq_getElem hi'
    have h1 := hc i _ hx 0 _ rfl
    rw [Nat.mul_one, Nat.add_zero] at h1
    rw [h1, List.getD_eq_getElem?_getD, hx]
    rfl

set_option maxRecDepth 100000 in
/-- An argument that is a table of integers. -/
theorem open_tab {H : Type} {enc : TypeId × Value → H} {W : World} {v : Value} {d : DataW H} {p : List MemPlace} {r : Reach} {b0 : Nat}
    (hv : Value.okWide Try.prog W r b0 52 v) (h : DataW.Trod enc Try.prog W 0 (fun _ => true) true 52 v d p) :
    ∃ a n c rs, v = .slice a n c ∧ SlT W a n c rs := by
  obtain ⟨a, n, c, rfl⟩ := okWide_slice Try.underlying52 hv
  obtain ⟨fuel, hf⟩ := h
  obtain ⟨xs, h1, h2⟩ := open_slR (f := trC) (sz := 1) (G := fun s => SlI .i64 W s.a s.n s.c s.xs) Try.underlying52 (by kernel_rfl) (by decide) (fun m cs y hl hd => by
    obtain ⟨a', l', c', e⟩ : ∃ a' l' c', cs = [Value.slice a' l' c'] := by
      rcases open_slice Try.underlying36 hd with ⟨h1, _⟩ | ⟨ad, l, c, _, _, _, _, h1, _⟩
      · exact ⟨_, _, _, h1⟩
      · exact ⟨_, _, _, h1⟩
    subst e
    obtain ⟨ys, k1, _⟩ := open_slR (f := fun x : Int => [Value.int .i64 x]) (sz := 1) (G := fun _ => True) Try.underlying36 (by kernel_rfl) (by decide) (fun m cs y hl hd => by
      obtain ⟨v, rfl⟩ := List.length_eq_one_iff.1 hl
      obtain ⟨x, rfl, _⟩ := int_of Try.underlying3 hd
      exact ⟨x, rfl, trivial⟩) hd
    exact ⟨⟨a', l', c', ys⟩, rfl, SlI.of_slR k1⟩) (by simpa [Value.cells] using hf)
  exact ⟨a, n, c, xs, rfl, h1, h2⟩

end Go.Proofs.Ytilhmlapbifbbaa
