/- Arguments as they are read: rows of tiles, a spot. -/
import Derived.Test.YtmgkkmcihplojaaGreatArgM
namespace Go.Proofs.YtmgkkmcihplojaaGreat
open Go.ChangeShapes Go.WideShapes Go.ChangeAt Go.RowKit Go.Deep

section
variable {H : Type} {enc : TypeId × Value → H} {W : World}
set_option maxRecDepth 100000 in
/-- An argument: rows of tiles. -/
theorem open_tls {r : Reach} {b0 : Nat} {v : Value} {d : DataW H} {p : List MemPlace}
    (hv : Value.okWide Tryz.prog W r b0 24 v) (h : DataW.Trod enc Tryz.prog W 0 (fun _ => true) true 24 v d p) :
    ∃ a n c ts, v = .slice a n c ∧ SlTl W a n c ts := by
  obtain ⟨a, n, c, rfl⟩ := okWide_slice Tryz.underlying24 hv
  obtain ⟨fuel, hf⟩ := h
  obtain ⟨ts, j0, j0'⟩ := open_slR (f := tlC) (sz := 4) (G := fun t => SlRc W t.ra t.rn t.rc t.rs ∧ SlR drC 6 W t.da t.dn t.dc t.ds) Tryz.underlying24 (by kernel_rfl) (by decide) (fun n cs y _ hd => tile_of n cs y hd) (by simpa [Value.cells] using hf)
  exact ⟨a, n, c, ts, rfl, ⟨j0, j0'⟩⟩
set_option maxRecDepth 100000 in
/-- A spot argument. -/
theorem open_spot {r : Reach} {b0 : Nat} {v : Value} {d : DataW H} {p : List MemPlace}
    (hv : Value.okWide Tryz.prog W r b0 26 v) (h : DataW.Trod enc Tryz.prog W 0 (fun _ => true) true 26 v d p) :
    ∃ x z y : Int, v = .agg #[.int .i64 x, .int .i64 z, .int .i64 y] := by
  obtain ⟨cs, rfl, hsz⟩ := okWide_struct Tryz.underlying26 hv
  obtain ⟨fuel, hf⟩ := h
  obtain ⟨x, z, y, e⟩ := spot_of _ _ _ hf
  refine ⟨x, z, y, ?_⟩
  simp only [Value.cells] at e
  show Value.agg cs = Value.agg _
  congr 1
  exact Array.toList_inj.1 (by simpa using e)
end
end Go.Proofs.YtmgkkmcihplojaaGreat
