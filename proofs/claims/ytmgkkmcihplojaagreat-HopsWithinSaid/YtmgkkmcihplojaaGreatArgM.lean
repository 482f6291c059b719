/- Arguments as they are read: a mesh, a filter. -/
import Derived.Test.YtmgkkmcihplojaaGreatLj
import Derived.Test.YtmgkkmcihplojaaGreatSmA
namespace Go.Proofs.YtmgkkmcihplojaaGreat
open Go.ChangeShapes Go.WideShapes Go.ChangeAt Go.RowKit Go.Deep

theorem list3e {l : List Value} {a b c : Value} (hl : l.length = 3) (h0 : l[0]? = some a) (h1 : l[1]? = some b) (h2 : l[2]? = some c) : l = [a, b, c] := by
  match l, hl with
  | [x0, x1, x2], _ => simp at h0 h1 h2; rw [h0, h1, h2]
section
variable {H : Type} {enc : TypeId × Value → H} {W : World}
theorem isl_of {t e : TypeId} {n : Nat} {u : Value} {y : DataW H × List MemPlace} (ht : Tryz.prog.underlying t = some (.slice e)) (hd : DataW.trod enc Tryz.prog W 0 (fun _ => true) true n t [u] = some y) : ∃ a n c, u = Value.slice a n c := by
  rcases open_slice ht hd with ⟨h1, _⟩ | ⟨ad, l, c, _, _, _, _, h1, _⟩
  · simp only [List.cons.injEq, and_true] at h1; exact ⟨_, _, _, h1⟩
  · simp only [List.cons.injEq, and_true] at h1; exact ⟨_, _, _, h1⟩
theorem rects_of {n : Nat} {u : Value} {y : DataW H × List MemPlace} (h : DataW.trod enc Tryz.prog W 0 (fun _ => true) true n 35 [u] = some y) : ∃ a k c xs, u = .slice a k c ∧ SlRc W a k c xs := by
  obtain ⟨a, k, c, rfl⟩ := isl_of Tryz.underlying35 h
  obtain ⟨xs, k0, k0'⟩ := open_slR (f := rcF7) (sz := 7) (G := fun x => RcSl W x.1 x.2) Tryz.underlying35 (by kernel_rfl) (by decide) (fun n cs y _ hd => rect_of n cs y hd) h
  exact ⟨a, k, c, xs, rfl, k0, k0'⟩
theorem doors_of {n : Nat} {u : Value} {y : DataW H × List MemPlace} (h : DataW.trod enc Tryz.prog W 0 (fun _ => true) true n 36 [u] = some y) : ∃ a k c ds, u = .slice a k c ∧ SlR drC 6 W a k c ds := by
  obtain ⟨a, k, c, rfl⟩ := isl_of Tryz.underlying36 h
  obtain ⟨ds, k1, _⟩ := open_slR (f := drC) (sz := 6) (G := fun _ => True) Tryz.underlying36 (by kernel_rfl) (by decide) (fun n cs y _ hd => by obtain ⟨t, ht⟩ := door_of n cs y hd; exact ⟨t, ht, trivial⟩) h
  exact ⟨a, k, c, ds, rfl, k1⟩
theorem tile_of (n : Nat) (cs : List Value) (y : DataW H × List MemPlace) (h : DataW.trod enc Tryz.prog W 0 (fun _ => true) true n 38 cs = some y) : ∃ t : Tl, tlC t = cs ∧ SlRc W t.ra t.rn t.rc t.rs ∧ SlR drC 6 W t.da t.dn t.dc t.ds := by
  obtain ⟨hl, hf⟩ := fields_of Tryz.underlying38 (by kernel_rfl) (by kernel_rfl) h
  obtain ⟨v0, y0, n0, h0, t0⟩ := hf 0 _ rfl
  obtain ⟨v1, y1, n1, h1, t1⟩ := hf 1 _ rfl
  obtain ⟨v2, y2, n2, h2, t2⟩ := hf 2 _ rfl
  obtain ⟨v3, y3, n3, h3, t3⟩ := hf 3 _ rfl
  obtain ⟨x0, rfl, w0⟩ := int_of Tryz.underlying3 t0
  obtain ⟨x1, rfl, w1⟩ := int_of Tryz.underlying3 t1
  obtain ⟨a, k, c, xs, rfl, hx⟩ := rects_of t2
  obtain ⟨b, m, d, ds, rfl, hd⟩ := doors_of t3
  exact ⟨⟨x0, x1, a, k, c, xs, b, m, d, ds⟩, (list4L hl h0 h1 h2 h3).symm, hx, hd⟩
theorem spot_of (n : Nat) (cs : List Value) (y : DataW H × List MemPlace) (h : DataW.trod enc Tryz.prog W 0 (fun _ => true) true n 26 cs = some y) : ∃ x z y : Int, cs = [.int .i64 x, .int .i64 z, .int .i64 y] := by
  obtain ⟨hl, hf⟩ := fields_of Tryz.underlying26 (by kernel_rfl) (by kernel_rfl) h
  obtain ⟨v0, y0, n0, h0, t0⟩ := hf 0 _ rfl
  obtain ⟨v1, y1, n1, h1, t1⟩ := hf 1 _ rfl
  obtain ⟨v2, y2, n2, h2, t2⟩ := hf 2 _ rfl
  obtain ⟨x0, rfl, w0⟩ := int_of Tryz.underlying3 t0
  obtain ⟨x1, rfl, w1⟩ := int_of Tryz.underlying3 t1
  obtain ⟨x2, rfl, w2⟩ := int_of Tryz.underlying3 t2
  exact ⟨x0, x1, x2, list3e hl h0 h1 h2⟩
end
end Go.Proofs.YtmgkkmcihplojaaGreat
