/- Arguments as they are read: a mesh, a filter. -/
import Derived.Test.YtgfmdgiepomkiaaLj
import Derived.Test.YtgfmdgiepomkiaaSmA
namespace Go.Proofs.Ytgfmdgiepomkiaa
open Go.ChangeShapes Go.WideShapes Go.ChangeAt Go.RowKit Go.Deep

theorem list14 {l : List Value} (hl : l.length = 14) : ∃ a b c d e f g h i j k m n o, l = [a, b, c, d, e, f, g, h, i, j, k, m, n, o] := by
  match l, hl with
  | [a, b, c, d, e, f, g, h, i, j, k, m, n, o], _ => exact ⟨a, b, c, d, e, f, g, h, i, j, k, m, n, o, rfl⟩
theorem list11 {l : List Value} (hl : l.length = 11) : ∃ a b c d e f g h i j k, l = [a, b, c, d, e, f, g, h, i, j, k] := by
  match l, hl with
  | [a, b, c, d, e, f, g, h, i, j, k], _ => exact ⟨a, b, c, d, e, f, g, h, i, j, k, rfl⟩
theorem list9 {l : List Value} (hl : l.length = 9) : ∃ a b c d e f g h i, l = [a, b, c, d, e, f, g, h, i] := by
  match l, hl with
  | [a, b, c, d, e, f, g, h, i], _ => exact ⟨a, b, c, d, e, f, g, h, i, rfl⟩
theorem list5e {l : List Value} (hl : l.length = 5) : ∃ a b c d e, l = [a, b, c, d, e] := by
  match l, hl with
  | [a, b, c, d, e], _ => exact ⟨a, b, c, d, e, rfl⟩
theorem list3e {l : List Value} {a b c : Value} (hl : l.length = 3) (h0 : l[0]? = some a) (h1 : l[1]? = some b) (h2 : l[2]? = some c) : l = [a, b, c] := by
  match l, hl with
  | [x0, x1, x2], _ => simp at h0 h1 h2; rw [h0, h1, h2]
theorem some_of_len {α : Type} {xs : List α} {n i : Nat} (h : xs.length = n) (hi : i < n) : ∃ x, xs[i]? = some x := ⟨_, List.getElem?_eq_getElem (by omega)⟩
section
variable {H : Type} {enc : TypeId × Value → H} {W : World}
theorem isl_of {t e : TypeId} {n : Nat} {u : Value} {y : DataW H × List MemPlace} (ht : Try.prog.underlying t = some (.slice e)) (hd : DataW.trod enc Try.prog W 0 (fun _ => true) true n t [u] = some y) : ∃ a n c, u = Value.slice a n c := by
  rcases open_slice ht hd with ⟨h1, _⟩ | ⟨ad, l, c, _, _, _, _, h1, _⟩
  · simp only [List.cons.injEq, and_true] at h1; exact ⟨_, _, _, h1⟩
  · simp only [List.cons.injEq, and_true] at h1; exact ⟨_, _, _, h1⟩
theorem rects_of {n : Nat} {u : Value} {y : DataW H × List MemPlace} (h : DataW.trod enc Try.prog W 0 (fun _ => true) true n 24 [u] = some y) : ∃ a k c xs, u = .slice a k c ∧ SlRc W a k c xs := by
  obtain ⟨a, k, c, rfl⟩ := isl_of Try.underlying24 h
  obtain ⟨xs, k0, k0'⟩ := open_slR (f := rcF7) (sz := 7) (G := fun x => RcSl W x.1 x.2) Try.underlying24 (by kernel_rfl) (by decide) (fun n cs y _ hd => rect_of n cs y hd) h
  exact ⟨a, k, c, xs, rfl, k0, k0'⟩
theorem doors_of {n : Nat} {u : Value} {y : DataW H × List MemPlace} (h : DataW.trod enc Try.prog W 0 (fun _ => true) true n 25 [u] = some y) : ∃ a k c ds, u = .slice a k c ∧ SlR drC 6 W a k c ds := by
  obtain ⟨a, k, c, rfl⟩ := isl_of Try.underlying25 h
  obtain ⟨ds, k1, _⟩ := open_slR (f := drC) (sz := 6) (G := fun _ => True) Try.underlying25 (by kernel_rfl) (by decide) (fun n cs y _ hd => by obtain ⟨t, ht⟩ := door_of n cs y hd; exact ⟨t, ht, trivial⟩) h
  exact ⟨a, k, c, ds, rfl, k1⟩
theorem tile_of (n : Nat) (cs : List Value) (y : DataW H × List MemPlace) (h : DataW.trod enc Try.prog W 0 (fun _ => true) true n 27 cs = some y) : ∃ t : Tl, tlC t = cs ∧ SlRc W t.ra t.rn t.rc t.rs ∧ SlR drC 6 W t.da t.dn t.dc t.ds := by
  obtain ⟨hl, hf⟩ := fields_of Try.underlying27 (by kernel_rfl) (by kernel_rfl) h
  obtain ⟨v0, y0, n0, h0, t0⟩ := hf 0 _ rfl
  obtain ⟨v1, y1, n1, h1, t1⟩ := hf 1 _ rfl
  obtain ⟨v2, y2, n2, h2, t2⟩ := hf 2 _ rfl
  obtain ⟨v3, y3, n3, h3, t3⟩ := hf 3 _ rfl
  obtain ⟨x0, rfl, w0⟩ := int_of Try.underlying3 t0
  obtain ⟨x1, rfl, w1⟩ := int_of Try.underlying3 t1
  obtain ⟨a, k, c, xs, rfl, hx⟩ := rects_of t2
  obtain ⟨b, m, d, ds, rfl, hd⟩ := doors_of t3
  exact ⟨⟨x0, x1, a, k, c, xs, b, m, d, ds⟩, (list4L hl h0 h1 h2 h3).symm, hx, hd⟩
theorem spot_of (n : Nat) (cs : List Value) (y : DataW H × List MemPlace) (h : DataW.trod enc Try.prog W 0 (fun _ => true) true n 119 cs = some y) : ∃ x z y : Int, cs = [.int .i64 x, .int .i64 z, .int .i64 y] := by
  obtain ⟨hl, hf⟩ := fields_of Try.underlying119 (by kernel_rfl) (by kernel_rfl) h
  obtain ⟨v0, y0, n0, h0, t0⟩ := hf 0 _ rfl
  obtain ⟨v1, y1, n1, h1, t1⟩ := hf 1 _ rfl
  obtain ⟨v2, y2, n2, h2, t2⟩ := hf 2 _ rfl
  obtain ⟨x0, rfl, w0⟩ := int_of Try.underlying3 t0
  obtain ⟨x1, rfl, w1⟩ := int_of Try.underlying3 t1
  obtain ⟨x2, rfl, w2⟩ := int_of Try.underlying3 t2
  exact ⟨x0, x1, x2, list3e hl h0 h1 h2⟩
theorem end_of (n : Nat) (cs : List Value) (y : DataW H × List MemPlace) (h : DataW.trod enc Try.prog W 0 (fun _ => true) true n 121 cs = some y) : ∃ e : En, enL e = cs := by
  obtain ⟨xs, m, _, _, hl, hx, hf⟩ := DataW.trod_struct Try.underlying121 h
  have e0 : Try.prog.cellsOf 121 = 5 := by kernel_rfl
  have e1 : Try.prog.cellsOf 119 = 3 := by kernel_rfl
  have e2 : Try.prog.cellsOf 3 = 1 := by kernel_rfl
  rw [e0] at hl
  obtain ⟨c0, c1, c2, c3, c4, rfl⟩ := list5e hl
  have hx2 : xs.length = 3 := hx
  obtain ⟨z0, k0⟩ := some_of_len (i := 0) hx2 (by decide)
  obtain ⟨z1, k1⟩ := some_of_len (i := 1) hx2 (by decide)
  obtain ⟨z2, k2⟩ := some_of_len (i := 2) hx2 (by decide)
  have q0 := (hf 0 _ rfl).trans k0
  have q1 := (hf 1 _ rfl).trans k1
  have q2 := (hf 2 _ rfl).trans k2
  replace q0 : DataW.trod enc Try.prog W 0 (fun _ => true) true m 3 (List.take (Try.prog.cellsOf 3) [c0, c1, c2, c3, c4]) = some z0 := q0
  replace q1 : DataW.trod enc Try.prog W 0 (fun _ => true) true m 3 (List.take (Try.prog.cellsOf 3) [c1, c2, c3, c4]) = some z1 := q1
  replace q2 : DataW.trod enc Try.prog W 0 (fun _ => true) true m 119 (List.take (Try.prog.cellsOf 119) [c2, c3, c4]) = some z2 := q2
  rw [e2] at q0 q1
  rw [e1] at q2
  obtain ⟨x0, hx0, w0⟩ := int_of Try.underlying3 q0
  obtain ⟨x1, hx1, w1⟩ := int_of Try.underlying3 q1
  obtain ⟨x, z, y, hs⟩ := spot_of _ _ _ q2
  refine ⟨⟨x0, x1, x, z, y⟩, ?_⟩
  have r0 : c0 = .int .i64 x0 := hx0
  have r1 : c1 = .int .i64 x1 := hx1
  have r2 : [c2, c3, c4] = [.int .i64 x, .int .i64 z, .int .i64 y] := hs
  rw [r0, r1, r2]
  rfl
theorem act_of (n : Nat) (cs : List Value) (y : DataW H × List MemPlace) (h : DataW.trod enc Try.prog W 0 (fun _ => true) true n 123 cs = some y) : ∃ t : Ac, acC t = cs := by
  obtain ⟨xs, m, _, _, hl, hx, hf⟩ := DataW.trod_struct Try.underlying123 h
  have e0 : Try.prog.cellsOf 123 = 14 := by kernel_rfl
  have e1 : Try.prog.cellsOf 121 = 5 := by kernel_rfl
  have e2 : Try.prog.cellsOf 3 = 1 := by kernel_rfl
  have e3 : Try.prog.cellsOf 4 = 1 := by kernel_rfl
  rw [e0] at hl
  obtain ⟨c0, c1, c2, c3, c4, c5, c6, c7, c8, c9, d0, d1, d2, d3, rfl⟩ := list14 hl
  have hx2 : xs.length = 6 := hx
  obtain ⟨z0, k0⟩ := some_of_len (i := 0) hx2 (by decide)
  obtain ⟨z1, k1⟩ := some_of_len (i := 1) hx2 (by decide)
  obtain ⟨z2, k2⟩ := some_of_len (i := 2) hx2 (by decide)
  obtain ⟨z3, k3⟩ := some_of_len (i := 3) hx2 (by decide)
  obtain ⟨z4, k4⟩ := some_of_len (i := 4) hx2 (by decide)
  obtain ⟨z5, k5⟩ := some_of_len (i := 5) hx2 (by decide)
  have q0 := (hf 0 _ rfl).trans k0
  have q1 := (hf 1 _ rfl).trans k1
  have q2 := (hf 2 _ rfl).trans k2
  have q3 := (hf 3 _ rfl).trans k3
  have q4 := (hf 4 _ rfl).trans k4
  have q5 := (hf 5 _ rfl).trans k5
  replace q0 : DataW.trod enc Try.prog W 0 (fun _ => true) true m 3 (List.take (Try.prog.cellsOf 3) [c0, c1, c2, c3, c4, c5, c6, c7, c8, c9, d0, d1, d2, d3]) = some z0 := q0
  replace q1 : DataW.trod enc Try.prog W 0 (fun _ => true) true m 121 (List.take (Try.prog.cellsOf 121) [c1, c2, c3, c4, c5, c6, c7, c8, c9, d0, d1, d2, d3]) = some z1 := q1
  replace q2 : DataW.trod enc Try.prog W 0 (fun _ => true) true m 121 (List.take (Try.prog.cellsOf 121) [c6, c7, c8, c9, d0, d1, d2, d3]) = some z2 := q2
  replace q3 : DataW.trod enc Try.prog W 0 (fun _ => true) true m 4 (List.take (Try.prog.cellsOf 4) [d1, d2, d3]) = some z3 := q3
  replace q4 : DataW.trod enc Try.prog W 0 (fun _ => true) true m 3 (List.take (Try.prog.cellsOf 3) [d2, d3]) = some z4 := q4
  replace q5 : DataW.trod enc Try.prog W 0 (fun _ => true) true m 3 (List.take (Try.prog.cellsOf 3) [d3]) = some z5 := q5
  rw [e2] at q0 q4 q5
  rw [e1] at q1 q2
  rw [e3] at q3
  obtain ⟨x0, hx0, w0⟩ := int_of Try.underlying3 q0
  obtain ⟨a, ha⟩ := end_of _ _ _ q1
  obtain ⟨b, hb⟩ := end_of _ _ _ q2
  obtain ⟨x3, hx3⟩ := bool_of Try.underlying4 q3
  obtain ⟨x4, hx4, w4⟩ := int_of Try.underlying3 q4
  obtain ⟨x5, hx5, w5⟩ := int_of Try.underlying3 q5
  refine ⟨⟨x0, a, b, x3, x4, x5⟩, ?_⟩
  have r0 : c0 = .int .i64 x0 := hx0
  have r1 : enL a = [c1, c2, c3, c4, c5] := ha
  have r2 : enL b = [c6, c7, c8, c9, d0] := hb
  have r3 : d1 = .bool x3 := hx3
  have r4 : d2 = .int .i64 x4 := hx4
  have r5 : d3 = .int .i64 x5 := hx5
  show Value.int .i64 x0 :: (enL a ++ (enL b ++ [.bool x3, .int .i64 x4, .int .i64 x5])) = _
  rw [r0, r1, r2, r3, r4, r5]
  rfl

set_option maxRecDepth 100000 in
/-- A mesh argument. -/
theorem open_mesh {r : Reach} {b0 : Nat} {v : Value} {d : DataW H} {p : List MemPlace}
    (hv : Value.okWide Try.prog W r b0 43 v) (h : DataW.Trod enc Try.prog W 0 (fun _ => true) true 43 v d p) :
    ∃ m : Msh, v = mshV m ∧ MshAt W m := by
  obtain ⟨cs, rfl, hsz⟩ := okWide_struct Try.underlying43 hv
  obtain ⟨fuel, h⟩ := h
  obtain ⟨xs, m, _, _, hl, hx, hf⟩ := DataW.trod_struct Try.underlying43 h
  have e0 : Try.prog.cellsOf 43 = 11 := by kernel_rfl
  have e1 : Try.prog.cellsOf 23 = 7 := by kernel_rfl
  have e2 : Try.prog.cellsOf 40 = 1 := by kernel_rfl
  have e3 : Try.prog.cellsOf 24 = 1 := by kernel_rfl
  have e4 : Try.prog.cellsOf 25 = 1 := by kernel_rfl
  have e5 : Try.prog.cellsOf 41 = 1 := by kernel_rfl
  rw [e0] at hl
  obtain ⟨c0, c1, c2, c3, c4, c5, c6, c7, c8, c9, c10, hcs⟩ := list11 hl
  have hx2 : xs.length = 5 := hx
  obtain ⟨z0, k0⟩ := some_of_len (i := 0) hx2 (by decide)
  obtain ⟨z1, k1⟩ := some_of_len (i := 1) hx2 (by decide)
  obtain ⟨z2, k2⟩ := some_of_len (i := 2) hx2 (by decide)
  obtain ⟨z3, k3⟩ := some_of_len (i := 3) hx2 (by decide)
  obtain ⟨z4, k4⟩ := some_of_len (i := 4) hx2 (by decide)
  rw [hcs] at hf
  have q0 := (hf 0 _ rfl).trans k0
  have q1 := (hf 1 _ rfl).trans k1
  have q2 := (hf 2 _ rfl).trans k2
  have q3 := (hf 3 _ rfl).trans k3
  have q4 := (hf 4 _ rfl).trans k4
  replace q0 : DataW.trod enc Try.prog W 0 (fun _ => true) true m 23 (List.take (Try.prog.cellsOf 23) [c0, c1, c2, c3, c4, c5, c6, c7, c8, c9, c10]) = some z0 := q0
  replace q1 : DataW.trod enc Try.prog W 0 (fun _ => true) true m 40 (List.take (Try.prog.cellsOf 40) [c7, c8, c9, c10]) = some z1 := q1
  replace q2 : DataW.trod enc Try.prog W 0 (fun _ => true) true m 24 (List.take (Try.prog.cellsOf 24) [c8, c9, c10]) = some z2 := q2
  replace q3 : DataW.trod enc Try.prog W 0 (fun _ => true) true m 25 (List.take (Try.prog.cellsOf 25) [c9, c10]) = some z3 := q3
  replace q4 : DataW.trod enc Try.prog W 0 (fun _ => true) true m 41 (List.take (Try.prog.cellsOf 41) [c10]) = some z4 := q4
  rw [e1] at q0
  rw [e2] at q1
  rw [e3] at q2
  rw [e4] at q3
  rw [e5] at q4
  replace q0 : DataW.trod enc Try.prog W 0 (fun _ => true) true m 23 [c0, c1, c2, c3, c4, c5, c6] = some z0 := q0
  obtain ⟨gl, gf⟩ := fields_of Try.underlying23 (by kernel_rfl) (by kernel_rfl) q0
  obtain ⟨v0, y0, n0, h0, t0⟩ := gf 0 _ rfl
  obtain ⟨v1, y1, n1, h1, t1⟩ := gf 1 _ rfl
  obtain ⟨v2, y2, n2, h2, t2⟩ := gf 2 _ rfl
  obtain ⟨v3, y3, n3, h3, t3⟩ := gf 3 _ rfl
  obtain ⟨v4, y4, n4, h4, t4⟩ := gf 4 _ rfl
  obtain ⟨v5, y5, n5, h5, t5⟩ := gf 5 _ rfl
  obtain ⟨v6, y6, n6, h6, t6⟩ := gf 6 _ rfl
  obtain ⟨x0, rfl, w0⟩ := int_of Try.underlying3 t0
  obtain ⟨x1, rfl, w1⟩ := int_of Try.underlying3 t1
  obtain ⟨x2, rfl, w2⟩ := int_of Try.underlying3 t2
  obtain ⟨x3, rfl, w3⟩ := int_of Try.underlying3 t3
  obtain ⟨x4, rfl, w4⟩ := int_of Try.underlying3 t4
  obtain ⟨x5, rfl, w5⟩ := int_of Try.underlying3 t5
  obtain ⟨x6, rfl, w6⟩ := int_of Try.underlying3 t6
  obtain ⟨ta, tn, tc, ht⟩ := isl_of Try.underlying40 q1
  subst ht
  obtain ⟨ts, j0, j0'⟩ := open_slR (f := tlC) (sz := 4) (G := fun t => SlRc W t.ra t.rn t.rc t.rs ∧ SlR drC 6 W t.da t.dn t.dc t.ds) Try.underlying40 (by kernel_rfl) (by decide) (fun n cs y _ hd => tile_of n cs y hd) q1
  obtain ⟨ra, rn, rc, rs, hr, hrs⟩ := rects_of q2
  obtain ⟨da, dn, dc, ds, hd, hds⟩ := doors_of q3
  obtain ⟨ha, hn, hc, hh⟩ := isl_of Try.underlying41 q4
  subst hh
  obtain ⟨hs, j4, _⟩ := open_slR (f := acC) (sz := 14) (G := fun _ => True) Try.underlying41 (by kernel_rfl) (by decide) (fun n cs y _ hd => by obtain ⟨t, ht⟩ := act_of n cs y hd; exact ⟨t, ht, trivial⟩) q4
  refine ⟨⟨⟨x0, x1, x2, x3, x4, x5, x6⟩, ta, tn, tc, ts, ra, rn, rc, rs, da, dn, dc, ds, ha, hn, hc, hs⟩, ?_, ⟨j0, j0'⟩, hrs, hds, j4⟩
  simp only [List.getElem?_cons_zero, List.getElem?_cons_succ, Option.some.injEq] at h0 h1 h2 h3 h4 h5 h6
  subst h0 h1 h2 h3 h4 h5 h6
  subst hr hd
  simp only [Value.cells] at hcs
  show Value.agg cs = Value.agg _
  congr 1
  exact Array.toList_inj.1 (by simpa using hcs)
set_option maxRecDepth 100000 in
/-- A filter argument. -/
theorem open_flt {r : Reach} {b0 : Nat} {v : Value} {d : DataW H} {p : List MemPlace}
    (hv : Value.okWide Try.prog W r b0 46 v) (h : DataW.Trod enc Try.prog W 0 (fun _ => true) true 46 v d p) :
    ∃ f : Flt, v = fltV f := by
  obtain ⟨cs, rfl, hsz⟩ := okWide_struct Try.underlying46 hv
  obtain ⟨fuel, h⟩ := h
  obtain ⟨xs, m, _, _, hl, hx, hf⟩ := DataW.trod_struct Try.underlying46 h
  have e0 : Try.prog.cellsOf 46 = 9 := by kernel_rfl
  have e1 : Try.prog.cellsOf 44 = 8 := by kernel_rfl
  have e2 : Try.prog.cellsOf 3 = 1 := by kernel_rfl
  rw [e0] at hl
  obtain ⟨c0, c1, c2, c3, c4, c5, c6, c7, c8, hcs⟩ := list9 hl
  have hx2 : xs.length = 2 := hx
  obtain ⟨z0, k0⟩ := some_of_len (i := 0) hx2 (by decide)
  obtain ⟨z1, k1⟩ := some_of_len (i := 1) hx2 (by decide)
  rw [hcs] at hf
  have q0 := (hf 0 _ rfl).trans k0
  have q1 := (hf 1 _ rfl).trans k1
  replace q0 : DataW.trod enc Try.prog W 0 (fun _ => true) true m 3 (List.take (Try.prog.cellsOf 3) [c0, c1, c2, c3, c4, c5, c6, c7, c8]) = some z0 := q0
  replace q1 : DataW.trod enc Try.prog W 0 (fun _ => true) true m 44 (List.take (Try.prog.cellsOf 44) [c1, c2, c3, c4, c5, c6, c7, c8]) = some z1 := q1
  rw [e2] at q0
  rw [e1] at q1
  obtain ⟨x0, hx0, w0⟩ := int_of Try.underlying3 q0
  obtain ⟨ys, m2, _, _, gl, gx, gi⟩ := DataW.trod_array Try.underlying44 q1
  rw [e2] at gi
  have key : ∀ k (hk : k < 8), ∃ x : Int, ([c1, c2, c3, c4, c5, c6, c7, c8] : List Value)[k]? = some (.int .i64 x) := by
    intro k hk
    obtain ⟨zk, kk⟩ := some_of_len (i := k) gx hk
    have hg := (gi k hk).trans kk
    have hlk : k < ([c1, c2, c3, c4, c5, c6, c7, c8] : List Value).length := hk
    have e : List.take 1 (List.drop (k * 1) [c1, c2, c3, c4, c5, c6, c7, c8]) = [([c1, c2, c3, c4, c5, c6, c7, c8] : List Value)[k]] := by
      rw [Nat.mul_one, List.drop_eq_getElem_cons hlk]
      rfl
    replace hg : DataW.trod enc Try.prog W 0 (fun _ => true) true m2 3 (List.take 1 (List.drop (k * 1) [c1, c2, c3, c4, c5, c6, c7, c8])) = some zk := hg
    rw [e] at hg
    obtain ⟨x, hx, _⟩ := int_of Try.underlying3 hg
    exact ⟨x, by rw [List.getElem?_eq_getElem hlk]; exact congrArg some hx⟩
  obtain ⟨a0, r0⟩ := key 0 (by decide)
  obtain ⟨a1, r1⟩ := key 1 (by decide)
  obtain ⟨a2, r2⟩ := key 2 (by decide)
  obtain ⟨a3, r3⟩ := key 3 (by decide)
  obtain ⟨a4, r4⟩ := key 4 (by decide)
  obtain ⟨a5, r5⟩ := key 5 (by decide)
  obtain ⟨a6, r6⟩ := key 6 (by decide)
  obtain ⟨a7, r7⟩ := key 7 (by decide)
  have r0' : c0 = .int .i64 x0 := hx0
  simp only [List.getElem?_cons_zero, List.getElem?_cons_succ, Option.some.injEq] at r0 r1 r2 r3 r4 r5 r6 r7
  subst r0' r0 r1 r2 r3 r4 r5 r6 r7
  refine ⟨⟨x0, a0, a1, a2, a3, a4, a5, a6, a7⟩, ?_⟩
  show Value.agg cs = Value.agg _
  congr 1
  simp only [Value.cells] at hcs
  exact Array.toList_inj.1 (by simpa using hcs)
theorem list2e {l : List Value} {a b : Value} (hl : l.length = 2) (h0 : l[0]? = some a) (h1 : l[1]? = some b) : l = [a, b] := by
  match l, hl with
  | [x0, x1], _ => simp at h0 h1; rw [h0, h1]
set_option maxRecDepth 100000 in
/-- A point argument. -/
theorem open_pt2 {r : Reach} {b0 : Nat} {v : Value} {d : DataW H} {p : List MemPlace}
    (hv : Value.okWide Try.prog W r b0 48 v) (h : DataW.Trod enc Try.prog W 0 (fun _ => true) true 48 v d p) :
    ∃ x z : Int, v = .agg #[.int .i64 x, .int .i64 z] := by
  obtain ⟨cs, rfl, hsz⟩ := okWide_struct Try.underlying48 hv
  obtain ⟨fuel, hf⟩ := h
  obtain ⟨hl, hf⟩ := fields_of Try.underlying48 (by kernel_rfl) (by kernel_rfl) hf
  obtain ⟨v0, y0, n0, h0, t0⟩ := hf 0 _ rfl
  obtain ⟨v1, y1, n1, h1, t1⟩ := hf 1 _ rfl
  obtain ⟨x0, rfl, w0⟩ := int_of Try.underlying3 t0
  obtain ⟨x1, rfl, w1⟩ := int_of Try.underlying3 t1
  refine ⟨x0, x1, ?_⟩
  have e := list2e hl h0 h1
  simp only [Value.cells] at e
  show Value.agg cs = Value.agg _
  congr 1
  exact Array.toList_inj.1 (by simpa using e)
end
end Go.Proofs.Ytgfmdgiepomkiaa
