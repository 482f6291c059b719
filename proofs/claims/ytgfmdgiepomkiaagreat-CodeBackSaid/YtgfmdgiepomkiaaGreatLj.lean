/- Arguments as they are read: a soup. -/
import Derived.Test.YtgfmdgiepomkiaaGreatKj
import Derived.Test.YtgfmdgiepomkiaaGreatLc
import Derived.Test.YtgfmdgiepomkiaaGreatKe
import Derived.Test.YtgfmdgiepomkiaaGreatKg
import Derived.Test.YtgfmdgiepomkiaaGreatGa
namespace Go.Proofs.YtgfmdgiepomkiaaGreat
open Go.ChangeShapes Go.WideShapes Go.ChangeAt Go.RowKit Go.Deep

theorem list10 {l : List Value} (hl : l.length = 10) : ∃ a b c d e f g h i j, l = [a, b, c, d, e, f, g, h, i, j] := by
 match l, hl with
 | [a, b, c, d, e, f, g, h, i, j], _ => exact ⟨a, b, c, d, e, f, g, h, i, j, rfl⟩
theorem list9 {l : List Value} (hl : l.length = 9) : ∃ a b c d e f g h i, l = [a, b, c, d, e, f, g, h, i] := by
 match l, hl with
 | [a, b, c, d, e, f, g, h, i], _ => exact ⟨a, b, c, d, e, f, g, h, i, rfl⟩
theorem list8 {l : List Value} {a b c d e f g h : Value} (hl : l.length = 8) (h0 : l[0]? = some a) (h1 : l[1]? = some b) (h2 : l[2]? = some c) (h3 : l[3]? = some d) (h4 : l[4]? = some e) (h5 : l[5]? = some f) (h6 : l[6]? = some g) (h7 : l[7]? = some h) : l = [a, b, c, d, e, f, g, h] := by
 match l, hl with
 | [x0, x1, x2, x3, x4, x5, x6, x7], _ => simp at h0 h1 h2 h3 h4 h5 h6 h7; rw [h0, h1, h2, h3, h4, h5, h6, h7]

section
variable {H : Type} {enc : TypeId × Value → H} {w : World} {base : Nat} {spare : Nat → Bool} {held : Bool}
theorem some_of_len {α : Type} {xs : List α} {n i : Nat} (h : xs.length = n) (hi : i < n) : ∃ x, xs[i]? = some x := ⟨_, List.getElem?_eq_getElem (by omega)⟩

theorem vtx_of (n : Nat) (cs : List Value) (y : DataW H × List MemPlace) (h : DataW.trod enc Tryz.prog w base spare held n 59 cs = some y) : ∃ v : Vtx, vtxL v = cs := by
 obtain ⟨hl, hf⟩ := fields_of Tryz.underlying59 (by kernel_rfl) (by kernel_rfl) h
 obtain ⟨v0, y0, n0, h0, t0⟩ := hf 0 _ rfl
 obtain ⟨v1, y1, n1, h1, t1⟩ := hf 1 _ rfl
 obtain ⟨v2, y2, n2, h2, t2⟩ := hf 2 _ rfl
 obtain ⟨x0, rfl, w0⟩ := int_of Tryz.underlying3 t0
 obtain ⟨x1, rfl, w1⟩ := int_of Tryz.underlying3 t1
 obtain ⟨x2, rfl, w2⟩ := int_of Tryz.underlying3 t2
 exact ⟨⟨x0, x1, x2⟩, (list3 hl h0 h1 h2).symm⟩
theorem spt_of (n : Nat) (cs : List Value) (y : DataW H × List MemPlace) (h : DataW.trod enc Tryz.prog w base spare held n 67 cs = some y) : ∃ v : Spt, cs = [.int .i64 v.x, .int .i64 v.z, .int .i64 v.y] := by
 obtain ⟨hl, hf⟩ := fields_of Tryz.underlying67 (by kernel_rfl) (by kernel_rfl) h
 obtain ⟨v0, y0, n0, h0, t0⟩ := hf 0 _ rfl
 obtain ⟨v1, y1, n1, h1, t1⟩ := hf 1 _ rfl
 obtain ⟨v2, y2, n2, h2, t2⟩ := hf 2 _ rfl
 obtain ⟨x0, rfl, w0⟩ := int_of Tryz.underlying3 t0
 obtain ⟨x1, rfl, w1⟩ := int_of Tryz.underlying3 t1
 obtain ⟨x2, rfl, w2⟩ := int_of Tryz.underlying3 t2
 exact ⟨⟨x0, x1, x2⟩, list3 hl h0 h1 h2⟩
theorem verts_of (n : Nat) (cs : List Value) (y : DataW H × List MemPlace) (h : DataW.trod enc Tryz.prog w base spare held n 60 cs = some y) : ∃ a b c : Vtx, cs = vtxL a ++ (vtxL b ++ vtxL c) := by
 obtain ⟨xs, m, _, _, hl, hx, hi⟩ := DataW.trod_array Tryz.underlying60 h
 have e1 : Tryz.prog.cellsOf 60 = 9 := by kernel_rfl
 have e2 : Tryz.prog.cellsOf 59 = 3 := by kernel_rfl
 rw [e1] at hl
 rw [e2] at hi
 obtain ⟨c0, c1, c2, c3, c4, c5, c6, c7, c8, rfl⟩ := list9 hl
 obtain ⟨z0, k0⟩ := some_of_len (i := 0) hx (by decide)
 obtain ⟨z1, k1⟩ := some_of_len (i := 1) hx (by decide)
 obtain ⟨z2, k2⟩ := some_of_len (i := 2) hx (by decide)
 obtain ⟨a, ha⟩ := vtx_of _ _ _ ((hi 0 (by decide)).trans k0)
 obtain ⟨b, hb⟩ := vtx_of _ _ _ ((hi 1 (by decide)).trans k1)
 obtain ⟨c, hc⟩ := vtx_of _ _ _ ((hi 2 (by decide)).trans k2)
 refine ⟨a, b, c, ?_⟩
 rw [ha, hb, hc]
 rfl
theorem tri_of (n : Nat) (cs : List Value) (y : DataW H × List MemPlace) (h : DataW.trod enc Tryz.prog w base spare held n 62 cs = some y) : ∃ t : Tri3, triC t = cs := by
 obtain ⟨xs, m, _, _, hl, hx, hf⟩ := DataW.trod_struct Tryz.underlying62 h
 have e0 : Tryz.prog.cellsOf 62 = 10 := by kernel_rfl
 have e1 : Tryz.prog.cellsOf 60 = 9 := by kernel_rfl
 have e2 : Tryz.prog.cellsOf 3 = 1 := by kernel_rfl
 rw [e0] at hl
 obtain ⟨c0, c1, c2, c3, c4, c5, c6, c7, c8, c9, rfl⟩ := list10 hl
 have hx2 : xs.length = 2 := hx
 obtain ⟨z0, k0⟩ := some_of_len (i := 0) hx2 (by decide)
 obtain ⟨z1, k1⟩ := some_of_len (i := 1) hx2 (by decide)
 have q0 := (hf 0 _ rfl).trans k0
 have q1 := (hf 1 _ rfl).trans k1
 replace q0 : DataW.trod enc Tryz.prog w base spare held m 3 (List.take (Tryz.prog.cellsOf 3) [c0, c1, c2, c3, c4, c5, c6, c7, c8, c9]) = some z0 := q0
 replace q1 : DataW.trod enc Tryz.prog w base spare held m 60 (List.take (Tryz.prog.cellsOf 60) [c1, c2, c3, c4, c5, c6, c7, c8, c9]) = some z1 := q1
 rw [e2] at q0
 rw [e1] at q1
 obtain ⟨x0, hx0, w0⟩ := int_of Tryz.underlying3 q0
 obtain ⟨a, b, c, hv⟩ := verts_of _ _ _ q1
 refine ⟨⟨x0, a, b, c⟩, ?_⟩
 have hv' : [c1, c2, c3, c4, c5, c6, c7, c8, c9] = vtxL a ++ (vtxL b ++ vtxL c) := hv
 have hx' : c0 = .int .i64 x0 := hx0
 rw [hx', hv']
 rfl
theorem bx_of (n : Nat) (cs : List Value) (y : DataW H × List MemPlace) (h : DataW.trod enc Tryz.prog w base spare held n 65 cs = some y) : ∃ b : Bx, bxC b = cs := by
 obtain ⟨hl, hf⟩ := fields_of Tryz.underlying65 (by kernel_rfl) (by kernel_rfl) h
 obtain ⟨v0, y0, n0, h0, t0⟩ := hf 0 _ rfl
 obtain ⟨v1, y1, n1, h1, t1⟩ := hf 1 _ rfl
 obtain ⟨v2, y2, n2, h2, t2⟩ := hf 2 _ rfl
 obtain ⟨v3, y3, n3, h3, t3⟩ := hf 3 _ rfl
 obtain ⟨v4, y4, n4, h4, t4⟩ := hf 4 _ rfl
 obtain ⟨v5, y5, n5, h5, t5⟩ := hf 5 _ rfl
 obtain ⟨v6, y6, n6, h6, t6⟩ := hf 6 _ rfl
 obtain ⟨v7, y7, n7, h7, t7⟩ := hf 7 _ rfl
 obtain ⟨x0, rfl, w0⟩ := int_of Tryz.underlying3 t0
 obtain ⟨x1, rfl, w1⟩ := int_of Tryz.underlying3 t1
 obtain ⟨x2, rfl, w2⟩ := int_of Tryz.underlying3 t2
 obtain ⟨x3, rfl, w3⟩ := int_of Tryz.underlying3 t3
 obtain ⟨x4, rfl, w4⟩ := int_of Tryz.underlying3 t4
 obtain ⟨x5, rfl, w5⟩ := int_of Tryz.underlying3 t5
 obtain ⟨x6, rfl, w6⟩ := int_of Tryz.underlying3 t6
 obtain ⟨x7, rfl, w7⟩ := int_of Tryz.underlying3 t7
 exact ⟨⟨x0, x1, x2, x3, x4, x5, x6, x7⟩, (list8 hl h0 h1 h2 h3 h4 h5 h6 h7).symm⟩
theorem hp_of (n : Nat) (cs : List Value) (y : DataW H × List MemPlace) (h : DataW.trod enc Tryz.prog w base spare held n 69 cs = some y) : ∃ t : Hp, hpC t = cs := by
 obtain ⟨xs, m, _, _, hl, hx, hf⟩ := DataW.trod_struct Tryz.underlying69 h
 have e0 : Tryz.prog.cellsOf 69 = 10 := by kernel_rfl
 have e1 : Tryz.prog.cellsOf 67 = 3 := by kernel_rfl
 have e2 : Tryz.prog.cellsOf 3 = 1 := by kernel_rfl
 have e3 : Tryz.prog.cellsOf 4 = 1 := by kernel_rfl
 rw [e0] at hl
 obtain ⟨c0, c1, c2, c3, c4, c5, c6, c7, c8, c9, rfl⟩ := list10 hl
 have hx2 : xs.length = 6 := hx
 obtain ⟨z0, k0⟩ := some_of_len (i := 0) hx2 (by decide)
 obtain ⟨z1, k1⟩ := some_of_len (i := 1) hx2 (by decide)
 obtain ⟨z2, k2⟩ := some_of_len (i := 2) hx2 (by decide)
 obtain ⟨z3, k3⟩ := some_of_len (i := 3) hx2 (by decide)
 obtain ⟨z4, k4⟩ := some_of_len (i := 4) hx2 (by decide)
 obtain ⟨z5, k5⟩ := some_of_len (i := 5) hx2 (by decide)
 have q0 := (hf 0 _ rfl).trans k0
 have q1 := (hf 1 _ rfl).trans k1
 have q2 := (hf 2 _ rfl).trans k2
 have q3 := (hf 3 _ rfl).trans k3
 have q4 := (hf 4 _ rfl).trans k4
 have q5 := (hf 5 _ rfl).trans k5
 replace q0 : DataW.trod enc Tryz.prog w base spare held m 3 (List.take (Tryz.prog.cellsOf 3) [c0, c1, c2, c3, c4, c5, c6, c7, c8, c9]) = some z0 := q0
 replace q1 : DataW.trod enc Tryz.prog w base spare held m 67 (List.take (Tryz.prog.cellsOf 67) [c1, c2, c3, c4, c5, c6, c7, c8, c9]) = some z1 := q1
 replace q2 : DataW.trod enc Tryz.prog w base spare held m 67 (List.take (Tryz.prog.cellsOf 67) [c4, c5, c6, c7, c8, c9]) = some z2 := q2
 replace q3 : DataW.trod enc Tryz.prog w base spare held m 4 (List.take (Tryz.prog.cellsOf 4) [c7, c8, c9]) = some z3 := q3
 replace q4 : DataW.trod enc Tryz.prog w base spare held m 3 (List.take (Tryz.prog.cellsOf 3) [c8, c9]) = some z4 := q4
 replace q5 : DataW.trod enc Tryz.prog w base spare held m 3 (List.take (Tryz.prog.cellsOf 3) [c9]) = some z5 := q5
 rw [e2] at q0 q4 q5
 rw [e1] at q1 q2
 rw [e3] at q3
 obtain ⟨x0, hx0, w0⟩ := int_of Tryz.underlying3 q0
 obtain ⟨a, ha⟩ := spt_of _ _ _ q1
 obtain ⟨b, hb⟩ := spt_of _ _ _ q2
 obtain ⟨x3, hx3⟩ := bool_of Tryz.underlying4 q3
 obtain ⟨x4, hx4, w4⟩ := int_of Tryz.underlying3 q4
 obtain ⟨x5, hx5, w5⟩ := int_of Tryz.underlying3 q5
 refine ⟨⟨x0, a, b, x3, x4, x5⟩, ?_⟩
 have r0 : c0 = .int .i64 x0 := hx0
 have r1 : [c1, c2, c3] = [.int .i64 a.x, .int .i64 a.z, .int .i64 a.y] := ha
 have r2 : [c4, c5, c6] = [.int .i64 b.x, .int .i64 b.z, .int .i64 b.y] := hb
 have r3 : c7 = .bool x3 := hx3
 have r4 : c8 = .int .i64 x4 := hx4
 have r5 : c9 = .int .i64 x5 := hx5
 simp only [List.cons.injEq, and_true] at r1 r2
 obtain ⟨s1, s2, s3⟩ := r1
 obtain ⟨u1, u2, u3⟩ := r2
 rw [r0, s1, s2, s3, u1, u2, u3, r3, r4, r5]
 rfl
end

set_option maxRecDepth 100000 in
/-- A soup argument. -/
theorem open_soup {H : Type} {enc : TypeId × Value → H} {W : World} {r : Reach} {b0 : Nat} {v : Value} {d : DataW H} {p : List MemPlace}
  (hv : Value.okWide Tryz.prog W r b0 28 v) (h : DataW.Trod enc Tryz.prog W 0 (fun _ => true) true 28 v d p) :
  ∃ (p q r : SHead) (s : Sou), v = soupV p q r ∧ SoupAt W p q r s := by
 obtain ⟨cs, rfl, hsz⟩ := okWide_struct Tryz.underlying28 hv
 obtain ⟨fuel, hf⟩ := h
 obtain ⟨hl, hf⟩ := fields_of Tryz.underlying28 (by kernel_rfl) (by kernel_rfl) hf
 obtain ⟨v0, y0, n0, h0, t0⟩ := hf 0 _ rfl
 obtain ⟨v1, y1, n1, h1, t1⟩ := hf 1 _ rfl
 obtain ⟨v2, y2, n2, h2, t2⟩ := hf 2 _ rfl
 have isl : ∀ {t e : TypeId} {n : Nat} {u : Value} {y : DataW H × List MemPlace}, Tryz.prog.underlying t = some (.slice e) → DataW.trod enc Tryz.prog W 0 (fun _ => true) true n t [u] = some y → ∃ a n c, u = Value.slice a n c := by
  intro t e n u y ht hd
  rcases open_slice ht hd with ⟨h1, _⟩ | ⟨ad, l, c, _, _, _, _, h1, _⟩
  ·
   simp only [List.cons.injEq, and_true] at h1; exact ⟨_, _, _, h1⟩
  ·
   simp only [List.cons.injEq, and_true] at h1; exact ⟨_, _, _, h1⟩
 obtain ⟨pa, pn, pc, rfl⟩ := isl Tryz.underlying24 t0
 obtain ⟨qa, qn, qc, rfl⟩ := isl Tryz.underlying25 t1
 obtain ⟨ra, rn, rc, rfl⟩ := isl Tryz.underlying26 t2
 obtain ⟨ts, k0, _⟩ := open_slR (f := triC) (sz := 10) (G := fun _ => True) Tryz.underlying24 (by kernel_rfl) (by decide) (fun n cs y _ hd => by obtain ⟨t, ht⟩ := tri_of n cs y hd; exact ⟨t, ht, trivial⟩) t0
 obtain ⟨bs, k1, _⟩ := open_slR (f := bxC) (sz := 8) (G := fun _ => True) Tryz.underlying25 (by kernel_rfl) (by decide) (fun n cs y _ hd => by obtain ⟨t, ht⟩ := bx_of n cs y hd; exact ⟨t, ht, trivial⟩) t1
 obtain ⟨hs, k2, _⟩ := open_slR (f := hpC) (sz := 10) (G := fun _ => True) Tryz.underlying26 (by kernel_rfl) (by decide) (fun n cs y _ hd => by obtain ⟨t, ht⟩ := hp_of n cs y hd; exact ⟨t, ht, trivial⟩) t2
 refine ⟨⟨pa, pn, pc⟩, ⟨qa, qn, qc⟩, ⟨ra, rn, rc⟩, ⟨ts, bs, hs⟩, ?_, k0, k1, k2⟩
 have e := list3 hl h0 h1 h2
 simp only [Value.cells] at e
 show Value.agg cs = Value.agg _
 congr 1
 exact Array.toList_inj.1 (by simpa [SHead.v] using e)

end Go.Proofs.YtgfmdgiepomkiaaGreat

namespace Go.Proofs.YtgfmdgiepomkiaaGreat
open Go.ChangeShapes Go.WideShapes Go.ChangeAt Go.RowKit Go.Deep

theorem list6L {l : List Value} {a b c d e f : Value} (hl : l.length = 6) (h0 : l[0]? = some a) (h1 : l[1]? = some b) (h2 : l[2]? = some c) (h3 : l[3]? = some d) (h4 : l[4]? = some e) (h5 : l[5]? = some f) : l = [a, b, c, d, e, f] := by
 match l, hl with
 | [x0, x1, x2, x3, x4, x5], _ => simp at h0 h1 h2 h3 h4 h5; rw [h0, h1, h2, h3, h4, h5]
theorem list4L {l : List Value} {a b c d : Value} (hl : l.length = 4) (h0 : l[0]? = some a) (h1 : l[1]? = some b) (h2 : l[2]? = some c) (h3 : l[3]? = some d) : l = [a, b, c, d] := by
 match l, hl with
 | [x0, x1, x2, x3], _ => simp at h0 h1 h2 h3; rw [h0, h1, h2, h3]
section
variable {H : Type} {enc : TypeId × Value → H} {W : World}
theorem rect_of (n : Nat) (cs : List Value) (y : DataW H × List MemPlace) (h : DataW.trod enc Tryz.prog W 0 (fun _ => true) true n 52 cs = some y) : ∃ x : RHd × Rc, rcF7 x = cs ∧ RcSl W x.1 x.2 := by
 obtain ⟨hl, hf⟩ := fields_of Tryz.underlying52 (by kernel_rfl) (by kernel_rfl) h
 obtain ⟨v0, y0, n0, h0, t0⟩ := hf 0 _ rfl
 obtain ⟨v1, y1, n1, h1, t1⟩ := hf 1 _ rfl
 obtain ⟨v2, y2, n2, h2, t2⟩ := hf 2 _ rfl
 obtain ⟨v3, y3, n3, h3, t3⟩ := hf 3 _ rfl
 obtain ⟨v4, y4, n4, h4, t4⟩ := hf 4 _ rfl
 obtain ⟨v5, y5, n5, h5, t5⟩ := hf 5 _ rfl
 obtain ⟨v6, y6, n6, h6, t6⟩ := hf 6 _ rfl
 obtain ⟨x0, rfl, w0⟩ := int_of Tryz.underlying3 t0
 obtain ⟨x1, rfl, w1⟩ := int_of Tryz.underlying3 t1
 obtain ⟨x2, rfl, w2⟩ := int_of Tryz.underlying3 t2
 obtain ⟨x3, rfl, w3⟩ := int_of Tryz.underlying3 t3
 obtain ⟨x4, rfl, w4⟩ := int_of Tryz.underlying3 t4
 obtain ⟨ya, yc, ys, rfl, hy⟩ := slI_of t5
 obtain ⟨ta, tc, ts, rfl, ht⟩ := slI_of t6
 exact ⟨(⟨ya, yc, ta, tc⟩, ⟨x0, x1, x2, x3, x4, ys, ts⟩), (list7 hl h0 h1 h2 h3 h4 h5 h6).symm, hy, ht⟩
theorem door_of (n : Nat) (cs : List Value) (y : DataW H × List MemPlace) (h : DataW.trod enc Tryz.prog W 0 (fun _ => true) true n 119 cs = some y) : ∃ d : Dr, drC d = cs := by
 obtain ⟨hl, hf⟩ := fields_of Tryz.underlying119 (by kernel_rfl) (by kernel_rfl) h
 obtain ⟨v0, y0, n0, h0, t0⟩ := hf 0 _ rfl
 obtain ⟨v1, y1, n1, h1, t1⟩ := hf 1 _ rfl
 obtain ⟨v2, y2, n2, h2, t2⟩ := hf 2 _ rfl
 obtain ⟨v3, y3, n3, h3, t3⟩ := hf 3 _ rfl
 obtain ⟨v4, y4, n4, h4, t4⟩ := hf 4 _ rfl
 obtain ⟨v5, y5, n5, h5, t5⟩ := hf 5 _ rfl
 obtain ⟨x0, rfl, w0⟩ := int_of Tryz.underlying3 t0
 obtain ⟨x1, rfl, w1⟩ := int_of Tryz.underlying3 t1
 obtain ⟨x2, rfl, w2⟩ := int_of Tryz.underlying3 t2
 obtain ⟨x3, rfl, w3⟩ := int_of Tryz.underlying3 t3
 obtain ⟨x4, rfl, w4⟩ := int_of Tryz.underlying3 t4
 obtain ⟨x5, rfl, w5⟩ := int_of Tryz.underlying3 t5
 exact ⟨⟨x0, x1, x2, x3, x4, x5⟩, (list6L hl h0 h1 h2 h3 h4 h5).symm⟩

set_option maxRecDepth 100000 in
/-- A tile argument. -/
theorem open_tile {r : Reach} {b0 : Nat} {v : Value} {d : DataW H} {p : List MemPlace}
  (hv : Value.okWide Tryz.prog W r b0 32 v) (h : DataW.Trod enc Tryz.prog W 0 (fun _ => true) true 32 v d p) :
  ∃ (tx tz : Int) (a : Option Addr) (n c : Nat) (xs : List (RHd × Rc)) (b : Option Addr) (m k : Nat) (ds : List Dr), v = .agg #[.int .i64 tx, .int .i64 tz, .slice a n c, .slice b m k] ∧ SlRc W a n c xs ∧ SlR drC 6 W b m k ds := by
 obtain ⟨cs, rfl, hsz⟩ := okWide_struct Tryz.underlying32 hv
 obtain ⟨fuel, hf⟩ := h
 obtain ⟨hl, hf⟩ := fields_of Tryz.underlying32 (by kernel_rfl) (by kernel_rfl) hf
 obtain ⟨v0, y0, n0, h0, t0⟩ := hf 0 _ rfl
 obtain ⟨v1, y1, n1, h1, t1⟩ := hf 1 _ rfl
 obtain ⟨v2, y2, n2, h2, t2⟩ := hf 2 _ rfl
 obtain ⟨v3, y3, n3, h3, t3⟩ := hf 3 _ rfl
 obtain ⟨x0, rfl, w0⟩ := int_of Tryz.underlying3 t0
 obtain ⟨x1, rfl, w1⟩ := int_of Tryz.underlying3 t1
 have isl : ∀ {t e : TypeId} {n : Nat} {u : Value} {y : DataW H × List MemPlace}, Tryz.prog.underlying t = some (.slice e) → DataW.trod enc Tryz.prog W 0 (fun _ => true) true n t [u] = some y → ∃ a n c, u = Value.slice a n c := by
  intro t e n u y ht hd
  rcases open_slice ht hd with ⟨h1, _⟩ | ⟨ad, l, c, _, _, _, _, h1, _⟩
  ·
   simp only [List.cons.injEq, and_true] at h1; exact ⟨_, _, _, h1⟩
  ·
   simp only [List.cons.injEq, and_true] at h1; exact ⟨_, _, _, h1⟩
 obtain ⟨pa, pn, pc, rfl⟩ := isl Tryz.underlying29 t2
 obtain ⟨qa, qn, qc, rfl⟩ := isl Tryz.underlying30 t3
 obtain ⟨xs, k0, k0'⟩ := open_slR (f := rcF7) (sz := 7) (G := fun x => RcSl W x.1 x.2) Tryz.underlying29 (by kernel_rfl) (by decide) (fun n cs y _ hd => rect_of n cs y hd) t2
 obtain ⟨ds, k1, _⟩ := open_slR (f := drC) (sz := 6) (G := fun _ => True) Tryz.underlying30 (by kernel_rfl) (by decide) (fun n cs y _ hd => by obtain ⟨t, ht⟩ := door_of n cs y hd; exact ⟨t, ht, trivial⟩) t3
 refine ⟨x0, x1, pa, pn, pc, xs, qa, qn, qc, ds, ?_, ⟨k0, k0'⟩, k1⟩
 have e := list4L hl h0 h1 h2 h3
 simp only [Value.cells] at e
 show Value.agg cs = Value.agg _
 congr 1
 exact Array.toList_inj.1 (by simpa using e)
end
end Go.Proofs.YtgfmdgiepomkiaaGreat

namespace Go.Proofs.YtgfmdgiepomkiaaGreat
open Go.ChangeShapes Go.WideShapes Go.ChangeAt Go.RowKit Go.Deep

theorem wf_u8b {x : Int} (h : (Lit.int .u8 x).wf = true) : 0 ≤ x ∧ x ≤ 255 := bounds_u8 h
set_option maxRecDepth 100000 in
/-- An argument that is a slice of bytes. -/
theorem open_bytes {H : Type} {enc : TypeId × Value → H} {W : World} {v : Value} {d : DataW H} {p : List MemPlace} {r : Reach} {b0 : Nat}
  (hv : Value.okWide Tryz.prog W r b0 33 v) (h : DataW.Trod enc Tryz.prog W 0 (fun _ => true) true 33 v d p) :
  ∃ a n c xs, v = .slice a n c ∧ SlI .u8 W a n c xs ∧ (∀ x ∈ xs, 0 ≤ x ∧ x ≤ 255) ∧ (n = 0 ∨ ∀ ad, a = some ad → ad.block < W.heap.size) := by
 obtain ⟨a, n, c, rfl⟩ := okWide_slice Tryz.underlying33 hv
 obtain ⟨fuel, hf⟩ := h
 obtain ⟨xs, h1, h2⟩ := open_slR (f := fun x : Int => [Value.int .u8 x]) (sz := 1) (G := fun x => 0 ≤ x ∧ x ≤ 255) Tryz.underlying33 (by kernel_rfl) (by decide) (fun m cs y hl hd => by
  obtain ⟨x, hx, _, hw⟩ := DataW.trod_int Tryz.underlying5 hd
  exact ⟨x, hx.symm, wf_u8b hw⟩) (by simpa [Value.cells] using hf)
 refine ⟨a, n, c, xs, rfl, ⟨h1.len, h1.le, h1.max, ?_⟩, h2, ?_⟩
 ·
  rcases h1.cell with h0 | ⟨b, off, ha, _, hc⟩
  ·
   exact .inl h0
  ·
   refine .inr ⟨b, off, ha, fun i hi => ?_⟩
   have hi' : i < xs.length := by rw [h1.len]; exact hi
   have := hc i (xs[i]) (List.getElem?_eq_getElem hi') 0 _ rfl
   simpa [List.getD_eq_getElem?_getD, List.getElem?_eq_getElem hi'] using this
 ·
  rcases h1.cell with h0 | ⟨b, off, ha, hb, _⟩
  ·
   exact .inl h0
  ·
   refine .inr (fun ad had => ?_)
   rw [ha] at had
   cases had
   exact hb

end Go.Proofs.YtgfmdgiepomkiaaGreat
