/- Arguments as they are read: structs by value, slices whatever the element. -/
import Derived.Test.YtmgkkmcihplojaaGreatGa
import Derived.Test.YtmgkkmcihplojaaGreatCfg
import Derived.Deep.Slices
import Derived.Deep.Fields
import Derived.ChangeSame
import Derived.ProofKit
import Derived.OpenShut
import Derived.Test.YtmgkkmcihplojaaGreatRctA
namespace Go.Proofs.YtmgkkmcihplojaaGreat
open Go.ChangeShapes Go.WideShapes Go.ChangeAt Go.RowKit Go.Deep

section
variable {H : Type} {enc : TypeId × Value → H} {P : Program} {w : World} {base : Nat} {spare : Nat → Bool} {held : Bool}

/-- A struct whose fields take one cell each: what lies in each. -/
theorem fields_of {t : TypeId} {fs : Array Field} {fuel : Nat} {cs : List Value} {x : DataW H × List MemPlace} (ht : P.underlying t = some (.struct fs)) (hone : oneCellFields P fs = true) (hC : P.cellsOf t = fs.size)
    (h : DataW.trod enc P w base spare held fuel t cs = some x) :
    cs.length = fs.size ∧ ∀ (j : Nat) (f : Field), fs[j]? = some f → ∃ (v : Value) (y : DataW H × List MemPlace) (n : Nat), cs[j]? = some v ∧ DataW.trod enc P w base spare held n f.type [v] = some y := by
  obtain ⟨xs, n, _, _, hl, hx, hf⟩ := DataW.trod_struct ht h
  rw [hC] at hl
  refine ⟨hl, fun j f hj => ?_⟩
  have hjl : j < fs.size := (Array.getElem?_eq_some_iff.1 hj).1
  obtain ⟨h1, h2⟩ := hone_of hone j f hj
  have h3 := hf j f hj
  rw [h1, h2, List.drop_eq_getElem_cons (by omega)] at h3
  have hxs : xs[j]? = some (xs[j]'(by omega)) := List.getElem?_eq_getElem (by omega)
  exact ⟨cs[j]'(by omega), xs[j]'(by omega), n, List.getElem?_eq_getElem (by omega), by rw [← hxs, ← h3]; rfl⟩

/-- A slice whose elements are what G says of them. -/
theorem open_slR {α : Type} {f : α → List Value} {sz : Nat} {G : α → Prop} {t e : TypeId} {fuel : Nat} {a : Option Addr} {len cap : Nat} {x : DataW H × List MemPlace} (ht : P.underlying t = some (.slice e)) (hC : P.cellsOf e = sz) (h0 : 0 < sz)
    (hel : ∀ (n : Nat) (cs : List Value) (y : DataW H × List MemPlace), cs.length = sz → DataW.trod enc P w 0 (fun _ => true) true n e cs = some y → ∃ s : α, f s = cs ∧ G s)
    (h : DataW.trod enc P w 0 (fun _ => true) true fuel t [.slice a len cap] = some x) : ∃ xs : List α, SlR f sz w a len cap xs ∧ ∀ s ∈ xs, G s := by
  rcases open_slice ht h with ⟨h1, _⟩ | ⟨ad, l, c, m, n, D, Pl, h1, _, hl, hm, hmm, _, hi⟩
  · simp only [List.cons.injEq, and_true, Value.slice.injEq] at h1
    obtain ⟨rfl, rfl, rfl⟩ := h1
    exact ⟨[], SlR.nil _ _ _, by simp⟩
  · simp only [List.cons.injEq, and_true, Value.slice.injEq] at h1
    obtain ⟨rfl, rfl, rfl⟩ := h1
    simp only [if_true] at hmm
    subst hmm
    rw [hC] at hi
    have key : ∀ k, k ≤ len → ∃ xs : List α, xs.length = k ∧ (∀ s ∈ xs, G s) ∧ ∀ i s, xs[i]? = some s → ∀ j v, (f s)[j]? = some v → w.cell? (ad.add (i * sz + j)) = some v := by
      intro k
      induction k with
      | zero => exact fun _ => ⟨[], rfl, by simp, by simp⟩
      | succ k ih =>
        intro hk
        obtain ⟨xs, h1, h2, h3⟩ := ih (by omega)
        obtain ⟨cs, hc, hd⟩ := hi k (by omega)
        obtain ⟨_, hcl, hat⟩ := World.cells?_some hc
        obtain ⟨s, hs, hG⟩ := hel n cs _ hcl hd
        refine ⟨xs ++ [s], by simp [h1], fun u hu => ?_, fun i u hu j v hv => ?_⟩
        · rcases List.mem_append.1 hu with hu | hu
          · exact h2 u hu
          · simp at hu
            rw [hu]
            exact hG
        · by_cases hik : i < k
          · rw [List.getElem?_append_left (by omega)] at hu
            exact h3 i u hu j v hv
          · have hlt := (List.getElem?_eq_some_iff.1 hu).1
            simp at hlt
            obtain rfl : i = k := by omega
            rw [List.getElem?_append_right (by omega), h1, Nat.sub_self] at hu
            simp at hu
            rw [← hu, hs] at hv
            have hj : j < sz := by rw [← hcl]; exact (List.getElem?_eq_some_iff.1 hv).1
            rw [← Go.Deep.add_add, hat j hj, hv]
    obtain ⟨xs, h1, h2, h3⟩ := key len (Nat.le_refl _)
    refine ⟨xs, ⟨h1, hl, by simpa [maxLen] using hm, ?_⟩, h2⟩
    by_cases hz : len = 0
    · exact .inl hz
    right
    obtain ⟨b, off, spot⟩ := ad
    obtain ⟨cs, hc, _⟩ := hi 0 (by omega)
    obtain ⟨_, hcl, hat⟩ := World.cells?_some hc
    have h4 := hat 0 (by omega)
    rw [List.getElem?_eq_getElem (by omega)] at h4
    have hspot : spot = none := by simpa [Addr.add] using World.cell?_spot h4
    subst hspot
    refine ⟨b, off, rfl, by simpa [Addr.add_lit] using World.block_lt_of_cell? w _ h4, fun i s hs j v hv => ?_⟩
    have := h3 i s hs j v hv
    rw [Addr.add_lit] at this
    rw [Nat.add_assoc]
    exact this
end

section
variable {H : Type} {enc : TypeId × Value → H} {w : World} {base : Nat} {spare : Nat → Bool} {held : Bool}
theorem int_of {k : IntKind} {t : TypeId} (ht : Tryz.prog.underlying t = some (.int k)) {n : Nat} {v : Value} {y : DataW H × List MemPlace} (h : DataW.trod enc Tryz.prog w base spare held n t [v] = some y) : ∃ x, v = .int k x ∧ (Lit.int k x).wf = true := by
  obtain ⟨x, h1, _, h3⟩ := DataW.trod_int ht h
  simp at h1
  exact ⟨x, h1, h3⟩
/-- What is an int64? -/
def i64B (x : Int) : Prop := -9223372036854775808 ≤ x ∧ x ≤ 9223372036854775807

end

theorem list7 {l : List Value} {a b c d e f g : Value} (hl : l.length = 7) (h0 : l[0]? = some a) (h1 : l[1]? = some b) (h2 : l[2]? = some c) (h3 : l[3]? = some d) (h4 : l[4]? = some e) (h5 : l[5]? = some f) (h6 : l[6]? = some g) : l = [a, b, c, d, e, f, g] := by
  match l, hl with
  | [x0, x1, x2, x3, x4, x5, x6], _ => simp at h0 h1 h2 h3 h4 h5 h6; rw [h0, h1, h2, h3, h4, h5, h6]

set_option maxRecDepth 100000 in
/-- A config argument. -/
theorem open_cfg {H : Type} {enc : TypeId × Value → H} {W : World} {r : Reach} {b0 : Nat} {v : Value} {d : DataW H} {p : List MemPlace} {base : Nat} {spare : Nat → Bool} {held : Bool}
    (hv : Value.okWide Tryz.prog W r b0 23 v) (h : DataW.Trod enc Tryz.prog W base spare held 23 v d p) :
    ∃ cf : Cfg, v = cfgV cf ∧ i64B cf.clear ∧ i64B cf.climb ∧ i64B cf.height ∧ i64B cf.rise ∧ i64B cf.run ∧ i64B cf.w ∧ i64B cf.d := by
  obtain ⟨cs, rfl, hsz⟩ := okWide_struct Tryz.underlying23 hv
  obtain ⟨fuel, hf⟩ := h
  obtain ⟨hl, hf⟩ := fields_of Tryz.underlying23 (by kernel_rfl) (by kernel_rfl) hf
  obtain ⟨v0, y0, n0, h0, t0⟩ := hf 0 _ rfl
  obtain ⟨v1, y1, n1, h1, t1⟩ := hf 1 _ rfl
  obtain ⟨v2, y2, n2, h2, t2⟩ := hf 2 _ rfl
  obtain ⟨v3, y3, n3, h3, t3⟩ := hf 3 _ rfl
  obtain ⟨v4, y4, n4, h4, t4⟩ := hf 4 _ rfl
  obtain ⟨v5, y5, n5, h5, t5⟩ := hf 5 _ rfl
  obtain ⟨v6, y6, n6, h6, t6⟩ := hf 6 _ rfl
  obtain ⟨x0, rfl, w0⟩ := int_of Tryz.underlying3 t0
  obtain ⟨x1, rfl, w1⟩ := int_of Tryz.underlying3 t1
  obtain ⟨x2, rfl, w2⟩ := int_of Tryz.underlying3 t2
  obtain ⟨x3, rfl, w3⟩ := int_of Tryz.underlying3 t3
  obtain ⟨x4, rfl, w4⟩ := int_of Tryz.underlying3 t4
  obtain ⟨x5, rfl, w5⟩ := int_of Tryz.underlying3 t5
  obtain ⟨x6, rfl, w6⟩ := int_of Tryz.underlying3 t6
  refine ⟨⟨x0, x1, x2, x3, x4, x5, x6⟩, ?_, bounds_i64 w0, bounds_i64 w1, bounds_i64 w2, bounds_i64 w3, bounds_i64 w4, bounds_i64 w5, bounds_i64 w6⟩
  have e := list7 hl h0 h1 h2 h3 h4 h5 h6
  simp only [Value.cells] at e
  show Value.agg cs = Value.agg _
  congr 1
  exact Array.toList_inj.1 (by simpa using e)

theorem places_lt {H : Type} {enc : TypeId × Value → H} {P : Program} {W : World} {t : TypeId} {v : Value} {d : DataW H} {p : List MemPlace} (h : DataW.Trod enc P W 0 (fun _ => true) true t v d p) : ∀ x ∈ p, x.block < W.heap.size := by
  obtain ⟨m, hm⟩ := h
  exact DataW.trod_lt m _ _ _ hm

end Go.Proofs.YtmgkkmcihplojaaGreat

namespace Go.Proofs.YtmgkkmcihplojaaGreat
open Go.ChangeShapes Go.WideShapes Go.ChangeAt Go.RowKit Go.Deep

section
variable {H : Type} {enc : TypeId × Value → H} {W : World}
/-- A slice of integers, as a cell of a struct. -/
theorem slI_of {fuel : Nat} {u : Value} {x : DataW H × List MemPlace} (h : DataW.trod enc Tryz.prog W 0 (fun _ => true) true fuel 53 [u] = some x) :
    ∃ a c xs, u = .slice a xs.length c ∧ SlI .i64 W a xs.length c xs := by
  obtain ⟨a, n, c, rfl⟩ : ∃ a n c, u = Value.slice a n c := by
    rcases open_slice Tryz.underlying53 h with ⟨h1, _⟩ | ⟨ad, l, c, _, _, _, _, h1, _⟩
    · simp only [List.cons.injEq, and_true] at h1; exact ⟨_, _, _, h1⟩
    · simp only [List.cons.injEq, and_true] at h1; exact ⟨_, _, _, h1⟩
  obtain ⟨xs, h1, _⟩ := open_slR (f := fun x : Int => [Value.int .i64 x]) (sz := 1) (G := fun _ => True) Tryz.underlying53 (by kernel_rfl) (by decide) (fun m cs y hl hd => by
    obtain ⟨v, rfl⟩ := List.length_eq_one_iff.1 hl
    obtain ⟨x, rfl, _⟩ := int_of Tryz.underlying3 hd
    exact ⟨x, rfl, trivial⟩) h
  obtain rfl := h1.len
  refine ⟨a, c, xs, rfl, ⟨rfl, h1.le, h1.max, ?_⟩⟩
  rcases h1.cell with h0 | ⟨b, off, ha, _, hc⟩
  · exact .inl h0
  · refine .inr ⟨b, off, ha, fun i hi => ?_⟩
    have := hc i (xs[i]) (List.getElem?_eq_getElem hi) 0 _ rfl
    simpa [List.getD_eq_getElem?_getD, List.getElem?_eq_getElem hi] using this

end
end Go.Proofs.YtmgkkmcihplojaaGreat
