/- Rows of records of one's own, sorted by the library's sort: what the sort's worlds read as. -/
import Derived.Test.YtmgkkmcihplojaaGreatGp
import Derived.Shelf.SlSortCmp.WholeK
namespace Go.Proofs.YtmgkkmcihplojaaGreat
open Go.RowKit Go.Sort

section
variable {α : Type} [Inhabited α] {f : α → List Value} {sz : Nat} {e : TypeId} {B : Nat} {w : World} {n : Nat} {xs : List α}
theorem holdsK_of_own (hf : ∀ x, (f x).length = sz) {g cap : Nat} (h : OwnR f sz e B w (.slice (some ⟨g, 0, none⟩) n cap) n xs) : HoldsK f sz w g 0 xs.toArray := by
  rcases h.2.2 with ⟨h0, _⟩ | ⟨g', cap', cur, hv, _, hg, h1, h2, h3, h4⟩
  · cases h0
  · cases hv
    intro j hj
    rw [size_flatK] at hj
    rw [get_flatK f sz _ j hj]
    have hpos : 0 < sz := by rcases Nat.eq_zero_or_pos sz with h | h; · subst h; simp at hj
                             · exact h
    have hjd : j / sz < xs.length := by
      have := Nat.div_lt_of_lt_mul (m := j) (n := sz) (k := xs.length) (by rw [Nat.mul_comm]; simpa using hj)
      exact this
    have hx : xs[j / sz]? = some xs[j / sz] := List.getElem?_eq_getElem hjd
    have hm : j % sz < (f xs[j / sz]).length := by rw [hf]; exact Nat.mod_lt _ hpos
    have e0 : (xs.toArray)[j / sz]! = xs[j / sz] := by
      rw [getElem!_pos xs.toArray (j / sz) (by simpa using hjd)]; rfl
    rw [e0]
    have hcell := h.2.cells (g := g) rfl (j / sz * sz + j % sz) _ (flatMap_at hf xs (j / sz) _ (j % sz) _ hx (List.getElem?_eq_getElem hm))
    have hdm : j / sz * sz + j % sz = j := by rw [Nat.mul_comm]; exact Nat.div_add_mod _ _
    rw [hdm, Addr.add_lit] at hcell
    refine ⟨?_, by rw [Nat.zero_add]; exact hfroz hg⟩
    rw [hcell, getElem!_pos (f xs[j / sz]) (j % sz) hm]
    rfl

theorem sortK_below {g m : Nat} {d : Array α} {os : Array Obj} (hg : g < w.heap.size) (hB : B ≤ g) : Below B w (sortWorldK f sz w g 0 m d os) := by
  have h1 : Below B w (putRowK f sz (Sort.ahead w m) g 0 d) := by
    refine ⟨rfl, rfl, rfl, ?_, fun k hk => ?_⟩
    · simp [putRowK, putRow, mapBlock]
    · show (mapBlock _ _ _).heap[k]? = _
      show (w.heap.modify g _)[k]? = _
      rw [Array.getElem?_modify, if_neg (by omega)]
  unfold sortWorldK
  rw [show grow (putRowK f sz (Sort.ahead w m) g 0 d) os = grow (putRowK f sz (Sort.ahead w m) g 0 d) os from rfl]
  refine h1.trans ⟨rfl, rfl, rfl, by simp [grow], fun k hk => ?_⟩
  have : k < (putRowK f sz (Sort.ahead w m) g 0 d).heap.size := by have := h1.size; omega
  simp [grow, Array.getElem?_append, this]

theorem sortK_reads (hf : ∀ x, (f x).length = sz) {g m cap : Nat} {d0 d : Array α} {os : Array Obj} (hH : HoldsK f sz w g 0 d0) (hg : g < w.heap.size) (hs : d.size = d0.size) (hc : d.size ≤ cap) (hm : cap ≤ 9223372036854775807) :
    SlR f sz (sortWorldK f sz w g 0 m d os) (some ⟨g, 0, none⟩) d.size cap d.toList := by
  have hH' : HoldsK f sz (sortWorldK f sz w g 0 m d os) g 0 d := holdsK_sortWorldK_c f sz w g 0 d0 d m os hH hg hs
  have hsz := size_sortWorldK_c f sz w g 0 m d os
  refine ⟨by simp, hc, hm, .inr ⟨g, 0, rfl, by omega, fun i x hx j v hv => ?_⟩⟩
  have hi : i < d.size := by have := (List.getElem?_eq_some_iff.1 hx).1; simpa using this
  have hj : j < sz := by rw [← hf x]; exact (List.getElem?_eq_some_iff.1 hv).1
  rw [(hH'.cell hi hj).1]
  have e1 : d[i]! = x := by
    rw [getElem!_pos d i hi]
    simpa [hi] using hx
  rw [e1]
  have := (List.getElem?_eq_some_iff.1 hv)
  obtain ⟨h1, h2⟩ := this
  rw [getElem!_pos (f x) j h1, h2]
end

theorem permIn_perm {α : Type} [Inhabited α] {d d' : Array α} (h : PermIn 0 d.size d d') : d'.toList.Perm d.toList := by
  have := h.2.2
  have hs := h.1
  rw [Array.extract_eq_self_of_le (by omega), Array.extract_eq_self_of_le (by omega)] at this
  exact this
theorem sortedIn_pairwise {α : Type} [Inhabited α] {lt : α → α → Bool} {d d' : Array α} (hs : d'.size = d.size) (h : SortedIn lt 0 d.size d') : d'.toList.Pairwise (fun a b => lt b a = false) := by
  rw [List.pairwise_iff_getElem]
  intro i j hi hj hij
  have hi' : i < d'.size := by simpa using hi
  have hj' : j < d'.size := by simpa using hj
  have := h i j (Nat.zero_le _) hij (by omega)
  rw [getElem!_pos d' i hi', getElem!_pos d' j hj'] at this
  simpa using this

end Go.Proofs.YtmgkkmcihplojaaGreat
