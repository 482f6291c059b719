/- Walk: the library's sort at corners. -/
import Derived.Test.YtjiklfffcnfdjaaGreatGm
import Derived.Test.YtjiklfffcnfdjaaGreatClpY
import Derived.Test.YtjiklfffcnfdjaaGreatSrt
namespace Go.Proofs.YtjiklfffcnfdjaaGreat
open Go.RowKit Go.Sort

theorem flat_len4C : ∀ l : List Cr, (l.flatMap crC).length = l.length * 4
  | [] => rfl
  | x :: l => by rw [List.flatMap_cons, List.length_append, flat_len4C l, List.length_cons]; show 4 + _ = _; omega
/-- The sort's world holds the row still as one's own. -/
theorem sortCr_own {w : World} {B g m n cap : Nat} {e : TypeId} {ks : List CrK} {d : Array CrK} {os : Array Obj} (h : OwnR (fun c : CrK => crC c.1) 4 e B w (.slice (some ⟨g, 0, none⟩) n cap) n ks) (hd : d.size = n) :
    OwnR crC 4 e B (sortWorldK (fun c : CrK => crC c.1) 4 w g 0 m d os) (.slice (some ⟨g, 0, none⟩) n cap) n (d.toList.map Subtype.val) := by
  have hf : ∀ x : CrK, (crC x.1).length = 4 := fun _ => rfl
  have hH := holdsK_of_own hf h
  have hl := h.1
  rcases h.2.2 with ⟨h0, _⟩ | ⟨g', cap', cur, hv, hB, hg, h1, h2, h3, h4⟩
  · cases h0
  · cases hv
    have hgs := hblt hg
    have hH' : HoldsK (fun c : CrK => crC c.1) 4 (sortWorldK (fun c : CrK => crC c.1) 4 w g 0 m d os) g 0 d := holdsK_sortWorldK_c _ 4 w g 0 ks.toArray d m os hH hgs (by simp [hd, hl])
    have hheap : (sortWorldK (fun c : CrK => crC c.1) 4 w g 0 m d os).heap[g]? = some (.cells (putCells id 0 (flatK (fun c : CrK => crC c.1) 4 d) cur) e (0, 0)) := by
      unfold sortWorldK
      have hx : (putRowK (fun c : CrK => crC c.1) 4 (Sort.ahead w m) g 0 d).heap[g]? = some (.cells (putCells id 0 (flatK (fun c : CrK => crC c.1) 4 d) cur) e (0, 0)) := by
        show (w.heap.modify g _)[g]? = _
        rw [Array.getElem?_modify, if_pos rfl, hg]
        rfl
      have hlt := hblt hx
      simp only [grow, Array.getElem?_append, if_pos hlt]
      exact hx
    refine ⟨by simp [hd], by rw [flat_len4C, List.length_map, Array.length_toList, hd], .inr ⟨g, cap, _, rfl, hB, hheap, h1, h2, by simpa [putCells] using h3, ?_⟩⟩
    apply List.ext_getElem?
    intro j
    by_cases hj : j < n * 4
    · have hi : j / 4 < d.size := by omega
      have hc := (hH'.cell hi (show j % 4 < 4 by omega)).1
      rw [List.getElem?_take_of_lt hj]
      have e1 : 0 + j / 4 * 4 + j % 4 = j := by omega
      rw [e1] at hc
      have e2 : (putCells id 0 (flatK (fun c : CrK => crC c.1) 4 d) cur).toList[j]? = some (crC d[j / 4]!.1)[j % 4]! := by
        have := hc
        simp only [World.cell?, hheap] at this
        simpa using this
      rw [e2]
      have hx : (d.toList.map Subtype.val)[j / 4]? = some d[j / 4]!.1 := by
        rw [List.getElem?_map, getElem!_pos d (j / 4) hi]
        simp [hi]
      have hu : (crC d[j / 4]!.1)[j % 4]? = some (crC d[j / 4]!.1)[j % 4]! := by
        have hlt : j % 4 < (crC d[j / 4]!.1).length := by show j % 4 < 4; omega
        rw [List.getElem?_eq_getElem hlt, getElem!_pos (crC d[j / 4]!.1) (j % 4) hlt]
      have := flatMap_at crC_len _ _ _ _ _ hx hu
      rw [← this]
      congr 1
      omega
    · rw [List.getElem?_eq_none (by rw [List.length_take]; omega), List.getElem?_eq_none (by rw [flat_len4C, List.length_map, Array.length_toList, hd]; omega)]

def keysCr (xs : List Cr) (h : ∀ c ∈ xs, CrSmall c) : List CrK := xs.pmap Subtype.mk h
theorem keysCr_map (xs : List Cr) (h : ∀ c ∈ xs, CrSmall c) : (keysCr xs h).map Subtype.val = xs := by
  unfold keysCr
  rw [List.map_pmap]
  simp
theorem keysCr_flat (ks : List CrK) : ks.flatMap (fun c => crC c.1) = (ks.map Subtype.val).flatMap crC := by
  rw [List.flatMap_map]

theorem sortcr_any (v : Value) (n : Nat) (xs : List Cr) (B : Nat) (w : World) (hk : ∀ c ∈ xs, CrSmall c) (hown : OwnR crC 4 105 B w v n xs) (hn : n ≤ 100000) :
    Calls Tryz.prog 97 #[v, .func (.func 98) #[] #[]] w fun e w' => e = .returned (.tuple #[]) ∧ ∃ ys, ys.Perm xs ∧ ys.Pairwise (fun p q => ¬ crLt q p) ∧ OwnR crC 4 105 B w' v n ys ∧ Below B w w' := by
  have hl := hown.1
  by_cases h0 : n = 0
  · subst h0
    obtain rfl := List.eq_nil_of_length_eq_zero hl
    obtain ⟨a, c, rfl, hs⟩ := OwnR.reads crC_len hown
    refine (AnyF.slices_SortFunc_none Tryz.lSortCor a c _ w).mono ?_
    rintro e w' ⟨rfl, rfl⟩
    exact ⟨rfl, [], List.Perm.refl _, List.Pairwise.nil, hown, Below.refl _ _⟩
  rcases hown.2.2 with ⟨_, hx⟩ | ⟨g, cap, cur, rfl, hBg, hg, h1, h2, h3, h4⟩
  · exact absurd hx h0
  have hkm := keysCr_map xs hk
  obtain ⟨ks, hks⟩ : ∃ ks, ks = keysCr xs hk := ⟨_, rfl⟩
  rw [← hks] at hkm
  have hkl : ks.length = n := by rw [← hl, ← hkm, List.length_map]
  have hfl : ∀ x : CrK, (crC x.1).length = 4 := fun _ => rfl
  have hownK : OwnR (fun c : CrK => crC c.1) 4 105 B w (.slice (some ⟨g, 0, none⟩) n cap) n ks := ⟨hkl, by rw [keysCr_flat, hkm]; exact hown.2⟩
  have hH := holdsK_of_own hfl hownK
  have hgs : g < w.heap.size := (Array.getElem?_eq_some_iff.1 hg).1
  have eg : ∀ args w, (callFunc 98 args).run Tryz.prog w = .ok (.enter 98 args) w := enters_of Tryz.func98 (by kernel_rfl) rfl
  have h := AnyQ.slices_SortFunc Tryz.lSortCor 4 Tryz.isAgg105 Tryz.sizeOf105 (fun c : CrK => crC c.1) hfl (fun x => crC_one x.1) cmpCrK swoCrK 98 #[] g 0 cap ks.toArray w eg (fun _ _ _ _ x y => cmpcr_any x.1 y.1 _ x.2 y.2) hH hgs (by simp; omega)
  have hsz : ks.toArray.size = n := by simpa using hkl
  rw [hsz] at h
  refine Calls.mono h ?_
  rintro e w' ⟨rfl, d', m, os, hp, hs, rfl⟩
  have hds : d'.size = ks.toArray.size := hp.1
  have hp' : PermIn 0 ks.toArray.size ks.toArray d' := by rw [hsz]; exact hp
  have hs' : SortedIn (ltOf cmpCrK) 0 ks.toArray.size d' := by rw [hsz]; exact hs
  have q1 : d'.toList.Perm ks := by simpa using permIn_perm hp'
  have q2 := sortedIn_pairwise hds hs'
  refine ⟨rfl, d'.toList.map Subtype.val, ?_, ?_, sortCr_own hownK (by rw [hds, hsz]), sortK_below hgs hBg⟩
  · rw [← hkm]; exact q1.map _
  · rw [List.pairwise_map]
    exact q2.imp fun {p q} hpq => (ltCrK_false q p).1 hpq

end Go.Proofs.YtjiklfffcnfdjaaGreat
