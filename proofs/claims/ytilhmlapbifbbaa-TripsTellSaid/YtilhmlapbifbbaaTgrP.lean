/- Plain: what the law asks of groups. Imports nothing of the dump. -/
import Derived.Test.YtilhmlapbifbbaaTshP
namespace Go.Proofs.Ytilhmlapbifbbaa
open Go.RowKit

/-- What stands in group i, place k. -/
def ptAt (G : List (List Nat)) (i k : Nat) : Option Nat := (G[i]?).bind (·[k]?)
structure Grp (n : Nat) (f : Nat → Nat → Bool) (G : List (List Nat)) : Prop where
  uniq : ∀ i k i' k' p, ptAt G i k = some p → ptAt G i' k' = some p → i = i' ∧ k = k'
  ex : ∀ p, p < n → ∃ i k, ptAt G i k = some p
  lt : ∀ i k p, ptAt G i k = some p → p < n
  mono : ∀ i k p q, ptAt G i k = some p → ptAt G i (k + 1) = some q → p < q
  ne : ∀ (i : Nat) (R : List Nat), G[i]? = some R → 0 < R.length
  same : ∀ i k i' k' p q, ptAt G i k = some p → ptAt G i' k' = some q → (i = i' ↔ reqv f p q = true)

theorem pw_range (n : Nat) (P : Nat → Bool) : ((List.range n).filter P).Pairwise (· < ·) := List.Pairwise.filter _ List.pairwise_lt_range
theorem pw_at {l : List Nat} (h : l.Pairwise (· < ·)) {i j x y : Nat} (hx : l[i]? = some x) (hy : l[j]? = some y) (hij : i < j) : x < y := by
  have h1 := (List.getElem?_eq_some_iff.1 hx)
  have h2 := (List.getElem?_eq_some_iff.1 hy)
  obtain ⟨a1, b1⟩ := h1
  obtain ⟨a2, b2⟩ := h2
  have := List.pairwise_iff_getElem.1 h i j a1 a2 hij
  omega
theorem pw_inj {l : List Nat} (h : l.Pairwise (· < ·)) {i j x : Nat} (hx : l[i]? = some x) (hy : l[j]? = some x) : i = j := by
  rcases Nat.lt_trichotomy i j with e | e | e
  · have := pw_at h hx hy e; omega
  · exact e
  · have := pw_at h hy hx e; omega
theorem ptAt_grp {f : Nat → Nat → Bool} {n i k p : Nat} (h : ptAt (grpU f n n) i k = some p) : ∃ a, ((List.range n).filter (grpF f))[i]? = some a ∧ (grpL f n a)[k]? = some p := by
  unfold ptAt grpU at h
  rw [List.getElem?_map] at h
  cases e : ((List.range n).filter (grpF f))[i]? with
  | none => rw [e] at h; cases h
  | some a => rw [e] at h; exact ⟨a, rfl, h⟩
theorem grp_leader {f : Nat → Nat → Bool} {a b : Nat} (ha : grpF f a = true) (hb : grpF f b = true) (h : reqv f a b = true) : a = b := by
  rcases Nat.lt_trichotomy a b with e | e | e
  · have := List.all_eq_true.1 hb a (by simpa using e)
    rw [h] at this
    cases this
  · exact e
  · have := List.all_eq_true.1 ha b (by simpa using e)
    rw [reqv_symm h] at this
    cases this
theorem grp_has {f : Nat → Nat → Bool} : ∀ p : Nat, ∃ a, a ≤ p ∧ grpF f a = true ∧ reqv f p a = true := fun p => by
  induction p using Nat.strongRecOn with
  | ind p ih =>
    by_cases h : grpF f p = true
    · exact ⟨p, Nat.le_refl _, h, reqv_refl f p⟩
    · simp only [grpF, Bool.not_eq_true, List.all_eq_false, List.mem_range] at h
      obtain ⟨b, hb, h4⟩ := h
      obtain ⟨a, h1, h2, h3⟩ := ih b hb
      exact ⟨a, by omega, h2, reqv_trans (reqv_symm (by simpa using h4)) h3⟩
theorem grp_of (n : Nat) (f : Nat → Nat → Bool) : Grp n f (grpU f n n) := by
  have mem : ∀ i k p, ptAt (grpU f n n) i k = some p → ∃ a, ((List.range n).filter (grpF f))[i]? = some a ∧ (grpL f n a)[k]? = some p ∧ grpF f a = true ∧ p < n ∧ reqv f p a = true := fun i k p h => by
    obtain ⟨a, h1, h2⟩ := ptAt_grp h
    have m1 := List.mem_of_getElem? h1
    have m2 := grpL_mem.1 (List.mem_of_getElem? h2)
    exact ⟨a, h1, h2, (List.mem_filter.1 m1).2, m2.1, m2.2⟩
  have sm : ∀ i k i' k' p q, ptAt (grpU f n n) i k = some p → ptAt (grpU f n n) i' k' = some q → (i = i' ↔ reqv f p q = true) := fun i k i' k' p q h h' => by
    obtain ⟨a, a1, a2, a3, a4, a5⟩ := mem i k p h
    obtain ⟨b, b1, b2, b3, b4, b5⟩ := mem i' k' q h'
    constructor
    · rintro rfl
      rw [a1] at b1
      cases b1
      exact reqv_trans a5 (reqv_symm b5)
    · intro hr
      have e := grp_leader a3 b3 (reqv_trans (reqv_symm a5) (reqv_trans hr b5))
      subst e
      exact pw_inj (pw_range n _) a1 b1
  refine ⟨fun i k i' k' p h h' => ?_, fun p hp => ?_, fun i k p h => ?_, fun i k p q h h' => ?_, fun i R hR => ?_, sm⟩
  · have hi := (sm i k i' k' p p h h').2 (reqv_refl f p)
    subst hi
    obtain ⟨a, a1, a2, _⟩ := mem i k p h
    obtain ⟨b, b1, b2, _⟩ := mem i k' p h'
    rw [a1] at b1
    cases b1
    exact ⟨rfl, pw_inj (pw_range n _) a2 b2⟩
  · obtain ⟨a, h1, h2, h3⟩ := grp_has (f := f) p
    have m1 : a ∈ (List.range n).filter (grpF f) := List.mem_filter.2 ⟨by simp; omega, h2⟩
    have m2 : p ∈ grpL f n a := grpL_mem.2 ⟨hp, h3⟩
    obtain ⟨i, hi⟩ := List.mem_iff_getElem?.1 m1
    obtain ⟨k, hk⟩ := List.mem_iff_getElem?.1 m2
    refine ⟨i, k, ?_⟩
    unfold ptAt grpU
    rw [List.getElem?_map, hi]
    exact hk
  · obtain ⟨_, _, _, _, h5, _⟩ := mem i k p h
    exact h5
  · obtain ⟨a, a1, a2, _⟩ := mem i k p h
    obtain ⟨b, b1, b2, _⟩ := mem i (k + 1) q h'
    rw [a1] at b1
    cases b1
    exact pw_at (pw_range n _) a2 b2 (by omega)
  · unfold grpU at hR
    rw [List.getElem?_map] at hR
    cases e : ((List.range n).filter (grpF f))[i]? with
    | none => rw [e] at hR; cases hR
    | some a =>
      rw [e] at hR
      cases hR
      have m1 := (List.mem_filter.1 (List.mem_of_getElem? e)).1
      exact grpL_ne (by simpa using m1)

/-- What the groups of a short table are. -/
theorem gro_short {T : List (List Int)} (hm : mayT T = true) (hs : mayT (shortP T) = true) : groP (shortP T) = groP T := by
  have hl : (shortP T).length = T.length := (pass_short hm).low.sq.1
  unfold groP
  rw [if_pos hm, if_pos hs, short_short hm, hl]
theorem wth_dec {n : Nat} {T S : List (List Int)} (h : Shr n T S) {a b : Nat} (ha : a < n) (hb : b < n) : wth S a b = (decide (0 ≤ gt S a b) && decide (0 ≤ gt S b a)) := by
  have h1 := h.loS a b ha hb
  have h2 := h.loS b a hb ha
  unfold wth
  congr 1
  · by_cases e : gt S a b = -1
    · rw [e]; rfl
    · have e2 : 0 ≤ gt S a b := by omega
      simp [e, e2]
  · by_cases e : gt S b a = -1
    · rw [e]; rfl
    · have e2 : 0 ≤ gt S b a := by omega
      simp [e, e2]

/-- The numbers of groups, as far as they are written. -/
structure AtL (n : Nat) (G : List (List Nat)) (i k : Nat) (A : List Int) : Prop where
  len : A.length = n
  val : ∀ i' k' p, ptAt G i' k' = some p → A.getD p 0 = if i' < i ∨ (i' = i ∧ k' < k) then (i' : Int) + 1 else 0
theorem AtL.zero (n : Nat) (G : List (List Nat)) : AtL n G 0 0 (List.replicate n 0) := by
  refine ⟨by simp, fun i' k' p _ => ?_⟩
  rw [if_neg (by omega), List.getD_eq_getElem?_getD, List.getElem?_replicate]
  split <;> rfl
theorem AtL.here {n : Nat} {G : List (List Nat)} {i k p : Nat} {A : List Int} (h : AtL n G i k A) (hp : ptAt G i k = some p) : A.getD p 0 = 0 := by
  rw [h.val i k p hp, if_neg (by omega)]
theorem AtL.step {n : Nat} {f : Nat → Nat → Bool} {G : List (List Nat)} {i k p : Nat} {A : List Int} (h : AtL n G i k A) (hG : Grp n f G) (hp : ptAt G i k = some p) : AtL n G i (k + 1) (A.set p ((i : Int) + 1)) := by
  have hpl : p < A.length := by rw [h.len]; exact hG.lt _ _ _ hp
  refine ⟨by simp [h.len], fun i' k' q hq => ?_⟩
  rw [getD_set' hpl]
  by_cases e : q = p
  · subst e
    obtain ⟨rfl, rfl⟩ := hG.uniq _ _ _ _ _ hp hq
    rw [if_pos rfl, if_pos (by omega)]
  · rw [if_neg e, h.val i' k' q hq]
    have hne : ¬ (i' = i ∧ k' = k) := by
      rintro ⟨rfl, rfl⟩
      rw [hp] at hq
      cases hq
      exact e rfl
    by_cases h1 : i' < i ∨ i' = i ∧ k' < k
    · rw [if_pos h1, if_pos (by omega)]
    · rw [if_neg h1, if_neg (by omega)]
theorem AtL.next {n : Nat} {G : List (List Nat)} {i k : Nat} {A : List Int} (h : AtL n G i k A) (hk : ∀ k' p, ptAt G i k' = some p → k' < k) : AtL n G (i + 1) 0 A := by
  refine ⟨h.len, fun i' k' q hq => ?_⟩
  rw [h.val i' k' q hq]
  by_cases e : i' = i
  · subst e
    have := hk k' q hq
    rw [if_pos (by omega), if_pos (by omega)]
  · by_cases h1 : i' < i
    · rw [if_pos (by omega), if_pos (by omega)]
    · rw [if_neg (by omega), if_neg (by omega)]
theorem AtL.done {n : Nat} {f : Nat → Nat → Bool} {G : List (List Nat)} {i : Nat} {A : List Int} (h : AtL n G i 0 A) (hG : Grp n f G) (hi : G.length ≤ i) {p q : Nat} (hp : p < n) (hq : q < n) : A.getD p 0 ≠ 0 ∧ (A.getD p 0 == A.getD q 0) = reqv f p q := by
  obtain ⟨i1, k1, h1⟩ := hG.ex p hp
  obtain ⟨i2, k2, h2⟩ := hG.ex q hq
  have l1 : i1 < i := by
    unfold ptAt at h1
    cases e : G[i1]? with
    | none => rw [e] at h1; cases h1
    | some r => have := (List.getElem?_eq_some_iff.1 e).1; omega
  have l2 : i2 < i := by
    unfold ptAt at h2
    cases e : G[i2]? with
    | none => rw [e] at h2; cases h2
    | some r => have := (List.getElem?_eq_some_iff.1 e).1; omega
  rw [h.val _ _ _ h1, h.val _ _ _ h2, if_pos (.inl l1), if_pos (.inl l2)]
  refine ⟨by omega, ?_⟩
  apply Bool.eq_iff_iff.2
  rw [← hG.same _ _ _ _ _ _ h1 h2]
  constructor
  · intro e
    have : ((i1 : Int) + 1) = (i2 : Int) + 1 := by simpa using e
    omega
  · rintro rfl
    simp

end Go.Proofs.Ytilhmlapbifbbaa
