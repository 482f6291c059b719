/- Plain: what the law asks of rounds. Imports nothing of the dump. -/
import Derived.Test.YtilhmlapbifbbaaTshP
namespace Go.Proofs.Ytilhmlapbifbbaa
open Go.RowKit

theorem bestU_min {l : List Nat} {row : List Int} : ∀ {k : Nat}, (bestU l row k = none → ∀ b, b < k → b ∈ l ∨ row.getD b 0 = -1) ∧
    ∀ q, bestU l row k = some q → (q < k ∧ q ∉ l ∧ row.getD q 0 ≠ -1) ∧ ∀ b, b < k → b ∉ l → row.getD b 0 ≠ -1 → row.getD q 0 < row.getD b 0 ∨ (row.getD q 0 = row.getD b 0 ∧ q ≤ b)
  | 0 => ⟨fun _ b hb => by omega, fun q h => by simp [bestU] at h⟩
  | k + 1 => by
    obtain ⟨i1, i2⟩ := bestU_min (l := l) (row := row) (k := k)
    rw [bestU_succ]
    unfold bestStep
    by_cases hk : k ∈ l
    · rw [if_pos hk]
      refine ⟨fun h b hb => ?_, fun q h => ?_⟩
      · by_cases e : b = k
        · subst e; exact .inl hk
        · exact i1 h b (by omega)
      · obtain ⟨⟨a1, a2, a3⟩, a4⟩ := i2 q h
        refine ⟨⟨by omega, a2, a3⟩, fun b hb hbl hb0 => ?_⟩
        by_cases e : b = k
        · subst e; exact absurd hk hbl
        · exact a4 b (by omega) hbl hb0
    · rw [if_neg hk]
      cases hb : bestU l row k with
      | none =>
        simp only
        by_cases h0 : row.getD k 0 = -1
        · have e0 : (row.getD k 0 != -1) = false := by rw [h0]; rfl
          rw [e0]
          refine ⟨fun _ b hbk => ?_, fun q h => by cases h⟩
          by_cases e : b = k
          · subst e; exact .inr h0
          · exact i1 hb b (by omega)
        · have e0 : (row.getD k 0 != -1) = true := by simpa using h0
          rw [e0]
          refine ⟨fun h => (by cases h), fun q h => ?_⟩
          have hq : k = q := by simpa using h
          subst hq
          refine ⟨⟨by omega, hk, h0⟩, fun b hbk hbl hb0 => ?_⟩
          by_cases e : b = k
          · subst e; exact .inr ⟨rfl, Nat.le_refl _⟩
          · rcases i1 hb b (by omega) with h1 | h1
            · exact absurd h1 hbl
            · exact absurd h1 hb0
      | some p =>
        simp only
        obtain ⟨⟨a1, a2, a3⟩, a4⟩ := i2 p hb
        by_cases hl : lessI (row.getD k 0) (row.getD p 0) = true
        · rw [if_pos hl]
          refine ⟨fun h => (by cases h), fun q h => ?_⟩
          have hq : k = q := by simpa using h
          subst hq
          have hl2 : row.getD k 0 ≠ -1 ∧ row.getD k 0 < row.getD p 0 := by
            unfold lessI at hl
            simp only [Bool.and_eq_true, bne_iff_ne, Bool.or_eq_true, beq_iff_eq, decide_eq_true_eq] at hl
            rcases hl.2 with h1 | h1
            · exact absurd h1 a3
            · exact ⟨hl.1, h1⟩
          refine ⟨⟨by omega, hk, hl2.1⟩, fun b hbk hbl hb0 => ?_⟩
          by_cases e : b = k
          · subst e; exact .inr ⟨rfl, Nat.le_refl _⟩
          · have := a4 b (by omega) hbl hb0
            omega
        · rw [if_neg hl]
          refine ⟨fun h => (by cases h), fun q h => ?_⟩
          have hq : p = q := by simpa using h
          subst hq
          refine ⟨⟨by omega, a2, a3⟩, fun b hbk hbl hb0 => ?_⟩
          by_cases e : b = k
          · subst e
            have hl2 : ¬ row.getD b 0 < row.getD p 0 := fun h1 => hl (by
              unfold lessI
              rw [Bool.and_eq_true, Bool.or_eq_true]
              exact ⟨bne_iff_ne.2 hb0, .inr (decide_eq_true h1)⟩)
            omega
          · exact a4 b (by omega) hbl hb0

/-- What a round has cost, k places on. -/
def sumU (T : List (List Int)) (l : List Nat) (k : Nat) : Int := (List.range k).foldl (fun s j => if j = 0 then s else s + gt T (l.getD (j - 1) 0) (l.getD j 0)) 0
theorem sumU_succ (T : List (List Int)) (l : List Nat) (k : Nat) : sumU T l (k + 1) = if k = 0 then sumU T l k else sumU T l k + gt T (l.getD (k - 1) 0) (l.getD k 0) := by simp [sumU, List.range_succ]
theorem sumU_app (T : List (List Int)) (l m : List Nat) : ∀ k, k ≤ l.length → sumU T (l ++ m) k = sumU T l k
  | 0, _ => rfl
  | k + 1, h => by
    rw [sumU_succ, sumU_succ, sumU_app T l m k (by omega)]
    have e : ∀ j, j < l.length → (l ++ m).getD j 0 = l.getD j 0 := fun j hj => by rw [List.getD_eq_getElem?_getD, List.getElem?_append_left hj, ← List.getD_eq_getElem?_getD]
    rw [e k (by omega), e (k - 1) (by omega)]
/-- A round, step by step. -/
structure Trail (T : List (List Int)) (n i : Nat) (l : List Nat) (c : Int) : Prop where
  head : l[0]? = some i
  nd : l.Nodup
  lt : ∀ x ∈ l, x < n
  steps : ∀ j, j + 1 < l.length → bestU (l.take (j + 1)) (T.getD (l.getD j 0) []) n = some (l.getD (j + 1) 0)
  cost : c = sumU T l l.length
theorem Trail.len {T : List (List Int)} {n i : Nat} {l : List Nat} {c : Int} (h : Trail T n i l c) : 0 < l.length ∧ l.length ≤ n := by
  refine ⟨(List.getElem?_eq_some_iff.1 h.head).1, ?_⟩
  have := nodup_len (m := List.range n) h.nd (fun x hx => by simpa using h.lt x hx)
  simpa using this
theorem Trail.start (T : List (List Int)) {n i : Nat} (hi : i < n) : Trail T n i [i] 0 := ⟨rfl, by simp, by simpa using hi, fun j hj => by simp at hj, rfl⟩
theorem Trail.step {T : List (List Int)} {n i : Nat} {l : List Nat} {c : Int} (h : Trail T n i l c) {b : Nat} (hb : bestU l (T.getD (lastN l) []) n = some b) : Trail T n i (l ++ [b]) (c + gt T (lastN l) b) := by
  obtain ⟨hp, _⟩ := h.len
  obtain ⟨⟨b1, b2, b3⟩, _⟩ := bestU_min.2 b hb
  have hlast : ∀ j, j + 1 = l.length → l.getD j 0 = lastN l := fun j hj => by unfold lastN; rw [← hj]; rfl
  refine ⟨by rw [List.getElem?_append_left hp]; exact h.head, ?_, fun x hx => ?_, fun j hj => ?_, ?_⟩
  · rw [List.nodup_append]
    refine ⟨h.nd, by simp, fun a ha c hc => ?_⟩
    simp at hc
    subst hc
    rintro rfl
    exact b2 ha
  · rcases List.mem_append.1 hx with e | e
    · exact h.lt x e
    · simp at e
      rw [e]
      exact b1
  · rw [List.length_append, List.length_singleton] at hj
    have ej : (l ++ [b]).getD j 0 = l.getD j 0 := by rw [List.getD_eq_getElem?_getD, List.getElem?_append_left (by omega), ← List.getD_eq_getElem?_getD]
    rw [ej]
    by_cases e : j + 1 < l.length
    · have ej1 : (l ++ [b]).getD (j + 1) 0 = l.getD (j + 1) 0 := by rw [List.getD_eq_getElem?_getD, List.getElem?_append_left e, ← List.getD_eq_getElem?_getD]
      rw [ej1, List.take_append_of_le_length (by omega)]
      exact h.steps j e
    · have e1 : j + 1 = l.length := by omega
      have ej1 : (l ++ [b]).getD (j + 1) 0 = b := by rw [e1, List.getD_eq_getElem?_getD, List.getElem?_append_right (Nat.le_refl _), Nat.sub_self]; rfl
      rw [ej1, hlast j e1, e1, List.take_append_of_le_length (Nat.le_refl _), List.take_length]
      exact hb
  · rw [List.length_append, List.length_singleton, sumU_succ, if_neg (by omega), sumU_app T l [b] _ (Nat.le_refl _), ← h.cost]
    have e1 : (l ++ [b]).getD (l.length - 1) 0 = lastN l := by rw [List.getD_eq_getElem?_getD, List.getElem?_append_left (by omega), ← List.getD_eq_getElem?_getD]; rfl
    have e2 : (l ++ [b]).getD l.length 0 = b := by rw [List.getD_eq_getElem?_getD, List.getElem?_append_right (Nat.le_refl _), Nat.sub_self]; rfl
    rw [e1, e2]
theorem goR_trail {T : List (List Int)} {n i : Nat} : ∀ (f : Nat) (l : List Nat) (c : Int), Trail T n i l c → n < f + l.length → Trail T n i (goR T n f l c).1 (goR T n f l c).2 ∧ bestU (goR T n f l c).1 (T.getD (lastN (goR T n f l c).1) []) n = none
  | 0, l, c, h, hf => by have := h.len; omega
  | f + 1, l, c, h, hf => by
    unfold goR
    cases hb : bestU l (T.getD (lastN l) []) n with
    | none => exact ⟨h, hb⟩
    | some b => exact goR_trail f _ _ (h.step hb) (by simp; omega)

/-- What the law asks of a round. -/
structure Rnd (T S : List (List Int)) (n i : Nat) (l : List Nat) (c : Int) : Prop where
  pos : 0 < l.length
  le : l.length ≤ n
  head : l[0]? = some i
  lt : ∀ (j p : Nat), l[j]? = some p → p < n
  nd : ∀ (j p : Nat), l[j]? = some p → p ∉ l.take j
  best : ∀ (j p b : Nat), l[j]? = some p → b < n → b ∉ l.take (j + 1) → 0 ≤ gt T p b → ∃ q : Nat, l[j + 1]? = some q ∧ 0 ≤ gt T p q ∧ gt T p q ≤ gt T p b ∧ (gt T p q = gt T p b → q ≤ b)
  way : ∀ (j p q : Nat), l[j]? = some p → l[j + 1]? = some q → 0 ≤ gt T p q
  short : ∀ (j p : Nat), l[j]? = some p → 0 ≤ gt S i p ∧ gt S i p ≤ sumU T l (j + 1)
  sumlo : ∀ j, j ≤ l.length → 0 ≤ sumU T l j
  sumhi : ∀ j, j ≤ l.length → sumU T l j ≤ 1099511627776 * j
  cost : sumU T l l.length = c
theorem rnd_of {T : List (List Int)} {n i : Nat} (hm : mayT T = true) (hn : T.length = n) (hi : i < n) : Rnd T (shortP T) n i (goR T n n [i] 0).1 (goR T n n [i] 0).2 := by
  obtain ⟨ht, hnone⟩ := goR_trail n [i] 0 (Trail.start T hi) (by simp)
  obtain ⟨l, hl⟩ : ∃ l, l = (goR T n n [i] 0).1 := ⟨_, rfl⟩
  obtain ⟨c, hc⟩ : ∃ c, c = (goR T n n [i] 0).2 := ⟨_, rfl⟩
  rw [← hl, ← hc] at ht
  rw [← hl] at hnone
  rw [← hl, ← hc]
  clear hl hc
  have hshr := shr_of hm
  rw [hn] at hshr
  obtain ⟨hp, hle⟩ := ht.len
  have gd : ∀ (j p : Nat), l[j]? = some p → l.getD j 0 = p := fun j p h => by rw [List.getD_eq_getElem?_getD, h]; rfl
  have hlt : ∀ (j p : Nat), l[j]? = some p → p < n := fun j p h => ht.lt p (List.mem_of_getElem? h)
  have hstep : ∀ (j p q : Nat), l[j]? = some p → l[j + 1]? = some q → bestU (l.take (j + 1)) (T.getD p []) n = some q := fun j p q h h' => by
    have := ht.steps j (List.getElem?_eq_some_iff.1 h').1
    rw [gd j p h, gd (j + 1) q h'] at this
    exact this
  have hway : ∀ (j p q : Nat), l[j]? = some p → l[j + 1]? = some q → 0 ≤ gt T p q := fun j p q h h' => by
    have h1 := ((bestU_min.2 q (hstep j p q h h')).1).2.2
    have h2 := hshr.loT p q (hlt _ _ h) (hlt _ _ h')
    have h3 : gt T p q ≠ -1 := h1
    omega
  have hsum : ∀ j, j ≤ l.length → 0 ≤ sumU T l j ∧ sumU T l j ≤ 1099511627776 * j := fun j => by
    induction j with
    | zero => intro _; exact ⟨Int.le_refl _, Int.le_refl _⟩
    | succ j ih =>
      intro hj
      have h1 := ih (by omega)
      rw [sumU_succ]
      split
      · omega
      · rename_i h0
        have hq : l[j]? = some l[j] := List.getElem?_eq_getElem (by omega)
        have hpq : l[j - 1]? = some l[j - 1] := List.getElem?_eq_getElem (by omega)
        have h2 := hway (j - 1) _ _ hpq (by rw [show j - 1 + 1 = j by omega]; exact hq)
        have h3 := hshr.hiT _ _ (hlt _ _ hpq) (hlt _ _ hq)
        rw [gd _ _ hq, gd _ _ hpq]
        omega
  refine ⟨hp, hle, ht.head, hlt, fun j p h hmem => ?_, fun j p b h hb hbl h0 => ?_, hway, fun j => ?_, fun j hj => (hsum j hj).1, fun j hj => (hsum j hj).2, ht.cost.symm⟩
  · obtain ⟨k, hk⟩ := List.mem_iff_getElem?.1 hmem
    rw [List.getElem?_take] at hk
    split at hk
    · rename_i hkj
      have hjl := (List.getElem?_eq_some_iff.1 h).1
      have := (List.getElem?_inj (i := k) (j := j) (by omega) ht.nd).1 (hk.trans h.symm)
      omega
    · cases hk
  · have hjl := (List.getElem?_eq_some_iff.1 h).1
    by_cases e : j + 1 < l.length
    · have hq : l[j + 1]? = some l[j + 1] := List.getElem?_eq_getElem e
      have h1 := (bestU_min.2 _ (hstep j p _ h hq)).2 b hb hbl (show gt T p b ≠ -1 by omega)
      refine ⟨_, hq, hway j p _ h hq, ?_⟩
      have h2 : gt T p l[j + 1] < gt T p b ∨ (gt T p l[j + 1] = gt T p b ∧ l[j + 1] ≤ b) := h1
      omega
    · have e1 : j + 1 = l.length := by omega
      rw [e1, List.take_length] at hbl
      have e2 : lastN l = p := by unfold lastN; rw [← e1]; exact gd j p h
      rw [e2] at hnone
      rcases bestU_min.1 hnone b hb with h1 | h1
      · exact absurd h1 hbl
      · have h2 : gt T p b = -1 := h1
        omega
  · induction j with
    | zero =>
      intro p h
      rw [ht.head] at h
      cases h
      have := hshr.dg i hi
      have h1 := (hsum 1 (by omega)).1
      rw [this]
      exact ⟨Int.le_refl _, h1⟩
    | succ j ih =>
      intro q h
      have hjl := (List.getElem?_eq_some_iff.1 h).1
      have hpq : l[j]? = some l[j] := List.getElem?_eq_getElem (by omega)
      have h1 := ih _ hpq
      have h2 := hway j _ q hpq h
      have h3 := hshr.le _ _ (hlt _ _ hpq) (hlt _ _ h) h2
      have h4 := hshr.tri i q _ hi (hlt _ _ h) (hlt _ _ hpq) h1.1 h3.1
      rw [sumU_succ, if_neg (by omega), gd _ _ h, show j + 1 - 1 = j by omega, gd _ _ hpq]
      omega

end Go.Proofs.Ytilhmlapbifbbaa
