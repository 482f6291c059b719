/- Plain: rounds. Imports nothing of the dump. -/
import Derived.Test.YtilhmlapbifbbaaTriP
namespace Go.Proofs.Ytilhmlapbifbbaa
open Go.RowKit

theorem nodup_len {α : Type} [BEq α] [LawfulBEq α] : ∀ {l m : List α}, l.Nodup → (∀ x ∈ l, x ∈ m) → l.length ≤ m.length
  | [], m, _, _ => Nat.zero_le _
  | a :: l, m, hn, hs => by
    have ha := hs a (by simp)
    have h1 := List.nodup_cons.1 hn
    have h2 : l.length ≤ (m.erase a).length := nodup_len h1.2 (fun x hx => by
      have hne : x ≠ a := fun e => h1.1 (e ▸ hx)
      exact (List.mem_erase_of_ne hne).2 (hs x (List.mem_cons_of_mem _ hx)))
    have h3 := List.length_erase_of_mem ha
    have h4 : 0 < m.length := List.length_pos_of_mem ha
    simp only [List.length_cons]
    omega

def bestStep (l : List Nat) (row : List Int) (best : Option Nat) (b : Nat) : Option Nat :=
  if b ∈ l then best else match best with
    | none => if row.getD b 0 != -1 then some b else none
    | some p => if lessI (row.getD b 0) (row.getD p 0) then some b else some p
def bestU (l : List Nat) (row : List Int) (k : Nat) : Option Nat := (List.range k).foldl (bestStep l row) none
def bestI : Option Nat → Int
  | none => -1
  | some p => p
theorem bestU_succ (l : List Nat) (row : List Int) (k : Nat) : bestU l row (k + 1) = bestStep l row (bestU l row k) k := by
  simp [bestU, List.range_succ]
theorem bestU_some {l : List Nat} {row : List Int} : ∀ {k p : Nat}, bestU l row k = some p → p < k ∧ p ∉ l ∧ row.getD p 0 ≠ -1
  | 0, p, h => by simp [bestU] at h
  | k + 1, p, h => by
    rw [bestU_succ] at h
    unfold bestStep at h
    split at h
    · have := bestU_some h; exact ⟨by omega, this.2⟩
    · rename_i hk
      cases hb : bestU l row k with
      | none =>
        rw [hb] at h
        simp only at h
        split at h
        · rename_i h1
          cases h
          exact ⟨by omega, hk, by simpa using h1⟩
        · cases h
      | some q =>
        rw [hb] at h
        simp only at h
        split at h
        · rename_i h1
          cases h
          refine ⟨by omega, hk, ?_⟩
          intro e
          rw [e] at h1
          simp [lessI] at h1
        · cases h
          have := bestU_some hb
          exact ⟨by omega, this.2⟩

def lastN (l : List Nat) : Nat := l.getD (l.length - 1) 0
def goR (t : List (List Int)) (n : Nat) : Nat → List Nat → Int → List Nat × Int
  | 0, l, c => (l, c)
  | f + 1, l, c => match bestU l (t.getD (lastN l) []) n with
    | none => (l, c)
    | some b => goR t n f (l ++ [b]) (c + gt t (lastN l) b)
def rouE (t : List (List Int)) (i : Int) : Int := if mayT t ∧ 0 ≤ i ∧ i < t.length then 0 else 2
def rouP (t : List (List Int)) (i : Int) : List Nat × Int := if mayT t ∧ 0 ≤ i ∧ i < t.length then goR t t.length t.length [i.toNat] 0 else ([], 0)

/-- A round that is under way. -/
structure Going (t : List (List Int)) (n i : Nat) (l : List Nat) (c : Int) : Prop where
  ne : l ≠ []
  nd : l.Nodup
  lt : ∀ x ∈ l, x < n
  lo : 0 ≤ c
  hi : c ≤ 1099511627776 * l.length
  eq : goR t n (n + 1 - l.length) l c = goR t n n [i] 0
theorem Going.len {t : List (List Int)} {n i : Nat} {l : List Nat} {c : Int} (h : Going t n i l c) : l.length ≤ n := by
  have := nodup_len (m := List.range n) h.nd (fun x hx => List.mem_range.2 (h.lt x hx))
  simpa using this
theorem Going.pos {t : List (List Int)} {n i : Nat} {l : List Nat} {c : Int} (h : Going t n i l c) : 0 < l.length := List.length_pos_iff.2 h.ne
theorem Going.start {t : List (List Int)} {n i : Nat} (hi : i < n) : Going t n i [i] 0 := ⟨by simp, by simp, by simpa using hi, by omega, by simp, by simp⟩
theorem Going.last {t : List (List Int)} {n i : Nat} {l : List Nat} {c : Int} (h : Going t n i l c) : lastN l < n := by
  have hp := h.pos
  unfold lastN
  rw [List.getD_eq_getElem?_getD, List.getElem?_eq_getElem (by omega)]
  exact h.lt _ (List.getElem_mem _)
theorem Going.stop {t : List (List Int)} {n i : Nat} {l : List Nat} {c : Int} (h : Going t n i l c) (hb : bestU l (t.getD (lastN l) []) n = none) : goR t n n [i] 0 = (l, c) := by
  rw [← h.eq]
  have hl := h.len
  obtain ⟨f, hf⟩ : ∃ f, n + 1 - l.length = f + 1 := ⟨n - l.length, by omega⟩
  rw [hf]
  unfold goR
  rw [hb]
theorem Going.step {t : List (List Int)} {n i : Nat} {l : List Nat} {c : Int} (hm : mayT t = true) (ht : t.length = n) (h : Going t n i l c) {b : Nat} (hb : bestU l (t.getD (lastN l) []) n = some b) : Going t n i (l ++ [b]) (c + gt t (lastN l) b) := by
  obtain ⟨h1, h2, h3⟩ := bestU_some hb
  have hl := h.len
  have hg := mayT_at hm (a := lastN l) (b := b) (by rw [ht]; exact h.last) (by rw [ht]; exact h1)
  have h3' : gt t (lastN l) b ≠ -1 := h3
  have hlo := h.lo
  have hhi := h.hi
  refine ⟨by simp, ?_, ?_, by omega, by simp; omega, ?_⟩
  · rw [List.nodup_append]
    refine ⟨h.nd, by simp, fun x hx y hy => ?_⟩
    simp at hy
    rw [hy]
    exact fun e => h2 (e ▸ hx)
  · intro x hx
    rcases List.mem_append.1 hx with h4 | h4
    · exact h.lt x h4
    · simp at h4
      omega
  · rw [← h.eq]
    obtain ⟨f, hf⟩ : ∃ f, n + 1 - l.length = f + 1 := ⟨n - l.length, by omega⟩
    have hf2 : n + 1 - (l ++ [b]).length = f := by simp; omega
    rw [hf, hf2]
    conv => rhs; unfold goR
    rw [hb]

end Go.Proofs.Ytilhmlapbifbbaa
