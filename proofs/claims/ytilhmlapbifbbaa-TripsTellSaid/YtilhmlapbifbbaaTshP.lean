/- Plain: what the law asks of a short table. Imports nothing of the dump. -/
import Derived.Test.YtilhmlapbifbbaaBfP
namespace Go.Proofs.Ytilhmlapbifbbaa
open Go.RowKit

/-- A table that may be and its short one. -/
structure Shr (n : Nat) (T S : List (List Int)) : Prop where
  n12 : n ≤ 12
  sqT : Sq n T
  sqS : Sq n S
  loT : ∀ a b, a < n → b < n → -1 ≤ gt T a b
  hiT : ∀ a b, a < n → b < n → gt T a b ≤ 1099511627776
  loS : ∀ a b, a < n → b < n → -1 ≤ gt S a b
  hiS : ∀ a b, a < n → b < n → gt S a b ≤ 4503599627370496
  dg : ∀ a, a < n → gt S a a = 0
  le : ∀ a b, a < n → b < n → 0 ≤ gt T a b → 0 ≤ gt S a b ∧ gt S a b ≤ gt T a b
  tri : ∀ a b c, a < n → b < n → c < n → 0 ≤ gt S a c → 0 ≤ gt S c b → 0 ≤ gt S a b ∧ gt S a b ≤ gt S a c + gt S c b
  comes : ∀ a b, a < n → b < n → a ≠ b → 0 ≤ gt S a b → ∃ c, c < n ∧ c ≠ b ∧ 0 ≤ gt S a c ∧ 0 ≤ gt T c b ∧ gt S a c + gt T c b = gt S a b
theorem shr_of {T : List (List Int)} (hm : mayT T = true) : Shr T.length T (shortP T) := by
  have hp := pass_short hm
  obtain ⟨h12, hsq⟩ := mayT_sq hm
  have hhi : ∀ a b, a < T.length → b < T.length → gt (shortP T) a b ≤ 4503599627370496 := fun a b ha hb => by
    have h1 := hp.hi a b ha hb
    have h3 : 2 ^ T.length ≤ 2 ^ 12 := Nat.pow_le_pow_right (by decide) h12
    have h4 : ((2 ^ T.length : Nat) : Int) = 2 ^ T.length := by simp
    rw [← h4] at h1
    omega
  refine ⟨h12, hsq, hp.low.sq, fun a b ha hb => (mayT_at hm ha hb).1, fun a b ha hb => (mayT_at hm ha hb).2, hp.low.low, hhi, hp.low.dg, fun a b ha hb h => ?_, hp.tri, fun a b ha hb hne h => ?_⟩
  · by_cases e : a = b
    · subst e
      have := hp.low.dg a ha
      omega
    · exact hp.le a b ha hb e h
  · obtain ⟨c, h1, h2, h3, h4, h5⟩ := hp.comes a b ha hb hne h
    refine ⟨c, h1, h2, h3, h4, ?_⟩
    have h6 := hp.le c b h1 hb h2 h4
    have h7 := hp.tri a b c ha hb h1 h3 h6.1
    omega

def cm0 (T S : List (List Int)) (i j : Nat) : Bool := decide (i = j) || decide (gt S i j < 0) || (gt S i j == gt T i j)
def cmS (T S : List (List Int)) (i j c : Nat) : Bool := decide (c ≠ j) && decide (0 ≤ gt S i c) && decide (0 ≤ gt T c j) && (gt S i j == gt S i c + gt T c j)
def cmU (T S : List (List Int)) (i j k : Nat) : Bool := cm0 T S i j || (List.range k).any (cmS T S i j)
theorem cmU_zero (T S : List (List Int)) (i j : Nat) : cmU T S i j 0 = cm0 T S i j := by simp [cmU]
theorem cmU_succ (T S : List (List Int)) (i j k : Nat) : cmU T S i j (k + 1) = (cmU T S i j k || cmS T S i j k) := by
  unfold cmU
  rw [List.range_succ, List.any_append]
  simp [Bool.or_assoc]
theorem cmU_all {n : Nat} {T S : List (List Int)} (h : Shr n T S) {i j : Nat} (hi : i < n) (hj : j < n) : cmU T S i j n = true := by
  unfold cmU
  by_cases e : i = j
  · simp [cm0, e]
  · by_cases h0 : 0 ≤ gt S i j
    · obtain ⟨c, h1, h2, h3, h4, h5⟩ := h.comes i j hi hj e h0
      rw [Bool.or_eq_true]
      right
      rw [List.any_eq_true]
      exact ⟨c, by simpa using h1, by simp [cmS, h2, h3, h4, h5]⟩
    · simp [cm0]
      left
      left
      right
      omega

end Go.Proofs.Ytilhmlapbifbbaa
