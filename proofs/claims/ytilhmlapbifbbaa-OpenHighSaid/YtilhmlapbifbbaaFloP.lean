/- Plain: what floors are. -/
import Derived.Test.YtilhmlapbifbbaaFlo
namespace Go.Proofs.Ytilhmlapbifbbaa
open Go.RowKit

theorem spOk_good {xs : List Spn} (h : spOk xs = true) {k : Nat} (hk : k < xs.length) : goodAt xs k = true := by
  simp only [spOk, Bool.and_eq_true, List.all_eq_true] at h
  exact h.2 k (by simpa using hk)
theorem spOk_next {xs : List Spn} (h : spOk xs = true) {k : Nat} {x y : Spn} (hx : xs[k]? = some x) (hy : xs[k + 1]? = some y) : x.hi < y.lo := by
  have := spOk_good h (List.getElem?_eq_some_iff.1 hy).1
  rw [goodAt_succ (by omega) hy (by simpa using hx)] at this
  simp only [Bool.and_eq_true, decide_eq_true_eq] at this
  exact this.2
theorem spOk_lt {xs : List Spn} (h : spOk xs = true) {j : Nat} : ∀ {k : Nat} {x y : Spn}, j < k → xs[j]? = some x → xs[k]? = some y → x.hi < y.lo := by
  intro k
  induction k with
  | zero => intro x y hjk; omega
  | succ k ih =>
    intro x y hjk hx hy
    by_cases hj : j = k
    · subst hj; exact spOk_next h hx hy
    · obtain ⟨z, hz⟩ : ∃ z, xs[k]? = some z := ⟨_, List.getElem?_eq_getElem (by have := (List.getElem?_eq_some_iff.1 hy).1; omega)⟩
      have h1 := ih (by omega) hx hz
      have h2 := spOk_next h hz hy
      have h3 := spOk_may h hz
      omega

theorem eachUp_lt (cf : Cfg) (xs : List Spn) (k : Nat) : ∀ p ∈ eachUp cf xs k, p.1 < k := by
  induction k with
  | zero => intro p hp; cases hp
  | succ k ih =>
    cases h : openAt cf xs k with
    | true =>
      rw [eachUp_yes h]
      intro p hp
      rcases List.mem_append.1 hp with hp | hp
      · have := ih p hp; omega
      · simp at hp; subst hp; exact Nat.lt_succ_self k
    | false => rw [eachUp_no h]; intro p hp; have := ih p hp; omega
theorem eachUp_open (cf : Cfg) (xs : List Spn) (k : Nat) : ∀ p ∈ eachUp cf xs k, openAt cf xs p.1 = true := by
  induction k with
  | zero => intro p hp; cases hp
  | succ k ih =>
    cases h : openAt cf xs k with
    | true =>
      rw [eachUp_yes h]
      intro p hp
      rcases List.mem_append.1 hp with hp | hp
      · exact ih p hp
      · simp at hp; subst hp; exact h
    | false => rw [eachUp_no h]; exact ih
theorem eachUp_mono (cf : Cfg) (xs : List Spn) (k : Nat) : ∀ (i j : Nat) (p q : Nat × Int), i < j → (eachUp cf xs k)[i]? = some p → (eachUp cf xs k)[j]? = some q → p.1 < q.1 := by
  induction k with
  | zero => intro i j p q _ hp; cases hp
  | succ k ih =>
    cases h : openAt cf xs k with
    | true =>
      rw [eachUp_yes h]
      intro i j p q hij hp hq
      have hjl := (List.getElem?_eq_some_iff.1 hq).1
      simp at hjl
      by_cases hj : j < (eachUp cf xs k).length
      · rw [List.getElem?_append_left hj] at hq
        rw [List.getElem?_append_left (by omega)] at hp
        exact ih i j p q hij hp hq
      · obtain rfl : j = (eachUp cf xs k).length := by omega
        rw [List.getElem?_append_right (Nat.le_refl _)] at hq
        simp at hq
        rw [List.getElem?_append_left (by omega)] at hp
        rw [← hq]
        exact eachUp_lt cf xs k p (List.mem_of_getElem? hp)
    | false => rw [eachUp_no h]; exact ih

/-- What the law asks of a floor. -/
structure FlrGood (xs : List Spn) (fs : List Flr) (i : Nat) (f : Flr) : Prop where
  clear : ∀ s ∈ xs, ¬ (f.y < s.hi ∧ s.lo < f.top)
  found : (xs.any fun s => (s.hi == f.y) && s.walk) = true
  rises : ∀ g, 0 < i → fs[i - 1]? = some g → g.top ≤ f.y

theorem flr_good {cf : Cfg} {xs : List Spn} (h : (cfgOk cf && spOk xs) = true) {i : Nat} {f : Flr} (hf : (flrs cf xs)[i]? = some f) : FlrGood xs (flrs cf xs) i f := by
  have hs : spOk xs = true := by simp only [Bool.and_eq_true] at h; exact h.2
  have hfl : flrs cf xs = (eachL cf xs).map (flrOf xs) := by unfold flrs; rw [h]; rfl
  rw [hfl] at hf ⊢
  rw [List.getElem?_map] at hf
  cases hp : (eachL cf xs)[i]? with
  | none => rw [hp] at hf; cases hf
  | some p =>
    rw [hp] at hf
    have hf' : flrOf xs p = f := by simpa using hf
    have hmem := List.mem_of_getElem? hp
    have ho := eachUp_open cf xs xs.length p hmem
    obtain ⟨hrb, hri⟩ := eachUp_room cf xs xs.length p hmem
    obtain ⟨x, hx⟩ : ∃ x, xs[p.1]? = some x := ⟨_, List.getElem?_eq_getElem (openAt_lt ho)⟩
    have hfe : f = ⟨x.hi, p.2, 1⟩ := by rw [← hf']; simp [flrOf, hx]
    have hw : x.walk = true := by
      unfold openAt at ho
      rw [hx] at ho
      simp only [Bool.and_eq_true] at ho
      exact ho.1
    have htop : p.2 = roomN xs p.1 := by rw [hri, roomI_true hrb, Int.toNat_natCast]
    refine ⟨?_, ?_, ?_⟩
    · rintro s hsm ⟨h1, h2⟩
      obtain ⟨j, hj, rfl⟩ := List.getElem_of_mem hsm
      have hjs : xs[j]? = some xs[j] := List.getElem?_eq_getElem hj
      rw [hfe] at h1 h2
      simp only at h1 h2
      by_cases hjk : j ≤ p.1
      · by_cases he : j = p.1
        · subst he
          rw [hjs] at hx
          cases hx
          omega
        · have := spOk_lt hs (by omega) hjs hx
          have := spOk_may hs hx
          omega
      · rw [htop] at h2
        unfold roomN at h2
        obtain ⟨y, hy⟩ : ∃ y, xs[p.1 + 1]? = some y := ⟨_, List.getElem?_eq_getElem (by omega)⟩
        rw [hy] at h2
        simp only at h2
        by_cases he : j = p.1 + 1
        · subst he
          rw [hjs] at hy
          cases hy
          omega
        · have := spOk_lt hs (show p.1 + 1 < j by omega) hy hjs
          have := spOk_may hs hy
          omega
    · rw [List.any_eq_true]
      exact ⟨x, List.mem_of_getElem? hx, by rw [hfe]; simp [hw]⟩
    · intro g hi hg
      rw [List.getElem?_map] at hg
      cases hq : (eachL cf xs)[i - 1]? with
      | none => rw [hq] at hg; cases hg
      | some q =>
        rw [hq] at hg
        have hg' : flrOf xs q = g := by simpa using hg
        have hqm := List.mem_of_getElem? hq
        have hqo := eachUp_open cf xs xs.length q hqm
        obtain ⟨hqb, hqi⟩ := eachUp_room cf xs xs.length q hqm
        obtain ⟨z, hz⟩ : ∃ z, xs[q.1]? = some z := ⟨_, List.getElem?_eq_getElem (openAt_lt hqo)⟩
        have hge : g = ⟨z.hi, q.2, 1⟩ := by rw [← hg']; simp [flrOf, hz]
        have hlt := eachUp_mono cf xs xs.length (i - 1) i q p (by omega) hq hp
        have hqt : q.2 = roomN xs q.1 := by rw [hqi, roomI_true hqb, Int.toNat_natCast]
        rw [hge, hfe]
        simp only
        rw [hqt]
        unfold roomN
        obtain ⟨y, hy⟩ : ∃ y, xs[q.1 + 1]? = some y := ⟨_, List.getElem?_eq_getElem (by have := (List.getElem?_eq_some_iff.1 hx).1; omega)⟩
        rw [hy]
        simp only
        have hmx := spOk_may hs hx
        by_cases he : q.1 + 1 = p.1
        · rw [he, hx] at hy
          cases hy
          omega
        · have := spOk_lt hs (show q.1 + 1 < p.1 by omega) hy hx
          have := spOk_may hs hy
          omega

end Go.Proofs.Ytilhmlapbifbbaa
