/- Plain: groups, rounds, differences as the document has them. Imports nothing of the dump. -/
import Derived.Test.YtilhmlapbifbbaaTgrP
import Derived.Test.YtilhmlapbifbbaaTroP
namespace Go.Proofs.Ytilhmlapbifbbaa
open Go.RowKit

/-- A leader stands first in its group. -/
theorem head_leader {f : Nat → Nat → Bool} {n k : Nat} (hk : k < n) : (grpL f n k).getD 0 0 = k ↔ grpF f k = true := by
  have hp := grpL_ne (f := f) hk
  obtain ⟨h, hh⟩ : ∃ h, (grpL f n k)[0]? = some h := ⟨_, List.getElem?_eq_getElem hp⟩
  have e : (grpL f n k).getD 0 0 = h := by rw [List.getD_eq_getElem?_getD, hh]; rfl
  rw [e]
  have hm := grpL_mem.1 (List.mem_of_getElem? hh)
  have hle : ∀ b, b < n → reqv f b k = true → h ≤ b := fun b hb hr => by
    obtain ⟨i, hi⟩ := List.mem_iff_getElem?.1 (grpL_mem.2 ⟨hb, hr⟩)
    rcases Nat.eq_zero_or_pos i with h0 | h0
    · subst h0
      rw [hh] at hi
      cases hi
      exact Nat.le_refl _
    · exact Nat.le_of_lt (pw_at (pw_range n _) hh hi h0)
  constructor
  · rintro rfl
    unfold grpF
    rw [List.all_eq_true]
    intro b hb
    have hb' : b < h := by simpa using hb
    cases hr : reqv f b h with
    | false => rfl
    | true => have := hle b (by omega) hr; omega
  · intro hF
    have h1 := hle k hk (reqv_refl f k)
    rcases Nat.lt_or_eq_of_le h1 with h2 | h2
    · have := List.all_eq_true.1 hF h (by simpa using h2)
      rw [hm.2] at this
      cases this
    · exact h2

/-- Where two tables are unlike. -/
def chL (A B : List (List Int)) (l : List (Nat × Nat)) : List (Nat × Nat) := l.filter fun p => gt A p.1 p.2 != gt B p.1 p.2
def chE (A B : List (List Int)) : Int := if mayT A = true ∧ mayT B = true ∧ A.length = B.length then 0 else 2
def chP (A B : List (List Int)) : List (Nat × Nat) := if mayT A = true ∧ mayT B = true ∧ A.length = B.length then chL A B (prs A.length) else []
theorem chL_app (A B : List (List Int)) (l m : List (Nat × Nat)) : chL A B (l ++ m) = chL A B l ++ chL A B m := List.filter_append ..
theorem chL_one (A B : List (List Int)) (p : Nat × Nat) : chL A B [p] = if (gt A p.1 p.2 != gt B p.1 p.2) = true then [p] else [] := by
  unfold chL
  by_cases h : (gt A p.1 p.2 != gt B p.1 p.2) = true
  · rw [if_pos h]; simp only [List.filter_cons, h, if_true, List.filter_nil]
  · rw [if_neg h]; simp only [List.filter_cons, h, List.filter_nil]; rfl
/-- Row i, as far as place j. -/
def prU (n i j : Nat) : List (Nat × Nat) := (prs n).take (i * n + j)
theorem prU_zero (n : Nat) : prU n 0 0 = [] := by simp [prU]
theorem prU_step {n i j : Nat} (hi : i < n) (hj : j < n) : prU n i (j + 1) = prU n i j ++ [(i, j)] := by
  unfold prU
  have h1 : i * n + j < n * n := by
    have h2 : i * n + n ≤ n * n := by
      have := Nat.mul_le_mul_right n (show i + 1 ≤ n by omega)
      rw [Nat.add_mul, Nat.one_mul] at this
      exact this
    omega
  have e1 : (i * n + j) / n = i := by rw [Nat.mul_comm, Nat.mul_add_div (by omega), Nat.div_eq_of_lt hj, Nat.add_zero]
  have e2 : (i * n + j) % n = j := by rw [Nat.mul_comm, Nat.mul_add_mod, Nat.mod_eq_of_lt hj]
  rw [show i * n + (j + 1) = i * n + j + 1 by omega, List.take_add_one]
  congr 1
  simp [prs, h1, e1, e2]
theorem prU_row (n i : Nat) : prU n i n = prU n (i + 1) 0 := by
  unfold prU
  rw [Nat.add_mul, Nat.one_mul, Nat.add_zero]
theorem prU_all (n : Nat) : prU n n 0 = prs n := by
  unfold prU
  rw [Nat.add_zero, List.take_of_length_le]
  simp [prs]

/-- A round on its way: so many steps. -/
structure TrailU (T : List (List Int)) (n i : Nat) (r : Nat) (l : List Nat) (c : Int) : Prop where
  trail : Trail T n i l c
  len : l.length = r + 1
  eq : goR T n (n - r) l c = goR T n n [i] 0
theorem TrailU.start (T : List (List Int)) {n i : Nat} (hi : i < n) : TrailU T n i 0 [i] 0 := ⟨Trail.start T hi, rfl, rfl⟩
theorem TrailU.stop {T : List (List Int)} {n i r : Nat} {l : List Nat} {c : Int} (h : TrailU T n i r l c) (hr : r < n) (hb : bestU l (T.getD (lastN l) []) n = none) : goR T n n [i] 0 = (l, c) := by
  have h2 : goR T n ((n - r - 1) + 1) l c = (l, c) := by
    conv => lhs; unfold goR
    rw [hb]
  rw [← h.eq, show n - r = (n - r - 1) + 1 by omega]
  exact h2
theorem TrailU.step {T : List (List Int)} {n i r : Nat} {l : List Nat} {c : Int} (h : TrailU T n i r l c) (hr : r < n) {b : Nat} (hb : bestU l (T.getD (lastN l) []) n = some b) : TrailU T n i (r + 1) (l ++ [b]) (c + gt T (lastN l) b) := by
  refine ⟨h.trail.step hb, by simp [h.len], ?_⟩
  have h1 := h.eq
  rw [show n - r = (n - (r + 1)) + 1 by omega] at h1
  have h2 : goR T n ((n - (r + 1)) + 1) l c = goR T n (n - (r + 1)) (l ++ [b]) (c + gt T (lastN l) b) := by
    conv => lhs; unfold goR
    rw [hb]
  rw [← h2]
  exact h1
theorem TrailU.lt {T : List (List Int)} {n i r : Nat} {l : List Nat} {c : Int} (h : TrailU T n i r l c) : r < n := by
  have := h.trail.len
  have := h.len
  omega
theorem TrailU.last {T : List (List Int)} {n i r : Nat} {l : List Nat} {c : Int} (h : TrailU T n i r l c) : lastN l < n ∧ l[r]? = some (lastN l) := by
  have hl := h.len
  have e : l[r]? = some l[r] := List.getElem?_eq_getElem (by omega)
  have e2 : lastN l = l[r] := by
    unfold lastN
    have e3 : l.length - 1 = r := by omega
    rw [e3, List.getD_eq_getElem?_getD, e]
    rfl
  rw [e2]
  exact ⟨h.trail.lt _ (List.mem_of_getElem? e), e⟩
theorem TrailU.bound {T : List (List Int)} {n i r : Nat} {l : List Nat} {c : Int} (h : TrailU T n i r l c) (hm : mayT T = true) (hn : T.length = n) : 0 ≤ c ∧ c ≤ 1099511627776 * (r + 1) := by
  have hshr := shr_of hm
  rw [hn] at hshr
  have hl := h.len
  have key : ∀ k, k ≤ l.length → 0 ≤ sumU T l k ∧ sumU T l k ≤ 1099511627776 * k := fun k => by
    induction k with
    | zero => intro _; exact ⟨Int.le_refl _, Int.le_refl _⟩
    | succ k ih =>
      intro hk
      have h1 := ih (by omega)
      rw [sumU_succ]
      split
      · omega
      · rename_i h0
        obtain ⟨⟨a1, a2, a3⟩, _⟩ := bestU_min.2 _ (h.trail.steps (k - 1) (by omega))
        rw [show k - 1 + 1 = k by omega] at a1 a2 a3
        have hp : l.getD (k - 1) 0 < n := h.trail.lt _ (by rw [List.getD_eq_getElem?_getD, List.getElem?_eq_getElem (by omega)]; exact List.getElem_mem _)
        have h2 := hshr.loT _ _ hp a1
        have h3 := hshr.hiT _ _ hp a1
        have h4 : gt T (l.getD (k - 1) 0) (l.getD k 0) ≠ -1 := a3
        omega
  have := key l.length (Nat.le_refl _)
  rw [← h.trail.cost, hl] at this
  exact ⟨this.1, by have := this.2; push_cast at this; omega⟩

/-- Is a place better than the best one, by the document's test? -/
def resB (row : List Int) (best : Option Nat) (y : Int) : Bool := match best with
  | none => true
  | some p => decide (y < row.getD p 0)
theorem best_res {l : List Nat} {row : List Int} {best : Option Nat} {k : Nat} {y : Int} (hb : ∀ p, best = some p → row.getD p 0 ≠ -1) (hy : y = row.getD k 0) (hlo : -1 ≤ y) :
    bestStep l row best k = if (!decide (k ∈ l) && decide (0 ≤ y) && resB row best y) = true then some k else best := by
  unfold bestStep resB
  by_cases hk : k ∈ l
  · rw [if_pos hk]
    simp [hk]
  · rw [if_neg hk]
    have hk' : decide (k ∈ l) = false := decide_eq_false hk
    rw [hk']
    cases best with
    | none =>
      simp only
      rw [← hy]
      by_cases h0 : y = -1
      · rw [h0]; rfl
      · have h1 : (y != -1) = true := bne_iff_ne.2 h0
        have h2 : decide (0 ≤ y) = true := decide_eq_true (by omega)
        rw [h1, h2]
        rfl
    | some p =>
      simp only
      rw [← hy]
      have hp := hb p rfl
      unfold lessI
      by_cases h0 : y = -1
      · have h1 : (y != -1) = false := by rw [h0]; rfl
        have h2 : decide (0 ≤ y) = false := decide_eq_false (by omega)
        rw [h1, h2]
        rfl
      · have h1 : (y != -1) = true := bne_iff_ne.2 h0
        have h2 : decide (0 ≤ y) = true := decide_eq_true (by omega)
        have h3 : (row.getD p 0 == -1) = false := by
          cases e : (row.getD p 0 == -1) with
          | false => rfl
          | true => exact absurd (eq_of_beq e) hp
        rw [h1, h2, h3]
        simp only [Bool.not_false, Bool.true_and, Bool.false_or]

end Go.Proofs.Ytilhmlapbifbbaa
