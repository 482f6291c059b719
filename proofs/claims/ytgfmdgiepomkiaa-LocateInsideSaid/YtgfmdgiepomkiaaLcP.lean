/- Plain law: how far a point is from a rectangle; the first of the least. -/
import Derived.Test.YtgfmdgiepomkiaaSmA
namespace Go.Proofs.Ytgfmdgiepomkiaa

def inF (n : Int) : Int := min (max n (-1048576)) 1048576
def offF (n lo hi : Int) : Int := max (max (2 * inF lo - inF n) (inF n - 2 * inF hi - 2)) 0
def farF (r : Rc) (px pz : Int) : Int := offF px r.x0 r.x1 * offF px r.x0 r.x1 + offF pz r.z0 r.z1 * offF pz r.z0 r.z1
theorem inF_bd (n : Int) : -1048576 ≤ inF n ∧ inF n ≤ 1048576 := by unfold inF; omega
theorem offF_bd (n lo hi : Int) : 0 ≤ offF n lo hi ∧ offF n lo hi ≤ 3145728 := by
  have h1 := inF_bd n
  have h2 := inF_bd lo
  have h3 := inF_bd hi
  unfold offF
  omega
theorem sq_bd {x : Int} (h : 0 ≤ x ∧ x ≤ 3145728) : 0 ≤ x * x ∧ x * x ≤ 9895604649984 := by
  have h1 := Int.mul_nonneg h.1 h.1
  have h2 : x * x ≤ 3145728 * 3145728 := Int.mul_le_mul h.2 h.2 h.1 (by decide)
  omega
theorem sq_zero {x : Int} (h : 0 ≤ x) : x * x = 0 ↔ x = 0 := by
  constructor
  · intro e
    rcases Int.mul_eq_zero.1 e with e | e <;> exact e
  · rintro rfl
    rfl
theorem farF_bd (r : Rc) (px pz : Int) : 0 ≤ farF r px pz ∧ farF r px pz ≤ 20000000000000 := by
  have h1 := sq_bd (offF_bd px r.x0 r.x1)
  have h2 := sq_bd (offF_bd pz r.z0 r.z1)
  unfold farF
  omega
theorem offF_zero {n lo hi : Int} (hl : 0 ≤ lo ∧ lo ≤ hi ∧ hi < 32) (hn : 0 ≤ n ∧ n ≤ 64) : offF n lo hi = 0 ↔ 2 * lo ≤ n ∧ n ≤ 2 * hi + 2 := by
  unfold offF inF
  omega
theorem farF_zero {r : Rc} {px pz : Int} (hx : 0 ≤ r.x0 ∧ r.x0 ≤ r.x1 ∧ r.x1 < 32) (hz : 0 ≤ r.z0 ∧ r.z0 ≤ r.z1 ∧ r.z1 < 32) (hp : 0 ≤ px ∧ px ≤ 64) (hq : 0 ≤ pz ∧ pz ≤ 64) :
    farF r px pz = 0 ↔ ((2 * r.x0 ≤ px ∧ px ≤ 2 * r.x1 + 2) ∧ 2 * r.z0 ≤ pz) ∧ pz ≤ 2 * r.z1 + 2 := by
  have h1 := offF_zero hx hp
  have h2 := offF_zero hz hq
  have b1 := offF_bd px r.x0 r.x1
  have b2 := offF_bd pz r.z0 r.z1
  have e1 := sq_zero b1.1
  have e2 := sq_zero b2.1
  have s1 := sq_bd b1
  have s2 := sq_bd b2
  unfold farF
  constructor
  · intro h
    have z1 : offF px r.x0 r.x1 * offF px r.x0 r.x1 = 0 := by omega
    have z2 : offF pz r.z0 r.z1 * offF pz r.z0 r.z1 = 0 := by omega
    have := h1.1 (e1.1 z1)
    have := h2.1 (e2.1 z2)
    omega
  · rintro ⟨⟨⟨u, v⟩, y⟩, z⟩
    rw [h1.2 ⟨u, v⟩, h2.2 ⟨y, z⟩]
    rfl
/-- May it be a filter? -/
def costOk (n : Int) : Bool := decide (n < 1) || decide (16 < n)
def fltCs (f : Flt) : List Int := [f.c0, f.c1, f.c2, f.c3, f.c4, f.c5, f.c6, f.c7]
def fltMay (f : Flt) : Bool := decide (0 ≤ f.areas) && decide (f.areas ≤ 255) && !((fltCs f).any costOk)
/-- Of k things: where the first of the least stands that count, and how much it is. -/
def LeastAt {α : Type} (f : α → Int) (g : α → Bool) (l : List α) (k : Nat) (p n : Int) (ok : Bool) : Prop :=
  (ok = false → p = 0 ∧ n = 0 ∧ ∀ (j : Nat) y, j < k → l[j]? = some y → g y = false) ∧
  (ok = true → ∃ (i : Nat) (x : α), p = (i : Int) ∧ i < k ∧ l[i]? = some x ∧ g x = true ∧ n = f x ∧ ∀ (j : Nat) y, j < k → l[j]? = some y → g y = true → n ≤ f y ∧ (f y = n → i ≤ j))
theorem LeastAt.zero {α : Type} (f : α → Int) (g : α → Bool) (l : List α) : LeastAt f g l 0 0 0 false :=
  ⟨fun _ => ⟨rfl, rfl, fun j y h _ => absurd h (Nat.not_lt_zero _)⟩, fun h => by cases h⟩
section
variable {α : Type} {f : α → Int} {g : α → Bool} {l : List α} {k : Nat} {p n : Int} {ok : Bool} {x : α}
theorem LeastAt.skip (h : LeastAt f g l k p n ok) (hx : l[k]? = some x) (hg : g x = false) : LeastAt f g l (k + 1) p n ok := by
  refine ⟨fun e => ?_, fun e => ?_⟩
  · obtain ⟨h1, h2, h3⟩ := h.1 e
    refine ⟨h1, h2, fun j y hj hy => ?_⟩
    by_cases hjk : j < k
    · exact h3 j y hjk hy
    · obtain rfl : j = k := by omega
      rw [hx] at hy
      cases hy
      exact hg
  · obtain ⟨i, z, h1, h2, h3, h4, h5, h6⟩ := h.2 e
    refine ⟨i, z, h1, by omega, h3, h4, h5, fun j y hj hy hgy => ?_⟩
    by_cases hjk : j < k
    · exact h6 j y hjk hy hgy
    · obtain rfl : j = k := by omega
      rw [hx] at hy
      cases hy
      rw [hg] at hgy
      cases hgy
theorem LeastAt.keep (h : LeastAt f g l k p n true) (hx : l[k]? = some x) (hn : ¬ f x < n) : LeastAt f g l (k + 1) p n true := by
  refine ⟨fun e => (by cases e), fun e => ?_⟩
  obtain ⟨i, z, h1, h2, h3, h4, h5, h6⟩ := h.2 e
  refine ⟨i, z, h1, by omega, h3, h4, h5, fun j y hj hy hgy => ?_⟩
  by_cases hjk : j < k
  · exact h6 j y hjk hy hgy
  · obtain rfl : j = k := by omega
    rw [hx] at hy
    cases hy
    exact ⟨by omega, fun _ => by omega⟩
theorem LeastAt.take (h : LeastAt f g l k p n ok) (hx : l[k]? = some x) (hg : g x = true) (hn : ok = false ∨ f x < n) : LeastAt f g l (k + 1) (k : Int) (f x) true := by
  refine ⟨fun e => (by cases e), fun _ => ⟨k, x, rfl, by omega, hx, hg, rfl, fun j y hj hy hgy => ?_⟩⟩
  by_cases hjk : j < k
  · cases ok with
    | false =>
      have := (h.1 rfl).2.2 j y hjk hy
      rw [this] at hgy
      cases hgy
    | true =>
      obtain ⟨i, z, h1, h2, h3, h4, h5, h6⟩ := h.2 rfl
      have h7 := (h6 j y hjk hy hgy).1
      rcases hn with hn | hn
      · cases hn
      · exact ⟨by omega, fun _ => by omega⟩
  · obtain rfl : j = k := by omega
    rw [hx] at hy
    cases hy
    exact ⟨Int.le_refl _, fun _ => Nat.le_refl _⟩
end
end Go.Proofs.Ytgfmdgiepomkiaa
