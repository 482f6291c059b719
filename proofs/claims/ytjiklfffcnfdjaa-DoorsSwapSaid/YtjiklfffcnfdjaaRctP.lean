/- Plain: rectangles: which may be; links of floors. -/
import Derived.Test.YtjiklfffcnfdjaaFlr
import Derived.Test.YtjiklfffcnfdjaaCfg
namespace Go.Proofs.Ytjiklfffcnfdjaa

/-- A rectangle. -/
structure Rc where
  x0 : Int
  z0 : Int
  x1 : Int
  z1 : Int
  area : Int
  ys : List Int
  ts : List Int
deriving DecidableEq
def nearB (n : Int) : Bool := decide (-1099511627776 ≤ n) && decide (n ≤ 1099511627776)
/-- Are two floors linked, by a config that may be? -/
def lnkOk (cf : Cfg) (a b : Flr) : Bool := (nearB a.y && nearB a.top && nearB b.y && nearB b.top) && (decide (0 < a.area) && decide (0 < b.area) && decide (max (a.y - b.y) (b.y - a.y) ≤ cf.climb) && decide (cf.height ≤ min a.top b.top - max a.y b.y))
def lnk (cf : Cfg) (a b : Flr) : Bool := cfgOk cf && lnkOk cf a b
theorem lnkOk_symm (cf : Cfg) (a b : Flr) : lnkOk cf a b = lnkOk cf b a := by
  unfold lnkOk
  rw [Bool.eq_iff_iff]
  simp only [Bool.and_eq_true, decide_eq_true_eq, nearB]
  constructor <;> (rintro ⟨⟨⟨⟨h1, h2⟩, h3⟩, h4⟩, ⟨⟨h5, h6⟩, h7⟩, h8⟩; refine ⟨⟨⟨⟨h3, h4⟩, h1⟩, h2⟩, ⟨⟨h6, h5⟩, ?_⟩, ?_⟩ <;> omega)
theorem lnk_symm (cf : Cfg) (a b : Flr) : lnk cf a b = lnk cf b a := by unfold lnk; rw [lnkOk_symm]
def rcW (r : Rc) : Int := r.x1 - r.x0 + 1
/-- Does it hold the column, within the world? -/
def rcIn (r : Rc) (x z : Int) : Bool := decide (0 ≤ r.x0) && decide (r.x1 < 32) && decide (0 ≤ r.z0) && decide (r.z1 < 32) && decide (r.x0 ≤ x) && decide (x ≤ r.x1) && decide (r.z0 ≤ z) && decide (z ≤ r.z1)
def rcK (r : Rc) (x z : Int) : Int := (z - r.z0) * (r.x1 - r.x0 + 1) + x - r.x0
/-- The floor of a column. -/
def rcAt (r : Rc) (x z : Int) : Option Flr :=
  if rcIn r x z then
    match r.ys[(rcK r x z).toNat]?, r.ts[(rcK r x z).toNat]? with
    | some y, some t => some ⟨y, t, r.area⟩
    | _, _ => none
  else none
def rcF (r : Rc) (x z : Int) : Flr := (rcAt r x z).getD ⟨0, 0, 0⟩
theorem rcIn_iff {r : Rc} {x z : Int} : rcIn r x z = true ↔ 0 ≤ r.x0 ∧ r.x1 < 32 ∧ 0 ≤ r.z0 ∧ r.z1 < 32 ∧ r.x0 ≤ x ∧ x ≤ r.x1 ∧ r.z0 ≤ z ∧ z ≤ r.z1 := by
  unfold rcIn
  simp only [Bool.and_eq_true, decide_eq_true_eq, and_assoc]
theorem rcK_bd {r : Rc} {x z : Int} (h : rcIn r x z = true) : 0 ≤ rcK r x z ∧ rcK r x z < 1024 := by
  obtain ⟨h1, h2, h3, h4, h5, h6, h7, h8⟩ := rcIn_iff.1 h
  unfold rcK
  have a : 0 ≤ (z - r.z0) * (r.x1 - r.x0 + 1) := Int.mul_nonneg (by omega) (by omega)
  have b : (z - r.z0) * (r.x1 - r.x0 + 1) ≤ 31 * (r.x1 - r.x0 + 1) := Int.mul_le_mul_of_nonneg_right (by omega) (by omega)
  omega
/-- Bounds that may be. -/
def rcBd (r : Rc) : Bool := decide (0 ≤ r.x0) && decide (r.x0 ≤ r.x1) && decide (r.x1 < 32) && decide (0 ≤ r.z0) && decide (r.z0 ≤ r.z1) && decide (r.z1 < 32) && decide (1 ≤ r.area) && decide (r.area ≤ 7)
def rcN (r : Rc) : Nat := ((r.x1 - r.x0 + 1) * (r.z1 - r.z0 + 1)).toNat
def hgtB (f : Flr) : Bool := decide (-2048 ≤ f.y) && decide (f.y ≤ 2048) && decide (f.y < f.top) && decide (f.top ≤ 1048576)
def toB (cf : Cfg) (f : Flr) (o : Option Flr) : Bool := match o with
  | some g => lnk cf f g
  | none => true
/-- A column's floor may be, and is linked with those behind it. -/
def rcCol (cf : Cfg) (r : Rc) (x z : Int) : Bool := hgtB (rcF r x z) && toB cf (rcF r x z) (rcAt r (x + 1) z) && toB cf (rcF r x z) (rcAt r x (z + 1))
def rcCell (cf : Cfg) (r : Rc) (k : Nat) : Bool := rcCol cf r (r.x0 + ((k % (rcW r).toNat : Nat) : Int)) (r.z0 + ((k / (rcW r).toNat : Nat) : Int))
def rcLens (r : Rc) : Bool := decide (r.ys.length = rcN r) && decide (r.ts.length = rcN r)
/-- What rects.Check tells. -/
def rcOk (cf : Cfg) (r : Rc) : Bool := rcBd r && rcLens r && (List.range (rcN r)).all (rcCell cf r)
def rcE (cf : Cfg) (r : Rc) : Int := if cfgOk cf then if rcOk cf r then 0 else 2 else 20
theorem rcBd_iff {r : Rc} : rcBd r = true ↔ 0 ≤ r.x0 ∧ r.x0 ≤ r.x1 ∧ r.x1 < 32 ∧ 0 ≤ r.z0 ∧ r.z0 ≤ r.z1 ∧ r.z1 < 32 ∧ 1 ≤ r.area ∧ r.area ≤ 7 := by
  unfold rcBd
  simp only [Bool.and_eq_true, decide_eq_true_eq, and_assoc]
theorem rcE_zero {cf : Cfg} {r : Rc} : rcE cf r = 0 ↔ cfgOk cf = true ∧ rcOk cf r = true := by
  unfold rcE
  cases cfgOk cf <;> cases rcOk cf r <;> simp
theorem rcE_e (cf : Cfg) (r : Rc) : rcE cf r = 0 ∨ rcE cf r = 2 ∨ rcE cf r = 20 := by
  unfold rcE
  cases cfgOk cf <;> cases rcOk cf r <;> simp
theorem rcE_bd {cf : Cfg} {r : Rc} (hc : cfgOk cf = true) (h : rcBd r = false) : rcE cf r = 2 := by
  unfold rcE rcOk
  rw [hc, h]
  rfl
theorem rcE_len {cf : Cfg} {r : Rc} (hc : cfgOk cf = true) (h : rcLens r = false) : rcE cf r = 2 := by
  unfold rcE rcOk
  rw [hc, h, Bool.and_false]
  rfl
theorem rcE_bad {cf : Cfg} {r : Rc} {k : Nat} (hc : cfgOk cf = true) (hk : k < rcN r) (h : rcCell cf r k = false) : rcE cf r = 2 := by
  have e : (List.range (rcN r)).all (rcCell cf r) = false := by
    cases h2 : (List.range (rcN r)).all (rcCell cf r) with
    | false => rfl
    | true =>
      rw [List.all_eq_true] at h2
      have := h2 k (List.mem_range.2 hk)
      rw [h] at this
      cases this
  unfold rcE rcOk
  rw [hc, e, Bool.and_false]
  rfl
theorem rcE_good {cf : Cfg} {r : Rc} (hc : cfgOk cf = true) (hb : rcBd r = true) (hl : rcLens r = true) (h : ∀ k, k < rcN r → rcCell cf r k = true) : rcE cf r = 0 := by
  rw [rcE_zero]
  refine ⟨hc, ?_⟩
  unfold rcOk
  rw [hb, hl, Bool.true_and, Bool.true_and, List.all_eq_true]
  intro k hk
  exact h k (List.mem_range.1 hk)
theorem rcN_bd {r : Rc} (h : rcBd r = true) : 1 ≤ rcN r ∧ rcN r ≤ 1024 ∧ ((rcN r : Nat) : Int) = (r.x1 - r.x0 + 1) * (r.z1 - r.z0 + 1) := by
  obtain ⟨h1, h2, h3, h4, h5, h6, _, _⟩ := rcBd_iff.1 h
  unfold rcN
  have a : 1 * 1 ≤ (r.x1 - r.x0 + 1) * (r.z1 - r.z0 + 1) := Int.mul_le_mul (by omega) (by omega) (by omega) (by omega)
  have b : (r.x1 - r.x0 + 1) * (r.z1 - r.z0 + 1) ≤ 32 * 32 := Int.mul_le_mul (by omega) (by omega) (by omega) (by omega)
  omega
end Go.Proofs.Ytjiklfffcnfdjaa
