/- Plain law: a segment over columns: ratios, stretches, columns. -/
import Derived.Test.YtjiklfffcnfdjaaGreatGa
import Derived.Shelf.SlicesG.Cmp
import Derived.Shelf.SlSortCmp.WholeK
namespace Go.Proofs.YtjiklfffcnfdjaaGreat

/-- A ratio. -/
structure Rt where
  n : Int
  d : Int
deriving DecidableEq
/-- A point. -/
structure Pt where
  x : Int
  z : Int
deriving DecidableEq
/-- A column that a segment meets. -/
structure Cel where
  x : Int
  z : Int
  p : Rt
  q : Rt
deriving DecidableEq

def ratioS (n d : Int) : Rt :=
  if d < 0 then ⟨(-n).tdiv (Int.gcd (-n) (-d) : Nat), (-d).tdiv (Int.gcd (-n) (-d) : Nat)⟩ else ⟨n.tdiv (Int.gcd n d : Nat), d.tdiv (Int.gcd n d : Nat)⟩
def cmpR (p q : Rt) : Int := Lib.compareInt (p.n * q.d) (q.n * p.d)
def rt0 : Rt := ⟨0, 1⟩
def rt1 : Rt := ⟨1, 1⟩
def ins (a b lo : Int) : Rt × Rt := if b < a then (ratioS (lo + 2 - a) (b - a), ratioS (lo - a) (b - a)) else (ratioS (lo - a) (b - a), ratioS (lo + 2 - a) (b - a))
def axisS (a b lo : Int) : Rt × Rt × Bool :=
  if a = b then (rt0, rt1, decide (lo ≤ a) && decide (a ≤ lo + 2))
  else
    let f := if 0 < cmpR (ins a b lo).1 rt0 then (ins a b lo).1 else rt0
    let l := if cmpR (ins a b lo).2 rt1 < 0 then (ins a b lo).2 else rt1
    (f, l, decide (cmpR f l ≤ 0))
def meetC (a b : Pt) (x z : Int) : Cel × Bool :=
  let u := axisS a.x b.x (2 * x)
  let v := axisS a.z b.z (2 * z)
  let p := if 0 < cmpR v.1 u.1 then v.1 else u.1
  let q := if cmpR v.2.1 u.2.1 < 0 then v.2.1 else u.2.1
  (⟨x, z, p, q⟩, u.2.2 && v.2.2 && decide (cmpR p q ≤ 0))
def pointOk (p : Pt) : Bool := decide (0 ≤ p.x) && decide (p.x ≤ 64) && decide (0 ≤ p.z) && decide (p.z ≤ 64)

/-! ### Ratios -/
/-- Numbers small enough. -/
def RtSmall (K : Int) (r : Rt) : Prop := -K ≤ r.n ∧ r.n ≤ K ∧ 1 ≤ r.d ∧ r.d ≤ K

theorem ratio_pos {n d : Int} (hd : 0 < d) : ∃ g : Int, 0 < g ∧ n = g * (n.tdiv (Int.gcd n d : Nat)) ∧ d = g * (d.tdiv (Int.gcd n d : Nat)) := by
  have h0 : 0 < Int.gcd n d := Int.gcd_pos_of_ne_zero_right _ (by omega)
  have h1 : ((Int.gcd n d : Nat) : Int) ∣ n := Int.gcd_dvd_left ..
  have h2 : ((Int.gcd n d : Nat) : Int) ∣ d := Int.gcd_dvd_right ..
  exact ⟨_, by omega, (Int.mul_tdiv_cancel' h1).symm, (Int.mul_tdiv_cancel' h2).symm⟩
/-- The ratio in lowest terms is the ratio. -/
theorem ratioS_spec {n d : Int} (hd : d ≠ 0) : ∃ g : Int, 0 < g ∧ (if d < 0 then -n else n) = g * (ratioS n d).n ∧ (if d < 0 then -d else d) = g * (ratioS n d).d := by
  unfold ratioS
  by_cases h : d < 0
  · simp only [h, if_true]
    exact ratio_pos (by omega)
  · simp only [h, if_false]
    exact ratio_pos (by omega)
theorem abs_le_of_mul {g x K : Int} (hg : 0 < g) (h1 : -K ≤ g * x) (h2 : g * x ≤ K) (hK : 0 ≤ K) : -K ≤ x ∧ x ≤ K := by
  constructor
  · by_cases h : 0 ≤ x
    · omega
    · have := Int.mul_le_mul_of_nonpos_right (a := g) (b := 1) (c := x) (by omega) (by omega)
      omega
  · by_cases h : x ≤ 0
    · omega
    · have := Int.mul_le_mul_of_nonneg_right (a := 1) (b := g) (c := x) (by omega) (by omega)
      omega
theorem ratioS_small {n d K : Int} (hd : d ≠ 0) (hn1 : -K ≤ n) (hn2 : n ≤ K) (hd1 : -K ≤ d) (hd2 : d ≤ K) : RtSmall K (ratioS n d) := by
  obtain ⟨g, hg, e1, e2⟩ := ratioS_spec (n := n) hd
  have a1 := abs_le_of_mul (K := K) hg (x := (ratioS n d).n) (by rw [← e1]; split <;> omega) (by rw [← e1]; split <;> omega) (by omega)
  have a2 := abs_le_of_mul (K := K) hg (x := (ratioS n d).d) (by rw [← e2]; split <;> omega) (by rw [← e2]; split <;> omega) (by omega)
  have hp : 0 < g * (ratioS n d).d := by rw [← e2]; split <;> omega
  have : 0 < (ratioS n d).d := Int.pos_of_mul_pos_left (by rwa [Int.mul_comm] at hp) hg
  exact ⟨a1.1, a1.2, by omega, a2.2⟩

end Go.Proofs.YtjiklfffcnfdjaaGreat

namespace Go.Proofs.YtjiklfffcnfdjaaGreat
open Go.Sort

/-! ### Ratios in order -/
def leR (p q : Rt) : Prop := p.n * q.d ≤ q.n * p.d
def ltR (p q : Rt) : Prop := p.n * q.d < q.n * p.d
instance (p q : Rt) : Decidable (leR p q) := by unfold leR; infer_instance
instance (p q : Rt) : Decidable (ltR p q) := by unfold ltR; infer_instance
theorem not_ltR {p q : Rt} : ¬ ltR p q ↔ leR q p := by unfold ltR leR; omega
theorem not_leR {p q : Rt} : ¬ leR p q ↔ ltR q p := by unfold ltR leR; omega
theorem leR_refl (p : Rt) : leR p p := Int.le_refl _
theorem ltR_le {p q : Rt} (h : ltR p q) : leR p q := Int.le_of_lt h
theorem leR_total (p q : Rt) : leR p q ∨ leR q p := by unfold leR; omega
section
variable {p q r : Rt} (hp : 0 < p.d) (hq : 0 < q.d) (hr : 0 < r.d)
include hp hq hr
omit hq in
theorem mul3_le (h1 : leR p q) (h2 : leR q r) : p.n * r.d * q.d ≤ r.n * p.d * q.d ∧ (ltR p q ∨ ltR q r → p.n * r.d * q.d < r.n * p.d * q.d) := by
  unfold leR ltR at *
  have a1 : p.n * q.d * r.d ≤ q.n * p.d * r.d := Int.mul_le_mul_of_nonneg_right h1 (by omega)
  have a2 : q.n * r.d * p.d ≤ r.n * q.d * p.d := Int.mul_le_mul_of_nonneg_right h2 (by omega)
  have e1 : p.n * q.d * r.d = p.n * r.d * q.d := Int.mul_right_comm ..
  have e2 : q.n * p.d * r.d = q.n * r.d * p.d := Int.mul_right_comm ..
  have e3 : r.n * q.d * p.d = r.n * p.d * q.d := Int.mul_right_comm ..
  refine ⟨by omega, fun h => ?_⟩
  rcases h with h | h
  · have b1 : p.n * q.d * r.d < q.n * p.d * r.d := Int.mul_lt_mul_of_pos_right h hr
    omega
  · have b2 : q.n * r.d * p.d < r.n * q.d * p.d := Int.mul_lt_mul_of_pos_right h hp
    omega
theorem leR_trans (h1 : leR p q) (h2 : leR q r) : leR p r := by
  have h := (mul3_le hp hr h1 h2).1
  unfold leR
  exact Int.le_of_mul_le_mul_right h hq
theorem ltR_leR (h1 : ltR p q) (h2 : leR q r) : ltR p r := by
  have h := (mul3_le hp hr (ltR_le h1) h2).2 (.inl h1)
  unfold ltR
  exact Int.lt_of_mul_lt_mul_right h (by omega)
theorem leR_ltR (h1 : leR p q) (h2 : ltR q r) : ltR p r := by
  have h := (mul3_le hp hr h1 (ltR_le h2)).2 (.inr h2)
  unfold ltR
  exact Int.lt_of_mul_lt_mul_right h (by omega)
end
theorem compareInt_neg {a b : Int} : Lib.compareInt a b < 0 ↔ a < b := by
  unfold Lib.compareInt
  by_cases h1 : a < b
  · simp [h1]
  · by_cases h2 : b < a <;> simp [h1, h2]
theorem compareInt_pos {a b : Int} : 0 < Lib.compareInt a b ↔ b < a := by
  unfold Lib.compareInt
  by_cases h1 : a < b
  · simp [h1]; omega
  · by_cases h2 : b < a <;> simp [h1, h2]
theorem compareInt_zero {a b : Int} : Lib.compareInt a b = 0 ↔ a = b := by
  unfold Lib.compareInt
  by_cases h1 : a < b
  · simp [h1]; omega
  · by_cases h2 : b < a
    · simp [h1, h2]; omega
    · simp [h1, h2]; omega
theorem cmpR_neg {p q : Rt} : cmpR p q < 0 ↔ ltR p q := compareInt_neg
theorem cmpR_pos {p q : Rt} : 0 < cmpR p q ↔ ltR q p := compareInt_pos
theorem cmpR_le {p q : Rt} : cmpR p q ≤ 0 ↔ leR p q := by
  rw [← Int.not_lt, cmpR_pos, not_ltR]
theorem cmpR_ge {p q : Rt} : 0 ≤ cmpR p q ↔ leR q p := by
  rw [← Int.not_lt, cmpR_neg, not_ltR]
theorem cmpR_zero {p q : Rt} : cmpR p q = 0 ↔ leR p q ∧ leR q p := by
  unfold cmpR
  rw [compareInt_zero]
  unfold leR
  omega

/-! ### Columns in order -/
def orS (u v t : Int) : Int := if u ≠ 0 then u else if v ≠ 0 then v else t
def cmpC (c d : Cel) : Int := orS (cmpR c.p d.p) (Lib.compareInt c.z d.z) (Lib.compareInt c.x d.x)
/-- One column comes ahead of another one. -/
def cltC (c d : Cel) : Prop := ltR c.p d.p ∨ (leR c.p d.p ∧ leR d.p c.p ∧ (c.z < d.z ∨ c.z = d.z ∧ c.x < d.x))
theorem cmpC_neg {c d : Cel} : cmpC c d < 0 ↔ cltC c d := by
  unfold cmpC orS cltC
  by_cases h1 : cmpR c.p d.p = 0
  · have h2 := cmpR_zero.1 h1
    have h3 : ¬ ltR c.p d.p := not_ltR.2 h2.2
    rw [if_neg (fun h => h h1)]
    by_cases h4 : Lib.compareInt c.z d.z = 0
    · have h5 := compareInt_zero.1 h4
      rw [if_neg (fun h => h h4), compareInt_neg]
      refine ⟨fun h => .inr ⟨h2.1, h2.2, .inr ⟨h5, h⟩⟩, ?_⟩
      rintro (h | ⟨_, _, h⟩)
      · exact absurd h h3
      · omega
    · have h5 : ¬ c.z = d.z := fun h => h4 (compareInt_zero.2 h)
      rw [if_pos h4, compareInt_neg]
      refine ⟨fun h => .inr ⟨h2.1, h2.2, .inl h⟩, ?_⟩
      rintro (h | ⟨_, _, h⟩)
      · exact absurd h h3
      · omega
  · rw [if_pos h1, cmpR_neg]
    constructor
    · exact .inl
    · rintro (h | ⟨h2, h3, _⟩)
      · exact h
      · exact absurd (cmpR_zero.2 ⟨h2, h3⟩) h1

/-- Columns whose first share is small. -/
abbrev CelK := {c : Cel // RtSmall 1000 c.p}
instance : Inhabited CelK := ⟨⟨⟨0, 0, ⟨0, 1⟩, ⟨0, 1⟩⟩, by unfold RtSmall; simp⟩⟩
def cmpK (c d : CelK) : Int := cmpC c.1 d.1
theorem ltK (c d : CelK) : ltOf cmpK c d = true ↔ cltC c.1 d.1 := by
  unfold ltOf cmpK
  rw [decide_eq_true_eq, cmpC_neg]
theorem ltK_false (c d : CelK) : ltOf cmpK c d = false ↔ ¬ cltC c.1 d.1 := by
  rw [← ltK]; simp
theorem cltC_irrefl (c : Cel) : ¬ cltC c c := by
  rintro (h | ⟨_, _, h⟩)
  · exact Int.lt_irrefl _ h
  · omega
theorem cltC_trans {c d e : Cel} (hc : 0 < c.p.d) (hd : 0 < d.p.d) (he : 0 < e.p.d) (h1 : cltC c d) (h2 : cltC d e) : cltC c e := by
  rcases h1 with h1 | ⟨a1, a2, a3⟩
  · rcases h2 with h2 | ⟨b1, b2, b3⟩
    · exact .inl (ltR_leR hc hd he h1 (ltR_le h2))
    · exact .inl (ltR_leR hc hd he h1 b1)
  · rcases h2 with h2 | ⟨b1, b2, b3⟩
    · exact .inl (leR_ltR hc hd he a1 h2)
    · exact .inr ⟨leR_trans hc hd he a1 b1, leR_trans he hd hc b2 a2, by omega⟩
theorem not_cltC {c d : Cel} : ¬ cltC c d ↔ leR d.p c.p ∧ (leR c.p d.p → d.z < c.z ∨ d.z = c.z ∧ d.x ≤ c.x) := by
  unfold cltC
  rw [not_or, not_ltR]
  constructor
  · rintro ⟨h1, h2⟩
    refine ⟨h1, fun h => ?_⟩
    have h3 : ¬ (c.z < d.z ∨ c.z = d.z ∧ c.x < d.x) := fun h4 => h2 ⟨h, h1, h4⟩
    omega
  · rintro ⟨h1, h2⟩
    refine ⟨h1, fun ⟨a, _, b⟩ => ?_⟩
    have := h2 a
    omega
theorem cltC_ntrans {c d e : Cel} (hc : 0 < c.p.d) (hd : 0 < d.p.d) (he : 0 < e.p.d) (h1 : ¬ cltC c d) (h2 : ¬ cltC d e) : ¬ cltC c e := by
  rw [not_cltC] at *
  refine ⟨leR_trans he hd hc h2.1 h1.1, fun h => ?_⟩
  have a := h1.2 (leR_trans hc he hd h h2.1)
  have b := h2.2 (leR_trans hd hc he h1.1 h)
  omega
theorem swoK : SWO (ltOf cmpK) where
  irrefl x := by rw [ltK_false]; exact cltC_irrefl _
  trans x y z h1 h2 := by
    rw [ltK] at *
    exact cltC_trans (by have := x.2.2.2.1; omega) (by have := y.2.2.2.1; omega) (by have := z.2.2.2.1; omega) h1 h2
  ntrans x y z h1 h2 := by
    rw [ltK_false] at *
    exact cltC_ntrans (by have := x.2.2.2.1; omega) (by have := y.2.2.2.1; omega) (by have := z.2.2.2.1; omega) h1 h2

/-! ### The columns a segment may meet -/
def lowS (a b : Int) : Int := (min a b + 1).tdiv 2 - 1
def numS (a b : Int) : Nat := (max a b / 2 - lowS a b + 1).toNat
/-- One row of columns. -/
def rowC (a b : Pt) (z : Int) (k : Nat) : List Cel := (List.range k).filterMap fun i : Nat => if (meetC a b (lowS a.x b.x + i) z).2 then some (meetC a b (lowS a.x b.x + i) z).1 else none
/-- The rows of columns. -/
def rowsC (a b : Pt) (k : Nat) : List Cel := (List.range k).flatMap fun i : Nat => rowC a b (lowS a.z b.z + i) (numS a.x b.x)
def rawC (a b : Pt) : List Cel := rowsC a b (numS a.z b.z)
theorem rowC_succ (a b : Pt) (z : Int) (k : Nat) : rowC a b z (k + 1) = rowC a b z k ++ (if (meetC a b (lowS a.x b.x + k) z).2 then [(meetC a b (lowS a.x b.x + k) z).1] else []) := by
  unfold rowC
  rw [List.range_succ, List.filterMap_append]
  congr 1
  by_cases h : (meetC a b (lowS a.x b.x + k) z).2 = true <;> simp [h]
theorem rowsC_succ (a b : Pt) (k : Nat) : rowsC a b (k + 1) = rowsC a b k ++ rowC a b (lowS a.z b.z + k) (numS a.x b.x) := by
  unfold rowsC
  rw [List.range_succ, List.flatMap_append]
  simp
theorem rowC_len (a b : Pt) (z : Int) (k : Nat) : (rowC a b z k).length ≤ k := by
  have := List.length_filterMap_le (fun i : Nat => if (meetC a b (lowS a.x b.x + i) z).2 then some (meetC a b (lowS a.x b.x + i) z).1 else none) (List.range k)
  simpa [rowC] using this
theorem rowsC_len (a b : Pt) (k : Nat) : (rowsC a b k).length ≤ k * numS a.x b.x := by
  induction k with
  | zero => simp [rowsC]
  | succ k ih =>
    rw [rowsC_succ, List.length_append, Nat.succ_mul]
    have := rowC_len a b (lowS a.z b.z + k) (numS a.x b.x)
    omega
/-- The numbers of a point. -/
theorem pointOk_iff {p : Pt} : pointOk p = true ↔ 0 ≤ p.x ∧ p.x ≤ 64 ∧ 0 ≤ p.z ∧ p.z ≤ 64 := by
  simp [pointOk, and_assoc]
theorem lowS_bounds {a b : Int} (ha : 0 ≤ a ∧ a ≤ 64) (hb : 0 ≤ b ∧ b ≤ 64) : -1 ≤ lowS a b ∧ lowS a b ≤ 32 ∧ lowS a b = (min a b + 1) / 2 - 1 ∧ (numS a b : Int) = max a b / 2 - lowS a b + 1 ∧ numS a b ≤ 34 := by
  have e : (min a b + 1).tdiv 2 = (min a b + 1) / 2 := Int.tdiv_eq_ediv_of_nonneg (by omega)
  unfold numS lowS
  rw [e]
  omega

end Go.Proofs.YtjiklfffcnfdjaaGreat
