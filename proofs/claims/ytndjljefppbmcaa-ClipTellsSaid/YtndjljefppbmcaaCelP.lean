/- Plain law: a segment over columns: ratios, stretches, columns. -/
import Derived.Test.YtndjljefppbmcaaRow
import Derived.Shelf.SlicesG.Cmp
namespace Go.Proofs.Ytndjljefppbmcaa

/-- A ratio. -/
structure Rt where
  n : Int
  d : Int
deriving DecidableEq
/-- A point. -/
structure Pt where
  x : Int
  z : Int
deriving DecidableEq
/-- A column that a segment meets. -/
structure Cel where
  x : Int
  z : Int
  p : Rt
  q : Rt
deriving DecidableEq

def ratioS (n d : Int) : Rt :=
  if d < 0 then ⟨(-n).tdiv (Int.gcd (-n) (-d) : Nat), (-d).tdiv (Int.gcd (-n) (-d) : Nat)⟩ else ⟨n.tdiv (Int.gcd n d : Nat), d.tdiv (Int.gcd n d : Nat)⟩
def cmpR (p q : Rt) : Int := Lib.compareInt (p.n * q.d) (q.n * p.d)
def rt0 : Rt := ⟨0, 1⟩
def rt1 : Rt := ⟨1, 1⟩
def ins (a b lo : Int) : Rt × Rt := if b < a then (ratioS (lo + 2 - a) (b - a), ratioS (lo - a) (b - a)) else (ratioS (lo - a) (b - a), ratioS (lo + 2 - a) (b - a))
def axisS (a b lo : Int) : Rt × Rt × Bool :=
  if a = b then (rt0, rt1, decide (lo ≤ a) && decide (a ≤ lo + 2))
  else
    let f := if 0 < cmpR (ins a b lo).1 rt0 then (ins a b lo).1 else rt0
    let l := if cmpR (ins a b lo).2 rt1 < 0 then (ins a b lo).2 else rt1
    (f, l, decide (cmpR f l ≤ 0))
def meetC (a b : Pt) (x z : Int) : Cel × Bool :=
  let u := axisS a.x b.x (2 * x)
  let v := axisS a.z b.z (2 * z)
  let p := if 0 < cmpR v.1 u.1 then v.1 else u.1
  let q := if cmpR v.2.1 u.2.1 < 0 then v.2.1 else u.2.1
  (⟨x, z, p, q⟩, u.2.2 && v.2.2 && decide (cmpR p q ≤ 0))
def pointOk (p : Pt) : Bool := decide (0 ≤ p.x) && decide (p.x ≤ 64) && decide (0 ≤ p.z) && decide (p.z ≤ 64)

/-! ### Ratios -/
/-- Numbers small enough. -/
def RtSmall (K : Int) (r : Rt) : Prop := -K ≤ r.n ∧ r.n ≤ K ∧ 1 ≤ r.d ∧ r.d ≤ K

theorem ratio_pos {n d : Int} (hd : 0 < d) : ∃ g : Int, 0 < g ∧ n = g * (n.tdiv (Int.gcd n d : Nat)) ∧ d = g * (d.tdiv (Int.gcd n d : Nat)) := by
  have h0 : 0 < Int.gcd n d := Int.gcd_pos_of_ne_zero_right _ (by omega)
  have h1 : ((Int.gcd n d : Nat) : Int) ∣ n := Int.gcd_dvd_left ..
  have h2 : ((Int.gcd n d : Nat) : Int) ∣ d := Int.gcd_dvd_right ..
  exact ⟨_, by omega, (Int.mul_tdiv_cancel' h1).symm, (Int.mul_tdiv_cancel' h2).symm⟩
/-- The ratio in lowest terms is the ratio. -/
theorem ratioS_spec {n d : Int} (hd : d ≠ 0) : ∃ g : Int, 0 < g ∧ (if d < 0 then -n else n) = g * (ratioS n d).n ∧ (if d < 0 then -d else d) = g * (ratioS n d).d := by
  unfold ratioS
  by_cases h : d < 0
  · simp only [h, if_true]
    exact ratio_pos (by omega)
  · simp only [h, if_false]
    exact ratio_pos (by omega)
theorem abs_le_of_mul {g x K : Int} (hg : 0 < g) (h1 : -K ≤ g * x) (h2 : g * x ≤ K) (hK : 0 ≤ K) : -K ≤ x ∧ x ≤ K := by
  constructor
  · by_cases h : 0 ≤ x
    · omega
    · have := Int.mul_le_mul_of_nonpos_right (a := g) (b := 1) (c := x) (by omega) (by omega)
      omega
  · by_cases h : x ≤ 0
    · omega
    · have := Int.mul_le_mul_of_nonneg_right (a := 1) (b := g) (c := x) (by omega) (by omega)
      omega
theorem ratioS_small {n d K : Int} (hd : d ≠ 0) (hn1 : -K ≤ n) (hn2 : n ≤ K) (hd1 : -K ≤ d) (hd2 : d ≤ K) : RtSmall K (ratioS n d) := by
  obtain ⟨g, hg, e1, e2⟩ := ratioS_spec (n := n) hd
  have a1 := abs_le_of_mul (K := K) hg (x := (ratioS n d).n) (by rw [← e1]; split <;> omega) (by rw [← e1]; split <;> omega) (by omega)
  have a2 := abs_le_of_mul (K := K) hg (x := (ratioS n d).d) (by rw [← e2]; split <;> omega) (by rw [← e2]; split <;> omega) (by omega)
  have hp : 0 < g * (ratioS n d).d := by rw [← e2]; split <;> omega
  have : 0 < (ratioS n d).d := Int.pos_of_mul_pos_left (by rwa [Int.mul_comm] at hp) hg
  exact ⟨a1.1, a1.2, by omega, a2.2⟩

end Go.Proofs.Ytndjljefppbmcaa
