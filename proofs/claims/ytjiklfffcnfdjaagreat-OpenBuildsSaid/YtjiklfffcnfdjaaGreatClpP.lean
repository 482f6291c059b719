/- Plain law: what of a triangle lies over a column: numbers. -/
import Derived.Test.YtjiklfffcnfdjaaGreatGa
namespace Go.Proofs.YtjiklfffcnfdjaaGreat

/-- A vertex. -/
structure V3 where
  x : Int
  y : Int
  z : Int
deriving DecidableEq
/-- A point of the plane: (x / d, z / d). -/
structure Sp where
  x : Int
  z : Int
  d : Int
deriving DecidableEq
/-- A corner. -/
structure Cr where
  x : Int
  z : Int
  y : Int
  d : Int
deriving DecidableEq
/-- A triangle turned so that its area is above 0. -/
structure T3 where
  a : V3
  b : V3
  c : V3
  s : Int
deriving DecidableEq

def crossI (a b c d : Int) : Int := a * d - b * c
def floorI (a b : Int) : Int := a / b
def ceilI (a b : Int) : Int := -((-a) / b)
def vOk (v : V3) : Bool := decide (0 ≤ v.x) && decide (v.x ≤ 32) && decide (0 ≤ v.z) && decide (v.z ≤ 32) && decide (-2048 ≤ v.y) && decide (v.y ≤ 2048)
def flatS (a b c : V3) : Int := crossI (b.x - a.x) (b.z - a.z) (c.x - a.x) (c.z - a.z)
def zV : V3 := ⟨0, 0, 0⟩
def zT : T3 := ⟨zV, zV, zV, 0⟩
def openT (a b c : V3) : T3 × Bool :=
  if vOk a && vOk b && vOk c then
    if flatS a b c < 0 then (⟨a, c, b, -flatS a b c⟩, true) else (⟨a, b, c, flatS a b c⟩, decide (flatS a b c ≠ 0))
  else (zT, false)
def edgeS (a b : V3) (p : Sp) : Int := crossI (b.x - a.x) (b.z - a.z) (p.x - a.x * p.d) (p.z - a.z * p.d)
def holdsT (t : T3) (p : Sp) : Bool := decide (0 ≤ edgeS t.a t.b p) && decide (0 ≤ edgeS t.b t.c p) && decide (0 ≤ edgeS t.c t.a p)
def nxT (t : T3) : Int := crossI (t.b.y - t.a.y) (t.c.y - t.a.y) (t.b.z - t.a.z) (t.c.z - t.a.z)
def nzT (t : T3) : Int := crossI (t.b.x - t.a.x) (t.c.x - t.a.x) (t.b.y - t.a.y) (t.c.y - t.a.y)
/-- The corner over a point, not yet in lowest terms. -/
def rawT (t : T3) (p : Sp) : Cr := ⟨p.x * t.s, p.z * t.s, t.a.y * t.s * p.d + nxT t * (p.x - t.a.x * p.d) + nzT t * (p.z - t.a.z * p.d), t.s * p.d⟩
def gcdC (c : Cr) : Int := (Int.gcd (Int.gcd (Int.gcd c.d c.x) c.z) c.y : Nat)
def lowC (c : Cr) : Cr := ⟨c.x.tdiv (gcdC c), c.z.tdiv (gcdC c), c.y.tdiv (gcdC c), c.d.tdiv (gcdC c)⟩
def liftT (t : T3) (p : Sp) : Cr := lowC (rawT t p)
/-- Where a side crosses a line of x. -/
def zSp : Sp := ⟨0, 0, 0⟩
def alongP (a b : V3) (n : Int) : Sp × Bool :=
  let d := b.x - a.x
  if d = 0 ∨ (n - a.x) * d < 0 ∨ (b.x - n) * d < 0 then (zSp, false)
  else if d < 0 then (⟨n * -d, b.z * -d + (a.z - b.z) * (n - b.x), -d⟩, true)
  else (⟨n * d, a.z * d + (b.z - a.z) * (n - a.x), d⟩, true)
def turnV (v : V3) : V3 := ⟨v.z, v.y, v.x⟩
def alongQ (a b : V3) (n : Int) : Sp × Bool :=
  let r := alongP (turnV a) (turnV b) n
  (⟨r.1.z, r.1.x, r.1.d⟩, r.2)
def overS (x z : Int) (p : Sp) : Bool := decide (x * p.d ≤ p.x) && decide (p.x ≤ (x + 1) * p.d) && decide (z * p.d ≤ p.z) && decide (p.z ≤ (z + 1) * p.d)
/-- The corners of a column. -/
def colS (x z : Int) : List Sp := [⟨x, z, 1⟩, ⟨x + 1, z, 1⟩, ⟨x, z + 1, 1⟩, ⟨x + 1, z + 1, 1⟩]
def verS (t : T3) : List Sp := [⟨t.a.x, t.a.z, 1⟩, ⟨t.b.x, t.b.z, 1⟩, ⟨t.c.x, t.c.z, 1⟩]
def keepS (x z : Int) (r : Sp × Bool) : List Sp := if r.2 && overS x z r.1 then [r.1] else []
/-- Where a side crosses the lines of a column. -/
def sideS (x z : Int) (a b : V3) : List Sp :=
  [x, x + 1, z, z + 1].flatMap (fun n => keepS x z (alongP a b n)) ++ [x, x + 1, z, z + 1].flatMap (fun n => keepS x z (alongQ a b n))
def spotsS (t : T3) (x z : Int) : List Sp :=
  (colS x z).filter (holdsT t) ++ (verS t).filter (overS x z) ++ (sideS x z t.a t.b ++ sideS x z t.b t.c ++ sideS x z t.c t.a)
/-- The spots are small. -/
def SpSmall (p : Sp) : Prop := -5000 ≤ p.x ∧ p.x ≤ 5000 ∧ -5000 ≤ p.z ∧ p.z ≤ 5000 ∧ 0 ≤ p.d ∧ p.d ≤ 32
theorem mulB {x y K L : Int} (hx : -K ≤ x ∧ x ≤ K) (hy : -L ≤ y ∧ y ≤ L) : -(K * L) ≤ x * y ∧ x * y ≤ K * L := by
  have hK : 0 ≤ K := by omega
  have hL : 0 ≤ L := by omega
  have h1 : x * y ≤ K * L := by
    rcases Int.le_total 0 y with h | h
    · exact Int.le_trans (Int.mul_le_mul_of_nonneg_right hx.2 h) (Int.mul_le_mul_of_nonneg_left hy.2 hK)
    · have a := Int.mul_le_mul_of_nonpos_right hx.1 h
      have b := Int.mul_le_mul_of_nonneg_left (a := -y) (b := L) (c := K) (by omega) hK
      rw [Int.neg_mul] at a
      rw [Int.mul_neg] at b
      omega
  have h2 : -(K * L) ≤ x * y := by
    rcases Int.le_total 0 y with h | h
    · have a := Int.mul_le_mul_of_nonneg_right hx.1 h
      have b := Int.mul_le_mul_of_nonneg_left hy.2 hK
      rw [Int.neg_mul] at a
      omega
    · have a := Int.mul_le_mul_of_nonpos_right hx.2 h
      have b := Int.mul_le_mul_of_nonneg_left (a := -y) (b := L) (c := K) (by omega) hK
      rw [Int.mul_neg] at b
      omega
  exact ⟨h2, h1⟩
end Go.Proofs.YtjiklfffcnfdjaaGreat
