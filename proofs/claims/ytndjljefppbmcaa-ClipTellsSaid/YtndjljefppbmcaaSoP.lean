/- Plain: what a soup is made of, and what of it may be. Imports nothing of the dump. -/
import Derived.WalkKit
namespace Go.Proofs.Ytndjljefppbmcaa
open Go.RowKit

structure Vtx where
  x : Int
  y : Int
  z : Int
deriving DecidableEq
structure Tri3 where
  id : Int
  v0 : Vtx
  v1 : Vtx
  v2 : Vtx
deriving DecidableEq
structure Bx where
  id : Int
  x0 : Int
  z0 : Int
  x1 : Int
  z1 : Int
  y0 : Int
  y1 : Int
  area : Int
deriving DecidableEq
structure Spt where
  x : Int
  z : Int
  y : Int
deriving DecidableEq
structure Hp where
  id : Int
  a : Spt
  b : Spt
  both : Bool
  area : Int
  cost : Int
deriving DecidableEq

def vtxL (v : Vtx) : List Value := [.int .i64 v.x, .int .i64 v.y, .int .i64 v.z]
def triC (t : Tri3) : List Value := [.int .i64 t.id, .int .i64 t.v0.x, .int .i64 t.v0.y, .int .i64 t.v0.z, .int .i64 t.v1.x, .int .i64 t.v1.y, .int .i64 t.v1.z, .int .i64 t.v2.x, .int .i64 t.v2.y, .int .i64 t.v2.z]
def bxC (b : Bx) : List Value := [.int .i64 b.id, .int .i64 b.x0, .int .i64 b.z0, .int .i64 b.x1, .int .i64 b.z1, .int .i64 b.y0, .int .i64 b.y1, .int .i64 b.area]
def hpC (h : Hp) : List Value := [.int .i64 h.id, .int .i64 h.a.x, .int .i64 h.a.z, .int .i64 h.a.y, .int .i64 h.b.x, .int .i64 h.b.z, .int .i64 h.b.y, .bool h.both, .int .i64 h.area, .int .i64 h.cost]

def hgtOk (y : Int) : Bool := decide (-2048 ≤ y) && decide (y ≤ 2048)
def vtxOk (w d : Int) (v : Vtx) : Bool := decide (0 ≤ v.x) && decide (v.x ≤ w) && decide (0 ≤ v.z) && decide (v.z ≤ d) && hgtOk v.y
def flatT (t : Tri3) : Int := (t.v1.x - t.v0.x) * (t.v2.z - t.v0.z) - (t.v1.z - t.v0.z) * (t.v2.x - t.v0.x)
def triOk (w d : Int) (t : Tri3) : Bool := vtxOk w d t.v0 && vtxOk w d t.v1 && vtxOk w d t.v2 && (flatT t != 0)
def bxOk (w d : Int) (b : Bx) : Bool := decide (0 ≤ b.x0 ∧ b.x0 ≤ b.x1 ∧ b.x1 < w) && decide (0 ≤ b.z0 ∧ b.z0 ≤ b.z1 ∧ b.z1 < d) && (hgtOk b.y0 && hgtOk b.y1 && decide (b.y0 ≤ b.y1)) && decide (0 ≤ b.area ∧ b.area ≤ 7)
def sptOk (w d : Int) (s : Spt) : Bool := decide (0 ≤ s.x ∧ s.x < w) && decide (0 ≤ s.z ∧ s.z < d) && hgtOk s.y
def hpOk (w d : Int) (h : Hp) : Bool := sptOk w d h.a && sptOk w d h.b && decide (1 ≤ h.area ∧ h.area ≤ 7) && decide (0 ≤ h.cost ∧ h.cost ≤ 1048576)
def idOk (n : Int) : Bool := decide (1 ≤ n) && decide (n ≤ 1073741824)
/-- Ids rise, each thing may be. -/
def rowOk {α : Type} (id : α → Int) (ok : α → Bool) : Int → List α → Bool
  | _, [] => true
  | last, x :: l => idOk (id x) && ok x && decide (last < id x) && rowOk id ok (id x) l

end Go.Proofs.Ytndjljefppbmcaa
