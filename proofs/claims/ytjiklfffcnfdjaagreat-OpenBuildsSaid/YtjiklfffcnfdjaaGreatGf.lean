/- Walks: the cells' small functions. -/
import Derived.Test.YtjiklfffcnfdjaaGreatGc
import Derived.Test.YtjiklfffcnfdjaaGreatGp
import Derived.Test.YtjiklfffcnfdjaaGreatGo
import Derived.Test.YtjiklfffcnfdjaaGreatSlf
import Derived.Outline
import Derived.Deep.RegionHeld3
namespace Go.Proofs.YtjiklfffcnfdjaaGreat
open Go.RowKit

abbrev rtA (r : Rt) : Value := .agg #[.int .i64 r.n, .int .i64 r.d]
abbrev ptA (p : Pt) : Value := .agg #[.int .i64 p.x, .int .i64 p.z]
abbrev ceA (c : Cel) : Value := .agg #[.int .i64 c.x, .int .i64 c.z, .int .i64 c.p.n, .int .i64 c.p.d, .int .i64 c.q.n, .int .i64 c.q.d]

theorem box2_set {w : World} {b : Nat} {t : TypeId} {x y : Value} (h : w.heap[b]? = some (.cells #[x, y] t (0, 0))) (x' y' : Value) : ((w.setCell ⟨b, 0, none⟩ x').setCell ⟨b, 1, none⟩ y').heap[b]? = some (.cells #[x', y'] t (0, 0)) :=
  heap_setCell_same _ b 1 _ _ _ (heap_setCell_same _ b 0 _ _ _ h)
theorem box2_grown {w : World} {b : Nat} (x' y' : Value) : w.grownBy ((w.setCell ⟨b, 0, none⟩ x').setCell ⟨b, 1, none⟩ y') (some b) :=
  (grown_set w b 0 x').trans (grown_set _ b 1 y')

theorem dr_heap {w : World} {b : Nat} {u : Obj} (h : w.heap[b]? = some u) : w.drew.heap[b]? = some u := h
theorem gcd_step {A B : Nat} (_h : B ≠ 0) : Nat.gcd B (A % B) = Nat.gcd A B := by
  rw [Nat.gcd_comm A B, Nat.gcd_rec B A, Nat.gcd_comm]

theorem mul_bound {x y K : Int} (hK : 0 ≤ K) (hx : -K ≤ x ∧ x ≤ K) (hy : 0 ≤ y ∧ y ≤ K) : -(K * K) ≤ x * y ∧ x * y ≤ K * K := by
  constructor
  · have h1 := Int.mul_le_mul_of_nonneg_right (a := -K) (b := x) (c := y) hx.1 hy.1
    have h2 := Int.mul_le_mul_of_nonneg_left (a := y) (b := K) (c := K) hy.2 hK
    rw [Int.neg_mul] at h1
    omega
  · have h1 := Int.mul_le_mul_of_nonneg_right (a := x) (b := K) (c := y) hx.2 hy.1
    have h2 := Int.mul_le_mul_of_nonneg_left (a := y) (b := K) (c := K) hy.2 hK
    omega
theorem results_cct1 {P : Program} {fn : Func} {p q u : Tmp} {ty ty' : TypeId} (h : fn.results = #[.cell p ty, .cell q ty', .tmp u]) (tmps : Array Value) (w : World) (g : Nat) (t : TypeId) (cs : Array Value) (fr : Nat × Nat) (d : TypeDesc)
    (g' : Nat) (t' : TypeId) (cs' : Array Value) (fr' : Nat × Nat) (d' : TypeDesc)
    (hp : tmps.getD p undef = .pointer (some ⟨g, 0, none⟩)) (hg : w.heap[g]? = some (.cells cs t fr))
    (hu : P.underlying ty = some d) (hd : (match d with | .struct _ | .array _ _ => true | _ => false) = true) (hi : (P.info? ty).map (·.size) = some cs.size)
    (hp' : tmps.getD q undef = .pointer (some ⟨g', 0, none⟩)) (hg' : w.heap[g']? = some (.cells cs' t' fr'))
    (hu' : P.underlying ty' = some d') (hd' : (match d' with | .struct _ | .array _ _ => true | _ => false) = true) (hi' : (P.info? ty').map (·.size) = some cs'.size) :
    (results fn tmps).run P w = .ok (.tuple #[.agg cs, .agg cs', tmps.getD u undef]) w := by
  have e1 : tmps[p]?.getD undef = .pointer (some ⟨g, 0, none⟩) := by simpa using hp
  have e2 : tmps[q]?.getD undef = .pointer (some ⟨g', 0, none⟩) := by simpa using hp'
  simp [results, h, e1, e2, asAddr, run_loadVar_row w g t ty cs fr d hg hu hd hi, run_loadVar_row w g' t' ty' cs' fr' d' hg' hu' hd' hi', Sem.run_bind, Result.andThen]
theorem results_ct1 {P : Program} {fn : Func} {p u : Tmp} {ty : TypeId} (h : fn.results = #[.cell p ty, .tmp u]) (tmps : Array Value) (w : World) (g : Nat) (t : TypeId) (cs : Array Value) (fr : Nat × Nat) (d : TypeDesc)
    (hp : tmps.getD p undef = .pointer (some ⟨g, 0, none⟩)) (hg : w.heap[g]? = some (.cells cs t fr))
    (hu : P.underlying ty = some d) (hd : (match d with | .struct _ | .array _ _ => true | _ => false) = true) (hi : (P.info? ty).map (·.size) = some cs.size) :
    (results fn tmps).run P w = .ok (.tuple #[.agg cs, tmps.getD u undef]) w := by
  have e1 : tmps[p]?.getD undef = .pointer (some ⟨g, 0, none⟩) := by simpa using hp
  simp [results, h, e1, asAddr, run_loadVar_row w g t ty cs fr d hg hu hd hi, Result.andThen]

end Go.Proofs.YtjiklfffcnfdjaaGreat

namespace Go.Proofs.YtjiklfffcnfdjaaGreat
open Go.RowKit

theorem heap_set_far {w : World} {b b' i : Nat} {u : Obj} {v : Value} (hb : w.heap[b]? = some u) (hne : b ≠ b') : (w.setCell ⟨b', i, none⟩ v).heap[b]? = some u := (heap_setCell_other w _ b v hne).trans hb
theorem rt0_small : RtSmall 1073741824 rt0 := by unfold RtSmall rt0; simp
theorem rt1_small : RtSmall 1073741824 rt1 := by unfold RtSmall rt1; simp
theorem RtSmall.big {r : Rt} (h : RtSmall 1000 r) : RtSmall 1073741824 r := ⟨by have := h.1; omega, by have := h.2.1; omega, h.2.2.1, by have := h.2.2.2; omega⟩
theorem ret_axis {x y : Rt} {b : Bool} {X : Rt × Rt × Bool} (h : X = (x, y, b)) : Ending.returned (.tuple #[.agg #[.int .i64 x.n, .int .i64 x.d], .agg #[.int .i64 y.n, .int .i64 y.d], .bool b]) = Ending.returned (.tuple #[rtA X.1, rtA X.2.1, .bool X.2.2]) := by rw [h]

end Go.Proofs.YtjiklfffcnfdjaaGreat
