/- Views of memory: slices whose elements take several cells. -/
import Derived.Test.YtjiklfffcnfdjaaMem
import Derived.Lib.QuietBelow
namespace Go.Proofs.Ytjiklfffcnfdjaa
open Go.RowKit

/-- The slice value '.slice a n c' reads as the list xs: each element x takes the sz cells f x. -/
structure SlR {α : Type} (f : α → List Value) (sz : Nat) (w : World) (a : Option Addr) (n c : Nat) (xs : List α) : Prop where
  len : xs.length = n
  le : n ≤ c
  max : c ≤ 9223372036854775807
  cell : n = 0 ∨ ∃ b off, a = some ⟨b, off, none⟩ ∧ b < w.heap.size ∧ ∀ i x, xs[i]? = some x → ∀ j v, (f x)[j]? = some v → w.cell? ⟨b, off + i * sz + j, none⟩ = some v

section
variable {α : Type} {f : α → List Value} {sz : Nat} {w : World} {a : Option Addr} {n c : Nat} {xs : List α}
theorem SlR.nil (f : α → List Value) (sz : Nat) (w : World) : SlR f sz w none 0 0 [] := ⟨rfl, Nat.le_refl _, by omega, .inl rfl⟩
theorem SlR.drewN (h : SlR f sz w a n c xs) (m : Nat) : SlR f sz (w.drewN m) a n c xs := ⟨h.len, h.le, h.max, h.cell⟩
theorem SlR.grown {w' : World} (h : SlR f sz w a n c xs) {row : Option Nat} (hg : w.grownBy w' row) (hne : ∀ ad, a = some ad → row ≠ some ad.block) : SlR f sz w' a n c xs := by
  refine ⟨h.len, h.le, h.max, ?_⟩
  rcases h.cell with h0 | ⟨b, off, ha, hlt, hc⟩
  · exact .inl h0
  · exact .inr ⟨b, off, ha, Nat.lt_of_lt_of_le hlt hg.size, fun i x hx j v hv => hg.cell (hc i x hx j v hv) (fun e => hne _ ha e.symm)⟩
theorem SlR.below {w' : World} (h : SlR f sz w a n c xs) {B : Nat} (hb : Below B w w') (hB : w.heap.size ≤ B) : SlR f sz w' a n c xs := by
  refine ⟨h.len, h.le, h.max, ?_⟩
  rcases h.cell with h0 | ⟨b, off, ha, hlt, hc⟩
  · exact .inl h0
  · refine .inr ⟨b, off, ha, Nat.lt_of_lt_of_le hlt hb.size, fun i x hx j v hv => ?_⟩
    rw [hb.cell (p := ⟨b, off + i * sz + j, none⟩) (by show b < B; omega)]
    exact hc i x hx j v hv
theorem SlR.alloc (h : SlR f sz w a n c xs) (o : Obj) : SlR f sz (w.alloc o) a n c xs :=
  h.below ((Below.refl w.heap.size w).alloc (Nat.le_refl _) o) (Nat.le_refl _)
theorem SlR.at0 (h : SlR f sz w a n c xs) (hn : 0 < n) : ∃ b off, a = some ⟨b, off, none⟩ ∧ b < w.heap.size ∧ ∀ i x, xs[i]? = some x → ∀ j v, (f x)[j]? = some v → w.cell? ⟨b, off + i * sz + j, none⟩ = some v := by
  rcases h.cell with h0 | h0
  · omega
  · exact h0
end

/-- The walk's world under a name of its own, with facts. -/
theorem wp_named {P : Program} {c : Code} {Q : Exit → Act → World → Prop} {a : Act} {w : World} (F : World → Prop) (hF : F w) (h : ∀ w0, F w0 → c.wp P Q a w0) : c.wp P Q a w := h w hF

/-- A span. -/
structure Spn where
  lo : Int
  hi : Int
  walk : Bool
deriving DecidableEq

def spnC (s : Spn) : List Value := [.int .i64 s.lo, .int .i64 s.hi, .bool s.walk]
def spnV (s : Spn) : Value := .agg #[.int .i64 s.lo, .int .i64 s.hi, .bool s.walk]
/-- Slices of spans. -/
abbrev SlSp := SlR spnC 3

theorem SlSp.cells {w : World} {b off : Nat} {xs : List Spn} (h : ∀ i x, xs[i]? = some x → ∀ j v, (spnC x)[j]? = some v → w.cell? ⟨b, off + i * 3 + j, none⟩ = some v) {k : Nat} {x : Spn} (hx : xs[k]? = some x) :
    w.cell? ⟨b, off + k * 3, none⟩ = some (.int .i64 x.lo) ∧ w.cell? ⟨b, off + k * 3 + 1, none⟩ = some (.int .i64 x.hi) ∧ w.cell? ⟨b, off + k * 3 + 2, none⟩ = some (.bool x.walk) :=
  ⟨h k x hx 0 _ rfl, h k x hx 1 _ rfl, h k x hx 2 _ rfl⟩

/-- May it be a piece? -/
def mayS (s : Spn) : Bool := decide (s.lo ≤ s.hi) && decide (-2048 ≤ s.lo) && decide (s.hi ≤ 2048)

/-- Does the i-th span stand where it may? -/
def goodAt (xs : List Spn) (i : Nat) : Bool := match xs[i]? with
  | none => true
  | some x => mayS x && (i == 0 || match xs[i - 1]? with
    | none => true
    | some y => decide (y.hi < x.lo))
def spOk (xs : List Spn) : Bool := decide (xs.length ≤ 8) && (List.range xs.length).all (goodAt xs)
def spE (xs : List Spn) : Int := if spOk xs then 0 else 2

theorem spE_long {xs : List Spn} (h : 8 < xs.length) : spE xs = 2 := by
  have : spOk xs = false := by simp [spOk]; omega
  simp [spE, this]
theorem spE_bad {xs : List Spn} {i : Nat} (h : i < xs.length) (hg : goodAt xs i = false) : spE xs = 2 := by
  have : spOk xs = false := by
    simp only [spOk, Bool.and_eq_false_iff]
    right
    rw [List.all_eq_false]
    exact ⟨i, by simp [h], by simp [hg]⟩
  simp [spE, this]
theorem spE_good {xs : List Spn} (h8 : xs.length ≤ 8) (hg : ∀ i, i < xs.length → goodAt xs i = true) : spE xs = 0 := by
  have : spOk xs = true := by
    simp only [spOk, Bool.and_eq_true, decide_eq_true_eq, List.all_eq_true]
    exact ⟨h8, fun i hi => hg i (by simpa using hi)⟩
  simp [spE, this]
theorem goodAt_zero {xs : List Spn} {x : Spn} (hx : xs[0]? = some x) : goodAt xs 0 = mayS x := by simp [goodAt, hx]
theorem goodAt_succ {xs : List Spn} {k : Nat} {x y : Spn} (hk : 0 < k) (hx : xs[k]? = some x) (hy : xs[k - 1]? = some y) : goodAt xs k = (mayS x && decide (y.hi < x.lo)) := by
  have : (k == 0) = false := by simp; omega
  simp [goodAt, hx, hy, this]
theorem good_step {xs : List Spn} {k : Nat} (h : ∀ i, i < k → goodAt xs i = true) (hk : goodAt xs k = true) : ∀ i, i < k + 1 → goodAt xs i = true := by
  intro i hi
  by_cases e : i = k
  · rw [e]; exact hk
  · exact h i (by omega)

end Go.Proofs.Ytjiklfffcnfdjaa
