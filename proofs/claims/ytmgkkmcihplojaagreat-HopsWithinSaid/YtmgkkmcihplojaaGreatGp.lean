/- Rows of records of one's own: read, kept, appended to; blocks known whole. -/
import Derived.Test.YtmgkkmcihplojaaGreatGa
import Derived.Laws.Rows
import Derived.RangeFuncRecord
import Derived.WalkKit
namespace Go.Proofs.YtmgkkmcihplojaaGreat
open Go.RowKit

theorem ownsRow_mono {w : World} {B B' : Nat} {e : TypeId} {size : Nat} {v : Value} {n : Nat} {xs : List Value} (h : w.ownsRow B e size v n xs) (hB : B' ≤ B) : w.ownsRow B' e size v n xs := by
  refine ⟨h.1, ?_⟩
  rcases h.2 with h0 | ⟨g, cap, cur, h2, h3, h4⟩
  · exact .inl h0
  · exact .inr ⟨g, cap, cur, h2, Nat.le_trans hB h3, h4⟩

/-- The slice value v, of n records, is one's own, in a block from B on, and reads as xs. -/
def OwnR {α : Type} (f : α → List Value) (sz : Nat) (e : TypeId) (B : Nat) (w : World) (v : Value) (n : Nat) (xs : List α) : Prop := xs.length = n ∧ w.ownsRow B e sz v n (xs.flatMap f)

section
variable {α : Type} {f : α → List Value} {sz : Nat} {e : TypeId} {B : Nat} {w : World} {v : Value} {n : Nat} {xs : List α}
theorem OwnR.nil (f : α → List Value) (sz : Nat) (e : TypeId) (B : Nat) (w : World) : OwnR f sz e B w (.slice none 0 0) 0 [] := ⟨rfl, World.ownsRow_nil _ _ _ _⟩
theorem flatMap_at (hf : ∀ x, (f x).length = sz) : ∀ (l : List α) (i : Nat) (x : α) (j : Nat) (u : Value), l[i]? = some x → (f x)[j]? = some u → (l.flatMap f)[i * sz + j]? = some u := by
  intro l
  induction l with
  | nil => intro i x j u hi; cases hi
  | cons y l ih =>
    intro i x j u hi hu
    have hj : j < sz := by rw [← hf x]; exact (List.getElem?_eq_some_iff.1 hu).1
    cases i with
    | zero =>
      simp at hi
      subst hi
      rw [List.flatMap_cons, List.getElem?_append_left (by rw [hf]; omega)]
      simpa using hu
    | succ i =>
      rw [List.flatMap_cons, List.getElem?_append_right (by rw [hf]; rw [Nat.succ_mul]; omega), hf]
      have := ih i x j u (by simpa using hi) hu
      rw [← this]
      congr 1
      rw [Nat.succ_mul]; omega
theorem OwnR.reads (hf : ∀ x, (f x).length = sz) (h : OwnR f sz e B w v n xs) : ∃ a c, v = .slice a n c ∧ SlR f sz w a n c xs := by
  rcases h.2.2 with ⟨rfl, hx⟩ | ⟨g, cap, cur, rfl, _, hg, h1, h2, h3, h4⟩
  · have hl := h.1
    rw [hx] at hl ⊢
    obtain rfl := List.eq_nil_of_length_eq_zero hl
    exact ⟨none, 0, rfl, SlR.nil _ _ _⟩
  · refine ⟨_, _, rfl, h.1, h1, by simpa [maxLen] using h2, .inr ⟨g, 0, rfl, (Array.getElem?_eq_some_iff.1 hg).1, fun i x hx j u hu => ?_⟩⟩
    have hcell := h.2.cells (g := g) rfl (i * sz + j) u (flatMap_at hf xs i x j u hx hu)
    have hadd : (⟨g, 0, none⟩ : Addr).add (i * sz + j) = ⟨g, 0 + i * sz + j, none⟩ := by rw [Addr.add_lit]; congr 1; omega
    rw [hadd] at hcell
    exact hcell
theorem OwnR.kept {w' : World} {row : Option Nat} (h : OwnR f sz e B w v n xs) (hg : w.grownBy w' row) (hne : v.ownBlock = none ∨ v.ownBlock ≠ row) : OwnR f sz e B w' v n xs := ⟨h.1, h.2.kept hg hne⟩
theorem OwnR.mono {B' : Nat} (h : OwnR f sz e B w v n xs) (hB : B' ≤ B) : OwnR f sz e B' w v n xs := ⟨h.1, ownsRow_mono h.2 hB⟩
end

section
variable {α : Type} {f : α → List Value} {sz : Nat} {e : TypeId} {B : Nat} {w : World} {v : Value} {n : Nat} {xs : List α}
theorem OwnR.alloc (h : OwnR f sz e B w v n xs) (o : Obj) : OwnR f sz e B (w.alloc o) v n xs := ⟨h.1, h.2.alloc o⟩
theorem OwnR.lt (h : OwnR f sz e B w v n xs) : ∀ j, v.ownBlock = some j → B ≤ j ∧ j < w.heap.size := h.2.lt
theorem OwnR.le (h : OwnR f sz e B w v n xs) : ∀ j, v.ownBlock = some j → B ≤ j := fun j hj => (h.lt j hj).1
theorem OwnR.below {w' : World} (h : OwnR f sz e B w v n xs) {B2 : Nat} (hb : Below B2 w w') (hB : w.heap.size ≤ B2) : OwnR f sz e B w' v n xs := by
  refine h.kept (row := none) ⟨hb.os, hb.tape, hb.output, hb.size, fun i hi _ => hb.block i (by omega)⟩ ?_
  cases v.ownBlock <;> simp

/-- 'append(out, x)': out is one's own row of records; x lies in a block of its own (the model builds it so). -/
theorem wpList_appR {P : Program} (w : World) {ops : Array Oper} {rest : List Oper} {o : Oper} {a : Act} {Q : Exit → Act → World → Prop}
    (hf : ∀ x, (f x).length = sz) (h1 : ∀ x, ∀ u ∈ f x, u.oneCell' = true) (hgd : o.guard = none) (s x : Operand) (t : TypeId) (hop : o.op = Op.call { callee := Callee.builtin Builtin.append, args := #[s, x], argTypes := #[t, t] })
    (z : Value) (bytes : Nat) (ht : P.underlying t = some (.slice e)) (hi : (P.info? e).map (fun i => (i.zero, i.size, i.bytes)) = some (some z, sz, bytes)) (hz : z.cells.size = sz) (hsz : 0 < sz)
    (y : α) (e' : TypeId) (hown : OwnR f sz e B w v n xs) (hs : a.eval s = v)
    (hx : a.eval x = .slice (some ⟨w.heap.size, 0, none⟩) 1 1)
    (h63 : n + 1 ≤ 9223372036854775807) (hbytes : (n + 1) * bytes ≤ 140737488355328) (hbase : B ≤ w.heap.size)
    (hK : ∀ v' w', OwnR f sz e B w' v' (n + 1) (xs ++ [y]) → Appd w w' v v' → wpList P ops Q rest (a.put o.dst v') w') :
    wpList P ops Q (o :: rest) a (w.alloc (.cells (f y).toArray e')) := by
  obtain ⟨i, hi, hz0, hz1, hz2⟩ := info_parts hi
  refine wpList_app (w.alloc (.cells (f y).toArray e')) hgd s x t hop B e i z sz bytes ht hi hz0 hz1 hz2 hz hsz v n (xs.flatMap f) hs (hown.2.alloc _) ⟨w.heap.size, 0, none⟩ 1 1 (f y) hx (by decide) (by rw [hf]; omega) ?_ (h1 y) (by unfold maxLen; omega) hbytes (by simp; omega) ?_
  · intro j u hu
    rw [Addr.add_lit, Nat.zero_add, World.cell?_alloc_at _ _ _ _ rfl]
    simpa using hu
  · intro v' w' q1 q2
    exact hK v' w' ⟨by simp [hown.1], by simpa using q1⟩ (Appd.trans (Appd.alloc (Appd.refl w v) _) q2)
end

/-! ### Blocks known whole -/
section
variable {w w' : World} {b k : Nat} {cs : Array Value} {t : TypeId} {fr : Nat × Nat} {u : Obj}
theorem hcell {v : Value} (h : w.heap[b]? = some (.cells cs t fr)) (hk : cs[k]? = some v) : w.cell? ⟨b, k, none⟩ = some v := by simp [World.cell?, h, hk]
theorem hfroz (h : w.heap[b]? = some (.cells cs t (0, 0))) : w.frozen? ⟨b, k, none⟩ = false := by simp [World.frozen?, h]
theorem hblt (h : w.heap[b]? = some u) : b < w.heap.size := (Array.getElem?_eq_some_iff.1 h).1
theorem hkeep (hb : Below w.heap.size w w') (h : w.heap[b]? = some u) : w'.heap[b]? = some u := (hb.block b (hblt h)).trans h
theorem hgrown {row : Option Nat} (hg : w.grownBy w' row) (h : w.heap[b]? = some u) (hne : row ≠ some b) : w'.heap[b]? = some u := (hg.block b (hblt h) (fun e => hne e.symm)).trans h
theorem halloc (h : w.heap[b]? = some u) (o : Obj) : (w.alloc o).heap[b]? = some u := hkeep ((Below.refl _ _).alloc (Nat.le_refl _) o) h
theorem hbc {p : Addr} {v : Value} (hb : Below w.heap.size w w') (h : w.cell? p = some v) : w'.cell? p = some v := (hb.cell (World.block_lt_of_cell? w _ h)).trans h
theorem grown_set (w : World) (b i : Nat) (v : Value) : w.grownBy (w.setCell ⟨b, i, none⟩ v) (some b) :=
  ⟨rfl, rfl, rfl, by simp, fun k hk hne => heap_setCell_other w _ k v (by intro h; exact hne (by rw [h]))⟩
theorem box3_set {x y z : Value} (h : w.heap[b]? = some (.cells #[x, y, z] t (0, 0))) (x' y' z' : Value) : (((w.setCell ⟨b, 0, none⟩ x').setCell ⟨b, 1, none⟩ y').setCell ⟨b, 2, none⟩ z').heap[b]? = some (.cells #[x', y', z'] t (0, 0)) :=
  heap_setCell_same _ b 2 _ _ _ (heap_setCell_same _ b 1 _ _ _ (heap_setCell_same _ b 0 _ _ _ h))
theorem box3_grown (x' y' z' : Value) : w.grownBy (((w.setCell ⟨b, 0, none⟩ x').setCell ⟨b, 1, none⟩ y').setCell ⟨b, 2, none⟩ z') (some b) :=
  ((grown_set w b 0 x').trans (grown_set _ b 1 y')).trans (grown_set _ b 2 z')
end

end Go.Proofs.YtmgkkmcihplojaaGreat

namespace Go.Proofs.YtmgkkmcihplojaaGreat
open Go.RowKit

/-- A floor. -/
structure Flr where
  y : Int
  top : Int
  area : Int
deriving DecidableEq
abbrev flrV (f : Flr) : Value := .agg #[.int .i64 f.y, .int .i64 f.top, .int .i64 f.area]
end Go.Proofs.YtmgkkmcihplojaaGreat

namespace Go.Proofs.YtmgkkmcihplojaaGreat
open Go.RowKit

structure Vtx where
  x : Int
  y : Int
  z : Int
deriving DecidableEq
structure Tri3 where
  id : Int
  v0 : Vtx
  v1 : Vtx
  v2 : Vtx
deriving DecidableEq
structure Bx where
  id : Int
  x0 : Int
  z0 : Int
  x1 : Int
  z1 : Int
  y0 : Int
  y1 : Int
  area : Int
deriving DecidableEq
structure Spt where
  x : Int
  z : Int
  y : Int
deriving DecidableEq
structure Hp where
  id : Int
  a : Spt
  b : Spt
  both : Bool
  area : Int
  cost : Int
deriving DecidableEq

def triC (t : Tri3) : List Value := [.int .i64 t.id, .int .i64 t.v0.x, .int .i64 t.v0.y, .int .i64 t.v0.z, .int .i64 t.v1.x, .int .i64 t.v1.y, .int .i64 t.v1.z, .int .i64 t.v2.x, .int .i64 t.v2.y, .int .i64 t.v2.z]
def bxC (b : Bx) : List Value := [.int .i64 b.id, .int .i64 b.x0, .int .i64 b.z0, .int .i64 b.x1, .int .i64 b.z1, .int .i64 b.y0, .int .i64 b.y1, .int .i64 b.area]
def hpC (h : Hp) : List Value := [.int .i64 h.id, .int .i64 h.a.x, .int .i64 h.a.z, .int .i64 h.a.y, .int .i64 h.b.x, .int .i64 h.b.z, .int .i64 h.b.y, .bool h.both, .int .i64 h.area, .int .i64 h.cost]

def hgtOk (y : Int) : Bool := decide (-2048 ≤ y) && decide (y ≤ 2048)
def vtxOk (w d : Int) (v : Vtx) : Bool := decide (0 ≤ v.x) && decide (v.x ≤ w) && decide (0 ≤ v.z) && decide (v.z ≤ d) && hgtOk v.y
def flatT (t : Tri3) : Int := (t.v1.x - t.v0.x) * (t.v2.z - t.v0.z) - (t.v1.z - t.v0.z) * (t.v2.x - t.v0.x)
def triOk (w d : Int) (t : Tri3) : Bool := vtxOk w d t.v0 && vtxOk w d t.v1 && vtxOk w d t.v2 && (flatT t != 0)
def bxOk (w d : Int) (b : Bx) : Bool := decide (0 ≤ b.x0 ∧ b.x0 ≤ b.x1 ∧ b.x1 < w) && decide (0 ≤ b.z0 ∧ b.z0 ≤ b.z1 ∧ b.z1 < d) && (hgtOk b.y0 && hgtOk b.y1 && decide (b.y0 ≤ b.y1)) && decide (0 ≤ b.area ∧ b.area ≤ 7)
def sptOk (w d : Int) (s : Spt) : Bool := decide (0 ≤ s.x ∧ s.x < w) && decide (0 ≤ s.z ∧ s.z < d) && hgtOk s.y
def hpOk (w d : Int) (h : Hp) : Bool := sptOk w d h.a && sptOk w d h.b && decide (1 ≤ h.area ∧ h.area ≤ 7) && decide (0 ≤ h.cost ∧ h.cost ≤ 1048576)
def idOk (n : Int) : Bool := decide (1 ≤ n) && decide (n ≤ 1073741824)
/-- Ids rise, each thing may be. -/
def rowOk {α : Type} (id : α → Int) (ok : α → Bool) : Int → List α → Bool
  | _, [] => true
  | last, x :: l => idOk (id x) && ok x && decide (last < id x) && rowOk id ok (id x) l

end Go.Proofs.YtmgkkmcihplojaaGreat
