/- Iterators: what a round that goes on keeps. -/
import Derived.RangeFuncNested
import Derived.RangeFuncBound
import Derived.RangeFuncCalls
import Derived.RangeFuncLeaves
import Derived.Shelf.Abstract
import Derived.Shelf.RegionOpen
import Derived.WalkKit
import Derived.OwnWalkIn
import Derived.TacticsInMore
import Derived.LoopNIn
import Derived.LoopIn
import Derived.Test.YtjiklfffcnfdjaaRow
import Derived.Test.YtjiklfffcnfdjaaOwnR
namespace Go.Proofs.Ytjiklfffcnfdjaa
open Go.RowKit

/-- A function value against nil. -/
theorem run_eql_func_nil {P : Program} {t : TypeId} {d : TypeDesc} (h : P.underlying t = some d) (hd : ∃ a b c, d = .func a b c) (f : Fn) (x y : Array Value) (w : World) :
    (binOp .eql t (.func f x y) .nilFunc).run P w = .ok (.bool false) w := by
  obtain ⟨a, b, c, rfl⟩ := hd
  have h1 : ∀ n : Nat, (Op.equalIn (n + 1) t (.func f x y) .nilFunc).run P w = .ok false w := fun n => by
    simp [Op.equalIn, run_underlying h]
  simp only [binOp]
  simp [Op.equal, Op.maxDepth, h1 9999]

/-- All blocks below L but those in S lie as they lay. -/
structure KeepEx (L : Nat) (S : Nat → Prop) (A B : World) : Prop where
  size : A.heap.size ≤ B.heap.size
  block : ∀ k, k < L → ¬ S k → B.heap[k]? = A.heap[k]?

theorem KeepEx.refl (L : Nat) (S : Nat → Prop) (A : World) : KeepEx L S A A := ⟨Nat.le_refl _, fun _ _ _ => rfl⟩
theorem KeepEx.trans {L : Nat} {S : Nat → Prop} {A B C : World} (h : KeepEx L S A B) (k : KeepEx L S B C) : KeepEx L S A C :=
  ⟨Nat.le_trans h.size k.size, fun i hi hs => (k.block i hi hs).trans (h.block i hi hs)⟩
theorem KeepEx.cell {L : Nat} {S : Nat → Prop} {A B : World} (h : KeepEx L S A B) {p : Addr} {v : Value} (hp : p.block < L) (hs : ¬ S p.block) (hc : A.cell? p = some v) : B.cell? p = some v :=
  (World.cell?_of_block (w := A) (h.block p.block hp hs)).trans hc
theorem KeepEx.of_below {L : Nat} {S : Nat → Prop} {A B : World} {n : Nat} (h : Below n A B) (hn : L ≤ n) : KeepEx L S A B :=
  ⟨h.size, fun k hk _ => h.block k (by omega)⟩
theorem KeepEx.setCell {L : Nat} {S : Nat → Prop} {A : World} {p : Addr} (hp : L ≤ p.block ∨ S p.block) (v : Value) : KeepEx L S A (A.setCell p v) :=
  ⟨by simp [World.setCell], fun k hk hs => Below.heap_setCell A p v k (by rintro rfl; rcases hp with h | h <;> first | omega | exact hs h)⟩
theorem KeepEx.grown {L : Nat} {S : Nat → Prop} {A B : World} {row : Option Nat} (h : A.grownBy B row) (hL : L ≤ A.heap.size) (hr : ∀ k, row = some k → L ≤ k ∨ S k) : KeepEx L S A B :=
  ⟨h.size, fun k hk hs => h.block k (by omega) (fun e => by rcases hr k e.symm with h | h <;> first | omega | exact hs h)⟩

/-- What the laws ask of it. -/
theorem keepEx_t {L : Nat} {S : Nat → Prop} : ∀ {A B C : World}, KeepEx L S A B → KeepEx L S B C → KeepEx L S A C := fun h k => h.trans k
theorem keepEx_b {L : Nat} {S : Nat → Prop} {w : World} (hL : L ≤ w.heap.size) (W : World) (l : Nat) (o o' : Obj) (hl : w.heap.size ≤ l) (_ : W.heap[l]? = some o) (_ : o.isCells = false) (_ : o.isWalk = false) : KeepEx L S W (W.putObj l o') := by
  refine ⟨by simp [World.putObj], fun k hk _ => ?_⟩
  simp only [World.putObj]
  rw [Array.getElem?_setIfInBounds_ne (by omega)]

theorem SlR.keepEx {α : Type} {f : α → List Value} {sz : Nat} {w w' : World} {a : Option Addr} {n c : Nat} {xs : List α} (h : SlR f sz w a n c xs) {L : Nat} {S : Nat → Prop} (hk : KeepEx L S w w') (ha : ∀ ad, a = some ad → n = 0 ∨ (ad.block < L ∧ ¬ S ad.block)) : SlR f sz w' a n c xs := by
  refine ⟨h.len, h.le, h.max, ?_⟩
  rcases h.cell with h0 | ⟨b, off, he, hlt, hc⟩
  · exact .inl h0
  · rcases ha _ he with h0 | ha
    · exact .inl h0
    · exact .inr ⟨b, off, he, Nat.lt_of_lt_of_le hlt hk.size, fun i x hx j v hv => hk.cell (p := ⟨b, off + i * sz + j, none⟩) ha.1 ha.2 (hc i x hx j v hv)⟩
theorem SlR.far {α : Type} {f : α → List Value} {sz : Nat} {w : World} {a : Option Addr} {n c : Nat} {xs : List α} (h : SlR f sz w a n c xs) : ∀ ad, a = some ad → n = 0 ∨ ad.block < w.heap.size := by
  intro ad had
  rcases h.cell with h0 | ⟨b, off, he, hlt, hc⟩
  · exact .inl h0
  · rw [he] at had
    cases had
    exact .inr hlt

theorem SlI.far {k : IntKind} {w : World} {a : Option Addr} {n c : Nat} {xs : List Int} (h : SlI k w a n c xs) : ∀ ad, a = some ad → n = 0 ∨ ad.block < w.heap.size := by
  intro ad had
  rcases h.cell with h0 | ⟨b, off, he, hc⟩
  · exact .inl h0
  · by_cases h0 : n = 0
    · exact .inl h0
    · rw [he] at had
      cases had
      have := World.block_lt_of_cell? w _ (hc 0 (by omega))
      exact .inr (by simpa using this)
theorem SlI.keepEx {k : IntKind} {w w' : World} {a : Option Addr} {n c : Nat} {xs : List Int} (h : SlI k w a n c xs) {L : Nat} {S : Nat → Prop} (hk : KeepEx L S w w') (ha : ∀ ad, a = some ad → n = 0 ∨ (ad.block < L ∧ ¬ S ad.block)) : SlI k w' a n c xs := by
  refine ⟨h.len, h.le, h.max, ?_⟩
  rcases h.cell with h0 | ⟨b, off, he, hc⟩
  · exact .inl h0
  · rcases ha _ he with h0 | ha
    · exact .inl h0
    · exact .inr ⟨b, off, he, fun i hi => hk.cell (p := ⟨b, off + i, none⟩) ha.1 ha.2 (hc i hi)⟩
theorem Boxed.keepEx {W W' : World} {B L : Nat} {S : Nat → Prop} {t : TypeId} {v : Value} (h : Boxed W B t v) (hk : KeepEx L S W W') (hB : B < L) (hS : ¬ S B) : Boxed W' B t v := (hk.block B hB hS).trans h
theorem ownFrom_keepEx {β : Type} {L B : Nat} {S : Nat → Prop} {w₀ : World} (hL : L ≤ B) (h0 : L ≤ w₀.heap.size) : OwnFrom B (fun (_ : β) W => KeepEx L S w₀ W) :=
  fun _ X _ row hs hg hr => hs.trans ⟨hg.size, fun k hk _ => hg.block k (by have := hs.size; omega) (fun e => by have := (hr k e.symm).1; omega)⟩

theorem below_grownNone {w w' : World} (h : Below w.heap.size w w') : w.grownBy w' none := ⟨h.os, h.tape, h.output, h.size, fun k hk _ => h.block k hk⟩

/-- A caller's invariant abides new blocks. -/
theorem AbidesFrom.below {β : Type} {B : Nat} {J : β → World → Prop} (h : AbidesFrom B J) {s : β} {W W' : World} (hs : J s W) (hb : Below W.heap.size W W') : J s W' :=
  h s W W' none hs (below_grownNone hb) (fun r e => by cases e)

theorem KeepsFrom.of_below {W W' : World} (h : Below W.heap.size W W') (B : Nat) : KeepsFrom B W W' :=
  ⟨h.size, fun k _ _ hk _ => (h.block k (Array.getElem?_eq_some_iff.1 hk).1).trans hk⟩


/-- 'out = append(out, ..)' in a loop over an iterator: out's row lies in blocks from L on, its box B is let turn. -/
theorem boxed_appendedK {W w1 : World} {L H B : Nat} {S : Nat → Prop} {t e : TypeId} {size : Nat} {v v' : Value} {k m : Nat} {xs ys : List Value} {tmp : Obj}
    (hv : Boxed W B t v) (hte : t ≠ e) (hrow : W.ownsRow L e size v k xs) (hL : L ≤ W.heap.size) (hH : H ≤ L) (hB : H ≤ B) (hS : S B)
    (hown' : w1.ownsRow L e size v' m ys) (hgrow : (W.alloc tmp).grownBy w1 v.ownBlock) :
    Boxed w1 B t v ∧ Boxed (w1.setCell ⟨B, 0, none⟩ v') B t v' ∧ (w1.setCell ⟨B, 0, none⟩ v').ownsRow L e size v' m ys ∧ KeepsOthers W (w1.setCell ⟨B, 0, none⟩ v') ∧ KeepEx L S W (w1.setCell ⟨B, 0, none⟩ v') ∧ Below H W (w1.setCell ⟨B, 0, none⟩ v') := by
  obtain ⟨h1, h2, _, h4, h5⟩ := hv.appended hte (ownsRow_mono hrow hH) (Nat.le_trans hH hL) hB (ownsRow_mono hown' hH) hgrow
  refine ⟨h1, h2, hown'.kept (grownBy_setCell' w1 B v') (.inr (h1.not_row hte hown').symm), h4, ?_, h5⟩
  refine ((KeepEx.of_below ((Below.refl L W).alloc hL tmp) (Nat.le_refl _)).trans (KeepEx.grown hgrow (by simp; omega) fun j ej => ?_)).trans (KeepEx.setCell (.inr hS) v')
  rcases hrow.2 with ⟨rfl, _⟩ | ⟨g, cap, cur, rfl, hb, _, _⟩
  · simp [Value.ownBlock] at ej
  · obtain rfl : g = j := by simpa [Value.ownBlock] using ej
    exact .inl hb

end Go.Proofs.Ytjiklfffcnfdjaa
