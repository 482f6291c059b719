/- Iterators: what a round that goes on keeps. -/
import Derived.RangeFuncNested
import Derived.RangeFuncBound
import Derived.RangeFuncCalls
import Derived.RangeFuncLeaves
import Derived.Shelf.Abstract
import Derived.Shelf.RegionOpen
import Derived.WalkKit
import Derived.OwnWalkIn
import Derived.TacticsInMore
import Derived.LoopNIn
import Derived.LoopIn
import Derived.Test.YtmgkkmcihplojaaGreatGa
import Derived.Test.YtmgkkmcihplojaaGreatGp
import Derived.StillTail
import Derived.StillTailTactics
import Derived.Lib.QuietBelowIn
import Derived.OrdersHeld
namespace Go.Proofs.YtmgkkmcihplojaaGreat
open Go.RowKit

/-- All blocks below L but those in S lie as they lay. -/
structure KeepEx (L : Nat) (S : Nat → Prop) (A B : World) : Prop where
  size : A.heap.size ≤ B.heap.size
  block : ∀ k, k < L → ¬ S k → B.heap[k]? = A.heap[k]?

theorem KeepEx.refl (L : Nat) (S : Nat → Prop) (A : World) : KeepEx L S A A := ⟨Nat.le_refl _, fun _ _ _ => rfl⟩
theorem KeepEx.trans {L : Nat} {S : Nat → Prop} {A B C : World} (h : KeepEx L S A B) (k : KeepEx L S B C) : KeepEx L S A C :=
  ⟨Nat.le_trans h.size k.size, fun i hi hs => (k.block i hi hs).trans (h.block i hi hs)⟩
theorem KeepEx.cell {L : Nat} {S : Nat → Prop} {A B : World} (h : KeepEx L S A B) {p : Addr} {v : Value} (hp : p.block < L) (hs : ¬ S p.block) (hc : A.cell? p = some v) : B.cell? p = some v :=
  (World.cell?_of_block (w := A) (h.block p.block hp hs)).trans hc
theorem KeepEx.of_below {L : Nat} {S : Nat → Prop} {A B : World} {n : Nat} (h : Below n A B) (hn : L ≤ n) : KeepEx L S A B :=
  ⟨h.size, fun k hk _ => h.block k (by omega)⟩
theorem KeepEx.setCell {L : Nat} {S : Nat → Prop} {A : World} {p : Addr} (hp : L ≤ p.block ∨ S p.block) (v : Value) : KeepEx L S A (A.setCell p v) :=
  ⟨by simp [World.setCell], fun k hk hs => Below.heap_setCell A p v k (by rintro rfl; rcases hp with h | h <;> first | omega | exact hs h)⟩
theorem KeepEx.grown {L : Nat} {S : Nat → Prop} {A B : World} {row : Option Nat} (h : A.grownBy B row) (hL : L ≤ A.heap.size) (hr : ∀ k, row = some k → L ≤ k ∨ S k) : KeepEx L S A B :=
  ⟨h.size, fun k hk hs => h.block k (by omega) (fun e => by rcases hr k e.symm with h | h <;> first | omega | exact hs h)⟩

/-- What the laws ask of it. -/
theorem keepEx_t {L : Nat} {S : Nat → Prop} : ∀ {A B C : World}, KeepEx L S A B → KeepEx L S B C → KeepEx L S A C := fun h k => h.trans k
theorem keepEx_b {L : Nat} {S : Nat → Prop} {w : World} (hL : L ≤ w.heap.size) (W : World) (l : Nat) (o o' : Obj) (hl : w.heap.size ≤ l) (_ : W.heap[l]? = some o) (_ : o.isCells = false) (_ : o.isWalk = false) : KeepEx L S W (W.putObj l o') := by
  refine ⟨by simp [World.putObj], fun k hk _ => ?_⟩
  simp only [World.putObj]
  rw [Array.getElem?_setIfInBounds_ne (by omega)]

theorem SlR.keepEx {α : Type} {f : α → List Value} {sz : Nat} {w w' : World} {a : Option Addr} {n c : Nat} {xs : List α} (h : SlR f sz w a n c xs) {L : Nat} {S : Nat → Prop} (hk : KeepEx L S w w') (ha : ∀ ad, a = some ad → n = 0 ∨ (ad.block < L ∧ ¬ S ad.block)) : SlR f sz w' a n c xs := by
  refine ⟨h.len, h.le, h.max, ?_⟩
  rcases h.cell with h0 | ⟨b, off, he, hlt, hc⟩
  · exact .inl h0
  · rcases ha _ he with h0 | ha
    · exact .inl h0
    · exact .inr ⟨b, off, he, Nat.lt_of_lt_of_le hlt hk.size, fun i x hx j v hv => hk.cell (p := ⟨b, off + i * sz + j, none⟩) ha.1 ha.2 (hc i x hx j v hv)⟩
theorem SlR.far {α : Type} {f : α → List Value} {sz : Nat} {w : World} {a : Option Addr} {n c : Nat} {xs : List α} (h : SlR f sz w a n c xs) : ∀ ad, a = some ad → n = 0 ∨ ad.block < w.heap.size := by
  intro ad had
  rcases h.cell with h0 | ⟨b, off, he, hlt, hc⟩
  · exact .inl h0
  · rw [he] at had
    cases had
    exact .inr hlt

theorem SlI.far {k : IntKind} {w : World} {a : Option Addr} {n c : Nat} {xs : List Int} (h : SlI k w a n c xs) : ∀ ad, a = some ad → n = 0 ∨ ad.block < w.heap.size := by
  intro ad had
  rcases h.cell with h0 | ⟨b, off, he, hc⟩
  · exact .inl h0
  · by_cases h0 : n = 0
    · exact .inl h0
    · rw [he] at had
      cases had
      have := World.block_lt_of_cell? w _ (hc 0 (by omega))
      exact .inr (by simpa using this)
theorem SlI.keepEx {k : IntKind} {w w' : World} {a : Option Addr} {n c : Nat} {xs : List Int} (h : SlI k w a n c xs) {L : Nat} {S : Nat → Prop} (hk : KeepEx L S w w') (ha : ∀ ad, a = some ad → n = 0 ∨ (ad.block < L ∧ ¬ S ad.block)) : SlI k w' a n c xs := by
  refine ⟨h.len, h.le, h.max, ?_⟩
  rcases h.cell with h0 | ⟨b, off, he, hc⟩
  · exact .inl h0
  · rcases ha _ he with h0 | ha
    · exact .inl h0
    · exact .inr ⟨b, off, he, fun i hi => hk.cell (p := ⟨b, off + i, none⟩) ha.1 ha.2 (hc i hi)⟩
theorem Boxed.keepEx {W W' : World} {B L : Nat} {S : Nat → Prop} {t : TypeId} {v : Value} (h : Boxed W B t v) (hk : KeepEx L S W W') (hB : B < L) (hS : ¬ S B) : Boxed W' B t v := (hk.block B hB hS).trans h
theorem ownFrom_keepEx {β : Type} {L B : Nat} {S : Nat → Prop} {w₀ : World} (hL : L ≤ B) (h0 : L ≤ w₀.heap.size) : OwnFrom B (fun (_ : β) W => KeepEx L S w₀ W) :=
  fun _ X _ row hs hg hr => hs.trans ⟨hg.size, fun k hk _ => hg.block k (by have := hs.size; omega) (fun e => by have := (hr k e.symm).1; omega)⟩

theorem below_grownNone {w w' : World} (h : Below w.heap.size w w') : w.grownBy w' none := ⟨h.os, h.tape, h.output, h.size, fun k hk _ => h.block k hk⟩

/-- A caller's invariant abides new blocks. -/
theorem AbidesFrom.below {β : Type} {B : Nat} {J : β → World → Prop} (h : AbidesFrom B J) {s : β} {W W' : World} (hs : J s W) (hb : Below W.heap.size W W') : J s W' :=
  h s W W' none hs (below_grownNone hb) (fun r e => by cases e)

theorem KeepsFrom.of_below {W W' : World} (h : Below W.heap.size W W') (B : Nat) : KeepsFrom B W W' :=
  ⟨h.size, fun k _ _ hk _ => (h.block k (Array.getElem?_eq_some_iff.1 hk).1).trans hk⟩


/-- 'out = append(out, ..)' in a loop over an iterator: out's row lies in blocks from L on, its box B is let turn. -/
theorem boxed_appendedK {W w1 : World} {L H B : Nat} {S : Nat → Prop} {t e : TypeId} {size : Nat} {v v' : Value} {k m : Nat} {xs ys : List Value} {tmp : Obj}
    (hv : Boxed W B t v) (hte : t ≠ e) (hrow : W.ownsRow L e size v k xs) (hL : L ≤ W.heap.size) (hH : H ≤ L) (hB : H ≤ B) (hS : S B)
    (hown' : w1.ownsRow L e size v' m ys) (hgrow : (W.alloc tmp).grownBy w1 v.ownBlock) :
    Boxed w1 B t v ∧ Boxed (w1.setCell ⟨B, 0, none⟩ v') B t v' ∧ (w1.setCell ⟨B, 0, none⟩ v').ownsRow L e size v' m ys ∧ KeepsOthers W (w1.setCell ⟨B, 0, none⟩ v') ∧ KeepEx L S W (w1.setCell ⟨B, 0, none⟩ v') ∧ Below H W (w1.setCell ⟨B, 0, none⟩ v') := by
  obtain ⟨h1, h2, _, h4, h5⟩ := hv.appended hte (ownsRow_mono hrow hH) (Nat.le_trans hH hL) hB (ownsRow_mono hown' hH) hgrow
  refine ⟨h1, h2, hown'.kept (grownBy_setCell' w1 B v') (.inr (h1.not_row hte hown').symm), h4, ?_, h5⟩
  refine ((KeepEx.of_below ((Below.refl L W).alloc hL tmp) (Nat.le_refl _)).trans (KeepEx.grown hgrow (by simp; omega) fun j ej => ?_)).trans (KeepEx.setCell (.inr hS) v')
  rcases hrow.2 with ⟨rfl, _⟩ | ⟨g, cap, cur, rfl, hb, _, _⟩
  · simp [Value.ownBlock] at ej
  · obtain rfl : g = j := by simpa [Value.ownBlock] using ej
    exact .inl hb

end Go.Proofs.YtmgkkmcihplojaaGreat

namespace Go.Proofs.YtmgkkmcihplojaaGreat
open Go.RowKit Go.Sort

section
variable {n m : Nat} {P : Program} {ops : Array Oper} {Q : Exit → Act → World → Prop} {md : Region.Mode} {w : World}

def Oper.noDefer (o : Oper) : Bool := match o.op with
  | .defer _ => false
  | _ => true
def noDefer (ops : Array Oper) : Bool := ops.all Oper.noDefer
theorem noDefer_spec (h : noDefer ops = true) {i : Nat} {o : Oper} (hi : ops[i]? = some o) : ∀ c, o.op ≠ .defer c := by
  intro c hc
  have h1 := Array.all_eq_true.1 h
  obtain ⟨hlt, he⟩ := Array.getElem?_eq_some_iff.1 hi
  have := h1 i hlt
  rw [he] at this
  simp [Oper.noDefer, hc] at this

theorem wpIn_op_round {o : Oper} (hd : ∀ c, o.op ≠ .defer c) (l : Nat) {a : Act} {K : Act → World → Prop} (h : Oper.wpIn Fence.wide n P o a w K Q) : Oper.wpIn (Fence.wide.inRound l) n P o a w K Q := by
  unfold Oper.wpIn at h ⊢
  rw [Oper.semAt_plain _ _ _ hd] at h ⊢
  exact ⟨fun _ _ => trivial, h.2⟩

theorem wpOpsIn_round (hnd : noDefer ops = true) (l : Nat) : ∀ (il : List Nat) (a : Act) (w : World), wpOpsIn Fence.wide n P ops Q il a w → wpOpsIn (Fence.wide.inRound l) n P ops Q il a w := by
  intro il
  induction il with
  | nil => exact fun _ _ h => h
  | cons i il ih =>
    intro a w h
    simp only [wpOpsIn] at h ⊢
    cases ho : ops[i]? with
    | none =>
      rw [ho] at h
      exact ih _ _ h
    | some o =>
      rw [ho] at h
      simp only at h ⊢
      split
      · rename_i hw
        rw [if_pos hw] at h
        exact Oper.wpIn_mono (fun a w h => ih a w h) (wpIn_op_round (noDefer_spec hnd ho) l h)
      · rename_i hw
        rw [if_neg hw] at h
        exact ⟨fun _ _ => trivial, ih _ _ h.2⟩

theorem wpIn_round_any {id l : Nat} {a : Act} (hm : P.follows .mixedOrders = true) (hnd : noDefer ops = true)
    (h : wpAnyIn Fence.wide n P .any ops Q ops.size (Array.replicate ops.size false) a { w with drawn := w.drawn + 1 }) : (Code.region id ops true).wpIn (Fence.wide.inRound l) n P Q a w :=
  wpIn_region_draw fun t => by
    simp only [Region.schedule, hm, Bool.true_or, if_true]
    exact wpOpsIn_round hnd l _ _ _ (wpAnyIn_sound ops.size t _ a _ h)

/-- Its operations only read, its callees end in Below: one walk, in the text's order. -/
theorem wpIn_round_quiet_below {id l : Nat} {a : Act} {lst : List Oper} (hm : P.follows .mixedOrders = true) (hB : Region.lexB .any lst.toArray = true) (hnd : noDefer lst.toArray = true)
    (h : wpQuietIn Fence.wide n P lst.toArray (fun w' => ∃ p : Regrown, w' = grow (redrawn w p.d) p.os) (fun a' => ∀ w', (∃ p : Regrown, w' = grow (redrawn w p.d) p.os) → Q .normal a' w') lst a) : (Code.region id lst.toArray true).wpIn (Fence.wide.inRound l) n P Q a w := by
  simp only [Region.lexB, Bool.and_eq_true] at hB
  refine wpIn_round_any hm hnd (wpAnyIn_of_quiet (Q := fun a' => ∀ w', (∃ p : Regrown, w' = grow (redrawn w p.d) p.os) → Q .normal a' w') rfl (fun _ w' hw' h => h w' hw') _ _ _ _ ⟨⟨w.drawn + 1, #[]⟩, by rw [grow_empty]; rfl⟩ ?_)
  have := wpAnyQIn_lex (F := Fence.wide) (n := n) (C := fun w' => ∃ p : Regrown, w' = grow (redrawn w p.d) p.os) (md := .any) hB.1 lst.toArray.toList 0 (Array.replicate lst.toArray.size false) a (by simp) (by simpa using hB.2) (by simpa using h)
  simpa using this

/-! ### Loads taken first under a condition S on the world, which each operation keeps but the late ones -/

/-- What has come up has behind it all that it waits for. -/
def Closed (md : Region.Mode) (ops : Array Oper) (listed : Array Bool) : Prop := ∀ (j : Nat) (oj : Oper), ops[j]? = some oj → listed.getD j false = true → ∀ e ∈ oj.after, Region.binds md e = true → listed.getD e.on false = true
theorem Closed.new : Closed md ops (Array.replicate m false) := fun j _ _ hl => by rw [getD_replicate_false] at hl; cases hl
theorem Closed.set {listed : Array Bool} (h : Closed md ops listed) {j : Nat} (hj : j ∈ Region.ready md ops listed) : Closed md ops (listed.setIfInBounds j true) := by
  obtain ⟨_, oj, hoj, hall⟩ := mem_ready.1 hj
  intro k ok hk hl e he hb
  by_cases hkj : j = k
  · subst hkj
    have : ok = oj := Option.some.inj (hk.symm.trans hoj)
    subst this
    exact getD_set_true (hall e he hb)
  · rw [getD_set_ne false hkj] at hl
    exact getD_set_true (h k ok hk hl e he hb)
end

end Go.Proofs.YtmgkkmcihplojaaGreat
