/- Iterators: what a round that goes on keeps. -/
import Derived.RangeFuncNested
import Derived.RangeFuncBound
import Derived.RangeFuncCalls
import Derived.RangeFuncLeaves
import Derived.Shelf.Abstract
import Derived.Shelf.RegionOpen
import Derived.WalkKit
import Derived.OwnWalkIn
import Derived.TacticsInMore
import Derived.LoopNIn
import Derived.LoopIn
import Derived.Test.YtgfmdgiepomkiaaGa
import Derived.Test.YtgfmdgiepomkiaaGp
import Derived.StillTail
import Derived.StillTailTactics
import Derived.Lib.QuietBelowIn
import Derived.OrdersHeld
namespace Go.Proofs.Ytgfmdgiepomkiaa
open Go.RowKit

/-- A function value against nil. -/
theorem run_eql_func_nil {P : Program} {t : TypeId} {d : TypeDesc} (h : P.underlying t = some d) (hd : ∃ a b c, d = .func a b c) (f : Fn) (x y : Array Value) (w : World) :
    (binOp .eql t (.func f x y) .nilFunc).run P w = .ok (.bool false) w := by
  obtain ⟨a, b, c, rfl⟩ := hd
  have h1 : ∀ n : Nat, (Op.equalIn (n + 1) t (.func f x y) .nilFunc).run P w = .ok false w := fun n => by
    simp [Op.equalIn, run_underlying h]
  simp only [binOp]
  simp [Op.equal, Op.maxDepth, h1 9999]

/-- All blocks below L but those in S lie as they lay. -/
structure KeepEx (L : Nat) (S : Nat → Prop) (A B : World) : Prop where
  size : A.heap.size ≤ B.heap.size
  block : ∀ k, k < L → ¬ S k → B.heap[k]? = A.heap[k]?

theorem KeepEx.refl (L : Nat) (S : Nat → Prop) (A : World) : KeepEx L S A A := ⟨Nat.le_refl _, fun _ _ _ => rfl⟩
theorem KeepEx.trans {L : Nat} {S : Nat → Prop} {A B C : World} (h : KeepEx L S A B) (k : KeepEx L S B C) : KeepEx L S A C :=
  ⟨Nat.le_trans h.size k.size, fun i hi hs => (k.block i hi hs).trans (h.block i hi hs)⟩
theorem KeepEx.cell {L : Nat} {S : Nat → Prop} {A B : World} (h : KeepEx L S A B) {p : Addr} {v : Value} (hp : p.block < L) (hs : ¬ S p.block) (hc : A.cell? p = some v) : B.cell? p = some v :=
  (World.cell?_of_block (w := A) (h.block p.block hp hs)).trans hc
theorem KeepEx.of_below {L : Nat} {S : Nat → Prop} {A B : World} {n : Nat} (h : Below n A B) (hn : L ≤ n) : KeepEx L S A B :=
  ⟨h.size, fun k hk _ => h.block k (by omega)⟩
theorem KeepEx.setCell {L : Nat} {S : Nat → Prop} {A : World} {p : Addr} (hp : L ≤ p.block ∨ S p.block) (v : Value) : KeepEx L S A (A.setCell p v) :=
  ⟨by simp [World.setCell], fun k hk hs => Below.heap_setCell A p v k (by rintro rfl; rcases hp with h | h <;> first | omega | exact hs h)⟩
theorem KeepEx.grown {L : Nat} {S : Nat → Prop} {A B : World} {row : Option Nat} (h : A.grownBy B row) (hL : L ≤ A.heap.size) (hr : ∀ k, row = some k → L ≤ k ∨ S k) : KeepEx L S A B :=
  ⟨h.size, fun k hk hs => h.block k (by omega) (fun e => by rcases hr k e.symm with h | h <;> first | omega | exact hs h)⟩

/-- What the laws ask of it. -/
theorem keepEx_t {L : Nat} {S : Nat → Prop} : ∀ {A B C : World}, KeepEx L S A B → KeepEx L S B C → KeepEx L S A C := fun h k => h.trans k
theorem keepEx_b {L : Nat} {S : Nat → Prop} {w : World} (hL : L ≤ w.heap.size) (W : World) (l : Nat) (o o' : Obj) (hl : w.heap.size ≤ l) (_ : W.heap[l]? = some o) (_ : o.isCells = false) (_ : o.isWalk = false) : KeepEx L S W (W.putObj l o') := by
  refine ⟨by simp [World.putObj], fun k hk _ => ?_⟩
  simp only [World.putObj]
  rw [Array.getElem?_setIfInBounds_ne (by omega)]

theorem SlR.keepEx {α : Type} {f : α → List Value} {sz : Nat} {w w' : World} {a : Option Addr} {n c : Nat} {xs : List α} (h : SlR f sz w a n c xs) {L : Nat} {S : Nat → Prop} (hk : KeepEx L S w w') (ha : ∀ ad, a = some ad → n = 0 ∨ (ad.block < L ∧ ¬ S ad.block)) : SlR f sz w' a n c xs := by
  refine ⟨h.len, h.le, h.max, ?_⟩
  rcases h.cell with h0 | ⟨b, off, he, hlt, hc⟩
  · exact .inl h0
  · rcases ha _ he with h0 | ha
    · exact .inl h0
    · exact .inr ⟨b, off, he, Nat.lt_of_lt_of_le hlt hk.size, fun i x hx j v hv => hk.cell (p := ⟨b, off + i * sz + j, none⟩) ha.1 ha.2 (hc i x hx j v hv)⟩
theorem SlR.far {α : Type} {f : α → List Value} {sz : Nat} {w : World} {a : Option Addr} {n c : Nat} {xs : List α} (h : SlR f sz w a n c xs) : ∀ ad, a = some ad → n = 0 ∨ ad.block < w.heap.size := by
  intro ad had
  rcases h.cell with h0 | ⟨b, off, he, hlt, hc⟩
  · exact .inl h0
  · rw [he] at had
    cases had
    exact .inr hlt

theorem SlI.far {k : IntKind} {w : World} {a : Option Addr} {n c : Nat} {xs : List Int} (h : SlI k w a n c xs) : ∀ ad, a = some ad → n = 0 ∨ ad.block < w.heap.size := by
  intro ad had
  rcases h.cell with h0 | ⟨b, off, he, hc⟩
  · exact .inl h0
  · by_cases h0 : n = 0
    · exact .inl h0
    · rw [he] at had
      cases had
      have := World.block_lt_of_cell? w _ (hc 0 (by omega))
      exact .inr (by simpa using this)
theorem SlI.keepEx {k : IntKind} {w w' : World} {a : Option Addr} {n c : Nat} {xs : List Int} (h : SlI k w a n c xs) {L : Nat} {S : Nat → Prop} (hk : KeepEx L S w w') (ha : ∀ ad, a = some ad → n = 0 ∨ (ad.block < L ∧ ¬ S ad.block)) : SlI k w' a n c xs := by
  refine ⟨h.len, h.le, h.max, ?_⟩
  rcases h.cell with h0 | ⟨b, off, he, hc⟩
  · exact .inl h0
  · rcases ha _ he with h0 | ha
    · exact .inl h0
    · exact .inr ⟨b, off, he, fun i hi => hk.cell (p := ⟨b, off + i, none⟩) ha.1 ha.2 (hc i hi)⟩
theorem Boxed.keepEx {W W' : World} {B L : Nat} {S : Nat → Prop} {t : TypeId} {v : Value} (h : Boxed W B t v) (hk : KeepEx L S W W') (hB : B < L) (hS : ¬ S B) : Boxed W' B t v := (hk.block B hB hS).trans h
theorem ownFrom_keepEx {β : Type} {L B : Nat} {S : Nat → Prop} {w₀ : World} (hL : L ≤ B) (h0 : L ≤ w₀.heap.size) : OwnFrom B (fun (_ : β) W => KeepEx L S w₀ W) :=
  fun _ X _ row hs hg hr => hs.trans ⟨hg.size, fun k hk _ => hg.block k (by have := hs.size; omega) (fun e => by have := (hr k e.symm).1; omega)⟩

theorem below_grownNone {w w' : World} (h : Below w.heap.size w w') : w.grownBy w' none := ⟨h.os, h.tape, h.output, h.size, fun k hk _ => h.block k hk⟩

/-- A caller's invariant abides new blocks. -/
theorem AbidesFrom.below {β : Type} {B : Nat} {J : β → World → Prop} (h : AbidesFrom B J) {s : β} {W W' : World} (hs : J s W) (hb : Below W.heap.size W W') : J s W' :=
  h s W W' none hs (below_grownNone hb) (fun r e => by cases e)

theorem KeepsFrom.of_below {W W' : World} (h : Below W.heap.size W W') (B : Nat) : KeepsFrom B W W' :=
  ⟨h.size, fun k _ _ hk _ => (h.block k (Array.getElem?_eq_some_iff.1 hk).1).trans hk⟩


/-- 'out = append(out, ..)' in a loop over an iterator: out's row lies in blocks from L on, its box B is let turn. -/
theorem boxed_appendedK {W w1 : World} {L H B : Nat} {S : Nat → Prop} {t e : TypeId} {size : Nat} {v v' : Value} {k m : Nat} {xs ys : List Value} {tmp : Obj}
    (hv : Boxed W B t v) (hte : t ≠ e) (hrow : W.ownsRow L e size v k xs) (hL : L ≤ W.heap.size) (hH : H ≤ L) (hB : H ≤ B) (hS : S B)
    (hown' : w1.ownsRow L e size v' m ys) (hgrow : (W.alloc tmp).grownBy w1 v.ownBlock) :
    Boxed w1 B t v ∧ Boxed (w1.setCell ⟨B, 0, none⟩ v') B t v' ∧ (w1.setCell ⟨B, 0, none⟩ v').ownsRow L e size v' m ys ∧ KeepsOthers W (w1.setCell ⟨B, 0, none⟩ v') ∧ KeepEx L S W (w1.setCell ⟨B, 0, none⟩ v') ∧ Below H W (w1.setCell ⟨B, 0, none⟩ v') := by
  obtain ⟨h1, h2, _, h4, h5⟩ := hv.appended hte (ownsRow_mono hrow hH) (Nat.le_trans hH hL) hB (ownsRow_mono hown' hH) hgrow
  refine ⟨h1, h2, hown'.kept (grownBy_setCell' w1 B v') (.inr (h1.not_row hte hown').symm), h4, ?_, h5⟩
  refine ((KeepEx.of_below ((Below.refl L W).alloc hL tmp) (Nat.le_refl _)).trans (KeepEx.grown hgrow (by simp; omega) fun j ej => ?_)).trans (KeepEx.setCell (.inr hS) v')
  rcases hrow.2 with ⟨rfl, _⟩ | ⟨g, cap, cur, rfl, hb, _, _⟩
  · simp [Value.ownBlock] at ej
  · obtain rfl : g = j := by simpa [Value.ownBlock] using ej
    exact .inl hb

end Go.Proofs.Ytgfmdgiepomkiaa

namespace Go.Proofs.Ytgfmdgiepomkiaa
open Go.RowKit Go.Sort

section
variable {n m : Nat} {P : Program} {ops : Array Oper} {Q : Exit → Act → World → Prop} {md : Region.Mode} {w : World}

def Oper.noDefer (o : Oper) : Bool := match o.op with
  | .defer _ => false
  | _ => true
def noDefer (ops : Array Oper) : Bool := ops.all Oper.noDefer
theorem noDefer_spec (h : noDefer ops = true) {i : Nat} {o : Oper} (hi : ops[i]? = some o) : ∀ c, o.op ≠ .defer c := by
  intro c hc
  have h1 := Array.all_eq_true.1 h
  obtain ⟨hlt, he⟩ := Array.getElem?_eq_some_iff.1 hi
  have := h1 i hlt
  rw [he] at this
  simp [Oper.noDefer, hc] at this

theorem wpIn_op_round {o : Oper} (hd : ∀ c, o.op ≠ .defer c) (l : Nat) {a : Act} {K : Act → World → Prop} (h : Oper.wpIn Fence.wide n P o a w K Q) : Oper.wpIn (Fence.wide.inRound l) n P o a w K Q := by
  unfold Oper.wpIn at h ⊢
  rw [Oper.semAt_plain _ _ _ hd] at h ⊢
  exact ⟨fun _ _ => trivial, h.2⟩

theorem wpOpsIn_round (hnd : noDefer ops = true) (l : Nat) : ∀ (il : List Nat) (a : Act) (w : World), wpOpsIn Fence.wide n P ops Q il a w → wpOpsIn (Fence.wide.inRound l) n P ops Q il a w := by
  intro il
  induction il with
  | nil => exact fun _ _ h => h
  | cons i il ih =>
    intro a w h
    simp only [wpOpsIn] at h ⊢
    cases ho : ops[i]? with
    | none =>
      rw [ho] at h
      exact ih _ _ h
    | some o =>
      rw [ho] at h
      simp only at h ⊢
      split
      · rename_i hw
        rw [if_pos hw] at h
        exact Oper.wpIn_mono (fun a w h => ih a w h) (wpIn_op_round (noDefer_spec hnd ho) l h)
      · rename_i hw
        rw [if_neg hw] at h
        exact ⟨fun _ _ => trivial, ih _ _ h.2⟩

theorem wpIn_round_any {id l : Nat} {a : Act} (hm : P.follows .mixedOrders = true) (hnd : noDefer ops = true)
    (h : wpAnyIn Fence.wide n P .any ops Q ops.size (Array.replicate ops.size false) a { w with drawn := w.drawn + 1 }) : (Code.region id ops true).wpIn (Fence.wide.inRound l) n P Q a w :=
  wpIn_region_draw fun t => by
    simp only [Region.schedule, hm, Bool.true_or, if_true]
    exact wpOpsIn_round hnd l _ _ _ (wpAnyIn_sound ops.size t _ a _ h)

/-- Its operations only read, its callees end in Below: one walk, in the text's order. -/
theorem wpIn_round_quiet_below {id l : Nat} {a : Act} {lst : List Oper} (hm : P.follows .mixedOrders = true) (hB : Region.lexB .any lst.toArray = true) (hnd : noDefer lst.toArray = true)
    (h : wpQuietIn Fence.wide n P lst.toArray (fun w' => ∃ p : Regrown, w' = grow (redrawn w p.d) p.os) (fun a' => ∀ w', (∃ p : Regrown, w' = grow (redrawn w p.d) p.os) → Q .normal a' w') lst a) : (Code.region id lst.toArray true).wpIn (Fence.wide.inRound l) n P Q a w := by
  simp only [Region.lexB, Bool.and_eq_true] at hB
  refine wpIn_round_any hm hnd (wpAnyIn_of_quiet (Q := fun a' => ∀ w', (∃ p : Regrown, w' = grow (redrawn w p.d) p.os) → Q .normal a' w') rfl (fun _ w' hw' h => h w' hw') _ _ _ _ ⟨⟨w.drawn + 1, #[]⟩, by rw [grow_empty]; rfl⟩ ?_)
  have := wpAnyQIn_lex (F := Fence.wide) (n := n) (C := fun w' => ∃ p : Regrown, w' = grow (redrawn w p.d) p.os) (md := .any) hB.1 lst.toArray.toList 0 (Array.replicate lst.toArray.size false) a (by simp) (by simpa using hB.2) (by simpa using h)
  simpa using this

theorem wpOpIn_of_stOp_round {l i : Nat} {K : Act → Prop} {K' : Act → World → Prop} {a : Act} (hnd : noDefer ops = true) (hK : ∀ a, K a → K' a w) (h : stOp P ops w i K a) : wpOpIn (Fence.wide.inRound l) n P ops Q i K' a w := by
  unfold stOp at h
  unfold wpOpIn
  cases ho : ops[i]? with
  | none => rw [ho] at h; exact hK _ h
  | some o =>
    rw [ho] at h
    simp only at h ⊢
    split
    · rename_i hw
      rw [if_pos hw] at h
      unfold Oper.still at h
      unfold Oper.wpIn
      rw [Oper.semAt_plain _ _ _ (noDefer_spec hnd ho)]
      refine ⟨fun _ _ => trivial, ?_⟩
      generalize (execOp a.eval o).run P w = r at h
      cases r with
      | ok x w' =>
        cases x <;> simp only [Oper.stillUpon] at h
        case value =>
          obtain ⟨h1, h2⟩ := h
          rw [h1]
          exact hK _ h2
        case skip =>
          obtain ⟨h1, h2⟩ := h
          rw [h1]
          exact hK _ h2
        case enter f args =>
          obtain ⟨h1, v, hc, h2⟩ := h
          rw [h1]
          refine ⟨fun hd => (by cases hd), CallsIn.inRound l (callsIn_wide.2 (hc.mono ?_))⟩
          rintro e w'' ⟨rfl, rfl⟩
          exact hK _ h2
      | halt x w' => cases x <;> simp only [Oper.stillUpon] at h
    · rename_i hw
      rw [if_neg hw] at h
      exact ⟨fun _ _ => trivial, hK _ h⟩

theorem wpAnyIn_of_head {l k g : Nat} {L : Array Bool → Act → Prop} (hnd : noDefer ops = true) (hL : ∀ listed a, L listed a → wpAnyIn (Fence.wide.inRound l) n P md ops Q g listed a w) :
    ∀ (f : Nat) (listed : Array Bool) (a : Act), wpAnyL P md ops w k L f listed a → wpAnyIn (Fence.wide.inRound l) n P md ops Q (f + g) listed a w
  | 0, listed, a, h => by rw [Nat.zero_add]; exact hL _ _ h
  | f + 1, listed, a, h => by
    rw [show f + 1 + g = (f + g) + 1 by omega]
    exact ⟨fun h0 => absurd h0 h.1, fun i hi => wpOpIn_of_stOp_round hnd (fun a' h' => wpAnyIn_of_head hnd hL f _ a' h') (h.2 i hi).2⟩

theorem wpAnyIn_of_seq {l : Nat} : ∀ (lst : List Oper) (k : Nat) (listed : Array Bool) (a : Act) (w : World), (∀ j, lst[j]? = ops[k + j]?) →
    Region.seqB md ops lst.length k listed = true → wpListIn (Fence.wide.inRound l) n P ops Q lst a w → wpAnyIn (Fence.wide.inRound l) n P md ops Q lst.length listed a w
  | [], _, _, _, _, _, hB, h => ⟨by simpa [Region.seqB] using hB, h⟩
  | o :: lst, k, listed, a, w, hl, hB, h => by
    have h0 : ops[k]? = some o := by simpa using (hl 0).symm
    simp only [List.length_cons, Region.seqB, Bool.and_eq_true, decide_eq_true_eq] at hB
    refine ⟨fun h1 => (by rw [hB.1] at h1; cases h1), fun i hi => ?_⟩
    rw [hB.1] at hi
    have hik : i = k := by simpa using hi
    subst hik
    have hw : wpOpIn (Fence.wide.inRound l) n P ops Q i (wpListIn (Fence.wide.inRound l) n P ops Q lst) a w := by unfold wpOpIn; simp only [h0]; exact h
    exact wpOpIn_mono (fun a' w' h' => wpAnyIn_of_seq lst (i + 1) _ a' w' (fun j => by have := hl (j + 1); simpa [Nat.add_assoc, Nat.add_comm 1 j] using this) hB.2 h') hw

/-- All its operations but the last few, whose order is forced, only read. -/
theorem wpIn_round_still_tail {id l : Nat} {a : Act} {lst : List Oper} (k : Nat) (hm : P.follows .mixedOrders = true) (hB : Region.lexTailB .any lst.toArray k = true) (hnd : noDefer lst.toArray = true)
    (h : wpStill P lst.toArray { w with drawn := w.drawn + 1 } (fun a' => wpListIn (Fence.wide.inRound l) n P lst.toArray Q (lst.drop k) a' { w with drawn := w.drawn + 1 }) (lst.take k) a) : (Code.region id lst.toArray true).wpIn (Fence.wide.inRound l) n P Q a w := by
  simp only [Region.lexTailB, Bool.and_eq_true, decide_eq_true_eq] at hB
  obtain ⟨⟨⟨⟨hsel, hn⟩, hs⟩, hc⟩, hlex⟩ := hB
  have hn' : k < lst.length := by simpa using hn
  have htl : (lst.take k).length = k := by simp; omega
  have hdl : (lst.drop k).length = lst.toArray.size - k := by simp
  have inv0 : HeadInv .any lst.toArray k (Array.replicate lst.toArray.size false) :=
    ⟨by simp, fun j oj _ hl => (by rw [getD_replicate_false] at hl; cases hl), fun t _ ht => getD_in (by simpa using ht) (getD_replicate_false _ _)⟩
  have H := wpAnyL_lex (md := .any) (g := lst.toArray.size - k) hsel hs hc hn (lst.take k) 0 _ a (fun j hj => by
    have hj' : j < k := by rw [htl] at hj; exact hj
    simp [hj']) (by simpa using htl) inv0 (by rw [htl]; exact hlex) h
  refine wpIn_region_any hm ?_
  have := wpAnyIn_of_head (n := n) (l := l) (Q := Q) (g := lst.toArray.size - k) hnd (fun listed a' hL => by
    have := wpAnyIn_of_seq (n := n) (P := P) (l := l) (md := .any) (Q := Q) (lst.drop k) k listed a' { w with drawn := w.drawn + 1 } (fun j => by simp [List.getElem?_drop]) (by rw [hdl]; exact hL.1) hL.2
    rwa [hdl] at this) _ _ _ H
  rw [htl, show k + (lst.toArray.size - k) = lst.toArray.size by omega] at this
  exact this
/-! ### Loads taken first under a condition S on the world, which each operation keeps but the late ones -/

theorem yieldsIf_wpOpIn {F : Fence} {S : World → Prop} (hF : ∀ f, F.fn f) (hnd : noDefer ops = true) {i : Nat} {o : Oper} {v : Value} {a : Act} (hi : ops[i]? = some o) (hy : YieldsIf P ops S o v a)
    {K : Act → World → Prop} (hS : S w) (h : K (a.put o.dst v) w) : wpOpIn F n P ops Q i K a w := by
  unfold Go.wpOpIn
  simp only [hi]
  rcases hy with ⟨hw, hv⟩ | ⟨hw, rfl⟩
  · rw [if_pos hw]
    unfold Oper.wpIn
    rw [Oper.semAt_plain _ _ _ (noDefer_spec hnd hi), hv w hS]
    exact ⟨fun f _ => hF f, h⟩
  · rw [if_neg (by rw [hw]; simp)]
    exact ⟨fun f _ => hF f, h⟩

theorem wpOpIn_putS {F : Fence} {S : World → Prop} (hnd : noDefer ops = true) {j : Nat} {oi oj : Oper} {v : Value} (hj : ops[j]? = some oj) (hap : oi.apart ops oj = true)
    (hsi : ∀ cs b, oi.op ≠ .select cs b) (hsj : ∀ cs b, oj.op ≠ .select cs b)
    (hQ : ∀ c a w, Q (.panic c) (a.put oi.dst v) w → Q (.panic c) a w) {K : Act → World → Prop} {a : Act}
    (hy : YieldsIf P ops S oi v a) (h : wpOpIn F n P ops Q j K (a.put oi.dst v) w) :
    wpOpIn F n P ops Q j (fun a' w' => YieldsIf P ops S oi v a' ∧ K (a'.put oi.dst v) w') a w := by
  obtain ⟨h1, h2, h3⟩ := Oper.apart_spec hap
  have keep : ∀ (a : Act), YieldsIf P ops S oi v a → ∀ u, YieldsIf P ops S oi v (a.put oj.dst u) := fun a hy u =>
    hy.of_same (execOp_put oi hsi a oj.dst u h3) (wanted_put oi a oj.dst u h3)
  have keepD : ∀ d, YieldsIf P ops S oi v { a with defers := d :: a.defers } := fun d => hy.of_same rfl rfl
  have hnj := noDefer_spec hnd hj
  unfold wpOpIn at *
  simp only [hj] at *
  rw [wanted_put oj a oi.dst v h1, about_put oj w a oi.dst v h1] at h
  split
  · rename_i hw
    simp only [hw, if_true] at h
    unfold Oper.wpIn at *
    rw [about_put oj w a oi.dst v h1] at h
    refine ⟨h.1, ?_⟩
    have h := h.2
    rw [Oper.semAt_plain _ _ _ hnj] at h ⊢
    rw [execOp_put oj hsj a oi.dst v h1] at h
    generalize (execOp a.eval oj).run P w = r at *
    cases r with
    | ok x w' =>
      cases x <;> simp only [Oper.uponIn] at h ⊢
      case value u => exact ⟨keep a hy u, by rw [← Act.put_comm a v u h2]; exact h⟩
      case skip => exact ⟨keep a hy _, by rw [← Act.put_comm a v undef h2]; exact h⟩
      case defer d =>
        refine ⟨keep _ (keepD d) _, ?_⟩
        rw [← Act.put_comm _ v undef h2, ← Act.put_defers]
        exact h
      case enter f args =>
        refine ⟨h.1, CallsIn.mono h.2 fun e w'' he => ?_⟩
        cases e with
        | returned u => exact ⟨keep a hy u, by rw [← Act.put_comm a v u h2]; exact he⟩
        | panicked c => exact hQ _ _ _ he
        | outgrown => exact he
      case row row args => exact ⟨h.1, RowsIn.mono h.2 fun u w'' he => ⟨keep a hy u, by rw [← Act.put_comm a v u h2]; exact he⟩⟩
      case round l f tmps assign body =>
        refine ⟨h.1, RoundIn.mono h.2 fun e w'' he => ?_⟩
        cases e with
        | returned u => exact ⟨keep a hy u, by rw [← Act.put_comm a v u h2]; exact he⟩
        | panicked c => exact hQ _ _ _ he
        | outgrown => exact he
    | halt x w' =>
      cases x <;> simp only [Oper.uponIn] at h ⊢
      case panic u => exact hQ _ _ _ h
  · rename_i hw
    simp only [hw] at h
    exact ⟨h.1, keep a hy _, by rw [← Act.put_comm a v undef h2]; exact h.2⟩

/-- Whichever comes up; behind each that is not late S holds. -/
def wpAnyT (F : Fence) (n : Nat) (P : Program) (md : Region.Mode) (ops : Array Oper) (Q : Exit → Act → World → Prop) (late : Nat → Bool) (S : World → Prop) : Nat → Array Bool → Act → World → Prop
  | 0, listed, a, w => Region.ready md ops listed = [] ∧ Q .normal a w
  | fuel + 1, listed, a, w =>
    (Region.ready md ops listed = [] → Q .normal a w) ∧
    ∀ i ∈ Region.ready md ops listed, wpOpIn F n P ops Q i (fun a' w' => (late i = false → S w') ∧ wpAnyT F n P md ops Q late S fuel (listed.setIfInBounds i true) a' w') a w

theorem wpAnyIn_of_T {F : Fence} {late : Nat → Bool} {S : World → Prop} : ∀ (fuel : Nat) (listed : Array Bool) (a : Act) (w : World), wpAnyT F n P md ops Q late S fuel listed a w → wpAnyIn F n P md ops Q fuel listed a w
  | 0, _, _, _, h => h
  | fuel + 1, _, _, _, h => ⟨h.1, fun i hi => wpOpIn_mono (fun a' w' h' => wpAnyIn_of_T fuel _ a' w' h'.2) (h.2 i hi)⟩

/-- What has come up has behind it all that it waits for. -/
def Closed (md : Region.Mode) (ops : Array Oper) (listed : Array Bool) : Prop := ∀ (j : Nat) (oj : Oper), ops[j]? = some oj → listed.getD j false = true → ∀ e ∈ oj.after, Region.binds md e = true → listed.getD e.on false = true
theorem Closed.new : Closed md ops (Array.replicate m false) := fun j _ _ hl => by rw [getD_replicate_false] at hl; cases hl
theorem Closed.set {listed : Array Bool} (h : Closed md ops listed) {j : Nat} (hj : j ∈ Region.ready md ops listed) : Closed md ops (listed.setIfInBounds j true) := by
  obtain ⟨_, oj, hoj, hall⟩ := mem_ready.1 hj
  intro k ok hk hl e he hb
  by_cases hkj : j = k
  · subst hkj
    have : ok = oj := Option.some.inj (hk.symm.trans hoj)
    subst this
    exact getD_set_true (hall e he hb)
  · rw [getD_set_ne false hkj] at hl
    exact getD_set_true (h k ok hk hl e he hb)
/-- j waits for i, be it through others. -/
def waitsIn (md : Region.Mode) (ops : Array Oper) : Nat → Nat → Nat → Bool
  | 0, j, i => Region.waitsFor md ops j i
  | f + 1, j, i => Region.waitsFor md ops j i || (List.range ops.size).any fun m => Region.waitsFor md ops j m && waitsIn md ops f m i
theorem Closed.waits {listed : Array Bool} (h : Closed md ops listed) : ∀ (f j i : Nat), (∀ (oj : Oper), ops[j]? = some oj → ∀ e ∈ oj.after, Region.binds md e = true → listed.getD e.on false = true) → waitsIn md ops f j i = true → listed.getD i false = true := by
  have direct : ∀ (j i : Nat), (∀ (oj : Oper), ops[j]? = some oj → ∀ e ∈ oj.after, Region.binds md e = true → listed.getD e.on false = true) → Region.waitsFor md ops j i = true → listed.getD i false = true := by
    intro j i hj hw
    obtain ⟨oj, hoj, e, he, hb, hon⟩ := Region.waitsFor_spec hw
    rw [← hon]
    exact hj oj hoj e he hb
  intro f
  induction f with
  | zero => exact fun j i hj hw => direct j i hj hw
  | succ f ih =>
    intro j i hj hw
    unfold waitsIn at hw
    rw [Bool.or_eq_true] at hw
    rcases hw with hw | hw
    · exact direct j i hj hw
    · obtain ⟨m, _, hm⟩ := List.any_eq_true.1 hw
      rw [Bool.and_eq_true] at hm
      exact ih m i (fun om hom => h m om hom (direct j m hj hm.1)) hm.2

theorem wpAnyT_first {F : Fence} {late : Nat → Bool} {S : World → Prop} (hF : ∀ f, F.fn f) (hnd : noDefer ops = true) {i : Nat} {oi : Oper} {v : Value} (hi : ops[i]? = some oi) (hsel : ∀ (j : Nat) (o : Oper) cs b, ops[j]? = some o → o.op ≠ .select cs b)
    (hlate : ∀ j, j < ops.size → j ≠ i → late j = true → waitsIn md ops ops.size j i = true)
    (hQ : ∀ c a w, Q (.panic c) (a.put oi.dst v) w → Q (.panic c) a w) :
    ∀ (fuel : Nat) (listed : Array Bool) (a : Act) (w : World), Closed md ops listed →
      (∀ j oj, ops[j]? = some oj → j ≠ i → listed.getD j true = false → (∀ e ∈ oj.after, Region.binds md e = true → e.on ≠ i) → oi.apart ops oj = true) →
      i ∈ Region.ready md ops listed → YieldsIf P ops S oi v a → S w →
      wpAnyT F n P md ops Q late S fuel (listed.setIfInBounds i true) (a.put oi.dst v) w → wpAnyT F n P md ops Q late S (fuel + 1) listed a w := by
  intro fuel
  induction fuel with
  | zero =>
    intro listed a w _ _ hr hy hS H
    refine ⟨fun h => (by rw [h] at hr; cases hr), fun j hj => ?_⟩
    by_cases hji : j = i
    · subst hji; exact yieldsIf_wpOpIn hF hnd hi hy hS ⟨fun _ => hS, H⟩
    · have := ready_mono hj hji
      rw [H.1] at this
      cases this
  | succ fuel ih =>
    intro listed a w hcl hfree hr hy hS H
    refine ⟨fun h => (by rw [h] at hr; cases hr), fun j hj => ?_⟩
    by_cases hji : j = i
    · subst hji; exact yieldsIf_wpOpIn hF hnd hi hy hS ⟨fun _ => hS, H⟩
    · have h1 := H.2 j (ready_mono hj hji)
      obtain ⟨hjun, oj, hoj, hall⟩ := mem_ready.1 hj
      have hnot : ∀ e ∈ oj.after, Region.binds md e = true → e.on ≠ i := fun e he hb heq => by
        have h1 := hall e he hb
        have h0 := (mem_ready.1 hr).1
        rw [heq] at h1
        rcases Nat.lt_or_ge i listed.size with h' | h'
        · simp [h'] at h0 h1; rw [h0] at h1; cases h1
        · simp [Array.getElem?_eq_none h'] at h1
      have hnl : late j = false := by
        cases hl : late j with
        | false => rfl
        | true =>
          have h9 := hcl.waits _ j i (fun oj' hoj' => by
            have : oj' = oj := Option.some.inj (hoj'.symm.trans hoj)
            subst this
            exact hall) (hlate j (Array.getElem?_eq_some_iff.1 hoj).1 hji hl)
          have h0 := (mem_ready.1 hr).1
          rw [getD_both h0] at h9
          cases h9
      have h2 := wpOpIn_putS hnd hoj (hfree j oj hoj hji hjun hnot) (fun cs b => hsel i oi cs b hi) (fun cs b => hsel j oj cs b hoj) hQ hy h1
      have hfree' : ∀ k ok, ops[k]? = some ok → k ≠ i → (listed.setIfInBounds j true).getD k true = false →
          (∀ e ∈ ok.after, Region.binds md e = true → e.on ≠ i) → oi.apart ops ok = true := fun k ok hk hki hun hno => by
        refine hfree k ok hk hki ?_ hno
        by_cases hjk : j = k
        · subst hjk; exact hjun
        · rw [getD_set_ne true hjk] at hun; exact hun
      refine wpOpIn_mono (fun a' w' h3 => ⟨fun _ => h3.2.1 hnl, ih (listed.setIfInBounds j true) a' w' (hcl.set hj) hfree' (ready_mono hr (Ne.symm hji)) h3.1 (h3.2.1 hnl) ?_⟩) h2
      rw [Array.setIfInBounds_comm _ _ hji]
      exact h3.2.2

/-- The heads, each read under S, in the text's order. -/
def wpHeads (P : Program) (ops : Array Oper) (S : World → Prop) (K : Act → Prop) : List Oper → Act → Prop
  | [], a => K a
  | o :: rest, a => ∃ v, YieldsIf P ops S o v a ∧ wpHeads P ops S K rest (a.put o.dst v)

/-- The tail, whose order is forced; behind each that is not late S holds. -/
def wpTailT (F : Fence) (n : Nat) (P : Program) (ops : Array Oper) (Q : Exit → Act → World → Prop) (late : Nat → Bool) (S : World → Prop) : Nat → List Oper → Act → World → Prop
  | _, [], a, w => Q .normal a w
  | k, o :: rest, a, w => if Region.wanted o (yielded ops a.tmps) then o.wpIn F n P a w (fun a' w' => (late k = false → S w') ∧ wpTailT F n P ops Q late S (k + 1) rest a' w') Q
      else (∀ f, o.about P w a.eval = some f → F.fn f) ∧ (late k = false → S w) ∧ wpTailT F n P ops Q late S (k + 1) rest (a.put o.dst undef) w

theorem wpAnyT_of_tail {F : Fence} {late : Nat → Bool} {S : World → Prop} : ∀ (lst : List Oper) (k : Nat) (listed : Array Bool) (a : Act) (w : World), (∀ j, lst[j]? = ops[k + j]?) →
    Region.seqB md ops lst.length k listed = true → wpTailT F n P ops Q late S k lst a w → wpAnyT F n P md ops Q late S lst.length listed a w
  | [], _, _, _, _, _, hB, h => ⟨by simpa [Region.seqB] using hB, h⟩
  | o :: lst, k, listed, a, w, hl, hB, h => by
    have h0 : ops[k]? = some o := by simpa using (hl 0).symm
    simp only [List.length_cons, Region.seqB, Bool.and_eq_true, decide_eq_true_eq] at hB
    refine ⟨fun h1 => (by rw [hB.1] at h1; cases h1), fun i hi => ?_⟩
    rw [hB.1] at hi
    have hik : i = k := by simpa using hi
    subst hik
    have hw : wpOpIn F n P ops Q i (fun a' w' => (late i = false → S w') ∧ wpTailT F n P ops Q late S (i + 1) lst a' w') a w := by
      unfold wpOpIn; simp only [h0]; exact h
    exact wpOpIn_mono (fun a' w' h' => ⟨h'.1, wpAnyT_of_tail lst (i + 1) _ a' w' (fun j => by have := hl (j + 1); simpa [Nat.add_assoc, Nat.add_comm 1 j] using this) hB.2 h'.2⟩) hw

/-- Each late one waits for each head but itself. -/
def lateB (md : Region.Mode) (ops : Array Oper) (late : Nat → Bool) (k : Nat) : Bool :=
  (List.range ops.size).all fun j => !late j || (List.range k).all fun i => decide (j = i) || waitsIn md ops ops.size j i

theorem wpAnyT_of_heads {F : Fence} {late : Nat → Bool} {S : World → Prop} {k g : Nat} (hF : ∀ f, F.fn f) (hnd : noDefer ops = true) (hsel : Region.noSelect ops = true) (hlt : lateB md ops late k = true) (hS : S w) (hQ : ∀ c a w d v, Q (.panic c) (a.put d v) w → Q (.panic c) a w) :
    ∀ (lst : List Oper) (m : Nat) (listed : Array Bool) (a : Act), Closed md ops listed → (∀ j, j < lst.length → lst[j]? = ops[m + j]?) → m + lst.length = k →
    Region.lexHead md ops g lst.length m listed = true →
    wpHeads P ops S (fun a' => ∀ listed', Region.seqB md ops g k listed' = true → wpAnyT F n P md ops Q late S g listed' a' w) lst a →
    wpAnyT F n P md ops Q late S (lst.length + g) listed a w
  | [], m, listed, a, _, _, hk, hB, h => by
    have : m = k := by simpa using hk
    subst this
    rw [List.length_nil, Nat.zero_add]
    exact h listed (by simpa [Region.lexHead] using hB)
  | o :: lst, m, listed, a, hcl, hl, hk, hB, h => by
    have h0 : ops[m]? = some o := by simpa using (hl 0 (by simp)).symm
    simp only [List.length_cons, Region.lexHead, Bool.and_eq_true] at hB
    obtain ⟨⟨hr, hf⟩, hB'⟩ := hB
    obtain ⟨v, hy, hK⟩ := h
    rw [List.length_cons, show lst.length + 1 + g = (lst.length + g) + 1 by omega]
    refine wpAnyT_first hF hnd h0 (Region.noSelect_spec hsel) (fun j hj' hne hlj => ?_) (fun c a w => hQ c a w _ _) _ listed a w hcl (Region.free_spec h0 hf) (by simpa using hr) hy hS
      (wpAnyT_of_heads hF hnd hsel hlt hS hQ lst (m + 1) _ _ (hcl.set (by simpa using hr)) (fun j hj => by have := hl (j + 1) (by simp; omega); simpa [Nat.add_assoc, Nat.add_comm 1 j] using this) (by simp only [List.length_cons] at hk; omega) hB' hK)
    have h1 := List.all_eq_true.1 hlt j (List.mem_range.2 hj')
    rw [hlj, Bool.not_true, Bool.false_or] at h1
    have h2 := List.all_eq_true.1 h1 m (List.mem_range.2 (by simp only [List.length_cons] at hk; omega))
    simp only [Bool.or_eq_true, decide_eq_true_eq] at h2
    rcases h2 with h2 | h2
    · exact absurd h2 hne
    · exact h2

/-- A region that draws its order: its first k operations read under S; the others come in a forced order, and keep S but the late ones, which wait for all heads. -/
theorem wpIn_region_headsQ {F : Fence} {late : Nat → Bool} {S : World → Prop} {id : Nat} {a : Act} {lst : List Oper} (k : Nat) (hF : ∀ f, F.fn f) (hm : P.follows .mixedOrders = true) (hnd : noDefer lst.toArray = true)
    (hB : (Region.noSelect lst.toArray && lateB .any lst.toArray late k && decide (k ≤ lst.length) && Region.lexHead .any lst.toArray (lst.length - k) k 0 (Array.replicate lst.length false)) = true)
    (hQ : ∀ c a w d v, Q (.panic c) (a.put d v) w → Q (.panic c) a w) (hS : S w.drew)
    (h : wpHeads P lst.toArray S (fun a' => wpTailT F n P lst.toArray Q late S k (lst.drop k) a' w.drew) (lst.take k) a) : (Code.region id lst.toArray true).wpIn F n P Q a w := by
  simp only [Bool.and_eq_true, decide_eq_true_eq] at hB
  obtain ⟨⟨⟨h1, h2⟩, h3⟩, h4⟩ := hB
  have htl : (lst.take k).length = k := by simp; omega
  have hdl : (lst.drop k).length = lst.length - k := by simp
  refine wpIn_region_any hm (wpAnyIn_of_T (late := late) (S := S) _ _ _ _ ?_)
  have hmono : ∀ (l : List Oper) (a : Act) (K K' : Act → Prop), (∀ a, K a → K' a) → wpHeads P lst.toArray S K l a → wpHeads P lst.toArray S K' l a := by
    intro l
    induction l with
    | nil => exact fun a K K' hk h => hk a h
    | cons o l ih => exact fun a K K' hk ⟨v, hy, h⟩ => ⟨v, hy, ih _ K K' hk h⟩
  have := wpAnyT_of_heads (n := n) (md := .any) (P := P) (Q := Q) (w := w.drew) (k := k) (g := lst.length - k) hF hnd h1 h2 hS hQ (lst.take k) 0 (Array.replicate lst.length false) a Closed.new (fun j hj => by
    rw [htl] at hj
    simp [hj]) (by simpa using htl) (by rw [htl]; exact h4) (hmono _ _ _ _ (fun a' ht listed' hs => by
      have := wpAnyT_of_tail (F := F) (n := n) (P := P) (md := .any) (ops := lst.toArray) (late := late) (S := S) (Q := Q) (lst.drop k) k listed' a' w.drew (fun j => by simp [List.getElem?_drop]) (by rw [hdl]; exact hs) ht
      rwa [hdl] at this) h)
  rw [htl, show k + (lst.length - k) = lst.toArray.size by simp; omega] at this
  simpa using this
/-- It does not panic. -/
def np (Q : Exit → Act → World → Prop) : Exit → Act → World → Prop
  | .panic _, _, _ => False
  | e, a, w => Q e a w
theorem np_le (e : Exit) (a : Act) (w : World) (h : np Q e a w) : Q e a w := by
  cases e with
  | panic c => exact h.elim
  | _ => exact h

/-- A region that draws its order and does not panic. -/
theorem wpIn_region_heads {F : Fence} {late : Nat → Bool} {S : World → Prop} {id : Nat} {a : Act} {lst : List Oper} (k : Nat) (hF : ∀ f, F.fn f) (hm : P.follows .mixedOrders = true) (hnd : noDefer lst.toArray = true)
    (hB : (Region.noSelect lst.toArray && lateB .any lst.toArray late k && decide (k ≤ lst.length) && Region.lexHead .any lst.toArray (lst.length - k) k 0 (Array.replicate lst.length false)) = true)
    (hS : S w.drew)
    (h : wpHeads P lst.toArray S (fun a' => wpTailT F n P lst.toArray (np Q) late S k (lst.drop k) a' w.drew) (lst.take k) a) : (Code.region id lst.toArray true).wpIn F n P Q a w :=
  wpIn_mono (wpIn_region_headsQ (Q := np Q) k hF hm hnd hB (fun _ _ _ _ _ h => h) hS h) np_le

/-- One operation of the tail, met as a list of one. -/
theorem wpTailT_cons {F : Fence} {late : Nat → Bool} {S : World → Prop} {k : Nat} {o : Oper} {rest : List Oper} {a : Act} (hg : o.guard = none)
    (h : ∀ K : Act → World → Prop, (∀ a' w', (late k = false → S w') → wpTailT F n P ops Q late S (k + 1) rest a' w' → K a' w') → wpListIn F n P ops (Exit.then K Q) [o] a w) : wpTailT F n P ops Q late S k (o :: rest) a w := by
  have h1 := h (fun a' w' => (late k = false → S w') ∧ wpTailT F n P ops Q late S (k + 1) rest a' w') (fun a' w' h1 h2 => ⟨h1, h2⟩)
  have hw : Region.wanted o (yielded ops a.tmps) = true := by simp [Region.wanted, hg]
  unfold wpTailT
  rw [if_pos hw]
  unfold wpListIn at h1
  rw [if_pos hw] at h1
  exact h1
theorem wpTailT_nil {F : Fence} {late : Nat → Bool} {S : World → Prop} {k : Nat} {a : Act} (h : Q .normal a w) : wpTailT F n P ops (np Q) late S k [] a w := h
theorem wpHeads_nil {S : World → Prop} {K : Act → Prop} {a : Act} (h : K a) : wpHeads P ops S K [] a := h
/-- A head that is read. -/
theorem wpHeads_cons {S : World → Prop} {K : Act → Prop} {o : Oper} {rest : List Oper} {a : Act} (v : Value) (hg : o.guard = none) (hv : ∀ w, S w → (execOp a.eval o).run P w = .ok (.value v) w) (h : wpHeads P ops S K rest (a.put o.dst v)) : wpHeads P ops S K (o :: rest) a :=
  ⟨v, .inl ⟨by simp [Region.wanted, hg], hv⟩, h⟩
end

end Go.Proofs.Ytgfmdgiepomkiaa
