/- A frame's slots, by their numbers. -/
import Derived.Test.YtmgkkmcihplojaaGreatGp
import Derived.Test.YtmgkkmcihplojaaGreatGh
import Derived.Test.YtmgkkmcihplojaaGreatGo
namespace Go.Proofs.YtmgkkmcihplojaaGreat
open Go.RowKit

def slot (tm : Array Value) (i : Nat) : Value := tm.getD i undef
theorem slots_eq {tm : Array Value} {n : Nat} (h : tm.size = n) : tm = ((List.range n).map (slot tm)).toArray := by
  subst h
  apply Array.ext
  · simp
  · intro i h1 h2
    simp [slot, h1]
end Go.Proofs.YtmgkkmcihplojaaGreat

namespace Go.Proofs.YtmgkkmcihplojaaGreat
open Go.RowKit Go.Shelf Go.Sort

def mark (D : Nat) : Deferred := { target := .collected D, args := #[] }
/-- The marks that have been left, in the world. -/
structure Marks (H B : Nat) (W : World) (Ds : List Nat) : Prop where
  nd : Ds.Nodup
  at_ : ∀ D ∈ Ds, H ≤ D ∧ D < B ∧ W.heap[D]? = some (.deferred (some []))
theorem Marks.nil (H B : Nat) (W : World) : Marks H B W [] := ⟨List.nodup_nil, fun _ h => by cases h⟩
theorem Marks.mono {H B B' : Nat} {W : World} {Ds : List Nat} (h : Marks H B W Ds) (hB : B ≤ B') : Marks H B' W Ds := ⟨h.nd, fun D hD => ⟨(h.at_ D hD).1, Nat.lt_of_lt_of_le (h.at_ D hD).2.1 hB, (h.at_ D hD).2.2⟩⟩
theorem Marks.kept {H B : Nat} {W W' : World} {Ds : List Nat} (h : Marks H B W Ds) (hk : ∀ D ∈ Ds, D < B → W.heap[D]? = some (.deferred (some [])) → W'.heap[D]? = W.heap[D]?) : Marks H B W' Ds :=
  ⟨h.nd, fun D hD => ⟨(h.at_ D hD).1, (h.at_ D hD).2.1, (hk D hD (h.at_ D hD).2.1 (h.at_ D hD).2.2).trans (h.at_ D hD).2.2⟩⟩
theorem Marks.below {H B m : Nat} {W W' : World} {Ds : List Nat} (h : Marks H B W Ds) (hb : Below m W W') (hm : B ≤ m) : Marks H B W' Ds := h.kept fun D _ hlt _ => hb.block D (Nat.lt_of_lt_of_le hlt hm)
theorem Marks.alloc {H B : Nat} {W : World} {Ds : List Nat} (h : Marks H B W Ds) (o : Obj) : Marks H B (W.alloc o) Ds := h.kept fun D _ _ hd => Below.heap_alloc W o D (Array.getElem?_eq_some_iff.1 hd).1
theorem Marks.setCell {H B : Nat} {W : World} {Ds : List Nat} (h : Marks H B W Ds) {p : Addr} (hp : ∀ o, W.heap[p.block]? = some o → o.isCells = true) (v : Value) : Marks H B (W.setCell p v) Ds :=
  h.kept fun D _ _ hd => Below.heap_setCell W p v D (fun e => by subst e; have := hp _ hd; cases this)
theorem Marks.cons {H B B' D : Nat} {W : World} {Ds : List Nat} (h : Marks H B W Ds) (hH : H ≤ D) (hB : B ≤ D) (hB' : D < B') (hd : W.heap[D]? = some (.deferred (some []))) : Marks H B' W (D :: Ds) := by
  refine ⟨List.nodup_cons.2 ⟨fun hm => ?_, h.nd⟩, fun D' hD' => ?_⟩
  · have := (h.at_ D hm).2.1
    omega
  · rcases List.mem_cons.1 hD' with rfl | h1
    · exact ⟨hH, hB', hd⟩
    · exact ⟨(h.at_ D' h1).1, by have := (h.at_ D' h1).2.1; omega, (h.at_ D' h1).2.2⟩
theorem ownFrom_marks {β : Type} {H B L : Nat} {Ds : List Nat} (hL : B ≤ L) : OwnFrom L (fun (_ : β) W => Marks H B W Ds) := fun _ A Bw row hs hg hr =>
  hs.kept fun D _ hlt hd => hg.block D (Array.getElem?_eq_some_iff.1 hd).1 (fun e => by have := (hr D e.symm).1; omega)

/-- On the way out the marks are taken over, one by one. -/
theorem leaves_marks {F : Fence} {n : Nat} {P : Program} {fn : Func} {tmps : Array Value} {R : Ending → World → Prop} {u : FrameMode} {H B : Nat} (J : World → Prop)
    (hu : u ≠ .run) (hJ : ∀ W D, J W → H ≤ D → W.heap[D]? = some (.deferred (some [])) → J (W.putObj D (.deferred none))) :
    ∀ (Ds : List Nat) (W : World), Marks H B W Ds → J W → (∀ W', J W' → LeavesInM F n P fn tmps R [] u W') → LeavesInM F n P fn tmps R (Ds.map mark) u W
  | [], W, _, hj, h => h W hj
  | D :: Ds, W, hm, hj, h => by
    obtain ⟨h1, h2, h3⟩ := hm.at_ D (by simp)
    refine ⟨hu, .inl ⟨D, _, rfl, run_takeDeferred h3, leaves_marks (B := B) J hu hJ Ds _ ?_ (hJ W D hj h1 h3) h⟩⟩
    refine ⟨(List.nodup_cons.1 hm.nd).2, fun D' hD' => ?_⟩
    obtain ⟨k1, k2, k3⟩ := hm.at_ D' (List.mem_cons_of_mem _ hD')
    refine ⟨k1, k2, ((grownBy_putObj' W D (.deferred none)).block D' (Array.getElem?_eq_some_iff.1 k3).1 (fun e => ?_)).trans k3⟩
    cases e
    exact (List.nodup_cons.1 hm.nd).1 hD'

end Go.Proofs.YtmgkkmcihplojaaGreat

namespace Go.Proofs.YtmgkkmcihplojaaGreat
open Go.RowKit Go.Sort
section
variable {n : Nat} {P : Program} {ops : Array Oper} {Q : Exit → Act → World → Prop} {md : Region.Mode}
theorem rowsIn_of {row : String} {args : Array Value} {w : World} {R : Value → World → Prop} (h : Rows P row args w R) : RowsIn Fence.wide n P row args w R :=
  fun c cs _ => let ⟨v, w', r, s⟩ := h c cs; ⟨v, w', r, stepsIn_wide.2 s⟩
/-- One operation that neither defers nor panics, by the law outside a fence. -/
theorem wpOpIn_of {i : Nat} {o : Oper} {K : Act → World → Prop} {a : Act} {w : World} (ho : ops[i]? = some o) (hg : o.guard = none) (hnd : ∀ c, o.op ≠ .defer c) (h : o.wp P a w K (fun _ _ _ => False)) : wpOpIn Fence.wide n P ops Q i K a w := by
  have hw : Region.wanted o (yielded ops a.tmps) = true := by simp [Region.wanted, hg]
  unfold wpOpIn
  rw [ho]
  simp only [hw, if_true]
  unfold Oper.wpIn
  rw [Oper.semAt_plain _ _ _ hnd]
  refine ⟨fun _ _ => trivial, ?_⟩
  unfold Oper.wp at h
  generalize (execOp a.eval o).run P w = r at h ⊢
  cases r with
  | ok x w' =>
    cases x with
    | value v => exact h
    | skip => exact h
    | defer d => exact h
    | enter f args =>
      refine ⟨(fun q => by cases q), callsIn_wide.2 (Calls.mono h fun e w'' he => ?_)⟩
      cases e with
      | returned v => exact he
      | panicked c => exact he.elim
      | outgrown => obtain ⟨_, _, q⟩ := he; exact q.elim
    | row row args => exact ⟨(fun q => by cases q), rowsIn_of h⟩
    | _ => exact h.elim
  | halt x w' => cases x <;> exact h.elim
theorem wpAnyIn_inv {Inv : Array Bool → Act → World → Prop} (hd : depsB md ops = true)
    (hstep : ∀ L a w i, L.size = ops.size → Inv L a w → i ∈ Region.ready md ops L → wpOpIn Fence.wide n P ops Q i (Inv (L.setIfInBounds i true)) a w)
    (hend : ∀ L a w, Inv L a w → (∀ i, i < ops.size → L.getD i false = true) → Q .normal a w) :
    ∀ (f : Nat) (L : Array Bool) (a : Act) (w : World), L.size = ops.size → unlisted L ≤ f → Inv L a w → wpAnyIn Fence.wide n P md ops Q f L a w := by
  intro f
  induction f with
  | zero =>
    intro L a w hs hu hI
    have hr : Region.ready md ops L = [] := by
      refine List.eq_nil_iff_forall_not_mem.2 fun i hi => ?_
      have := unlisted_set (ready_elim hi).1
      omega
    exact ⟨hr, hend L a w hI (ready_nil hd hs hr)⟩
  | succ f ih =>
    intro L a w hs hu hI
    refine ⟨fun hr => hend L a w hI (ready_nil hd hs hr), fun i hi => ?_⟩
    have hlt := unlisted_set (ready_elim hi).1
    have hs' : (L.setIfInBounds i true).size = ops.size := by simpa using hs
    have := hstep L a w i hs hI hi
    exact wpOpIn_mono (fun a' w' h' => ih _ a' w' hs' (by omega) h') this
/-- A region that draws its order, by an invariant, in a round. -/
theorem wpIn_round_inv {id l : Nat} {a : Act} {w : World} {lst : List Oper} (Inv : Array Bool → Act → World → Prop) (hm : P.follows .mixedOrders = true) (hnd : noDefer lst.toArray = true) (hd : depsB .any lst.toArray = true)
    (h0 : Inv (Array.replicate lst.length false) a w.drew)
    (hstep : ∀ L a w i, L.size = lst.length → Inv L a w → i ∈ Region.ready .any lst.toArray L → wpOpIn Fence.wide n P lst.toArray Q i (Inv (L.setIfInBounds i true)) a w)
    (hend : ∀ L a w, Inv L a w → (∀ i, i < lst.length → L.getD i false = true) → Q .normal a w) : (Code.region id lst.toArray true).wpIn (Fence.wide.inRound l) n P Q a w := by
  refine wpIn_round_any hm hnd ?_
  refine wpAnyIn_inv (Inv := Inv) hd (fun L a w i hs hI hi => hstep L a w i (by simpa using hs) hI hi) (fun L a w hI hi => hend L a w hI (fun i h => hi i (by simpa using h))) _ _ _ _ (by simp) (by rw [unlisted_new]; exact Nat.le_refl _) ?_
  have : (Array.replicate lst.toArray.size false) = (Array.replicate lst.length false) := by simp
  rw [this]
  exact h0
end
end Go.Proofs.YtmgkkmcihplojaaGreat
