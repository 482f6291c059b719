/- A drawn region by an invariant, in a round of a loop over an iterator. Over any program. -/
import Derived.Test.YtjiklfffcnfdjaaInv
import Derived.Test.YtjiklfffcnfdjaaRound
namespace Go.Proofs.Ytjiklfffcnfdjaa
open Go.RowKit Go.Sort
section
variable {n : Nat} {P : Program} {ops : Array Oper} {Q : Exit → Act → World → Prop} {md : Region.Mode}
theorem rowsIn_of {row : String} {args : Array Value} {w : World} {R : Value → World → Prop} (h : Rows P row args w R) : RowsIn Fence.wide n P row args w R :=
  fun c cs _ => let ⟨v, w', r, s⟩ := h c cs; ⟨v, w', r, stepsIn_wide.2 s⟩
/-- One operation that neither defers nor panics, by the law outside a fence. -/
theorem wpOpIn_of {i : Nat} {o : Oper} {K : Act → World → Prop} {a : Act} {w : World} (ho : ops[i]? = some o) (hg : o.guard = none) (hnd : ∀ c, o.op ≠ .defer c) (h : o.wp P a w K (fun _ _ _ => False)) : wpOpIn Fence.wide n P ops Q i K a w := by
  have hw : Region.wanted o (yielded ops a.tmps) = true := by simp [Region.wanted, hg]
  unfold wpOpIn
  rw [ho]
  simp only [hw, if_true]
  unfold Oper.wpIn
  rw [Oper.semAt_plain _ _ _ hnd]
  refine ⟨fun _ _ => trivial, ?_⟩
  unfold Oper.wp at h
  generalize (execOp a.eval o).run P w = r at h ⊢
  cases r with
  | ok x w' =>
    cases x with
    | value v => exact h
    | skip => exact h
    | defer d => exact h
    | enter f args =>
      refine ⟨(fun q => by cases q), callsIn_wide.2 (Calls.mono h fun e w'' he => ?_)⟩
      cases e with
      | returned v => exact he
      | panicked c => exact he.elim
      | outgrown => obtain ⟨_, _, q⟩ := he; exact q.elim
    | row row args => exact ⟨(fun q => by cases q), rowsIn_of h⟩
    | _ => exact h.elim
  | halt x w' => cases x <;> exact h.elim
theorem wpAnyIn_inv {Inv : Array Bool → Act → World → Prop} (hd : depsB md ops = true)
    (hstep : ∀ L a w i, L.size = ops.size → Inv L a w → i ∈ Region.ready md ops L → wpOpIn Fence.wide n P ops Q i (Inv (L.setIfInBounds i true)) a w)
    (hend : ∀ L a w, Inv L a w → (∀ i, i < ops.size → L.getD i false = true) → Q .normal a w) :
    ∀ (f : Nat) (L : Array Bool) (a : Act) (w : World), L.size = ops.size → unlisted L ≤ f → Inv L a w → wpAnyIn Fence.wide n P md ops Q f L a w := by
  intro f
  induction f with
  | zero =>
    intro L a w hs hu hI
    have hr : Region.ready md ops L = [] := by
      refine List.eq_nil_iff_forall_not_mem.2 fun i hi => ?_
      have := unlisted_set (ready_elim hi).1
      omega
    exact ⟨hr, hend L a w hI (ready_nil hd hs hr)⟩
  | succ f ih =>
    intro L a w hs hu hI
    refine ⟨fun hr => hend L a w hI (ready_nil hd hs hr), fun i hi => ?_⟩
    have hlt := unlisted_set (ready_elim hi).1
    have hs' : (L.setIfInBounds i true).size = ops.size := by simpa using hs
    have := hstep L a w i hs hI hi
    exact wpOpIn_mono (fun a' w' h' => ih _ a' w' hs' (by omega) h') this
/-- A region that draws its order, by an invariant, in a round. -/
theorem wpIn_round_inv {id l : Nat} {a : Act} {w : World} {lst : List Oper} (Inv : Array Bool → Act → World → Prop) (hm : P.follows .mixedOrders = true) (hnd : noDefer lst.toArray = true) (hd : depsB .any lst.toArray = true)
    (h0 : Inv (Array.replicate lst.length false) a w.drew)
    (hstep : ∀ L a w i, L.size = lst.length → Inv L a w → i ∈ Region.ready .any lst.toArray L → wpOpIn Fence.wide n P lst.toArray Q i (Inv (L.setIfInBounds i true)) a w)
    (hend : ∀ L a w, Inv L a w → (∀ i, i < lst.length → L.getD i false = true) → Q .normal a w) : (Code.region id lst.toArray true).wpIn (Fence.wide.inRound l) n P Q a w := by
  refine wpIn_round_any hm hnd ?_
  refine wpAnyIn_inv (Inv := Inv) hd (fun L a w i hs hI hi => hstep L a w i (by simpa using hs) hI hi) (fun L a w hI hi => hend L a w hI (fun i h => hi i (by simpa using h))) _ _ _ _ (by simp) (by rw [unlisted_new]; exact Nat.le_refl _) ?_
  have : (Array.replicate lst.toArray.size false) = (Array.replicate lst.length false) := by simp
  rw [this]
  exact h0
end
end Go.Proofs.Ytjiklfffcnfdjaa
