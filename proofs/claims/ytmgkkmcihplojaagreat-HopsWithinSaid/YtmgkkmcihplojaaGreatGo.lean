/- A drawn region by an invariant: whatever the order, each operation that may come up keeps it. Over any program. -/
import Derived.Lib.QuietBelow
import Derived.StillTail
namespace Go.Proofs.YtmgkkmcihplojaaGreat
open Go.RowKit Go.Sort

theorem getD_set_ne {L : Array Bool} {k j : Nat} (h : j ≠ k) (d : Bool) : (L.setIfInBounds k true).getD j d = L.getD j d := by
  simp [Ne.symm h]
theorem getD_set_eq {L : Array Bool} {k : Nat} (h : k < L.size) (d : Bool) : (L.setIfInBounds k true).getD k d = true := by
  simp [h]
section
variable {P : Program} {ops : Array Oper} {Q : Exit → Act → World → Prop} {md : Region.Mode}
def unlisted (L : Array Bool) : Nat := L.toList.countP (fun b => !b)
theorem unlisted_set {L : Array Bool} {k : Nat} (h : L.getD k true = false) : unlisted (L.setIfInBounds k true) + 1 = unlisted L := by
  have hk : k < L.size := by
    refine Classical.byContradiction fun h0 => ?_
    have : L[k]? = none := Array.getElem?_eq_none (by omega)
    simp [this] at h
  have hv : L.toList[k]'(by simpa using hk) = false := by
    simp [Array.getElem?_eq_getElem hk] at h
    simpa using h
  unfold unlisted
  rw [Array.toList_setIfInBounds, List.countP_set (by simpa using hk), hv]
  have : 0 < L.toList.countP (fun b => !b) := List.countP_pos_iff.2 ⟨false, by rw [← hv]; exact List.getElem_mem _, rfl⟩
  simp only [Bool.not_false, if_true, Bool.not_true, Bool.false_eq_true, if_false]
  omega
/-- Operations that an operation waits for stand ahead of it. -/
def depsB (md : Region.Mode) (ops : Array Oper) : Bool := (List.range ops.size).all fun i => ((ops[i]?).map (·.after.all fun e => !Region.binds md e || decide (e.on < i))).getD false
theorem ready_intro {L : Array Bool} {i : Nat} {o : Oper} (ho : ops[i]? = some o) (h : L.getD i true = false) (hd : ∀ e ∈ o.after, Region.binds md e = true → L.getD e.on false = true) : i ∈ Region.ready md ops L := by
  unfold Region.ready
  rw [List.mem_filter, List.mem_range]
  refine ⟨(Array.getElem?_eq_some_iff.1 ho).1, ?_⟩
  rw [h, ho]
  simp only [Bool.not_false, Bool.true_and, Option.map_some, Option.getD_some]
  rw [Array.all_eq_true']
  intro e he
  cases hb : Region.binds md e with
  | false => rfl
  | true => rw [hd e he hb, Bool.or_true]
theorem ready_elim {L : Array Bool} {i : Nat} (h : i ∈ Region.ready md ops L) : L.getD i true = false ∧ ∃ o, ops[i]? = some o ∧ ∀ e ∈ o.after, Region.binds md e = true → L.getD e.on false = true := by
  unfold Region.ready at h
  rw [List.mem_filter, List.mem_range, Bool.and_eq_true] at h
  obtain ⟨hi, h1, h2⟩ := h
  refine ⟨by simpa using h1, ops[i], Array.getElem?_eq_getElem hi, fun e he hb => ?_⟩
  rw [Array.getElem?_eq_getElem hi] at h2
  simp only [Option.map_some, Option.getD_some] at h2
  rw [Array.all_eq_true'] at h2
  have := h2 e he
  rw [hb] at this
  simpa using this
def depB (md : Region.Mode) (ops : Array Oper) (i j : Nat) : Bool := ((ops[i]?).map (·.after.any fun e => decide (e.on = j) && Region.binds md e)).getD false
theorem ready_dep {L : Array Bool} {i j : Nat} (h : i ∈ Region.ready md ops L) (hb : depB md ops i j = true) : L.getD j false = true := by
  obtain ⟨_, o, ho, hd⟩ := ready_elim h
  unfold depB at hb
  rw [ho] at hb
  simp only [Option.map_some, Option.getD_some] at hb
  rw [Array.any_eq_true'] at hb
  obtain ⟨e, he, h2⟩ := hb
  simp only [Bool.and_eq_true, decide_eq_true_eq] at h2
  rw [← h2.1]
  exact hd e he h2.2
theorem ready_not {L : Array Bool} {i : Nat} (h : i ∈ Region.ready md ops L) (d : Bool) (hs : i < L.size) : L.getD i d = false := by
  have := (ready_elim h).1
  simp [Array.getElem?_eq_getElem hs] at this ⊢
  exact this
theorem ready_nil {L : Array Bool} (hd : depsB md ops = true) (hs : L.size = ops.size) (h : Region.ready md ops L = []) : ∀ i, i < ops.size → L.getD i false = true := by
  intro i
  induction i using Nat.strongRecOn with
  | _ i ih =>
    intro hi
    refine Classical.byContradiction fun h0 => ?_
    have h1 : L.getD i true = false := by
      have hk : i < L.size := by omega
      simp [Array.getElem?_eq_getElem hk] at h0 ⊢
      exact h0
    have hm : i ∈ Region.ready md ops L := by
      refine ready_intro (Array.getElem?_eq_getElem hi) h1 fun e he hbb => ?_
      have hlt : e.on < i := by
        unfold depsB at hd
        rw [List.all_eq_true] at hd
        have h2 := hd i (List.mem_range.2 hi)
        rw [Array.getElem?_eq_getElem hi] at h2
        simp only [Option.map_some, Option.getD_some] at h2
        rw [Array.all_eq_true'] at h2
        have h3 := h2 e he
        rw [hbb] at h3
        simpa using h3
      exact ih e.on hlt (by omega)
    rw [h] at hm
    cases hm
theorem wpAny_inv {Inv : Array Bool → Act → World → Prop} (hd : depsB md ops = true)
    (hstep : ∀ L a w i, L.size = ops.size → Inv L a w → i ∈ Region.ready md ops L → wpOp P ops Q i (Inv (L.setIfInBounds i true)) a w)
    (hend : ∀ L a w, Inv L a w → (∀ i, i < ops.size → L.getD i false = true) → Q .normal a w) :
    ∀ (f : Nat) (L : Array Bool) (a : Act) (w : World), L.size = ops.size → unlisted L ≤ f → Inv L a w → wpAny P md ops Q f L a w := by
  intro f
  induction f with
  | zero =>
    intro L a w hs hu hI
    have hr : Region.ready md ops L = [] := by
      refine List.eq_nil_iff_forall_not_mem.2 fun i hi => ?_
      have := unlisted_set (ready_elim hi).1
      omega
    exact ⟨hr, hend L a w hI (ready_nil hd hs hr)⟩
  | succ f ih =>
    intro L a w hs hu hI
    refine ⟨fun hr => hend L a w hI (ready_nil hd hs hr), fun i hi => ?_⟩
    have hlt := unlisted_set (ready_elim hi).1
    have hs' : (L.setIfInBounds i true).size = ops.size := by simpa using hs
    have := hstep L a w i hs hI hi
    exact wpOp_mono (fun a' w' h' => ih _ a' w' hs' (by omega) h') this
theorem wpOp_of {i : Nat} {o : Oper} {K : Act → World → Prop} {a : Act} {w : World} (ho : ops[i]? = some o) (hg : o.guard = none) (h : o.wp P a w K Q) : wpOp P ops Q i K a w := by
  have hw : Region.wanted o (yielded ops a.tmps) = true := by simp [Region.wanted, hg]
  unfold wpOp
  rw [ho]
  simp only [hw, if_true]
  exact .inl h
theorem unlisted_new (n : Nat) : unlisted (Array.replicate n false) = n := by
  unfold unlisted
  simp [List.countP_replicate]
/-- A region that draws its order, by an invariant. -/
theorem wp_region_inv {id : Nat} {a : Act} {w : World} {l : List Oper} (Inv : Array Bool → Act → World → Prop) (hm : P.follows .mixedOrders = true) (hd : depsB .any l.toArray = true)
    (h0 : Inv (Array.replicate l.length false) a w.drew)
    (hstep : ∀ L a w i, L.size = l.length → Inv L a w → i ∈ Region.ready .any l.toArray L → wpOp P l.toArray Q i (Inv (L.setIfInBounds i true)) a w)
    (hend : ∀ L a w, Inv L a w → (∀ i, i < l.length → L.getD i false = true) → Q .normal a w) : (Code.region id l.toArray true).wp P Q a w := by
  refine wp_region_any hm ?_
  refine wpAny_inv (Inv := Inv) hd (fun L a w i hs hI hi => hstep L a w i (by simpa using hs) hI hi) (fun L a w hI hi => hend L a w hI (fun i h => hi i (by simpa using h))) _ _ _ _ (by simp) (by rw [unlisted_new]; exact Nat.le_refl _) ?_
  have : (Array.replicate l.toArray.size false) = (Array.replicate l.length false) := by simp
  rw [this]
  exact h0
end
end Go.Proofs.YtmgkkmcihplojaaGreat
