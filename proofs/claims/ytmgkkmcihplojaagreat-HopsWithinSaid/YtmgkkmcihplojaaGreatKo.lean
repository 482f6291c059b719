/- A drawn region over opaque slots: whatever the order, what is known of each operation's slot. Over any program. -/
import Derived.Test.YtmgkkmcihplojaaGreatGo
namespace Go.Proofs.YtmgkkmcihplojaaGreat
open Go.RowKit Go.Sort

/-- The slots behind a region: 'some j' where operation j's value lies. -/
def over (vals : Nat → Value) : List Value → List (Option Nat) → List Value
  | [], _ => []
  | x :: xs, [] => x :: xs
  | x :: xs, none :: os => x :: over vals xs os
  | _ :: xs, some j :: os => vals j :: over vals xs os
theorem over_eq {vals : Nat → Value} : ∀ (TL : List Value) (OS : List (Option Nat)) (ul : List Value), ul.length = TL.length → OS.length = TL.length →
    (∀ k : Nat, OS[k]? = some none → ul[k]? = TL[k]?) → (∀ k j : Nat, OS[k]? = some (some j) → ul[k]? = some (vals j)) → ul = over vals TL OS
  | [], _, ul, h, _, _, _ => by
    cases ul with
    | nil => rfl
    | cons y ys => simp at h
  | x :: xs, [], ul, _, h, _, _ => by simp at h
  | x :: xs, o :: os, [], h, _, _, _ => by simp at h
  | x :: xs, none :: os, y :: ys, h, h2, hn, hs => by
    have e := hn 0 rfl
    simp only [List.getElem?_cons_zero, Option.some.injEq] at e
    subst e
    unfold over
    rw [← over_eq xs os ys (by simpa using h) (by simpa using h2) (fun k hk => by simpa using hn (k + 1) (by simpa using hk)) (fun k j hk => by simpa using hs (k + 1) j (by simpa using hk))]
  | x :: xs, some j :: os, y :: ys, h, h2, hn, hs => by
    have e := hs 0 j rfl
    simp only [List.getElem?_cons_zero, Option.some.injEq] at e
    subst e
    unfold over
    rw [← over_eq xs os ys (by simpa using h) (by simpa using h2) (fun k hk => by simpa using hn (k + 1) (by simpa using hk)) (fun k j hk => by simpa using hs (k + 1) j (by simpa using hk))]

def slotB (l : List Oper) (OS : List (Option Nat)) : Bool :=
  ((List.range l.length).all fun j => match (l[j]?).bind (·.dst) with | none => true | some d => OS[d]? == some (some j)) &&
  ((List.range OS.length).all fun k => match OS[k]? with | some (some j) => (l[j]?).bind (·.dst) == some k | _ => true)
theorem slotB_op {l : List Oper} {OS : List (Option Nat)} (h : slotB l OS = true) {j d : Nat} (hj : (l[j]?).bind (·.dst) = some d) : OS[d]? = some (some j) := by
  unfold slotB at h
  rw [Bool.and_eq_true, List.all_eq_true, List.all_eq_true] at h
  have hl : j < l.length := by
    refine Classical.byContradiction fun h0 => ?_
    rw [List.getElem?_eq_none (by omega)] at hj
    cases hj
  have := h.1 j (List.mem_range.2 hl)
  rw [hj] at this
  simpa using this
theorem slotB_at {l : List Oper} {OS : List (Option Nat)} (h : slotB l OS = true) {j k : Nat} (hk : OS[k]? = some (some j)) : (l[j]?).bind (·.dst) = some k := by
  unfold slotB at h
  rw [Bool.and_eq_true, List.all_eq_true, List.all_eq_true] at h
  have hl : k < OS.length := (List.getElem?_eq_some_iff.1 hk).1
  have := h.2 k (List.mem_range.2 hl)
  rw [hk] at this
  simpa using this
def upd (vals : Nat → Value) (i : Nat) (v : Value) : Nat → Value := fun j => if j = i then v else vals j
theorem upd_eq (vals : Nat → Value) (i : Nat) (v : Value) : upd vals i v i = v := if_pos rfl
theorem upd_ne {vals : Nat → Value} {i j : Nat} {v : Value} (h : j ≠ i) : upd vals i v j = vals j := if_neg h

theorem wanted_of {ops : Array Oper} {o : Oper} {t : Array Value} {j d : Nat} {b u : Bool} (hg : o.guard = some (j, u)) (hd : (ops[j]?).bind (·.dst) = some d) (ht : t[d]? = some (.bool b)) : Region.wanted o (yielded ops t) = (b == u) := by
  have hy : yielded ops t j = some b := by unfold yielded; rw [hd]; simp only [Option.bind_some, ht]
  unfold Region.wanted
  rw [hg]
  simp only [hy]
  cases b <;> cases u <;> rfl
theorem wpOp_skipG {P : Program} {Q : Exit → Act → World → Prop} {ops : Array Oper} {K : Act → World → Prop} {w : World} {t : Array Value} {D : List Deferred} {i : Nat} (j d : Nat) (b u : Bool) (hg : (ops[i]?).bind (·.guard) = some (j, u)) (hd : (ops[j]?).bind (·.dst) = some d) (ht : t[d]? = some (.bool b)) (hne : (b == u) = false)
    (h : K (Act.put ⟨t, D⟩ ((ops[i]?).bind (·.dst)) undef) w) : wpOp P ops Q i K ⟨t, D⟩ w := by
  unfold wpOp
  cases ho : ops[i]? with
  | none => rw [ho] at hg; cases hg
  | some o =>
    rw [ho] at hg h
    simp only [Option.bind_some] at hg h
    have hw := wanted_of hg hd ht
    rw [hne] at hw
    simp only [hw]
    exact h
theorem wpOp_wantG {P : Program} {Q : Exit → Act → World → Prop} {ops : Array Oper} {K : Act → World → Prop} {w : World} {t : Array Value} {D : List Deferred} {i : Nat} {o : Oper} (j d : Nat) (u : Bool) (ho : ops[i]? = some o) (hg : o.guard = some (j, u)) (hd : (ops[j]?).bind (·.dst) = some d) (ht : t[d]? = some (.bool u))
    (h : o.wp P ⟨t, D⟩ w K Q) : wpOp P ops Q i K ⟨t, D⟩ w := by
  unfold wpOp
  rw [ho]
  have hw : Region.wanted o (yielded ops t) = true := by rw [wanted_of hg hd ht]; cases u <;> rfl
  simp only [hw, if_true]
  exact .inl h
section
variable {P : Program} {Q : Exit → Act → World → Prop}
/-- R: what is known when the operations of L are done, of their values and of the world. -/
theorem wp_region_gen {id : Nat} {TL : List Value} {D : List Deferred} {w : World} {l : List Oper} (OS : List (Option Nat)) (R : Array Bool → (Nat → Value) → World → Prop)
    (hm : P.follows .mixedOrders = true) (hd : depsB .any l.toArray = true) (hs : slotB l OS = true) (hlen : OS.length = TL.length)
    (h0 : ∀ vals, R (Array.replicate l.length false) vals w.drew)
    (hstep : ∀ (Q' : Exit → Act → World → Prop) (L : Array Bool) (t : Array Value) (vals : Nat → Value) (w : World) (i : Nat), L.size = l.length → (∀ (k : Nat) (v : Value), OS[k]? = some none → TL[k]? = some v → t[k]? = some v) → (∀ j d : Nat, OS[d]? = some (some j) → t[d]? = some (vals j)) →
      R L vals w → i ∈ Region.ready .any l.toArray L → wpOp P l.toArray Q' i (fun a' w' => ∃ v, a' = Act.put ⟨t, D⟩ ((l.toArray[i]?).bind (·.dst)) v ∧ R (L.setIfInBounds i true) (upd vals i v) w') ⟨t, D⟩ w)
    (hend : ∀ (L : Array Bool) (vals : Nat → Value) (w : World), R L vals w → (∀ i, i < l.length → L.getD i false = true) → Q .normal ⟨(over vals TL OS).toArray, D⟩ w) : (Code.region id l.toArray true).wp P Q ⟨TL.toArray, D⟩ w := by
  refine wp_region_inv (fun L a w => ∃ (t : Array Value) (vals : Nat → Value), a = ⟨t, D⟩ ∧ t.size = TL.length ∧ (∀ (k : Nat) (v : Value), OS[k]? = some none → TL[k]? = some v → t[k]? = some v) ∧ (∀ j d : Nat, OS[d]? = some (some j) → t[d]? = some (vals j)) ∧ R L vals w) hm hd ?_ ?_ ?_
  · refine ⟨TL.toArray, fun j => TL.toArray.getD (((l[j]?).bind (·.dst)).getD 0) undef, rfl, by simp, fun k v _ h => by simpa using h, fun j d h => ?_, h0 _⟩
    have hlt : d < TL.length := by rw [← hlen]; exact (List.getElem?_eq_some_iff.1 h).1
    simp [slotB_at hs h, hlt]
  · rintro L a w i hL ⟨t, vals, rfl, hsz, hoff, hon, hR⟩ hi
    refine wpOp_mono ?_ (hstep Q L t vals w i hL hoff hon hR hi)
    rintro a' w' ⟨v, rfl, hR'⟩
    have hll : (l.toArray[i]?) = l[i]? := by simp
    rw [hll]
    cases hdst : (l[i]?).bind (·.dst) with
    | none =>
      refine ⟨t, upd vals i v, rfl, hsz, hoff, fun j d h => ?_, hR'⟩
      have hne : j ≠ i := by
        rintro rfl
        have := slotB_at hs h
        rw [hdst] at this
        cases this
      rw [upd_ne hne]
      exact hon j d h
    | some d =>
      have hOd := slotB_op hs hdst
      have hlt : d < t.size := by rw [hsz, ← hlen]; exact (List.getElem?_eq_some_iff.1 hOd).1
      refine ⟨t.setIfInBounds d v, upd vals i v, rfl, by simpa using hsz, fun k u hk hu => ?_, fun j d' h => ?_, hR'⟩
      · have hne : d ≠ k := by
          rintro rfl
          rw [hOd] at hk
          cases hk
        rw [Array.getElem?_setIfInBounds_ne hne]
        exact hoff k u hk hu
      · by_cases hj : j = i
        · subst hj
          have := slotB_at hs h
          rw [hdst] at this
          cases this
          rw [upd_eq, Array.getElem?_setIfInBounds_self_of_lt hlt]
        · rw [upd_ne hj]
          have hne : d ≠ d' := by
            rintro rfl
            rw [hOd] at h
            cases h
            exact hj rfl
          rw [Array.getElem?_setIfInBounds_ne hne]
          exact hon j d' h
  · rintro L a w ⟨t, vals, rfl, hsz, hoff, hon, hR⟩ hall
    have e : t.toList = over vals TL OS := over_eq TL OS t.toList (by simpa using hsz) hlen (fun k hk => by
      have hlt : k < TL.length := by rw [← hlen]; exact (List.getElem?_eq_some_iff.1 hk).1
      rw [List.getElem?_eq_getElem hlt]
      have := hoff k _ hk (List.getElem?_eq_getElem hlt)
      simpa using this) (fun k j hk => by simpa using hon j k hk)
    have e2 : t = (over vals TL OS).toArray := by rw [← e]
    rw [e2]
    exact hend L vals w hR hall
/-- What is known of operation i's value. -/
def nthP : List (Value → World → Prop) → Nat → Value → World → Prop
  | [], _ => fun _ _ => True
  | S :: _, 0 => S
  | _ :: r, i + 1 => nthP r i
theorem nthP_keep : ∀ {SL : List (Value → World → Prop)}, (∀ S ∈ SL, ∀ v w w', S v w → Below w.heap.size w w' → S v w') → ∀ (i : Nat) (v : Value) (w w' : World), nthP SL i v w → Below w.heap.size w w' → nthP SL i v w'
  | [], _, _, _, _, _, _, _ => trivial
  | S :: _, hk, 0, v, w, w', h, hb => hk S (List.mem_cons_self ..) v w w' h hb
  | _ :: r, hk, i + 1, v, w, w', h, hb => nthP_keep (SL := r) (fun S hS => hk S (List.mem_cons_of_mem _ hS)) i v w w' h hb
/-- .. where each value has a law of its own that blocks laid later do not break, and the old blocks stay. -/
theorem wp_region_det {id : Nat} {TL : List Value} {D : List Deferred} {w : World} {l : List Oper} (OS : List (Option Nat)) (SL : List (Value → World → Prop))
    (hm : P.follows .mixedOrders = true) (hd : depsB .any l.toArray = true) (hs : slotB l OS = true) (hlen : OS.length = TL.length)
    (hkeep : ∀ S ∈ SL, ∀ v w w', S v w → Below w.heap.size w w' → S v w')
    (hstep : ∀ (Q' : Exit → Act → World → Prop) (K : Act → World → Prop) (t : Array Value) (vals : Nat → Value) (wi : World), (∀ (k : Nat) (v : Value), OS[k]? = some none → TL[k]? = some v → t[k]? = some v) → (∀ j d : Nat, OS[d]? = some (some j) → t[d]? = some (vals j)) →
      Below w.heap.size w wi → ∀ i, i < l.length → (∀ j : Nat, depB .any l.toArray i j = true → nthP SL j (vals j) wi) → Hid (∀ v w', nthP SL i v w' → Below wi.heap.size wi w' → K (Act.put ⟨t, D⟩ ((l.toArray[i]?).bind (·.dst)) v) w') → wpOp P l.toArray Q' i K ⟨t, D⟩ wi)
    (hend : ∀ (vals : Nat → Value) (wi : World), Below w.heap.size w wi → (∀ j : Nat, j < l.length → nthP SL j (vals j) wi) → Q .normal ⟨(over vals TL OS).toArray, D⟩ wi) : (Code.region id l.toArray true).wp P Q ⟨TL.toArray, D⟩ w := by
  refine wp_region_gen OS (fun L vals wi => Below w.heap.size w wi ∧ ∀ j : Nat, L.getD j false = true → nthP SL j (vals j) wi) hm hd hs hlen ?_ ?_ ?_
  · intro vals
    refine ⟨(Below.refl _ _).drew, fun j h => ?_⟩
    rw [Array.getD_eq_getD_getElem?] at h
    by_cases hj : j < l.length
    · simp [hj] at h
    · simp [hj] at h
  · rintro Q' L t vals wi i hL hoff hon ⟨hB, hS⟩ hi
    have hlt : i < l.length := by
      obtain ⟨o, ho, _⟩ := (ready_elim hi).2
      simpa using (Array.getElem?_eq_some_iff.1 ho).1
    refine hstep Q' _ t vals wi hoff hon hB i hlt (fun j hj => hS j (ready_dep hi hj)) fun v w' hv hb => ?_
    refine ⟨v, rfl, hB.trans (hb.mono hB.size), fun j hj => ?_⟩
    by_cases hji : j = i
    · subst hji
      rw [upd_eq]
      exact hv
    · rw [upd_ne hji]
      rw [getD_set_ne hji] at hj
      exact nthP_keep hkeep _ _ _ _ (hS j hj) hb
  · rintro L vals wi ⟨hB, hS⟩ hall
    exact hend vals wi hB fun j hj => hS j (hall j hj)
end
end Go.Proofs.YtmgkkmcihplojaaGreat

namespace Go.Proofs.YtmgkkmcihplojaaGreat
open Go.RowKit Go.Sort

def updB (b : Nat → Bool) (i : Nat) : Nat → Bool := fun j => if j = i then true else b j
section
variable {P : Program} {Q : Exit → Act → World → Prop}
theorem wp_region_fun {id : Nat} {TL : List Value} {D : List Deferred} {w : World} {l : List Oper} (OS : List (Option Nat)) (R : (Nat → Bool) → (Nat → Value) → World → Prop)
    (hm : P.follows .mixedOrders = true) (hd : depsB .any l.toArray = true) (hs : slotB l OS = true) (hlen : OS.length = TL.length)
    (h0 : ∀ vals, R (fun _ => false) vals w.drew)
    (hstep : ∀ (Q' : Exit → Act → World → Prop) (K : Act → World → Prop) (t : Array Value) (b : Nat → Bool) (vals : Nat → Value) (wi : World), (∀ (k : Nat) (v : Value), OS[k]? = some none → TL[k]? = some v → t[k]? = some v) → (∀ j d : Nat, OS[d]? = some (some j) → t[d]? = some (vals j)) →
      ∀ i, i < l.length → R b vals wi → b i = false → (∀ j : Nat, depB .any l.toArray i j = true → b j = true) → Hid (∀ v w', R (updB b i) (upd vals i v) w' → K (Act.put ⟨t, D⟩ ((l.toArray[i]?).bind (·.dst)) v) w') → wpOp P l.toArray Q' i K ⟨t, D⟩ wi)
    (hend : ∀ (b : Nat → Bool) (vals : Nat → Value) (wi : World), R b vals wi → (∀ i, i < l.length → b i = true) → Q .normal ⟨(over vals TL OS).toArray, D⟩ wi) : (Code.region id l.toArray true).wp P Q ⟨TL.toArray, D⟩ w := by
  refine wp_region_gen OS (fun L vals wi => L.size = l.length ∧ R (fun j => L.getD j false) vals wi) hm hd hs hlen ?_ ?_ ?_
  · intro vals
    refine ⟨by simp, ?_⟩
    have e : (fun j => (Array.replicate l.length false).getD j false) = fun _ => false := by
      funext j
      rw [Array.getD_eq_getD_getElem?]
      by_cases hj : j < l.length <;> simp [hj]
    rw [e]
    exact h0 vals
  · rintro Q' L t vals wi i hL hoff hon ⟨_, hR⟩ hi
    have hlt : i < l.length := by
      obtain ⟨o, ho, _⟩ := (ready_elim hi).2
      simpa using (Array.getElem?_eq_some_iff.1 ho).1
    refine hstep Q' _ t _ vals wi hoff hon i hlt hR (ready_not hi false (by omega)) (fun j hj => ready_dep hi hj) fun v w' h => ?_
    refine ⟨v, rfl, by simpa using hL, ?_⟩
    have e : (fun j => (L.setIfInBounds i true).getD j false) = updB (fun j => L.getD j false) i := by
      funext j
      unfold updB
      by_cases hj : j = i
      · subst hj
        rw [if_pos rfl, getD_set_eq (by omega)]
      · rw [if_neg hj, getD_set_ne hj]
    rw [e]
    exact h
  · rintro L vals wi ⟨_, hR⟩ hall
    exact hend _ vals wi hR hall
end
end Go.Proofs.YtmgkkmcihplojaaGreat
