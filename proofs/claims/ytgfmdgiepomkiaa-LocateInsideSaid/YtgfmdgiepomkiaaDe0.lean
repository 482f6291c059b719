/- A drawn region whose slots may be read before they are written: what they hold at its beginning is known. Over any program. -/
import Derived.Test.YtgfmdgiepomkiaaKo
namespace Go.Proofs.Ytgfmdgiepomkiaa
open Go.RowKit Go.Sort

section
variable {P : Program} {Q : Exit → Act → World → Prop}
theorem wp_region_gen0 {id : Nat} {TL : List Value} {D : List Deferred} {w : World} {l : List Oper} (OS : List (Option Nat)) (R : Array Bool → (Nat → Value) → World → Prop)
    (hm : P.follows .mixedOrders = true) (hd : depsB .any l.toArray = true) (hs : slotB l OS = true) (hlen : OS.length = TL.length)
    (h0 : ∀ vals : Nat → Value, (∀ j d : Nat, OS[d]? = some (some j) → TL[d]? = some (vals j)) → R (Array.replicate l.length false) vals w.drew)
    (hstep : ∀ (Q' : Exit → Act → World → Prop) (L : Array Bool) (t : Array Value) (vals : Nat → Value) (w : World) (i : Nat), L.size = l.length → (∀ (k : Nat) (v : Value), OS[k]? = some none → TL[k]? = some v → t[k]? = some v) → (∀ j d : Nat, OS[d]? = some (some j) → t[d]? = some (vals j)) →
      R L vals w → i ∈ Region.ready .any l.toArray L → wpOp P l.toArray Q' i (fun a' w' => ∃ v, a' = Act.put ⟨t, D⟩ ((l.toArray[i]?).bind (·.dst)) v ∧ R (L.setIfInBounds i true) (upd vals i v) w') ⟨t, D⟩ w)
    (hend : ∀ (L : Array Bool) (vals : Nat → Value) (w : World), R L vals w → (∀ i, i < l.length → L.getD i false = true) → Q .normal ⟨(over vals TL OS).toArray, D⟩ w) : (Code.region id l.toArray true).wp P Q ⟨TL.toArray, D⟩ w := by
  refine wp_region_inv (fun L a w => ∃ (t : Array Value) (vals : Nat → Value), a = ⟨t, D⟩ ∧ t.size = TL.length ∧ (∀ (k : Nat) (v : Value), OS[k]? = some none → TL[k]? = some v → t[k]? = some v) ∧ (∀ j d : Nat, OS[d]? = some (some j) → t[d]? = some (vals j)) ∧ R L vals w) hm hd ?_ ?_ ?_
  · refine ⟨TL.toArray, fun j => TL.toArray.getD (((l[j]?).bind (·.dst)).getD 0) undef, rfl, by simp, fun k v _ h => by simpa using h, fun j d h => ?_, h0 _ fun j d h => ?_⟩ <;>
      (have hlt : d < TL.length := by rw [← hlen]; exact (List.getElem?_eq_some_iff.1 h).1
       simp [slotB_at hs h, hlt])
  · rintro L a w i hL ⟨t, vals, rfl, hsz, hoff, hon, hR⟩ hi
    refine wpOp_mono ?_ (hstep Q L t vals w i hL hoff hon hR hi)
    rintro a' w' ⟨v, rfl, hR'⟩
    have hll : (l.toArray[i]?) = l[i]? := by simp
    rw [hll]
    cases hdst : (l[i]?).bind (·.dst) with
    | none =>
      refine ⟨t, upd vals i v, rfl, hsz, hoff, fun j d h => ?_, hR'⟩
      have hne : j ≠ i := by
        rintro rfl
        have := slotB_at hs h
        rw [hdst] at this
        cases this
      rw [upd_ne hne]
      exact hon j d h
    | some d =>
      have hOd := slotB_op hs hdst
      have hlt : d < t.size := by rw [hsz, ← hlen]; exact (List.getElem?_eq_some_iff.1 hOd).1
      refine ⟨t.setIfInBounds d v, upd vals i v, rfl, by simpa using hsz, fun k u hk hu => ?_, fun j d' h => ?_, hR'⟩
      · have hne : d ≠ k := by
          rintro rfl
          rw [hOd] at hk
          cases hk
        rw [Array.getElem?_setIfInBounds_ne hne]
        exact hoff k u hk hu
      · by_cases hj : j = i
        · subst hj
          have := slotB_at hs h
          rw [hdst] at this
          cases this
          rw [upd_eq, Array.getElem?_setIfInBounds_self_of_lt hlt]
        · rw [upd_ne hj]
          have hne : d ≠ d' := by
            rintro rfl
            rw [hOd] at h
            cases h
            exact hj rfl
          rw [Array.getElem?_setIfInBounds_ne hne]
          exact hon j d' h
  · rintro L a w ⟨t, vals, rfl, hsz, hoff, hon, hR⟩ hall
    have e : t.toList = over vals TL OS := over_eq TL OS t.toList (by simpa using hsz) hlen (fun k hk => by
      have hlt : k < TL.length := by rw [← hlen]; exact (List.getElem?_eq_some_iff.1 hk).1
      rw [List.getElem?_eq_getElem hlt]
      have := hoff k _ hk (List.getElem?_eq_getElem hlt)
      simpa using this) (fun k j hk => by simpa using hon j k hk)
    have e2 : t = (over vals TL OS).toArray := by rw [← e]
    rw [e2]
    exact hend L vals w hR hall
theorem wp_region_fun0 {id : Nat} {TL : List Value} {D : List Deferred} {w : World} {l : List Oper} (OS : List (Option Nat)) (R : (Nat → Bool) → (Nat → Value) → World → Prop)
    (hm : P.follows .mixedOrders = true) (hd : depsB .any l.toArray = true) (hs : slotB l OS = true) (hlen : OS.length = TL.length)
    (h0 : ∀ vals : Nat → Value, (∀ j d : Nat, OS[d]? = some (some j) → TL[d]? = some (vals j)) → R (fun _ => false) vals w.drew)
    (hstep : ∀ (Q' : Exit → Act → World → Prop) (K : Act → World → Prop) (t : Array Value) (b : Nat → Bool) (vals : Nat → Value) (wi : World), (∀ (k : Nat) (v : Value), OS[k]? = some none → TL[k]? = some v → t[k]? = some v) → (∀ j d : Nat, OS[d]? = some (some j) → t[d]? = some (vals j)) →
      ∀ i, i < l.length → R b vals wi → b i = false → (∀ j : Nat, depB .any l.toArray i j = true → b j = true) → Hid (∀ v w', R (updB b i) (upd vals i v) w' → K (Act.put ⟨t, D⟩ ((l.toArray[i]?).bind (·.dst)) v) w') → wpOp P l.toArray Q' i K ⟨t, D⟩ wi)
    (hend : ∀ (b : Nat → Bool) (vals : Nat → Value) (wi : World), R b vals wi → (∀ i, i < l.length → b i = true) → Q .normal ⟨(over vals TL OS).toArray, D⟩ wi) : (Code.region id l.toArray true).wp P Q ⟨TL.toArray, D⟩ w := by
  refine wp_region_gen0 OS (fun L vals wi => L.size = l.length ∧ R (fun j => L.getD j false) vals wi) hm hd hs hlen ?_ ?_ ?_
  · intro vals hv0
    refine ⟨by simp, ?_⟩
    have e : (fun j => (Array.replicate l.length false).getD j false) = fun _ => false := by
      funext j
      rw [Array.getD_eq_getD_getElem?]
      by_cases hj : j < l.length <;> simp [hj]
    rw [e]
    exact h0 vals hv0
  · rintro Q' L t vals wi i hL hoff hon ⟨_, hR⟩ hi
    have hlt : i < l.length := by
      obtain ⟨o, ho, _⟩ := (ready_elim hi).2
      simpa using (Array.getElem?_eq_some_iff.1 ho).1
    refine hstep Q' _ t _ vals wi hoff hon i hlt hR (ready_not hi false (by omega)) (fun j hj => ready_dep hi hj) fun v w' h => ?_
    refine ⟨v, rfl, by simpa using hL, ?_⟩
    have e : (fun j => (L.setIfInBounds i true).getD j false) = updB (fun j => L.getD j false) i := by
      funext j
      unfold updB
      by_cases hj : j = i
      · subst hj
        rw [if_pos rfl, getD_set_eq (by omega)]
      · rw [if_neg hj, getD_set_ne hj]
    rw [e]
    exact h
  · rintro L vals wi ⟨_, hR⟩ hall
    exact hend _ vals wi hR hall
end
end Go.Proofs.Ytgfmdgiepomkiaa
