/- Plain law: pieces merged; lengths; tops and bottoms; where a height is. -/
import Derived.Test.YtndjljefppbmcaaMrgP
namespace Go.Proofs.Ytndjljefppbmcaa

theorem putS_len : ∀ (l : List Spn) (s : Spn), (putS l s).length ≤ l.length + 1
  | [], s => by simp [putS]
  | x :: r, s => by
    have h1 := putS_len r s
    have h2 := putS_len r (joinS x s)
    unfold putS
    split
    · simp only [List.length_cons]; omega
    · split
      · simp
      · simp only [List.length_cons]; omega
theorem puts_len (l : List Spn) : ∀ o : List Spn, (l.foldl putS o).length ≤ o.length + l.length := by
  induction l with
  | nil => intro o; simp
  | cons x l ih =>
    intro o
    have := ih (putS o x)
    have := putS_len o x
    simp only [List.foldl_cons, List.length_cons]
    omega
theorem mrgL_len (l : List Spn) : (mrgL l).length ≤ l.length := by simpa [mrgL] using puts_len l []
theorem mrgR_len (l : List Spn) : (mrgR l).length ≤ l.length := by unfold mrgR; split; exact mrgL_len l; simp
theorem mrgR_of {l : List Spn} (h : mayAll l = true) : mrgR l = mrgL l := by simp [mrgR, h]
theorem mrgR_not {l : List Spn} (h : mayAll l = false) : mrgR l = [] := by simp [mrgR, h]
theorem mrgE_of {l : List Spn} (h : mayAll l = true) : mrgE l = 0 := by simp [mrgE, h]
theorem mrgE_not {l : List Spn} (h : mayAll l = false) : mrgE l = 2 := by simp [mrgE, h]
theorem mrgL_take {l : List Spn} {k : Nat} {x : Spn} (hx : l[k]? = some x) : mrgL (l.take (k + 1)) = putS (mrgL (l.take k)) x := take_step _ _ _ hx
theorem mayAll_take {l : List Spn} {k : Nat} {x : Spn} (hx : l[k]? = some x) : mayAll (l.take (k + 1)) = (mayAll (l.take k) && mayS x) := by
  simp [mayAll, List.take_add_one, hx]
theorem mayAll_bad {l : List Spn} {k : Nat} {x : Spn} (hx : l[k]? = some x) (hm : mayS x = false) : mayAll l = false := by
  rw [mayAll, List.all_eq_false]
  exact ⟨x, List.mem_of_getElem? hx, by simp [hm]⟩
theorem mrgL_sep {l : List Spn} (h : mayAll l = true) : (mrgL l).Pairwise (fun a b => a.hi < b.lo) ∧ Ups (mrgL l) := ⟨(mrgL_mrg (mayAll_ups h)).sep, (mrgL_mrg (mayAll_ups h)).le⟩
theorem ref_step {l : List Spn} {k : Nat} {x : Spn} (hx : l[k]? = some x) (h : mayAll (l.take k) = true) (hm : mayS x = true) : putG (mrgL (l.take k)) x = mrgL (l.take (k + 1)) := by
  rw [mrgL_take hx]
  have hs := mrgL_sep h
  exact putG_eq hs.1 hs.2 (by simp [mayS] at hm; omega)

theorem msteps_len (l : List Spn) : ∀ o : List Spn, (l.foldl mstep o).length ≤ o.length + l.length := by
  induction l with
  | nil => intro o; simp
  | cons x l ih =>
    intro o
    have := ih (mstep o x)
    have h2 : (mstep o x).length ≤ o.length + 1 := by
      unfold mstep
      split
      · simp
      · split <;> simp <;> omega
    simp only [List.foldl_cons, List.length_cons]
    omega
def mstL (l : List Spn) (k : Nat) : List Spn := (l.take k).foldl mstep []
theorem mstL_len (l : List Spn) (k : Nat) : (mstL l k).length ≤ k := by
  have := msteps_len (l.take k) []
  have := List.length_take_le k l
  simp only [List.length_nil] at *
  unfold mstL
  omega
theorem mstL_zero (l : List Spn) : mstL l 0 = [] := rfl
theorem mstL_succ {l : List Spn} {k : Nat} {x : Spn} (hx : l[k]? = some x) : mstL l (k + 1) = mstep (mstL l k) x := take_step _ _ _ hx
theorem mstep_nil (x : Spn) : mstep [] x = [x] := rfl
theorem mstep_join {o : List Spn} {t x : Spn} {m : Nat} (hl : o.length = m + 1) (ht : o[m]? = some t) (h : x.lo ≤ t.hi) : mstep o x = o.take m ++ [joinS t x] := by
  have h1 : o.getLast? = some t := by rw [List.getLast?_eq_getElem?, hl]; simpa using ht
  unfold mstep
  rw [h1]
  simp only [h, if_true]
  rw [List.dropLast_eq_take, hl]; rfl
theorem mstep_app {o : List Spn} {t x : Spn} {m : Nat} (hl : o.length = m + 1) (ht : o[m]? = some t) (h : ¬ x.lo ≤ t.hi) : mstep o x = o ++ [x] := by
  have h1 : o.getLast? = some t := by rw [List.getLast?_eq_getElem?, hl]; simpa using ht
  unfold mstep
  rw [h1]
  simp only [h, if_false]

/-! ### Tops and bottoms -/
def someAt (l : List Spn) (o : Spn) : Bool := l.any (fun p => decide (p.hi = o.hi) && p.walk)
def botAt (l : List Spn) (o : Spn) : Bool := l.any (fun p => decide (p.lo = o.lo))
theorem tops_ok {l : List Spn} (h : mayAll l = true) {o : Spn} (ho : o ∈ mrgL l) : someAt l o = o.walk ∧ botAt l o = true := by
  have hm := mrgL_mrg (mayAll_ups h)
  constructor
  · rw [Bool.eq_iff_iff, hm.walk o ho]
    simp [someAt, List.any_eq_true]
  · obtain ⟨p, hp, e⟩ := hm.low o ho
    simp only [botAt, List.any_eq_true, decide_eq_true_eq]
    exact ⟨p, hp, e⟩

/-! ### Where a height is -/
def inAt (y : Int) (p : Spn) : Bool := decide (p.lo ≤ y) && decide (y ≤ p.hi)
theorem Mrg.in_iff {L O : List Spn} (h : Mrg L O) (hu : Ups L) (y : Int) : (∃ p ∈ L, p.lo ≤ y ∧ y ≤ p.hi) ↔ ∃ o ∈ O, o.lo ≤ y ∧ y ≤ o.hi := by
  constructor
  · rintro ⟨p, hp, h1, h2⟩
    obtain ⟨o, ho, h3, h4⟩ := h.cov p hp
    exact ⟨o, ho, by omega, by omega⟩
  · rintro ⟨o, ho, h1, h2⟩
    by_cases hy : y < o.hi
    · obtain ⟨p, hp, h3, h4⟩ := h.link o ho y h1 hy
      exact ⟨p, hp, h3, by omega⟩
    · obtain ⟨p, hp, e⟩ := h.high o ho
      have := hu p hp
      exact ⟨p, hp, by omega, by omega⟩
theorem count_one {O : List Spn} (h : O.Pairwise (fun a b => a.hi < b.lo)) (hu : Ups O) (y : Int) : O.countP (inAt y) = if O.any (inAt y) then 1 else 0 := by
  induction h with
  | nil => rfl
  | @cons x l hx hl ih =>
    have ih := ih (fun p hp => hu p (List.mem_cons_of_mem _ hp))
    rw [List.countP_cons, List.any_cons, ih]
    by_cases hy : inAt y x = true
    · have : l.any (inAt y) = false := by
        rw [List.any_eq_false]
        intro p hp
        have := hx p hp
        simp [inAt] at hy ⊢
        omega
      simp [hy, this]
    · simp [hy]

end Go.Proofs.Ytndjljefppbmcaa
