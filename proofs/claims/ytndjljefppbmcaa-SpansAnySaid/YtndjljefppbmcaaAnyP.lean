/- Plain law: pieces in another order, merged in parts, merged twice; where a height is. -/
import Derived.Test.YtndjljefppbmcaaMrgQ
namespace Go.Proofs.Ytndjljefppbmcaa

theorem mayAll_iff {l : List Spn} : mayAll l = true ↔ ∀ p ∈ l, p.lo ≤ p.hi ∧ -2048 ≤ p.lo ∧ p.hi ≤ 2048 := by
  simp [mayAll, List.all_eq_true, mayS, and_assoc]
theorem mayAll_perm {l m : List Spn} (h : m.Perm l) : mayAll m = mayAll l := by
  rw [Bool.eq_iff_iff, mayAll_iff, mayAll_iff]
  exact ⟨fun q p hp => q p (h.mem_iff.2 hp), fun q p hp => q p (h.mem_iff.1 hp)⟩
theorem mrgL_perm {l m : List Spn} (h : m.Perm l) (hl : mayAll l = true) : mrgL m = mrgL l :=
  Mrg.uniq (mayAll_ups ((mayAll_perm h).trans hl)) (mrgL_mrg (mayAll_ups ((mayAll_perm h).trans hl))) (mrgL_mrg (mayAll_ups hl)) (fun _ => h.mem_iff)
theorem mrgR_perm {l m : List Spn} (h : m.Perm l) : mrgR m = mrgR l := by
  cases hl : mayAll l with
  | true => rw [mrgR_of hl, mrgR_of ((mayAll_perm h).trans hl), mrgL_perm h hl]
  | false => rw [mrgR_not hl, mrgR_not ((mayAll_perm h).trans hl)]
theorem mrgE_perm {l m : List Spn} (h : m.Perm l) : mrgE m = mrgE l := by
  cases hl : mayAll l with
  | true => rw [mrgE_of hl, mrgE_of ((mayAll_perm h).trans hl)]
  | false => rw [mrgE_not hl, mrgE_not ((mayAll_perm h).trans hl)]
theorem mrgL_may {l : List Spn} (hl : mayAll l = true) : mayAll (mrgL l) = true := by
  have hm := mrgL_mrg (mayAll_ups hl)
  rw [mayAll_iff] at hl ⊢
  intro o ho
  obtain ⟨p, hp, e1⟩ := hm.low o ho
  obtain ⟨q, hq, e2⟩ := hm.high o ho
  have := hl p hp
  have := hl q hq
  exact ⟨hm.le o ho, by omega, by omega⟩
theorem mrgL_twice {l : List Spn} (hl : mayAll l = true) : mrgL (mrgL l) = mrgL l := by
  have hm := mrgL_mrg (mayAll_ups hl)
  exact Mrg.uniq hm.le (mrgL_mrg hm.le) (Mrg.self hm.sep hm.le) (fun _ => Iff.rfl)
theorem mayAll_app {l m : List Spn} : mayAll (l ++ m) = (mayAll l && mayAll m) := by simp [mayAll]
theorem mayAll_takedrop {l : List Spn} (hl : mayAll l = true) (k : Nat) : mayAll (l.take k) = true ∧ mayAll (l.drop k) = true := by
  rw [← List.take_append_drop k l, mayAll_app, Bool.and_eq_true] at hl
  exact hl
theorem parts_may {l : List Spn} (hl : mayAll l = true) (k : Nat) : mayAll (mrgL (l.take k) ++ l.drop k) = true := by
  have h := mayAll_takedrop hl k
  rw [mayAll_app, mrgL_may h.1, h.2]; rfl
theorem mrgL_parts {l : List Spn} (hl : mayAll l = true) (k : Nat) : mrgL (mrgL (l.take k) ++ l.drop k) = mrgL l := by
  have h := mayAll_takedrop hl k
  have h1 := mrgL_mrg (mayAll_ups h.1)
  have h2 := mrgL_mrg (mayAll_ups (parts_may hl k))
  have h3 := Mrg.comp h1 h2 (mayAll_ups h.1)
  rw [List.take_append_drop] at h3
  exact (Mrg.uniq (mayAll_ups hl) (mrgL_mrg (mayAll_ups hl)) h3 (fun _ => Iff.rfl)).symm
theorem sep_at {M : List Spn} (h : M.Pairwise (fun a b => a.hi < b.lo)) {k : Nat} {x p : Spn} (hk : 0 < k) (hx : M[k]? = some x) (hp : M[k - 1]? = some p) : ¬ x.lo ≤ p.hi := by
  obtain ⟨h1, e1⟩ := List.getElem?_eq_some_iff.1 hx
  obtain ⟨h2, e2⟩ := List.getElem?_eq_some_iff.1 hp
  have := List.pairwise_iff_getElem.1 h (k - 1) k h2 h1 (by omega)
  rw [e1, e2] at this
  omega
theorem any_succ {l : List Spn} {k : Nat} {x : Spn} (hx : l[k]? = some x) (y : Int) : (l.take (k + 1)).any (inAt y) = ((l.take k).any (inAt y) || (decide (x.lo ≤ y) && decide (y ≤ x.hi))) := by
  simp [List.take_add_one, hx, inAt]
theorem count_succ {l : List Spn} {k : Nat} {x : Spn} (hx : l[k]? = some x) (y : Int) : (l.take (k + 1)).countP (inAt y) = (l.take k).countP (inAt y) + (if decide (x.lo ≤ y) && decide (y ≤ x.hi) then 1 else 0) := by
  simp only [List.take_add_one, hx, List.countP_append, Option.toList_some]
  rw [List.countP_cons, List.countP_nil, Nat.zero_add]
  rfl
theorem count_le_take (l : List Spn) (k : Nat) (y : Int) : (l.take k).countP (inAt y) ≤ k := by
  have := List.countP_le_length (p := inAt y) (l := l.take k)
  have := List.length_take_le k l
  omega
theorem height_ok {l : List Spn} (hl : mayAll l = true) (y : Int) : (mrgL l).countP (inAt y) = if l.any (inAt y) then 1 else 0 := by
  have hm := mrgL_mrg (mayAll_ups hl)
  rw [count_one hm.sep hm.le y]
  have : (mrgL l).any (inAt y) = l.any (inAt y) := by
    have h := hm.in_iff (mayAll_ups hl) y
    rw [Bool.eq_iff_iff]
    simp only [List.any_eq_true, inAt, Bool.and_eq_true, decide_eq_true_eq]
    exact h.symm
  rw [this]
theorem cut_at (c : Int) (n : Nat) : ∃ k : Nat, k ≤ n ∧ ((c.tmod ((n : Int) + 1)) + ((n : Int) + 1)).tmod ((n : Int) + 1) = (k : Int) := by
  have h0 : (0 : Int) < (n : Int) + 1 := by omega
  have h1 : -((n : Int) + 1) < c.tmod ((n : Int) + 1) := by
    have := Int.lt_tmod_of_pos c h0
    omega
  have h2 : 0 ≤ ((c.tmod ((n : Int) + 1)) + ((n : Int) + 1)).tmod ((n : Int) + 1) := Int.tmod_nonneg _ (by omega)
  have h3 := Int.tmod_lt_of_pos ((c.tmod ((n : Int) + 1)) + ((n : Int) + 1)) h0
  exact ⟨_, by omega, (Int.toNat_of_nonneg h2).symm⟩
theorem tmod_bounds (c : Int) (n : Nat) : -((n : Int) + 1) < c.tmod ((n : Int) + 1) ∧ c.tmod ((n : Int) + 1) < (n : Int) + 1 := by
  have h0 : (0 : Int) < (n : Int) + 1 := by omega
  exact ⟨by have := Int.lt_tmod_of_pos c h0; omega, Int.tmod_lt_of_pos c h0⟩

/-! ### A row in another order -/
def swapS (l : List Spn) (i k : Nat) (x y : Spn) : List Spn := (l.set i y).set k x
theorem swap_perm {l : List Spn} {i k : Nat} {x y : Spn} (hx : l[i]? = some x) (hy : l[k]? = some y) : (swapS l i k x y).Perm l := by
  obtain ⟨h1, e1⟩ := List.getElem?_eq_some_iff.1 hx
  obtain ⟨h2, e2⟩ := List.getElem?_eq_some_iff.1 hy
  unfold swapS
  subst e1 e2
  exact List.set_set_perm h1 h2
end Go.Proofs.Ytndjljefppbmcaa
