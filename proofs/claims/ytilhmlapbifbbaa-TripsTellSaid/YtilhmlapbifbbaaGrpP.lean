/- Plain: groups of places. Imports nothing of the dump. -/
import Derived.Test.YtilhmlapbifbbaaRouP
namespace Go.Proofs.Ytilhmlapbifbbaa
open Go.RowKit

def stB (f : Nat → Nat → Bool) (a b : Nat) (x : Bool) : Nat → Nat → Bool := fun i j => if i = a ∧ j = b then x else f i j
/-- There and back again? -/
def wth (s : List (List Int)) (a b : Nat) : Bool := (gt s a b != -1) && (gt s b a != -1)
def stW (s : List (List Int)) (f : Nat → Nat → Bool) (p : Nat × Nat) : Nat → Nat → Bool := stB f p.1 p.2 (wth s p.1 p.2)
theorem foldW (s : List (List Int)) : ∀ (l : List (Nat × Nat)) (f : Nat → Nat → Bool) (i j : Nat), l.foldl (stW s) f i j = if (i, j) ∈ l then wth s i j else f i j
  | [], f, i, j => by simp
  | p :: l, f, i, j => by
    rw [List.foldl_cons, foldW s l]
    by_cases h : (i, j) ∈ l
    · rw [if_pos h, if_pos (List.mem_cons_of_mem _ h)]
    · rw [if_neg h]
      obtain ⟨p1, p2⟩ := p
      unfold stW stB
      by_cases h2 : i = p1 ∧ j = p2
      · obtain ⟨rfl, rfl⟩ := h2
        simp
      · rw [if_neg h2, if_neg]
        intro hm
        rcases List.mem_cons.1 hm with e | e
        · simp only [Prod.mk.injEq] at e
          exact h2 e
        · exact h e
def withF (n : Nat) (s : List (List Int)) (i j : Nat) : Bool := decide (i < n) && decide (j < n) && wth s i j
theorem foldW_all (n : Nat) (s : List (List Int)) (i j : Nat) : (prs n).foldl (stW s) (fun _ _ => false) i j = withF n s i j := by
  rw [foldW]
  unfold withF
  by_cases h : i < n ∧ j < n
  · rw [if_pos (prs_mem.2 h)]; simp [h]
  · rw [if_neg (fun hm => h (prs_mem.1 hm))]
    by_cases h1 : i < n
    · have h2 : ¬ j < n := fun h2 => h ⟨h1, h2⟩
      simp [h2]
    · simp [h1]

/-- Two rows of twelve truths: the same? -/
def reqv (f : Nat → Nat → Bool) (a b : Nat) : Bool := (List.range 12).all fun j => f a j == f b j
def grpL (f : Nat → Nat → Bool) (n a : Nat) : List Nat := (List.range n).filter fun b => reqv f b a
def grpF (f : Nat → Nat → Bool) (a : Nat) : Bool := (List.range a).all fun b => !reqv f b a
def grpU (f : Nat → Nat → Bool) (n k : Nat) : List (List Nat) := ((List.range k).filter (grpF f)).map (grpL f n)
theorem grpU_succ (f : Nat → Nat → Bool) (n k : Nat) : grpU f n (k + 1) = if grpF f k then grpU f n k ++ [grpL f n k] else grpU f n k := by
  unfold grpU
  rw [List.range_succ, List.filter_append, List.map_append]
  by_cases h : grpF f k = true
  · simp [h]
  · simp [h]
theorem grpL_succ (f : Nat → Nat → Bool) (k a : Nat) : grpL f (k + 1) a = if reqv f k a then grpL f k a ++ [k] else grpL f k a := by
  unfold grpL
  rw [List.range_succ, List.filter_append]
  by_cases h : reqv f k a = true
  · simp [h]
  · simp [h]
theorem reqv_refl (f : Nat → Nat → Bool) (a : Nat) : reqv f a a = true := by simp [reqv]
theorem reqv_iff {f : Nat → Nat → Bool} {a b : Nat} : reqv f a b = true ↔ ∀ j, j < 12 → f a j = f b j := by
  simp [reqv]
theorem reqv_symm {f : Nat → Nat → Bool} {a b : Nat} (h : reqv f a b = true) : reqv f b a = true := reqv_iff.2 fun j hj => (reqv_iff.1 h j hj).symm
theorem reqv_trans {f : Nat → Nat → Bool} {a b c : Nat} (h : reqv f a b = true) (k : reqv f b c = true) : reqv f a c = true := reqv_iff.2 fun j hj => (reqv_iff.1 h j hj).trans (reqv_iff.1 k j hj)
/-- The first row that is as row a. -/
def idxB (f : Nat → Nat → Bool) (n a : Nat) : Nat := ((List.range n).findIdx fun b => reqv f b a)
theorem idxB_found {f : Nat → Nat → Bool} {n a k : Nat} (hk : k < n) (h1 : ∀ j, j < k → reqv f j a = false) (h2 : reqv f k a = true) : idxB f n a = k := by
  unfold idxB
  rw [List.findIdx_eq (by simpa using hk)]
  refine ⟨by simpa using h2, fun j hj => ?_⟩
  simpa using h1 j hj
theorem idxB_lt {f : Nat → Nat → Bool} {n a : Nat} (ha : a < n) : decide (idxB f n a < a) = !grpF f a := by
  by_cases h : grpF f a = true
  · have h1 : idxB f n a = a := idxB_found ha (fun j hj => by simpa using (List.all_eq_true.1 h) j (by simpa using hj)) (reqv_refl f a)
    rw [h1, h]
    simp
  · have h3 : ∃ b, b < a ∧ reqv f b a = true := by
      simp only [grpF, Bool.not_eq_true, List.all_eq_false, List.mem_range] at h
      obtain ⟨b, hb, h4⟩ := h
      exact ⟨b, hb, by simpa using h4⟩
    obtain ⟨b, hb, h4⟩ := h3
    have h5 : idxB f n a < a := by
      have h6 : ¬ b < idxB f n a := fun hlt => by
        have h7 := List.not_of_lt_findIdx hlt
        simp [h4] at h7
      omega
    simp [h5, h]

def groE (t : List (List Int)) : Int := if mayT t then 0 else 2
/-- The groups of a table. -/
def groP (t : List (List Int)) : List (List Nat) := if mayT t then grpU (withF t.length (shortP t)) t.length t.length else []
theorem grpL_mem {f : Nat → Nat → Bool} {n a b : Nat} : b ∈ grpL f n a ↔ b < n ∧ reqv f b a = true := by simp [grpL]
theorem grpL_ne {f : Nat → Nat → Bool} {n a : Nat} (ha : a < n) : 0 < (grpL f n a).length := List.length_pos_of_mem (grpL_mem.2 ⟨ha, reqv_refl f a⟩)

/-- Rows are alike just if there are trips both ways. -/
theorem reqv_with {t : List (List Int)} (hm : mayT t = true) {a b : Nat} (ha : a < t.length) (hb : b < t.length) : reqv (withF t.length (shortP t)) a b = wth (shortP t) a b := by
  have hp := pass_short hm
  have hn := (mayT_sq hm).1
  have hlow : ∀ i j, i < t.length → j < t.length → (gt (shortP t) i j != -1) = true → 0 ≤ gt (shortP t) i j := fun i j hi hj h => by
    have := hp.low.low i j hi hj
    have h2 : gt (shortP t) i j ≠ -1 := by simpa using h
    omega
  have hne : ∀ i j, 0 ≤ gt (shortP t) i j → (gt (shortP t) i j != -1) = true := fun i j h => by
    have : gt (shortP t) i j ≠ -1 := by omega
    simpa using this
  have tr : ∀ i j k, i < t.length → j < t.length → k < t.length → wth (shortP t) i j = true → wth (shortP t) j k = true → wth (shortP t) i k = true := fun i j k hi hj hk h1 h2 => by
    unfold wth at h1 h2 ⊢
    rw [Bool.and_eq_true] at h1 h2 ⊢
    exact ⟨hne _ _ (hp.tri i k j hi hk hj (hlow _ _ hi hj h1.1) (hlow _ _ hj hk h2.1)).1, hne _ _ (hp.tri k i j hk hi hj (hlow _ _ hk hj h2.2) (hlow _ _ hj hi h1.2)).1⟩
  have sy : ∀ i j, wth (shortP t) i j = wth (shortP t) j i := fun i j => by unfold wth; rw [Bool.and_comm]
  have rf : ∀ i, i < t.length → wth (shortP t) i i = true := fun i hi => by
    unfold wth
    have := hp.low.dg i hi
    rw [this]
    rfl
  apply Bool.eq_iff_iff.2
  rw [reqv_iff]
  constructor
  · intro h
    have h1 := h b (by omega)
    unfold withF at h1
    simp only [ha, hb, decide_true, Bool.true_and] at h1
    rw [h1]
    exact rf b hb
  · intro h j hj
    unfold withF
    by_cases hjn : j < t.length
    · simp only [ha, hb, hjn, decide_true, Bool.true_and]
      apply Bool.eq_iff_iff.2
      exact ⟨fun h1 => tr b a j hb ha hjn (by rw [sy]; exact h) h1, fun h1 => tr a b j ha hb hjn h h1⟩
    · simp [hjn]

end Go.Proofs.Ytilhmlapbifbbaa
