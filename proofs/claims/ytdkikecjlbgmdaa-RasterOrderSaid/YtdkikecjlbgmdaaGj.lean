/- Walks: spans. -/
import Derived.Test.YtdkikecjlbgmdaaGa
import Derived.Test.YtdkikecjlbgmdaaGb
import Derived.Test.YtdkikecjlbgmdaaGp
import Derived.Test.YtdkikecjlbgmdaaGo
import Derived.Outline
namespace Go.Proofs.Ytdkikecjlbgmdaa
open Go.RowKit

set_option maxHeartbeats 400000 in
theorem may_any (lo hi : Int) (wk : Bool) (w : World) :
    Calls Try.prog 24 #[.agg #[.int .i64 lo, .int .i64 hi, .bool wk]] w fun e w' => e = .returned (.bool (mayS ⟨lo, hi, wk⟩)) ∧ Below w.heap.size w w' := by
  have hB : Below w.heap.size w (w.alloc (.cells #[.int .i64 lo, .int .i64 hi, .bool wk] 40)) := (Below.refl _ _).alloc (Nat.le_refl _) _
  obtain ⟨r, hr⟩ : ∃ r, r = mayS ⟨lo, hi, wk⟩ := ⟨_, rfl⟩
  rw [← hr]
  by_cases h1 : lo ≤ hi
  · by_cases h2 : -2048 ≤ lo
    · by_cases h3 : hi ≤ 2048
      · obtain rfl : r = true := by rw [hr]; simp [mayS]; omega
        clear hr
        go_enter Try.func24, Try.ntmps24
        go_wp2
        go_ret
        exact ⟨rfl, hB⟩
      · obtain rfl : r = false := by rw [hr]; simp [mayS]; omega
        clear hr
        go_enter Try.func24, Try.ntmps24
        go_wp2
        go_ret
        exact ⟨rfl, hB⟩
    · obtain rfl : r = false := by rw [hr]; simp [mayS]; omega
      clear hr
      go_enter Try.func24, Try.ntmps24
      go_wp2
      go_ret
      exact ⟨rfl, hB⟩
  · obtain rfl : r = false := by rw [hr]; simp [mayS]; omega
    clear hr
    go_enter Try.func24, Try.ntmps24
    go_wp2
    go_ret
    exact ⟨rfl, hB⟩

end Go.Proofs.Ytdkikecjlbgmdaa

namespace Go.Proofs.Ytdkikecjlbgmdaa
open Go.RowKit

theorem ret_spn {a a' b b' : Int} {c c' : Bool} (h1 : a = a') (h2 : b = b') (h3 : c = c') : Ending.returned (.agg #[.int .i64 a, .int .i64 b, .bool c]) = Ending.returned (.agg #[.int .i64 a', .int .i64 b', .bool c']) := by rw [h1, h2, h3]
theorem join_wk {p : Bool} {x y : Int} {aw bw : Bool} (h : ∀ m, x ≤ m → y ≤ m → (m = x ∨ m = y) → (p = true ↔ (aw = true ∧ x = m ∨ bw = true ∧ y = m))) : p = (aw && decide (x = max x y) || bw && decide (y = max x y)) := by
  rw [Bool.eq_iff_iff]
  simp only [Bool.or_eq_true, Bool.and_eq_true, decide_eq_true_eq]
  exact h _ (by omega) (by omega) (by omega)
theorem info_spn : (Try.prog.info? 40).map (fun i => (i.zero, i.size, i.bytes)) = some (some (.agg #[.int .i64 0, .int .i64 0, .bool false]), 3, 24) := by kernel_rfl
theorem spnC_len (x : Spn) : (spnC x).length = 3 := rfl
theorem spnC_one (x : Spn) : ∀ u ∈ spnC x, u.oneCell' = true := by intro u hu; simp [spnC] at hu; rcases hu with rfl | rfl | rfl <;> rfl
/-- Where put stands. -/
def PutAt (s : Spn) (n : Nat) (xs : List Spn) (w : World) (v d i : Value) (wr : World) : Prop :=
  ∃ (k : Nat) (st : PSt), i = .int .i64 k ∧ k ≤ n ∧ Hid (st = (xs.take k).foldl pstep ([], s, false)) ∧ d = .bool st.2.2 ∧ OwnR spnC 3 40 (w.heap.size + 1) wr v st.1.length st.1 ∧ wr.heap[w.heap.size]? = some (.cells #[.int .i64 st.2.1.lo, .int .i64 st.2.1.hi, .bool st.2.1.walk] 40 (0, 0)) ∧ Below w.heap.size w wr
end Go.Proofs.Ytdkikecjlbgmdaa

namespace Go.Proofs.Ytdkikecjlbgmdaa
open Go.RowKit

/-- Where the reference's Merge stands. -/
def MrAt (n : Nat) (xs : List Spn) (w : World) (v i : Value) (wr : World) : Prop :=
  ∃ (k : Nat) (ys : List Spn), i = .int .i64 k ∧ k ≤ n ∧ Hid (mayAll (xs.take k) = true) ∧ Hid (ys = mrgL (xs.take k)) ∧ OwnR spnC 3 40 w.heap.size wr v ys.length ys ∧ Below w.heap.size w wr
def mrgPost (xs : List Spn) (w : World) (e : Ending) (w' : World) : Prop :=
  ∃ v, e = .returned (.tuple #[v, .int .i64 (mrgE xs)]) ∧ OwnR spnC 3 40 w.heap.size w' v (mrgR xs).length (mrgR xs) ∧ Below w.heap.size w w'

set_option maxHeartbeats 1000000 in
theorem join_any (a b : Spn) (w : World) :
    Calls Try.prog 29 #[.agg #[.int .i64 a.lo, .int .i64 a.hi, .bool a.walk], .agg #[.int .i64 b.lo, .int .i64 b.hi, .bool b.walk]] w fun e w' => e = .returned (.agg #[.int .i64 (joinS a b).lo, .int .i64 (joinS a b).hi, .bool (joinS a b).walk]) ∧ Below w.heap.size w w' := by
  have hj1 : (joinS a b).lo = min a.lo b.lo := rfl
  have hj2 : (joinS a b).hi = max a.hi b.hi := rfl
  have hj3 : (joinS a b).walk = ((a.walk && decide (a.hi = max a.hi b.hi)) || (b.walk && decide (b.hi = max a.hi b.hi))) := rfl
  generalize joinS a b = j at hj1 hj2 hj3 ⊢
  have J1 := Lib.hid hj1
  have J2 := Lib.hid hj2
  have J3 := Lib.hid hj3
  clear hj1 hj2 hj3
  obtain ⟨alo, ahi, aw⟩ := a
  obtain ⟨blo, bhi, bw⟩ := b
  rcases Int.lt_trichotomy ahi bhi with hh | hh | hh
  rotate_left
  · subst hh
    cases aw <;> cases bw
    all_goals
      go_enter Try.func29, Try.ntmps29
      go_wp2
    all_goals
      refine bodyPost_ret (v := _) (by simp [results, Try.results29, go_sem]; rfl) rfl ⟨?_, by repeat (first | exact Below.refl _ _ | refine Below.alloc ?_ (by simp; try omega) _)⟩
      refine ret_spn (by rw [J1.out]; omega) (by rw [J2.out]; omega) ?_
      rw [J3.out]
      refine join_wk ?_
      clear J1 J2 J3
      grind
  all_goals
    have h1 : (ahi == bhi) = false := by simp; omega
    have h2 : (bhi == ahi) = false := by simp; omega
    have h3 : ¬ ahi = bhi := by omega
    cases aw <;> cases bw
    all_goals
      go_enter Try.func29, Try.ntmps29
      go_wp2
    all_goals
      refine bodyPost_ret (v := _) (by simp [results, Try.results29, go_sem]; rfl) rfl ⟨?_, by repeat (first | exact Below.refl _ _ | refine Below.alloc ?_ (by simp; try omega) _)⟩
      refine ret_spn (by rw [J1.out]; omega) (by rw [J2.out]; omega) ?_
      rw [J3.out]
      refine join_wk ?_
      clear J1 J2 J3
      grind
set_option maxHeartbeats 400000 in
theorem notmay_any (x : Spn) (w : World) :
    Calls Try.prog 23 #[.agg #[.int .i64 x.lo, .int .i64 x.hi, .bool x.walk]] w fun e w' => e = .returned (.bool (!mayS x)) ∧ Below w.heap.size w w' := by
  obtain ⟨r, hr⟩ : ∃ r, r = mayS x := ⟨_, rfl⟩
  rw [← hr]
  obtain ⟨xlo, xhi, xwk⟩ := x
  have Hm := may_any xlo xhi xwk
  rw [← hr] at Hm
  have Hm' := Lib.hid Hm
  clear Hm hr
  go_enter Try.func23, Try.ntmps23
  go_wp2_with fail
  refine (Hm'.out _).mono ?_
  rintro e w2 ⟨rfl, hbm⟩
  have hb := ((Below.refl w.heap.size w).alloc (Nat.le_refl _) (.cells #[.int .i64 xlo, .int .i64 xhi, .bool xwk] 40)).trans (hbm.mono (by simp))
  go_wp2
  go_ret
  exact ⟨rfl, hb⟩

end Go.Proofs.Ytdkikecjlbgmdaa
