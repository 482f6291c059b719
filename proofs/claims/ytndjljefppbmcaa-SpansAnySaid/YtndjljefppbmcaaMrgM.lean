/- Walks: the reference's Merge; the program's join and closures. -/
import Derived.Test.YtndjljefppbmcaaMrgR
import Derived.Test.YtndjljefppbmcaaMrgQ
namespace Go.Proofs.Ytndjljefppbmcaa
open Go.RowKit

/-- Where the reference's Merge stands. -/
def MrAt (n : Nat) (xs : List Spn) (w : World) (v i : Value) (wr : World) : Prop :=
  ∃ (k : Nat) (ys : List Spn), i = .int .i64 k ∧ k ≤ n ∧ Hid (mayAll (xs.take k) = true) ∧ Hid (ys = mrgL (xs.take k)) ∧ OwnR spnC 3 28 w.heap.size wr v ys.length ys ∧ Below w.heap.size w wr
def mrgPost (xs : List Spn) (w : World) (e : Ending) (w' : World) : Prop :=
  ∃ v, e = .returned (.tuple #[v, .int .i64 (mrgE xs)]) ∧ OwnR spnC 3 28 w.heap.size w' v (mrgR xs).length (mrgR xs) ∧ Below w.heap.size w w'

set_option maxRecDepth 100000 in
set_option maxHeartbeats 2000000 in
theorem refmerge_any (a : Option Addr) (n c : Nat) (xs : List Spn) (w : World) (hx : SlSp w a n c xs) (hn : n ≤ 100000) :
    Calls Try.prog 15 #[.slice a n c] w (mrgPost xs w) := by
  have Hl := Lib.hid hx.len
  have hmax := hx.max
  have hle := hx.le
  have Hx := Lib.hid hx; clear hx
  go_enter Try.func15, Try.ntmps15
  go_wp2
  go_loopw [4, 5] (fun v i wr => MrAt n xs w v i wr) (fun _ i _ => n - (intOf i).toNat)
  case atStart => exact ⟨0, [], rfl, Nat.zero_le _, rfl, rfl, OwnR.nil _ _ _ _ _, Below.refl _ _⟩
  case round =>
    obtain ⟨k, ys, rfl, hk, Hma, Hys, hown, hb⟩ := hrel
    have hyl : ys.length ≤ k := by
      have h1 := mrgL_len (xs.take k)
      have h2 := List.length_take_le k xs
      rw [← Hys.out] at h1
      omega
    by_cases hlt : k < n
    · obtain ⟨b, off, rfl, hbl, hc⟩ := (Hx.out.below hb (Nat.le_refl _)).at0 (by omega)
      obtain ⟨x, hxk⟩ : ∃ x, xs[k]? = some x := ⟨_, List.getElem?_eq_getElem (by rw [Hl.out]; exact hlt)⟩
      obtain ⟨c1, c2, c3⟩ := SlSp.cells hc hxk
      have Hxk := Lib.hid hxk
      obtain ⟨r, hr⟩ : ∃ r, Hid (r = mayS x) := ⟨_, rfl⟩
      obtain ⟨xlo, xhi, xwk⟩ := x
      have Hm := refmay_any xlo xhi xwk
      rw [← hr.out] at Hm
      have Hm' := Lib.hid Hm
      clear hc hxk Hm
      simp only at c1 c2 c3
      go_wp2_with fail
      refine (Hm'.out _).mono ?_
      rintro e w2 ⟨rfl, hbm⟩
      have d1 := hbc hbm c1
      have d2 := hbc hbm c2
      have d3 := hbc hbm c3
      have hown2 := hown.below hbm (Nat.le_refl _)
      have hb2 := hb.trans (hbm.mono hb.size)
      clear Hm' hbm hown hb c1 c2 c3
      cases r with
      | false =>
        have HB : Hid (mayAll xs = false) := mayAll_bad Hxk.out hr.out.symm
        go_wp2
        go_ret2
        unfold mrgPost
        rw [mrgR_not HB.out, mrgE_not HB.out]
        exact ⟨_, rfl, OwnR.nil _ _ _ _ _, hb2⟩
      | true =>
        obtain ⟨av, cv, rfl, hsl⟩ := OwnR.reads spnC_len hown2
        have HP := Lib.hid (refput_any av ys.length cv ys ⟨xlo, xhi, xwk⟩ w2 hsl (by omega))
        have HM2 : Hid (mayAll (xs.take (k + 1)) = true) := by show _ = _; rw [mayAll_take Hxk.out, Hma.out, ← hr.out]; rfl
        have HY : Hid (putG ys ⟨xlo, xhi, xwk⟩ = mrgL (xs.take (k + 1))) := by show _ = _; rw [Hys.out]; exact ref_step Hxk.out Hma.out hr.out.symm
        clear hsl hr Hma Hys Hxk
        go_wp2_with fail
        refine HP.out.mono ?_
        rintro e w3 ⟨v3, rfl, hown3, hb3⟩
        have hown3' := hown3.mono hb2.size
        have hb3' := hb2.trans (hb3.mono hb2.size)
        clear HP hown3 hb3 hown2 hb2 d1 d2 d3
        go_wp2
        go_roundw
        case rel => exact ⟨k + 1, _, by go_num, by omega, HM2, HY, hown3', hb3'⟩
        case measure => simp [intOf]; omega
    · obtain rfl : k = n := by omega
      have HT : Hid (xs.take k = xs) := List.take_of_length_le (by rw [Hl.out]; exact Nat.le_refl _)
      rw [HT.out] at Hma Hys
      go_wp2
      go_ret2
      unfold mrgPost
      rw [mrgR_of Hma.out, mrgE_of Hma.out, ← Hys.out]
      exact ⟨_, rfl, hown, hb⟩
set_option maxHeartbeats 1000000 in
theorem join_any (a b : Spn) (w : World) :
    Calls Try.prog 48 #[.agg #[.int .i64 a.lo, .int .i64 a.hi, .bool a.walk], .agg #[.int .i64 b.lo, .int .i64 b.hi, .bool b.walk]] w fun e w' => e = .returned (.agg #[.int .i64 (joinS a b).lo, .int .i64 (joinS a b).hi, .bool (joinS a b).walk]) ∧ Below w.heap.size w w' := by
  have hj1 : (joinS a b).lo = min a.lo b.lo := rfl
  have hj2 : (joinS a b).hi = max a.hi b.hi := rfl
  have hj3 : (joinS a b).walk = ((a.walk && decide (a.hi = max a.hi b.hi)) || (b.walk && decide (b.hi = max a.hi b.hi))) := rfl
  generalize joinS a b = j at hj1 hj2 hj3 ⊢
  have J1 := Lib.hid hj1
  have J2 := Lib.hid hj2
  have J3 := Lib.hid hj3
  clear hj1 hj2 hj3
  obtain ⟨alo, ahi, aw⟩ := a
  obtain ⟨blo, bhi, bw⟩ := b
  rcases Int.lt_trichotomy ahi bhi with hh | hh | hh
  rotate_left
  · subst hh
    cases aw <;> cases bw
    all_goals
      go_enter Try.func48, Try.ntmps48
      go_wp2
    all_goals
      refine bodyPost_ret (v := _) (by simp [results, Try.results48, go_sem]; rfl) rfl ⟨?_, by repeat (first | exact Below.refl _ _ | refine Below.alloc ?_ (by simp; try omega) _)⟩
      refine ret_spn (by rw [J1.out]; omega) (by rw [J2.out]; omega) ?_
      rw [J3.out]
      refine join_wk ?_
      clear J1 J2 J3
      grind
  all_goals
    have h1 : (ahi == bhi) = false := by simp; omega
    have h2 : (bhi == ahi) = false := by simp; omega
    have h3 : ¬ ahi = bhi := by omega
    cases aw <;> cases bw
    all_goals
      go_enter Try.func48, Try.ntmps48
      go_wp2
    all_goals
      refine bodyPost_ret (v := _) (by simp [results, Try.results48, go_sem]; rfl) rfl ⟨?_, by repeat (first | exact Below.refl _ _ | refine Below.alloc ?_ (by simp; try omega) _)⟩
      refine ret_spn (by rw [J1.out]; omega) (by rw [J2.out]; omega) ?_
      rw [J3.out]
      refine join_wk ?_
      clear J1 J2 J3
      grind
set_option maxHeartbeats 400000 in
theorem notmay_any (x : Spn) (w : World) :
    Calls Try.prog 42 #[.agg #[.int .i64 x.lo, .int .i64 x.hi, .bool x.walk]] w fun e w' => e = .returned (.bool (!mayS x)) ∧ Below w.heap.size w w' := by
  obtain ⟨r, hr⟩ : ∃ r, r = mayS x := ⟨_, rfl⟩
  rw [← hr]
  obtain ⟨xlo, xhi, xwk⟩ := x
  have Hm := may_any xlo xhi xwk
  rw [← hr] at Hm
  have Hm' := Lib.hid Hm
  clear Hm hr
  go_enter Try.func42, Try.ntmps42
  go_wp2_with fail
  refine (Hm'.out _).mono ?_
  rintro e w2 ⟨rfl, hbm⟩
  have hb := ((Below.refl w.heap.size w).alloc (Nat.le_refl _) (.cells #[.int .i64 xlo, .int .i64 xhi, .bool xwk] 28)).trans (hbm.mono (by simp))
  go_wp2
  go_ret
  exact ⟨rfl, hb⟩

end Go.Proofs.Ytndjljefppbmcaa
