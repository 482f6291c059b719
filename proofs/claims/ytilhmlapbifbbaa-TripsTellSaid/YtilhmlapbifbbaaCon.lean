/- Walks: slices.Index, slices.Contains of numbers. -/
import Derived.Test.YtilhmlapbifbbaaTriM
namespace Go.Proofs.Ytilhmlapbifbbaa
open Go.RowKit Go.Sort

def idxI (xs : List Int) (v : Int) : Int := if v ∈ xs then xs.idxOf v else -1
theorem idxI_found {xs : List Int} {v : Int} {k : Nat} (hs : ∀ j y, j < k → xs[j]? = some y → (y != v) = true) (hk : xs[k]? = some v) : idxI xs v = k := by
  have hm := List.mem_of_getElem? hk
  have hkl := (List.getElem?_eq_some_iff.1 hk).1
  unfold idxI
  rw [if_pos hm]
  have h1 : xs.idxOf v < xs.length := List.idxOf_lt_length_iff.2 hm
  have h2 : xs[xs.idxOf v]? = some v := by rw [List.getElem?_eq_getElem h1]; simp
  have h3 : ¬ xs.idxOf v < k := fun hlt => by have := hs _ _ hlt h2; simp at this
  have h4 : ¬ k < xs.idxOf v := fun hlt => by
    have := List.not_of_lt_findIdx (p := (· == v)) (xs := xs) (i := k) hlt
    rw [List.getElem?_eq_getElem hkl] at hk
    simp at hk
    simp [hk] at this
  omega
theorem idxI_none {xs : List Int} {v : Int} {k : Nat} (hk : xs.length ≤ k) (hs : ∀ j y, j < k → xs[j]? = some y → (y != v) = true) : idxI xs v = -1 := by
  unfold idxI
  rw [if_neg]
  intro hm
  obtain ⟨j, hj⟩ := List.mem_iff_getElem?.1 hm
  have := hs j v (by have := (List.getElem?_eq_some_iff.1 hj).1; omega) hj
  simp at this

set_option maxHeartbeats 400000 in
theorem idxint_any (a : Option Addr) (n c : Nat) (xs : List Int) (v : Int) (w : World) (hx : SlI .i64 w a n c xs) :
    Calls Try.prog 106 #[.slice a n c, .int .i64 v] w fun e w' => e = .returned (.int .i64 (idxI xs v)) ∧ w = w' := by
  have Hl := Lib.hid hx.len
  have hmax := hx.max
  have hle := hx.le
  have Hx := Lib.hid hx; clear hx
  go_enter Try.func106, Try.ntmps106
  go_wp2
  go_loop [8] (fun i => ∃ k : Nat, i = .int .i64 k ∧ k ≤ n ∧ Hid (∀ j y, j < k → xs[j]? = some y → (y != v) = true)) (fun i => n - (intOf i).toNat)
  case atStart => exact ⟨0, rfl, by omega, fun j y hj => by omega⟩
  case round =>
    obtain ⟨k, rfl, hk, Hs⟩ := hrel
    by_cases hlt : k < n
    · have hltI : (k : Int) < (n : Int) := by omega
      obtain ⟨b, off, rfl, hc⟩ := Hx.out.at0 (by omega)
      obtain ⟨x, hxk⟩ : ∃ x, xs[k]? = some x := ⟨_, List.getElem?_eq_getElem (by rw [Hl.out]; exact hlt)⟩
      have c1 := hc k hlt
      rw [List.getD_eq_getElem?_getD, hxk, Option.getD_some] at c1
      have Hxk := Lib.hid hxk
      clear hc hxk
      by_cases hv : v = x
      · have q : (v == x) = true := by simp [hv]
        have Hf : Hid (idxI xs v = k) := idxI_found Hs.out (by rw [hv]; exact Hxk.out)
        clear hv
        go_wp2
        go_ret
        exact ⟨ret_int Hf.out.symm, rfl⟩
      · have q : (v == x) = false := by simp [hv]
        have Hq : Hid ((x != v) = true) := by show _ = _; simp; exact fun e => hv e.symm
        clear hv
        go_wp2
        go_round
        case rel => exact ⟨k + 1, by go_num, by omega, upto_step Hs.out Hxk.out Hq.out⟩
        case measure => simp [intOf]; omega
    · have hltI : ¬ (k : Int) < (n : Int) := by omega
      have Hf : Hid (idxI xs v = -1) := idxI_none (by rw [Hl.out]; omega) Hs.out
      go_wp2
      go_ret
      exact ⟨ret_int Hf.out.symm, rfl⟩

set_option maxHeartbeats 400000 in
theorem conint_any (a : Option Addr) (n c : Nat) (xs : List Int) (v : Int) (w : World) (hx : SlI .i64 w a n c xs) :
    Calls Try.prog 77 #[.slice a n c, .int .i64 v] w fun e w' => e = .returned (.bool (decide (v ∈ xs))) ∧ w = w' := by
  have Hx := Lib.hid hx
  have H : Hid (decide (v ∈ xs) = decide (0 ≤ idxI xs v)) := by
    show _ = _
    unfold idxI
    split
    · rename_i h; simp [h]
    · rename_i h; simp [h]
  go_enter Try.func77, Try.ntmps77
  go_wp2_with fail
  refine (idxint_any a n c xs v _ Hx.out).mono ?_
  rintro e w1 ⟨rfl, rfl⟩
  go_wp2
  go_ret
  exact ⟨ret_bool (by rw [H.out]), rfl⟩

end Go.Proofs.Ytilhmlapbifbbaa
