/- Walks: trips.Short, whole. -/
import Derived.Test.YtilhmlapbifbbaaShort
namespace Go.Proofs.Ytilhmlapbifbbaa
open Go.RowKit Go.Shelf Go.Sort
attribute [local go_sem] Oper.semAt_some

def trE (t : List (List Int)) : Int := if mayT t then 0 else 2
def shT (t : List (List Int)) : List (List Int) := if mayT t then shortP t else []

set_option maxRecDepth 100000 in
set_option maxHeartbeats 400000 in
theorem short_no (a : Option Addr) (n c : Nat) (rs : List TRow) (w : World) (hx : SlT w a n c rs) (hm : mayT (tabOf rs) = false) :
    Calls Try.prog 37 #[.slice a n c] w fun e w' => e = .returned (.tuple #[.slice none 0 0, .int .i64 2]) ∧ Below w.heap.size w w' := by
  have Hm := Lib.hid hm
  have Hx := Lib.hid hx
  clear hx hm
  refine (callsIn_wide (n := 5)).1 ?_
  refine callsIn_of_wp_marks Try.func37 rfl trivial ?_ rfl
  simp only [Try.ntmps37, List.size_toArray, List.length_cons, List.length_nil, Nat.reduceAdd, Nat.reduceSub, Array.replicate_succ, Array.replicate_zero, List.push_toArray, List.append_toArray, List.nil_append, List.cons_append]
  gi_wp2_with fail
  refine ⟨trivial, ?_⟩
  gi_at_call 38
  refine (callsIn_wide.2 (may_tab a n c rs _ Hx.out)).mono ?_
  rw [Hm.out]
  rintro e w1 ⟨rfl, hb1⟩
  gi_wp2
  refine ⟨.tuple #[.slice none 0 0, .int .i64 2], ?_, rfl, hb1⟩
  simp [results, Try.f37, go_sem]

theorem short_any (a : Option Addr) (n c : Nat) (rs : List TRow) (w : World) (hx : SlT w a n c rs) :
    Calls Try.prog 37 #[.slice a n c] w fun e w' => ∃ v ms, e = .returned (.tuple #[v, .int .i64 (trE (tabOf rs))]) ∧ Mat w.heap.size w' v ms ∧ mTab ms = shT (tabOf rs) ∧ Below w.heap.size w w' := by
  unfold trE shT
  by_cases h : mayT (tabOf rs) = true
  · rw [if_pos h, if_pos h]
    exact short_yes a n c rs w hx h
  · rw [if_neg h, if_neg h]
    refine (short_no a n c rs w hx (by simpa using h)).mono ?_
    rintro e w' ⟨rfl, hb⟩
    exact ⟨_, [], rfl, Mat.nil _ _, rfl, hb⟩

end Go.Proofs.Ytilhmlapbifbbaa
