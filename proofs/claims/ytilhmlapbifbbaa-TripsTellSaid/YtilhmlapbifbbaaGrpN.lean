/- Walks: trips.Groups, whole. -/
import Derived.Test.YtilhmlapbifbbaaGrp
namespace Go.Proofs.Ytilhmlapbifbbaa
open Go.RowKit Go.Shelf Go.Sort
attribute [local go_sem] Oper.semAt_some

set_option maxRecDepth 100000 in
set_option maxHeartbeats 400000 in
theorem grp_no (a : Option Addr) (n c : Nat) (rs : List TRow) (w : World) (hx : SlT w a n c rs) (hm : mayT (tabOf rs) = false) :
    Calls Try.prog 41 #[.slice a n c] w fun e w' => e = .returned (.tuple #[.slice none 0 0, .int .i64 2]) ∧ Below w.heap.size w w' := by
  have Hm := Lib.hid hm
  have Hx := Lib.hid hx
  clear hx hm
  refine (callsIn_wide (n := 6)).1 ?_
  refine callsIn_of_wp_marks Try.func41 rfl trivial ?_ rfl
  simp only [Try.ntmps41, List.size_toArray, List.length_cons, List.length_nil, Nat.reduceAdd, Nat.reduceSub, Array.replicate_succ, Array.replicate_zero, List.push_toArray, List.append_toArray, List.nil_append, List.cons_append]
  gi_wp2_with fail
  refine ⟨trivial, ?_⟩
  gi_at_call 37
  refine (callsIn_wide.2 (short_any a n c rs _ Hx.out)).mono ?_
  rintro e w1 ⟨v, ms, rfl, hmat, hT, hb1⟩
  have hE : trE (tabOf rs) = 2 := by unfold trE; rw [if_neg (by rw [Hm.out]; simp)]
  rw [hE]
  have hs1 := hb1.size
  obtain ⟨av, cv, rfl, hrd⟩ := hmat.reads
  clear hT hmat hE hrd
  gi_wp2
  refine ⟨.tuple #[.slice none 0 0, .int .i64 2], ?_, rfl, hb1.alloc hs1 _⟩
  simp [results, Try.f41, go_sem]

theorem groups_any (a : Option Addr) (n c : Nat) (rs : List TRow) (w : World) (hx : SlT w a n c rs) :
    Calls Try.prog 41 #[.slice a n c] w fun e w' => ∃ v ms, e = .returned (.tuple #[v, .int .i64 (groE (tabOf rs))]) ∧ Mat w.heap.size w' v ms ∧ mTab ms = (groP (tabOf rs)).map natI ∧ Below w.heap.size w w' := by
  unfold groE
  by_cases h : mayT (tabOf rs) = true
  · rw [if_pos h]
    exact grp_yes a n c rs w hx h
  · rw [if_neg h]
    refine (grp_no a n c rs w hx (by simpa using h)).mono ?_
    rintro e w' ⟨rfl, hb⟩
    exact ⟨_, [], rfl, Mat.nil _ _, by unfold groP; rw [if_neg h]; rfl, hb⟩

end Go.Proofs.Ytilhmlapbifbbaa
