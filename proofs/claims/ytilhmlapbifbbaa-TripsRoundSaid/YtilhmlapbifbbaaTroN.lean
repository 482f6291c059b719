/- Walks: the law TripsRound, whole. -/
import Derived.Test.YtilhmlapbifbbaaTro
namespace Go.Proofs.Ytilhmlapbifbbaa
open Go.RowKit Go.Sort

set_option maxRecDepth 100000 in
set_option maxHeartbeats 4000000 in
theorem tripsround_any (a : Option Addr) (n c : Nat) (rs : List TRow) (i : Int) (w : World) (hx : SlT w a n c rs) :
    Calls Try.prog 8 #[.slice a n c, .int .i64 i] w fun e w' => e = .returned (.bool true) ∧ Below w.heap.size w w' := by
  have hmax := hx.sl.max
  have hle := hx.sl.le
  have hl := hx.tlen
  have Hx := Lib.hid hx; clear hx
  by_cases hg : greatT (tabOf rs) = true
  · have Hg := Lib.hid hg
    clear hg
    go_enter Try.func8, Try.ntmps8
    go_wp2_with fail
    refine (great_any a n c rs _ Hx.out).mono ?_
    rw [Hg.out]
    rintro e w1 ⟨rfl, hb1⟩
    go_wp2_with fail
    refine (wakes32_any _).mono ?_
    rintro e w2 ⟨rfl, hb2⟩
    go_wp2
    go_ret
    exact ⟨rfl, hb1.trans (hb2.mono hb1.size)⟩
  · have Hg : Hid (greatT (tabOf rs) = false) := by show _ = _; simpa using hg
    clear hg
    by_cases hy : mayT (tabOf rs) = true ∧ 0 ≤ i ∧ i < n
    · obtain ⟨j, rfl⟩ := Int.eq_ofNat_of_zero_le hy.2.1
      exact tripsround_yes a n c rs j w Hx.out Hg.out hy.1 (by omega)
    · have He : Hid (rouE (tabOf rs) i = 2) := by show _ = _; unfold rouE; rw [hl, if_neg hy]
      have Hp : Hid (rouP (tabOf rs) i = ([], 0)) := by show _ = _; unfold rouP; rw [hl, if_neg hy]
      go_enter Try.func8, Try.ntmps8
      go_wp2_with fail
      refine (great_any a n c rs _ Hx.out).mono ?_
      rw [Hg.out]
      rintro e w1 ⟨rfl, hb1⟩
      go_wp2_with fail
      refine (round_any a n c rs i _ (Hx.out.below hb1 (Nat.le_refl _))).mono ?_
      rintro e w2 ⟨v2, he, hown, hb2⟩
      rw [Hp.out] at hown
      rw [Hp.out, He.out] at he
      subst he
      obtain ⟨al, cl, rfl, hsl⟩ := hown.reads
      have hb12 := hb1.trans (hb2.mono hb1.size)
      have Hx2 := Lib.hid (Hx.out.below hb12 (Nat.le_refl _))
      clear hown hsl hb1 hb2
      simp only [List.length_nil]
      by_cases hm : mayT (tabOf rs) = true
      · have Hm := Lib.hid hm
        by_cases h0 : i < 0
        · have d0 : decide (i < 0) = true := decide_eq_true h0
          clear hy hm
          go_wp2_with fail
          refine (refmay_tab a n c rs _ Hx2.out).mono ?_
          rw [Hm.out]
          rintro e w3 ⟨rfl, hb3⟩
          have hb13 := hb12.trans (hb3.mono hb12.size)
          go_wp2_with fail
          refine (wakes32_any _).mono ?_
          rintro e w4 ⟨rfl, hb4⟩
          go_wp2
          go_ret
          exact ⟨rfl, hb13.trans (hb4.mono hb13.size)⟩
        · have d0 : decide (i < 0) = false := decide_eq_false h0
          have d1 : decide ((n : Int) ≤ i) = true := decide_eq_true (by
            rcases Int.lt_or_le i n with h | h
            · exact absurd ⟨hm, by omega, h⟩ hy
            · exact h)
          clear hy hm
          go_wp2_with fail
          refine (refmay_tab a n c rs _ Hx2.out).mono ?_
          rw [Hm.out]
          rintro e w3 ⟨rfl, hb3⟩
          have hb13 := hb12.trans (hb3.mono hb12.size)
          go_wp2_with fail
          refine (wakes32_any _).mono ?_
          rintro e w4 ⟨rfl, hb4⟩
          go_wp2
          go_ret
          exact ⟨rfl, hb13.trans (hb4.mono hb13.size)⟩
      · have Hm : Hid (mayT (tabOf rs) = false) := by show _ = _; simpa using hm
        clear hy hm
        go_wp2_with fail
        refine (refmay_tab a n c rs _ Hx2.out).mono ?_
        rw [Hm.out]
        rintro e w3 ⟨rfl, hb3⟩
        have hb13 := hb12.trans (hb3.mono hb12.size)
        go_wp2_with fail
        refine (wakes32_any _).mono ?_
        rintro e w4 ⟨rfl, hb4⟩
        go_wp2
        go_ret
        exact ⟨rfl, hb13.trans (hb4.mono hb13.size)⟩

end Go.Proofs.Ytilhmlapbifbbaa
