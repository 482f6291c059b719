/- The law CodeNumbers: its walk. -/
import Derived.Test.YtilhmlapbifbbaaNumV
namespace Go.Proofs.Ytilhmlapbifbbaa
open Go.RowKit

set_option maxHeartbeats 400000 in
theorem wakes20_any (w : World) :
    Calls Try.prog 15 #[] w fun e w' => e = .returned (.bool true) ∧ Below w.heap.size w w' := by
  have c1 := fun w => number_any 300 w (by decide)
  have c2 := fun w => signed_any (-1) w
  rw [numL_300, numE_300] at c1
  rw [sgnL_m1, sgnE_m1] at c2
  have H1 := Lib.hid c1; clear c1
  have H2 := Lib.hid c2; clear c2
  go_enter Try.func15, Try.ntmps15
  go_wp2_with fail
  refine (H1.out _).mono ?_
  rintro e w1 ⟨v1, rfl, hown1, hb1⟩
  obtain ⟨a1, k1, rfl, hs1⟩ := hown1.reads
  have Hs1 := Lib.hid hs1
  clear hs1 hown1
  go_wp2_with fail
  refine (H2.out _).mono ?_
  rintro e w2 ⟨v2, rfl, hown2, hb2⟩
  obtain ⟨a2, k2, rfl, hs2⟩ := hown2.reads
  have Hs2 := Lib.hid hs2
  clear hs2 hown2
  go_wp2_with fail
  refine (readnumber_any (some ⟨w2.heap.size, 0, none⟩) 3 3 [172, 2, 9] _ (SlI.lits w2 [172, 2, 9] 5 (by decide)) (by decide)).mono ?_
  rw [rdN_a]
  rintro e w3 ⟨rfl, hw3⟩
  have hb3 : Below w2.heap.size w2 w3 := by rw [← hw3]; exact (Below.refl _ _).alloc (Nat.le_refl _) _
  clear hw3
  go_wp2_with fail
  refine (readnumber_any (some ⟨w3.heap.size, 0, none⟩) 2 2 [128, 0] _ (SlI.lits w3 [128, 0] 5 (by decide)) (by decide)).mono ?_
  rw [rdN_b]
  rintro e w4 ⟨rfl, hw4⟩
  have hb4 : Below w3.heap.size w3 w4 := by rw [← hw4]; exact (Below.refl _ _).alloc (Nat.le_refl _) _
  clear hw4
  have hbA : Below w2.heap.size w2 w4 := hb3.trans (hb4.mono hb3.size)
  have hbB : Below w1.heap.size w1 w4 := hb2.trans (hbA.mono hb2.size)
  obtain ⟨b1, o1, rfl, f1⟩ := (Hs1.out.below hbB (Nat.le_refl _)).at0 (by decide)
  obtain ⟨b2, o2, rfl, f2⟩ := (Hs2.out.below hbA (Nat.le_refl _)).at0 (by decide)
  have g1 : w4.cell? ⟨b1, o1, none⟩ = some (.int .u8 172) := f1 0 (by decide)
  have g2 : w4.cell? ⟨b1, o1 + 1, none⟩ = some (.int .u8 2) := f1 1 (by decide)
  have g3 : w4.cell? ⟨b2, o2, none⟩ = some (.int .u8 1) := f2 0 (by decide)
  have hB : Below w.heap.size w w4 := hb1.trans (hbB.mono hb1.size)
  clear f1 f2 hbA hbB hb1 hb2 hb3 hb4 H1 H2 Hs1 Hs2
  go_wp2
  go_ret
  exact ⟨rfl, hB⟩

set_option maxHeartbeats 400000 in
theorem codenumbers_any (n : Int) (a : Option Addr) (m c : Nat) (xs : List Int) (w : World) (hn : n ≤ 9223372036854775807) (hx : SlI .u8 w a m c xs) (hr : ∀ x ∈ xs, 0 ≤ x ∧ x ≤ 255) :
    Calls Try.prog 3 #[.int .i64 n, .slice a m c] w fun e w' => e = .returned (.bool true) ∧ Below w.heap.size w w' := by
  have hle := hx.le
  have hmax := hx.max
  by_cases hm : 1000 < m
  · have hm' : (1000 : Int) < (m : Int) := by omega
    go_enter Try.func3, Try.ntmps3
    go_wp2_with fail
    refine (wakes20_any _).mono ?_
    rintro e w1 ⟨rfl, hb1⟩
    go_wp2
    go_ret
    exact ⟨rfl, hb1⟩
  · have hm' : ¬ (1000 : Int) < (m : Int) := by omega
    have Hx := Lib.hid hx; clear hx
    have Hr := Lib.hid hr; clear hr
    go_enter Try.func3, Try.ntmps3
    go_wp2_with fail
    refine (number_any n _ hn).mono ?_
    rintro e w1 ⟨v1, rfl, hown, hb1⟩
    obtain ⟨a1, k1, rfl, hs1⟩ := hown.reads
    have Hs1 := Lib.hid hs1
    clear hs1 hown
    go_wp2_with fail
    refine (refnumber_any n _ hn).mono ?_
    rintro e w2 ⟨v2, rfl, hown, hb2⟩
    obtain ⟨a2, k2, rfl, hs2⟩ := hown.reads
    have Hs2 := Lib.hid hs2
    clear hs2 hown
    go_wp2_with fail
    refine (signed_any n _).mono ?_
    rintro e w3 ⟨v3, rfl, hown, hb3⟩
    obtain ⟨a3, k3, rfl, hs3⟩ := hown.reads
    have Hs3 := Lib.hid hs3
    clear hs3 hown
    go_wp2_with fail
    refine (refsigned_any n _).mono ?_
    rintro e w4 ⟨v4, rfl, hown, hb4⟩
    obtain ⟨a4, k4, rfl, hs4⟩ := hown.reads
    have Hs4 := Lib.hid hs4
    clear hs4 hown
    have hbB : Below w3.heap.size w3 w4 := hb4
    have hbC : Below w2.heap.size w2 w4 := hb3.trans (hbB.mono hb3.size)
    have hbD : Below w1.heap.size w1 w4 := hb2.trans (hbC.mono hb2.size)
    have hbE : Below w.heap.size w w4 := hb1.trans (hbD.mono hb1.size)
    go_wp2_with fail
    refine (readnumber_any a m c xs _ (Hx.out.below hbE (Nat.le_refl _)) Hr.out).mono ?_
    rintro e w5 ⟨rfl, rfl⟩
    go_wp2_with fail
    refine (refreadnumber_any a m c xs _ (Hx.out.below hbE (Nat.le_refl _)) Hr.out).mono ?_
    rintro e w5 ⟨rfl, rfl⟩
    go_wp2_with fail
    refine (bytes_any a1 a2 _ k1 _ k2 _ _ _ (Hs1.out.below hbD (Nat.le_refl _)) (Hs2.out.below hbC (Nat.le_refl _))).mono ?_
    rintro e w5 ⟨rfl, q, rfl⟩
    rw [decide_eq_true (rfl : numL n = numL n)]
    go_wp2_with fail
    refine (bytes_any a3 a4 _ k3 _ k4 _ _ _ ((Hs3.out.below hbB (Nat.le_refl _)).drewN q) (Hs4.out.drewN q)).mono ?_
    rintro e w5 ⟨rfl, q2, hw5⟩
    have hbF : Below w.heap.size w w5 := by rw [hw5]; exact below_drewN (below_drewN hbE _) _
    clear hw5
    rw [decide_eq_true (rfl : sgnL n = sgnL n)]
    go_wp2_with fail
    refine (wakes20_any _).mono ?_
    rintro e w6 ⟨rfl, hb6⟩
    have hB := hbF.trans (hb6.mono hbF.size)
    go_wp2
    go_ret
    exact ⟨rfl, hB⟩

end Go.Proofs.Ytilhmlapbifbbaa
