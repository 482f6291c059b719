/- The law CodeNumbers: its walk. -/
import Derived.Test.YtgfmdgiepomkiaaNumV
namespace Go.Proofs.Ytgfmdgiepomkiaa
open Go.RowKit

set_option maxHeartbeats 400000 in
theorem wakes20_any (w : World) :
    Calls Try.prog 7 #[] w fun e w' => e = .returned (.bool true) ∧ Below w.heap.size w w' := by
  have c1 := fun w => number_any 300 w (by decide)
  have c2 := fun w => signed_any (-1) w
  rw [numL_300, numE_300] at c1
  rw [sgnL_m1, sgnE_m1] at c2
  have H1 := Lib.hid c1; clear c1
  have H2 := Lib.hid c2; clear c2
  go_enter Try.func7, Try.ntmps7
  go_wp2_with fail
  refine (H1.out _).mono ?_
  rintro e w1 ⟨v1, rfl, hown1, hb1⟩
  obtain ⟨a1, k1, rfl, hs1⟩ := hown1.reads
  have Hs1 := Lib.hid hs1
  clear hs1 hown1
  go_wp2_with fail
  refine (H2.out _).mono ?_
  rintro e w2 ⟨v2, rfl, hown2, hb2⟩
  obtain ⟨a2, k2, rfl, hs2⟩ := hown2.reads
  have Hs2 := Lib.hid hs2
  clear hs2 hown2
  go_wp2_with fail
  refine (readnumber_any (some ⟨w2.heap.size, 0, none⟩) 3 3 [172, 2, 9] _ (SlI.lits w2 [172, 2, 9] 5 (by decide)) (by decide)).mono ?_
  rw [rdN_a]
  rintro e w3 ⟨rfl, hw3⟩
  have hb3 : Below w2.heap.size w2 w3 := by rw [← hw3]; exact (Below.refl _ _).alloc (Nat.le_refl _) _
  clear hw3
  go_wp2_with fail
  refine (readnumber_any (some ⟨w3.heap.size, 0, none⟩) 2 2 [128, 0] _ (SlI.lits w3 [128, 0] 5 (by decide)) (by decide)).mono ?_
  rw [rdN_b]
  rintro e w4 ⟨rfl, hw4⟩
  have hb4 : Below w3.heap.size w3 w4 := by rw [← hw4]; exact (Below.refl _ _).alloc (Nat.le_refl _) _
  clear hw4
  have hbA : Below w2.heap.size w2 w4 := hb3.trans (hb4.mono hb3.size)
  have hbB : Below w1.heap.size w1 w4 := hb2.trans (hbA.mono hb2.size)
  obtain ⟨b1, o1, rfl, f1⟩ := (Hs1.out.below hbB (Nat.le_refl _)).at0 (by decide)
  obtain ⟨b2, o2, rfl, f2⟩ := (Hs2.out.below hbA (Nat.le_refl _)).at0 (by decide)
  have g1 : w4.cell? ⟨b1, o1, none⟩ = some (.int .u8 172) := f1 0 (by decide)
  have g2 : w4.cell? ⟨b1, o1 + 1, none⟩ = some (.int .u8 2) := f1 1 (by decide)
  have g3 : w4.cell? ⟨b2, o2, none⟩ = some (.int .u8 1) := f2 0 (by decide)
  have hB : Below w.heap.size w w4 := hb1.trans (hbB.mono hb1.size)
  clear f1 f2 hbA hbB hb1 hb2 hb3 hb4 H1 H2 Hs1 Hs2
  go_wp2
  go_ret
  exact ⟨rfl, hB⟩

end Go.Proofs.Ytgfmdgiepomkiaa
