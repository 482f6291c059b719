/- Walks: what the document says of three columns. -/
import Derived.Test.YtndjljefppbmcaaClpV
namespace Go.Proofs.Ytndjljefppbmcaa
open Go.RowKit

theorem wk0 : overE ⟨0, 0, 0⟩ ⟨2, 2, 0⟩ ⟨0, 0, 2⟩ 0 0 = (0, 1, true, 0) := by decide
theorem wk1 : overE ⟨0, 0, 0⟩ ⟨2, 2, 0⟩ ⟨0, 0, 2⟩ 1 0 = (1, 2, true, 0) := by decide
theorem wk2 : overE ⟨0, 0, 0⟩ ⟨2, 2, 0⟩ ⟨0, 0, 2⟩ 1 1 = (1, 1, true, 0) := by decide
theorem wk3 : overE ⟨0, 0, 0⟩ ⟨2, 2, 0⟩ ⟨0, 0, 2⟩ 2 2 = (0, 0, false, 0) := by decide
set_option maxHeartbeats 1000000 in
theorem half_any (w : World) : Calls Try.prog 70 #[] w fun e w' => e = .returned (tiA 1 ⟨0, 0, 0⟩ ⟨2, 2, 0⟩ ⟨0, 0, 2⟩) ∧ Below w.heap.size w w' := by
  have hB : Below w.heap.size w (w.alloc (.cells #[.int .i64 1, .int .i64 0, .int .i64 0, .int .i64 0, .int .i64 2, .int .i64 2, .int .i64 0, .int .i64 0, .int .i64 0, .int .i64 2] 65)) := (Below.refl _ _).alloc (Nat.le_refl _) _
  go_enter Try.func70, Try.ntmps70
  go_wp2
  refine bodyPost_ret (by simp [results, Try.results70, go_sem]; try rfl) rfl ?_
  exact ⟨rfl, hB⟩
theorem wkover (x z lo hi e : Int) (ok : Bool) (h : overE ⟨0, 0, 0⟩ ⟨2, 2, 0⟩ ⟨0, 0, 2⟩ x z = (lo, hi, ok, e)) (w : World) :
    Calls Try.prog 34 #[tiA 1 ⟨0, 0, 0⟩ ⟨2, 2, 0⟩ ⟨0, 0, 2⟩, .int .i64 x, .int .i64 z] w fun e' w' => e' = .returned (.tuple #[.int .i64 lo, .int .i64 hi, .bool ok, .int .i64 e]) ∧ Below w.heap.size w w' := by
  have := overE_any 1 ⟨0, 0, 0⟩ ⟨2, 2, 0⟩ ⟨0, 0, 2⟩ x z w
  rw [h] at this
  exact this
set_option maxRecDepth 100000 in
set_option maxHeartbeats 4000000 in
theorem wakes07_any (w : World) : Calls Try.prog 33 #[] w fun e w' => e = .returned (.bool true) ∧ Below w.heap.size w w' := by
  have H := Lib.hid (fun W => half_any W)
  have O0 := Lib.hid (fun W => wkover 0 0 0 1 0 true wk0 W)
  have O1 := Lib.hid (fun W => wkover 1 0 1 2 0 true wk1 W)
  have O2 := Lib.hid (fun W => wkover 1 1 1 1 0 true wk2 W)
  have O3 := Lib.hid (fun W => wkover 2 2 0 0 0 false wk3 W)
  go_enter Try.func33, Try.ntmps33
  go_wp2_with fail
  refine (H.out _).mono ?_
  rintro e w1 ⟨rfl, hb1⟩
  go_wp2_with fail
  refine (O0.out _).mono ?_
  rintro e w2 ⟨rfl, hb2⟩
  have hB2 := hb1.trans (hb2.mono hb1.size)
  clear hb1 hb2
  go_wp2_with fail
  refine (H.out _).mono ?_
  rintro e w3 ⟨rfl, hb3⟩
  go_wp2_with fail
  refine (O1.out _).mono ?_
  rintro e w4 ⟨rfl, hb4⟩
  have hB3 := hB2.trans (hb3.mono hB2.size)
  have hB4 := hB3.trans (hb4.mono hB3.size)
  clear hB2 hB3 hb3 hb4
  go_wp2_with fail
  refine (H.out _).mono ?_
  rintro e w5 ⟨rfl, hb5⟩
  go_wp2_with fail
  refine (O2.out _).mono ?_
  rintro e w6 ⟨rfl, hb6⟩
  have hB5 := hB4.trans (hb5.mono hB4.size)
  have hB6 := hB5.trans (hb6.mono hB5.size)
  clear hB4 hB5 hb5 hb6
  go_wp2_with fail
  refine (H.out _).mono ?_
  rintro e w7 ⟨rfl, hb7⟩
  go_wp2_with fail
  refine (O3.out _).mono ?_
  rintro e w8 ⟨rfl, hb8⟩
  have hB7 := hB6.trans (hb7.mono hB6.size)
  have hB8 := hB7.trans (hb8.mono hB7.size)
  clear hB6 hB7 hb7 hb8
  go_wp2
  go_ret
  exact ⟨rfl, hB8⟩
end Go.Proofs.Ytndjljefppbmcaa
