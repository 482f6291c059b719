/- Walks: the reference's Same at two rows that read the same; wakes; the law SpansMerge. -/
import Derived.Test.YtndjljefppbmcaaMrgW
namespace Go.Proofs.Ytndjljefppbmcaa
open Go.RowKit

theorem SlSp.lit (w : World) (l : List Spn) (e : TypeId) (hl : l.length ≤ 9223372036854775807) : SlSp (w.alloc (.cells (l.flatMap spnC).toArray e)) (some ⟨w.heap.size, 0, none⟩) l.length l.length l := by
  refine ⟨rfl, Nat.le_refl _, hl, .inr ⟨w.heap.size, 0, rfl, by simp, fun i x hx j v hv => ?_⟩⟩
  rw [World.cell?_alloc_at _ _ _ _ rfl]
  have := flatMap_at spnC_len l i x j v hx hv
  rw [Nat.zero_add]
  simpa using this

set_option maxHeartbeats 1000000 in
theorem refsame_self (a b : Option Addr) (n c d : Nat) (xs : List Spn) (w : World) (hx : SlSp w a n c xs) (hy : SlSp w b n d xs) :
    Calls Try.prog 16 #[.slice a n c, .slice b n d] w fun e w' => e = .returned (.bool true) ∧ Below w.heap.size w w' := by
  have Hl := Lib.hid hx.len
  have hmax := hx.max
  have hle := hx.le
  have Hx := Lib.hid hx; clear hx
  have Hy := Lib.hid hy; clear hy
  go_enter Try.func16, Try.ntmps16
  go_wp2
  go_loopw [5] (fun i wr => ∃ k : Nat, i = .int .i64 k ∧ k ≤ n ∧ Below w.heap.size w wr) (fun i _ => n - (intOf i).toNat)
  case atStart => exact ⟨0, rfl, Nat.zero_le _, Below.refl _ _⟩
  case round =>
    obtain ⟨k, rfl, hk, hb⟩ := hrel
    by_cases hlt : k < n
    · obtain ⟨b1, off1, rfl, hbl1, hc1⟩ := (Hx.out.below hb (Nat.le_refl _)).at0 (by omega)
      obtain ⟨b2, off2, rfl, hbl2, hc2⟩ := (Hy.out.below hb (Nat.le_refl _)).at0 (by omega)
      obtain ⟨x, hxk⟩ : ∃ x, xs[k]? = some x := ⟨_, List.getElem?_eq_getElem (by rw [Hl.out]; exact hlt)⟩
      obtain ⟨c1, c2, c3⟩ := SlSp.cells hc1 hxk
      obtain ⟨d1, d2, d3⟩ := SlSp.cells hc2 hxk
      obtain ⟨xlo, xhi, xwk⟩ := x
      clear hc1 hc2 hxk
      simp only at c1 c2 c3 d1 d2 d3
      go_wp2
      have e_c1 := fun d os => cell_regrown c1 d os
      have e_c2 := fun d os => cell_regrown c2 d os
      have e_c3 := fun d os => cell_regrown c3 d os
      have e_d1 := fun d os => cell_regrown d1 d os
      have e_d2 := fun d os => cell_regrown d2 d os
      have e_d3 := fun d os => cell_regrown d3 d os
      clear c1 c2 c3 d1 d2 d3
      refine wp_region_quiet_below (by kernel_rfl) (by kernel_rfl) ?_
      repeat (go_big_quiet_step (fail))
      refine wpQuiet_nil ?_
      rintro w2 ⟨⟨dq, osq⟩, hw''⟩
      have hb2 : Below w.heap.size w w2 := by rw [hw'']; exact hb.trans ((below_regrown wr dq osq).mono hb.size)
      have hstep : Below wr.heap.size wr w2 := by rw [hw'']; exact below_regrown wr dq osq
      clear hw'' e_c1 e_c2 e_c3 e_d1 e_d2 e_d3
      clear hstep
      go_wp2
      go_roundw
      case rel => exact ⟨k + 1, by go_num, by omega, hb2⟩
      case measure => simp [intOf]; omega
    · obtain rfl : k = n := by omega
      go_wp2
      go_ret
      exact ⟨rfl, hb⟩
theorem wkA : mrgE [⟨0, 2, false⟩, ⟨2, 5, true⟩] = 0 ∧ mrgR [⟨0, 2, false⟩, ⟨2, 5, true⟩] = [⟨0, 5, true⟩] := by decide
theorem wkB : mrgE [⟨0, 6, false⟩, ⟨2, 5, true⟩] = 0 ∧ mrgR [⟨0, 6, false⟩, ⟨2, 5, true⟩] = [⟨0, 6, false⟩] := by decide
theorem wkC : mrgE [⟨0, 1, false⟩, ⟨2, 3, false⟩] = 0 ∧ mrgR [⟨0, 1, false⟩, ⟨2, 3, false⟩] = [⟨0, 1, false⟩, ⟨2, 3, false⟩] := by decide

set_option maxRecDepth 100000 in
set_option maxHeartbeats 2000000 in
theorem wakes08_any (w : World) : Calls Try.prog 13 #[] w fun e w' => e = .returned (.bool true) ∧ Below w.heap.size w w' := by
  go_enter Try.func13, Try.ntmps13
  go_wp2_with fail
  refine (merge_any _ 2 2 [⟨0, 2, false⟩, ⟨2, 5, true⟩] _ (SlSp.lit w [⟨0, 2, false⟩, ⟨2, 5, true⟩] _ (by decide)) (by omega)).mono ?_
  rintro e w1 ⟨v1, rfl, hown1, hb1⟩
  rw [wkA.1]
  rw [wkA.2] at hown1
  have hB1 : Below w.heap.size w w1 := ((Below.refl _ _).alloc (Nat.le_refl _) _).trans (hb1.mono (by simp))
  have hown1' := hown1.mono (show w.heap.size ≤ _ by simp)
  clear hown1 hb1
  go_wp2_with fail
  refine (merge_any _ 2 2 [⟨0, 6, false⟩, ⟨2, 5, true⟩] _ (SlSp.lit w1 [⟨0, 6, false⟩, ⟨2, 5, true⟩] _ (by decide)) (by omega)).mono ?_
  rintro e w2 ⟨v2, rfl, hown2, hb2⟩
  rw [wkB.1]
  rw [wkB.2] at hown2
  have hs2 : Below w1.heap.size w1 w2 := ((Below.refl _ _).alloc (Nat.le_refl _) _).trans (hb2.mono (by simp))
  have hown2' := hown2.mono (show w.heap.size ≤ _ by simp; have := hB1.size; omega)
  have hown1 := hown1'.below hs2 (Nat.le_refl _)
  have hB2 := hB1.trans (hs2.mono hB1.size)
  clear hown2 hb2 hown1' hs2 hB1
  go_wp2_with fail
  refine (merge_any _ 2 2 [⟨0, 1, false⟩, ⟨2, 3, false⟩] _ (SlSp.lit w2 [⟨0, 1, false⟩, ⟨2, 3, false⟩] _ (by decide)) (by omega)).mono ?_
  rintro e w3 ⟨v3, rfl, hown3, hb3⟩
  rw [wkC.1]
  rw [wkC.2] at hown3
  have hs3 : Below w2.heap.size w2 w3 := ((Below.refl _ _).alloc (Nat.le_refl _) _).trans (hb3.mono (by simp))
  have o1 := hown1.below hs3 (Nat.le_refl _)
  have o2 := hown2'.below hs3 (Nat.le_refl _)
  have hB3 := hB2.trans (hs3.mono hB2.size)
  obtain ⟨a1, k1, rfl, r1⟩ := OwnR.reads spnC_len o1
  obtain ⟨a2, k2, rfl, r2⟩ := OwnR.reads spnC_len o2
  obtain ⟨a3, k3, rfl, r3⟩ := OwnR.reads spnC_len hown3
  obtain ⟨b1, f1, rfl, _, q1⟩ := r1.at0 (by decide)
  obtain ⟨b2, f2, rfl, _, q2⟩ := r2.at0 (by decide)
  obtain ⟨p1, p2, p3⟩ := SlSp.cells q1 (k := 0) (x := ⟨0, 5, true⟩) rfl
  obtain ⟨p4, p5, p6⟩ := SlSp.cells q2 (k := 0) (x := ⟨0, 6, false⟩) rfl
  clear o1 o2 r1 r2 r3 q1 q2 hown1 hown2' hown3 hb3 hs3 hB2
  simp only [Nat.zero_mul, Nat.add_zero] at p1 p2 p3 p4 p5 p6
  go_wp2
  go_ret
  exact ⟨rfl, hB3⟩

set_option maxRecDepth 100000 in
set_option maxHeartbeats 2000000 in
theorem spansmerge_any (a : Option Addr) (n c : Nat) (xs : List Spn) (w : World) (hx : SlSp w a n c xs) :
    Calls Try.prog 4 #[.slice a n c] w fun e w' => e = .returned (.bool true) ∧ Below w.heap.size w w' := by
  have hmax := hx.max
  have hle := hx.le
  have Hx := Lib.hid hx; clear hx
  by_cases hn : 200 < n
  · have hn' : (200 : Int) < (n : Int) := by omega
    go_enter Try.func4, Try.ntmps4
    go_wp2_with fail
    refine (wakes08_any _).mono ?_
    rintro e w1 ⟨rfl, hb1⟩
    go_wp2
    go_ret
    exact ⟨rfl, hb1⟩
  have hn' : ¬ (200 : Int) < (n : Int) := by omega
  go_enter Try.func4, Try.ntmps4
  go_wp2_with fail
  refine (merge_any a n c xs _ Hx.out (by omega)).mono ?_
  rintro e w1 ⟨v1, rfl, hown1, hb1⟩
  have Hx1 : Hid (SlSp w1 a n c xs) := Hx.out.below hb1 (Nat.le_refl _)
  obtain ⟨E, hE⟩ : ∃ E, E = mrgE xs := ⟨_, rfl⟩
  rw [← hE]
  have HE := Lib.hid hE
  clear hE
  go_wp2_with fail
  refine (refmerge_any a n c xs _ Hx1.out (by omega)).mono ?_
  rintro e w2 ⟨v2, rfl, hown2, hb2⟩
  rw [← HE.out]
  have Hx2 : Hid (SlSp w2 a n c xs) := Hx1.out.below hb2 (Nat.le_refl _)
  have hown1' := hown1.below hb2 (Nat.le_refl _)
  have hB2 := hb1.trans (hb2.mono hb1.size)
  obtain ⟨a1, k1, rfl, r1⟩ := OwnR.reads spnC_len hown1'
  obtain ⟨a2, k2, rfl, r2⟩ := OwnR.reads spnC_len hown2
  have R1 := Lib.hid r1
  have R2 := Lib.hid r2
  clear hown1 hown2 hown1' hb1 hb2 Hx1 r1 r2
  go_wp2_with fail
  refine (refsame_self a1 a2 _ k1 k2 _ _ R1.out R2.out).mono ?_
  rintro e w3 ⟨rfl, hb3⟩
  have Hx3 : Hid (SlSp w3 a n c xs) := Hx2.out.below hb3 (Nat.le_refl _)
  have hB3 := hB2.trans (hb3.mono hB2.size)
  clear hb3 hB2 Hx2 R1 R2
  go_wp2_with fail
  refine (spancheck_any a n c xs _ Hx3.out).mono ?_
  rintro e w4 ⟨rfl, hb4⟩
  have Hx4 : Hid (SlSp w4 a n c xs) := Hx3.out.below hb4 (Nat.le_refl _)
  have hB4 := hB3.trans (hb4.mono hB3.size)
  clear hb4 hB3 Hx3
  obtain ⟨G, hG⟩ : ∃ G, G = spE xs := ⟨_, rfl⟩
  rw [← hG]
  have HG := Lib.hid hG
  clear hG
  go_wp2_with fail
  refine (refspancheck_any a n c xs _ Hx4.out).mono ?_
  rintro e w5 ⟨rfl, hb5⟩
  rw [← HG.out]
  have hB5 := hB4.trans (hb5.mono hB4.size)
  clear hb5 hB4 Hx4
  go_wp2_with fail
  refine (wakes08_any _).mono ?_
  rintro e w6 ⟨rfl, hb6⟩
  have hB6 := hB5.trans (hb6.mono hB5.size)
  clear hb6 hB5
  go_wp2
  go_ret
  exact ⟨rfl, hB6⟩
end Go.Proofs.Ytndjljefppbmcaa
