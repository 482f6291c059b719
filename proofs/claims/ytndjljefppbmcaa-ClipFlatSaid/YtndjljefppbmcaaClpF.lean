/- Walk: flat triangles, turned ones, moved ones. -/
import Derived.Test.YtndjljefppbmcaaClpA
import Derived.Test.YtndjljefppbmcaaClpZ
import Derived.Test.YtndjljefppbmcaaClpE
import Derived.Test.YtndjljefppbmcaaClpI
namespace Go.Proofs.Ytndjljefppbmcaa
open Go.RowKit
attribute [local go_sem] Instr.index

set_option maxRecDepth 100000 in
set_option maxHeartbeats 16000000 in
theorem clipflat_any (i : Int) (a b c : V3) (x z m : Int) (w : World) :
    Calls Try.prog 10 #[tiA i a b c, .int .i64 x, .int .i64 z, .int .i64 m] w fun e w' => e = .returned (.bool true) ∧ Below w.heap.size w w' := by
  have MT := Lib.hid (fun W => maytri32_any i a b c W)
  have WK := Lib.hid (fun W => wakes07_any W)
  have hB : Below w.heap.size w (w.alloc (triO i a b c)) := (Below.refl _ _).alloc (Nat.le_refl _) _
  have hI := World.alloc_heap_new w (triO i a b c)
  cases ho : (openT a b c).2 with
  | false =>
    rw [ho] at MT
    obtain ⟨ax, ay, az⟩ := a
    obtain ⟨bx, by_, bz⟩ := b
    obtain ⟨cx, cy, cz⟩ := c
    clear ho hI
    go_enter Try.func10, Try.ntmps10
    go_wp2_with fail
    refine (MT.out _).mono ?_
    rintro e w1 ⟨rfl, hb1⟩
    have hB1 := hB.trans (hb1.mono hB.size)
    clear hB hb1
    go_wp2_with fail
    refine (WK.out _).mono ?_
    rintro e w9 ⟨rfl, hb9⟩
    have hB9 := hB1.trans (hb9.mono hB1.size)
    clear hb9
    go_wp2
    go_ret
    exact ⟨rfl, hB9⟩
  | true =>
    rw [ho] at MT
    by_cases hm : m < -2048 ∨ 2048 < m
    · have hm' : m < -2048 ∨ (¬ m < -2048 ∧ 2048 < m) := by omega
      obtain ⟨ax, ay, az⟩ := a
      obtain ⟨bx, by_, bz⟩ := b
      obtain ⟨cx, cy, cz⟩ := c
      clear ho hI hm
      go_enter Try.func10, Try.ntmps10
      go_wp2_with fail
      refine (MT.out _).mono ?_
      rintro e w1 ⟨rfl, hb1⟩
      have hB1 := hB.trans (hb1.mono hB.size)
      clear hB hb1
      rcases hm' with h | ⟨h0, h⟩
      all_goals
        go_wp2_with fail
        refine (WK.out _).mono ?_
        rintro e w9 ⟨rfl, hb9⟩
        have hB9 := hB1.trans (hb9.mono hB1.size)
        clear hb9
        go_wp2
        go_ret
        exact ⟨rfl, hB9⟩
    · have hm1 : ¬ m < -2048 := by omega
      have hm2 : ¬ 2048 < m := by omega
      clear hm
      have OV := Lib.hid (fun W => overE_any i a b c x z W)
      have OT := Lib.hid (fun W => overE_any 1 b c a x z W)
      rw [overE_rot] at OT
      have OU := Lib.hid (fun W => overE_any i (upV a m) (upV b m) (upV c m) x z W)
      have hv : vOk a = true ∧ vOk b = true ∧ vOk c = true := by
        unfold openT at ho
        by_cases h : (vOk a && vOk b && vOk c) = true
        · simpa [Bool.and_eq_true, and_assoc] using h
        · rw [if_neg h] at ho; cases ho
      have HU := Lib.hid (fun h2 => overE_up (a := a) (b := b) (c := c) (x := x) (z := z) (k := m) hv h2)
      have HF := Lib.hid (fun lo hi h h1 h2 => overE_flat (a := a) (b := b) (c := c) (x := x) (z := z) (lo := lo) (hi := hi) h h1 h2)
      have HG := Lib.hid (fun lo hi h => between_facts (a := a) (b := b) (c := c) (x := x) (z := z) (lo := lo) (hi := hi) h)
      have HBad := Lib.hid (fun h => overE_bad (a := a) (b := b) (c := c) (x := x) (z := z) h)
      have HV := Lib.hid hv
      obtain ⟨va, vb, vc⟩ := hv
      rw [vOk_iff] at va vb vc
      obtain ⟨r, hr⟩ : ∃ r, r = overE a b c x z := ⟨_, rfl⟩
      rw [← hr] at OV OT HBad HF HG
      rw [← hr] at HU
      clear hr
      obtain ⟨lo, hi, ok, er⟩ := r
      obtain ⟨u, hu⟩ : ∃ u, u = overE (upV a m) (upV b m) (upV c m) x z := ⟨_, rfl⟩
      rw [← hu] at OU HU
      clear hu
      obtain ⟨p, q, two, g⟩ := u
      simp only at OV OT OU HU HBad
      obtain ⟨ax, ay, az⟩ := a
      obtain ⟨bx, by_, bz⟩ := b
      obtain ⟨cx, cy, cz⟩ := c
      simp only [upV] at OU HU
      simp only at va vb vc
      have y1 : -2048 ≤ ay ∧ ay ≤ 2048 := by omega
      have y2 : -2048 ≤ by_ ∧ by_ ≤ 2048 := by omega
      have y3 : -2048 ≤ cy ∧ cy ≤ 2048 := by omega
      have VA := Lib.hid va
      have VB := Lib.hid vb
      have VC := Lib.hid vc
      have hw1 : IntKind.i64.wrap (ay + m) = ay + m := by rw [IntKind.wrap_i64]; omega
      have hw2 : IntKind.i64.wrap (by_ + m) = by_ + m := by rw [IntKind.wrap_i64]; omega
      have hw3 : IntKind.i64.wrap (cy + m) = cy + m := by rw [IntKind.wrap_i64]; omega
      clear ho va vb vc HV
      go_enter Try.func10, Try.ntmps10
      go_wp2_with fail
      refine (MT.out _).mono ?_
      rintro e w1 ⟨rfl, hb1⟩
      have hB1 := hB.trans (hb1.mono hB.size)
      have hI1 := hkeep hb1 hI
      have k0 := hcell (k := 0) (v := .int .i64 i) hI1 rfl
      have k1 := hcell (k := 1) (v := .int .i64 ax) hI1 rfl
      have k2 := hcell (k := 2) (v := .int .i64 ay) hI1 rfl
      have k3 := hcell (k := 3) (v := .int .i64 az) hI1 rfl
      have k4 := hcell (k := 4) (v := .int .i64 bx) hI1 rfl
      have k5 := hcell (k := 5) (v := .int .i64 by_) hI1 rfl
      have k6 := hcell (k := 6) (v := .int .i64 bz) hI1 rfl
      have k7 := hcell (k := 7) (v := .int .i64 cx) hI1 rfl
      have k8 := hcell (k := 8) (v := .int .i64 cy) hI1 rfl
      have k9 := hcell (k := 9) (v := .int .i64 cz) hI1 rfl
      clear hB hb1 hI
      go_wp2_with fail
      refine (OV.out _).mono ?_
      rintro e w2 ⟨rfl, hb2⟩
      have hB2 := hB1.trans (hb2.mono hB1.size)
      have hI2 := hkeep hb2 hI1
      clear hB1 hb2 hI1 k0 k1 k2 k3 k4 k5 k6 k7 k8 k9
      have k0 := hcell (k := 0) (v := .int .i64 i) hI2 rfl
      have k1 := hcell (k := 1) (v := .int .i64 ax) hI2 rfl
      have k2 := hcell (k := 2) (v := .int .i64 ay) hI2 rfl
      have k3 := hcell (k := 3) (v := .int .i64 az) hI2 rfl
      have k4 := hcell (k := 4) (v := .int .i64 bx) hI2 rfl
      have k5 := hcell (k := 5) (v := .int .i64 by_) hI2 rfl
      have k6 := hcell (k := 6) (v := .int .i64 bz) hI2 rfl
      have k7 := hcell (k := 7) (v := .int .i64 cx) hI2 rfl
      have k8 := hcell (k := 8) (v := .int .i64 cy) hI2 rfl
      have k9 := hcell (k := 9) (v := .int .i64 cz) hI2 rfl
      have hB2a := hB2.alloc hB2.size (triO 1 ⟨bx, by_, bz⟩ ⟨cx, cy, cz⟩ ⟨ax, ay, az⟩)
      have hI2a := halloc hI2 (triO 1 ⟨bx, by_, bz⟩ ⟨cx, cy, cz⟩ ⟨ax, ay, az⟩)
      go_wp2_with fail
      refine (OT.out _).mono ?_
      rintro e w3 ⟨rfl, hb3⟩
      have hB3 := hB2a.trans (hb3.mono hB2a.size)
      have hI3 := hkeep hb3 hI2a
      clear hB2 hB2a hb3 hI2 hI2a k0 k1 k2 k3 k4 k5 k6 k7 k8 k9
      have k0 := hcell (k := 0) (v := .int .i64 i) hI3 rfl
      have k1 := hcell (k := 1) (v := .int .i64 ax) hI3 rfl
      have k2 := hcell (k := 2) (v := .int .i64 ay) hI3 rfl
      have k3 := hcell (k := 3) (v := .int .i64 az) hI3 rfl
      have k4 := hcell (k := 4) (v := .int .i64 bx) hI3 rfl
      have k5 := hcell (k := 5) (v := .int .i64 by_) hI3 rfl
      have k6 := hcell (k := 6) (v := .int .i64 bz) hI3 rfl
      have k7 := hcell (k := 7) (v := .int .i64 cx) hI3 rfl
      have k8 := hcell (k := 8) (v := .int .i64 cy) hI3 rfl
      have k9 := hcell (k := 9) (v := .int .i64 cz) hI3 rfl
      go_upto_region 8 with fail
      go_cut [118] from 83 to 117 (fun s118 wx => s118 = .bool false ∧ wx = w3)
      case first =>
        cases ok with
        | false =>
          clear HF HG HU HBad
          go_wp2
          go_meet
          exact ⟨rfl, rfl⟩
        | true =>
          have h0 : er = 0 := Classical.byContradiction fun h => by
            have := HBad.out h
            simp only [Prod.mk.injEq] at this
            exact absurd this.2.2.1 (by decide)
          subst h0
          by_cases h1 : ay = by_
          · by_cases h2 : by_ = cy
            · obtain ⟨f1, f2⟩ := HF.out lo hi rfl h1 h2
              subst h1 h2 f1 f2
              clear HF HG HU HBad
              go_wp2
              go_meet
              exact ⟨rfl, rfl⟩
            · subst h1
              clear HF HG HU HBad
              go_wp2
              go_meet
              exact ⟨rfl, rfl⟩
          · clear HF HG HU HBad
            go_wp2
            go_meet
            exact ⟨rfl, rfl⟩
      case rest =>
      obtain ⟨rfl, rfl⟩ := hcut
      have hB3a := hB3.alloc hB3.size (triO i ⟨ax, ay, az⟩ ⟨bx, by_, bz⟩ ⟨cx, cy, cz⟩)
      have hB3b := hB3.alloc hB3.size (triO i ⟨ax, ay + m, az⟩ ⟨bx, by_, bz⟩ ⟨cx, cy, cz⟩)
      have hB3c := hB3.alloc hB3.size (triO i ⟨ax, ay + m, az⟩ ⟨bx, by_ + m, bz⟩ ⟨cx, cy, cz⟩)
      have hB3d := hB3.alloc hB3.size (triO i ⟨ax, ay + m, az⟩ ⟨bx, by_ + m, bz⟩ ⟨cx, cy + m, cz⟩)
      go_upto_region 12 with fail
      refine wp_loop_rounds 4 ?_
      rw [rounds_succ]
      clear k0 k1 k2 k3 k4 k5 k6 k7 k8 k9
      by_cases u0 : ay + m < -2048
      · clear HF HG HU HBad OU
        go_wp2_with fail
        refine (WK.out _).mono ?_
        rintro e w9 ⟨rfl, hb9⟩
        have hB9 := hB3b.trans (hb9.mono hB3b.size)
        clear hb9
        go_wp2
        go_ret
        exact ⟨rfl, hB9⟩
      by_cases u1 : 2048 < ay + m
      · clear HF HG HU HBad OU
        go_wp2_with fail
        refine (WK.out _).mono ?_
        rintro e w9 ⟨rfl, hb9⟩
        have hB9 := hB3b.trans (hb9.mono hB3b.size)
        clear hb9
        go_wp2
        go_ret
        exact ⟨rfl, hB9⟩
      go_wp2
      rw [rounds_succ]
      by_cases u2 : by_ + m < -2048
      · clear HF HG HU HBad OU
        go_wp2_with fail
        refine (WK.out _).mono ?_
        rintro e w9 ⟨rfl, hb9⟩
        have hB9 := hB3c.trans (hb9.mono hB3c.size)
        clear hb9
        go_wp2
        go_ret
        exact ⟨rfl, hB9⟩
      by_cases u3 : 2048 < by_ + m
      · clear HF HG HU HBad OU
        go_wp2_with fail
        refine (WK.out _).mono ?_
        rintro e w9 ⟨rfl, hb9⟩
        have hB9 := hB3c.trans (hb9.mono hB3c.size)
        clear hb9
        go_wp2
        go_ret
        exact ⟨rfl, hB9⟩
      go_wp2
      rw [rounds_succ]
      by_cases u4 : cy + m < -2048
      · clear HF HG HU HBad OU
        go_wp2_with fail
        refine (WK.out _).mono ?_
        rintro e w9 ⟨rfl, hb9⟩
        have hB9 := hB3d.trans (hb9.mono hB3d.size)
        clear hb9
        go_wp2
        go_ret
        exact ⟨rfl, hB9⟩
      by_cases u5 : 2048 < cy + m
      · clear HF HG HU HBad OU
        go_wp2_with fail
        refine (WK.out _).mono ?_
        rintro e w9 ⟨rfl, hb9⟩
        have hB9 := hB3d.trans (hb9.mono hB3d.size)
        clear hb9
        go_wp2
        go_ret
        exact ⟨rfl, hB9⟩
      go_wp2
      rw [rounds_succ]
      have hup : vOk ⟨ax, ay + m, az⟩ = true ∧ vOk ⟨bx, by_ + m, bz⟩ = true ∧ vOk ⟨cx, cy + m, cz⟩ = true := by
        have q1 := VA.out
        have q2 := VB.out
        have q3 := VC.out
        rw [vOk_iff, vOk_iff, vOk_iff]
        simp only
        omega
      obtain ⟨t1, t2, t3⟩ := HU.out hup
      subst t1 t2
      clear HF hup HU VA VB VC
      go_wp2_with fail
      refine (OU.out _).mono ?_
      rintro e w4 ⟨rfl, hb4⟩
      have hB4 := hB3d.trans (hb4.mono hB3d.size)
      clear hb4 hB3 hB3a hB3b hB3c hB3d hI3
      cases two with
      | false =>
        clear HG HBad t3
        go_wp2_with fail
        refine (WK.out _).mono ?_
        rintro e w9 ⟨rfl, hb9⟩
        have hB9 := hB4.trans (hb9.mono hB4.size)
        clear hb9
        go_wp2
        go_ret
        exact ⟨rfl, hB9⟩
      | true =>
        obtain ⟨t4, t5⟩ := t3 rfl
        have h0 : g = 0 := Classical.byContradiction fun h => by
          have := HBad.out h
          simp only [Prod.mk.injEq] at this
          exact absurd this.2.2.1 (by decide)
        subst h0
        have hbt := HG.out lo hi rfl
        have b1 : -2048 ≤ lo := by have := hbt.2.2.1; omega
        have b2 : hi ≤ 2048 := by have := hbt.2.2.2.1; omega
        have b3 := hbt.2.1
        subst t4 t5
        have hw4 : IntKind.i64.wrap (lo + m) = lo + m := by rw [IntKind.wrap_i64]; omega
        have hw5 : IntKind.i64.wrap (hi + m) = hi + m := by rw [IntKind.wrap_i64]; omega
        clear hbt HG HBad b1 b2 b3 u0 u1 u2 u3 u4 u5 y1 y2 y3 hm1 hm2 hw1 hw2 hw3
        go_wp2_with fail
        refine (WK.out _).mono ?_
        rintro e w9 ⟨rfl, hb9⟩
        have hB9 := hB4.trans (hb9.mono hB4.size)
        clear hb9
        go_wp2
        go_ret
        exact ⟨rfl, hB9⟩
end Go.Proofs.Ytndjljefppbmcaa
