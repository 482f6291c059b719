/- Walk: the law CellsRise. -/
import Derived.Test.YtndjljefppbmcaaCelG
namespace Go.Proofs.Ytndjljefppbmcaa
open Go.RowKit

theorem SlR.takeC {α : Type} {f : α → List Value} {sz : Nat} {w : World} {a : Option Addr} {n c : Nat} {xs : List α} (h : SlR f sz w a n c xs) {k : Nat} (hk : k ≤ n) : SlR f sz w a k c (xs.take k) := by
  refine ⟨by simp [h.len, hk], Nat.le_trans hk h.le, h.max, ?_⟩
  rcases h.cell with h0 | ⟨b, off, ha, hb, hc⟩
  · exact .inl (by omega)
  · refine .inr ⟨b, off, ha, hb, fun i x hx => hc i x ?_⟩
    rw [List.getElem?_take] at hx
    split at hx
    · exact hx
    · cases hx

set_option maxRecDepth 100000 in
set_option maxHeartbeats 8000000 in
theorem cellsrise_any (a b : Pt) (w : World) :
    Calls Try.prog 8 #[ptA a, ptA b] w fun e w' => e = .returned (.bool true) ∧ Below w.heap.size w w' := by
  have hB : Below w.heap.size w ((w.alloc (.cells #[.int .i64 a.x, .int .i64 a.z] 36)).alloc (.cells #[.int .i64 b.x, .int .i64 b.z] 36)) := ((Below.refl _ _).alloc (Nat.le_refl _) _).alloc (by simp) _
  have hA := halloc (World.alloc_heap_new w (.cells #[.int .i64 a.x, .int .i64 a.z] 36)) (.cells #[.int .i64 b.x, .int .i64 b.z] 36)
  have hBb := World.alloc_heap_new (w.alloc (.cells #[.int .i64 a.x, .int .i64 a.z] 36)) (.cells #[.int .i64 b.x, .int .i64 b.z] 36)
  simp only [World.size_alloc] at hBb
  by_cases hab : (pointOk a && pointOk b) = true
  · rw [Bool.and_eq_true] at hab
    obtain ⟨ha, hb⟩ := hab
    have C1 := Lib.hid (fun W => cells_ok a b W ha hb)
    obtain ⟨ax, az⟩ := a
    obtain ⟨bx, bz⟩ := b
    simp only at hB hA hBb
    have Ha := Lib.hid ha
    have Hb := Lib.hid hb
    clear ha hb
    go_enter Try.func8, Try.ntmps8
    go_wp2_with fail
    refine (C1.out _).mono ?_
    rintro e w1 ⟨ad, n, c, l, rfl, hsl, hn, hat, hb1⟩
    have hB1 := hB.trans (hb1.mono hB.size)
    have hA1 := hkeep hb1 hA
    have hBb1 := hkeep hb1 hBb
    clear hB hA hBb hb1 C1
    have Hsl := Lib.hid hsl
    have Hat := Lib.hid hat
    have hle := hsl.le
    have hmax := hsl.max
    have Hl := Lib.hid hsl.len
    clear hsl hat
    have hl0 : 0 < l.length := by
      obtain ⟨c, hc, _⟩ := cel_has Ha.out Hb.out Hat.out (r := ⟨0, 1⟩) (by decide) (by decide) (by decide)
      exact List.length_pos_of_mem hc
    have hn0 : (0 : Int) < (n : Int) := by have := Hl.out; omega
    clear hl0
    go_wp2_with fail
    have hA2 := halloc (halloc hA1 (.cells #[.int .i64 0, .int .i64 1] 41)) (.cells #[.int .i64 1, .int .i64 1] 41)
    have hBb2 := halloc (halloc hBb1 (.cells #[.int .i64 0, .int .i64 1] 41)) (.cells #[.int .i64 1, .int .i64 1] 41)
    have hZ2 := halloc (World.alloc_heap_new w1 (.cells #[.int .i64 0, .int .i64 1] 41)) (.cells #[.int .i64 1, .int .i64 1] 41)
    have hO2 := World.alloc_heap_new (w1.alloc (.cells #[.int .i64 0, .int .i64 1] 41)) (.cells #[.int .i64 1, .int .i64 1] 41)
    have hBW := (hB1.alloc hB1.size (.cells #[.int .i64 0, .int .i64 1] 41)).alloc (by simp; have := hB1.size; omega) (.cells #[.int .i64 1, .int .i64 1] 41)
    have Hsl2 := Lib.hid ((Hsl.out.alloc (.cells #[.int .i64 0, .int .i64 1] 41)).alloc (.cells #[.int .i64 1, .int .i64 1] 41))
    simp only [World.size_alloc] at hO2
    generalize (w1.alloc (.cells #[.int .i64 0, .int .i64 1] 41)).alloc (.cells #[.int .i64 1, .int .i64 1] 41) = W at hA2 hBb2 hZ2 hO2 hBW Hsl2 ⊢
    clear hA1 hBb1 hB1 Hsl
    generalize w1.heap.size = pz at hZ2 hO2 ⊢
    go_loopw [31] (fun i wr => ∃ k : Nat, i = .int .i64 k ∧ k ≤ n ∧ Below W.heap.size W wr) (fun i _ => n - (intOf i).toNat)
    case atStart => exact ⟨0, rfl, Nat.zero_le _, Below.refl _ _⟩
    case round =>
      obtain ⟨k, rfl, hk, hb⟩ := hrel
      by_cases hlt : k < n
      · obtain ⟨cc, hck⟩ : ∃ x, l[k]? = some x := ⟨_, List.getElem?_eq_getElem (by rw [Hl.out]; exact hlt)⟩
        have hcm : cc ∈ l := List.mem_of_getElem? hck
        obtain ⟨f1, f2, f3, f4, f5, f6, f7, f8, f9, f10, f11⟩ := cel_facts Ha.out Hb.out Hat.out hcm
        have L1 := Lib.hid (fun W => cless_any cc.q cc.p W f7.big f6.big)
        have L2 := Lib.hid (fun W => cless_any cc.p rt0 W f6.big rt0_small)
        have L3 := Lib.hid (fun W => cless_any rt1 cc.q W rt1_small f7.big)
        rw [decide_eq_false (not_ltR.2 f3)] at L1
        rw [decide_eq_false (not_ltR.2 (rt0_le.2 f4))] at L2
        rw [decide_eq_false (not_ltR.2 (le_rt1.2 f5))] at L3
        have M := Lib.hid (fun W => meets_any ⟨ax, az⟩ ⟨bx, bz⟩ cc.x cc.z W Ha.out Hb.out)
        rw [hasC_mem Hat.out hcm] at M
        have hltI : (k : Int) < (n : Int) := by omega
        have hA3 := hkeep hb hA2
        have hBb3 := hkeep hb hBb2
        have hZ3 := hkeep hb hZ2
        have hO3 := hkeep hb hO2
        obtain ⟨bb, off, rfl, hbl, hcell⟩ := (Hsl2.out.below hb (Nat.le_refl _)).at0 (by omega)
        obtain ⟨c0, c1, c2, c3, c4, c5⟩ := SlCe.cells hcell hck
        have HIn : Hid (∀ j d, j < k → l[j]? = some d → RtSmall 1000 d.p ∧ ¬ ltR cc.p d.p ∧ ¬ (d.x = cc.x ∧ d.z = cc.z)) := fun j d hj hd => by
          have h1 := cel_rise Hat.out hck hd hj
          exact ⟨(cel_facts Ha.out Hb.out Hat.out (List.mem_of_getElem? hd)).2.2.2.2.2.1, not_ltR.2 h1.1, h1.2⟩
        have hcp := Lib.hid f6.big
        obtain ⟨cx, cz, ⟨cpn, cpd⟩, ⟨cqn, cqd⟩⟩ := cc
        simp only at c0 c1 c2 c3 c4 c5 f1 f2 HIn hcp
        have g1 : ¬ cpd < 1 := by omega
        have g2 : ¬ cqd < 1 := by omega
        clear f1 f2 f3 f4 f5 f6 f7 f8 f9 f10 f11 hcm hck hcell
        have hs3 := hblt hO3
        go_wp2_with fail
        refine (L1.out _).mono ?_
        rintro e w2 ⟨rfl, hb2⟩
        have hC4 := hkeep hb2 (World.alloc_heap_new wr (.cells #[.int .i64 cx, .int .i64 cz, .int .i64 cpn, .int .i64 cpd, .int .i64 cqn, .int .i64 cqd] 43))
        have hA4 := hkeep hb2 (halloc hA3 (.cells #[.int .i64 cx, .int .i64 cz, .int .i64 cpn, .int .i64 cpd, .int .i64 cqn, .int .i64 cqd] 43))
        have hBb4 := hkeep hb2 (halloc hBb3 (.cells #[.int .i64 cx, .int .i64 cz, .int .i64 cpn, .int .i64 cpd, .int .i64 cqn, .int .i64 cqd] 43))
        have hZ4 := hkeep hb2 (halloc hZ3 (.cells #[.int .i64 cx, .int .i64 cz, .int .i64 cpn, .int .i64 cpd, .int .i64 cqn, .int .i64 cqd] 43))
        have hO4 := hkeep hb2 (halloc hO3 (.cells #[.int .i64 cx, .int .i64 cz, .int .i64 cpn, .int .i64 cpd, .int .i64 cqn, .int .i64 cqd] 43))
        have hb4 := (hb.alloc hb.size (.cells #[.int .i64 cx, .int .i64 cz, .int .i64 cpn, .int .i64 cpd, .int .i64 cqn, .int .i64 cqd] 43)).trans (hb2.mono (by simp; have := hb.size; omega))
        clear hA3 hBb3 hZ3 hO3 hb hb2 L1 c0 c1 c2 c3 c4 c5
        have k1 := hcell (k := 2) (v := .int .i64 cpn) hC4 rfl
        have k2 := hcell (k := 3) (v := .int .i64 cpd) hC4 rfl
        have k3 := hcell (k := 0) (v := .int .i64 0) hZ4 rfl
        have k4 := hcell (k := 1) (v := .int .i64 1) hZ4 rfl
        generalize wr.heap.size = pc at hC4 k1 k2 ⊢
        go_wp2_with fail
        refine (L2.out _).mono ?_
        rintro e w3 ⟨rfl, hb2⟩
        have hC5 := hkeep hb2 hC4
        have hA5 := hkeep hb2 hA4
        have hBb5 := hkeep hb2 hBb4
        have hO5 := hkeep hb2 hO4
        have hb5 := hb4.trans (hb2.mono hb4.size)
        clear hC4 hA4 hBb4 hZ4 hO4 hb4 hb2 L2 k1 k2 k3 k4
        have k1 := hcell (k := 4) (v := .int .i64 cqn) hC5 rfl
        have k2 := hcell (k := 5) (v := .int .i64 cqd) hC5 rfl
        have k3 := hcell (k := 0) (v := .int .i64 1) hO5 rfl
        have k4 := hcell (k := 1) (v := .int .i64 1) hO5 rfl
        go_wp2_with fail
        refine (L3.out _).mono ?_
        rintro e w4 ⟨rfl, hb2⟩
        have hC6 := hkeep hb2 hC5
        have hA6 := hkeep hb2 hA5
        have hBb6 := hkeep hb2 hBb5
        have hb6 := hb5.trans (hb2.mono hb5.size)
        clear hC5 hA5 hBb5 hO5 hb5 hb2 L3 k1 k2 k3 k4
        have k0 := hcell (k := 0) (v := .int .i64 cx) hC6 rfl
        have k1 := hcell (k := 1) (v := .int .i64 cz) hC6 rfl
        have k2 := hcell (k := 3) (v := .int .i64 cpd) hC6 rfl
        have k3 := hcell (k := 5) (v := .int .i64 cqd) hC6 rfl
        have k4 := hcell (k := 0) (v := .int .i64 ax) hA6 rfl
        have k5 := hcell (k := 1) (v := .int .i64 az) hA6 rfl
        have k6 := hcell (k := 0) (v := .int .i64 bx) hBb6 rfl
        have k7 := hcell (k := 1) (v := .int .i64 bz) hBb6 rfl
        go_wp2_with fail
        refine (M.out _).mono ?_
        rintro e w5 ⟨rfl, hb2⟩
        have hC7 := hkeep hb2 hC6
        have hb7 := hb6.trans (hb2.mono hb6.size)
        clear hC6 hA6 hBb6 hb6 hb2 M k0 k1 k2 k3 k4 k5 k6 k7
        have hkc : (k : Int) ≤ (c : Int) := by omega
        go_wp2_with fail
        go_loopw [79] (fun i wr => ∃ j : Nat, i = .int .i64 j ∧ j ≤ k ∧ Below w5.heap.size w5 wr) (fun i _ => k - (intOf i).toNat)
        case atStart => exact ⟨0, rfl, Nat.zero_le _, Below.refl _ _⟩
        case round =>
          obtain ⟨j, rfl, hj, hbi⟩ := hrel
          by_cases hlj : j < k
          · obtain ⟨d, hdk⟩ : ∃ x, l[j]? = some x := ⟨_, List.getElem?_eq_getElem (by rw [Hl.out]; omega)⟩
            obtain ⟨q1, q2, q3⟩ := HIn.out j d hlj hdk
            have L1 := Lib.hid (fun W => cless_any ⟨cpn, cpd⟩ d.p W hcp.out q1.big)
            rw [decide_eq_false q2] at L1
            have hljI : (j : Int) < (k : Int) := by omega
            have hCi := hkeep hbi hC7
            have hsl7 := Hsl2.out.below (hb7.trans (hbi.mono hb7.size)) (Nat.le_refl _)
            obtain ⟨bb2, off2, hab, hbl2, hcell2⟩ := hsl7.at0 (by omega)
            cases hab
            obtain ⟨d0, d1, d2, d3, d4, d5⟩ := SlCe.cells hcell2 hdk
            obtain ⟨dx, dz, ⟨dpn, dpd⟩, ⟨dqn, dqd⟩⟩ := d
            simp only at d0 d1 d2 d3 d4 d5 q3
            clear q1 q2 hdk hcell2 hsl7
            have hCi' := halloc hCi (.cells #[.int .i64 dx, .int .i64 dz, .int .i64 dpn, .int .i64 dpd, .int .i64 dqn, .int .i64 dqd] 43)
            have e0 := hcell (k := 0) (v := .int .i64 cx) hCi' rfl
            have e1 := hcell (k := 1) (v := .int .i64 cz) hCi' rfl
            have e2 := hcell (k := 2) (v := .int .i64 cpn) hCi' rfl
            have e3 := hcell (k := 3) (v := .int .i64 cpd) hCi' rfl
            have HEnd : Hid (∀ w', Below (wr.alloc (.cells #[.int .i64 dx, .int .i64 dz, .int .i64 dpn, .int .i64 dpd, .int .i64 dqn, .int .i64 dqd] 43)).heap.size (wr.alloc (.cells #[.int .i64 dx, .int .i64 dz, .int .i64 dpn, .int .i64 dpd, .int .i64 dqn, .int .i64 dqd] 43)) w' → Below w5.heap.size w5 w') := fun w' h => (hbi.alloc hbi.size (.cells #[.int .i64 dx, .int .i64 dz, .int .i64 dpn, .int .i64 dpd, .int .i64 dqn, .int .i64 dqd] 43)).trans (h.mono (by simp; have := hbi.size; omega))
            by_cases h1 : cx = dx
            · have h2 : ¬ cz = dz := fun h2 => q3 ⟨h1.symm, h2.symm⟩
              have r1 : (cx == dx) = true := by simp [h1]
              have r2 : (cz == dz) = false := by simp [h2]
              clear q3 h1 h2
              go_wp2_with fail
              refine (L1.out _).mono ?_
              rintro e w6 ⟨rfl, hb6⟩
              have hB6 := HEnd.out _ hb6
              clear hb6 e0 e1 e2 e3 hCi hCi' d0 d1 d2 d3 d4 d5
              go_wp2
              go_roundw
              case rel => exact ⟨j + 1, by go_num, by omega, hB6⟩
              case measure => simp [intOf]; omega
            · have r1 : (cx == dx) = false := by simp [h1]
              clear q3 h1
              go_wp2_with fail
              refine (L1.out _).mono ?_
              rintro e w6 ⟨rfl, hb6⟩
              have hB6 := HEnd.out _ hb6
              clear hb6 e0 e1 e2 e3 hCi hCi' d0 d1 d2 d3 d4 d5
              go_wp2
              go_roundw
              case rel => exact ⟨j + 1, by go_num, by omega, hB6⟩
              case measure => simp [intOf]; omega
          · obtain rfl : j = k := by omega
            have hB8 := hb7.trans (hbi.mono hb7.size)
            clear hC7 hb7 hbi
            go_wp2
            go_roundw
            case rel => exact ⟨j + 1, by go_num, by omega, hB8⟩
            case measure => simp [intOf]; omega
      · obtain rfl : k = n := by omega
        have hB9 := hBW.trans (hb.mono hBW.size)
        clear hb hA2 hBb2 hZ2 hO2
        go_wp2_with fail
        refine (wakes03_any _).mono ?_
        rintro e w2 ⟨rfl, hb2⟩
        have hB10 := hB9.trans (hb2.mono hB9.size)
        go_wp2
        go_ret
        exact ⟨rfl, hB10⟩
  · have hab' : (pointOk a && pointOk b) = false := by simpa using hab
    have C1 := Lib.hid (fun W => cells_no a b W hab')
    obtain ⟨ax, az⟩ := a
    obtain ⟨bx, bz⟩ := b
    simp only at hB
    clear hab hab' hA hBb
    go_enter Try.func8, Try.ntmps8
    go_wp2_with fail
    refine (C1.out _).mono ?_
    rintro e w1 ⟨ad, c, rfl, hb1⟩
    have hB1 := hB.trans (hb1.mono hB.size)
    go_wp2_with fail
    refine (wakes03_any _).mono ?_
    rintro e w2 ⟨rfl, hb2⟩
    have hB2 := hB1.trans (hb2.mono hB1.size)
    go_wp2
    go_ret
    exact ⟨rfl, hB2⟩
end Go.Proofs.Ytndjljefppbmcaa
