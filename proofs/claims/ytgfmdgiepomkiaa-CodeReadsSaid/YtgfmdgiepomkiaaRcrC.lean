/- Walks: the reference's rects: Check. -/
import Derived.Test.YtgfmdgiepomkiaaRctC
import Derived.Test.YtgfmdgiepomkiaaRcrA
import Derived.Test.YtgfmdgiepomkiaaLnr
namespace Go.Proofs.Ytgfmdgiepomkiaa
open Go.RowKit
attribute [local go_sem] Instr.index

set_option maxRecDepth 100000 in
set_option maxHeartbeats 16000000 in
theorem refcheck17_any (cf : Cfg) (h : RHd) (r : Rc) (w : World) (hs : RcSl w h r) :
    Calls Try.prog 37 #[cfgV cf, rcV h r] w fun e w' => e = .returned (.int .i64 (rcE cf r)) ∧ Below w.heap.size w w' := by
  have CF := Lib.hid (fun W => refcfgcheck_any cf W)
  have LK := Lib.hid (fun f g W => reflinked_any cf f g W)
  have AT := Lib.hid (fun x z W hW => refat17_any h r x z W hW)
  obtain ⟨W1, hW1⟩ : ∃ W, W = (w.alloc (cfO cf)).alloc (rcO h r) := ⟨_, rfl⟩
  have hC := halloc (World.alloc_heap_new w (cfO cf)) (rcO h r)
  have hR := World.alloc_heap_new (w.alloc (cfO cf)) (rcO h r)
  have hB : Below w.heap.size w ((w.alloc (cfO cf)).alloc (rcO h r)) := ((Below.refl _ _).alloc (Nat.le_refl _) _).alloc (by simp) _
  simp only [World.size_alloc] at hR
  rw [← hW1] at hC hR hB
  have Hs := Lib.hid (hs.below hB (Nat.le_refl _))
  clear hs
  obtain ⟨T, hTT⟩ : ∃ T, T = w.heap.size := ⟨_, rfl⟩
  rw [← hTT] at hC hR
  have HTT := Lib.hid hTT
  clear hTT
  obtain ⟨E, hE⟩ : ∃ E, E = rcE cf r := ⟨_, rfl⟩
  rw [← hE]
  cases hcf : cfgOk cf with
  | false =>
    have h0 : cfgE cf = 20 := by unfold cfgE; rw [hcf]; rfl
    rw [h0] at CF
    have hE2 : E = 20 := by rw [hE]; unfold rcE; rw [hcf]; rfl
    subst hE2
    clear hE h0 hcf AT LK Hs
    obtain ⟨cl, climb, height, rise, run, cw, cd⟩ := cf
    dsimp only [cfO, rcO, rcV, cfgV] at CF hC hR hB hW1 ⊢
    have c0 := hcell (k := 0) (v := .int .i64 cl) hC rfl
    have c1 := hcell (k := 1) (v := .int .i64 climb) hC rfl
    have c2 := hcell (k := 2) (v := .int .i64 height) hC rfl
    have c3 := hcell (k := 3) (v := .int .i64 rise) hC rfl
    have c4 := hcell (k := 4) (v := .int .i64 run) hC rfl
    have c5 := hcell (k := 5) (v := .int .i64 cw) hC rfl
    have c6 := hcell (k := 6) (v := .int .i64 cd) hC rfl
    go_enter Try.func37, Try.ntmps37
    go_upto_region 1 with fail
    rw [← hW1, ← HTT.out]
    clear hW1
    go_wp2_with fail
    refine (CF.out _).mono ?_
    rintro e w1 ⟨rfl, hb1⟩
    have hB1 := hB.trans (hb1.mono hB.size)
    go_wp2
    go_ret
    exact ⟨rfl, hB1⟩
  | true =>
  have h0 : cfgE cf = 0 := by unfold cfgE; rw [hcf]; rfl
  rw [h0] at CF
  clear h0
  cases hbd : rcBd r with
  | false =>
    have hE2 : E = 2 := by rw [hE, rcE_bd hcf hbd]
    subst hE2
    have HBD : Hid (rcBd r = false) := hbd
    clear hE hcf AT LK Hs hbd
    obtain ⟨cl, climb, height, rise, run, cw, cd⟩ := cf
    obtain ⟨x0, z0, x1, z1, ar, ys, ts⟩ := r
    obtain ⟨ya, yc, ta, tc⟩ := h
    dsimp only [cfO, rcO, rcV, cfgV] at CF hC hR hB hW1 ⊢
    generalize ys.length = yn at hR hW1 ⊢
    generalize ts.length = tn at hR hW1 ⊢
    have c0 := hcell (k := 0) (v := .int .i64 cl) hC rfl
    have c1 := hcell (k := 1) (v := .int .i64 climb) hC rfl
    have c2 := hcell (k := 2) (v := .int .i64 height) hC rfl
    have c3 := hcell (k := 3) (v := .int .i64 rise) hC rfl
    have c4 := hcell (k := 4) (v := .int .i64 run) hC rfl
    have c5 := hcell (k := 5) (v := .int .i64 cw) hC rfl
    have c6 := hcell (k := 6) (v := .int .i64 cd) hC rfl
    go_enter Try.func37, Try.ntmps37
    go_upto_region 1 with fail
    rw [← hW1, ← HTT.out]
    clear hW1
    go_wp2_with fail
    refine (CF.out _).mono ?_
    rintro e w1 ⟨rfl, hb1⟩
    have hB1 := hB.trans (hb1.mono hB.size)
    have hR1 := hkeep hb1 hR
    clear c0 c1 c2 c3 c4 c5 c6 hC hR hB hb1
    have r0 := hcell (k := 0) (v := .int .i64 x0) hR1 rfl
    have r1 := hcell (k := 1) (v := .int .i64 z0) hR1 rfl
    have r2 := hcell (k := 2) (v := .int .i64 x1) hR1 rfl
    have r3 := hcell (k := 3) (v := .int .i64 z1) hR1 rfl
    have r4 := hcell (k := 4) (v := .int .i64 ar) hR1 rfl
    have r5 := hcell (k := 5) (v := .slice ya yn yc) hR1 rfl
    have r6 := hcell (k := 6) (v := .slice ta tn tc) hR1 rfl
    clear r5 r6 hR1
    by_cases b0 : x0 < 0
    · clear HBD
      go_wp2
      go_ret
      exact ⟨rfl, hB1⟩
    by_cases b1 : x1 < x0
    · clear HBD
      go_wp2
      go_ret
      exact ⟨rfl, hB1⟩
    by_cases b2 : 32 ≤ x1
    · clear HBD
      go_wp2
      go_ret
      exact ⟨rfl, hB1⟩
    by_cases b3 : z0 < 0
    · clear HBD
      go_wp2
      go_ret
      exact ⟨rfl, hB1⟩
    by_cases b4 : z1 < z0
    · clear HBD
      go_wp2
      go_ret
      exact ⟨rfl, hB1⟩
    by_cases b5 : 32 ≤ z1
    · clear HBD
      go_wp2
      go_ret
      exact ⟨rfl, hB1⟩
    by_cases b6 : ar < 1
    · clear HBD
      go_wp2
      go_ret
      exact ⟨rfl, hB1⟩
    by_cases b7 : 7 < ar
    · clear HBD
      go_wp2
      go_ret
      exact ⟨rfl, hB1⟩
    exact absurd HBD.out (by rw [Bool.not_eq_false, rcBd_iff]; dsimp only; omega)
  | true =>
    obtain ⟨d1, d2, d3, d4, d5, d6, d7, d8⟩ := rcBd_iff.1 hbd
    obtain ⟨n1, n2, n3⟩ := rcN_bd hbd
    have hwb : 1 ≤ rcW r ∧ rcW r ≤ 32 := by unfold rcW; omega
    have HEl := Lib.hid (fun (h : rcLens r = false) => hE.trans (rcE_len hcf h))
    have HEb := Lib.hid (fun (k : Nat) (hk : k < rcN r) (h : rcCell cf r k = false) => hE.trans (rcE_bad hcf hk h))
    have HEg := Lib.hid (fun (hl : rcLens r = true) (h : ∀ k, k < rcN r → rcCell cf r k = true) => hE.trans (rcE_good hcf hbd hl h))
    have HCell0 : ∀ k, rcCell cf r k = rcCol cf r (r.x0 + ((k % (rcW r).toNat : Nat) : Int)) (r.z0 + ((k / (rcW r).toNat : Nat) : Int)) := fun k => rfl
    have HCol := Lib.hid (fun x z => show rcCol cf r x z = (hgtB (rcF r x z) && toB cf (rcF r x z) (rcAt r (x + 1) z) && toB cf (rcF r x z) (rcAt r x (z + 1))) from rfl)
    have HCell := Lib.hid HCell0
    clear HCell0
    clear hE hcf hbd
    have hN3 : rcW r * (r.z1 - r.z0 + 1) = ((rcN r : Nat) : Int) := n3.symm
    have HF := Lib.hid (fun x z f => rcAt_some (r := r) (x := x) (z := z) (f := f))
    clear n3
    have hlens : rcLens r = (decide (r.ys.length = rcN r) && decide (r.ts.length = rcN r)) := rfl
    rw [hlens] at HEl HEg
    clear hlens
    generalize rcN r = N at n1 n2 hN3 HEl HEb HEg
    obtain ⟨wd0, hwd⟩ : ∃ v, v = rcW r := ⟨_, rfl⟩
    unfold rcW at hwd
    have hwd2 : rcW r = wd0 := hwd.symm
    rw [hwd2] at hwb hN3 HCell
    clear hwd2
    generalize wd0 = wd at hwb hN3 HCell hwd
    obtain ⟨W, rfl⟩ := Int.eq_ofNat_of_zero_le (show 0 ≤ wd by omega)
    rw [Int.toNat_natCast] at HCell
    obtain ⟨F, hF⟩ : ∃ F : Int → Int → Flr, F = rcF r := ⟨_, rfl⟩
    obtain ⟨O, hO⟩ : ∃ O : Int → Int → Option Flr, O = rcAt r := ⟨_, rfl⟩
    have hFx : ∀ x z, rcF r x z = F x z := fun x z => by rw [hF]
    have hOx : ∀ x z, rcAt r x z = O x z := fun x z => by rw [hO]
    simp only [hFx, hOx] at AT HCol HF
    clear hF hO hFx hOx
    obtain ⟨CL, hCL⟩ : ∃ CL : Nat → Bool, CL = rcCell cf r := ⟨_, rfl⟩
    obtain ⟨CO, hCO⟩ : ∃ CO : Int → Int → Bool, CO = rcCol cf r := ⟨_, rfl⟩
    have hCOx : ∀ x z, rcCol cf r x z = CO x z := fun x z => by rw [hCO]
    have hCLx : ∀ k, rcCell cf r k = CL k := fun k => by rw [hCL]
    simp only [hCOx, hCLx] at HEb HEg HCell HCol
    clear hCL hCO hCOx hCLx
    have LB0 : ∀ f o, toB cf f o = (match o with | some g => lnk cf f g | none => true) := fun f o => rfl
    obtain ⟨LN, hLN⟩ : ∃ LN : Flr → Flr → Bool, LN = lnk cf := ⟨_, rfl⟩
    have hLNx : ∀ f g, lnk cf f g = LN f g := fun f g => by rw [hLN]
    simp only [hLNx] at LB0 LK
    clear hLN hLNx
    obtain ⟨TB, hTB⟩ : ∃ TB : Flr → Option Flr → Bool, TB = toB cf := ⟨_, rfl⟩
    have hTBx : ∀ f o, toB cf f o = TB f o := fun f o => by rw [hTB]
    simp only [hTBx] at LB0 HCol
    have LB := Lib.hid LB0
    clear LB0
    clear hTB hTBx
    obtain ⟨cl, climb, height, rise, run, cw, cd⟩ := cf
    have RS : ∀ W', Below W1.heap.size W1 W' → RcSl W' h r := fun W' hb => Hs.out.below hb (Nat.le_refl _)
    have AT2 := Lib.hid (fun x z W' hb => AT.out x z W' (RS W' hb))
    clear AT RS Hs
    obtain ⟨x0, z0, x1, z1, ar, ys, ts⟩ := r
    obtain ⟨ya, yc, ta, tc⟩ := h
    dsimp only [cfO, rcO, rcV, cfgV, flrV] at CF hC hR hB hW1 hwd AT2 LK HEl HEg HCell d1 d2 d3 d4 d5 d6 d7 d8 hN3 ⊢
    generalize ys.length = yn at hR hW1 AT2 HEl HEg ⊢
    generalize ts.length = tn at hR hW1 AT2 HEl HEg ⊢
    have hyn : yn ≤ yn := Nat.le_refl _
    have c0 := hcell (k := 0) (v := .int .i64 cl) hC rfl
    have c1 := hcell (k := 1) (v := .int .i64 climb) hC rfl
    have c2 := hcell (k := 2) (v := .int .i64 height) hC rfl
    have c3 := hcell (k := 3) (v := .int .i64 rise) hC rfl
    have c4 := hcell (k := 4) (v := .int .i64 run) hC rfl
    have c5 := hcell (k := 5) (v := .int .i64 cw) hC rfl
    have c6 := hcell (k := 6) (v := .int .i64 cd) hC rfl
    have t1 : ¬ x0 < 0 := by omega
    have t2 : ¬ x1 < x0 := by omega
    have t3 : ¬ 32 ≤ x1 := by omega
    have t4 : ¬ z0 < 0 := by omega
    have t5 : ¬ z1 < z0 := by omega
    have t6 : ¬ 32 ≤ z1 := by omega
    have t7 : ¬ ar < 1 := by omega
    have t8 : ¬ 7 < ar := by omega
    go_enter Try.func37, Try.ntmps37
    go_upto_region 1 with fail
    rw [← hW1, ← HTT.out]
    clear hW1
    go_wp2_with fail
    refine (CF.out _).mono ?_
    rintro e w1 ⟨rfl, hb1⟩
    have hB1 := hB.trans (hb1.mono hB.size)
    have hR1 := hkeep hb1 hR
    have hC1 := hkeep hb1 hC
    have hV1 := hb1
    clear c0 c1 c2 c3 c4 c5 c6 hC hR hb1 CF
    have r0 := hcell (k := 0) (v := .int .i64 x0) hR1 rfl
    have r1 := hcell (k := 1) (v := .int .i64 z0) hR1 rfl
    have r2 := hcell (k := 2) (v := .int .i64 x1) hR1 rfl
    have r3 := hcell (k := 3) (v := .int .i64 z1) hR1 rfl
    have r4 := hcell (k := 4) (v := .int .i64 ar) hR1 rfl
    have r5 := hcell (k := 5) (v := .slice ya yn yc) hR1 rfl
    have r6 := hcell (k := 6) (v := .slice ta tn tc) hR1 rfl
    have q0 : IntKind.i64.wrap (x1 - x0) = x1 - x0 := by rw [IntKind.wrap_i64]; omega
    have q4 : IntKind.i64.wrap (x1 - x0 + 1) = (W : Int) := by rw [IntKind.wrap_i64]; omega
    have q1 : IntKind.i64.wrap (z1 - z0) = z1 - z0 := by rw [IntKind.wrap_i64]; omega
    have q2 : IntKind.i64.wrap (z1 - z0 + 1) = z1 - z0 + 1 := by rw [IntKind.wrap_i64]; omega
    have q3 : IntKind.i64.wrap ((W : Int) * (z1 - z0 + 1)) = (N : Int) := by rw [IntKind.wrap_i64]; omega
    have HWD := Lib.hid hwd
    clear hwd
    go_upto_region 6 with fail
    clear t1 t2 t3 t4 t5 t6 t7 t8 r0 r2 r4 q0 q1 q2 q3 q4 r1 r3 r5 r6
    obtain ⟨w4, hw4⟩ : ∃ W, W = w1 := ⟨_, rfl⟩
    have hB4 := hB1
    have hV4 := hV1
    have hR4 := hR1
    have hC4 := hC1
    rw [← hw4] at hB4 hV4 hR4 hC4 ⊢
    clear hB hB1 hV1 hR1 hC1 hw4
    have r5 := hcell (k := 5) (v := .slice ya yn yc) hR4 rfl
    have r6 := hcell (k := 6) (v := .slice ta tn tc) hR4 rfl
    by_cases hl1 : yn = N
    rotate_left
    · have hd : ((yn : Int) != (N : Int)) = true := by rw [bne_iff_ne]; omega
      have hd2 : (yn != N) = true := by rw [bne_iff_ne]; exact hl1
      have hE2 := HEl.out (by rw [decide_eq_false hl1]; rfl)
      subst hE2
      clear hl1
      go_wp2
      go_ret
      exact ⟨rfl, hB4⟩
    by_cases hl2 : tn = N
    rotate_left
    · have hd : ((yn : Int) != (N : Int)) = false := by rw [hl1]; simp
      have hd2 : (yn != N) = false := by rw [hl1]; simp
      have hd3 : ((tn : Int) != (N : Int)) = true := by rw [bne_iff_ne]; omega
      have hd4 : (tn != N) = true := by rw [bne_iff_ne]; exact hl2
      have hE2 := HEl.out (by rw [decide_eq_false hl2, Bool.and_false])
      subst hE2
      clear hl1 hl2
      go_wp2
      go_ret
      exact ⟨rfl, hB4⟩
    subst hl1 hl2
    clear HEl
    have hV := hV4
    obtain ⟨D, hD⟩ : ∃ D : Nat, (D : Int) = z1 - z0 + 1 := ⟨(z1 - z0 + 1).toNat, by omega⟩
    have hDD : W * D = tn := by
      have : ((W * D : Nat) : Int) = (tn : Int) := by rw [Int.natCast_mul, hD]; exact hN3
      exact_mod_cast this
    have HDD := Lib.hid hDD
    clear hDD hN3
    have r1 := hcell (k := 1) (v := .int .i64 z0) hR4 rfl
    have r3 := hcell (k := 3) (v := .int .i64 z1) hR4 rfl
    go_wp2
    clear r1 r3 r5 r6
    go_loopw [6] (fun s6 wr => ∃ (kz : Nat) (Z : Int), s6 = .int .i64 Z ∧ Hid (Z = z0 + (kz : Int)) ∧ kz ≤ D ∧ Hid (∀ j, j < kz * W → CL j = true) ∧ Below w4.heap.size w4 wr) (fun s6 _ => (z1 + 1 - intOf s6).toNat)
    case atStart => exact ⟨0, z0, rfl, by show _ = _; simp, Nat.zero_le _, fun j hj => by omega, Below.refl _ _⟩
    case round =>
      obtain ⟨kz, Z, rfl, HZ, hkz, Hpre0, hbr⟩ := hrel
      have r3 := hcell (k := 3) (v := .int .i64 z1) (hkeep hbr hR4) rfl
      by_cases hlz : kz < D
      · have hltI : Z ≤ z1 := by have := HZ.out; omega
        have hZb : 0 ≤ Z ∧ Z ≤ 100000 := by have := HZ.out; omega
        have hz1w : IntKind.i64.wrap (Z + 1) = Z + 1 := by rw [IntKind.wrap_i64]; omega
        have hkW : kz * W + W ≤ tn := by
          have h1 : (kz + 1) * W ≤ D * W := Nat.mul_le_mul_right _ hlz
          rw [Nat.succ_mul, Nat.mul_comm D W, HDD.out] at h1
          exact h1
        have r0 := hcell (k := 0) (v := .int .i64 x0) (hkeep hbr hR4) rfl
        go_wp2
        clear r0 r3
        go_loopw [7] (fun s7 wq => ∃ (i : Nat) (X : Int), s7 = .int .i64 X ∧ Hid (X = x0 + (i : Int)) ∧ i ≤ W ∧ Hid (∀ j, j < kz * W + i → CL j = true) ∧ Below w4.heap.size w4 wq) (fun s7 _ => (x1 + 1 - intOf s7).toNat)
        case atStart => exact ⟨0, x0, rfl, by show _ = _; simp, Nat.zero_le _, Hpre0.out, hbr⟩
        case round =>
          clear Hpre0 hbr
          obtain ⟨i, X, rfl, HX, hi, Hpre, hbr⟩ := hrel
          have r2 := hcell (k := 2) (v := .int .i64 x1) (hkeep hbr hR4) rfl
          by_cases hlx : i < W
          · have hltX : X ≤ x1 := by have := HX.out; have := HWD.out; omega
            have hXb : 0 ≤ X ∧ X ≤ 100000 := by have := HX.out; omega
            have hx1w : IntKind.i64.wrap (X + 1) = X + 1 := by rw [IntKind.wrap_i64]; omega
            have hlk : kz * W + i < tn := by omega
            have Hnext : Hid (CL (kz * W + i) = true → ∀ j, j < kz * W + (i + 1) → CL j = true) := fun h0 j hj => by
              by_cases hjk : j = kz * W + i
              · rw [hjk]; exact h0
              · exact Hpre.out j (by omega)
            have HEb2 := Lib.hid (HEb.out (kz * W + i) hlk)
            have HCk0 := HCell.out (kz * W + i)
            have e1 : (kz * W + i) % W = i := by rw [Nat.mul_comm, Nat.mul_add_mod, Nat.mod_eq_of_lt hlx]
            have e2 : (kz * W + i) / W = kz := by rw [Nat.mul_comm, Nat.mul_add_div (by omega), Nat.div_eq_of_lt hlx, Nat.add_zero]
            rw [e1, e2, ← HX.out, ← HZ.out, HCol.out X Z] at HCk0
            have HCk := Lib.hid HCk0
            clear HCk0 e1 e2
            have hR5 := hkeep hbr hR4
            have hC5 := hkeep hbr hC4
            have hV5 := hV.trans (hbr.mono hV.size)
            have hB5 := hbr
            clear hbr
            go_upto_region 14 with fail
            clear r2
            have r0 := hcell (k := 0) (v := .int .i64 x0) hR5 rfl
            have r1 := hcell (k := 1) (v := .int .i64 z0) hR5 rfl
            have r2 := hcell (k := 2) (v := .int .i64 x1) hR5 rfl
            have r3 := hcell (k := 3) (v := .int .i64 z1) hR5 rfl
            have r4 := hcell (k := 4) (v := .int .i64 ar) hR5 rfl
            have r5 := hcell (k := 5) (v := .slice ya tn yc) hR5 rfl
            have r6 := hcell (k := 6) (v := .slice ta tn tc) hR5 rfl
            go_wp2_with fail
            refine (AT2.out (X) (Z) _ hV5).mono ?_
            rintro e w6 ⟨rfl, hb6⟩
            have hB6 := hB5.trans (hb6.mono hB5.size)
            have hR6 := hkeep hb6 hR5
            have hC6 := hkeep hb6 hC5
            have hV6 := hV5.trans (hb6.mono hV5.size)
            clear r0 r1 r2 r3 r4 r5 r6 hb6 hB5 hR5 hC5 hV5
            obtain ⟨f, hf⟩ : ∃ f, f = F X Z := ⟨_, rfl⟩
            rw [← hf] at HCk ⊢
            clear hf
            obtain ⟨w7, hw7⟩ : ∃ W, W = w6.alloc (.cells #[.int .i64 f.y, .int .i64 f.top, .int .i64 f.area] 102 (0, 0)) := ⟨_, rfl⟩
            have hA : Below w6.heap.size w6 (w6.alloc (.cells #[.int .i64 f.y, .int .i64 f.top, .int .i64 f.area] 102 (0, 0))) := (Below.refl _ _).alloc (Nat.le_refl _) _
            have hP7 := World.alloc_heap_new w6 (.cells #[.int .i64 f.y, .int .i64 f.top, .int .i64 f.area] 102 (0, 0))
            rw [← hw7] at hA hP7
            obtain ⟨P, hPP⟩ : ∃ P, P = w6.heap.size := ⟨_, rfl⟩
            rw [← hPP] at hP7
            have HPP := Lib.hid hPP
            clear hPP
            have hB7 := hB6.trans (hA.mono hB6.size)
            have hR7 := hkeep hA hR6
            have hC7 := hkeep hA hC6
            have hV7 := hV6.trans (hA.mono hV6.size)
            clear hA hB6 hR6 hC6 hV6
            go_upto_region 15 with fail
            rw [← hw7, ← HPP.out]
            clear hw7 HPP
            have f0 := hcell (k := 0) (v := .int .i64 f.y) hP7 rfl
            have f1 := hcell (k := 1) (v := .int .i64 f.top) hP7 rfl
            by_cases b1 : f.y < -2048
            · have hE2 := HEb2.out (by rw [HCk.out]; rw [show hgtB f = false from by unfold hgtB; rw [decide_eq_false (show ¬ -2048 ≤ f.y by omega)]; rfl]; rfl)
              subst hE2
              have hB9 := hB4.trans (hB7.mono hB4.size)
              go_wp2
              go_ret
              exact ⟨rfl, hB9⟩
            by_cases b2 : 2048 < f.y
            · have hE2 := HEb2.out (by rw [HCk.out]; rw [show hgtB f = false from by unfold hgtB; rw [decide_eq_false (show ¬ f.y ≤ 2048 by omega), Bool.and_false]; rfl]; rfl)
              subst hE2
              have hB9 := hB4.trans (hB7.mono hB4.size)
              go_wp2
              go_ret
              exact ⟨rfl, hB9⟩
            by_cases b3 : f.top ≤ f.y
            · have hE2 := HEb2.out (by rw [HCk.out]; rw [show hgtB f = false from by unfold hgtB; rw [decide_eq_false (show ¬ f.y < f.top by omega), Bool.and_false]; rfl]; rfl)
              subst hE2
              have hB9 := hB4.trans (hB7.mono hB4.size)
              go_wp2
              go_ret
              exact ⟨rfl, hB9⟩
            by_cases b4 : 1048576 < f.top
            · have hE2 := HEb2.out (by rw [HCk.out]; rw [show hgtB f = false from by unfold hgtB; rw [decide_eq_false (show ¬ f.top ≤ 1048576 by omega), Bool.and_false]]; rfl)
              subst hE2
              have hB9 := hB4.trans (hB7.mono hB4.size)
              go_wp2
              go_ret
              exact ⟨rfl, hB9⟩
            have hh : hgtB f = true := by unfold hgtB; rw [decide_eq_true (show -2048 ≤ f.y by omega), decide_eq_true (show f.y ≤ 2048 by omega), decide_eq_true (show f.y < f.top by omega), decide_eq_true (show f.top ≤ 1048576 by omega)]; rfl
            rw [hh, Bool.true_and] at HCk
            clear hh
            have HLB := Lib.hid (LB.out f)
            have r0 := hcell (k := 0) (v := .int .i64 x0) hR7 rfl
            have r1 := hcell (k := 1) (v := .int .i64 z0) hR7 rfl
            have r2 := hcell (k := 2) (v := .int .i64 x1) hR7 rfl
            have r3 := hcell (k := 3) (v := .int .i64 z1) hR7 rfl
            have r4 := hcell (k := 4) (v := .int .i64 ar) hR7 rfl
            have r5 := hcell (k := 5) (v := .slice ya tn yc) hR7 rfl
            have r6 := hcell (k := 6) (v := .slice ta tn tc) hR7 rfl
            go_wp2_with fail
            refine (AT2.out (X + 1) (Z) _ hV7).mono ?_
            rintro e w8 ⟨rfl, hb8⟩
            have hB8 := hB7.trans (hb8.mono hB7.size)
            have hR8 := hkeep hb8 hR7
            have hC8 := hkeep hb8 hC7
            have hV8 := hV7.trans (hb8.mono hV7.size)
            have hP8 := hkeep hb8 hP7
            clear r0 r1 r2 r3 r4 r5 r6 hb8 hB7 hR7 hC7 hV7 hP7
            have HO0 := Lib.hid (HF.out (X + 1) (Z))
            obtain ⟨o0, ho0⟩ : ∃ o, o = O (X + 1) (Z) := ⟨_, rfl⟩
            rw [← ho0] at HCk HO0 ⊢
            clear ho0
            obtain ⟨g0, hg0⟩ : ∃ g, g = F (X + 1) (Z) := ⟨_, rfl⟩
            rw [← hg0] at HO0 ⊢
            clear hg0
            obtain ⟨w9, hw9⟩ : ∃ W, W = w8.alloc (.cells #[.int .i64 g0.y, .int .i64 g0.top, .int .i64 g0.area] 102 (0, 0)) := ⟨_, rfl⟩
            have hA : Below w8.heap.size w8 (w8.alloc (.cells #[.int .i64 g0.y, .int .i64 g0.top, .int .i64 g0.area] 102 (0, 0))) := (Below.refl _ _).alloc (Nat.le_refl _) _
            have hQ9 := World.alloc_heap_new w8 (.cells #[.int .i64 g0.y, .int .i64 g0.top, .int .i64 g0.area] 102 (0, 0))
            rw [← hw9] at hA hQ9
            obtain ⟨Q0, hPP⟩ : ∃ P, P = w8.heap.size := ⟨_, rfl⟩
            rw [← hPP] at hQ9
            have HPP := Lib.hid hPP
            clear hPP
            have hB9 := hB8.trans (hA.mono hB8.size)
            have hR9 := hkeep hA hR8
            have hC9 := hkeep hA hC8
            have hV9 := hV8.trans (hA.mono hV8.size)
            have hP9 := hkeep hA hP8
            clear hA hB8 hR8 hC8 hV8 hP8
            go_upto_region 18 with fail
            rw [← hw9, ← HPP.out]
            clear hw9 HPP
            cases o0 with
            | none =>
              have hLB := HLB.out none
              dsimp only at hLB
              rw [hLB, Bool.true_and] at HCk
              clear hLB hQ9 HO0
              have r0 := hcell (k := 0) (v := .int .i64 x0) hR9 rfl
              have r1 := hcell (k := 1) (v := .int .i64 z0) hR9 rfl
              have r2 := hcell (k := 2) (v := .int .i64 x1) hR9 rfl
              have r3 := hcell (k := 3) (v := .int .i64 z1) hR9 rfl
              have r4 := hcell (k := 4) (v := .int .i64 ar) hR9 rfl
              have r5 := hcell (k := 5) (v := .slice ya tn yc) hR9 rfl
              have r6 := hcell (k := 6) (v := .slice ta tn tc) hR9 rfl
              go_wp2_with fail
              refine (AT2.out (X) (Z + 1) _ hV9).mono ?_
              rintro e w10 ⟨rfl, hb10⟩
              have hB10 := hB9.trans (hb10.mono hB9.size)
              have hR10 := hkeep hb10 hR9
              have hC10 := hkeep hb10 hC9
              have hV10 := hV9.trans (hb10.mono hV9.size)
              have hP10 := hkeep hb10 hP9
              clear r0 r1 r2 r3 r4 r5 r6 hb10 hB9 hR9 hC9 hV9 hP9
              have HO1 := Lib.hid (HF.out (X) (Z + 1))
              obtain ⟨o1, ho1⟩ : ∃ o, o = O (X) (Z + 1) := ⟨_, rfl⟩
              rw [← ho1] at HCk HO1 ⊢
              clear ho1
              obtain ⟨g1, hg1⟩ : ∃ g, g = F (X) (Z + 1) := ⟨_, rfl⟩
              rw [← hg1] at HO1 ⊢
              clear hg1
              obtain ⟨w11, hw11⟩ : ∃ W, W = w10.alloc (.cells #[.int .i64 g1.y, .int .i64 g1.top, .int .i64 g1.area] 102 (0, 0)) := ⟨_, rfl⟩
              have hA : Below w10.heap.size w10 (w10.alloc (.cells #[.int .i64 g1.y, .int .i64 g1.top, .int .i64 g1.area] 102 (0, 0))) := (Below.refl _ _).alloc (Nat.le_refl _) _
              have hQ11 := World.alloc_heap_new w10 (.cells #[.int .i64 g1.y, .int .i64 g1.top, .int .i64 g1.area] 102 (0, 0))
              rw [← hw11] at hA hQ11
              obtain ⟨Q1, hPP⟩ : ∃ P, P = w10.heap.size := ⟨_, rfl⟩
              rw [← hPP] at hQ11
              have HPP := Lib.hid hPP
              clear hPP
              have hB11 := hB10.trans (hA.mono hB10.size)
              have hR11 := hkeep hA hR10
              have hC11 := hkeep hA hC10
              have hV11 := hV10.trans (hA.mono hV10.size)
              have hP11 := hkeep hA hP10
              clear hA hB10 hR10 hC10 hV10 hP10
              go_upto_region 21 with fail
              rw [← hw11, ← HPP.out]
              clear hw11 HPP
              cases o1 with
              | none =>
                have hLB := HLB.out none
                dsimp only at hLB
                rw [hLB] at HCk
                clear hLB hQ11 HO1
                go_wp2
                go_roundw
                case rel => exact ⟨i + 1, X + 1, rfl, by show _ = _; have := HX.out; push_cast; omega, by omega, Hnext.out (by rw [HCk.out]), hB11⟩
                case measure => simp [intOf]; omega
              | some g =>
                have e1 : g1 = g := HO1.out g rfl
                subst e1
                have hLB := HLB.out (some g1)
                dsimp only at hLB
                rw [hLB] at HCk
                clear hLB HO1
                have c0 := hcell (k := 0) (v := .int .i64 cl) hC11 rfl
                have c1 := hcell (k := 1) (v := .int .i64 climb) hC11 rfl
                have c2 := hcell (k := 2) (v := .int .i64 height) hC11 rfl
                have c3 := hcell (k := 3) (v := .int .i64 rise) hC11 rfl
                have c4 := hcell (k := 4) (v := .int .i64 run) hC11 rfl
                have c5 := hcell (k := 5) (v := .int .i64 cw) hC11 rfl
                have c6 := hcell (k := 6) (v := .int .i64 cd) hC11 rfl
                have f0 := hcell (k := 0) (v := .int .i64 f.y) hP11 rfl
                have q0 := hcell (k := 0) (v := .int .i64 g1.y) hQ11 rfl
                have f1 := hcell (k := 1) (v := .int .i64 f.top) hP11 rfl
                have q1 := hcell (k := 1) (v := .int .i64 g1.top) hQ11 rfl
                have f2 := hcell (k := 2) (v := .int .i64 f.area) hP11 rfl
                have q2 := hcell (k := 2) (v := .int .i64 g1.area) hQ11 rfl
                have LK1 := Lib.hid (LK.out f g1)
                generalize LN f g1 = bb at LK1 HCk
                go_wp2_with fail
                refine (LK1.out _).mono ?_
                rintro e w12 ⟨rfl, hb12⟩
                have hB12 := hB11.trans (hb12.mono hB11.size)
                have hR12 := hkeep hb12 hR11
                have hC12 := hkeep hb12 hC11
                have hV12 := hV11.trans (hb12.mono hV11.size)
                have hP12 := hkeep hb12 hP11
                clear c0 c1 c2 c3 c4 c5 c6 f0 f1 f2 q0 q1 q2 hb12 hQ11 hB11 hR11 hC11 hV11 hP11
                cases bb with
                | false =>
                  have hE2 := HEb2.out (by rw [HCk.out]; try rfl)
                  subst hE2
                  have hB9 := hB4.trans (hB12.mono hB4.size)
                  go_wp2
                  go_ret
                  exact ⟨rfl, hB9⟩
                | true =>
                  go_wp2
                  go_roundw
                  case rel => exact ⟨i + 1, X + 1, rfl, by show _ = _; have := HX.out; push_cast; omega, by omega, Hnext.out (by rw [HCk.out]), hB12⟩
                  case measure => simp [intOf]; omega
            | some g =>
              have e1 : g0 = g := HO0.out g rfl
              subst e1
              have hLB := HLB.out (some g0)
              dsimp only at hLB
              rw [hLB] at HCk
              clear hLB HO0
              have c0 := hcell (k := 0) (v := .int .i64 cl) hC9 rfl
              have c1 := hcell (k := 1) (v := .int .i64 climb) hC9 rfl
              have c2 := hcell (k := 2) (v := .int .i64 height) hC9 rfl
              have c3 := hcell (k := 3) (v := .int .i64 rise) hC9 rfl
              have c4 := hcell (k := 4) (v := .int .i64 run) hC9 rfl
              have c5 := hcell (k := 5) (v := .int .i64 cw) hC9 rfl
              have c6 := hcell (k := 6) (v := .int .i64 cd) hC9 rfl
              have f0 := hcell (k := 0) (v := .int .i64 f.y) hP9 rfl
              have q0 := hcell (k := 0) (v := .int .i64 g0.y) hQ9 rfl
              have f1 := hcell (k := 1) (v := .int .i64 f.top) hP9 rfl
              have q1 := hcell (k := 1) (v := .int .i64 g0.top) hQ9 rfl
              have f2 := hcell (k := 2) (v := .int .i64 f.area) hP9 rfl
              have q2 := hcell (k := 2) (v := .int .i64 g0.area) hQ9 rfl
              have LK0 := Lib.hid (LK.out f g0)
              generalize LN f g0 = bb at LK0 HCk
              go_wp2_with fail
              refine (LK0.out _).mono ?_
              rintro e w10 ⟨rfl, hb10⟩
              have hB10 := hB9.trans (hb10.mono hB9.size)
              have hR10 := hkeep hb10 hR9
              have hC10 := hkeep hb10 hC9
              have hV10 := hV9.trans (hb10.mono hV9.size)
              have hP10 := hkeep hb10 hP9
              clear c0 c1 c2 c3 c4 c5 c6 f0 f1 f2 q0 q1 q2 hb10 hQ9 hB9 hR9 hC9 hV9 hP9
              cases bb with
              | false =>
                have hE2 := HEb2.out (by rw [HCk.out]; try rfl)
                subst hE2
                have hB9 := hB4.trans (hB10.mono hB4.size)
                go_wp2
                go_ret
                exact ⟨rfl, hB9⟩
              | true =>
                rw [Bool.true_and] at HCk
                have r0 := hcell (k := 0) (v := .int .i64 x0) hR10 rfl
                have r1 := hcell (k := 1) (v := .int .i64 z0) hR10 rfl
                have r2 := hcell (k := 2) (v := .int .i64 x1) hR10 rfl
                have r3 := hcell (k := 3) (v := .int .i64 z1) hR10 rfl
                have r4 := hcell (k := 4) (v := .int .i64 ar) hR10 rfl
                have r5 := hcell (k := 5) (v := .slice ya tn yc) hR10 rfl
                have r6 := hcell (k := 6) (v := .slice ta tn tc) hR10 rfl
                go_wp2_with fail
                refine (AT2.out (X) (Z + 1) _ hV10).mono ?_
                rintro e w11 ⟨rfl, hb11⟩
                have hB11 := hB10.trans (hb11.mono hB10.size)
                have hR11 := hkeep hb11 hR10
                have hC11 := hkeep hb11 hC10
                have hV11 := hV10.trans (hb11.mono hV10.size)
                have hP11 := hkeep hb11 hP10
                clear r0 r1 r2 r3 r4 r5 r6 hb11 hB10 hR10 hC10 hV10 hP10
                have HO1 := Lib.hid (HF.out (X) (Z + 1))
                obtain ⟨o1, ho1⟩ : ∃ o, o = O (X) (Z + 1) := ⟨_, rfl⟩
                rw [← ho1] at HCk HO1 ⊢
                clear ho1
                obtain ⟨g1, hg1⟩ : ∃ g, g = F (X) (Z + 1) := ⟨_, rfl⟩
                rw [← hg1] at HO1 ⊢
                clear hg1
                obtain ⟨w12, hw12⟩ : ∃ W, W = w11.alloc (.cells #[.int .i64 g1.y, .int .i64 g1.top, .int .i64 g1.area] 102 (0, 0)) := ⟨_, rfl⟩
                have hA : Below w11.heap.size w11 (w11.alloc (.cells #[.int .i64 g1.y, .int .i64 g1.top, .int .i64 g1.area] 102 (0, 0))) := (Below.refl _ _).alloc (Nat.le_refl _) _
                have hQ12 := World.alloc_heap_new w11 (.cells #[.int .i64 g1.y, .int .i64 g1.top, .int .i64 g1.area] 102 (0, 0))
                rw [← hw12] at hA hQ12
                obtain ⟨Q1, hPP⟩ : ∃ P, P = w11.heap.size := ⟨_, rfl⟩
                rw [← hPP] at hQ12
                have HPP := Lib.hid hPP
                clear hPP
                have hB12 := hB11.trans (hA.mono hB11.size)
                have hR12 := hkeep hA hR11
                have hC12 := hkeep hA hC11
                have hV12 := hV11.trans (hA.mono hV11.size)
                have hP12 := hkeep hA hP11
                clear hA hB11 hR11 hC11 hV11 hP11
                go_upto_region 21 with fail
                rw [← hw12, ← HPP.out]
                clear hw12 HPP
                cases o1 with
                | none =>
                  have hLB := HLB.out none
                  dsimp only at hLB
                  rw [hLB] at HCk
                  clear hLB hQ12 HO1
                  go_wp2
                  go_roundw
                  case rel => exact ⟨i + 1, X + 1, rfl, by show _ = _; have := HX.out; push_cast; omega, by omega, Hnext.out (by rw [HCk.out]), hB12⟩
                  case measure => simp [intOf]; omega
                | some g =>
                  have e1 : g1 = g := HO1.out g rfl
                  subst e1
                  have hLB := HLB.out (some g1)
                  dsimp only at hLB
                  rw [hLB] at HCk
                  clear hLB HO1
                  have c0 := hcell (k := 0) (v := .int .i64 cl) hC12 rfl
                  have c1 := hcell (k := 1) (v := .int .i64 climb) hC12 rfl
                  have c2 := hcell (k := 2) (v := .int .i64 height) hC12 rfl
                  have c3 := hcell (k := 3) (v := .int .i64 rise) hC12 rfl
                  have c4 := hcell (k := 4) (v := .int .i64 run) hC12 rfl
                  have c5 := hcell (k := 5) (v := .int .i64 cw) hC12 rfl
                  have c6 := hcell (k := 6) (v := .int .i64 cd) hC12 rfl
                  have f0 := hcell (k := 0) (v := .int .i64 f.y) hP12 rfl
                  have q0 := hcell (k := 0) (v := .int .i64 g1.y) hQ12 rfl
                  have f1 := hcell (k := 1) (v := .int .i64 f.top) hP12 rfl
                  have q1 := hcell (k := 1) (v := .int .i64 g1.top) hQ12 rfl
                  have f2 := hcell (k := 2) (v := .int .i64 f.area) hP12 rfl
                  have q2 := hcell (k := 2) (v := .int .i64 g1.area) hQ12 rfl
                  have LK1 := Lib.hid (LK.out f g1)
                  generalize LN f g1 = bb at LK1 HCk
                  go_wp2_with fail
                  refine (LK1.out _).mono ?_
                  rintro e w13 ⟨rfl, hb13⟩
                  have hB13 := hB12.trans (hb13.mono hB12.size)
                  have hR13 := hkeep hb13 hR12
                  have hC13 := hkeep hb13 hC12
                  have hV13 := hV12.trans (hb13.mono hV12.size)
                  have hP13 := hkeep hb13 hP12
                  clear c0 c1 c2 c3 c4 c5 c6 f0 f1 f2 q0 q1 q2 hb13 hQ12 hB12 hR12 hC12 hV12 hP12
                  cases bb with
                  | false =>
                    have hE2 := HEb2.out (by rw [HCk.out]; try rfl)
                    subst hE2
                    have hB9 := hB4.trans (hB13.mono hB4.size)
                    go_wp2
                    go_ret
                    exact ⟨rfl, hB9⟩
                  | true =>
                    go_wp2
                    go_roundw
                    case rel => exact ⟨i + 1, X + 1, rfl, by show _ = _; have := HX.out; push_cast; omega, by omega, Hnext.out (by rw [HCk.out]), hB13⟩
                    case measure => simp [intOf]; omega
          · have hltX : ¬ X ≤ x1 := by have := HX.out; have := HWD.out; omega
            obtain rfl : i = W := by omega
            go_wp2
            go_roundw
            case rel => exact ⟨kz + 1, Z + 1, rfl, by show _ = _; have := HZ.out; push_cast; omega, by omega, by rw [Nat.succ_mul]; exact Hpre.out, hbr⟩
            case measure => simp [intOf]; omega
      · have hltI : ¬ Z ≤ z1 := by have := HZ.out; omega
        obtain rfl : kz = D := by omega
        have hE2 := HEg.out (by simp) (fun j hj => Hpre0.out j (by rw [Nat.mul_comm, HDD.out]; exact hj))
        subst hE2
        have hB9 := hB4.trans (hbr.mono hB4.size)
        go_wp2
        go_ret
        exact ⟨rfl, hB9⟩
end Go.Proofs.Ytgfmdgiepomkiaa
