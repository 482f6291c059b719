/- Walks: package rects: Check. -/
import Derived.Test.YtmgkkmcihplojaaGreatRctA
import Derived.Test.YtmgkkmcihplojaaGreatLnk
namespace Go.Proofs.YtmgkkmcihplojaaGreat
open Go.RowKit
attribute [local go_sem] Instr.index

abbrev cfO (c : Cfg) : Obj := .cells #[.int .i64 c.clear, .int .i64 c.climb, .int .i64 c.height, .int .i64 c.rise, .int .i64 c.run, .int .i64 c.w, .int .i64 c.d] 23 (0, 0)
theorem rcAt_some {r : Rc} {x z : Int} {f : Flr} (h : rcAt r x z = some f) : rcF r x z = f := by unfold rcF; rw [h]; rfl
set_option maxRecDepth 100000 in
set_option maxHeartbeats 16000000 in
theorem rccheck_any (cf : Cfg) (h : RHd) (r : Rc) (w : World) (hs : RcSl w h r) :
    Calls Tryz.prog 41 #[cfgV cf, rcV h r] w fun e w' => e = .returned (.int .i64 (rcE cf r)) ∧ Below w.heap.size w w' := by
  have CF := Lib.hid (fun W => cfgcheck_any cf W)
  have LK := Lib.hid (fun f g W => linked_any cf f g W)
  have AT := Lib.hid (fun x z W hW => rcat_any h r x z W hW)
  have ST0 : Hid (∀ W, Calls Tryz.prog 57 #[.int .i64 0] W fun e w' => e = .returned (.tuple #[.int .i64 1, .int .i64 0, .bool true]) ∧ Below W.heap.size W w') := fun W => step_any 0 W (by decide)
  have ST1 : Hid (∀ W, Calls Tryz.prog 57 #[.int .i64 1] W fun e w' => e = .returned (.tuple #[.int .i64 0, .int .i64 1, .bool true]) ∧ Below W.heap.size W w') := fun W => step_any 1 W (by decide)
  have WD := Lib.hid (fun B W hW h1 h2 => wide_any h r B W hW h1 h2)
  obtain ⟨W1, hW1⟩ : ∃ W, W = (w.alloc (cfO cf)).alloc (rcO h r) := ⟨_, rfl⟩
  have hC := halloc (World.alloc_heap_new w (cfO cf)) (rcO h r)
  have hR := World.alloc_heap_new (w.alloc (cfO cf)) (rcO h r)
  have hB : Below w.heap.size w ((w.alloc (cfO cf)).alloc (rcO h r)) := ((Below.refl _ _).alloc (Nat.le_refl _) _).alloc (by simp) _
  simp only [World.size_alloc] at hR
  rw [← hW1] at hC hR hB
  have Hs := Lib.hid (hs.below hB (Nat.le_refl _))
  clear hs
  obtain ⟨T, hTT⟩ : ∃ T, T = w.heap.size := ⟨_, rfl⟩
  rw [← hTT] at hC hR
  have HTT := Lib.hid hTT
  clear hTT
  obtain ⟨E, hE⟩ : ∃ E, E = rcE cf r := ⟨_, rfl⟩
  rw [← hE]
  cases hcf : cfgOk cf with
  | false =>
    have h0 : cfgE cf = 20 := by unfold cfgE; rw [hcf]; rfl
    rw [h0] at CF
    have hE2 : E = 20 := by rw [hE]; unfold rcE; rw [hcf]; rfl
    subst hE2
    clear hE h0 hcf AT WD LK Hs
    obtain ⟨cl, climb, height, rise, run, cw, cd⟩ := cf
    dsimp only [cfO, rcO, rcV, cfgV] at CF hC hR hB hW1 ⊢
    have c0 := hcell (k := 0) (v := .int .i64 cl) hC rfl
    have c1 := hcell (k := 1) (v := .int .i64 climb) hC rfl
    have c2 := hcell (k := 2) (v := .int .i64 height) hC rfl
    have c3 := hcell (k := 3) (v := .int .i64 rise) hC rfl
    have c4 := hcell (k := 4) (v := .int .i64 run) hC rfl
    have c5 := hcell (k := 5) (v := .int .i64 cw) hC rfl
    have c6 := hcell (k := 6) (v := .int .i64 cd) hC rfl
    go_enter Tryz.func41, Tryz.ntmps41
    go_upto_region 1 with fail
    rw [← hW1, ← HTT.out]
    clear hW1
    go_wp2_with fail
    refine (CF.out _).mono ?_
    rintro e w1 ⟨rfl, hb1⟩
    have hB1 := hB.trans (hb1.mono hB.size)
    go_wp2
    go_ret
    exact ⟨rfl, hB1⟩
  | true =>
  have h0 : cfgE cf = 0 := by unfold cfgE; rw [hcf]; rfl
  rw [h0] at CF
  clear h0
  cases hbd : rcBd r with
  | false =>
    have hE2 : E = 2 := by rw [hE, rcE_bd hcf hbd]
    subst hE2
    have HBD : Hid (rcBd r = false) := hbd
    clear hE hcf AT WD LK Hs hbd
    obtain ⟨cl, climb, height, rise, run, cw, cd⟩ := cf
    obtain ⟨x0, z0, x1, z1, ar, ys, ts⟩ := r
    obtain ⟨ya, yc, ta, tc⟩ := h
    dsimp only [cfO, rcO, rcV, cfgV] at CF hC hR hB hW1 ⊢
    generalize ys.length = yn at hR hW1 ⊢
    generalize ts.length = tn at hR hW1 ⊢
    have c0 := hcell (k := 0) (v := .int .i64 cl) hC rfl
    have c1 := hcell (k := 1) (v := .int .i64 climb) hC rfl
    have c2 := hcell (k := 2) (v := .int .i64 height) hC rfl
    have c3 := hcell (k := 3) (v := .int .i64 rise) hC rfl
    have c4 := hcell (k := 4) (v := .int .i64 run) hC rfl
    have c5 := hcell (k := 5) (v := .int .i64 cw) hC rfl
    have c6 := hcell (k := 6) (v := .int .i64 cd) hC rfl
    go_enter Tryz.func41, Tryz.ntmps41
    go_upto_region 1 with fail
    rw [← hW1, ← HTT.out]
    clear hW1
    go_wp2_with fail
    refine (CF.out _).mono ?_
    rintro e w1 ⟨rfl, hb1⟩
    have hB1 := hB.trans (hb1.mono hB.size)
    have hR1 := hkeep hb1 hR
    clear c0 c1 c2 c3 c4 c5 c6 hC hR hB hb1
    have r0 := hcell (k := 0) (v := .int .i64 x0) hR1 rfl
    have r1 := hcell (k := 1) (v := .int .i64 z0) hR1 rfl
    have r2 := hcell (k := 2) (v := .int .i64 x1) hR1 rfl
    have r3 := hcell (k := 3) (v := .int .i64 z1) hR1 rfl
    have r4 := hcell (k := 4) (v := .int .i64 ar) hR1 rfl
    have r5 := hcell (k := 5) (v := .slice ya yn yc) hR1 rfl
    have r6 := hcell (k := 6) (v := .slice ta tn tc) hR1 rfl
    clear r5 r6 hR1
    by_cases b0 : x0 < 0
    · clear HBD
      go_wp2
      go_ret
      exact ⟨rfl, hB1⟩
    by_cases b1 : x1 < x0
    · clear HBD
      go_wp2
      go_ret
      exact ⟨rfl, hB1⟩
    by_cases b2 : 32 ≤ x1
    · clear HBD
      go_wp2
      go_ret
      exact ⟨rfl, hB1⟩
    by_cases b3 : z0 < 0
    · clear HBD
      go_wp2
      go_ret
      exact ⟨rfl, hB1⟩
    by_cases b4 : z1 < z0
    · clear HBD
      go_wp2
      go_ret
      exact ⟨rfl, hB1⟩
    by_cases b5 : 32 ≤ z1
    · clear HBD
      go_wp2
      go_ret
      exact ⟨rfl, hB1⟩
    by_cases b6 : ar < 1
    · clear HBD
      go_wp2
      go_ret
      exact ⟨rfl, hB1⟩
    by_cases b7 : 7 < ar
    · clear HBD
      go_wp2
      go_ret
      exact ⟨rfl, hB1⟩
    exact absurd HBD.out (by rw [Bool.not_eq_false, rcBd_iff]; dsimp only; omega)
  | true =>
    obtain ⟨d1, d2, d3, d4, d5, d6, d7, d8⟩ := rcBd_iff.1 hbd
    obtain ⟨n1, n2, n3⟩ := rcN_bd hbd
    have hwb : 1 ≤ rcW r ∧ rcW r ≤ 32 := by unfold rcW; omega
    have WD2 := Lib.hid (fun B W hW => WD.out B W hW (by omega) (by omega))
    have HEl := Lib.hid (fun (h : rcLens r = false) => hE.trans (rcE_len hcf h))
    have HEb := Lib.hid (fun (k : Nat) (hk : k < rcN r) (h : rcCell cf r k = false) => hE.trans (rcE_bad hcf hk h))
    have HEg := Lib.hid (fun (hl : rcLens r = true) (h : ∀ k, k < rcN r → rcCell cf r k = true) => hE.trans (rcE_good hcf hbd hl h))
    have HCell0 : ∀ k, rcCell cf r k = rcCol cf r (r.x0 + ((k % (rcW r).toNat : Nat) : Int)) (r.z0 + ((k / (rcW r).toNat : Nat) : Int)) := fun k => rfl
    have HCol := Lib.hid (fun x z => show rcCol cf r x z = (hgtB (rcF r x z) && toB cf (rcF r x z) (rcAt r (x + 1) z) && toB cf (rcF r x z) (rcAt r x (z + 1))) from rfl)
    have HCell := Lib.hid HCell0
    clear HCell0
    clear hE hcf hbd WD
    have hN3 : rcW r * (r.z1 - r.z0 + 1) = ((rcN r : Nat) : Int) := n3.symm
    have HF := Lib.hid (fun x z f => rcAt_some (r := r) (x := x) (z := z) (f := f))
    clear n3
    have hlens : rcLens r = (decide (r.ys.length = rcN r) && decide (r.ts.length = rcN r)) := rfl
    rw [hlens] at HEl HEg
    clear hlens
    generalize rcN r = N at n1 n2 hN3 HEl HEb HEg
    generalize rcW r = wd at hwb WD2 hN3 HCell
    obtain ⟨W, rfl⟩ := Int.eq_ofNat_of_zero_le (show 0 ≤ wd by omega)
    rw [Int.toNat_natCast] at HCell
    obtain ⟨F, hF⟩ : ∃ F : Int → Int → Flr, F = rcF r := ⟨_, rfl⟩
    obtain ⟨O, hO⟩ : ∃ O : Int → Int → Option Flr, O = rcAt r := ⟨_, rfl⟩
    have hFx : ∀ x z, rcF r x z = F x z := fun x z => by rw [hF]
    have hOx : ∀ x z, rcAt r x z = O x z := fun x z => by rw [hO]
    simp only [hFx, hOx] at AT HCol HF
    clear hF hO hFx hOx
    obtain ⟨CL, hCL⟩ : ∃ CL : Nat → Bool, CL = rcCell cf r := ⟨_, rfl⟩
    obtain ⟨CO, hCO⟩ : ∃ CO : Int → Int → Bool, CO = rcCol cf r := ⟨_, rfl⟩
    have hCOx : ∀ x z, rcCol cf r x z = CO x z := fun x z => by rw [hCO]
    have hCLx : ∀ k, rcCell cf r k = CL k := fun k => by rw [hCL]
    simp only [hCOx, hCLx] at HEb HEg HCell HCol
    clear hCL hCO hCOx hCLx
    have LB0 : ∀ f o, toB cf f o = (match o with | some g => lnk cf f g | none => true) := fun f o => rfl
    obtain ⟨LN, hLN⟩ : ∃ LN : Flr → Flr → Bool, LN = lnk cf := ⟨_, rfl⟩
    have hLNx : ∀ f g, lnk cf f g = LN f g := fun f g => by rw [hLN]
    simp only [hLNx] at LB0 LK
    clear hLN hLNx
    obtain ⟨TB, hTB⟩ : ∃ TB : Flr → Option Flr → Bool, TB = toB cf := ⟨_, rfl⟩
    have hTBx : ∀ f o, toB cf f o = TB f o := fun f o => by rw [hTB]
    simp only [hTBx] at LB0 HCol
    have LB := Lib.hid LB0
    clear LB0
    clear hTB hTBx
    obtain ⟨cl, climb, height, rise, run, cw, cd⟩ := cf
    have RS : ∀ W', Below W1.heap.size W1 W' → RcSl W' h r := fun W' hb => Hs.out.below hb (Nat.le_refl _)
    have AT2 := Lib.hid (fun x z W' hb => AT.out x z W' (RS W' hb))
    clear AT RS Hs
    obtain ⟨x0, z0, x1, z1, ar, ys, ts⟩ := r
    obtain ⟨ya, yc, ta, tc⟩ := h
    dsimp only [cfO, rcO, rcV, cfgV, flrV] at CF hC hR hB hW1 WD2 AT2 LK HEl HEg HCell d1 d2 d3 d4 d5 d6 d7 d8 hN3 ⊢
    generalize ys.length = yn at hR hW1 WD2 AT2 HEl HEg ⊢
    generalize ts.length = tn at hR hW1 WD2 AT2 HEl HEg ⊢
    have hyn : yn ≤ yn := Nat.le_refl _
    have c0 := hcell (k := 0) (v := .int .i64 cl) hC rfl
    have c1 := hcell (k := 1) (v := .int .i64 climb) hC rfl
    have c2 := hcell (k := 2) (v := .int .i64 height) hC rfl
    have c3 := hcell (k := 3) (v := .int .i64 rise) hC rfl
    have c4 := hcell (k := 4) (v := .int .i64 run) hC rfl
    have c5 := hcell (k := 5) (v := .int .i64 cw) hC rfl
    have c6 := hcell (k := 6) (v := .int .i64 cd) hC rfl
    have t1 : ¬ x0 < 0 := by omega
    have t2 : ¬ x1 < x0 := by omega
    have t3 : ¬ 32 ≤ x1 := by omega
    have t4 : ¬ z0 < 0 := by omega
    have t5 : ¬ z1 < z0 := by omega
    have t6 : ¬ 32 ≤ z1 := by omega
    have t7 : ¬ ar < 1 := by omega
    have t8 : ¬ 7 < ar := by omega
    go_enter Tryz.func41, Tryz.ntmps41
    go_upto_region 1 with fail
    rw [← hW1, ← HTT.out]
    clear hW1
    go_wp2_with fail
    refine (CF.out _).mono ?_
    rintro e w1 ⟨rfl, hb1⟩
    have hB1 := hB.trans (hb1.mono hB.size)
    have hR1 := hkeep hb1 hR
    have hC1 := hkeep hb1 hC
    have hV1 := hb1
    clear c0 c1 c2 c3 c4 c5 c6 hC hR hb1 CF
    have r0 := hcell (k := 0) (v := .int .i64 x0) hR1 rfl
    have r1 := hcell (k := 1) (v := .int .i64 z0) hR1 rfl
    have r2 := hcell (k := 2) (v := .int .i64 x1) hR1 rfl
    have r3 := hcell (k := 3) (v := .int .i64 z1) hR1 rfl
    have r4 := hcell (k := 4) (v := .int .i64 ar) hR1 rfl
    have r5 := hcell (k := 5) (v := .slice ya yn yc) hR1 rfl
    have r6 := hcell (k := 6) (v := .slice ta tn tc) hR1 rfl
    go_upto_region 5 with fail
    clear t1 t2 t3 t4 t5 t6 t7 t8 r0 r2 r4
    have e_1 := fun d os => cell_regrown r1 d os
    have e_3 := fun d os => cell_regrown r3 d os
    have hTl := hblt hR1
    have e_R := fun d os => (below_regrown w1 d os).block (T + 1) hTl
    have hRh := Lib.hid hR1
    have q1 : IntKind.i64.wrap (z1 - z0) = z1 - z0 := by rw [IntKind.wrap_i64]; omega
    have q2 : IntKind.i64.wrap (z1 - z0 + 1) = z1 - z0 + 1 := by rw [IntKind.wrap_i64]; omega
    have q3 : IntKind.i64.wrap ((W : Int) * (z1 - z0 + 1)) = (N : Int) := by rw [IntKind.wrap_i64]; omega
    refine wp_region_quiet_below (by kernel_rfl) (by kernel_rfl) ?_
    repeat (go_big_quiet_step ((go_at_call 47; exact Calls.regrown_of (WD2.out _ _ ((e_R _ _).trans hRh.out)))))
    refine wpQuiet_nil ?_
    rintro w4 ⟨⟨dq, osq⟩, hw4⟩
    have hb4 : Below w1.heap.size w1 w4 := by rw [hw4]; exact below_regrown w1 dq osq
    clear hw4 e_1 e_3 e_R q1 q2 q3 r1 r3 hRh
    have hB4 := hB1.trans (hb4.mono hB1.size)
    have hV4 := hV1.trans (hb4.mono hV1.size)
    have hR4 := hkeep hb4 hR1
    have hC4 := hkeep hb4 hC1
    clear hB hB1 hV1 hR1 hC1 hb4 hTl r5 r6
    have r5 := hcell (k := 5) (v := .slice ya yn yc) hR4 rfl
    have r6 := hcell (k := 6) (v := .slice ta tn tc) hR4 rfl
    by_cases hl1 : yn = N
    rotate_left
    · have hd : ((yn : Int) != (N : Int)) = true := by rw [bne_iff_ne]; omega
      have hd2 : (yn != N) = true := by rw [bne_iff_ne]; exact hl1
      have hE2 := HEl.out (by rw [decide_eq_false hl1]; rfl)
      subst hE2
      clear hl1
      go_wp2
      go_ret
      exact ⟨rfl, hB4⟩
    by_cases hl2 : tn = N
    rotate_left
    · have hd : ((yn : Int) != (N : Int)) = false := by rw [hl1]; simp
      have hd2 : (yn != N) = false := by rw [hl1]; simp
      have hd3 : ((tn : Int) != (N : Int)) = true := by rw [bne_iff_ne]; omega
      have hd4 : (tn != N) = true := by rw [bne_iff_ne]; exact hl2
      have hE2 := HEl.out (by rw [decide_eq_false hl2, Bool.and_false])
      subst hE2
      clear hl1 hl2
      go_wp2
      go_ret
      exact ⟨rfl, hB4⟩
    subst hl1 hl2
    clear HEl
    have hV := hV4
    go_wp2
    clear r5 r6
    go_loopw [85] (fun s85 wr => ∃ k : Nat, s85 = .int .i64 k ∧ k ≤ tn ∧ Hid (∀ j, j < k → CL j = true) ∧ Below w4.heap.size w4 wr) (fun s85 _ => tn - (intOf s85).toNat)
    case atStart => exact ⟨0, rfl, Nat.zero_le _, fun j hj => by omega, Below.refl _ _⟩
    case round =>
      obtain ⟨k, rfl, hk, Hpre, hbr⟩ := hrel
      by_cases hlt : k < tn
      · have hltI : (k : Int) < (tn : Int) := by omega
        have hRr := hkeep hbr hR4
        have hCr := hkeep hbr hC4
        have hVr := hV.trans (hbr.mono hV.size)
        have Hnext : Hid (CL k = true → ∀ j, j < k + 1 → CL j = true) := fun h0 j hj => by
          by_cases hjk : j = k
          · rw [hjk]; exact h0
          · exact Hpre.out j (by omega)
        have HEb2 := Lib.hid (HEb.out k hlt)
        have HCk0 := HCell.out k
        obtain ⟨kx, hkx⟩ : ∃ v, v = k % W := ⟨_, rfl⟩
        obtain ⟨kz, hkz⟩ : ∃ v, v = k / W := ⟨_, rfl⟩
        rw [← hkx, ← hkz] at HCk0
        have hW0 : 0 < W := by omega
        have hkxb : kx < W := by rw [hkx]; exact Nat.mod_lt _ hW0
        have hkzb : kz ≤ k := by rw [hkz]; exact Nat.div_le_self _ _
        have a1 : (k : Int).tmod (W : Int) = (kx : Int) := by rw [hkx, Int.tmod_eq_emod_of_nonneg (by omega)]; exact (Int.natCast_emod _ _).symm
        have a2 : (k : Int).tdiv (W : Int) = (kz : Int) := by rw [hkz, Int.tdiv_eq_ediv_of_nonneg (by omega)]; exact (Int.natCast_ediv _ _).symm
        have a3 : (W : Int) ≠ 0 := by omega
        have a4 : ((W : Int) == 0) = false := by simp; omega
        obtain ⟨X, hX⟩ : ∃ X, X = x0 + (kx : Int) := ⟨_, rfl⟩
        obtain ⟨Z, hZ⟩ : ∃ Z, Z = z0 + (kz : Int) := ⟨_, rfl⟩
        have a5 : IntKind.i64.wrap (x0 + (kx : Int)) = X := by rw [IntKind.wrap_i64]; omega
        have a6 : IntKind.i64.wrap (z0 + (kz : Int)) = Z := by rw [IntKind.wrap_i64]; omega
        rw [← hX, ← hZ, HCol.out X Z] at HCk0
        have hXb : 0 ≤ X ∧ X ≤ 100000 := by omega
        have hZb : 0 ≤ Z ∧ Z ≤ 100000 := by omega
        have HCk := Lib.hid HCk0
        clear HCk0 hX hZ
        have a7 : IntKind.i64.wrap (kx : Int) = (kx : Int) := by rw [IntKind.wrap_i64]; omega
        have a8 : IntKind.i64.wrap (kz : Int) = (kz : Int) := by rw [IntKind.wrap_i64]; omega
        clear hkx hkz
        have r0 := hcell (k := 0) (v := .int .i64 x0) hRr rfl
        have r1 := hcell (k := 1) (v := .int .i64 z0) hRr rfl
        have e_0 := fun d os => cell_regrown r0 d os
        have e_1 := fun d os => cell_regrown r1 d os
        have hTl := hblt hRr
        have e_R := fun d os => (below_regrown wr d os).block (T + 1) hTl
        have hRh := Lib.hid hRr
        clear r0 r1
        go_upto_region 11 with fail
        refine wp_region_quiet_below (by kernel_rfl) (by kernel_rfl) ?_
        repeat (go_big_quiet_step ((go_at_call 47; exact Calls.regrown_of (WD2.out _ _ ((e_R _ _).trans hRh.out)))))
        refine wpQuiet_nil ?_
        rintro w5 ⟨⟨dq, osq⟩, hw5⟩
        have hb5 : Below wr.heap.size wr w5 := by rw [hw5]; exact below_regrown wr dq osq
        clear hw5 e_0 e_1 e_R hRh a1 a2 a3 a4 a5 a6 a7 a8 hTl
        have hB5 := hbr.trans (hb5.mono hbr.size)
        have hR5 := hkeep hb5 hRr
        have hC5 := hkeep hb5 hCr
        have hV5 := hVr.trans (hb5.mono hVr.size)
        clear hb5 hRr hCr hVr hbr
        have r0 := hcell (k := 0) (v := .int .i64 x0) hR5 rfl
        have r1 := hcell (k := 1) (v := .int .i64 z0) hR5 rfl
        have r2 := hcell (k := 2) (v := .int .i64 x1) hR5 rfl
        have r3 := hcell (k := 3) (v := .int .i64 z1) hR5 rfl
        have r4 := hcell (k := 4) (v := .int .i64 ar) hR5 rfl
        have r5 := hcell (k := 5) (v := .slice ya tn yc) hR5 rfl
        have r6 := hcell (k := 6) (v := .slice ta tn tc) hR5 rfl
        go_wp2_with fail
        refine (AT2.out (X) (Z) _ hV5).mono ?_
        rintro e w6 ⟨rfl, hb6⟩
        have hB6 := hB5.trans (hb6.mono hB5.size)
        have hR6 := hkeep hb6 hR5
        have hC6 := hkeep hb6 hC5
        have hV6 := hV5.trans (hb6.mono hV5.size)
        clear r0 r1 r2 r3 r4 r5 r6 hb6 hB5 hR5 hC5 hV5
        obtain ⟨f, hf⟩ : ∃ f, f = F X Z := ⟨_, rfl⟩
        rw [← hf] at HCk ⊢
        clear hf
        obtain ⟨w7, hw7⟩ : ∃ W, W = w6.alloc (.cells #[.int .i64 f.y, .int .i64 f.top, .int .i64 f.area] 84 (0, 0)) := ⟨_, rfl⟩
        have hA : Below w6.heap.size w6 (w6.alloc (.cells #[.int .i64 f.y, .int .i64 f.top, .int .i64 f.area] 84 (0, 0))) := (Below.refl _ _).alloc (Nat.le_refl _) _
        have hP7 := World.alloc_heap_new w6 (.cells #[.int .i64 f.y, .int .i64 f.top, .int .i64 f.area] 84 (0, 0))
        rw [← hw7] at hA hP7
        obtain ⟨P, hPP⟩ : ∃ P, P = w6.heap.size := ⟨_, rfl⟩
        rw [← hPP] at hP7
        have HPP := Lib.hid hPP
        clear hPP
        have hB7 := hB6.trans (hA.mono hB6.size)
        have hR7 := hkeep hA hR6
        have hC7 := hkeep hA hC6
        have hV7 := hV6.trans (hA.mono hV6.size)
        clear hA hB6 hR6 hC6 hV6
        go_upto_region 13 with fail
        rw [← hw7, ← HPP.out]
        clear hw7
        have f0 := hcell (k := 0) (v := .int .i64 f.y) hP7 rfl
        have f1 := hcell (k := 1) (v := .int .i64 f.top) hP7 rfl
        by_cases b1 : f.y < -2048
        · have hE2 := HEb2.out (by rw [HCk.out]; rw [show hgtB f = false from by unfold hgtB; rw [decide_eq_false (show ¬ -2048 ≤ f.y by omega)]; rfl]; rfl)
          subst hE2
          have hB9 := hB4.trans (hB7.mono hB4.size)
          go_wp2
          go_ret
          exact ⟨rfl, hB9⟩
        by_cases b2 : 2048 < f.y
        · have hE2 := HEb2.out (by rw [HCk.out]; rw [show hgtB f = false from by unfold hgtB; rw [decide_eq_false (show ¬ f.y ≤ 2048 by omega), Bool.and_false]; rfl]; rfl)
          subst hE2
          have hB9 := hB4.trans (hB7.mono hB4.size)
          go_wp2
          go_ret
          exact ⟨rfl, hB9⟩
        by_cases b3 : f.top ≤ f.y
        · have hE2 := HEb2.out (by rw [HCk.out]; rw [show hgtB f = false from by unfold hgtB; rw [decide_eq_false (show ¬ f.y < f.top by omega), Bool.and_false]; rfl]; rfl)
          subst hE2
          have hB9 := hB4.trans (hB7.mono hB4.size)
          go_wp2
          go_ret
          exact ⟨rfl, hB9⟩
        by_cases b4 : 1048576 < f.top
        · have hE2 := HEb2.out (by rw [HCk.out]; rw [show hgtB f = false from by unfold hgtB; rw [decide_eq_false (show ¬ f.top ≤ 1048576 by omega), Bool.and_false]]; rfl)
          subst hE2
          have hB9 := hB4.trans (hB7.mono hB4.size)
          go_wp2
          go_ret
          exact ⟨rfl, hB9⟩
        have hh : hgtB f = true := by unfold hgtB; rw [decide_eq_true (show -2048 ≤ f.y by omega), decide_eq_true (show f.y ≤ 2048 by omega), decide_eq_true (show f.y < f.top by omega), decide_eq_true (show f.top ≤ 1048576 by omega)]; rfl
        rw [hh, Bool.true_and] at HCk
        clear hh
        have HLB := Lib.hid (LB.out f)
        go_wp2
        refine wp_loop_rounds 3 ?_
        rw [rounds_succ]
        go_wp2_with fail
        refine (ST0.out _).mono ?_
        rintro e w8 ⟨rfl, hb8⟩
        have hB8 := hB7.trans (hb8.mono hB7.size)
        have hR8 := hkeep hb8 hR7
        have hC8 := hkeep hb8 hC7
        have hP8 := hkeep hb8 hP7
        have hV8 := hV7.trans (hb8.mono hV7.size)
        clear hb8 hB7 hR7 hC7 hV7 hP7
        have r0 := hcell (k := 0) (v := .int .i64 x0) hR8 rfl
        have r1 := hcell (k := 1) (v := .int .i64 z0) hR8 rfl
        have r2 := hcell (k := 2) (v := .int .i64 x1) hR8 rfl
        have r3 := hcell (k := 3) (v := .int .i64 z1) hR8 rfl
        have r4 := hcell (k := 4) (v := .int .i64 ar) hR8 rfl
        have r5 := hcell (k := 5) (v := .slice ya tn yc) hR8 rfl
        have r6 := hcell (k := 6) (v := .slice ta tn tc) hR8 rfl
        go_wp2_with fail
        refine (AT2.out (X + 1) (Z) _ hV8).mono ?_
        rintro e w9 ⟨rfl, hb9⟩
        have hB9 := hB8.trans (hb9.mono hB8.size)
        have hR9 := hkeep hb9 hR8
        have hC9 := hkeep hb9 hC8
        have hP9 := hkeep hb9 hP8
        have hV9 := hV8.trans (hb9.mono hV8.size)
        clear r0 r1 r2 r3 r4 r5 r6 hb9 hB8 hR8 hC8 hV8 hP8
        have HO0 := Lib.hid (HF.out (X + 1) (Z))
        obtain ⟨o0, ho0⟩ : ∃ o, o = O (X + 1) (Z) := ⟨_, rfl⟩
        rw [← ho0] at HCk HO0 ⊢
        clear ho0
        obtain ⟨g0, hg0⟩ : ∃ g, g = F (X + 1) (Z) := ⟨_, rfl⟩
        rw [← hg0] at HO0 ⊢
        clear hg0
        obtain ⟨w10, hw10⟩ : ∃ W, W = w9.alloc (.cells #[.int .i64 g0.y, .int .i64 g0.top, .int .i64 g0.area] 84 (0, 0)) := ⟨_, rfl⟩
        have hA : Below w9.heap.size w9 (w9.alloc (.cells #[.int .i64 g0.y, .int .i64 g0.top, .int .i64 g0.area] 84 (0, 0))) := (Below.refl _ _).alloc (Nat.le_refl _) _
        have hQ10 := World.alloc_heap_new w9 (.cells #[.int .i64 g0.y, .int .i64 g0.top, .int .i64 g0.area] 84 (0, 0))
        rw [← hw10] at hA hQ10
        obtain ⟨Q0, hQQ⟩ : ∃ P, P = w9.heap.size := ⟨_, rfl⟩
        rw [← hQQ] at hQ10
        have HQQ := Lib.hid hQQ
        clear hQQ
        have hB10 := hB9.trans (hA.mono hB9.size)
        have hR10 := hkeep hA hR9
        have hC10 := hkeep hA hC9
        have hP10 := hkeep hA hP9
        have hV10 := hV9.trans (hA.mono hV9.size)
        clear hA hB9 hR9 hC9 hP9 hV9
        go_upto_region 20 with fail
        rw [← hw10, ← HQQ.out]
        clear hw10 HQQ
        cases o0 with
        | none =>
          have hLB := HLB.out none
          dsimp only at hLB
          rw [hLB, Bool.true_and] at HCk
          clear hLB hQ10 HO0
          go_wp2
          rw [rounds_succ]
          go_wp2_with fail
          refine (ST1.out _).mono ?_
          rintro e w11 ⟨rfl, hb11⟩
          have hB11 := hB10.trans (hb11.mono hB10.size)
          have hR11 := hkeep hb11 hR10
          have hC11 := hkeep hb11 hC10
          have hP11 := hkeep hb11 hP10
          have hV11 := hV10.trans (hb11.mono hV10.size)
          clear hb11 hB10 hR10 hC10 hV10 hP10
          have r0 := hcell (k := 0) (v := .int .i64 x0) hR11 rfl
          have r1 := hcell (k := 1) (v := .int .i64 z0) hR11 rfl
          have r2 := hcell (k := 2) (v := .int .i64 x1) hR11 rfl
          have r3 := hcell (k := 3) (v := .int .i64 z1) hR11 rfl
          have r4 := hcell (k := 4) (v := .int .i64 ar) hR11 rfl
          have r5 := hcell (k := 5) (v := .slice ya tn yc) hR11 rfl
          have r6 := hcell (k := 6) (v := .slice ta tn tc) hR11 rfl
          go_wp2_with fail
          refine (AT2.out (X) (Z + 1) _ hV11).mono ?_
          rintro e w12 ⟨rfl, hb12⟩
          have hB12 := hB11.trans (hb12.mono hB11.size)
          have hR12 := hkeep hb12 hR11
          have hC12 := hkeep hb12 hC11
          have hP12 := hkeep hb12 hP11
          have hV12 := hV11.trans (hb12.mono hV11.size)
          clear r0 r1 r2 r3 r4 r5 r6 hb12 hB11 hR11 hC11 hV11 hP11
          have HO1 := Lib.hid (HF.out (X) (Z + 1))
          obtain ⟨o1, ho1⟩ : ∃ o, o = O (X) (Z + 1) := ⟨_, rfl⟩
          rw [← ho1] at HCk HO1 ⊢
          clear ho1
          obtain ⟨g1, hg1⟩ : ∃ g, g = F (X) (Z + 1) := ⟨_, rfl⟩
          rw [← hg1] at HO1 ⊢
          clear hg1
          obtain ⟨w13, hw13⟩ : ∃ W, W = w12.alloc (.cells #[.int .i64 g1.y, .int .i64 g1.top, .int .i64 g1.area] 84 (0, 0)) := ⟨_, rfl⟩
          have hA : Below w12.heap.size w12 (w12.alloc (.cells #[.int .i64 g1.y, .int .i64 g1.top, .int .i64 g1.area] 84 (0, 0))) := (Below.refl _ _).alloc (Nat.le_refl _) _
          have hQ13 := World.alloc_heap_new w12 (.cells #[.int .i64 g1.y, .int .i64 g1.top, .int .i64 g1.area] 84 (0, 0))
          rw [← hw13] at hA hQ13
          obtain ⟨Q1, hQQ⟩ : ∃ P, P = w12.heap.size := ⟨_, rfl⟩
          rw [← hQQ] at hQ13
          have HQQ := Lib.hid hQQ
          clear hQQ
          have hB13 := hB12.trans (hA.mono hB12.size)
          have hR13 := hkeep hA hR12
          have hC13 := hkeep hA hC12
          have hP13 := hkeep hA hP12
          have hV13 := hV12.trans (hA.mono hV12.size)
          clear hA hB12 hR12 hC12 hP12 hV12
          go_upto_region 20 with fail
          rw [← hw13, ← HQQ.out]
          clear hw13 HQQ
          cases o1 with
          | none =>
            have hLB := HLB.out none
            dsimp only at hLB
            rw [hLB] at HCk
            clear hLB hQ13 HO1
            go_wp2
            rw [rounds_succ]
            go_wp2
            go_roundw
            case rel => exact ⟨k + 1, by go_num, by omega, Hnext.out (by rw [HCk.out]), hB13⟩
            case measure => simp [intOf]; omega
          | some g =>
            have e1 : g1 = g := HO1.out g rfl
            subst e1
            have hLB := HLB.out (some g1)
            dsimp only at hLB
            rw [hLB] at HCk
            clear hLB HO1
            have c0 := hcell (k := 0) (v := .int .i64 cl) hC13 rfl
            have c1 := hcell (k := 1) (v := .int .i64 climb) hC13 rfl
            have c2 := hcell (k := 2) (v := .int .i64 height) hC13 rfl
            have c3 := hcell (k := 3) (v := .int .i64 rise) hC13 rfl
            have c4 := hcell (k := 4) (v := .int .i64 run) hC13 rfl
            have c5 := hcell (k := 5) (v := .int .i64 cw) hC13 rfl
            have c6 := hcell (k := 6) (v := .int .i64 cd) hC13 rfl
            have f0 := hcell (k := 0) (v := .int .i64 f.y) hP13 rfl
            have q0 := hcell (k := 0) (v := .int .i64 g1.y) hQ13 rfl
            have f1 := hcell (k := 1) (v := .int .i64 f.top) hP13 rfl
            have q1 := hcell (k := 1) (v := .int .i64 g1.top) hQ13 rfl
            have f2 := hcell (k := 2) (v := .int .i64 f.area) hP13 rfl
            have q2 := hcell (k := 2) (v := .int .i64 g1.area) hQ13 rfl
            have LK1 := Lib.hid (LK.out f g1)
            generalize LN f g1 = bb at LK1 HCk
            go_wp2_with fail
            refine (LK1.out _).mono ?_
            rintro e w14 ⟨rfl, hb14⟩
            have hB14 := hB13.trans (hb14.mono hB13.size)
            have hR14 := hkeep hb14 hR13
            have hC14 := hkeep hb14 hC13
            have hP14 := hkeep hb14 hP13
            have hV14 := hV13.trans (hb14.mono hV13.size)
            clear c0 c1 c2 c3 c4 c5 c6 f0 f1 f2 q0 q1 q2 hb14 hB13 hR13 hC13 hP13 hV13 hQ13
            cases bb with
            | false =>
              have hE2 := HEb2.out (by rw [HCk.out]; try rfl)
              subst hE2
              have hB9 := hB4.trans (hB14.mono hB4.size)
              go_wp2
              go_ret
              exact ⟨rfl, hB9⟩
            | true =>
              go_wp2
              rw [rounds_succ]
              go_wp2
              go_roundw
              case rel => exact ⟨k + 1, by go_num, by omega, Hnext.out (by rw [HCk.out]), hB14⟩
              case measure => simp [intOf]; omega
        | some g =>
          have e1 : g0 = g := HO0.out g rfl
          subst e1
          have hLB := HLB.out (some g0)
          dsimp only at hLB
          rw [hLB] at HCk
          clear hLB HO0
          have c0 := hcell (k := 0) (v := .int .i64 cl) hC10 rfl
          have c1 := hcell (k := 1) (v := .int .i64 climb) hC10 rfl
          have c2 := hcell (k := 2) (v := .int .i64 height) hC10 rfl
          have c3 := hcell (k := 3) (v := .int .i64 rise) hC10 rfl
          have c4 := hcell (k := 4) (v := .int .i64 run) hC10 rfl
          have c5 := hcell (k := 5) (v := .int .i64 cw) hC10 rfl
          have c6 := hcell (k := 6) (v := .int .i64 cd) hC10 rfl
          have f0 := hcell (k := 0) (v := .int .i64 f.y) hP10 rfl
          have q0 := hcell (k := 0) (v := .int .i64 g0.y) hQ10 rfl
          have f1 := hcell (k := 1) (v := .int .i64 f.top) hP10 rfl
          have q1 := hcell (k := 1) (v := .int .i64 g0.top) hQ10 rfl
          have f2 := hcell (k := 2) (v := .int .i64 f.area) hP10 rfl
          have q2 := hcell (k := 2) (v := .int .i64 g0.area) hQ10 rfl
          have LK0 := Lib.hid (LK.out f g0)
          generalize LN f g0 = bb at LK0 HCk
          go_wp2_with fail
          refine (LK0.out _).mono ?_
          rintro e w11 ⟨rfl, hb11⟩
          have hB11 := hB10.trans (hb11.mono hB10.size)
          have hR11 := hkeep hb11 hR10
          have hC11 := hkeep hb11 hC10
          have hP11 := hkeep hb11 hP10
          have hV11 := hV10.trans (hb11.mono hV10.size)
          clear c0 c1 c2 c3 c4 c5 c6 f0 f1 f2 q0 q1 q2 hb11 hB10 hR10 hC10 hP10 hV10 hQ10
          cases bb with
          | false =>
            have hE2 := HEb2.out (by rw [HCk.out]; try rfl)
            subst hE2
            have hB9 := hB4.trans (hB11.mono hB4.size)
            go_wp2
            go_ret
            exact ⟨rfl, hB9⟩
          | true =>
            rw [Bool.true_and] at HCk
            go_wp2
            rw [rounds_succ]
            go_wp2_with fail
            refine (ST1.out _).mono ?_
            rintro e w12 ⟨rfl, hb12⟩
            have hB12 := hB11.trans (hb12.mono hB11.size)
            have hR12 := hkeep hb12 hR11
            have hC12 := hkeep hb12 hC11
            have hP12 := hkeep hb12 hP11
            have hV12 := hV11.trans (hb12.mono hV11.size)
            clear hb12 hB11 hR11 hC11 hV11 hP11
            have r0 := hcell (k := 0) (v := .int .i64 x0) hR12 rfl
            have r1 := hcell (k := 1) (v := .int .i64 z0) hR12 rfl
            have r2 := hcell (k := 2) (v := .int .i64 x1) hR12 rfl
            have r3 := hcell (k := 3) (v := .int .i64 z1) hR12 rfl
            have r4 := hcell (k := 4) (v := .int .i64 ar) hR12 rfl
            have r5 := hcell (k := 5) (v := .slice ya tn yc) hR12 rfl
            have r6 := hcell (k := 6) (v := .slice ta tn tc) hR12 rfl
            go_wp2_with fail
            refine (AT2.out (X) (Z + 1) _ hV12).mono ?_
            rintro e w13 ⟨rfl, hb13⟩
            have hB13 := hB12.trans (hb13.mono hB12.size)
            have hR13 := hkeep hb13 hR12
            have hC13 := hkeep hb13 hC12
            have hP13 := hkeep hb13 hP12
            have hV13 := hV12.trans (hb13.mono hV12.size)
            clear r0 r1 r2 r3 r4 r5 r6 hb13 hB12 hR12 hC12 hV12 hP12
            have HO1 := Lib.hid (HF.out (X) (Z + 1))
            obtain ⟨o1, ho1⟩ : ∃ o, o = O (X) (Z + 1) := ⟨_, rfl⟩
            rw [← ho1] at HCk HO1 ⊢
            clear ho1
            obtain ⟨g1, hg1⟩ : ∃ g, g = F (X) (Z + 1) := ⟨_, rfl⟩
            rw [← hg1] at HO1 ⊢
            clear hg1
            obtain ⟨w14, hw14⟩ : ∃ W, W = w13.alloc (.cells #[.int .i64 g1.y, .int .i64 g1.top, .int .i64 g1.area] 84 (0, 0)) := ⟨_, rfl⟩
            have hA : Below w13.heap.size w13 (w13.alloc (.cells #[.int .i64 g1.y, .int .i64 g1.top, .int .i64 g1.area] 84 (0, 0))) := (Below.refl _ _).alloc (Nat.le_refl _) _
            have hQ14 := World.alloc_heap_new w13 (.cells #[.int .i64 g1.y, .int .i64 g1.top, .int .i64 g1.area] 84 (0, 0))
            rw [← hw14] at hA hQ14
            obtain ⟨Q1, hQQ⟩ : ∃ P, P = w13.heap.size := ⟨_, rfl⟩
            rw [← hQQ] at hQ14
            have HQQ := Lib.hid hQQ
            clear hQQ
            have hB14 := hB13.trans (hA.mono hB13.size)
            have hR14 := hkeep hA hR13
            have hC14 := hkeep hA hC13
            have hP14 := hkeep hA hP13
            have hV14 := hV13.trans (hA.mono hV13.size)
            clear hA hB13 hR13 hC13 hP13 hV13
            go_upto_region 20 with fail
            rw [← hw14, ← HQQ.out]
            clear hw14 HQQ
            cases o1 with
            | none =>
              have hLB := HLB.out none
              dsimp only at hLB
              rw [hLB] at HCk
              clear hLB hQ14 HO1
              go_wp2
              rw [rounds_succ]
              go_wp2
              go_roundw
              case rel => exact ⟨k + 1, by go_num, by omega, Hnext.out (by rw [HCk.out]), hB14⟩
              case measure => simp [intOf]; omega
            | some g =>
              have e1 : g1 = g := HO1.out g rfl
              subst e1
              have hLB := HLB.out (some g1)
              dsimp only at hLB
              rw [hLB] at HCk
              clear hLB HO1
              have c0 := hcell (k := 0) (v := .int .i64 cl) hC14 rfl
              have c1 := hcell (k := 1) (v := .int .i64 climb) hC14 rfl
              have c2 := hcell (k := 2) (v := .int .i64 height) hC14 rfl
              have c3 := hcell (k := 3) (v := .int .i64 rise) hC14 rfl
              have c4 := hcell (k := 4) (v := .int .i64 run) hC14 rfl
              have c5 := hcell (k := 5) (v := .int .i64 cw) hC14 rfl
              have c6 := hcell (k := 6) (v := .int .i64 cd) hC14 rfl
              have f0 := hcell (k := 0) (v := .int .i64 f.y) hP14 rfl
              have q0 := hcell (k := 0) (v := .int .i64 g1.y) hQ14 rfl
              have f1 := hcell (k := 1) (v := .int .i64 f.top) hP14 rfl
              have q1 := hcell (k := 1) (v := .int .i64 g1.top) hQ14 rfl
              have f2 := hcell (k := 2) (v := .int .i64 f.area) hP14 rfl
              have q2 := hcell (k := 2) (v := .int .i64 g1.area) hQ14 rfl
              have LK1 := Lib.hid (LK.out f g1)
              generalize LN f g1 = bb at LK1 HCk
              go_wp2_with fail
              refine (LK1.out _).mono ?_
              rintro e w15 ⟨rfl, hb15⟩
              have hB15 := hB14.trans (hb15.mono hB14.size)
              have hR15 := hkeep hb15 hR14
              have hC15 := hkeep hb15 hC14
              have hP15 := hkeep hb15 hP14
              have hV15 := hV14.trans (hb15.mono hV14.size)
              clear c0 c1 c2 c3 c4 c5 c6 f0 f1 f2 q0 q1 q2 hb15 hB14 hR14 hC14 hP14 hV14 hQ14
              cases bb with
              | false =>
                have hE2 := HEb2.out (by rw [HCk.out]; try rfl)
                subst hE2
                have hB9 := hB4.trans (hB15.mono hB4.size)
                go_wp2
                go_ret
                exact ⟨rfl, hB9⟩
              | true =>
                go_wp2
                rw [rounds_succ]
                go_wp2
                go_roundw
                case rel => exact ⟨k + 1, by go_num, by omega, Hnext.out (by rw [HCk.out]), hB15⟩
                case measure => simp [intOf]; omega
      · obtain rfl : k = tn := by omega
        have hE2 := HEg.out (by simp) Hpre.out
        subst hE2
        have hB9 := hB4.trans (hbr.mono hB4.size)
        go_wp2
        go_ret
        exact ⟨rfl, hB9⟩
end Go.Proofs.YtmgkkmcihplojaaGreat
