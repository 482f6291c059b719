/- Walks: whether tiles are all of a config's: the value that seams.Check tells. -/
import Derived.Test.YtmgkkmcihplojaaGreatSmC
import Derived.Test.YtmgkkmcihplojaaGreatHpP
namespace Go.Proofs.YtmgkkmcihplojaaGreat
open Go.RowKit Go.Sort
attribute [local go_sem] Instr.index

theorem ret_eq {a b : Int} (h : b = a) : Ending.returned (.int .i64 a) = Ending.returned (.int .i64 b) := by rw [h]
set_option maxRecDepth 100000 in
set_option maxHeartbeats 16000000 in
theorem smcheckv_any (cf : Cfg) (a : Option Addr) (n c : Nat) (ts : List Tl) (w : World) (hx : SlTl w a n c ts) :
    Calls Tryz.prog 15 #[cfgV cf, .slice a n c] w fun e w' => e = .returned (.int .i64 (smE cf ts)) ∧ Below w.heap.size w w' := by
  have Hl := Lib.hid hx.sl.len
  have hmax := hx.sl.max
  have hle := hx.sl.le
  have HX := Lib.hid (fun W (hb : Below w.heap.size w W) => hx.below hb (Nat.le_refl _))
  clear hx
  obtain ⟨RES, hRES⟩ : ∃ R, R = smE cf ts := ⟨_, rfl⟩
  have HF0 : Hid (cfgE cf ≠ 0 → RES = cfgE cf) := fun h => by rw [hRES]; unfold smE cfgE at *; split <;> rename_i h1 <;> simp [h1] at h ⊢
  have HF1 : Hid (cfgOk cf = true → ¬ (n : Int) = tW cf.w * tW cf.d → RES = 2) := fun h h2 => by rw [hRES]; exact smE_n h (by rw [Hl.out]; exact h2)
  have HF2 : Hid (cfgOk cf = true → ∀ (i : Nat) (t : Tl), i < n → ts[i]? = some t → smT cf t i = false → RES = 2) := fun h i t hi ht h2 => by
    rw [hRES]
    refine smE_bad h (i := i) (by rw [Hl.out]; exact hi) ?_
    rw [List.getD_eq_getElem?_getD, ht]
    exact h2
  have HF3 : Hid (cfgOk cf = true → (n : Int) = tW cf.w * tW cf.d → (∀ (i : Nat) (t : Tl), i < n → ts[i]? = some t → smT cf t i = true) → RES = 0) := fun h h1 h2 => by
    rw [hRES]
    refine smE_ok h (by rw [Hl.out]; exact h1) ?_
    unfold smTo
    rw [List.all_eq_true]
    intro i hi
    have hi := List.mem_range.1 hi
    rw [List.getD_eq_getElem?_getD, List.getElem?_eq_getElem hi]
    exact h2 i _ (by rw [← Hl.out]; exact hi) (List.getElem?_eq_getElem hi)
  rw [← hRES]
  clear hRES
  have CF := Lib.hid (fun W => cfgcheck_any cf W)
  have WD := Lib.hid (fun W h => smwide_any cf W h)
  have TC := Lib.hid (fun (t : Tl) W hr hd => tilecheck_any cf t.x t.z t.ra t.rn t.rc t.rs t.da t.dn t.dc t.ds W hr hd)
  obtain ⟨E, hE⟩ : ∃ E, E = cfgE cf := ⟨_, rfl⟩
  rw [← hE] at CF
  have HE := Lib.hid hE
  clear hE
  have hB : Below w.heap.size w (w.alloc (cfO cf)) := (Below.refl _ _).alloc (Nat.le_refl _) _
  have hC := World.alloc_heap_new w (cfO cf)
  obtain ⟨W1, hW1⟩ : ∃ W, W = w.alloc (cfO cf) := ⟨_, rfl⟩
  rw [← hW1] at hB hC
  obtain ⟨S0, hS0⟩ : ∃ S, S = w.heap.size := ⟨_, rfl⟩
  rw [← hS0] at hC
  dsimp only [cfO, cfgV] at hC hW1 CF WD TC ⊢
  go_enter Tryz.func15, Tryz.ntmps15
  go_upto_region 1 with fail
  rw [← hW1, ← hS0]
  clear hW1 hS0
  have c0 := hcell (k := 0) (v := .int .i64 cf.clear) hC rfl
  have c1 := hcell (k := 1) (v := .int .i64 cf.climb) hC rfl
  have c2 := hcell (k := 2) (v := .int .i64 cf.height) hC rfl
  have c3 := hcell (k := 3) (v := .int .i64 cf.rise) hC rfl
  have c4 := hcell (k := 4) (v := .int .i64 cf.run) hC rfl
  have c5 := hcell (k := 5) (v := .int .i64 cf.w) hC rfl
  have c6 := hcell (k := 6) (v := .int .i64 cf.d) hC rfl
  go_wp2_with fail
  refine (CF.out _).mono ?_
  rintro e w1 ⟨rfl, hb1⟩
  clear c0 c1 c2 c3 c4 c5 c6
  have hC1 := hkeep hb1 hC
  have hB1 := hB.trans (hb1.mono hB.size)
  clear hb1 hB hC CF
  by_cases hE0 : E = 0
  case neg =>
    go_wp2
    go_ret
    exact And.intro (ret_eq ((HF0.out (by rw [← HE.out]; exact hE0)).trans HE.out.symm)) hB1
  subst hE0
  have HOK : Hid (cfgOk cf = true) := cfgE_ok HE.out.symm
  clear HE HF0
  have c0 := hcell (k := 0) (v := .int .i64 cf.clear) hC1 rfl
  have c1 := hcell (k := 1) (v := .int .i64 cf.climb) hC1 rfl
  have c2 := hcell (k := 2) (v := .int .i64 cf.height) hC1 rfl
  have c3 := hcell (k := 3) (v := .int .i64 cf.rise) hC1 rfl
  have c4 := hcell (k := 4) (v := .int .i64 cf.run) hC1 rfl
  have c5 := hcell (k := 5) (v := .int .i64 cf.w) hC1 rfl
  have c6 := hcell (k := 6) (v := .int .i64 cf.d) hC1 rfl
  go_wp2_with fail
  refine (WD.out _ HOK.out).mono ?_
  rintro e w2 ⟨rfl, hb2⟩
  clear c0 c1 c2 c3 c4 c5 c6
  have hC2 := hkeep hb2 hC1
  have hB2 := hB1.trans (hb2.mono hB1.size)
  clear hb2 hB1 hC1 WD
  obtain ⟨hw1, hw2, hd1, hd2⟩ : 1 ≤ tW cf.w ∧ tW cf.w ≤ 4 ∧ 1 ≤ tW cf.d ∧ tW cf.d ≤ 4 := (tW_facts HOK.out).2.2.2.2.2.2
  obtain ⟨A, hA⟩ : ∃ A, A = tW cf.w := ⟨_, rfl⟩
  obtain ⟨D, hD⟩ : ∃ A, A = tW cf.d := ⟨_, rfl⟩
  rw [← hA] at hw1 hw2 ⊢
  rw [← hD] at hd1 hd2 ⊢
  have HA := Lib.hid hA
  have HD := Lib.hid hD
  clear hA hD
  have wm : IntKind.i64.wrap (A * D) = A * D := by
    have h1 : A * D ≤ 4 * 4 := Int.mul_le_mul hw2 hd2 (by omega) (by omega)
    have h2 : 0 ≤ A * D := Int.mul_nonneg (by omega) (by omega)
    rw [IntKind.wrap_i64]; omega
  by_cases hnAD : (n : Int) = A * D
  case neg =>
    go_wp2
    go_ret
    exact And.intro (ret_eq (HF1.out HOK.out (by rw [← HA.out, ← HD.out]; exact hnAD))) hB2
  have HN : Hid ((n : Int) = tW cf.w * tW cf.d) := by show _ = _; rw [← HA.out, ← HD.out]; exact hnAD
  have hA0 : ¬ A = 0 := by omega
  have hq : ((n : Int) != A * D) = false := by simp [hnAD]
  clear hnAD HD
  go_wp2_with fail
  clear hq
  go_loopw [28] (fun s wr => ∃ i : Nat, s = .int .i64 i ∧ i ≤ n ∧ Hid (∀ (j : Nat) (t : Tl), j < i → ts[j]? = some t → smT cf t j = true) ∧ Below w2.heap.size w2 wr) (fun s _ => n - (intOf s).toNat)
  case atStart => exact ⟨0, rfl, Nat.zero_le _, (fun j t h _ => absurd h (Nat.not_lt_zero _)), Below.refl _ _⟩
  case round =>
    obtain ⟨k, rfl, hk, HJ, hb⟩ := hrel
    by_cases hkn : k < n
    case neg =>
      obtain rfl : k = n := by omega
      have hI : ¬ (k : Int) < (k : Int) := by omega
      go_wp2
      go_ret
      exact And.intro (ret_eq (HF3.out HOK.out HN.out HJ.out)) (hB2.trans (hb.mono hB2.size))
    have hI : (k : Int) < (n : Int) := by omega
    have wi1 : IntKind.i64.wrap ((k : Int) + 1) = ((k + 1 : Nat) : Int) := by rw [IntKind.wrap_i64]; omega
    have hBr := hB2.trans (hb.mono hB2.size)
    obtain ⟨t, htk⟩ : ∃ t, ts[k]? = some t := ⟨_, List.getElem?_eq_getElem (by rw [Hl.out]; exact hkn)⟩
    have hw := HX.out _ hBr
    obtain ⟨B, off, rfl, _, _⟩ := hw.sl.at0 (by omega)
    have r0 := hw.sl.cells htk 0 _ rfl
    have r1 := hw.sl.cells htk 1 _ rfl
    have r2 := hw.sl.cells htk 2 _ rfl
    have r3 := hw.sl.cells htk 3 _ rfl
    simp only [Nat.add_zero] at r0
    have hTA : Below wr.heap.size wr (wr.alloc (.cells #[.int .i64 t.x, .int .i64 t.z, .slice t.ra t.rn t.rc, .slice t.da t.dn t.dc] 38 (0, 0))) := (Below.refl _ _).alloc (Nat.le_refl _) _
    have hTN := World.alloc_heap_new wr (.cells #[.int .i64 t.x, .int .i64 t.z, .slice t.ra t.rn t.rc, .slice t.da t.dn t.dc] 38 (0, 0))
    have HT := Lib.hid (((hw.one htk).1).below hTA (Nat.le_refl _))
    have HD := Lib.hid (((hw.one htk).2).below hTA (Nat.le_refl _))
    have hC3 := hkeep hTA (hkeep hb hC2)
    have hb3 := hb.trans (hTA.mono hb.size)
    obtain ⟨W3, hW3⟩ : ∃ W, W = wr.alloc (.cells #[.int .i64 t.x, .int .i64 t.z, .slice t.ra t.rn t.rc, .slice t.da t.dn t.dc] 38 (0, 0)) := ⟨_, rfl⟩
    obtain ⟨S3, hS3⟩ : ∃ S, S = wr.heap.size := ⟨_, rfl⟩
    rw [← hW3] at hTA hTN HT HD hC3 hb3
    rw [← hS3] at hTN
    have HTK := Lib.hid htk
    clear hw htk hBr hTA
    go_upto_region 10 with fail
    rw [← hW3, ← hS3]
    clear hW3 hS3 r0 r1 r2 r3
    obtain ⟨R, hR⟩ : ∃ R, (k : Int).tmod A = R := ⟨_, rfl⟩
    obtain ⟨S, hS⟩ : ∃ R, (k : Int).tdiv A = R := ⟨_, rfl⟩
    have HRR := Lib.hid hR
    have HSS := Lib.hid hS
    have hS0 : 0 ≤ S ∧ S ≤ k := by rw [← hS]; exact ⟨Int.tdiv_nonneg (by omega) (by omega), Int.tdiv_le_self _ (by omega)⟩
    have wS : IntKind.i64.wrap S = S := by rw [IntKind.wrap_i64]; omega
    clear hS0
    have c0 := hcell (k := 0) (v := .int .i64 cf.clear) hC3 rfl
    have c1 := hcell (k := 1) (v := .int .i64 cf.climb) hC3 rfl
    have c2 := hcell (k := 2) (v := .int .i64 cf.height) hC3 rfl
    have c3 := hcell (k := 3) (v := .int .i64 cf.rise) hC3 rfl
    have c4 := hcell (k := 4) (v := .int .i64 cf.run) hC3 rfl
    have c5 := hcell (k := 5) (v := .int .i64 cf.w) hC3 rfl
    have c6 := hcell (k := 6) (v := .int .i64 cf.d) hC3 rfl
    have t0 := hcell (k := 0) (v := .int .i64 t.x) hTN rfl
    have t1 := hcell (k := 1) (v := .int .i64 t.z) hTN rfl
    have t2 := hcell (k := 2) (v := .slice t.ra t.rn t.rc) hTN rfl
    have t3 := hcell (k := 3) (v := .slice t.da t.dn t.dc) hTN rfl
    have e_c0 := fun d os => cell_regrown c0 d os
    have e_c1 := fun d os => cell_regrown c1 d os
    have e_c2 := fun d os => cell_regrown c2 d os
    have e_c3 := fun d os => cell_regrown c3 d os
    have e_c4 := fun d os => cell_regrown c4 d os
    have e_c5 := fun d os => cell_regrown c5 d os
    have e_c6 := fun d os => cell_regrown c6 d os
    have e_t0 := fun d os => cell_regrown t0 d os
    have e_t1 := fun d os => cell_regrown t1 d os
    have e_t2 := fun d os => cell_regrown t2 d os
    have e_t3 := fun d os => cell_regrown t3 d os
    clear c0 c1 c2 c3 c4 c5 c6 t0 t1 t2 t3 hC3 hTN
    by_cases h1 : t.x = R
    case neg =>
      have q1 : (t.x != R) = true := by simp [h1]
      have HQ : Hid (smT cf t k = false) := by show _ = _; unfold smT; rw [← HA.out, HRR.out, decide_eq_false h1]; rfl
      clear h1
      refine wp_region_quiet_below (by kernel_rfl) (by kernel_rfl) ?_
      repeat (go_big_quiet_step (fail))
      refine wpQuiet_nil ?_
      rintro w4 ⟨⟨dq, osq⟩, hw4⟩
      have hb4 : Below w2.heap.size w2 w4 := by rw [hw4]; exact hb3.trans ((below_regrown W3 dq osq).mono hb3.size)
      clear hw4 e_c0 e_c1 e_c2 e_c3 e_c4 e_c5 e_c6 e_t0 e_t1 e_t2 e_t3
      go_wp2
      go_ret
      exact And.intro (ret_eq (HF2.out HOK.out k t hkn HTK.out HQ.out)) (hB2.trans (hb4.mono hB2.size))
    have q1 : (t.x != R) = false := by simp [h1]
    have HX1 := Lib.hid h1
    clear h1
    by_cases h2 : t.z = S
    case neg =>
      have q2 : (t.z != S) = true := by simp [h2]
      have HQ : Hid (smT cf t k = false) := by show _ = _; unfold smT; rw [← HA.out, HSS.out, decide_eq_false h2, Bool.and_false]; rfl
      clear h2
      refine wp_region_quiet_below (by kernel_rfl) (by kernel_rfl) ?_
      repeat (go_big_quiet_step (fail))
      refine wpQuiet_nil ?_
      rintro w4 ⟨⟨dq, osq⟩, hw4⟩
      have hb4 : Below w2.heap.size w2 w4 := by rw [hw4]; exact hb3.trans ((below_regrown W3 dq osq).mono hb3.size)
      clear hw4 e_c0 e_c1 e_c2 e_c3 e_c4 e_c5 e_c6 e_t0 e_t1 e_t2 e_t3
      go_wp2
      go_ret
      exact And.intro (ret_eq (HF2.out HOK.out k t hkn HTK.out HQ.out)) (hB2.trans (hb4.mono hB2.size))
    have q2 : (t.z != S) = false := by simp [h2]
    have HX2 := Lib.hid h2
    clear h2
    have TC2 := Lib.hid (fun (W : World) (hW : Below W3.heap.size W3 W) (d : Nat) (os : Array Obj) => TC.out t (grow (redrawn W d) os) ((HT.out.below hW (Nat.le_refl _)).below (below_regrown W d os) (Nat.le_refl _)) ((HD.out.below hW (Nat.le_refl _)).below (below_regrown W d os) (Nat.le_refl _)))
    obtain ⟨ET, hET⟩ : ∃ E, E = tlE cf t.x t.z (t.rs.map Prod.snd) t.ds := ⟨_, rfl⟩
    rw [← hET] at TC2
    have HET := Lib.hid hET
    clear hET
    obtain ⟨eb, heb⟩ : ∃ b, (ET != 0) = b := ⟨_, rfl⟩
    cases eb with
    | true =>
      have HQ : Hid (smT cf t k = false) := by
        show _ = _
        have e0 : ¬ tlE cf t.x t.z (t.rs.map Prod.snd) t.ds = 0 := by rw [← HET.out]; simpa using heb
        unfold smT
        rw [decide_eq_false e0, Bool.and_false]
      refine wp_region_quiet_below (by kernel_rfl) (by kernel_rfl) ?_
      repeat (go_big_quiet_step ((go_at_call 26; exact Calls.regrown_of (TC2.out _ (Below.refl _ _) _ _))))
      refine wpQuiet_nil ?_
      rintro w4 ⟨⟨dq, osq⟩, hw4⟩
      have hb4 : Below w2.heap.size w2 w4 := by rw [hw4]; exact hb3.trans ((below_regrown W3 dq osq).mono hb3.size)
      clear hw4 e_c0 e_c1 e_c2 e_c3 e_c4 e_c5 e_c6 e_t0 e_t1 e_t2 e_t3
      go_wp2
      go_ret
      exact And.intro (ret_eq (HF2.out HOK.out k t hkn HTK.out HQ.out)) (hB2.trans (hb4.mono hB2.size))
    | false =>
      have HQ : Hid (∀ (j : Nat) (t : Tl), j < k + 1 → ts[j]? = some t → smT cf t j = true) := fun j s hj hs => by
        by_cases hjk : j < k
        · exact HJ.out j s hjk hs
        · obtain rfl : j = k := by omega
          rw [HTK.out] at hs
          cases hs
          have e0 : tlE cf t.x t.z (t.rs.map Prod.snd) t.ds = 0 := by rw [← HET.out]; simpa using heb
          unfold smT
          rw [e0, ← HA.out, HRR.out, HSS.out, decide_eq_true HX1.out, decide_eq_true HX2.out]
          rfl
      refine wp_region_quiet_below (by kernel_rfl) (by kernel_rfl) ?_
      repeat (go_big_quiet_step ((go_at_call 26; exact Calls.regrown_of (TC2.out _ (Below.refl _ _) _ _))))
      refine wpQuiet_nil ?_
      rintro w4 ⟨⟨dq, osq⟩, hw4⟩
      have hb4 : Below w2.heap.size w2 w4 := by rw [hw4]; exact hb3.trans ((below_regrown W3 dq osq).mono hb3.size)
      clear hw4 e_c0 e_c1 e_c2 e_c3 e_c4 e_c5 e_c6 e_t0 e_t1 e_t2 e_t3
      go_wp2
      go_roundw
      case rel => exact ⟨k + 1, by go_num, by omega, HQ, hb4⟩
      case measure => simp [intOf]; omega
end Go.Proofs.YtmgkkmcihplojaaGreat
