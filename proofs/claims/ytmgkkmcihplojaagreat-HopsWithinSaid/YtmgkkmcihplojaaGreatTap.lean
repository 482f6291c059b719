/- Walk: tile.apart: have two rectangles no height in common? -/
import Derived.Test.YtmgkkmcihplojaaGreatKa
import Derived.Test.YtmgkkmcihplojaaGreatRctC
import Derived.Test.YtmgkkmcihplojaaGreatPrs
import Derived.Lib.QuietBelow
namespace Go.Proofs.YtmgkkmcihplojaaGreat
open Go.RowKit
attribute [local go_sem] Instr.index

/-- A rectangle's cells, where they stand. -/
def RcAtW (w : World) (g o : Nat) (h : RHd) (r : Rc) : Prop := ∀ j u, (rcL h r)[j]? = some u → w.cell? ⟨g, o + j, none⟩ = some u
theorem RcAtW.lt {w : World} {g o : Nat} {h : RHd} {r : Rc} (hs : RcAtW w g o h r) : g < w.heap.size := by
  have := World.block_lt_of_cell? w _ (hs 0 _ rfl)
  simpa using this
theorem RcAtW.below {w w' : World} {g o : Nat} {h : RHd} {r : Rc} (hs : RcAtW w g o h r) {B : Nat} (hb : Below B w w') (hB : w.heap.size ≤ B) : RcAtW w' g o h r := fun j u hu => by
  have hg := hs.lt
  rw [hb.cell (p := ⟨g, o + j, none⟩) (show g < B by omega)]
  exact hs j u hu
set_option maxRecDepth 100000 in
set_option maxHeartbeats 16000000 in
theorem apart_any (cf : Cfg) (ga oa : Nat) (ha : RHd) (ra : Rc) (gb ob : Nat) (hb : RHd) (rb : Rc) (w : World) (hpa : RcAtW w ga oa ha ra) (hpb : RcAtW w gb ob hb rb) (hs : RcSl w ha ra) (ht : RcSl w hb rb) (ea : rcE cf ra = 0) (eb : rcE cf rb = 0) :
    Calls Tryz.prog 44 #[.pointer (some ⟨ga, oa, none⟩), .pointer (some ⟨gb, ob, none⟩)] w fun e w' => e = .returned (.bool (apartR ra rb)) ∧ Below w.heap.size w w' := by
  obtain ⟨u1, u2, u3, u4, u5, u6, _, _⟩ := rcBd_iff.1 (rcOk_bd ea)
  obtain ⟨v1, v2, v3, v4, v5, v6, _, _⟩ := rcBd_iff.1 (rcOk_bd eb)
  have HPa := Lib.hid (fun W (hbW : Below w.heap.size w W) => hpa.below hbW (Nat.le_refl _))
  have HPb := Lib.hid (fun W (hbW : Below w.heap.size w W) => hpb.below hbW (Nat.le_refl _))
  have HSa := Lib.hid (fun W (hbW : Below w.heap.size w W) => hs.below hbW (Nat.le_refl _))
  have HSb := Lib.hid (fun W (hbW : Below w.heap.size w W) => ht.below hbW (Nat.le_refl _))
  clear hpa hpb hs ht
  have HIa : Hid (∀ x z, ra.x0 ≤ x → x ≤ ra.x1 → ra.z0 ≤ z → z ≤ ra.z1 → (rcAt ra x z).isSome = true) := fun x z h1 h2 h3 h4 => rcAt_in ea h1 h2 h3 h4
  have HIb : Hid (∀ x z, rb.x0 ≤ x → x ≤ rb.x1 → rb.z0 ≤ z → z ≤ rb.z1 → (rcAt rb x z).isSome = true) := fun x z h1 h2 h3 h4 => rcAt_in eb h1 h2 h3 h4
  clear ea eb
  have ATa := Lib.hid (fun x z W hW => rcat_any ha ra x z W hW)
  have ATb := Lib.hid (fun x z W hW => rcat_any hb rb x z W hW)
  dsimp only [rcV] at ATa ATb
  obtain ⟨MZ, hMZ⟩ : ∃ m, m = max ra.z0 rb.z0 := ⟨_, rfl⟩
  obtain ⟨NZ, hNZ⟩ : ∃ m, m = min ra.z1 rb.z1 := ⟨_, rfl⟩
  obtain ⟨MX, hMX⟩ : ∃ m, m = max ra.x0 rb.x0 := ⟨_, rfl⟩
  obtain ⟨NX, hNX⟩ : ∃ m, m = min ra.x1 rb.x1 := ⟨_, rfl⟩
  have hz1 : 0 ≤ MZ ∧ MZ ≤ 32 ∧ 0 ≤ NZ ∧ NZ ≤ 32 := by omega
  have hx1 : 0 ≤ MX ∧ MX ≤ 32 ∧ 0 ≤ NX ∧ NX ≤ 32 := by omega
  have HZin : Hid (∀ i : Nat, MZ + (i : Int) ≤ NZ → ra.z0 ≤ MZ + (i : Int) ∧ MZ + (i : Int) ≤ ra.z1 ∧ rb.z0 ≤ MZ + (i : Int) ∧ MZ + (i : Int) ≤ rb.z1) := fun i h => by omega
  have HXin : Hid (∀ i : Nat, MX + (i : Int) ≤ NX → ra.x0 ≤ MX + (i : Int) ∧ MX + (i : Int) ≤ ra.x1 ∧ rb.x0 ≤ MX + (i : Int) ∧ MX + (i : Int) ≤ rb.x1) := fun i h => by omega
  have HNo : Hid (∀ i k : Nat, i < (NZ + 1 - MZ).toNat → k < (NX + 1 - MX).toNat → clrF (rcF ra (MX + (k : Int)) (MZ + (i : Int))) (rcF rb (MX + (k : Int)) (MZ + (i : Int))) = false → apartR ra rb = false) := fun i k h1 h2 h3 => by rw [hMZ, hNZ] at h1; rw [hMX, hNX] at h2; rw [hMX, hMZ] at h3; exact apart_no h1 h2 h3
  have HTo : Hid (∀ i : Nat, apTo ra rb (i + 1) = (apTo ra rb i && apRow ra rb (MZ + (i : Int)) (NX + 1 - MX).toNat)) := fun i => by rw [hMZ, hNX, hMX]; exact apTo_succ ra rb i
  have HRo : Hid (∀ (z : Int) (k : Nat), apRow ra rb z (k + 1) = (apRow ra rb z k && clrF (rcF ra (MX + (k : Int)) z) (rcF rb (MX + (k : Int)) z))) := fun z k => by rw [hMX]; exact apRow_succ ra rb z k
  have HEnd : Hid (∀ i : Nat, i = (NZ + 1 - MZ).toNat → apTo ra rb i = true → apartR ra rb = true) := fun i h1 h2 => by rw [h1, hNZ, hMZ] at h2; exact h2
  have HT0 : Hid (apTo ra rb 0 = true) := rfl
  have HR0 : Hid (∀ z, apRow ra rb z 0 = true) := fun _ => rfl
  clear u1 u2 u3 u4 u5 u6 v1 v2 v3 v4 v5 v6
  generalize apartR ra rb = RES at HNo HEnd ⊢
  generalize apTo ra rb = TO at HTo HEnd HT0
  generalize apRow ra rb = RO at HTo HRo HR0
  have HMZ := Lib.hid hMZ.symm
  have HNZ := Lib.hid hNZ.symm
  have HMX := Lib.hid hMX.symm
  have HNX := Lib.hid hNX.symm
  clear hMZ hNZ hMX hNX
  have hB := Below.refl w.heap.size w
  go_enter Tryz.func44, Tryz.ntmps44
  go_upto_region 1 with fail
  have hbX := hB
  have hp_a := HPa.out _ hbX
  have a0 := hp_a 0 _ rfl
  have a1 := hp_a 1 _ rfl
  have a2 := hp_a 2 _ rfl
  have a3 := hp_a 3 _ rfl
  have a4 := hp_a 4 _ rfl
  have a5 := hp_a 5 _ rfl
  have a6 := hp_a 6 _ rfl
  simp only [Nat.add_zero] at a0
  clear hp_a
  have hp_b := HPb.out _ hbX
  have b0 := hp_b 0 _ rfl
  have b1 := hp_b 1 _ rfl
  have b2 := hp_b 2 _ rfl
  have b3 := hp_b 3 _ rfl
  have b4 := hp_b 4 _ rfl
  have b5 := hp_b 5 _ rfl
  have b6 := hp_b 6 _ rfl
  simp only [Nat.add_zero] at b0
  clear hp_b
  have e_a0 := fun d os => cell_regrown a0 d os
  have e_a1 := fun d os => cell_regrown a1 d os
  have e_a2 := fun d os => cell_regrown a2 d os
  have e_a3 := fun d os => cell_regrown a3 d os
  have e_a4 := fun d os => cell_regrown a4 d os
  have e_a5 := fun d os => cell_regrown a5 d os
  have e_a6 := fun d os => cell_regrown a6 d os
  have e_b0 := fun d os => cell_regrown b0 d os
  have e_b1 := fun d os => cell_regrown b1 d os
  have e_b2 := fun d os => cell_regrown b2 d os
  have e_b3 := fun d os => cell_regrown b3 d os
  have e_b4 := fun d os => cell_regrown b4 d os
  have e_b5 := fun d os => cell_regrown b5 d os
  have e_b6 := fun d os => cell_regrown b6 d os
  clear hbX a0 a1 a2 a3 a4 a5 a6 b0 b1 b2 b3 b4 b5 b6
  refine wp_region_quiet_below (by kernel_rfl) (by kernel_rfl) ?_
  repeat (go_big_quiet_step (fail))
  refine wpQuiet_nil ?_
  rintro w1 ⟨⟨dq, osq⟩, hw4⟩
  have hb4 : Below w.heap.size w w1 := by rw [hw4]; exact below_regrown w dq osq
  have hB1 := hB.trans (hb4.mono hB.size)
  clear hw4 hb4
  clear e_a0 e_a1 e_a2 e_a3 e_a4 e_a5 e_a6 e_b0 e_b1 e_b2 e_b3 e_b4 e_b5 e_b6
  rw [max_if, HMZ.out]
  go_wp2_with fail
  go_loopw [5] (fun s wr => ∃ i : Nat, s = .int .i64 (MZ + (i : Int)) ∧ i ≤ (NZ + 1 - MZ).toNat ∧ Hid (TO i = true) ∧ Below w.heap.size w wr) (fun s _ => (NZ + 1 - MZ).toNat + MZ.toNat - (intOf s).toNat)
  case atStart => exact ⟨0, by simp, Nat.zero_le _, HT0, hB1⟩
  case round =>
    clear hB1 hB
    obtain ⟨i, rfl, hi, HTi, hBr⟩ := hrel
    go_upto_region 2 with fail
    have hbX := hBr
    have hp_a := HPa.out _ hbX
    have a0 := hp_a 0 _ rfl
    have a1 := hp_a 1 _ rfl
    have a2 := hp_a 2 _ rfl
    have a3 := hp_a 3 _ rfl
    have a4 := hp_a 4 _ rfl
    have a5 := hp_a 5 _ rfl
    have a6 := hp_a 6 _ rfl
    simp only [Nat.add_zero] at a0
    clear hp_a
    have hp_b := HPb.out _ hbX
    have b0 := hp_b 0 _ rfl
    have b1 := hp_b 1 _ rfl
    have b2 := hp_b 2 _ rfl
    have b3 := hp_b 3 _ rfl
    have b4 := hp_b 4 _ rfl
    have b5 := hp_b 5 _ rfl
    have b6 := hp_b 6 _ rfl
    simp only [Nat.add_zero] at b0
    clear hp_b
    have e_a0 := fun d os => cell_regrown a0 d os
    have e_a1 := fun d os => cell_regrown a1 d os
    have e_a2 := fun d os => cell_regrown a2 d os
    have e_a3 := fun d os => cell_regrown a3 d os
    have e_a4 := fun d os => cell_regrown a4 d os
    have e_a5 := fun d os => cell_regrown a5 d os
    have e_a6 := fun d os => cell_regrown a6 d os
    have e_b0 := fun d os => cell_regrown b0 d os
    have e_b1 := fun d os => cell_regrown b1 d os
    have e_b2 := fun d os => cell_regrown b2 d os
    have e_b3 := fun d os => cell_regrown b3 d os
    have e_b4 := fun d os => cell_regrown b4 d os
    have e_b5 := fun d os => cell_regrown b5 d os
    have e_b6 := fun d os => cell_regrown b6 d os
    clear hbX a0 a1 a2 a3 a4 a5 a6 b0 b1 b2 b3 b4 b5 b6
    refine wp_region_quiet_below (by kernel_rfl) (by kernel_rfl) ?_
    repeat (go_big_quiet_step (fail))
    refine wpQuiet_nil ?_
    rintro wr2 ⟨⟨dq, osq⟩, hw4⟩
    have hb4 : Below wr.heap.size wr wr2 := by rw [hw4]; exact below_regrown wr dq osq
    have hBr2 := hBr.trans (hb4.mono hBr.size)
    clear hw4 hb4
    clear e_a0 e_a1 e_a2 e_a3 e_a4 e_a5 e_a6 e_b0 e_b1 e_b2 e_b3 e_b4 e_b5 e_b6
    rw [min_if, HNZ.out]
    obtain ⟨Z, hZ⟩ : ∃ z, z = MZ + (i : Int) := ⟨_, rfl⟩
    rw [← hZ]
    by_cases hlt : i < (NZ + 1 - MZ).toNat
    · have hcZ : Z ≤ NZ := by omega
      have hzi := HZin.out i (by omega)
      have HNo2 := Lib.hid (fun k h2 h3 => HNo.out i k hlt h2 h3)
      have HT2 := Lib.hid (HTo.out i)
      rw [← hZ] at hzi HNo2 HT2
      have HZ := Lib.hid hZ
      have hZb : 0 ≤ Z ∧ Z ≤ 100 := by omega
      clear hZ
      go_upto_region 4 with fail
      have hbX := hBr2
      have hp_a := HPa.out _ hbX
      have a0 := hp_a 0 _ rfl
      have a1 := hp_a 1 _ rfl
      have a2 := hp_a 2 _ rfl
      have a3 := hp_a 3 _ rfl
      have a4 := hp_a 4 _ rfl
      have a5 := hp_a 5 _ rfl
      have a6 := hp_a 6 _ rfl
      simp only [Nat.add_zero] at a0
      clear hp_a
      have hp_b := HPb.out _ hbX
      have b0 := hp_b 0 _ rfl
      have b1 := hp_b 1 _ rfl
      have b2 := hp_b 2 _ rfl
      have b3 := hp_b 3 _ rfl
      have b4 := hp_b 4 _ rfl
      have b5 := hp_b 5 _ rfl
      have b6 := hp_b 6 _ rfl
      simp only [Nat.add_zero] at b0
      clear hp_b
      have e_a0 := fun d os => cell_regrown a0 d os
      have e_a1 := fun d os => cell_regrown a1 d os
      have e_a2 := fun d os => cell_regrown a2 d os
      have e_a3 := fun d os => cell_regrown a3 d os
      have e_a4 := fun d os => cell_regrown a4 d os
      have e_a5 := fun d os => cell_regrown a5 d os
      have e_a6 := fun d os => cell_regrown a6 d os
      have e_b0 := fun d os => cell_regrown b0 d os
      have e_b1 := fun d os => cell_regrown b1 d os
      have e_b2 := fun d os => cell_regrown b2 d os
      have e_b3 := fun d os => cell_regrown b3 d os
      have e_b4 := fun d os => cell_regrown b4 d os
      have e_b5 := fun d os => cell_regrown b5 d os
      have e_b6 := fun d os => cell_regrown b6 d os
      clear hbX a0 a1 a2 a3 a4 a5 a6 b0 b1 b2 b3 b4 b5 b6
      refine wp_region_quiet_below (by kernel_rfl) (by kernel_rfl) ?_
      repeat (go_big_quiet_step (fail))
      refine wpQuiet_nil ?_
      rintro wr3 ⟨⟨dq, osq⟩, hw4⟩
      have hb4 : Below wr2.heap.size wr2 wr3 := by rw [hw4]; exact below_regrown wr2 dq osq
      have hBr3 := hBr2.trans (hb4.mono hBr2.size)
      clear hw4 hb4
      clear e_a0 e_a1 e_a2 e_a3 e_a4 e_a5 e_a6 e_b0 e_b1 e_b2 e_b3 e_b4 e_b5 e_b6
      rw [max_if, HMX.out]
      go_wp2_with fail
      go_loopw [6] (fun s wr => ∃ k : Nat, s = .int .i64 (MX + (k : Int)) ∧ k ≤ (NX + 1 - MX).toNat ∧ Hid (RO Z k = true) ∧ Below w.heap.size w wr) (fun s _ => (NX + 1 - MX).toNat + MX.toNat - (intOf s).toNat)
      case atStart => exact ⟨0, by simp, Nat.zero_le _, HR0.out Z, hBr3⟩
      case round =>
        clear hBr3 hBr2 hBr
        obtain ⟨k, rfl, hk, HRk, hBs⟩ := hrel
        go_upto_region 5 with fail
        have hbX := hBs
        have hp_a := HPa.out _ hbX
        have a0 := hp_a 0 _ rfl
        have a1 := hp_a 1 _ rfl
        have a2 := hp_a 2 _ rfl
        have a3 := hp_a 3 _ rfl
        have a4 := hp_a 4 _ rfl
        have a5 := hp_a 5 _ rfl
        have a6 := hp_a 6 _ rfl
        simp only [Nat.add_zero] at a0
        clear hp_a
        have hp_b := HPb.out _ hbX
        have b0 := hp_b 0 _ rfl
        have b1 := hp_b 1 _ rfl
        have b2 := hp_b 2 _ rfl
        have b3 := hp_b 3 _ rfl
        have b4 := hp_b 4 _ rfl
        have b5 := hp_b 5 _ rfl
        have b6 := hp_b 6 _ rfl
        simp only [Nat.add_zero] at b0
        clear hp_b
        have e_a0 := fun d os => cell_regrown a0 d os
        have e_a1 := fun d os => cell_regrown a1 d os
        have e_a2 := fun d os => cell_regrown a2 d os
        have e_a3 := fun d os => cell_regrown a3 d os
        have e_a4 := fun d os => cell_regrown a4 d os
        have e_a5 := fun d os => cell_regrown a5 d os
        have e_a6 := fun d os => cell_regrown a6 d os
        have e_b0 := fun d os => cell_regrown b0 d os
        have e_b1 := fun d os => cell_regrown b1 d os
        have e_b2 := fun d os => cell_regrown b2 d os
        have e_b3 := fun d os => cell_regrown b3 d os
        have e_b4 := fun d os => cell_regrown b4 d os
        have e_b5 := fun d os => cell_regrown b5 d os
        have e_b6 := fun d os => cell_regrown b6 d os
        clear hbX a0 a1 a2 a3 a4 a5 a6 b0 b1 b2 b3 b4 b5 b6
        refine wp_region_quiet_below (by kernel_rfl) (by kernel_rfl) ?_
        repeat (go_big_quiet_step (fail))
        refine wpQuiet_nil ?_
        rintro ws2 ⟨⟨dq, osq⟩, hw4⟩
        have hb4 : Below wr.heap.size wr ws2 := by rw [hw4]; exact below_regrown wr dq osq
        have hBs2 := hBs.trans (hb4.mono hBs.size)
        clear hw4 hb4
        clear e_a0 e_a1 e_a2 e_a3 e_a4 e_a5 e_a6 e_b0 e_b1 e_b2 e_b3 e_b4 e_b5 e_b6
        rw [min_if, HNX.out]
        obtain ⟨X, hX⟩ : ∃ x, x = MX + (k : Int) := ⟨_, rfl⟩
        rw [← hX]
        by_cases hltx : k < (NX + 1 - MX).toNat
        · have hcX : X ≤ NX := by omega
          have hxi := HXin.out k (by omega)
          have hno := HNo2.out k hltx
          have hro := HRo.out Z k
          rw [← hX] at hxi hno hro
          have HX := Lib.hid hX
          have hXb : 0 ≤ X ∧ X ≤ 100 := by omega
          clear hX
          have AT1 := Lib.hid (ATa.out X Z)
          have AT2 := Lib.hid (ATb.out X Z)
          rw [HIa.out X Z hxi.1 hxi.2.1 hzi.1 hzi.2.1] at AT1
          rw [HIb.out X Z hxi.2.2.1 hxi.2.2.2 hzi.2.2.1 hzi.2.2.2] at AT2
          generalize rcF ra X Z = ff at AT1 hno hro
          generalize rcF rb X Z = fg at AT2 hno hro
          obtain ⟨fy, ft, fa⟩ := ff
          obtain ⟨gy, gt, gar⟩ := fg
          unfold clrF at hno hro
          dsimp only [flrV] at AT1 AT2 hno hro
          have Hno := Lib.hid hno
          have Hro := Lib.hid hro
          clear hno hro hxi
          have hbX := hBs2
          have hp_a := HPa.out _ hbX
          have a0 := hp_a 0 _ rfl
          have a1 := hp_a 1 _ rfl
          have a2 := hp_a 2 _ rfl
          have a3 := hp_a 3 _ rfl
          have a4 := hp_a 4 _ rfl
          have a5 := hp_a 5 _ rfl
          have a6 := hp_a 6 _ rfl
          simp only [Nat.add_zero] at a0
          clear hp_a
          have hp_b := HPb.out _ hbX
          have b0 := hp_b 0 _ rfl
          have b1 := hp_b 1 _ rfl
          have b2 := hp_b 2 _ rfl
          have b3 := hp_b 3 _ rfl
          have b4 := hp_b 4 _ rfl
          have b5 := hp_b 5 _ rfl
          have b6 := hp_b 6 _ rfl
          simp only [Nat.add_zero] at b0
          clear hp_b
          go_wp2_with fail
          refine (AT1.out _ (HSa.out _ hbX)).mono ?_
          rintro e w5 ⟨rfl, hb5⟩
          have hB5 := hbX.trans (hb5.mono hbX.size)
          clear hbX hb5 AT1 a0 a1 a2 a3 a4 a5 a6 b0 b1 b2 b3 b4 b5 b6
          go_upto_region 8 with fail
          have hK5 := World.alloc_heap_new w5 (.cells #[.int .i64 fy, .int .i64 ft, .int .i64 fa] 84 (0, 0))
          have hbX := hB5.alloc hB5.size (.cells #[.int .i64 fy, .int .i64 ft, .int .i64 fa] 84 (0, 0))
          obtain ⟨W6, hW6⟩ : ∃ W, W = w5.alloc (.cells #[.int .i64 fy, .int .i64 ft, .int .i64 fa] 84 (0, 0)) := ⟨_, rfl⟩
          rw [← hW6] at hK5 hbX
          rw [← hW6]
          clear hW6
          have hp_a := HPa.out _ hbX
          have a0 := hp_a 0 _ rfl
          have a1 := hp_a 1 _ rfl
          have a2 := hp_a 2 _ rfl
          have a3 := hp_a 3 _ rfl
          have a4 := hp_a 4 _ rfl
          have a5 := hp_a 5 _ rfl
          have a6 := hp_a 6 _ rfl
          simp only [Nat.add_zero] at a0
          clear hp_a
          have hp_b := HPb.out _ hbX
          have b0 := hp_b 0 _ rfl
          have b1 := hp_b 1 _ rfl
          have b2 := hp_b 2 _ rfl
          have b3 := hp_b 3 _ rfl
          have b4 := hp_b 4 _ rfl
          have b5 := hp_b 5 _ rfl
          have b6 := hp_b 6 _ rfl
          simp only [Nat.add_zero] at b0
          clear hp_b
          go_wp2_with fail
          refine (AT2.out _ (HSb.out _ hbX)).mono ?_
          rintro e w7 ⟨rfl, hb7⟩
          have hK7 := hkeep hb7 hK5
          have hB7 := hbX.trans (hb7.mono hbX.size)
          clear hbX hb7 hB5 hK5 AT2 a0 a1 a2 a3 a4 a5 a6 b0 b1 b2 b3 b4 b5 b6
          go_upto_region 9 with fail
          have hK8 := halloc hK7 (.cells #[.int .i64 gy, .int .i64 gt, .int .i64 gar] 84 (0, 0))
          have hG8 := World.alloc_heap_new w7 (.cells #[.int .i64 gy, .int .i64 gt, .int .i64 gar] 84 (0, 0))
          have hB8 := hB7.alloc hB7.size (.cells #[.int .i64 gy, .int .i64 gt, .int .i64 gar] 84 (0, 0))
          obtain ⟨W8, hW8⟩ : ∃ W, W = w7.alloc (.cells #[.int .i64 gy, .int .i64 gt, .int .i64 gar] 84 (0, 0)) := ⟨_, rfl⟩
          rw [← hW8] at hK8 hG8 hB8
          rw [← hW8]
          clear hW8 hK7 hB7
          have m0 := hcell (k := 0) (v := .int .i64 fy) hK8 rfl
          have m1 := hcell (k := 1) (v := .int .i64 ft) hK8 rfl
          have n0 := hcell (k := 0) (v := .int .i64 gy) hG8 rfl
          have n1 := hcell (k := 1) (v := .int .i64 gt) hG8 rfl
          clear hK8 hG8
          by_cases c1 : fy < gt
          case neg =>
            have hR2 : Hid (RO Z (k + 1) = true) := by show _ = _; rw [Hro.out, HRk.out, decide_eq_false c1]; rfl
            go_wp2
            have hX' := HX.out
            go_roundw
            case rel => exact ⟨k + 1, by omega, by omega, hR2⟩
            case measure => simp [intOf]; omega
          by_cases c2 : gy < ft
          case neg =>
            have hR2 : Hid (RO Z (k + 1) = true) := by show _ = _; rw [Hro.out, HRk.out, decide_eq_false c2]; simp
            go_wp2
            have hX' := HX.out
            go_roundw
            case rel => exact ⟨k + 1, by omega, by omega, hR2⟩
            case measure => simp [intOf]; omega
          have hF : Hid (RES = false) := Hno.out (by rw [decide_eq_true c1, decide_eq_true c2]; rfl)
          go_wp2
          go_ret
          exact ⟨by rw [hF.out]; rfl, hB8⟩
        · obtain rfl : k = (NX + 1 - MX).toNat := by omega
          have hcX : ¬ X ≤ NX := by omega
          have hT3 : Hid (TO (i + 1) = true) := by show _ = _; rw [HT2.out, HTi.out, HRk.out]; rfl
          go_wp2
          have hZ' := HZ.out
          go_roundw
          case rel => exact ⟨i + 1, by first | omega | (congr 1; omega), by omega, hT3, hBs2⟩
          case measure => simp [intOf]; omega
    · have hcZ : ¬ Z ≤ NZ := by omega
      have hE : Hid (RES = true) := HEnd.out i (by omega) HTi.out
      go_wp2
      go_ret
      exact ⟨by rw [hE.out]; rfl, hBr2⟩
end Go.Proofs.YtmgkkmcihplojaaGreat
