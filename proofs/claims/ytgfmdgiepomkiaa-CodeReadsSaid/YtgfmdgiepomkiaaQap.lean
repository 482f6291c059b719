/- Walk: the reference's tile: ahead, apart. -/
import Derived.Test.YtgfmdgiepomkiaaKh
import Derived.Test.YtgfmdgiepomkiaaTap
namespace Go.Proofs.Ytgfmdgiepomkiaa
open Go.RowKit Go.Sort
attribute [local go_sem] Instr.index

theorem y0_at {w : World} {h : RHd} {r : Rc} (hs : RcSl w h r) (hn : 0 < r.ys.length) : ∃ b o, h.ya = some ⟨b, o, none⟩ ∧ w.cell? ⟨b, o, none⟩ = some (.int .i64 (y0R r)) := by
  obtain ⟨b, o, e, hc⟩ := hs.y.at0 hn
  have := hc 0 hn
  exact ⟨b, o, e, by simpa [y0R] using this⟩
theorem rcE_ys {cf : Cfg} {r : Rc} (h : rcE cf r = 0) : 0 < r.ys.length := by
  have hk := (rcE_zero.1 h).2
  unfold rcOk rcLens at hk
  simp only [Bool.and_eq_true, decide_eq_true_eq] at hk
  obtain ⟨⟨hb, hy, _⟩, _⟩ := hk
  have := (rcN_bd hb).1
  omega

set_option maxRecDepth 100000 in
set_option maxHeartbeats 8000000 in
theorem refahead19_any (cf : Cfg) (ha : RHd) (ra : Rc) (hb : RHd) (rb : Rc) (w : World) (hs : RcSl w ha ra) (ht : RcSl w hb rb) (ea : rcE cf ra = 0) (eb : rcE cf rb = 0) :
    Calls Try.prog 57 #[rcV ha ra, rcV hb rb] w fun e w' => e = .returned (.bool (aheadR ra rb)) ∧ Below w.heap.size w w' := by
  have na := rcE_ys ea
  have nb := rcE_ys eb
  have hoI : (0 : Int) < (ra.ys.length : Int) := by omega
  have hrI : (0 : Int) < (rb.ys.length : Int) := by omega
  have hs0 := hs
  have ht0 := ht
  obtain ⟨W1, hW1⟩ : ∃ W, W = (w.alloc (rcO ha ra)).alloc (rcO hb rb) := ⟨_, rfl⟩
  have hA := halloc (World.alloc_heap_new w (rcO ha ra)) (rcO hb rb)
  have hR := World.alloc_heap_new (w.alloc (rcO ha ra)) (rcO hb rb)
  have hB : Below w.heap.size w ((w.alloc (rcO ha ra)).alloc (rcO hb rb)) := ((Below.refl _ _).alloc (Nat.le_refl _) _).alloc (by simp) _
  simp only [World.size_alloc] at hR
  rw [← hW1] at hA hR hB
  have hs1 := hs.below hB (Nat.le_refl _)
  have ht1 := ht.below hB (Nat.le_refl _)
  obtain ⟨ab, ao, hya, ya⟩ := y0_at hs1 na
  obtain ⟨bb, bo, hyb, yb⟩ := y0_at ht1 nb
  obtain ⟨aya, ayc, ata, atc⟩ := ha
  obtain ⟨bya, byc, bta, btc⟩ := hb
  dsimp only at hya hyb
  subst hya hyb
  clear hs ht hs0 ht0 hs1 ht1
  dsimp only [rcO, rcV] at hA hR hW1 ⊢
  have a0 := hcell (k := 0) (v := .int .i64 ra.x0) hA rfl
  have a1 := hcell (k := 1) (v := .int .i64 ra.z0) hA rfl
  have a2 := hcell (k := 2) (v := .int .i64 ra.x1) hA rfl
  have a3 := hcell (k := 3) (v := .int .i64 ra.z1) hA rfl
  have a4 := hcell (k := 4) (v := .int .i64 ra.area) hA rfl
  have a5 := hcell (k := 5) (v := .slice (some ⟨ab, ao, none⟩) ra.ys.length ayc) hA rfl
  have a6 := hcell (k := 6) (v := .slice ata ra.ts.length atc) hA rfl
  have b0 := hcell (k := 0) (v := .int .i64 rb.x0) hR rfl
  have b1 := hcell (k := 1) (v := .int .i64 rb.z0) hR rfl
  have b2 := hcell (k := 2) (v := .int .i64 rb.x1) hR rfl
  have b3 := hcell (k := 3) (v := .int .i64 rb.z1) hR rfl
  have b4 := hcell (k := 4) (v := .int .i64 rb.area) hR rfl
  have b5 := hcell (k := 5) (v := .slice (some ⟨bb, bo, none⟩) rb.ys.length byc) hR rfl
  have b6 := hcell (k := 6) (v := .slice bta rb.ts.length btc) hR rfl
  have HB := Lib.hid hB
  have HAH : Hid (aheadR ra rb = decide (ra.z0 < rb.z0 ∨ ra.z0 = rb.z0 ∧ (ra.x0 < rb.x0 ∨ ra.x0 = rb.x0 ∧ y0R ra < y0R rb))) := rfl
  clear hA hR hB
  generalize aheadR ra rb = R at HAH ⊢
  generalize y0R ra = ya0 at HAH ya
  generalize y0R rb = yb0 at HAH yb
  go_enter Try.func57, Try.ntmps57
  go_upto_region 1 with fail
  rw [← hW1]
  clear hW1
  by_cases h1 : ra.z0 = rb.z0
  case neg =>
    have h1B : (ra.z0 != rb.z0) = true := by simpa using h1
    have hR : R = decide (ra.z0 < rb.z0) := by rw [HAH.out]; exact decide_eq_decide.2 (by omega)
    have HR := Lib.hid hR
    clear hR ya yb
    go_wp2
    go_ret
    exact ⟨by rw [HR.out]; rfl, HB.out⟩
  have h1B : (ra.z0 != rb.z0) = false := by simpa using h1
  by_cases h2 : ra.x0 = rb.x0
  case neg =>
    have h2B : (ra.x0 != rb.x0) = true := by simpa using h2
    have hR : R = decide (ra.x0 < rb.x0) := by rw [HAH.out]; exact decide_eq_decide.2 (by omega)
    have HR := Lib.hid hR
    clear hR ya yb h1
    go_wp2
    go_ret
    exact ⟨by rw [HR.out]; rfl, HB.out⟩
  have h2B : (ra.x0 != rb.x0) = false := by simpa using h2
  have hR : R = decide (ya0 < yb0) := by rw [HAH.out]; exact decide_eq_decide.2 (by omega)
  have HR := Lib.hid hR
  clear hR h1 h2
  go_upto_region 5 with fail
  have e_a0 := fun d os => cell_regrown a0 d os
  have e_a1 := fun d os => cell_regrown a1 d os
  have e_a2 := fun d os => cell_regrown a2 d os
  have e_a3 := fun d os => cell_regrown a3 d os
  have e_a4 := fun d os => cell_regrown a4 d os
  have e_a5 := fun d os => cell_regrown a5 d os
  have e_a6 := fun d os => cell_regrown a6 d os
  have e_b0 := fun d os => cell_regrown b0 d os
  have e_b1 := fun d os => cell_regrown b1 d os
  have e_b2 := fun d os => cell_regrown b2 d os
  have e_b3 := fun d os => cell_regrown b3 d os
  have e_b4 := fun d os => cell_regrown b4 d os
  have e_b5 := fun d os => cell_regrown b5 d os
  have e_b6 := fun d os => cell_regrown b6 d os
  have e_ya := fun d os => cell_regrown ya d os
  have e_yb := fun d os => cell_regrown yb d os
  clear a0 a1 a2 a3 a4 a5 a6 b0 b1 b2 b3 b4 b5 b6 ya yb
  refine wp_region_quiet_below (by kernel_rfl) (by kernel_rfl) ?_
  repeat (go_big_quiet_step (fail))
  refine wpQuiet_nil ?_
  rintro w4 ⟨⟨dq, osq⟩, hw4⟩
  have hb4 : Below W1.heap.size W1 w4 := by rw [hw4]; exact below_regrown W1 dq osq
  have hB4 := HB.out.trans (hb4.mono HB.out.size)
  clear hw4 e_a0 e_a1 e_a2 e_a3 e_a4 e_a5 e_a6 e_b0 e_b1 e_b2 e_b3 e_b4 e_b5 e_b6 e_ya e_yb
  go_wp2
  go_ret
  exact ⟨by rw [HR.out]; rfl, hB4⟩

set_option maxRecDepth 100000 in
set_option maxHeartbeats 16000000 in
theorem refapart19_any (cf : Cfg) (ha : RHd) (ra : Rc) (hb : RHd) (rb : Rc) (w : World) (hs : RcSl w ha ra) (ht : RcSl w hb rb) (ea : rcE cf ra = 0) (eb : rcE cf rb = 0) :
    Calls Try.prog 58 #[rcV ha ra, rcV hb rb] w fun e w' => e = .returned (.bool (apartR ra rb)) ∧ Below w.heap.size w w' := by
  obtain ⟨u1, u2, u3, u4, u5, u6, _, _⟩ := rcBd_iff.1 (rcOk_bd ea)
  obtain ⟨v1, v2, v3, v4, v5, v6, _, _⟩ := rcBd_iff.1 (rcOk_bd eb)
  have HSa := Lib.hid (fun W (hbW : Below w.heap.size w W) => hs.below hbW (Nat.le_refl _))
  have HSb := Lib.hid (fun W (hbW : Below w.heap.size w W) => ht.below hbW (Nat.le_refl _))
  clear hs ht
  have HIa : Hid (∀ x z, ra.x0 ≤ x → x ≤ ra.x1 → ra.z0 ≤ z → z ≤ ra.z1 → (rcAt ra x z).isSome = true) := fun x z h1 h2 h3 h4 => rcAt_in ea h1 h2 h3 h4
  have HIb : Hid (∀ x z, rb.x0 ≤ x → x ≤ rb.x1 → rb.z0 ≤ z → z ≤ rb.z1 → (rcAt rb x z).isSome = true) := fun x z h1 h2 h3 h4 => rcAt_in eb h1 h2 h3 h4
  clear ea eb
  have ATa := Lib.hid (fun x z W hW => refat17_any ha ra x z W hW)
  have ATb := Lib.hid (fun x z W hW => refat17_any hb rb x z W hW)
  obtain ⟨MZ, hMZ⟩ : ∃ m, m = max ra.z0 rb.z0 := ⟨_, rfl⟩
  obtain ⟨NZ, hNZ⟩ : ∃ m, m = min ra.z1 rb.z1 := ⟨_, rfl⟩
  obtain ⟨MX, hMX⟩ : ∃ m, m = max ra.x0 rb.x0 := ⟨_, rfl⟩
  obtain ⟨NX, hNX⟩ : ∃ m, m = min ra.x1 rb.x1 := ⟨_, rfl⟩
  have hz1 : 0 ≤ MZ ∧ MZ ≤ 32 ∧ 0 ≤ NZ ∧ NZ ≤ 32 := by omega
  have hx1 : 0 ≤ MX ∧ MX ≤ 32 ∧ 0 ≤ NX ∧ NX ≤ 32 := by omega
  have HZin : Hid (∀ i : Nat, MZ + (i : Int) ≤ NZ → ra.z0 ≤ MZ + (i : Int) ∧ MZ + (i : Int) ≤ ra.z1 ∧ rb.z0 ≤ MZ + (i : Int) ∧ MZ + (i : Int) ≤ rb.z1) := fun i h => by omega
  have HXin : Hid (∀ i : Nat, MX + (i : Int) ≤ NX → ra.x0 ≤ MX + (i : Int) ∧ MX + (i : Int) ≤ ra.x1 ∧ rb.x0 ≤ MX + (i : Int) ∧ MX + (i : Int) ≤ rb.x1) := fun i h => by omega
  have HNo : Hid (∀ i k : Nat, i < (NZ + 1 - MZ).toNat → k < (NX + 1 - MX).toNat → clrF (rcF ra (MX + (k : Int)) (MZ + (i : Int))) (rcF rb (MX + (k : Int)) (MZ + (i : Int))) = false → apartR ra rb = false) := fun i k h1 h2 h3 => by rw [hMZ, hNZ] at h1; rw [hMX, hNX] at h2; rw [hMX, hMZ] at h3; exact apart_no h1 h2 h3
  have HTo : Hid (∀ i : Nat, apTo ra rb (i + 1) = (apTo ra rb i && apRow ra rb (MZ + (i : Int)) (NX + 1 - MX).toNat)) := fun i => by rw [hMZ, hNX, hMX]; exact apTo_succ ra rb i
  have HRo : Hid (∀ (z : Int) (k : Nat), apRow ra rb z (k + 1) = (apRow ra rb z k && clrF (rcF ra (MX + (k : Int)) z) (rcF rb (MX + (k : Int)) z))) := fun z k => by rw [hMX]; exact apRow_succ ra rb z k
  have HEnd : Hid (∀ i : Nat, i = (NZ + 1 - MZ).toNat → apTo ra rb i = true → apartR ra rb = true) := fun i h1 h2 => by rw [h1, hNZ, hMZ] at h2; exact h2
  have HT0 : Hid (apTo ra rb 0 = true) := rfl
  have HR0 : Hid (∀ z, apRow ra rb z 0 = true) := fun _ => rfl
  clear u1 u2 u3 u4 u5 u6 v1 v2 v3 v4 v5 v6
  generalize apartR ra rb = RES at HNo HEnd ⊢
  generalize apTo ra rb = TO at HTo HEnd HT0
  generalize apRow ra rb = RO at HTo HRo HR0
  have HMZ := Lib.hid hMZ.symm
  have HNZ := Lib.hid hNZ.symm
  have HMX := Lib.hid hMX.symm
  have HNX := Lib.hid hNX.symm
  clear hMZ hNZ hMX hNX
  obtain ⟨W1, hW1⟩ : ∃ W, W = (w.alloc (rcO ha ra)).alloc (rcO hb rb) := ⟨_, rfl⟩
  have hA := halloc (World.alloc_heap_new w (rcO ha ra)) (rcO hb rb)
  have hR := World.alloc_heap_new (w.alloc (rcO ha ra)) (rcO hb rb)
  have hB : Below w.heap.size w ((w.alloc (rcO ha ra)).alloc (rcO hb rb)) := ((Below.refl _ _).alloc (Nat.le_refl _) _).alloc (by simp) _
  simp only [World.size_alloc] at hR
  rw [← hW1] at hA hR hB
  obtain ⟨S, hS⟩ : ∃ S, S = w.heap.size := ⟨_, rfl⟩
  rw [← hS] at hA hR hB HSa HSb ⊢
  have HS := Lib.hid hS
  clear hS
  dsimp only [rcO, rcV] at hA hR hW1 ATa ATb ⊢
  have HBX := Lib.hid hB
  have HAB := Lib.hid (And.intro hA hR)
  have a0 := hcell (k := 0) (v := .int .i64 ra.x0) hA rfl
  have a1 := hcell (k := 1) (v := .int .i64 ra.z0) hA rfl
  have a2 := hcell (k := 2) (v := .int .i64 ra.x1) hA rfl
  have a3 := hcell (k := 3) (v := .int .i64 ra.z1) hA rfl
  have a4 := hcell (k := 4) (v := .int .i64 ra.area) hA rfl
  have a5 := hcell (k := 5) (v := .slice ha.ya ra.ys.length ha.yc) hA rfl
  have a6 := hcell (k := 6) (v := .slice ha.ta ra.ts.length ha.tc) hA rfl
  have b0 := hcell (k := 0) (v := .int .i64 rb.x0) hR rfl
  have b1 := hcell (k := 1) (v := .int .i64 rb.z0) hR rfl
  have b2 := hcell (k := 2) (v := .int .i64 rb.x1) hR rfl
  have b3 := hcell (k := 3) (v := .int .i64 rb.z1) hR rfl
  have b4 := hcell (k := 4) (v := .int .i64 rb.area) hR rfl
  have b5 := hcell (k := 5) (v := .slice hb.ya rb.ys.length hb.yc) hR rfl
  have b6 := hcell (k := 6) (v := .slice hb.ta rb.ts.length hb.tc) hR rfl
  clear hA hR hB
  go_enter Try.func58, Try.ntmps58
  go_upto_region 1 with fail
  rw [← hW1, ← HS.out]
  clear hW1
  go_upto_region 1 with fail
  go_cut [5] from 11 to 15 (fun s wx => s = .int .i64 MZ ∧ wx = W1)
  case first =>
    by_cases hm : ra.z0 < rb.z0
    · go_wp2
      go_meet
      exact ⟨by have := HMZ.out; congr 1; omega, rfl⟩
    · go_wp2
      go_meet
      exact ⟨by have := HMZ.out; congr 1; omega, rfl⟩
  case rest =>
  obtain ⟨rfl, rfl⟩ := hcut
  clear a0 a1 a2 a3 a4 a5 a6 b0 b1 b2 b3 b4 b5 b6
  go_wp2
  go_loopw [5] (fun s wr => ∃ (i : Nat) (Z : Int), s = .int .i64 Z ∧ Hid (Z = MZ + (i : Int)) ∧ i ≤ (NZ + 1 - MZ).toNat ∧ Hid (TO i = true) ∧ Hid (wr.heap[S]? = some (.cells #[.int .i64 ra.x0, .int .i64 ra.z0, .int .i64 ra.x1, .int .i64 ra.z1, .int .i64 ra.area, .slice ha.ya ra.ys.length ha.yc, .slice ha.ta ra.ts.length ha.tc] 55 (0, 0)) ∧ wr.heap[S + 1]? = some (.cells #[.int .i64 rb.x0, .int .i64 rb.z0, .int .i64 rb.x1, .int .i64 rb.z1, .int .i64 rb.area, .slice hb.ya rb.ys.length hb.yc, .slice hb.ta rb.ts.length hb.tc] 55 (0, 0))) ∧ Below S w wr) (fun s _ => (NZ + 1 - intOf s).toNat)
  case atStart => exact ⟨0, MZ, rfl, by show _ = _; simp, Nat.zero_le _, HT0, HAB.out, HBX.out⟩
  case round =>
    clear HAB HBX
    obtain ⟨i, Z, rfl, HZ, hi, HTi, HAB, hBr⟩ := hrel
    obtain ⟨hA, hR⟩ := HAB.out
    have a0 := hcell (k := 0) (v := .int .i64 ra.x0) hA rfl
    have a1 := hcell (k := 1) (v := .int .i64 ra.z0) hA rfl
    have a2 := hcell (k := 2) (v := .int .i64 ra.x1) hA rfl
    have a3 := hcell (k := 3) (v := .int .i64 ra.z1) hA rfl
    have a4 := hcell (k := 4) (v := .int .i64 ra.area) hA rfl
    have a5 := hcell (k := 5) (v := .slice ha.ya ra.ys.length ha.yc) hA rfl
    have a6 := hcell (k := 6) (v := .slice ha.ta ra.ts.length ha.tc) hA rfl
    have b0 := hcell (k := 0) (v := .int .i64 rb.x0) hR rfl
    have b1 := hcell (k := 1) (v := .int .i64 rb.z0) hR rfl
    have b2 := hcell (k := 2) (v := .int .i64 rb.x1) hR rfl
    have b3 := hcell (k := 3) (v := .int .i64 rb.z1) hR rfl
    have b4 := hcell (k := 4) (v := .int .i64 rb.area) hR rfl
    have b5 := hcell (k := 5) (v := .slice hb.ya rb.ys.length hb.yc) hR rfl
    have b6 := hcell (k := 6) (v := .slice hb.ta rb.ts.length hb.tc) hR rfl
    clear hA hR
    go_upto_region 2 with fail
    go_cut [22] from 16 to 21 (fun s wx => s = .bool (decide (Z ≤ NZ)) ∧ wx = wr)
    case first =>
      by_cases hm : rb.z1 < ra.z1
      · go_wp2
        go_meet
        exact ⟨by have := HNZ.out; congr 1; exact decide_eq_decide.2 (by omega), rfl⟩
      · go_wp2
        go_meet
        exact ⟨by have := HNZ.out; congr 1; exact decide_eq_decide.2 (by omega), rfl⟩
    case rest =>
    obtain ⟨rfl, rfl⟩ := hcut
    by_cases hZ : Z ≤ NZ
    case neg =>
      rw [decide_eq_false hZ]
      have hend : RES = true := HEnd.out i (by have := HZ.out; omega) HTi.out
      have HE := Lib.hid hend
      clear hend a0 a1 a2 a3 a4 a5 a6 b0 b1 b2 b3 b4 b5 b6
      go_wp2
      go_ret
      exact ⟨by rw [HE.out]; rfl, hBr⟩
    rw [decide_eq_true hZ]
    go_upto_region 4 with fail
    go_cut [6] from 25 to 29 (fun s wx => s = .int .i64 MX ∧ wx = wc)
    case first =>
      by_cases hm : ra.x0 < rb.x0
      · go_wp2
        go_meet
        exact ⟨by have := HMX.out; congr 1; omega, rfl⟩
      · go_wp2
        go_meet
        exact ⟨by have := HMX.out; congr 1; omega, rfl⟩
    case rest =>
    obtain ⟨rfl, rfl⟩ := hcut
    have wz : IntKind.i64.wrap (Z + 1) = Z + 1 := by have := HZ.out; rw [IntKind.wrap_i64]; omega
    have hZin := HZin.out i (by have := HZ.out; omega)
    rw [← HZ.out] at hZin
    have HZi := Lib.hid hZin
    have hTs := HTo.out i
    rw [← HZ.out] at hTs
    have HTs := Lib.hid hTs
    have HNoi := Lib.hid (fun k h => HNo.out i k (by have := HZ.out; omega) h)
    rw [← HZ.out] at HNoi
    clear hZin hTs a0 a1 a2 a3 a4 a5 a6 b0 b1 b2 b3 b4 b5 b6
    go_wp2
    go_loopw [6] (fun s wr => ∃ (k : Nat) (X : Int), s = .int .i64 X ∧ Hid (X = MX + (k : Int)) ∧ k ≤ (NX + 1 - MX).toNat ∧ Hid (RO Z k = true) ∧ Hid (wr.heap[S]? = some (.cells #[.int .i64 ra.x0, .int .i64 ra.z0, .int .i64 ra.x1, .int .i64 ra.z1, .int .i64 ra.area, .slice ha.ya ra.ys.length ha.yc, .slice ha.ta ra.ts.length ha.tc] 55 (0, 0)) ∧ wr.heap[S + 1]? = some (.cells #[.int .i64 rb.x0, .int .i64 rb.z0, .int .i64 rb.x1, .int .i64 rb.z1, .int .i64 rb.area, .slice hb.ya rb.ys.length hb.yc, .slice hb.ta rb.ts.length hb.tc] 55 (0, 0))) ∧ Below S w wr) (fun s _ => (NX + 1 - intOf s).toNat)
    case atStart => exact ⟨0, MX, rfl, by show _ = _; simp, Nat.zero_le _, HR0.out Z, HAB.out, hBr⟩
    case round =>
      clear HAB hBr
      obtain ⟨k, X, rfl, HX, hk, HRk, HAB, hBr⟩ := hrel
      obtain ⟨hA, hR⟩ := HAB.out
      have a0 := hcell (k := 0) (v := .int .i64 ra.x0) hA rfl
      have a1 := hcell (k := 1) (v := .int .i64 ra.z0) hA rfl
      have a2 := hcell (k := 2) (v := .int .i64 ra.x1) hA rfl
      have a3 := hcell (k := 3) (v := .int .i64 ra.z1) hA rfl
      have a4 := hcell (k := 4) (v := .int .i64 ra.area) hA rfl
      have a5 := hcell (k := 5) (v := .slice ha.ya ra.ys.length ha.yc) hA rfl
      have a6 := hcell (k := 6) (v := .slice ha.ta ra.ts.length ha.tc) hA rfl
      have b0 := hcell (k := 0) (v := .int .i64 rb.x0) hR rfl
      have b1 := hcell (k := 1) (v := .int .i64 rb.z0) hR rfl
      have b2 := hcell (k := 2) (v := .int .i64 rb.x1) hR rfl
      have b3 := hcell (k := 3) (v := .int .i64 rb.z1) hR rfl
      have b4 := hcell (k := 4) (v := .int .i64 rb.area) hR rfl
      have b5 := hcell (k := 5) (v := .slice hb.ya rb.ys.length hb.yc) hR rfl
      have b6 := hcell (k := 6) (v := .slice hb.ta rb.ts.length hb.tc) hR rfl
      clear hA hR
      go_upto_region 5 with fail
      go_cut [36] from 30 to 35 (fun s wx => s = .bool (decide (X ≤ NX)) ∧ wx = wr)
      case first =>
        by_cases hm : rb.x1 < ra.x1
        · go_wp2
          go_meet
          exact ⟨by have := HNX.out; congr 1; exact decide_eq_decide.2 (by omega), rfl⟩
        · go_wp2
          go_meet
          exact ⟨by have := HNX.out; congr 1; exact decide_eq_decide.2 (by omega), rfl⟩
      case rest =>
      obtain ⟨rfl, rfl⟩ := hcut
      by_cases hX : X ≤ NX
      case neg =>
        rw [decide_eq_false hX]
        have hT2 : TO (i + 1) = true := by
          rw [HTs.out, HTi.out, Bool.true_and]
          have e : (NX + 1 - MX).toNat = k := by have := HX.out; omega
          rw [e]
          exact HRk.out
        have HT2 := Lib.hid hT2
        have HZ2 : Hid (Z + 1 = MZ + ((i + 1 : Nat) : Int)) := by show _ = _; have := HZ.out; omega
        have hi2 : i + 1 ≤ (NZ + 1 - MZ).toNat := by have := HZ.out; omega
        clear hT2 a0 a1 a2 a3 a4 a5 a6 b0 b1 b2 b3 b4 b5 b6
        go_wp2
        go_roundw
        case rel => exact ⟨i + 1, Z + 1, rfl, HZ2, hi2, HT2, HAB.out, hBr⟩
        case measure => simp [intOf]; omega
      rw [decide_eq_true hX]
      have wx : IntKind.i64.wrap (X + 1) = X + 1 := by have := HX.out; rw [IntKind.wrap_i64]; omega
      have hXin := HXin.out k (by have := HX.out; omega)
      rw [← HX.out] at hXin
      obtain ⟨z1, z2, z3, z4⟩ := HZi.out
      have hRs := HRo.out Z k
      rw [← HX.out] at hRs
      have hNo := HNoi.out k (by have := HX.out; omega)
      rw [← HX.out] at hNo
      have AT1 := Lib.hid (fun W (hW : Below S w W) => ATa.out X Z W (HSa.out W hW))
      have AT2 := Lib.hid (fun W (hW : Below S w W) => ATb.out X Z W (HSb.out W hW))
      clear z1 z2 z3 z4 hXin
      generalize (rcAt ra X Z).isSome = o1 at AT1
      generalize (rcAt rb X Z).isSome = o2 at AT2
      generalize rcF ra X Z = f at AT1 hRs hNo
      generalize rcF rb X Z = g at AT2 hRs hNo
      obtain ⟨fy, ft, fa⟩ := f
      obtain ⟨gy, gt, ga⟩ := g
      unfold clrF at hRs hNo
      dsimp only [flrV] at AT1 AT2 hRs hNo
      have HRs := Lib.hid hRs
      have HNo2 := Lib.hid hNo
      clear hRs hNo
      go_wp2_with fail
      refine (AT1.out _ hBr).mono ?_
      rintro e w2 ⟨rfl, hb2⟩
      have hB2 := hBr.trans (hb2.mono (by have := HS.out; have := hBr.size; omega))
      have HR2 := Lib.hid (And.intro (hkeep hb2 HAB.out.1) (hkeep hb2 HAB.out.2))
      clear a0 a1 a2 a3 a4 a5 a6 b0 b1 b2 b3 b4 b5 b6 hb2 AT1 hBr HAB
      have hF1 := World.alloc_heap_new w2 (.cells #[.int .i64 fy, .int .i64 ft, .int .i64 fa] 102 (0, 0))
      have hL : Below w2.heap.size w2 (w2.alloc (.cells #[.int .i64 fy, .int .i64 ft, .int .i64 fa] 102 (0, 0))) := (Below.refl _ _).alloc (Nat.le_refl _) _
      go_upto_region 8 with fail
      obtain ⟨W3, hW3⟩ : ∃ W, W = w2.alloc (.cells #[.int .i64 fy, .int .i64 ft, .int .i64 fa] 102 (0, 0)) := ⟨_, rfl⟩
      rw [← hW3] at hL hF1 ⊢
      clear hW3
      have hB3 := hB2.trans (hL.mono (by have := HS.out; have := hB2.size; omega))
      have HR3 := Lib.hid (And.intro (hkeep hL HR2.out.1) (hkeep hL HR2.out.2))
      have HF1 := Lib.hid hF1
      generalize w2.heap.size = p1 at HF1
      clear HR2 hL hB2 hF1
      have hR3 := HR3.out.2
      have b0 := hcell (k := 0) (v := .int .i64 rb.x0) hR3 rfl
      have b1 := hcell (k := 1) (v := .int .i64 rb.z0) hR3 rfl
      have b2 := hcell (k := 2) (v := .int .i64 rb.x1) hR3 rfl
      have b3 := hcell (k := 3) (v := .int .i64 rb.z1) hR3 rfl
      have b4 := hcell (k := 4) (v := .int .i64 rb.area) hR3 rfl
      have b5 := hcell (k := 5) (v := .slice hb.ya rb.ys.length hb.yc) hR3 rfl
      have b6 := hcell (k := 6) (v := .slice hb.ta rb.ts.length hb.tc) hR3 rfl
      go_wp2_with fail
      refine (AT2.out _ hB3).mono ?_
      rintro e w4 ⟨rfl, hb4⟩
      have hB4 := hB3.trans (hb4.mono (by have := HS.out; have := hB3.size; omega))
      have HR4 := Lib.hid (And.intro (hkeep hb4 HR3.out.1) (hkeep hb4 HR3.out.2))
      have HF14 := Lib.hid (hkeep hb4 HF1.out)
      clear HF1 hR3 HR3 b0 b1 b2 b3 b4 b5 b6 hb4 AT2 hB3
      have hF2 := World.alloc_heap_new w4 (.cells #[.int .i64 gy, .int .i64 gt, .int .i64 ga] 102 (0, 0))
      have hL : Below w4.heap.size w4 (w4.alloc (.cells #[.int .i64 gy, .int .i64 gt, .int .i64 ga] 102 (0, 0))) := (Below.refl _ _).alloc (Nat.le_refl _) _
      go_upto_region 9 with fail
      obtain ⟨W5, hW5⟩ : ∃ W, W = w4.alloc (.cells #[.int .i64 gy, .int .i64 gt, .int .i64 ga] 102 (0, 0)) := ⟨_, rfl⟩
      rw [← hW5] at hL hF2 ⊢
      clear hW5
      have hB5 := hB4.trans (hL.mono (by have := HS.out; have := hB4.size; omega))
      have HR5 := Lib.hid (And.intro (hkeep hL HR4.out.1) (hkeep hL HR4.out.2))
      have hF15 := hkeep hL HF14.out
      generalize w4.heap.size = p2 at hF2 ⊢
      clear HF14 HR4 hL hB4
      have f0 := hcell (k := 0) (v := .int .i64 fy) hF15 rfl
      have f1 := hcell (k := 1) (v := .int .i64 ft) hF15 rfl
      have g0 := hcell (k := 0) (v := .int .i64 gy) hF2 rfl
      have g1 := hcell (k := 1) (v := .int .i64 gt) hF2 rfl
      clear hF15 hF2
      by_cases c1 : fy < gt
      case pos =>
        by_cases c2 : gy < ft
        case pos =>
          have hF : RES = false := HNo2.out (by simp [c1, c2])
          have HF := Lib.hid hF
          clear hF
          go_wp2
          go_ret
          exact ⟨by rw [HF.out]; rfl, hB5⟩
        have HR6 : Hid (RO Z (k + 1) = true) := by show _ = _; rw [HRs.out, HRk.out]; simp [c2]
        have HX2 : Hid (X + 1 = MX + ((k + 1 : Nat) : Int)) := by show _ = _; have := HX.out; omega
        have hk2 : k + 1 ≤ (NX + 1 - MX).toNat := by have := HX.out; omega
        go_wp2
        go_roundw
        case rel => exact ⟨k + 1, X + 1, rfl, HX2, hk2, HR6, HR5.out, hB5⟩
        case measure => simp [intOf]; omega
      have HR6 : Hid (RO Z (k + 1) = true) := by show _ = _; rw [HRs.out, HRk.out]; simp [c1]
      have HX2 : Hid (X + 1 = MX + ((k + 1 : Nat) : Int)) := by show _ = _; have := HX.out; omega
      have hk2 : k + 1 ≤ (NX + 1 - MX).toNat := by have := HX.out; omega
      go_wp2
      go_roundw
      case rel => exact ⟨k + 1, X + 1, rfl, HX2, hk2, HR6, HR5.out, hB5⟩
      case measure => simp [intOf]; omega
end Go.Proofs.Ytgfmdgiepomkiaa
