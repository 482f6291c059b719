/- Walk: the law LocateInside. -/
import Derived.Test.YtgfmdgiepomkiaaLcM
import Derived.Test.YtgfmdgiepomkiaaLcH
import Derived.Test.YtgfmdgiepomkiaaLcW
namespace Go.Proofs.Ytgfmdgiepomkiaa
open Go.RowKit Go.Sort
attribute [local go_sem] Instr.index

/-- Does a rectangle lie in the world? -/
def InW (r : Rc) : Prop := (0 ≤ r.x0 ∧ r.x0 ≤ r.x1 ∧ r.x1 < 32) ∧ 0 ≤ r.z0 ∧ r.z0 ≤ r.z1 ∧ r.z1 < 32
def RngP (r : Rc) (v : Value) : Prop := v = .bool false ∨ v = .bool true ∧ InW r
theorem RngP.out {r : Rc} {v : Value} (h : RngP r v) : ∃ q : Bool, v = .bool q ∧ Hid (q = true → InW r) := by
  rcases h with e | ⟨e, hq⟩
  · exact ⟨false, e, fun h => by cases h⟩
  · exact ⟨true, e, fun _ => hq⟩
set_option maxRecDepth 100000 in
set_option maxHeartbeats 32000000 in
theorem locateinside_any (m : Msh) (f : Flt) (px pz : Int) (w : World) (hm : MshAt w m) :
    Calls Try.prog 5 #[mshV m, fltV f, .agg #[.int .i64 px, .int .i64 pz]] w fun e w' => e = .returned (.bool true) ∧ Below w.heap.size w w' := by
  have hB : Below w.heap.size w (((w.alloc (.cells #[.int .i64 m.cf.clear, .int .i64 m.cf.climb, .int .i64 m.cf.height, .int .i64 m.cf.rise, .int .i64 m.cf.run, .int .i64 m.cf.w, .int .i64 m.cf.d, .slice m.ta m.tn m.tc, .slice m.ra m.rn m.rc, .slice m.da m.dn m.dc, .slice m.ha m.hn m.hc] 43 (0, 0))).alloc (.cells #[.int .i64 f.areas, .int .i64 f.c0, .int .i64 f.c1, .int .i64 f.c2, .int .i64 f.c3, .int .i64 f.c4, .int .i64 f.c5, .int .i64 f.c6, .int .i64 f.c7] 46 (0, 0))).alloc (.cells #[.int .i64 px, .int .i64 pz] 48 (0, 0))) := (((Below.refl _ _).alloc (Nat.le_refl _) _).alloc (by simp) _).alloc (by simp; omega) _
  have hM := halloc (halloc (World.alloc_heap_new w (.cells #[.int .i64 m.cf.clear, .int .i64 m.cf.climb, .int .i64 m.cf.height, .int .i64 m.cf.rise, .int .i64 m.cf.run, .int .i64 m.cf.w, .int .i64 m.cf.d, .slice m.ta m.tn m.tc, .slice m.ra m.rn m.rc, .slice m.da m.dn m.dc, .slice m.ha m.hn m.hc] 43 (0, 0))) (.cells #[.int .i64 f.areas, .int .i64 f.c0, .int .i64 f.c1, .int .i64 f.c2, .int .i64 f.c3, .int .i64 f.c4, .int .i64 f.c5, .int .i64 f.c6, .int .i64 f.c7] 46 (0, 0))) (.cells #[.int .i64 px, .int .i64 pz] 48 (0, 0))
  have hF := halloc (World.alloc_heap_new (w.alloc (.cells #[.int .i64 m.cf.clear, .int .i64 m.cf.climb, .int .i64 m.cf.height, .int .i64 m.cf.rise, .int .i64 m.cf.run, .int .i64 m.cf.w, .int .i64 m.cf.d, .slice m.ta m.tn m.tc, .slice m.ra m.rn m.rc, .slice m.da m.dn m.dc, .slice m.ha m.hn m.hc] 43 (0, 0))) (.cells #[.int .i64 f.areas, .int .i64 f.c0, .int .i64 f.c1, .int .i64 f.c2, .int .i64 f.c3, .int .i64 f.c4, .int .i64 f.c5, .int .i64 f.c6, .int .i64 f.c7] 46 (0, 0))) (.cells #[.int .i64 px, .int .i64 pz] 48 (0, 0))
  have hP := World.alloc_heap_new ((w.alloc (.cells #[.int .i64 m.cf.clear, .int .i64 m.cf.climb, .int .i64 m.cf.height, .int .i64 m.cf.rise, .int .i64 m.cf.run, .int .i64 m.cf.w, .int .i64 m.cf.d, .slice m.ta m.tn m.tc, .slice m.ra m.rn m.rc, .slice m.da m.dn m.dc, .slice m.ha m.hn m.hc] 43 (0, 0))).alloc (.cells #[.int .i64 f.areas, .int .i64 f.c0, .int .i64 f.c1, .int .i64 f.c2, .int .i64 f.c3, .int .i64 f.c4, .int .i64 f.c5, .int .i64 f.c6, .int .i64 f.c7] 46 (0, 0))) (.cells #[.int .i64 px, .int .i64 pz] 48 (0, 0))
  simp only [World.size_alloc] at hF hP
  obtain ⟨W1, hW1⟩ : ∃ W, W = ((w.alloc (.cells #[.int .i64 m.cf.clear, .int .i64 m.cf.climb, .int .i64 m.cf.height, .int .i64 m.cf.rise, .int .i64 m.cf.run, .int .i64 m.cf.w, .int .i64 m.cf.d, .slice m.ta m.tn m.tc, .slice m.ra m.rn m.rc, .slice m.da m.dn m.dc, .slice m.ha m.hn m.hc] 43 (0, 0))).alloc (.cells #[.int .i64 f.areas, .int .i64 f.c0, .int .i64 f.c1, .int .i64 f.c2, .int .i64 f.c3, .int .i64 f.c4, .int .i64 f.c5, .int .i64 f.c6, .int .i64 f.c7] 46 (0, 0))).alloc (.cells #[.int .i64 px, .int .i64 pz] 48 (0, 0)) := ⟨_, rfl⟩
  obtain ⟨S0, hS0⟩ : ∃ S, S = w.heap.size := ⟨_, rfl⟩
  obtain ⟨S1, hS1⟩ : ∃ S, S = S0 + 1 := ⟨_, rfl⟩
  obtain ⟨S2, hS2⟩ : ∃ S, S = S1 + 1 := ⟨_, rfl⟩
  rw [← hW1] at hB hM hF hP
  rw [← hS0] at hM hF hP
  rw [← hS1] at hF hP
  rw [← hS2] at hP
  have GG := Lib.hid (great25_any m W1 (hm.below hB))
  have NE := Lib.hid (fun W (hb : Below w.heap.size w W) (hT : TlsB m.tn m.ts) => lnearest_any m f px pz W (hm.below hb) hT.2 hT.1)
  have HR := Lib.hid (fun W (hb : Below w.heap.size w W) => (hm.below hb).r)
  have FA := Lib.hid (fun h r W => lfar_any h r px pz W)
  have AD := Lib.hid (fun a W => ladm_any f a W)
  unfold GtPost at GG
  unfold NePost at NE
  have Hl := Lib.hid hm.r.sl.len
  have hmax := hm.r.sl.max
  have hle := hm.r.sl.le
  clear hm
  dsimp only [mshV, mshA, fltV, fltA, rcV] at GG NE FA AD ⊢
  go_enter Try.func5, Try.ntmps5
  go_upto_region 1 with fail
  rw [← hW1, ← hS0, ← hS1, ← hS2]
  clear hW1 hS0 hS1 hS2
  have HM := Lib.hid hM
  have HF := Lib.hid hF
  have HP := Lib.hid hP
  have HB := Lib.hid hB
  have c0 := hcell (k := 0) (v := .int .i64 m.cf.clear) hM rfl
  have c1 := hcell (k := 1) (v := .int .i64 m.cf.climb) hM rfl
  have c2 := hcell (k := 2) (v := .int .i64 m.cf.height) hM rfl
  have c3 := hcell (k := 3) (v := .int .i64 m.cf.rise) hM rfl
  have c4 := hcell (k := 4) (v := .int .i64 m.cf.run) hM rfl
  have c5 := hcell (k := 5) (v := .int .i64 m.cf.w) hM rfl
  have c6 := hcell (k := 6) (v := .int .i64 m.cf.d) hM rfl
  have c7 := hcell (k := 7) (v := .slice m.ta m.tn m.tc) hM rfl
  have c8 := hcell (k := 8) (v := .slice m.ra m.rn m.rc) hM rfl
  have c9 := hcell (k := 9) (v := .slice m.da m.dn m.dc) hM rfl
  have c10 := hcell (k := 10) (v := .slice m.ha m.hn m.hc) hM rfl
  clear hM hF hP
  go_wp2_with fail
  refine GG.out.mono ?_
  rintro e w1 ⟨⟨q, rfl, hq⟩, hb1⟩
  have hB1 := hB.trans (hb1.mono hB.size)
  have HQ := Lib.hid hq
  clear c0 c1 c2 c3 c4 c5 c6 c7 c8 c9 c10
  clear hq hB GG
  cases q with
  | true =>
    go_wp2_with fail
    refine (wakes25_any _).mono ?_
    rintro e wz ⟨rfl, hbz⟩
    go_wp2
    go_ret
    exact ⟨rfl, hB1.trans (hbz.mono hB1.size)⟩
  | false =>
  have HC := Lib.hid (HQ.out rfl)
  clear HQ
  have hP1 := hkeep hb1 HP.out
  have d0 := hcell (k := 0) (v := .int .i64 px) hP1 rfl
  have d1 := hcell (k := 1) (v := .int .i64 pz) hP1 rfl
  clear hP1
  by_cases h1 : px < 0
  case pos =>
    go_wp2_with fail
    refine (wakes25_any _).mono ?_
    rintro e wz ⟨rfl, hbz⟩
    go_wp2
    go_ret
    exact ⟨rfl, hB1.trans (hbz.mono hB1.size)⟩
  by_cases h2 : 64 < px
  case pos =>
    go_wp2_with fail
    refine (wakes25_any _).mono ?_
    rintro e wz ⟨rfl, hbz⟩
    go_wp2
    go_ret
    exact ⟨rfl, hB1.trans (hbz.mono hB1.size)⟩
  by_cases h3 : pz < 0
  case pos =>
    go_wp2_with fail
    refine (wakes25_any _).mono ?_
    rintro e wz ⟨rfl, hbz⟩
    go_wp2
    go_ret
    exact ⟨rfl, hB1.trans (hbz.mono hB1.size)⟩
  by_cases h4 : 64 < pz
  case pos =>
    go_wp2_with fail
    refine (wakes25_any _).mono ?_
    rintro e wz ⟨rfl, hbz⟩
    go_wp2
    go_ret
    exact ⟨rfl, hB1.trans (hbz.mono hB1.size)⟩
  have hpx : 0 ≤ px ∧ px ≤ 64 := by omega
  have hpz : 0 ≤ pz ∧ pz ≤ 64 := by omega
  have hM1 := hkeep hb1 HM.out
  have hF1 := hkeep hb1 HF.out
  have c0 := hcell (k := 0) (v := .int .i64 m.cf.clear) hM1 rfl
  have c1 := hcell (k := 1) (v := .int .i64 m.cf.climb) hM1 rfl
  have c2 := hcell (k := 2) (v := .int .i64 m.cf.height) hM1 rfl
  have c3 := hcell (k := 3) (v := .int .i64 m.cf.rise) hM1 rfl
  have c4 := hcell (k := 4) (v := .int .i64 m.cf.run) hM1 rfl
  have c5 := hcell (k := 5) (v := .int .i64 m.cf.w) hM1 rfl
  have c6 := hcell (k := 6) (v := .int .i64 m.cf.d) hM1 rfl
  have c7 := hcell (k := 7) (v := .slice m.ta m.tn m.tc) hM1 rfl
  have c8 := hcell (k := 8) (v := .slice m.ra m.rn m.rc) hM1 rfl
  have c9 := hcell (k := 9) (v := .slice m.da m.dn m.dc) hM1 rfl
  have c10 := hcell (k := 10) (v := .slice m.ha m.hn m.hc) hM1 rfl
  have f0 := hcell (k := 0) (v := .int .i64 f.areas) hF1 rfl
  have f1 := hcell (k := 1) (v := .int .i64 f.c0) hF1 rfl
  have f2 := hcell (k := 2) (v := .int .i64 f.c1) hF1 rfl
  have f3 := hcell (k := 3) (v := .int .i64 f.c2) hF1 rfl
  have f4 := hcell (k := 4) (v := .int .i64 f.c3) hF1 rfl
  have f5 := hcell (k := 5) (v := .int .i64 f.c4) hF1 rfl
  have f6 := hcell (k := 6) (v := .int .i64 f.c5) hF1 rfl
  have f7 := hcell (k := 7) (v := .int .i64 f.c6) hF1 rfl
  have f8 := hcell (k := 8) (v := .int .i64 f.c7) hF1 rfl
  clear hM1 hF1
  go_wp2_with fail
  refine (NE.out _ hB1 HC.out).mono ?_
  rintro e w2 ⟨⟨k, d, E, rfl, hL⟩, hb2⟩
  have hR2 := hb1.trans (hb2.mono hb1.size)
  have hB2 := hB1.trans (hb2.mono hB1.size)
  have HL := Lib.hid hL
  clear NE HC hL hb1 hb2 hB1 h1 h2 h3 h4 d0 d1 c0 c1 c2 c3 c4 c5 c6 c7 c8 c9 c10 f0 f1 f2 f3 f4 f5 f6 f7 f8
  go_upto_region 4 with fail
  go_cut [79] from 45 to 78 (fun s79 wx => s79 = .bool false ∧ Below W1.heap.size W1 wx)
  case first =>
    by_cases hE0 : E = 0
    case neg =>
      have qq : (E == 0) = false := by simp [hE0]
      refine wp_region_quiet_below (by kernel_rfl) (by kernel_rfl) ?_
      repeat (go_big_quiet_step (fail))
      refine wpQuiet_nil ?_
      rintro w4 ⟨⟨dq, osq⟩, hw4⟩
      have hR4 : Below W1.heap.size W1 w4 := by rw [hw4]; exact hR2.trans ((below_regrown w2 dq osq).mono hR2.size)
      clear hw4
      go_wp2
      go_meet
      exact ⟨rfl, hR4⟩
    subst hE0
    obtain ⟨i0, ⟨h, r⟩, hk, hlt, hx0, hg0, hd0, _⟩ := (HL.out rfl).2 rfl
    subst hk
    dsimp only at hg0 hd0
    have hw := HR.out _ hB2
    obtain ⟨G, off, hra, _, _⟩ := hw.sl.at0 (by omega)
    rw [hra] at hw
    have r0 := hw.at hx0 0 _ rfl
    have r1 := hw.at hx0 1 _ rfl
    have r2 := hw.at hx0 2 _ rfl
    have r3 := hw.at hx0 3 _ rfl
    have r4 := hw.at hx0 4 _ rfl
    have r5 := hw.at hx0 5 _ rfl
    have r6 := hw.at hx0 6 _ rfl
    simp only [Nat.add_zero] at r0
    have hM2 := hkeep hR2 HM.out
    have hF2 := hkeep hR2 HF.out
    have hP2 := hkeep hR2 HP.out
    have c8 := hcell (k := 8) (v := .slice m.ra m.rn m.rc) hM2 rfl
    rw [hra] at c8
    have f0 := hcell (k := 0) (v := .int .i64 f.areas) hF2 rfl
    have f1 := hcell (k := 1) (v := .int .i64 f.c0) hF2 rfl
    have f2 := hcell (k := 2) (v := .int .i64 f.c1) hF2 rfl
    have f3 := hcell (k := 3) (v := .int .i64 f.c2) hF2 rfl
    have f4 := hcell (k := 4) (v := .int .i64 f.c3) hF2 rfl
    have f5 := hcell (k := 5) (v := .int .i64 f.c4) hF2 rfl
    have f6 := hcell (k := 6) (v := .int .i64 f.c5) hF2 rfl
    have f7 := hcell (k := 7) (v := .int .i64 f.c6) hF2 rfl
    have f8 := hcell (k := 8) (v := .int .i64 f.c7) hF2 rfl
    have p0 := hcell (k := 0) (v := .int .i64 px) hP2 rfl
    have p1 := hcell (k := 1) (v := .int .i64 pz) hP2 rfl
    have e_c8 := fun d os => cell_regrown c8 d os
    have e_r0 := fun d os => cell_regrown r0 d os
    have e_r1 := fun d os => cell_regrown r1 d os
    have e_r2 := fun d os => cell_regrown r2 d os
    have e_r3 := fun d os => cell_regrown r3 d os
    have e_r4 := fun d os => cell_regrown r4 d os
    have e_r5 := fun d os => cell_regrown r5 d os
    have e_r6 := fun d os => cell_regrown r6 d os
    have e_f0 := fun d os => cell_regrown f0 d os
    have e_f1 := fun d os => cell_regrown f1 d os
    have e_f2 := fun d os => cell_regrown f2 d os
    have e_f3 := fun d os => cell_regrown f3 d os
    have e_f4 := fun d os => cell_regrown f4 d os
    have e_f5 := fun d os => cell_regrown f5 d os
    have e_f6 := fun d os => cell_regrown f6 d os
    have e_f7 := fun d os => cell_regrown f7 d os
    have e_f8 := fun d os => cell_regrown f8 d os
    have e_p0 := fun d os => cell_regrown p0 d os
    have e_p1 := fun d os => cell_regrown p1 d os
    have hkI : ¬ (i0 : Int) < 0 := by omega
    have hkJ : ¬ (m.rn : Int) ≤ (i0 : Int) := by omega
    have hkK : (i0 : Int) < (m.rn : Int) := by omega
    have AD2 := Lib.hid (fun (W : World) (d : Nat) (os : Array Obj) => AD.out r.area (grow (redrawn W d) os))
    have FA2 := Lib.hid (fun (W : World) (d : Nat) (os : Array Obj) => FA.out h r (grow (redrawn W d) os))
    rw [hg0] at AD2
    rw [← hd0] at FA2
    have qd : (d != d) = false := by simp
    clear c8 hM2 hF2 hP2 hw hx0 hg0 hd0 hra hlt r0 r1 r2 r3 r4 r5 r6 f0 f1 f2 f3 f4 f5 f6 f7 f8 p0 p1
    refine wp_region_quiet_below (by kernel_rfl) (by kernel_rfl) ?_
    repeat (go_big_quiet_step (first | (go_at_call 17; exact Calls.regrown_of (AD2.out _ _ _)) | (go_at_call 18; exact Calls.regrown_of (FA2.out _ _ _))))
    refine wpQuiet_nil ?_
    rintro w4 ⟨⟨dq, osq⟩, hw4⟩
    have hR4 : Below W1.heap.size W1 w4 := by rw [hw4]; exact hR2.trans ((below_regrown w2 dq osq).mono hR2.size)
    clear hw4
    go_wp2
    go_meet
    exact ⟨rfl, hR4⟩
  case rest =>
  obtain ⟨rfl, hcut⟩ := hcut
  obtain ⟨w3, hw3⟩ : ∃ W : World, W = wc := ⟨_, rfl⟩
  rw [← hw3] at hcut
  rw [← hw3]
  clear hw3 hB2 hR2
  have hR3 := hcut
  clear hcut
  have c8 := hcell (k := 8) (v := .slice m.ra m.rn m.rc) (hkeep hR3 HM.out) rfl
  go_wp2_with fail
  clear c8
  go_loopw [83] (fun s wr => ∃ i : Nat, s = .int .i64 i ∧ i ≤ m.rn ∧ Below W1.heap.size W1 wr) (fun s _ => m.rn - (intOf s).toNat)
  case atStart => exact ⟨0, rfl, Nat.zero_le _, hR3⟩
  case round =>
    clear hR3
    obtain ⟨i, rfl, hi, hR⟩ := hrel
    have hBr := HB.out.trans (hR.mono HB.out.size)
    by_cases hin : i < m.rn
    case neg =>
      obtain rfl : m.rn = i := by omega
      have hI : ¬ (m.rn : Int) < (m.rn : Int) := by omega
      go_wp2_with fail
      refine (wakes25_any _).mono ?_
      rintro e wz ⟨rfl, hbz⟩
      go_wp2
      go_ret
      exact ⟨rfl, hBr.trans (hbz.mono hBr.size)⟩
    have hI : (i : Int) < (m.rn : Int) := by omega
    have wi1 : IntKind.i64.wrap ((i : Int) + 1) = ((i + 1 : Nat) : Int) := by rw [IntKind.wrap_i64]; omega
    obtain ⟨⟨h, r⟩, hxi⟩ : ∃ x, m.rs[i]? = some x := ⟨_, List.getElem?_eq_getElem (by rw [Hl.out]; exact hin)⟩
    have hw := HR.out _ hBr
    obtain ⟨G, off, hra, _, _⟩ := hw.sl.at0 (by omega)
    rw [hra] at hw ⊢
    have r0 := hw.at hxi 0 _ rfl
    have r1 := hw.at hxi 1 _ rfl
    have r2 := hw.at hxi 2 _ rfl
    have r3 := hw.at hxi 3 _ rfl
    have r4 := hw.at hxi 4 _ rfl
    have r5 := hw.at hxi 5 _ rfl
    have r6 := hw.at hxi 6 _ rfl
    simp only [Nat.add_zero] at r0
    have hA : Below wr.heap.size wr (wr.alloc (.cells #[.int .i64 r.x0, .int .i64 r.z0, .int .i64 r.x1, .int .i64 r.z1, .int .i64 r.area, .slice h.ya r.ys.length h.yc, .slice h.ta r.ts.length h.tc] 55 (0, 0))) := (Below.refl _ _).alloc (Nat.le_refl _) _
    have hN := World.alloc_heap_new wr (.cells #[.int .i64 r.x0, .int .i64 r.z0, .int .i64 r.x1, .int .i64 r.z1, .int .i64 r.area, .slice h.ya r.ys.length h.yc, .slice h.ta r.ts.length h.tc] 55 (0, 0))
    have hR3 := hR.trans (hA.mono hR.size)
    obtain ⟨W3, hW3⟩ : ∃ W, W = wr.alloc (.cells #[.int .i64 r.x0, .int .i64 r.z0, .int .i64 r.x1, .int .i64 r.z1, .int .i64 r.area, .slice h.ya r.ys.length h.yc, .slice h.ta r.ts.length h.tc] 55 (0, 0)) := ⟨_, rfl⟩
    obtain ⟨S3, hS3⟩ : ∃ S, S = wr.heap.size := ⟨_, rfl⟩
    rw [← hW3] at hN hR3 hA
    rw [← hS3] at hN
    have HXI := Lib.hid hxi
    clear hw hxi hra hR hBr hA
    go_upto_region 9 with fail
    rw [← hW3, ← hS3]
    clear hW3 hS3 r0 r1 r2 r3 r4 r5 r6
    have hP3 := hkeep hR3 HP.out
    have d0 := hcell (k := 0) (v := .int .i64 px) hP3 rfl
    have d1 := hcell (k := 1) (v := .int .i64 pz) hP3 rfl
    have HN := Lib.hid hN
    have r0 := hcell (k := 0) (v := .int .i64 r.x0) hN rfl
    have r1 := hcell (k := 1) (v := .int .i64 r.z0) hN rfl
    have r2 := hcell (k := 2) (v := .int .i64 r.x1) hN rfl
    have r3 := hcell (k := 3) (v := .int .i64 r.z1) hN rfl
    have r4 := hcell (k := 4) (v := .int .i64 r.area) hN rfl
    have r5 := hcell (k := 5) (v := .slice h.ya r.ys.length h.yc) hN rfl
    have r6 := hcell (k := 6) (v := .slice h.ta r.ts.length h.tc) hN rfl
    clear hP3 hN
    go_wp2_with fail
    refine (FA.out h r _).mono ?_
    rintro e w4 ⟨rfl, hb4⟩
    have hR4 := hR3.trans (hb4.mono hR3.size)
    have HN4 := Lib.hid (hkeep hb4 HN.out)
    clear d0 d1 r0 r1 r2 r3 r4 r5 r6 hb4 HN hR3
    have hFb := farF_bd r px pz
    obtain ⟨D, hD⟩ : ∃ D, D = farF r px pz := ⟨_, rfl⟩
    rw [← hD] at hFb ⊢
    have HD := Lib.hid hD
    clear hD
    have r0 := hcell (k := 0) (v := .int .i64 r.x0) HN4.out rfl
    have r1 := hcell (k := 1) (v := .int .i64 r.z0) HN4.out rfl
    have r2 := hcell (k := 2) (v := .int .i64 r.x1) HN4.out rfl
    have r3 := hcell (k := 3) (v := .int .i64 r.z1) HN4.out rfl
    go_upto_region 10 with fail
    go_cut [122] from 91 to 121 (fun s122 wx => RngP r s122 ∧ wx = w4)
    case first =>
      by_cases k0 : 0 ≤ r.x0
      case neg =>
        go_wp2
        go_meet
        exact ⟨.inl rfl, rfl⟩
      by_cases k1 : r.x0 ≤ r.x1
      case neg =>
        go_wp2
        go_meet
        exact ⟨.inl rfl, rfl⟩
      by_cases k2 : r.x1 < 32
      case neg =>
        go_wp2
        go_meet
        exact ⟨.inl rfl, rfl⟩
      by_cases k3 : 0 ≤ r.z0
      case neg =>
        go_wp2
        go_meet
        exact ⟨.inl rfl, rfl⟩
      by_cases k4 : r.z0 ≤ r.z1
      case neg =>
        go_wp2
        go_meet
        exact ⟨.inl rfl, rfl⟩
      by_cases k5 : r.z1 < 32
      case neg =>
        go_wp2
        go_meet
        exact ⟨.inl rfl, rfl⟩
      have HW : Hid (InW r) := ⟨⟨k0, k1, k2⟩, k3, k4, k5⟩
      go_wp2
      go_meet
      exact ⟨.inr ⟨rfl, HW.out⟩, rfl⟩
    case rest =>
    obtain ⟨hq, hwc⟩ := hcut
    rw [hwc]
    clear hwc
    obtain ⟨q, hqv, HQ⟩ := RngP.out hq
    subst hqv
    clear hq
    go_upto_if 122 with fail
    go_cut [13] from 122 to 162 (fun s13 wx => wx = w4)
    case first =>
      cases q with
      | false =>
        go_wp2
        go_meet
        rfl
      | true =>
      obtain ⟨⟨j1, j2, j3⟩, j4, j5, j6⟩ := HQ.out rfl
      have hz := farF_zero (r := r) ⟨j1, j2, j3⟩ ⟨j4, j5, j6⟩ hpx hpz
      rw [← HD.out] at hz
      have HZ := Lib.hid hz
      have v1 : IntKind.i64.wrap (2 * r.x0) = 2 * r.x0 := by rw [IntKind.wrap_i64]; omega
      have v2 : IntKind.i64.wrap (2 * r.x1) = 2 * r.x1 := by rw [IntKind.wrap_i64]; omega
      have v3 : IntKind.i64.wrap (2 * r.x1 + 2) = 2 * r.x1 + 2 := by rw [IntKind.wrap_i64]; omega
      have v4 : IntKind.i64.wrap (2 * r.z0) = 2 * r.z0 := by rw [IntKind.wrap_i64]; omega
      have v5 : IntKind.i64.wrap (2 * r.z1) = 2 * r.z1 := by rw [IntKind.wrap_i64]; omega
      have v6 : IntKind.i64.wrap (2 * r.z1 + 2) = 2 * r.z1 + 2 := by rw [IntKind.wrap_i64]; omega
      have hP4 := hkeep hR4 HP.out
      have d0 := hcell (k := 0) (v := .int .i64 px) hP4 rfl
      have d1 := hcell (k := 1) (v := .int .i64 pz) hP4 rfl
      have hDn : ¬ D < 0 := by omega
      clear hz hP4 j1 j2 j3 j4 j5 j6
      by_cases a0 : 2 * r.x0 ≤ px
      case neg =>
        have hD0 : (D == 0) = false := by
          rw [beq_eq_false_iff_ne]
          intro hh
          have := HZ.out.1 hh
          omega
        go_wp2
        go_meet
        rfl
      by_cases a1 : px ≤ 2 * r.x1 + 2
      case neg =>
        have hD0 : (D == 0) = false := by
          rw [beq_eq_false_iff_ne]
          intro hh
          have := HZ.out.1 hh
          omega
        go_wp2
        go_meet
        rfl
      by_cases a2 : 2 * r.z0 ≤ pz
      case neg =>
        have hD0 : (D == 0) = false := by
          rw [beq_eq_false_iff_ne]
          intro hh
          have := HZ.out.1 hh
          omega
        go_wp2
        go_meet
        rfl
      by_cases a3 : pz ≤ 2 * r.z1 + 2
      case neg =>
        have hD0 : (D == 0) = false := by
          rw [beq_eq_false_iff_ne]
          intro hh
          have := HZ.out.1 hh
          omega
        go_wp2
        go_meet
        rfl
      have hD0 : (D == 0) = true := by
        rw [beq_iff_eq]
        exact HZ.out.2 ⟨⟨⟨a0, a1⟩, a2⟩, a3⟩
      go_wp2
      go_meet
      rfl
    case rest =>
    have hwc := hcut
    rw [hwc]
    clear hwc hcut
    by_cases hE0 : E = 0
    case neg =>
      have qq : (E == 0) = false := by simp [hE0]
      clear r0 r1 r2 r3
      go_wp2
      go_roundw
      case rel => exact ⟨i + 1, by go_num, by omega, hR4⟩
      case measure => simp [intOf]; omega
    have qq : (E == 0) = true := by simp [hE0]
    have HL2 := Lib.hid ((HL.out hE0).2 rfl)
    have hF4 := hkeep hR4 HF.out
    have r4 := hcell (k := 4) (v := .int .i64 r.area) HN4.out rfl
    have f0 := hcell (k := 0) (v := .int .i64 f.areas) hF4 rfl
    have f1 := hcell (k := 1) (v := .int .i64 f.c0) hF4 rfl
    have f2 := hcell (k := 2) (v := .int .i64 f.c1) hF4 rfl
    have f3 := hcell (k := 3) (v := .int .i64 f.c2) hF4 rfl
    have f4 := hcell (k := 4) (v := .int .i64 f.c3) hF4 rfl
    have f5 := hcell (k := 5) (v := .int .i64 f.c4) hF4 rfl
    have f6 := hcell (k := 6) (v := .int .i64 f.c5) hF4 rfl
    have f7 := hcell (k := 7) (v := .int .i64 f.c6) hF4 rfl
    have f8 := hcell (k := 8) (v := .int .i64 f.c7) hF4 rfl
    obtain ⟨g, hg⟩ : ∃ g, g = admF f r.area := ⟨_, rfl⟩
    have HG := Lib.hid hg
    clear hE0 hF4 hg
    go_wp2_with fail
    refine (AD.out r.area _).mono ?_
    rintro e w5 ⟨rfl, hb5⟩
    have hR5 := hR4.trans (hb5.mono hR4.size)
    rw [← HG.out]
    clear r0 r1 r2 r3 r4 hb5 hR4 f0 f1 f2 f3 f4 f5 f6 f7 f8
    cases g with
    | false =>
      go_wp2
      go_roundw
      case rel => exact ⟨i + 1, by go_num, by omega, hR5⟩
      case measure => simp [intOf]; omega
    | true =>
    obtain ⟨i0, x0, hk0, _, _, _, hd0, hall⟩ := HL2.out
    have hmin := hall i (h, r) hin HXI.out HG.out.symm
    dsimp only at hmin
    rw [← HD.out] at hmin
    have hDd : ¬ D < d := by omega
    have hie : D = d → ¬ (i : Int) < k := fun e => by have := hmin.2 e; omega
    have HIE := Lib.hid hie
    clear hall hmin hd0 hk0 hie HL2
    by_cases hDe : D = d
    case pos =>
      have hik := HIE.out hDe
      have qd : (D == d) = true := by simp [hDe]
      clear hDe
      go_wp2
      go_roundw
      case rel => exact ⟨i + 1, by go_num, by omega, hR5⟩
      case measure => simp [intOf]; omega
    have qd : (D == d) = false := by simp [hDe]
    clear hDe
    go_wp2
    go_roundw
    case rel => exact ⟨i + 1, by go_num, by omega, hR5⟩
    case measure => simp [intOf]; omega
end Go.Proofs.Ytgfmdgiepomkiaa
