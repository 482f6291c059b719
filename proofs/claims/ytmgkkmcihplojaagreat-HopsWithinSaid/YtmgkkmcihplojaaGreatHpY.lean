/- Walk: the law HopsWithin. -/
import Derived.Test.YtmgkkmcihplojaaGreatHpX
namespace Go.Proofs.YtmgkkmcihplojaaGreat
open Go.RowKit Go.Sort
attribute [local go_sem] Instr.index

theorem lc_more {cf : Cfg} {x z y wi mo : Int} {ts : List Tl} {d : Fd} (h : lcE cf x z y wi ts = some d) (hm : 0 ≤ mo) : lcE cf x z y (wi + mo) ts = some d := by
  unfold lcE at h ⊢
  split at h
  · rename_i h0
    rw [if_pos h0]
    exact loc_more (by omega) h
  · cases h
theorem lc_own {cf : Cfg} {x z y wi : Int} {ts : List Tl} {d : Fd} (h : lcE cf x z y wi ts = some d) : lcE cf x z d.y 0 ts = some d := by
  unfold lcE at h ⊢
  split at h
  · rename_i h0
    rw [if_pos h0]
    obtain ⟨f, hi, hk, hf, hy⟩ := fdAll_mem (loc_mem h)
    have hi' : d.i < ts.length := by unfold tlRs at hi; rwa [List.length_map] at hi
    have e1 : (tlRs ts).getD d.i [] = (ts[d.i]).rs.map Prod.snd := by
      unfold tlRs
      rw [List.getD_eq_getElem?_getD, List.getElem?_map, List.getElem?_eq_getElem hi']
      rfl
    rw [e1] at hk hf
    have hk' : d.k < (ts[d.i]).rs.length := by rwa [List.length_map] at hk
    have e2 : ((ts[d.i]).rs.map Prod.snd).getD d.k rcN0 = ((ts[d.i]).rs[d.k]).2 := by
      rw [List.getD_eq_getElem?_getD, List.getElem?_map, List.getElem?_eq_getElem hk']
      rfl
    rw [e2] at hf
    have hb := rcAt_hgt (smE_rc h0 (List.getElem_mem hi') (List.getElem_mem hk')) hf
    have hc : clY d.y = d.y := by unfold clY; omega
    rw [hc]
    exact loc_own h
  · cases h
set_option maxRecDepth 100000 in
set_option maxHeartbeats 32000000 in
theorem hopswithin_any (cf : Cfg) (a : Option Addr) (n c : Nat) (ts : List Tl) (x z y wi mo : Int) (w : World) (hx : SlTl w a n c ts) :
    Calls Tryz.prog 3 #[cfgV cf, .slice a n c, .agg #[.int .i64 x, .int .i64 z, .int .i64 y], .int .i64 wi, .int .i64 mo] w fun e w' => e = .returned (.bool true) ∧ Below w.heap.size w w' := by
  have hB : Below w.heap.size w ((w.alloc (cfO cf)).alloc (.cells #[.int .i64 x, .int .i64 z, .int .i64 y] 26 (0, 0))) := ((Below.refl _ _).alloc (Nat.le_refl _) _).alloc (by simp) _
  have hC := halloc (World.alloc_heap_new w (cfO cf)) (.cells #[.int .i64 x, .int .i64 z, .int .i64 y] 26 (0, 0))
  have hS := World.alloc_heap_new (w.alloc (cfO cf)) (.cells #[.int .i64 x, .int .i64 z, .int .i64 y] 26 (0, 0))
  rw [World.size_alloc] at hS
  have GG := Lib.hid (fun W (hb : Below w.heap.size w W) => great23_any a n c ts W (hx.below hb (Nat.le_refl _)))
  have LO := Lib.hid (fun W (hb : Below w.heap.size w W) (hT : TlsB n ts) (y wi : Int) => hplocate_any cf a n c ts x z y wi W (hx.below hb (Nat.le_refl _)) hT.1 (fun t ht => (hT.2 t ht).1))
  have LM := Lib.hid (fun y wi mo d h h2 => lc_more (cf := cf) (x := x) (z := z) (y := y) (wi := wi) (mo := mo) (ts := ts) (d := d) h h2)
  have LW := Lib.hid (fun y wi d h => lc_own (cf := cf) (x := x) (z := z) (y := y) (wi := wi) (ts := ts) (d := d) h)
  clear hx
  unfold GtPost at GG
  unfold LoPost at LO
  obtain ⟨LC, hLC⟩ : ∃ LC : Int → Int → Option Fd, LC = fun y wi => lcE cf x z y wi ts := ⟨_, rfl⟩
  have e0 : ∀ y wi, lcE cf x z y wi ts = LC y wi := fun _ _ => by rw [hLC]
  simp only [e0] at LO LM LW
  clear hLC e0
  obtain ⟨W1, hW1⟩ : ∃ W, W = (w.alloc (cfO cf)).alloc (.cells #[.int .i64 x, .int .i64 z, .int .i64 y] 26 (0, 0)) := ⟨_, rfl⟩
  obtain ⟨S0, hS0⟩ : ∃ S, S = w.heap.size := ⟨_, rfl⟩
  obtain ⟨S1, hS1⟩ : ∃ S, S = S0 + 1 := ⟨_, rfl⟩
  rw [← hW1] at hB hC hS
  rw [← hS0] at hC hS
  rw [← hS1] at hS
  dsimp only [cfO, cfgV] at hC hW1 LO ⊢
  go_enter Tryz.func3, Tryz.ntmps3
  go_upto_region 1 with fail
  rw [← hW1, ← hS0, ← hS1]
  clear hW1 hS0 hS1
  go_wp2_with fail
  refine (GG.out _ hB).mono ?_
  rintro e w1 ⟨⟨q, rfl, hq⟩, hb1⟩
  have hB1 := hB.trans (hb1.mono hB.size)
  have hC1 := hkeep hb1 hC
  have hS1 := hkeep hb1 hS
  have HQ := Lib.hid hq
  clear hq hB hC hS hb1 GG
  cases q with
  | true =>
    go_wp2_with fail
    refine (wakes23_any _).mono ?_
    rintro e wz ⟨rfl, hbz⟩
    go_wp2
    go_ret
    exact ⟨rfl, hB1.trans (hbz.mono hB1.size)⟩
  | false =>
  have HT := Lib.hid (HQ.out rfl)
  have LO2 := Lib.hid (fun W hb => LO.out W hb HT.out)
  clear HQ HT LO
  have s0 := hcell (k := 0) (v := .int .i64 x) hS1 rfl
  have s1 := hcell (k := 1) (v := .int .i64 z) hS1 rfl
  have s2 := hcell (k := 2) (v := .int .i64 y) hS1 rfl
  by_cases h1 : wi < 0
  case pos =>
    go_wp2_with fail
    refine (wakes23_any _).mono ?_
    rintro e wz ⟨rfl, hbz⟩
    go_wp2
    go_ret
    exact ⟨rfl, hB1.trans (hbz.mono hB1.size)⟩
  by_cases h2 : 1073741824 < wi
  case pos =>
    go_wp2_with fail
    refine (wakes23_any _).mono ?_
    rintro e wz ⟨rfl, hbz⟩
    go_wp2
    go_ret
    exact ⟨rfl, hB1.trans (hbz.mono hB1.size)⟩
  by_cases h3 : mo < 0
  case pos =>
    go_wp2_with fail
    refine (wakes23_any _).mono ?_
    rintro e wz ⟨rfl, hbz⟩
    go_wp2
    go_ret
    exact ⟨rfl, hB1.trans (hbz.mono hB1.size)⟩
  by_cases h4 : 1073741824 < mo
  case pos =>
    go_wp2_with fail
    refine (wakes23_any _).mono ?_
    rintro e wz ⟨rfl, hbz⟩
    go_wp2
    go_ret
    exact ⟨rfl, hB1.trans (hbz.mono hB1.size)⟩
  by_cases h5 : y < -1073741824
  case pos =>
    go_wp2_with fail
    refine (wakes23_any _).mono ?_
    rintro e wz ⟨rfl, hbz⟩
    go_wp2
    go_ret
    exact ⟨rfl, hB1.trans (hbz.mono hB1.size)⟩
  by_cases h6 : 1073741824 < y
  case pos =>
    go_wp2_with fail
    refine (wakes23_any _).mono ?_
    rintro e wz ⟨rfl, hbz⟩
    go_wp2
    go_ret
    exact ⟨rfl, hB1.trans (hbz.mono hB1.size)⟩
  have wm : IntKind.i64.wrap (wi + mo) = wi + mo := by rw [IntKind.wrap_i64]; omega
  have hmo : 0 ≤ mo := by omega
  have c0 := hcell (k := 0) (v := .int .i64 cf.clear) hC1 rfl
  have c1 := hcell (k := 1) (v := .int .i64 cf.climb) hC1 rfl
  have c2 := hcell (k := 2) (v := .int .i64 cf.height) hC1 rfl
  have c3 := hcell (k := 3) (v := .int .i64 cf.rise) hC1 rfl
  have c4 := hcell (k := 4) (v := .int .i64 cf.run) hC1 rfl
  have c5 := hcell (k := 5) (v := .int .i64 cf.w) hC1 rfl
  have c6 := hcell (k := 6) (v := .int .i64 cf.d) hC1 rfl
  go_wp2_with fail
  refine (LO2.out _ hB1 y wi).mono ?_
  rintro e w2 ⟨rfl, hb2⟩
  have hB2 := hB1.trans (hb2.mono hB1.size)
  have hC2 := hkeep hb2 hC1
  have hS2 := hkeep hb2 hS1
  clear h1 h2 h3 h4 h5 h6 hB1 hC1 hS1 hb2 s0 s1 s2 c0 c1 c2 c3 c4 c5 c6
  cases hL : LC y wi with
  | none =>
    dsimp only [enA, Option.isSome]
    have hA : Below w2.heap.size w2 (w2.alloc (.cells #[.int .i64 0, .int .i64 0, .int .i64 0, .int .i64 0, .int .i64 0] 30 (0, 0))) := (Below.refl _ _).alloc (Nat.le_refl _) _
    have hB3 := hB2.trans (hA.mono hB2.size)
    obtain ⟨w3, hw3⟩ : ∃ W, W = w2.alloc (.cells #[.int .i64 0, .int .i64 0, .int .i64 0, .int .i64 0, .int .i64 0] 30 (0, 0)) := ⟨_, rfl⟩
    rw [← hw3] at hB3
    clear hA
    go_upto_region 4 with fail
    rw [← hw3]
    clear hw3
    go_wp2_with fail
    refine (wakes23_any _).mono ?_
    rintro e wz ⟨rfl, hbz⟩
    go_wp2
    go_ret
    exact ⟨rfl, hB3.trans (hbz.mono hB3.size)⟩
  | some d =>
  have hL2 := LM.out _ _ _ _ hL hmo
  have hL3 := LW.out _ _ _ hL
  clear hL LM LW hmo
  dsimp only [enA, Option.isSome]
  have hA : Below w2.heap.size w2 (w2.alloc (.cells #[.int .i64 (d.i : Int), .int .i64 (d.k : Int), .int .i64 x, .int .i64 z, .int .i64 d.y] 30 (0, 0))) := (Below.refl _ _).alloc (Nat.le_refl _) _
  have hA3 := World.alloc_heap_new w2 (.cells #[.int .i64 (d.i : Int), .int .i64 (d.k : Int), .int .i64 x, .int .i64 z, .int .i64 d.y] 30 (0, 0))
  have hB3 := hB2.trans (hA.mono hB2.size)
  have hC3 := hkeep hA hC2
  have hS3 := hkeep hA hS2
  obtain ⟨w3, hw3⟩ : ∃ W, W = w2.alloc (.cells #[.int .i64 (d.i : Int), .int .i64 (d.k : Int), .int .i64 x, .int .i64 z, .int .i64 d.y] 30 (0, 0)) := ⟨_, rfl⟩
  obtain ⟨T1, hT1⟩ : ∃ T, T = w2.heap.size := ⟨_, rfl⟩
  rw [← hw3] at hA3 hB3 hC3 hS3
  rw [← hT1] at hA3
  clear hA hB2 hC2 hS2
  go_upto_region 4 with fail
  rw [← hw3, ← hT1]
  clear hw3 hT1
  have c0 := hcell (k := 0) (v := .int .i64 cf.clear) hC3 rfl
  have c1 := hcell (k := 1) (v := .int .i64 cf.climb) hC3 rfl
  have c2 := hcell (k := 2) (v := .int .i64 cf.height) hC3 rfl
  have c3 := hcell (k := 3) (v := .int .i64 cf.rise) hC3 rfl
  have c4 := hcell (k := 4) (v := .int .i64 cf.run) hC3 rfl
  have c5 := hcell (k := 5) (v := .int .i64 cf.w) hC3 rfl
  have c6 := hcell (k := 6) (v := .int .i64 cf.d) hC3 rfl
  have s0 := hcell (k := 0) (v := .int .i64 x) hS3 rfl
  have s1 := hcell (k := 1) (v := .int .i64 z) hS3 rfl
  have s2 := hcell (k := 2) (v := .int .i64 y) hS3 rfl
  go_wp2_with fail
  refine (LO2.out _ hB3 y (wi + mo)).mono ?_
  rw [hL2]
  rintro e w4 ⟨rfl, hb4⟩
  dsimp only [enA, Option.isSome]
  have hB4 := hB3.trans (hb4.mono hB3.size)
  have hC4 := hkeep hb4 hC3
  have hA4 := hkeep hb4 hA3
  clear hB3 hC3 hS3 hA3 hb4 s0 s1 s2 c0 c1 c2 c3 c4 c5 c6 hL2
  have hA : Below w4.heap.size w4 (w4.alloc (.cells #[.int .i64 (d.i : Int), .int .i64 (d.k : Int), .int .i64 x, .int .i64 z, .int .i64 d.y] 30 (0, 0))) := (Below.refl _ _).alloc (Nat.le_refl _) _
  have hD5 := World.alloc_heap_new w4 (.cells #[.int .i64 (d.i : Int), .int .i64 (d.k : Int), .int .i64 x, .int .i64 z, .int .i64 d.y] 30 (0, 0))
  have hB5 := hB4.trans (hA.mono hB4.size)
  have hC5 := hkeep hA hC4
  have hA5 := hkeep hA hA4
  obtain ⟨w5, hw5⟩ : ∃ W, W = w4.alloc (.cells #[.int .i64 (d.i : Int), .int .i64 (d.k : Int), .int .i64 x, .int .i64 z, .int .i64 d.y] 30 (0, 0)) := ⟨_, rfl⟩
  obtain ⟨T2, hT2⟩ : ∃ T, T = w4.heap.size := ⟨_, rfl⟩
  rw [← hw5] at hA5 hB5 hC5 hD5
  rw [← hT2] at hD5
  clear hA hB4 hC4 hA4
  go_upto_region 7 with fail
  rw [← hw5, ← hT2]
  clear hw5 hT2
  have c0 := hcell (k := 0) (v := .int .i64 cf.clear) hC5 rfl
  have c1 := hcell (k := 1) (v := .int .i64 cf.climb) hC5 rfl
  have c2 := hcell (k := 2) (v := .int .i64 cf.height) hC5 rfl
  have c3 := hcell (k := 3) (v := .int .i64 cf.rise) hC5 rfl
  have c4 := hcell (k := 4) (v := .int .i64 cf.run) hC5 rfl
  have c5 := hcell (k := 5) (v := .int .i64 cf.w) hC5 rfl
  have c6 := hcell (k := 6) (v := .int .i64 cf.d) hC5 rfl
  have a0 := hcell (k := 0) (v := .int .i64 (d.i : Int)) hA5 rfl
  have a1 := hcell (k := 1) (v := .int .i64 (d.k : Int)) hA5 rfl
  have a2 := hcell (k := 2) (v := .int .i64 x) hA5 rfl
  have a3 := hcell (k := 3) (v := .int .i64 z) hA5 rfl
  have a4 := hcell (k := 4) (v := .int .i64 d.y) hA5 rfl
  go_wp2_with fail
  refine (LO2.out _ hB5 d.y 0).mono ?_
  rw [hL3]
  rintro e w6 ⟨rfl, hb6⟩
  dsimp only [enA, Option.isSome]
  have hB6 := hB5.trans (hb6.mono hB5.size)
  have hD6 := hkeep hb6 hD5
  have hA6 := hkeep hb6 hA5
  clear hB5 hC5 hD5 hA5 hb6 a0 a1 a2 a3 a4 c0 c1 c2 c3 c4 c5 c6 hL3 LO2
  have hA : Below w6.heap.size w6 (w6.alloc (.cells #[.int .i64 (d.i : Int), .int .i64 (d.k : Int), .int .i64 x, .int .i64 z, .int .i64 d.y] 30 (0, 0))) := (Below.refl _ _).alloc (Nat.le_refl _) _
  have hF7 := World.alloc_heap_new w6 (.cells #[.int .i64 (d.i : Int), .int .i64 (d.k : Int), .int .i64 x, .int .i64 z, .int .i64 d.y] 30 (0, 0))
  have hB7 := hB6.trans (hA.mono hB6.size)
  have hA7 := hkeep hA hA6
  have hD7 := hkeep hA hD6
  obtain ⟨w7, hw7⟩ : ∃ W, W = w6.alloc (.cells #[.int .i64 (d.i : Int), .int .i64 (d.k : Int), .int .i64 x, .int .i64 z, .int .i64 d.y] 30 (0, 0)) := ⟨_, rfl⟩
  obtain ⟨T3, hT3⟩ : ∃ T, T = w6.heap.size := ⟨_, rfl⟩
  rw [← hw7] at hA7 hB7 hD7 hF7
  rw [← hT3] at hF7
  clear hA hB6 hA6 hD6
  go_upto_region 8 with fail
  rw [← hw7, ← hT3]
  clear hw7 hT3
  have a0 := hcell (k := 0) (v := .int .i64 (d.i : Int)) hA7 rfl
  have a1 := hcell (k := 1) (v := .int .i64 (d.k : Int)) hA7 rfl
  have a2 := hcell (k := 2) (v := .int .i64 x) hA7 rfl
  have a3 := hcell (k := 3) (v := .int .i64 z) hA7 rfl
  have a4 := hcell (k := 4) (v := .int .i64 d.y) hA7 rfl
  have d0 := hcell (k := 0) (v := .int .i64 (d.i : Int)) hD7 rfl
  have d1 := hcell (k := 1) (v := .int .i64 (d.k : Int)) hD7 rfl
  have d2 := hcell (k := 2) (v := .int .i64 x) hD7 rfl
  have d3 := hcell (k := 3) (v := .int .i64 z) hD7 rfl
  have d4 := hcell (k := 4) (v := .int .i64 d.y) hD7 rfl
  have f0 := hcell (k := 0) (v := .int .i64 (d.i : Int)) hF7 rfl
  have f1 := hcell (k := 1) (v := .int .i64 (d.k : Int)) hF7 rfl
  have f2 := hcell (k := 2) (v := .int .i64 x) hF7 rfl
  have f3 := hcell (k := 3) (v := .int .i64 z) hF7 rfl
  have f4 := hcell (k := 4) (v := .int .i64 d.y) hF7 rfl
  clear hA7 hD7 hF7
  go_wp2_with fail
  refine (wakes23_any _).mono ?_
  rintro e wz ⟨rfl, hbz⟩
  go_wp2
  go_ret
  exact ⟨rfl, hB7.trans (hbz.mono hB7.size)⟩
end Go.Proofs.YtmgkkmcihplojaaGreat
