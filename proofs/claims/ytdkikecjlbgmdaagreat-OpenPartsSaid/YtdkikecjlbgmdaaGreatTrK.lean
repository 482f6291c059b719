/- Walks: tri.Check, tri.Walk. -/
import Derived.Test.YtdkikecjlbgmdaaGreatTrN
namespace Go.Proofs.YtdkikecjlbgmdaaGreat
open Go.RowKit
attribute [local go_sem] Instr.index

abbrev cfgO (c : Cfg) : Obj := .cells #[.int .i64 c.clear, .int .i64 c.climb, .int .i64 c.height, .int .i64 c.rise, .int .i64 c.run, .int .i64 c.w, .int .i64 c.d] 23 (0, 0)
def checkE (cf : Cfg) (t : Tr) : Int := if (decide (1 ≤ t.id) && decide (t.id ≤ 1073741824)) && trMay cf.w cf.d t then 0 else 40
theorem nrm_ok {t : Tr} (h : (crnOk 32 32 t && decide (nyV t ≠ 0)) = true) : nrmE t = (nxV t, nyV t, nzV t, 0) := by unfold nrmE; rw [if_pos h]
theorem nrm_no {t : Tr} (h : (crnOk 32 32 t && decide (nyV t ≠ 0)) = false) : nrmE t = (0, 0, 0, 40) := by unfold nrmE; rw [h]; rfl
theorem may_nrm {cf : Cfg} {t : Tr} (hc : cfgOk cf = true) (h : trMay cf.w cf.d t = true) : (crnOk 32 32 t && decide (nyV t ≠ 0)) = true := by
  rw [trMay_crn, Bool.and_eq_true] at h
  rw [crn_mono (cfg_wd hc).1 (cfg_wd hc).2 h.1, h.2]
  rfl
set_option maxRecDepth 100000 in
set_option maxHeartbeats 4000000 in
theorem check_any (cf : Cfg) (t : Tr) (w : World) (hc : cfgOk cf = true) :
    Calls Tryz.prog 36 #[cfgV cf, trA t] w fun e w' => e = .returned (.int .i64 (checkE cf t)) ∧ Below w.heap.size w w' := by
  have CF := Lib.hid (fun W => cfgcheck_any cf W)
  have NO := Lib.hid (fun W => normal_any t W)
  have CO := Lib.hid (fun W => trcorners_any cf.w cf.d t W)
  have h0 : cfgE cf = 0 := by unfold cfgE; rw [if_pos hc]
  rw [h0] at CF
  clear h0
  have hC := halloc (World.alloc_heap_new w (cfgO cf)) (trO t.id t.a t.b t.c)
  have hT := World.alloc_heap_new (w.alloc (cfgO cf)) (trO t.id t.a t.b t.c)
  have hB : Below w.heap.size w ((w.alloc (cfgO cf)).alloc (trO t.id t.a t.b t.c)) := ((Below.refl _ _).alloc (Nat.le_refl _) _).alloc (by simp) _
  simp only [World.size_alloc] at hT
  obtain ⟨r, hr⟩ : ∃ r, r = checkE cf t := ⟨_, rfl⟩
  rw [← hr]
  have HR := Lib.hid hr
  clear hr
  cases hn : (crnOk 32 32 t && decide (nyV t ≠ 0)) with
  | false =>
    rw [nrm_no hn] at NO
    have HR2 : Hid (r = 40) := by
      show _ = _
      rw [HR.out]
      unfold checkE
      have : trMay cf.w cf.d t = false := by
        cases h : trMay cf.w cf.d t with
        | false => rfl
        | true => rw [may_nrm hc h] at hn; cases hn
      rw [this, Bool.and_false]
      rfl
    clear HR hn hc CO
    obtain ⟨i, ⟨ax, ay, az⟩, ⟨bx, by_, bz⟩, ⟨cx, cy, cz⟩⟩ := t
    obtain ⟨clear_, climb, height, rise, run, cw, cd⟩ := cf
    dsimp only [trO, trA, cfgO, cfgV] at CF NO hB hT hC ⊢
    go_enter Tryz.func36, Tryz.ntmps36
    go_wp2_with fail
    refine (CF.out _).mono ?_
    rintro e w1 ⟨rfl, hb1⟩
    have hT1 := hkeep hb1 hT
    have hB1 := hB.trans (hb1.mono hB.size)
    clear hb1 hB hT hC
    have t0 := hcell (k := 0) (v := .int .i64 i) hT1 rfl
    have t1 := hcell (k := 1) (v := .int .i64 ax) hT1 rfl
    have t2 := hcell (k := 2) (v := .int .i64 ay) hT1 rfl
    have t3 := hcell (k := 3) (v := .int .i64 az) hT1 rfl
    have t4 := hcell (k := 4) (v := .int .i64 bx) hT1 rfl
    have t5 := hcell (k := 5) (v := .int .i64 by_) hT1 rfl
    have t6 := hcell (k := 6) (v := .int .i64 bz) hT1 rfl
    have t7 := hcell (k := 7) (v := .int .i64 cx) hT1 rfl
    have t8 := hcell (k := 8) (v := .int .i64 cy) hT1 rfl
    have t9 := hcell (k := 9) (v := .int .i64 cz) hT1 rfl
    clear hT1
    go_wp2_with fail
    refine (NO.out _).mono ?_
    rintro e w2 ⟨rfl, hb2⟩
    have hB2 := hB1.trans (hb2.mono hB1.size)
    clear t0 t1 t2 t3 t4 t5 t6 t7 t8 t9 hb2 hB1
    go_wp2
    go_ret
    exact ⟨ret_int HR2.out.symm, hB2⟩
  | true =>
    rw [nrm_ok hn] at NO
    have HR2 : Hid (r = if decide (1 ≤ t.id) && decide (t.id ≤ 1073741824) && crnOk cf.w cf.d t then 0 else 40) := by
      show _ = _
      rw [HR.out]
      unfold checkE
      rw [Bool.and_eq_true] at hn
      rw [trMay_crn, hn.2, Bool.and_true]
    clear HR hn hc
    generalize crnOk cf.w cf.d t = k at CO HR2
    generalize nxV t = nx at NO
    generalize nyV t = ny at NO
    generalize nzV t = nz at NO
    obtain ⟨i, ⟨ax, ay, az⟩, ⟨bx, by_, bz⟩, ⟨cx, cy, cz⟩⟩ := t
    obtain ⟨clear_, climb, height, rise, run, cw, cd⟩ := cf
    dsimp only [trO, trA, cfgO, cfgV] at CF NO CO hB hT hC HR2 ⊢
    go_enter Tryz.func36, Tryz.ntmps36
    go_wp2_with fail
    refine (CF.out _).mono ?_
    rintro e w1 ⟨rfl, hb1⟩
    have hT1 := hkeep hb1 hT
    have hC1 := hkeep hb1 hC
    have hB1 := hB.trans (hb1.mono hB.size)
    clear hb1 hB hT hC
    have t0 := hcell (k := 0) (v := .int .i64 i) hT1 rfl
    have t1 := hcell (k := 1) (v := .int .i64 ax) hT1 rfl
    have t2 := hcell (k := 2) (v := .int .i64 ay) hT1 rfl
    have t3 := hcell (k := 3) (v := .int .i64 az) hT1 rfl
    have t4 := hcell (k := 4) (v := .int .i64 bx) hT1 rfl
    have t5 := hcell (k := 5) (v := .int .i64 by_) hT1 rfl
    have t6 := hcell (k := 6) (v := .int .i64 bz) hT1 rfl
    have t7 := hcell (k := 7) (v := .int .i64 cx) hT1 rfl
    have t8 := hcell (k := 8) (v := .int .i64 cy) hT1 rfl
    have t9 := hcell (k := 9) (v := .int .i64 cz) hT1 rfl
    go_wp2_with fail
    refine (NO.out _).mono ?_
    rintro e w2 ⟨rfl, hb2⟩
    have hT2 := hkeep hb2 hT1
    have hC2 := hkeep hb2 hC1
    have hB2 := hB1.trans (hb2.mono hB1.size)
    clear t0 t1 t2 t3 t4 t5 t6 t7 t8 t9 hb2 hB1 hT1 hC1
    have t0 := hcell (k := 0) (v := .int .i64 i) hT2 rfl
    have t1 := hcell (k := 1) (v := .int .i64 ax) hT2 rfl
    have t2 := hcell (k := 2) (v := .int .i64 ay) hT2 rfl
    have t3 := hcell (k := 3) (v := .int .i64 az) hT2 rfl
    have t4 := hcell (k := 4) (v := .int .i64 bx) hT2 rfl
    have t5 := hcell (k := 5) (v := .int .i64 by_) hT2 rfl
    have t6 := hcell (k := 6) (v := .int .i64 bz) hT2 rfl
    have t7 := hcell (k := 7) (v := .int .i64 cx) hT2 rfl
    have t8 := hcell (k := 8) (v := .int .i64 cy) hT2 rfl
    have t9 := hcell (k := 9) (v := .int .i64 cz) hT2 rfl
    have c5 := hcell (k := 5) (v := .int .i64 cw) hC2 rfl
    have c6 := hcell (k := 6) (v := .int .i64 cd) hC2 rfl
    clear hT2 hC2
    by_cases h1 : i < 1
    · have HR3 : Hid (r = 40) := by show _ = _; rw [HR2.out, decide_eq_false (show ¬ 1 ≤ i by omega)]; rfl
      go_wp2
      go_ret
      exact ⟨ret_int HR3.out.symm, hB2⟩
    by_cases h2 : 1073741824 < i
    · have HR3 : Hid (r = 40) := by show _ = _; rw [HR2.out, decide_eq_false (show ¬ i ≤ 1073741824 by omega), Bool.and_false]; rfl
      go_wp2
      go_ret
      exact ⟨ret_int HR3.out.symm, hB2⟩
    have HR3 : Hid (r = if k then 0 else 40) := by show _ = _; rw [HR2.out, decide_eq_true (show 1 ≤ i by omega), decide_eq_true (show i ≤ 1073741824 by omega)]; rfl
    clear HR2
    go_wp2_with fail
    refine (CO.out _).mono ?_
    rintro e w3 ⟨rfl, hb3⟩
    have hB3 := hB2.trans (hb3.mono hB2.size)
    clear hb3 hB2 t0 t1 t2 t3 t4 t5 t6 t7 t8 t9 c5 c6
    cases k with
    | false =>
      go_wp2
      go_ret
      exact ⟨ret_int HR3.out.symm, hB3⟩
    | true =>
      go_wp2
      go_ret
      exact ⟨ret_int HR3.out.symm, hB3⟩
theorem results_k2 {fn : Func} {t u : Tmp} (h : fn.results = #[.tmp t, .tmp u]) (tmps : Array Value) (P : Program) (w : World) :
    (results fn tmps).run P w = .ok (.tuple #[tmps.getD t undef, tmps.getD u undef]) w := by
  simp [results, h]
theorem cfg_rr {cf : Cfg} (h : cfgOk cf = true) : 0 ≤ cf.rise ∧ cf.rise ≤ 100 ∧ 1 ≤ cf.run ∧ cf.run ≤ 100 := by
  unfold cfgOk at h
  simp only [decide_eq_true_eq] at h
  omega
theorem nrm_bound {t : Tr} (h : crnOk 32 32 t = true) : (-300000 ≤ nxV t ∧ nxV t ≤ 300000) ∧ (-3000 ≤ nyV t ∧ nyV t ≤ 3000) ∧ (-300000 ≤ nzV t ∧ nzV t ≤ 300000) := by
  rw [crn_iff] at h
  have b1 := mulB (x := t.b.z - t.a.z) (y := t.c.x - t.a.x) (K := 32) (L := 32) (by omega) (by omega)
  have b2 := mulB (x := t.b.x - t.a.x) (y := t.c.z - t.a.z) (K := 32) (L := 32) (by omega) (by omega)
  have b3 := mulB (x := t.b.y - t.a.y) (y := t.c.z - t.a.z) (K := 4096) (L := 32) (by omega) (by omega)
  have b4 := mulB (x := t.b.z - t.a.z) (y := t.c.y - t.a.y) (K := 32) (L := 4096) (by omega) (by omega)
  have b5 := mulB (x := t.b.x - t.a.x) (y := t.c.y - t.a.y) (K := 32) (L := 4096) (by omega) (by omega)
  have b6 := mulB (x := t.b.y - t.a.y) (y := t.c.x - t.a.x) (K := 4096) (L := 32) (by omega) (by omega)
  unfold nxV nyV nzV
  omega
set_option maxRecDepth 100000 in
set_option maxHeartbeats 4000000 in
theorem walk_any (cf : Cfg) (t : Tr) (w : World) (hc : cfgOk cf = true) (hm : trMay cf.w cf.d t = true) :
    Calls Tryz.prog 66 #[cfgV cf, trA t] w fun e w' => e = .returned (.tuple #[.bool (walkV cf.rise cf.run t), .int .i64 0]) ∧ Below w.heap.size w w' := by
  have CF := Lib.hid (fun W => cfgcheck_any cf W)
  have NO := Lib.hid (fun W => normal_any t W)
  have h0 : cfgE cf = 0 := by unfold cfgE; rw [if_pos hc]
  rw [h0] at CF
  clear h0
  have hn := may_nrm hc hm
  rw [nrm_ok hn] at NO
  rw [Bool.and_eq_true] at hn
  obtain ⟨⟨x1, x2⟩, ⟨y1, y2⟩, z1, z2⟩ := nrm_bound hn.1
  obtain ⟨r1, r2, r3, r4⟩ := cfg_rr hc
  have hC := halloc (World.alloc_heap_new w (cfgO cf)) (trO t.id t.a t.b t.c)
  have hT := World.alloc_heap_new (w.alloc (cfgO cf)) (trO t.id t.a t.b t.c)
  have hB : Below w.heap.size w ((w.alloc (cfgO cf)).alloc (trO t.id t.a t.b t.c)) := ((Below.refl _ _).alloc (Nat.le_refl _) _).alloc (by simp) _
  simp only [World.size_alloc] at hT
  obtain ⟨r, hr⟩ : ∃ r, r = walkV cf.rise cf.run t := ⟨_, rfl⟩
  rw [← hr]
  unfold walkV at hr
  have HR := Lib.hid hr
  clear hr hc hm hn
  generalize nxV t = nx at NO x1 x2 HR
  generalize nyV t = ny at NO y1 y2 HR
  generalize nzV t = nz at NO z1 z2 HR
  obtain ⟨i, ⟨ax, ay, az⟩, ⟨bx, by_, bz⟩, ⟨cx, cy, cz⟩⟩ := t
  obtain ⟨clear_, climb, height, rise, run, cw, cd⟩ := cf
  dsimp only [trO, trA, cfgO, cfgV] at CF NO hB hT hC HR r1 r2 r3 r4 ⊢
  have m1 := mulB (x := nx) (y := nx) (K := 300000) (L := 300000) ⟨x1, x2⟩ ⟨x1, x2⟩
  have m2 := mulB (x := nz) (y := nz) (K := 300000) (L := 300000) ⟨z1, z2⟩ ⟨z1, z2⟩
  have m3 := mulB (x := nx * nx + nz * nz) (y := run) (K := 180000000000) (L := 100) (by omega) (by omega)
  have m4 := mulB (x := (nx * nx + nz * nz) * run) (y := run) (K := 18000000000000) (L := 100) (by omega) (by omega)
  have m5 := mulB (x := ny) (y := ny) (K := 3000) (L := 3000) ⟨y1, y2⟩ ⟨y1, y2⟩
  have m6 := mulB (x := ny * ny) (y := rise) (K := 9000000) (L := 100) (by omega) (by omega)
  have m7 := mulB (x := ny * ny * rise) (y := rise) (K := 900000000) (L := 100) (by omega) (by omega)
  have w1 : IntKind.i64.wrap (nx * nx) = nx * nx := by rw [IntKind.wrap_i64]; omega
  have w2 : IntKind.i64.wrap (nz * nz) = nz * nz := by rw [IntKind.wrap_i64]; omega
  have w3 : IntKind.i64.wrap (nx * nx + nz * nz) = nx * nx + nz * nz := by rw [IntKind.wrap_i64]; omega
  have w4 : IntKind.i64.wrap ((nx * nx + nz * nz) * run) = (nx * nx + nz * nz) * run := by rw [IntKind.wrap_i64]; omega
  have w5 : IntKind.i64.wrap ((nx * nx + nz * nz) * run * run) = (nx * nx + nz * nz) * run * run := by rw [IntKind.wrap_i64]; omega
  have w6 : IntKind.i64.wrap (ny * ny) = ny * ny := by rw [IntKind.wrap_i64]; omega
  have w7 : IntKind.i64.wrap (ny * ny * rise) = ny * ny * rise := by rw [IntKind.wrap_i64]; omega
  have w8 : IntKind.i64.wrap (ny * ny * rise * rise) = ny * ny * rise * rise := by rw [IntKind.wrap_i64]; omega
  clear m1 m2 m3 m4 m5 m6 m7 x1 x2 y1 y2 z1 z2 r1 r2 r3 r4
  go_enter Tryz.func66, Tryz.ntmps66
  go_wp2_with fail
  refine (CF.out _).mono ?_
  rintro e v1 ⟨rfl, hb1⟩
  have hT1 := hkeep hb1 hT
  have hC1 := hkeep hb1 hC
  have hB1 := hB.trans (hb1.mono hB.size)
  clear hb1 hB hT hC
  have t0 := hcell (k := 0) (v := .int .i64 i) hT1 rfl
  have t1 := hcell (k := 1) (v := .int .i64 ax) hT1 rfl
  have t2 := hcell (k := 2) (v := .int .i64 ay) hT1 rfl
  have t3 := hcell (k := 3) (v := .int .i64 az) hT1 rfl
  have t4 := hcell (k := 4) (v := .int .i64 bx) hT1 rfl
  have t5 := hcell (k := 5) (v := .int .i64 by_) hT1 rfl
  have t6 := hcell (k := 6) (v := .int .i64 bz) hT1 rfl
  have t7 := hcell (k := 7) (v := .int .i64 cx) hT1 rfl
  have t8 := hcell (k := 8) (v := .int .i64 cy) hT1 rfl
  have t9 := hcell (k := 9) (v := .int .i64 cz) hT1 rfl
  go_wp2_with fail
  refine (NO.out _).mono ?_
  rintro e v2 ⟨rfl, hb2⟩
  have hC2 := hkeep hb2 hC1
  have hB2 := hB1.trans (hb2.mono hB1.size)
  clear t0 t1 t2 t3 t4 t5 t6 t7 t8 t9 hb2 hB1 hT1 hC1
  have c3 := hcell (k := 3) (v := .int .i64 rise) hC2 rfl
  have c4 := hcell (k := 4) (v := .int .i64 run) hC2 rfl
  clear hC2
  go_wp2
  ((try simp only [Exit.inBlock, Exit.then]); refine bodyPost_ret (results_k2 rfl _ _ _) rfl ?_)
  exact ⟨by rw [HR.out]; rfl, hB2⟩
end Go.Proofs.YtdkikecjlbgmdaaGreat
