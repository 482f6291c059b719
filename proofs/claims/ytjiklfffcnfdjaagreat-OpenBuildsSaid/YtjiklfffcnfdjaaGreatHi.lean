/- Walks: the reference's Walk of triangles, its columns. -/
import Derived.Test.YtjiklfffcnfdjaaGreatHh
import Derived.Test.YtjiklfffcnfdjaaGreatHa
import Derived.Test.YtjiklfffcnfdjaaGreatGj
import Derived.Test.YtjiklfffcnfdjaaGreatHe
namespace Go.Proofs.YtjiklfffcnfdjaaGreat
open Go.RowKit
attribute [local go_sem] Instr.index

set_option maxRecDepth 100000 in
set_option maxHeartbeats 4000000 in
theorem refwalk04_any (cf : Cfg) (t : Tr) (w : World) (hc : cfgOk cf = true) (hm : trMay cf.w cf.d t = true) :
    Calls Tryz.prog 41 #[cfgV cf, trA t] w fun e w' => e = .returned (.tuple #[.bool (walkV cf.rise cf.run t), .int .i64 0]) ∧ Below w.heap.size w w' := by
  have CF := Lib.hid (fun W => refcfgcheck_any cf W)
  have h0 : cfgE cf = 0 := by unfold cfgE; rw [if_pos hc]
  rw [h0] at CF
  clear h0
  have hn := may_nrm hc hm
  rw [Bool.and_eq_true] at hn
  have NO := Lib.hid (fun W => refnormal_any t W hn.1 (by simpa using hn.2))
  obtain ⟨⟨x1, x2⟩, ⟨y1, y2⟩, z1, z2⟩ := nrm_bound hn.1
  obtain ⟨r1, r2, r3, r4⟩ := cfg_rr hc
  have hC := halloc (World.alloc_heap_new w (cfgO cf)) (trO t.id t.a t.b t.c)
  have hT := World.alloc_heap_new (w.alloc (cfgO cf)) (trO t.id t.a t.b t.c)
  have hB : Below w.heap.size w ((w.alloc (cfgO cf)).alloc (trO t.id t.a t.b t.c)) := ((Below.refl _ _).alloc (Nat.le_refl _) _).alloc (by simp) _
  simp only [World.size_alloc] at hT
  obtain ⟨r, hr⟩ : ∃ r, r = walkV cf.rise cf.run t := ⟨_, rfl⟩
  rw [← hr]
  unfold walkV at hr
  have HR := Lib.hid hr
  clear hr hc hm hn
  generalize nxV t = nx at NO x1 x2 HR
  generalize nyV t = ny at NO y1 y2 HR
  generalize nzV t = nz at NO z1 z2 HR
  obtain ⟨i, ⟨ax, ay, az⟩, ⟨bx, by_, bz⟩, ⟨cx, cy, cz⟩⟩ := t
  obtain ⟨clear_, climb, height, rise, run, cw, cd⟩ := cf
  dsimp only [trO, trA, cfgO, cfgV] at CF NO hB hT hC HR r1 r2 r3 r4 ⊢
  have m1 := mulB (x := nx) (y := nx) (K := 300000) (L := 300000) ⟨x1, x2⟩ ⟨x1, x2⟩
  have m2 := mulB (x := nz) (y := nz) (K := 300000) (L := 300000) ⟨z1, z2⟩ ⟨z1, z2⟩
  have m3 := mulB (x := nx * nx + nz * nz) (y := run) (K := 180000000000) (L := 100) (by omega) (by omega)
  have m4 := mulB (x := (nx * nx + nz * nz) * run) (y := run) (K := 18000000000000) (L := 100) (by omega) (by omega)
  have m5 := mulB (x := ny) (y := ny) (K := 3000) (L := 3000) ⟨y1, y2⟩ ⟨y1, y2⟩
  have m6 := mulB (x := ny * ny) (y := rise) (K := 9000000) (L := 100) (by omega) (by omega)
  have m7 := mulB (x := ny * ny * rise) (y := rise) (K := 900000000) (L := 100) (by omega) (by omega)
  have w1 : IntKind.i64.wrap (nx * nx) = nx * nx := by rw [IntKind.wrap_i64]; omega
  have w2 : IntKind.i64.wrap (nz * nz) = nz * nz := by rw [IntKind.wrap_i64]; omega
  have w3 : IntKind.i64.wrap (nx * nx + nz * nz) = nx * nx + nz * nz := by rw [IntKind.wrap_i64]; omega
  have w4 : IntKind.i64.wrap ((nx * nx + nz * nz) * run) = (nx * nx + nz * nz) * run := by rw [IntKind.wrap_i64]; omega
  have w5 : IntKind.i64.wrap ((nx * nx + nz * nz) * run * run) = (nx * nx + nz * nz) * run * run := by rw [IntKind.wrap_i64]; omega
  have w6 : IntKind.i64.wrap (ny * ny) = ny * ny := by rw [IntKind.wrap_i64]; omega
  have w7 : IntKind.i64.wrap (ny * ny * rise) = ny * ny * rise := by rw [IntKind.wrap_i64]; omega
  have w8 : IntKind.i64.wrap (ny * ny * rise * rise) = ny * ny * rise * rise := by rw [IntKind.wrap_i64]; omega
  clear m1 m2 m3 m4 m5 m6 m7 x1 x2 y1 y2 z1 z2 r1 r2 r3 r4
  go_enter Tryz.func41, Tryz.ntmps41
  go_wp2_with fail
  refine (CF.out _).mono ?_
  rintro e v1 ⟨rfl, hb1⟩
  have hT1 := hkeep hb1 hT
  have hC1 := hkeep hb1 hC
  have hB1 := hB.trans (hb1.mono hB.size)
  clear hb1 hB hT hC
  have t0 := hcell (k := 0) (v := .int .i64 i) hT1 rfl
  have t1 := hcell (k := 1) (v := .int .i64 ax) hT1 rfl
  have t2 := hcell (k := 2) (v := .int .i64 ay) hT1 rfl
  have t3 := hcell (k := 3) (v := .int .i64 az) hT1 rfl
  have t4 := hcell (k := 4) (v := .int .i64 bx) hT1 rfl
  have t5 := hcell (k := 5) (v := .int .i64 by_) hT1 rfl
  have t6 := hcell (k := 6) (v := .int .i64 bz) hT1 rfl
  have t7 := hcell (k := 7) (v := .int .i64 cx) hT1 rfl
  have t8 := hcell (k := 8) (v := .int .i64 cy) hT1 rfl
  have t9 := hcell (k := 9) (v := .int .i64 cz) hT1 rfl
  go_wp2_with fail
  refine (NO.out _).mono ?_
  rintro e v2 ⟨rfl, hb2⟩
  have hC2 := hkeep hb2 hC1
  have hB2 := hB1.trans (hb2.mono hB1.size)
  clear t0 t1 t2 t3 t4 t5 t6 t7 t8 t9 hb2 hB1 hT1 hC1
  have c3 := hcell (k := 3) (v := .int .i64 rise) hC2 rfl
  have c4 := hcell (k := 4) (v := .int .i64 run) hC2 rfl
  clear hC2
  go_wp2
  ((try simp only [Exit.inBlock, Exit.then]); refine bodyPost_ret (results_k2 rfl _ _ _) rfl ?_)
  exact ⟨by rw [HR.out]; rfl, hB2⟩
theorem colAll_cfg {cf : Cfg} {xs : List Tr} {x z : Int} (h : cfgOk cf = false) : colAll cf xs x z = ([], 20) := by
  have e : colMay cf xs = 20 := by unfold colMay; rw [if_pos h]
  unfold colAll
  rw [if_pos (by rw [e]; omega), e]
theorem colMay_two {cf : Cfg} {xs : List Tr} (h : cfgOk cf = true) (hm : mayAllT cf xs = false) : colMay cf xs = 2 := by
  rw [mayAllT_col h, decide_eq_false_iff_not] at hm
  rcases colMay_e cf xs with h1 | h1 | h1
  · exact absurd h1 hm
  · exact h1
  · unfold colMay at h1
    rw [h] at h1
    simp at h1
    split at h1
    · cases h1
    · split at h1 <;> cases h1
theorem colAll_may {cf : Cfg} {xs : List Tr} {x z : Int} (h : cfgOk cf = true) (hm : mayAllT cf xs = false) : colAll cf xs x z = ([], 2) := by
  have e := colMay_two h hm
  unfold colAll
  rw [if_pos (by rw [e]; omega), e]
theorem colAll_in {cf : Cfg} {xs : List Tr} {x z : Int} (h : cfgOk cf = true) (hm : mayAllT cf xs = true) : colAll cf xs x z = colIn cf xs x z := by
  rw [mayAllT_col h, decide_eq_true_eq] at hm
  unfold colAll
  rw [if_neg (by rw [hm]; simp)]
theorem colIn_out {cf : Cfg} {xs : List Tr} {x z : Int} (h : inCol cf x z = false) : colIn cf xs x z = ([], 0) := by unfold colIn; rw [h]; rfl
set_option maxRecDepth 100000 in
set_option maxHeartbeats 8000000 in
theorem refcolumn09_any (cf : Cfg) (a : Option Addr) (n c : Nat) (xs : List Tr) (x z : Int) (w : World) (hx : SlTr w a n c xs) :
    Calls Tryz.prog 32 #[cfgV cf, .slice a n c, .int .i64 x, .int .i64 z] w (colPost (colAll cf xs x z) w) := by
  have CF := Lib.hid (fun W => refcfgcheck_any cf W)
  obtain ⟨W1, hW1⟩ : ∃ W, W = w.alloc (cfgO cf) := ⟨_, rfl⟩
  have hC := World.alloc_heap_new w (cfgO cf)
  have hB : Below w.heap.size w (w.alloc (cfgO cf)) := (Below.refl _ _).alloc (Nat.le_refl _) _
  rw [← hW1] at hC hB
  obtain ⟨T, hTT⟩ : ∃ T, T = w.heap.size := ⟨_, rfl⟩
  rw [← hTT] at hC
  have HTT := Lib.hid hTT
  clear hTT
  have Hl := Lib.hid hx.len
  have hmax := hx.max
  have hle := hx.le
  have Hx := Lib.hid hx
  clear hx
  cases hcf : cfgOk cf with
  | false =>
    have h0 : cfgE cf = 20 := by unfold cfgE; rw [hcf]; rfl
    rw [h0] at CF
    have HR := colAll_cfg (xs := xs) (x := x) (z := z) hcf
    rw [HR]
    clear HR h0 hcf
    obtain ⟨cl, climb, height, rise, run, cw, cd⟩ := cf
    dsimp only [cfgO, cfgV] at CF hC hB hW1 ⊢
    have c0 := hcell (k := 0) (v := .int .i64 cl) hC rfl
    have c1 := hcell (k := 1) (v := .int .i64 climb) hC rfl
    have c2 := hcell (k := 2) (v := .int .i64 height) hC rfl
    have c3 := hcell (k := 3) (v := .int .i64 rise) hC rfl
    have c4 := hcell (k := 4) (v := .int .i64 run) hC rfl
    have c5 := hcell (k := 5) (v := .int .i64 cw) hC rfl
    have c6 := hcell (k := 6) (v := .int .i64 cd) hC rfl
    go_enter Tryz.func32, Tryz.ntmps32
    go_upto_region 1 with fail
    rw [← hW1, ← HTT.out]
    clear hW1
    go_wp2_with fail
    refine (CF.out _).mono ?_
    rintro e w1 ⟨rfl, hb1⟩
    have hB1 := hB.trans (hb1.mono hB.size)
    go_wp2
    ((try simp only [Exit.inBlock, Exit.then]); refine bodyPost_ret (results_k2 rfl _ _ _) rfl ?_)
    exact ⟨_, rfl, OwnR.nil _ _ _ _ _, hB1⟩
  | true =>
  have h0 : cfgE cf = 0 := by unfold cfgE; rw [hcf]; rfl
  rw [h0] at CF
  clear h0
  have MY := Lib.hid (fun W hW => refmay09_any cf a n c xs W hW hcf)
  cases hm : mayAllT cf xs with
  | false =>
    rw [hm] at MY
    have HR := colAll_may (x := x) (z := z) hcf hm
    rw [HR]
    clear HR hcf hm
    obtain ⟨cl, climb, height, rise, run, cw, cd⟩ := cf
    dsimp only [cfgO, cfgV] at CF MY hC hB hW1 ⊢
    have c0 := hcell (k := 0) (v := .int .i64 cl) hC rfl
    have c1 := hcell (k := 1) (v := .int .i64 climb) hC rfl
    have c2 := hcell (k := 2) (v := .int .i64 height) hC rfl
    have c3 := hcell (k := 3) (v := .int .i64 rise) hC rfl
    have c4 := hcell (k := 4) (v := .int .i64 run) hC rfl
    have c5 := hcell (k := 5) (v := .int .i64 cw) hC rfl
    have c6 := hcell (k := 6) (v := .int .i64 cd) hC rfl
    go_enter Tryz.func32, Tryz.ntmps32
    go_upto_region 1 with fail
    rw [← hW1, ← HTT.out]
    clear hW1
    go_wp2_with fail
    refine (CF.out _).mono ?_
    rintro e w1 ⟨rfl, hb1⟩
    have hB1 := hB.trans (hb1.mono hB.size)
    have hC1 := hkeep hb1 hC
    clear c0 c1 c2 c3 c4 c5 c6 hC hb1
    have c0 := hcell (k := 0) (v := .int .i64 cl) hC1 rfl
    have c1 := hcell (k := 1) (v := .int .i64 climb) hC1 rfl
    have c2 := hcell (k := 2) (v := .int .i64 height) hC1 rfl
    have c3 := hcell (k := 3) (v := .int .i64 rise) hC1 rfl
    have c4 := hcell (k := 4) (v := .int .i64 run) hC1 rfl
    have c5 := hcell (k := 5) (v := .int .i64 cw) hC1 rfl
    have c6 := hcell (k := 6) (v := .int .i64 cd) hC1 rfl
    go_wp2_with fail
    refine (MY.out _ (Hx.out.below hB1 (Nat.le_refl _))).mono ?_
    rintro e w2 ⟨rfl, hb2⟩
    have hB2 := hB1.trans (hb2.mono hB1.size)
    clear c0 c1 c2 c3 c4 c5 c6 hC1 hb2
    go_wp2
    ((try simp only [Exit.inBlock, Exit.then]); refine bodyPost_ret (results_k2 rfl _ _ _) rfl ?_)
    exact ⟨_, rfl, OwnR.nil _ _ _ _ _, hB2⟩
  | true =>
    rw [hm] at MY
    rw [colAll_in hcf hm]
    cases hin : inCol cf x z with
    | false =>
      rw [colIn_out hin]
      have HI : Hid (inCol cf x z = false) := hin
      unfold inCol at HI
      clear hcf hm hin
      obtain ⟨cl, climb, height, rise, run, cw, cd⟩ := cf
      dsimp only [cfgO, cfgV] at CF MY hC hB hW1 HI ⊢
      have c0 := hcell (k := 0) (v := .int .i64 cl) hC rfl
      have c1 := hcell (k := 1) (v := .int .i64 climb) hC rfl
      have c2 := hcell (k := 2) (v := .int .i64 height) hC rfl
      have c3 := hcell (k := 3) (v := .int .i64 rise) hC rfl
      have c4 := hcell (k := 4) (v := .int .i64 run) hC rfl
      have c5 := hcell (k := 5) (v := .int .i64 cw) hC rfl
      have c6 := hcell (k := 6) (v := .int .i64 cd) hC rfl
      go_enter Tryz.func32, Tryz.ntmps32
      go_upto_region 1 with fail
      rw [← hW1, ← HTT.out]
      clear hW1
      go_wp2_with fail
      refine (CF.out _).mono ?_
      rintro e w1 ⟨rfl, hb1⟩
      have hB1 := hB.trans (hb1.mono hB.size)
      have hC1 := hkeep hb1 hC
      clear c0 c1 c2 c3 c4 c5 c6 hC hb1
      have c0 := hcell (k := 0) (v := .int .i64 cl) hC1 rfl
      have c1 := hcell (k := 1) (v := .int .i64 climb) hC1 rfl
      have c2 := hcell (k := 2) (v := .int .i64 height) hC1 rfl
      have c3 := hcell (k := 3) (v := .int .i64 rise) hC1 rfl
      have c4 := hcell (k := 4) (v := .int .i64 run) hC1 rfl
      have c5 := hcell (k := 5) (v := .int .i64 cw) hC1 rfl
      have c6 := hcell (k := 6) (v := .int .i64 cd) hC1 rfl
      go_wp2_with fail
      refine (MY.out _ (Hx.out.below hB1 (Nat.le_refl _))).mono ?_
      rintro e w2 ⟨rfl, hb2⟩
      have hB2 := hB1.trans (hb2.mono hB1.size)
      have hC2 := hkeep hb2 hC1
      clear c0 c1 c2 c3 c4 c5 c6 hC1 hb2
      have c5 := hcell (k := 5) (v := .int .i64 cw) hC2 rfl
      have c6 := hcell (k := 6) (v := .int .i64 cd) hC2 rfl
      by_cases b1 : x < 0
      · clear HI
        go_wp2
        ((try simp only [Exit.inBlock, Exit.then]); refine bodyPost_ret (results_k2 rfl _ _ _) rfl ?_)
        exact ⟨_, rfl, OwnR.nil _ _ _ _ _, hB2⟩
      by_cases b2 : cw ≤ x
      · clear HI
        go_wp2
        ((try simp only [Exit.inBlock, Exit.then]); refine bodyPost_ret (results_k2 rfl _ _ _) rfl ?_)
        exact ⟨_, rfl, OwnR.nil _ _ _ _ _, hB2⟩
      by_cases b3 : z < 0
      · clear HI
        go_wp2
        ((try simp only [Exit.inBlock, Exit.then]); refine bodyPost_ret (results_k2 rfl _ _ _) rfl ?_)
        exact ⟨_, rfl, OwnR.nil _ _ _ _ _, hB2⟩
      by_cases b4 : cd ≤ z
      · clear HI
        go_wp2
        ((try simp only [Exit.inBlock, Exit.then]); refine bodyPost_ret (results_k2 rfl _ _ _) rfl ?_)
        exact ⟨_, rfl, OwnR.nil _ _ _ _ _, hB2⟩
      have := HI.out
      rw [decide_eq_true (show 0 ≤ x by omega), decide_eq_true (show x < cw by omega), decide_eq_true (show 0 ≤ z by omega), decide_eq_true (show z < cd by omega)] at this
      cases this
    | true =>
      have hmA := hm
      rw [mayAllT_col hcf, decide_eq_true_eq, colMay_zero] at hmA
      obtain ⟨_, h200, hall⟩ := hmA
      have hmp := may_pieces (x := x) (z := z) hcf hall
      have hR := colIn_yes hin hmp
      have HPL := Lib.hid (fun k => Nat.le_trans (pieces_len cf.rise cf.run x z (xs.take k)) (List.length_take_le k xs))
      have HTK : Hid (piecesT cf.rise cf.run x z (xs.take n) = piecesT cf.rise cf.run x z xs) := by show _ = _; rw [List.take_of_length_le (by rw [Hl.out]; exact Nat.le_refl _)]
      have PY := Lib.hid (fun (k : Nat) (t : Tr) (ht : xs[k]? = some t) => pieces_yes (rise := cf.rise) (run := cf.run) (x := x) (z := z) ht)
      have PN := Lib.hid (fun (k : Nat) (t : Tr) (ht : xs[k]? = some t) => pieces_no (rise := cf.rise) (run := cf.run) (x := x) (z := z) ht)
      have OV := Lib.hid (fun (k : Nat) (t : Tr) (_ : xs[k]? = some t) (W : World) => rover t x z W)
      have WK := Lib.hid (fun (k : Nat) (t : Tr) (ht : xs[k]? = some t) (W : World) => refwalk04_any cf ⟨1, t.a, t.b, t.c⟩ W hcf (hall t (List.mem_of_getElem? ht)))
      have hn2 : n ≤ 200 := by rw [← Hl.out]; exact h200
      have ME := Lib.hid (mrgE_of hmp)
      obtain ⟨PT, hPT⟩ : ∃ PT : Nat → List Spn, PT = fun k => piecesT cf.rise cf.run x z (xs.take k) := ⟨_, rfl⟩
      have hPTk : ∀ k, piecesT cf.rise cf.run x z (xs.take k) = PT k := fun k => by rw [hPT]
      obtain ⟨PX, hPX⟩ : ∃ PX, PX = piecesT cf.rise cf.run x z xs := ⟨_, rfl⟩
      simp only [hPTk] at HPL HTK PY PN
      rw [← hPX] at HTK hR ME
      have HP0 : Hid (PT 0 = []) := by show _ = _; rw [hPT]; rfl
      clear hPTk hPT hPX hmp hall h200
      have HR := Lib.hid hR
      clear hR
      obtain ⟨R, hRR⟩ : ∃ R, R = colIn cf xs x z := ⟨_, rfl⟩
      rw [← hRR] at HR ⊢
      clear hRR
      unfold inCol at hin
      simp only [Bool.and_eq_true, decide_eq_true_eq] at hin
      obtain ⟨⟨⟨b1, b2⟩, b3⟩, b4⟩ := hin
      clear hcf hm
      have WV : ∀ t : Tr, walkV cf.rise cf.run ⟨1, t.a, t.b, t.c⟩ = walkV cf.rise cf.run t := fun t => rfl
      simp only [WV] at WK
      clear WV
      obtain ⟨cl, climb, height, rise, run, cw, cd⟩ := cf
      dsimp only [cfgO, cfgV] at CF MY WK PY PN hC hB hW1 b1 b2 b3 b4 ⊢
      have c0 := hcell (k := 0) (v := .int .i64 cl) hC rfl
      have c1 := hcell (k := 1) (v := .int .i64 climb) hC rfl
      have c2 := hcell (k := 2) (v := .int .i64 height) hC rfl
      have c3 := hcell (k := 3) (v := .int .i64 rise) hC rfl
      have c4 := hcell (k := 4) (v := .int .i64 run) hC rfl
      have c5 := hcell (k := 5) (v := .int .i64 cw) hC rfl
      have c6 := hcell (k := 6) (v := .int .i64 cd) hC rfl
      go_enter Tryz.func32, Tryz.ntmps32
      go_upto_region 1 with fail
      rw [← hW1, ← HTT.out]
      clear hW1
      go_wp2_with fail
      refine (CF.out _).mono ?_
      rintro e w1 ⟨rfl, hb1⟩
      have hB1 := hB.trans (hb1.mono hB.size)
      have hC1 := hkeep hb1 hC
      clear c0 c1 c2 c3 c4 c5 c6 hC hb1
      have c0 := hcell (k := 0) (v := .int .i64 cl) hC1 rfl
      have c1 := hcell (k := 1) (v := .int .i64 climb) hC1 rfl
      have c2 := hcell (k := 2) (v := .int .i64 height) hC1 rfl
      have c3 := hcell (k := 3) (v := .int .i64 rise) hC1 rfl
      have c4 := hcell (k := 4) (v := .int .i64 run) hC1 rfl
      have c5 := hcell (k := 5) (v := .int .i64 cw) hC1 rfl
      have c6 := hcell (k := 6) (v := .int .i64 cd) hC1 rfl
      go_wp2_with fail
      refine (MY.out _ (Hx.out.below hB1 (Nat.le_refl _))).mono ?_
      rintro e w2 ⟨rfl, hb2⟩
      have hB2 := hB1.trans (hb2.mono hB1.size)
      have hC2 := hkeep hb2 hC1
      clear c0 c1 c2 c3 c4 c5 c6 hC1 hb2 CF MY hB hB1
      have c5 := hcell (k := 5) (v := .int .i64 cw) hC2 rfl
      have c6 := hcell (k := 6) (v := .int .i64 cd) hC2 rfl
      have b1' : ¬ x < 0 := by omega
      have b2' : ¬ cw ≤ x := by omega
      have b3' : ¬ z < 0 := by omega
      have b4' : ¬ cd ≤ z := by omega
      clear b1 b2 b3 b4
      go_wp2
      clear b1' b2' b3' b4' c5 c6
      have hs2 := hB2.size
      go_loopw [10, 11] (fun s10 s11 wr => ∃ k : Nat, s11 = .int .i64 k ∧ k ≤ n ∧ OwnR spnC 3 41 w2.heap.size wr s10 (PT k).length (PT k) ∧ Below w2.heap.size w2 wr) (fun _ s11 _ => n - (intOf s11).toNat)
      case atStart => exact ⟨0, rfl, Nat.zero_le _, by rw [HP0.out]; exact OwnR.nil _ _ _ _ _, Below.refl _ _⟩
      case round =>
        obtain ⟨k, rfl, hk, hown, hbr⟩ := hrel
        by_cases hlt : k < n
        · have hltI : (k : Int) < (n : Int) := by omega
          obtain ⟨t, hxk⟩ : ∃ t, xs[k]? = some t := ⟨_, List.getElem?_eq_getElem (by rw [Hl.out]; exact hlt)⟩
          have hBr := hB2.trans (hbr.mono hB2.size)
          obtain ⟨bk, off, rfl, hbl, hc⟩ := (Hx.out.below hBr (Nat.le_refl _)).at0 (by omega)
          have hkl := HPL.out k
          have OV2 := Lib.hid (OV.out k t hxk)
          have WK2 := Lib.hid (WK.out k t hxk)
          have PY2 := Lib.hid (PY.out k t hxk)
          have PN2 := Lib.hid (PN.out k t hxk)
          generalize (overT t x z).1 = lo at OV2 PY2
          generalize (overT t x z).2.1 = hi at OV2 PY2
          generalize (overT t x z).2.2.1 = ok at OV2 PY2 PN2
          generalize (overT t x z).2.2.2 = er at OV2
          generalize walkV rise run t = wk at WK2 PY2
          obtain ⟨q0, q1, q2, q3, q4, q5, q6, q7, q8, q9⟩ := SlTr.cells hc hxk
          obtain ⟨i, ⟨ax, ay, az⟩, ⟨bx, by_, bz⟩, ⟨cx, cy, cz⟩⟩ := t
          dsimp only [trA] at q0 q1 q2 q3 q4 q5 q6 q7 q8 q9 OV2 WK2
          clear hc hxk OV WK PY PN
          have hCr := hkeep hbr hC2
          go_wp2_with fail
          refine (OV2.out _).mono ?_
          rintro e w3 ⟨rfl, hb3⟩
          have hC3 := hkeep hb3 hCr
          have hbr3 := hbr.trans (hb3.mono hbr.size)
          have hown3 := hown.below hb3 (Nat.le_refl _)
          have p0 := hbc hb3 q0
          have p1 := hbc hb3 q1
          have p2 := hbc hb3 q2
          have p3 := hbc hb3 q3
          have p4 := hbc hb3 q4
          have p5 := hbc hb3 q5
          have p6 := hbc hb3 q6
          have p7 := hbc hb3 q7
          have p8 := hbc hb3 q8
          have p9 := hbc hb3 q9
          clear q0 q1 q2 q3 q4 q5 q6 q7 q8 q9 hCr hb3 hown hbr hBr
          cases ok with
          | false =>
            have HN := Lib.hid (PN2.out (by first | rfl | trivial))
            clear PN2 PY2
            go_wp2
            go_roundw
            case rel => exact ⟨k + 1, by go_num, by omega, by rw [HN.out]; exact hown3, hbr3⟩
            case measure => simp [intOf]; omega
          | true =>
            have HY := Lib.hid (PY2.out (by first | rfl | trivial))
            clear PN2 PY2
            have hCA := halloc hC3 (.cells #[.int .i64 1, .int .i64 ax, .int .i64 ay, .int .i64 az, .int .i64 bx, .int .i64 by_, .int .i64 bz, .int .i64 cx, .int .i64 cy, .int .i64 cz] 77)
            have hbA := hbr3.alloc hbr3.size (.cells #[.int .i64 1, .int .i64 ax, .int .i64 ay, .int .i64 az, .int .i64 bx, .int .i64 by_, .int .i64 bz, .int .i64 cx, .int .i64 cy, .int .i64 cz] 77)
            have hownA := hown3.alloc (.cells #[.int .i64 1, .int .i64 ax, .int .i64 ay, .int .i64 az, .int .i64 bx, .int .i64 by_, .int .i64 bz, .int .i64 cx, .int .i64 cy, .int .i64 cz] 77)
            have hTl := hblt hC3
            have d0 := hcell (k := 0) (v := .int .i64 cl) hC3 rfl
            have d1 := hcell (k := 1) (v := .int .i64 climb) hC3 rfl
            have d2 := hcell (k := 2) (v := .int .i64 height) hC3 rfl
            have d3 := hcell (k := 3) (v := .int .i64 rise) hC3 rfl
            have d4 := hcell (k := 4) (v := .int .i64 run) hC3 rfl
            have d5 := hcell (k := 5) (v := .int .i64 cw) hC3 rfl
            have d6 := hcell (k := 6) (v := .int .i64 cd) hC3 rfl
            go_wp2_with fail
            refine (WK2.out _).mono ?_
            rintro e w5 ⟨rfl, hb5⟩
            have hB5 := hbA.trans (hb5.mono hbA.size)
            have hown5 := hownA.below hb5 (Nat.le_refl _)
            have hs5 := hB5.size
            clear p0 p1 p2 p3 p4 p5 p6 p7 p8 p9 d0 d1 d2 d3 d4 d5 d6 hCA hbA hownA hown3 hbr3 hb5 hC3
            go_wp2_with (at_builtin; refine wpList_appR (f := spnC) (sz := 3) (e := 41) (B := w2.heap.size) (n := (PT k).length) (xs := PT k) _ spnC_len spnC_one rfl _ _ 24 rfl (.agg #[.int .i64 0, .int .i64 0, .bool false]) 24 Tryz.underlying24 info_spn3 rfl (by decide) (⟨lo, hi, wk⟩ : Spn) 41 hown5 rfl rfl (by omega) (by omega) hs5 ?_; intro v' w6 hown6 happ)
            have hB6 := hB5.trans (happ.below hs5 hown5.le)
            have hl6 : (PT k).length + 1 = (PT (k + 1)).length := by rw [HY.out]; simp
            go_roundw
            case rel => exact ⟨k + 1, by go_num, by omega, by rw [← hl6, HY.out]; exact hown6, hB6⟩
            case measure => simp [intOf]; omega
        · obtain rfl : k = n := by omega
          rw [HTK.out] at hown
          obtain ⟨ad, cp, hv, hsl⟩ := OwnR.reads spnC_len hown
          have hpl := HPL.out k
          rw [HTK.out] at hpl
          have MG := Lib.hid (refmerge_any ad PX.length cp PX wr hsl (by omega))
          have hv2 := hv
          subst hv2
          have hBr := hB2.trans (hbr.mono hB2.size)
          clear hown hsl hbr
          go_wp2_with fail
          refine MG.out.mono ?_
          rintro e w5 ⟨vm, rfl, hown5, hb5⟩
          rw [ME.out]
          have hB5 := hBr.trans (hb5.mono hBr.size)
          have hown5' := hown5.mono hBr.size
          obtain ⟨am, cm, rfl, rm⟩ := OwnR.reads spnC_len hown5
          have HO := Lib.hid hown5'
          clear hown5 rm hown5'
          by_cases h8 : 8 < (mrgR PX).length
          · have h8I : (8 : Int) < ((mrgR PX).length : Int) := by omega
            have e8 : R = ([], 51) := by rw [HR.out, if_pos h8]
            subst e8
            clear HR
            go_wp2
            ((try simp only [Exit.inBlock, Exit.then]); refine bodyPost_ret (results_k2 rfl _ _ _) rfl ?_)
            exact ⟨_, rfl, OwnR.nil _ _ _ _ _, hB5⟩
          · have h8I : ¬ (8 : Int) < ((mrgR PX).length : Int) := by omega
            have e8 : R = (mrgR PX, 0) := by rw [HR.out, if_neg h8]
            subst e8
            clear HR
            go_wp2
            ((try simp only [Exit.inBlock, Exit.then]); refine bodyPost_ret (results_k2 rfl _ _ _) rfl ?_)
            exact ⟨_, rfl, HO.out, hB5⟩
end Go.Proofs.YtjiklfffcnfdjaaGreat

namespace Go.Proofs.YtjiklfffcnfdjaaGreat
open Go.RowKit
attribute [local go_sem] Instr.index

theorem boxR_cfg {cf : Cfg} {xs : List Tr} {x z w d : Int} (h : cfgOk cf = false) : boxR cf xs x z w d = ([], 20) := by
  have e : colMay cf xs = 20 := by unfold colMay; rw [if_pos h]
  unfold boxR
  rw [if_pos (by rw [e]; omega), e]
theorem boxR_may {cf : Cfg} {xs : List Tr} {x z w d : Int} (h : cfgOk cf = true) (hm : mayAllT cf xs = false) : boxR cf xs x z w d = ([], 2) := by
  have e := colMay_two h hm
  unfold boxR
  rw [if_pos (by rw [e]; omega), e]
theorem boxR_in {cf : Cfg} {xs : List Tr} {x z w d : Int} (h : cfgOk cf = true) (hm : mayAllT cf xs = true) : boxR cf xs x z w d = if inBox x z w d then boxL cf xs x z w.toNat d.toNat else ([], 2) := by
  rw [mayAllT_col h, decide_eq_true_eq] at hm
  unfold boxR
  rw [if_neg (by rw [hm]; simp)]
set_option maxRecDepth 100000 in
set_option maxHeartbeats 8000000 in
theorem refbox09_any (cf : Cfg) (a : Option Addr) (n c : Nat) (xs : List Tr) (x z bw bd : Int) (w : World) (hx : SlTr w a n c xs) :
    Calls Tryz.prog 17 #[cfgV cf, .slice a n c, .int .i64 x, .int .i64 z, .int .i64 bw, .int .i64 bd] w (rowsPost (boxR cf xs x z bw bd) w) := by
  have CF := Lib.hid (fun W => refcfgcheck_any cf W)
  have BM := Lib.hid (fun W => refbox_any x z bw bd W)
  obtain ⟨W1, hW1⟩ : ∃ W, W = w.alloc (cfgO cf) := ⟨_, rfl⟩
  have hC := World.alloc_heap_new w (cfgO cf)
  have hB : Below w.heap.size w (w.alloc (cfgO cf)) := (Below.refl _ _).alloc (Nat.le_refl _) _
  rw [← hW1] at hC hB
  obtain ⟨T, hTT⟩ : ∃ T, T = w.heap.size := ⟨_, rfl⟩
  rw [← hTT] at hC
  have HTT := Lib.hid hTT
  clear hTT
  have Hx := Lib.hid hx
  clear hx
  cases hcf : cfgOk cf with
  | false =>
    have h0 : cfgE cf = 20 := by unfold cfgE; rw [hcf]; rfl
    rw [h0] at CF
    rw [boxR_cfg hcf]
    clear h0 hcf BM
    obtain ⟨cl, climb, height, rise, run, cw, cd⟩ := cf
    dsimp only [cfgO, cfgV] at CF hC hB hW1 ⊢
    have c0 := hcell (k := 0) (v := .int .i64 cl) hC rfl
    have c1 := hcell (k := 1) (v := .int .i64 climb) hC rfl
    have c2 := hcell (k := 2) (v := .int .i64 height) hC rfl
    have c3 := hcell (k := 3) (v := .int .i64 rise) hC rfl
    have c4 := hcell (k := 4) (v := .int .i64 run) hC rfl
    have c5 := hcell (k := 5) (v := .int .i64 cw) hC rfl
    have c6 := hcell (k := 6) (v := .int .i64 cd) hC rfl
    go_enter Tryz.func17, Tryz.ntmps17
    go_upto_region 1 with fail
    rw [← hW1, ← HTT.out]
    clear hW1
    go_wp2_with fail
    refine (CF.out _).mono ?_
    rintro e w1 ⟨rfl, hb1⟩
    have hB1 := hB.trans (hb1.mono hB.size)
    go_wp2
    ((try simp only [Exit.inBlock, Exit.then]); refine bodyPost_ret (results_k2 rfl _ _ _) rfl ?_)
    exact ⟨_, rfl, OwnRR.nil _ _ _ _ _, hB1⟩
  | true =>
  have h0 : cfgE cf = 0 := by unfold cfgE; rw [hcf]; rfl
  rw [h0] at CF
  clear h0
  have MY := Lib.hid (fun W hW => refmay09_any cf a n c xs W hW hcf)
  cases hm : mayAllT cf xs with
  | false =>
    rw [hm] at MY
    rw [boxR_may hcf hm]
    clear hcf hm
    obtain ⟨cl, climb, height, rise, run, cw, cd⟩ := cf
    dsimp only [cfgO, cfgV] at CF MY hC hB hW1 ⊢
    have c0 := hcell (k := 0) (v := .int .i64 cl) hC rfl
    have c1 := hcell (k := 1) (v := .int .i64 climb) hC rfl
    have c2 := hcell (k := 2) (v := .int .i64 height) hC rfl
    have c3 := hcell (k := 3) (v := .int .i64 rise) hC rfl
    have c4 := hcell (k := 4) (v := .int .i64 run) hC rfl
    have c5 := hcell (k := 5) (v := .int .i64 cw) hC rfl
    have c6 := hcell (k := 6) (v := .int .i64 cd) hC rfl
    go_enter Tryz.func17, Tryz.ntmps17
    go_upto_region 1 with fail
    rw [← hW1, ← HTT.out]
    clear hW1
    go_wp2_with fail
    refine (CF.out _).mono ?_
    rintro e w1 ⟨rfl, hb1⟩
    have hB1 := hB.trans (hb1.mono hB.size)
    have hC1 := hkeep hb1 hC
    clear c0 c1 c2 c3 c4 c5 c6 hC hb1
    have c0 := hcell (k := 0) (v := .int .i64 cl) hC1 rfl
    have c1 := hcell (k := 1) (v := .int .i64 climb) hC1 rfl
    have c2 := hcell (k := 2) (v := .int .i64 height) hC1 rfl
    have c3 := hcell (k := 3) (v := .int .i64 rise) hC1 rfl
    have c4 := hcell (k := 4) (v := .int .i64 run) hC1 rfl
    have c5 := hcell (k := 5) (v := .int .i64 cw) hC1 rfl
    have c6 := hcell (k := 6) (v := .int .i64 cd) hC1 rfl
    go_wp2_with fail
    refine (MY.out _ (Hx.out.below hB1 (Nat.le_refl _))).mono ?_
    rintro e w2 ⟨rfl, hb2⟩
    have hB2 := hB1.trans (hb2.mono hB1.size)
    clear c0 c1 c2 c3 c4 c5 c6 hC1 hb2
    go_wp2
    ((try simp only [Exit.inBlock, Exit.then]); refine bodyPost_ret (results_k2 rfl _ _ _) rfl ?_)
    exact ⟨_, rfl, OwnRR.nil _ _ _ _ _, hB2⟩
  | true =>
    rw [hm] at MY
    rw [boxR_in hcf hm]
    cases hin : inBox x z bw bd with
    | false =>
      rw [hin] at BM
      clear hcf hm hin
      obtain ⟨cl, climb, height, rise, run, cw, cd⟩ := cf
      dsimp only [cfgO, cfgV] at CF MY hC hB hW1 ⊢
      have c0 := hcell (k := 0) (v := .int .i64 cl) hC rfl
      have c1 := hcell (k := 1) (v := .int .i64 climb) hC rfl
      have c2 := hcell (k := 2) (v := .int .i64 height) hC rfl
      have c3 := hcell (k := 3) (v := .int .i64 rise) hC rfl
      have c4 := hcell (k := 4) (v := .int .i64 run) hC rfl
      have c5 := hcell (k := 5) (v := .int .i64 cw) hC rfl
      have c6 := hcell (k := 6) (v := .int .i64 cd) hC rfl
      go_enter Tryz.func17, Tryz.ntmps17
      go_upto_region 1 with fail
      rw [← hW1, ← HTT.out]
      clear hW1
      go_wp2_with fail
      refine (CF.out _).mono ?_
      rintro e w1 ⟨rfl, hb1⟩
      have hB1 := hB.trans (hb1.mono hB.size)
      have hC1 := hkeep hb1 hC
      clear c0 c1 c2 c3 c4 c5 c6 hC hb1
      have c0 := hcell (k := 0) (v := .int .i64 cl) hC1 rfl
      have c1 := hcell (k := 1) (v := .int .i64 climb) hC1 rfl
      have c2 := hcell (k := 2) (v := .int .i64 height) hC1 rfl
      have c3 := hcell (k := 3) (v := .int .i64 rise) hC1 rfl
      have c4 := hcell (k := 4) (v := .int .i64 run) hC1 rfl
      have c5 := hcell (k := 5) (v := .int .i64 cw) hC1 rfl
      have c6 := hcell (k := 6) (v := .int .i64 cd) hC1 rfl
      go_wp2_with fail
      refine (MY.out _ (Hx.out.below hB1 (Nat.le_refl _))).mono ?_
      rintro e w2 ⟨rfl, hb2⟩
      have hB2 := hB1.trans (hb2.mono hB1.size)
      clear c0 c1 c2 c3 c4 c5 c6 hC1 hb2
      go_wp2_with fail
      refine (BM.out _).mono ?_
      rintro e w3 ⟨rfl, hw3⟩
      subst hw3
      go_wp2
      ((try simp only [Exit.inBlock, Exit.then]); refine bodyPost_ret (results_k2 rfl _ _ _) rfl ?_)
      exact ⟨_, rfl, OwnRR.nil _ _ _ _ _, hB2⟩
    | true =>
      rw [hin] at BM
      obtain ⟨i1, i2, i3, i4, i5, i6, i7, i8⟩ := inBox_iff.1 hin
      obtain ⟨nw, rfl⟩ := Int.eq_ofNat_of_zero_le i5
      obtain ⟨nd, rfl⟩ := Int.eq_ofNat_of_zero_le i6
      rw [if_pos rfl, Int.toNat_natCast, Int.toNat_natCast]
      have hmul : nw * nd ≤ 4096 := Nat.mul_le_mul (show nw ≤ 64 by omega) (show nd ≤ 64 by omega)
      have F := Lib.hid (fun (X Z : Int) (W : World) (hW : SlTr W a n c xs) => refcolumn09_any cf a n c xs X Z W hW)
      have CA : ∀ X Z, colAll cf xs X Z = colIn cf xs X Z := fun X Z => colAll_in hcf hm
      simp only [CA] at F
      have CO := Lib.hid (fun (k i : Nat) (hi : i < nw) => colOf_at (cf := cf) (xs := xs) (x := x) (z := z) (k := k) hi)
      have HE := Lib.hid (fun (k : Nat) (hk : k < nw * nd) (h : ∀ j, j < k → (colOf cf xs x z nw j).2 = 0) (he : (colOf cf xs x z nw k).2 ≠ 0) => boxL_err hk h he)
      have HO := Lib.hid (fun (h : ∀ j, j < nw * nd → (colOf cf xs x z nw j).2 = 0) => boxL_ok h)
      obtain ⟨R, hR⟩ : ∃ R, R = boxL cf xs x z nw nd := ⟨_, rfl⟩
      rw [← hR] at HE HO ⊢
      clear hR
      obtain ⟨K, hK⟩ : ∃ K : Nat → List Spn × Int, K = colOf cf xs x z nw := ⟨_, rfl⟩
      have CT0 : colsTo cf xs x z nw 0 = [] := rfl
      have CTS : ∀ k, colsTo cf xs x z nw (k + 1) = colsTo cf xs x z nw k ++ [(K k).1] := fun k => by rw [hK]; exact colsTo_succ cf xs x z nw k
      have CTL := colsTo_len cf xs x z nw
      rw [← hK] at CO HE HO
      obtain ⟨CT, hCT⟩ : ∃ CT : Nat → List (List Spn), CT = colsTo cf xs x z nw := ⟨_, rfl⟩
      rw [← hCT] at CT0 CTS CTL HO
      have HCT0 := Lib.hid CT0
      have HCTS := Lib.hid CTS
      have HCTL := Lib.hid CTL
      obtain ⟨CI, hCI⟩ : ∃ CI : Int → Int → List Spn × Int, CI = colIn cf xs := ⟨_, rfl⟩
      have hCIx : ∀ X Z, colIn cf xs X Z = CI X Z := fun X Z => by rw [hCI]
      simp only [hCIx] at F CO
      clear hK hCT CT0 CTS CTL hcf hm hin CA hCI hCIx i5 i6
      obtain ⟨cl, climb, height, rise, run, cw, cd⟩ := cf
      dsimp only [cfgO, cfgV] at CF MY F hC hB hW1 ⊢
      have c0 := hcell (k := 0) (v := .int .i64 cl) hC rfl
      have c1 := hcell (k := 1) (v := .int .i64 climb) hC rfl
      have c2 := hcell (k := 2) (v := .int .i64 height) hC rfl
      have c3 := hcell (k := 3) (v := .int .i64 rise) hC rfl
      have c4 := hcell (k := 4) (v := .int .i64 run) hC rfl
      have c5 := hcell (k := 5) (v := .int .i64 cw) hC rfl
      have c6 := hcell (k := 6) (v := .int .i64 cd) hC rfl
      go_enter Tryz.func17, Tryz.ntmps17
      go_upto_region 1 with fail
      rw [← hW1, ← HTT.out]
      clear hW1
      go_wp2_with fail
      refine (CF.out _).mono ?_
      rintro e w1 ⟨rfl, hb1⟩
      have hB1 := hB.trans (hb1.mono hB.size)
      have hC1 := hkeep hb1 hC
      clear c0 c1 c2 c3 c4 c5 c6 hC hb1
      have c0 := hcell (k := 0) (v := .int .i64 cl) hC1 rfl
      have c1 := hcell (k := 1) (v := .int .i64 climb) hC1 rfl
      have c2 := hcell (k := 2) (v := .int .i64 height) hC1 rfl
      have c3 := hcell (k := 3) (v := .int .i64 rise) hC1 rfl
      have c4 := hcell (k := 4) (v := .int .i64 run) hC1 rfl
      have c5 := hcell (k := 5) (v := .int .i64 cw) hC1 rfl
      have c6 := hcell (k := 6) (v := .int .i64 cd) hC1 rfl
      go_wp2_with fail
      refine (MY.out _ (Hx.out.below hB1 (Nat.le_refl _))).mono ?_
      rintro e w2 ⟨rfl, hb2⟩
      have hB2 := hB1.trans (hb2.mono hB1.size)
      have hC2 := hkeep hb2 hC1
      clear c0 c1 c2 c3 c4 c5 c6 hC1 hb2 CF MY hB hB1
      go_wp2_with fail
      refine (BM.out _).mono ?_
      rintro e w3 ⟨rfl, hw3⟩
      subst hw3
      clear BM
      go_wp2
      go_loopw [14, 15] (fun s14 s15 wr => ∃ k : Nat, s15 = .int .i64 k ∧ k ≤ nd ∧ OwnRR spnC 3 24 w3.heap.size wr s14 (CT (k * nw)) ∧ Hid (∀ j, j < k * nw → (K j).2 = 0) ∧ Below w3.heap.size w3 wr) (fun _ s15 _ => nd - (intOf s15).toNat)
      case atStart => exact ⟨0, rfl, Nat.zero_le _, by rw [Nat.zero_mul, HCT0.out]; exact OwnRR.nil _ _ _ _ _, fun j hj => by simp at hj, Below.refl _ _⟩
      case round =>
        obtain ⟨k, rfl, hk, hown, Hz0, hbr⟩ := hrel
        by_cases hlt : k < nd
        · have hltI : (k : Int) < (nd : Int) := by omega
          have hkb : k * nw + nw ≤ nw * nd := by
            have h1 : (k + 1) * nw ≤ nd * nw := Nat.mul_le_mul_right _ hlt
            rw [Nat.mul_comm nw nd]
            rw [Nat.succ_mul] at h1
            exact h1
          go_wp2
          go_loopw [14, 16] (fun s14 s16 wq => ∃ i : Nat, s16 = .int .i64 i ∧ i ≤ nw ∧ OwnRR spnC 3 24 w3.heap.size wq s14 (CT (k * nw + i)) ∧ Hid (∀ j, j < k * nw + i → (K j).2 = 0) ∧ Below w3.heap.size w3 wq) (fun _ s16 _ => nw - (intOf s16).toNat)
          case atStart => exact ⟨0, rfl, Nat.zero_le _, hown, Hz0.out, hbr⟩
          case round =>
            clear hown Hz0 hbr
            obtain ⟨i, rfl, hi, hown, Hz0, hbr⟩ := hrel
            have hBr := hB2.trans (hbr.mono hB2.size)
            have hCr := hkeep hbr hC2
            have c0 := hcell (k := 0) (v := .int .i64 cl) hCr rfl
            have c1 := hcell (k := 1) (v := .int .i64 climb) hCr rfl
            have c2 := hcell (k := 2) (v := .int .i64 height) hCr rfl
            have c3 := hcell (k := 3) (v := .int .i64 rise) hCr rfl
            have c4 := hcell (k := 4) (v := .int .i64 run) hCr rfl
            have c5 := hcell (k := 5) (v := .int .i64 cw) hCr rfl
            have c6 := hcell (k := 6) (v := .int .i64 cd) hCr rfl
            by_cases hlti : i < nw
            · have hiI : (i : Int) < (nw : Int) := by omega
              have F1 := Lib.hid (F.out (x + (i : Int)) (z + (k : Int)) wr (Hx.out.below hBr (Nat.le_refl _)))
              rw [← CO.out k i hlti] at F1
              have HE1 := Lib.hid (HE.out (k * nw + i) (by omega) Hz0.out)
              obtain ⟨q, hq⟩ : ∃ q, q = K (k * nw + i) := ⟨_, rfl⟩
              have hz2 : q.2 = 0 → ∀ j, j < k * nw + (i + 1) → (K j).2 = 0 := by
                intro h0 j hj
                by_cases h : j < k * nw + i
                · exact Hz0.out j h
                · have e : j = k * nw + i := by omega
                  rw [e, ← hq]; exact h0
              have HZ2 := Lib.hid hz2
              have HT1 : Hid (CT (k * nw + (i + 1)) = CT (k * nw + i) ++ [q.1]) := by show _ = _; rw [hq]; exact HCTS.out _
              rw [← hq] at F1 HE1
              have hlen := HCTL.out (k * nw + i)
              clear hq hz2
              obtain ⟨qs, qe⟩ := q
              obtain ⟨hs, ho, hr⟩ := hown
              have hlen2 : hs.length = k * nw + i := hr.1.trans hlen
              have holt := ho.lt
              dsimp only at HT1 HE1 HZ2
              have hx1 : IntKind.i64.wrap (x + (i : Int)) = x + (i : Int) := by rw [IntKind.wrap_i64]; omega
              have hz1 : IntKind.i64.wrap (z + (k : Int)) = z + (k : Int) := by rw [IntKind.wrap_i64]; omega
              go_wp2_with fail
              refine F1.out.mono ?_
              rintro e w5 ⟨v5, rfl, hv5, hb5⟩
              dsimp only
              obtain ⟨a5, k5, rfl, r5⟩ := OwnR.reads spnC_len hv5
              have had := own_addr hv5
              dsimp only at r5
              have ho5 := ho.below hb5 (Nat.le_refl _)
              have hr5 := hr.below hb5 (Nat.le_refl _)
              have hB5 := hbr.trans (hb5.mono hbr.size)
              have hs5 := hB5.size
              have hsz := hb5.size
              clear ho hr hv5 c0 c1 c2 c3 c4 c5 c6 F1 hx1 hz1 hCr hBr
              by_cases g0 : qe = 0
              · subst g0
                go_wp2_with (at_builtin; refine wpList_appR (f := hdC) (sz := 1) (e := 24) (B := w3.heap.size) (n := hs.length) (xs := hs) _ hdC_len hdC_one rfl _ _ 52 rfl (.slice none 0 0) 24 Tryz.underlying52 info_spns rfl (by decide) (⟨a5, qs.length, k5⟩ : Hd) 24 ho5 rfl rfl (by omega) (by omega) hs5 ?_; intro vq wq hownq hAppd)
                have hBq := (Below.refl w3.heap.size w5).grown hAppd.grown hs5 (fun j hj => ho5.le j hj)
                go_roundw
                case rel => exact ⟨i + 1, by go_num, by omega, by rw [HT1.out]; exact OwnRR.app (h := ⟨a5, qs.length, k5⟩) hr5 r5 (fun ad hh => ⟨by have := (had ad hh).1; have := hbr.size; omega, (had ad hh).2, fun e => by have := (holt _ e).2; have := (had ad hh).1; omega⟩) (by simpa using hownq) hAppd, HZ2.out (by first | rfl | trivial), hB5.trans hBq⟩
                case measure => simp [intOf]; omega
              · have g0' : (qe != 0) = true := by simpa using g0
                have hR := HE1.out g0
                have hB9 := hB2.trans (hB5.mono hB2.size)
                subst hR
                go_wp2
                (try rw [Exit.noGoto_ret])
                refine bodyPost_ret (results_k2 rfl _ _ _) rfl ?_
                exact ⟨_, rfl, OwnRR.nil _ _ _ _ _, hB9⟩
            · have hiI : ¬ (i : Int) < (nw : Int) := by omega
              obtain rfl : i = nw := by omega
              clear c0 c1 c2 c3 c4 c5 c6 hCr hBr
              go_wp2
              go_roundw
              case rel => exact ⟨k + 1, by go_num, by omega, by rw [Nat.succ_mul]; exact hown, by rw [Nat.succ_mul]; exact Hz0.out, hbr⟩
              case measure => simp [intOf]; omega
        · have hltI : ¬ (k : Int) < (nd : Int) := by omega
          obtain rfl : k = nd := by omega
          have hR : R = (CT (nw * k), 0) := HO.out (by rw [Nat.mul_comm]; exact Hz0.out)
          rw [Nat.mul_comm] at hown
          have hB9 := hB2.trans (hbr.mono hB2.size)
          have hown2 := hown.mono hB2.size
          subst hR
          go_wp2
          refine bodyPost_ret (results_k2 rfl _ _ _) rfl ?_
          exact ⟨_, rfl, hown2, hB9⟩
end Go.Proofs.YtjiklfffcnfdjaaGreat
