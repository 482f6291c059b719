/- Walks: the reference's heights and columns; the law. -/
import Derived.Test.YtndjljefppbmcaaCuC
import Derived.Test.YtndjljefppbmcaaClpA
namespace Go.Proofs.Ytndjljefppbmcaa
open Go.RowKit
attribute [local go_sem] Instr.index

theorem high_bounds {c : Cr} (h : CrHigh c) : (-200000000 ≤ floC c ∧ floC c ≤ 200000000) ∧ (-200000000 ≤ ceiC c ∧ ceiC c ≤ 200000000) := by
  obtain ⟨h1, h2, h3, h4⟩ := h
  have a := ediv_bound (a := c.y) (K := 200000000) h1 (by omega) (by omega)
  have b := ediv_bound (a := -c.y) (K := 200000000) h1 (by omega) (by omega)
  refine ⟨a, ?_⟩
  unfold ceiC ceilI
  omega
set_option maxRecDepth 100000 in
set_option maxHeartbeats 8000000 in
theorem refover_any (i : Int) (a b c : V3) (x z : Int) (w : World) :
    Calls Try.prog 35 #[tiA i a b c, .int .i64 x, .int .i64 z] w fun e w' => e = .returned (.tuple #[.int .i64 (overE a b c x z).1, .int .i64 (overE a b c x z).2.1, .bool (overE a b c x z).2.2.1, .int .i64 (overE a b c x z).2.2.2]) ∧ Below w.heap.size w w' := by
  have CO := Lib.hid (fun W => refcorners_any i a b c x z W)
  have HE := Lib.hid (fun l e (h : CornRes a b c x z l e) => And.intro (corn_overE h) (corn_high h (fun t ht => open_ok ht)))
  generalize overE a b c x z = r at HE ⊢
  obtain ⟨ax, ay, az⟩ := a
  obtain ⟨bx, by_, bz⟩ := b
  obtain ⟨cx, cy, cz⟩ := c
  have hB : Below w.heap.size w (w.alloc (triO i ⟨ax, ay, az⟩ ⟨bx, by_, bz⟩ ⟨cx, cy, cz⟩)) := (Below.refl _ _).alloc (Nat.le_refl _) _
  go_enter Try.func35, Try.ntmps35
  go_wp2_with fail
  refine (CO.out _).mono ?_
  rintro e w1 ⟨ad, cp, l, err, rfl, hres, hsl, hb1⟩
  obtain ⟨he, hh⟩ := HE.out l err hres
  have hB1 := hB.trans (hb1.mono hB.size)
  clear CO HE hres hB hb1
  by_cases h0 : err = 0
  · subst h0
    rw [if_neg (by simp)] at he
    cases l with
    | nil =>
      have e1 : r = (0, 0, false, 0) := he
      subst e1
      clear he hh
      have hz : ([] : List Cr).length = 0 := rfl
      rw [hz]
      clear hsl
      go_wp2
      ((try simp only [Exit.inBlock, Exit.then]); refine bodyPost_ret (results_tmp4 rfl _ _ _) rfl ?_)
      exact ⟨rfl, hB1⟩
    | cons c0 rest =>
      have hlen : (c0 :: rest).length = rest.length + 1 := rfl
      have hc0 := high_bounds (hh c0 (by simp))
      have he2 : r = ((((c0 :: rest).map floC).foldl min 1073741824), (((c0 :: rest).map ceiC).foldl max (-1073741824)), true, 0) := by
        rw [he, overL_cons]
        simp only [List.map_cons, List.foldl_cons]
        rw [show min 1073741824 (floC c0) = floC c0 by omega, show max (-1073741824) (ceiC c0) = ceiC c0 by omega]
      obtain ⟨L, hL⟩ : ∃ L, L = c0 :: rest := ⟨_, rfl⟩
      rw [← hL] at hsl hh he2 hlen ⊢
      have hpos : ¬ L.length = 0 := by omega
      obtain ⟨n, hn⟩ : ∃ n, n = L.length := ⟨_, rfl⟩
      rw [← hn] at hsl hpos ⊢
      have Hr := Lib.hid he2
      have Hn := Lib.hid hn
      have Hh := Lib.hid hh
      have Hsl := Lib.hid hsl
      have hle := hsl.le
      have hmax := hsl.max
      have hposI : ¬ (n : Int) = 0 := by omega
      have hposB : ((n : Int) == 0) = false := by simpa using hposI
      clear he he2 hc0 hh hsl hL hlen hn
      go_wp2_with fail
      go_loopw [12, 13, 14] (fun s12 s13 s14 wr => ∃ k : Nat, s14 = .int .i64 k ∧ k ≤ n ∧ s12 = .int .i64 (((L.take k).map floC).foldl min 1073741824) ∧ s13 = .int .i64 (((L.take k).map ceiC).foldl max (-1073741824)) ∧ Below w1.heap.size w1 wr) (fun _ _ s14 _ => n - (intOf s14).toNat)
      case atStart => exact ⟨0, rfl, Nat.zero_le _, rfl, rfl, Below.refl _ _⟩
      case round =>
        obtain ⟨k, rfl, hk, rfl, rfl, hb⟩ := hrel
        by_cases hlt : k < n
        · obtain ⟨y, hy⟩ : ∃ y, L[k]? = some y := ⟨_, List.getElem?_eq_getElem (by rw [← Hn.out]; exact hlt)⟩
          have hltI : (k : Int) < (n : Int) := by omega
          obtain ⟨bk, off, rfl, _, hc⟩ := (Hsl.out.below hb (Nat.le_refl _)).at0 (by omega)
          have q2 : wr.cell? ⟨bk, off + k * 4 + 2, none⟩ = some (.int .i64 y.y) := hc k y hy 2 _ rfl
          have q3 : wr.cell? ⟨bk, off + k * 4 + 3, none⟩ = some (.int .i64 y.d) := hc k y hy 3 _ rfl
          have hyh := Hh.out y (List.mem_of_getElem? hy)
          have F1 : Hid (∀ W, Calls Try.prog 75 #[.int .i64 y.y, .int .i64 y.d] W fun e w' => e = .returned (.tuple #[.int .i64 (floC y), .int .i64 0]) ∧ Below W.heap.size W w') := fun W => (reffloor_any y.y y.d W (by have := hyh.2.2; omega) (by have := hyh.1; have := hyh.2.1; omega)).mono (by rintro e w' ⟨rfl, rfl⟩; exact ⟨rfl, Below.refl _ _⟩)
          have F2 : Hid (∀ W, Calls Try.prog 76 #[.int .i64 y.y, .int .i64 y.d] W fun e w' => e = .returned (.tuple #[.int .i64 (ceiC y), .int .i64 0]) ∧ Below W.heap.size W w') := fun W => (refceil_any y.y y.d W (by have := hyh.2.2; omega) (by have := hyh.1; have := hyh.2.1; omega)).mono (by rintro e w' ⟨rfl, rfl⟩; exact ⟨rfl, Below.refl _ _⟩)
          have S1 := Lib.hid (fold_step (f := floC) (g := min) hy 1073741824)
          have S2 := Lib.hid (fold_step (f := ceiC) (g := max) hy (-1073741824))
          generalize ((L.take k).map floC).foldl min 1073741824 = LO at S1 ⊢
          generalize ((L.take k).map ceiC).foldl max (-1073741824) = UP at S2 ⊢
          generalize floC y = fy at S1 F1
          generalize ceiC y = cy' at S2 F2
          obtain ⟨yx, yz, yy, yd⟩ := y
          simp only at q2 q3 F1 F2
          clear hc hy hyh
          go_upto_region 8 with fail
          have e_q2 := fun d os => cell_regrown q2 d os
          have e_q3 := fun d os => cell_regrown q3 d os
          refine wp_region_quiet_below (by kernel_rfl) (by kernel_rfl) ?_
          repeat (go_big_quiet_step (exact Calls.regrown_of (F1.out _)))
          refine wpQuiet_nil ?_
          rintro w2 ⟨⟨dq, osq⟩, hw2⟩
          have hb2 : Below wr.heap.size wr w2 := by rw [hw2]; exact below_regrown wr dq osq
          have q2' := hbc hb2 q2
          have q3' := hbc hb2 q3
          have hb3 := hb.trans (hb2.mono hb.size)
          clear hw2 e_q2 e_q3 q2 q3 hb2 hb F1
          go_upto_region 9 with fail
          have e_q2 := fun d os => cell_regrown q2' d os
          have e_q3 := fun d os => cell_regrown q3' d os
          clear q2' q3'
          refine wp_region_quiet_below (by kernel_rfl) (by kernel_rfl) ?_
          repeat (go_big_quiet_step (exact Calls.regrown_of (F2.out _)))
          refine wpQuiet_nil ?_
          rintro w4 ⟨⟨dq2, osq2⟩, hw4⟩
          have hb4 : Below w1.heap.size w1 w4 := by rw [hw4]; exact hb3.trans ((below_regrown w2 dq2 osq2).mono hb3.size)
          clear hw4 e_q2 e_q3 hb3 F2
          go_wp2
          go_roundw
          case rel => exact ⟨k + 1, by go_num, by omega, by rw [S1.out], by rw [S2.out], hb4⟩
          case measure => simp [intOf]; omega
        · obtain rfl : k = n := by omega
          have ht : L.take k = L := List.take_of_length_le (by rw [← Hn.out]; exact Nat.le_refl _)
          rw [ht]
          have e := Hr.out
          subst e
          have hB3 := hB1.trans (hb.mono hB1.size)
          go_wp2
          ((try simp only [Exit.inBlock, Exit.then]); refine bodyPost_ret (results_tmp4 rfl _ _ _) rfl ?_)
          exact ⟨rfl, hB3⟩
  · rw [if_pos h0] at he
    subst he
    have h0' : (err != 0) = true := by simpa using h0
    clear hh hsl
    go_wp2
    ((try simp only [Exit.inBlock, Exit.then]); refine bodyPost_ret (results_tmp4 rfl _ _ _) rfl ?_)
    exact ⟨rfl, hB1⟩

set_option maxRecDepth 100000 in
set_option maxHeartbeats 4000000 in
theorem refsame_any (a b : Option Addr) (n c d : Nat) (xs : List Cr) (w : World) (hx : SlR crC 4 w a n c xs) (hy : SlR crC 4 w b n d xs) :
    Calls Try.prog 38 #[.slice a n c, .slice b n d] w fun e w' => e = .returned (.bool true) ∧ Below w.heap.size w w' := by
  have Hl := Lib.hid hx.len
  have hmax := hx.max
  have hle := hx.le
  have Hx := Lib.hid hx; clear hx
  have Hy := Lib.hid hy; clear hy
  go_enter Try.func38, Try.ntmps38
  go_wp2
  go_loopw [5] (fun i wr => ∃ k : Nat, i = .int .i64 k ∧ k ≤ n ∧ Below w.heap.size w wr) (fun i _ => n - (intOf i).toNat)
  case atStart => exact ⟨0, rfl, Nat.zero_le _, Below.refl _ _⟩
  case round =>
    obtain ⟨k, rfl, hk, hb⟩ := hrel
    by_cases hlt : k < n
    · have hltI : (k : Int) < (n : Int) := by omega
      obtain ⟨b1, off1, rfl, _, hc1⟩ := (Hx.out.below hb (Nat.le_refl _)).at0 (by omega)
      obtain ⟨b2, off2, rfl, _, hc2⟩ := (Hy.out.below hb (Nat.le_refl _)).at0 (by omega)
      obtain ⟨x, hxk⟩ : ∃ x, xs[k]? = some x := ⟨_, List.getElem?_eq_getElem (by rw [Hl.out]; exact hlt)⟩
      have c0 : wr.cell? ⟨b1, off1 + k * 4, none⟩ = some (.int .i64 x.x) := hc1 k x hxk 0 _ rfl
      have c1 : wr.cell? ⟨b1, off1 + k * 4 + 1, none⟩ = some (.int .i64 x.z) := hc1 k x hxk 1 _ rfl
      have c2 : wr.cell? ⟨b1, off1 + k * 4 + 2, none⟩ = some (.int .i64 x.y) := hc1 k x hxk 2 _ rfl
      have c3 : wr.cell? ⟨b1, off1 + k * 4 + 3, none⟩ = some (.int .i64 x.d) := hc1 k x hxk 3 _ rfl
      have d0 : wr.cell? ⟨b2, off2 + k * 4, none⟩ = some (.int .i64 x.x) := hc2 k x hxk 0 _ rfl
      have d1 : wr.cell? ⟨b2, off2 + k * 4 + 1, none⟩ = some (.int .i64 x.z) := hc2 k x hxk 1 _ rfl
      have d2 : wr.cell? ⟨b2, off2 + k * 4 + 2, none⟩ = some (.int .i64 x.y) := hc2 k x hxk 2 _ rfl
      have d3 : wr.cell? ⟨b2, off2 + k * 4 + 3, none⟩ = some (.int .i64 x.d) := hc2 k x hxk 3 _ rfl
      obtain ⟨x0, x1, x2, x3⟩ := x
      simp only at c0 c1 c2 c3 d0 d1 d2 d3
      clear hc1 hc2 hxk
      have hb2 := below_drew' hb
      go_wp2_with fail
      go_region
      all_goals
        go_wp2
        go_roundw
      case rel => exact ⟨k + 1, by go_num, by omega, hb2⟩
      case measure => simp [intOf]; omega
    · obtain rfl : k = n := by omega
      go_wp2
      go_ret
      exact ⟨rfl, hb⟩

set_option maxRecDepth 100000 in
set_option maxHeartbeats 8000000 in
theorem refcolumns_any (i : Int) (a b c : V3) (w : World) :
    Calls Try.prog 40 #[tiA i a b c] w fun e w' => e = .returned (.tuple #[.int .i64 (colsE a b c).1, .int .i64 (colsE a b c).2.1, .int .i64 (colsE a b c).2.2.1, .int .i64 (colsE a b c).2.2.2.1, .int .i64 (colsE a b c).2.2.2.2]) ∧ Below w.heap.size w w' := by
  have MT := Lib.hid (fun W => refmay_any i a b c W)
  have hB : Below w.heap.size w (w.alloc (triO i a b c)) := (Below.refl _ _).alloc (Nat.le_refl _) _
  have hI := World.alloc_heap_new w (triO i a b c)
  cases ho : (openT a b c).2 with
  | false =>
    have hc : colsE a b c = (0, 0, 0, 0, 40) := by unfold colsE; rw [if_pos ho]
    rw [hc]
    rw [ho] at MT
    obtain ⟨ax, ay, az⟩ := a
    obtain ⟨bx, by_, bz⟩ := b
    obtain ⟨cx, cy, cz⟩ := c
    clear hc ho hI
    go_enter Try.func40, Try.ntmps40
    go_wp2_with fail
    refine (MT.out _).mono ?_
    rintro e w1 ⟨rfl, hb1⟩
    have hB2 := hB.trans (hb1.mono hB.size)
    clear hb1 hB MT
    go_wp2
    ((try simp only [Exit.inBlock, Exit.then]); refine bodyPost_ret (results_tmp5 rfl _ _ _) rfl ?_)
    exact ⟨rfl, hB2⟩
  | true =>
    have hc : colsE a b c = (min a.x (min b.x c.x) - 1, min a.z (min b.z c.z) - 1, max a.x (max b.x c.x), max a.z (max b.z c.z), 0) := by
      unfold colsE
      rw [if_neg (by rw [ho]; decide), show min (min a.x b.x) c.x = min a.x (min b.x c.x) by omega, show min (min a.z b.z) c.z = min a.z (min b.z c.z) by omega, show max (max a.x b.x) c.x = max a.x (max b.x c.x) by omega, show max (max a.z b.z) c.z = max a.z (max b.z c.z) by omega]
    obtain ⟨va, vb, vc⟩ := open_vok (open_pair ho)
    rw [vOk_iff] at va vb vc
    have hw1 : IntKind.i64.wrap (min a.x (min b.x c.x) - 1) = min a.x (min b.x c.x) - 1 := by rw [IntKind.wrap_i64]; omega
    have hw2 : IntKind.i64.wrap (min a.z (min b.z c.z) - 1) = min a.z (min b.z c.z) - 1 := by rw [IntKind.wrap_i64]; omega
    rw [hc]
    rw [ho] at MT
    obtain ⟨ax, ay, az⟩ := a
    obtain ⟨bx, by_, bz⟩ := b
    obtain ⟨cx, cy, cz⟩ := c
    simp only at hw1 hw2
    clear hc ho va vb vc
    go_enter Try.func40, Try.ntmps40
    go_wp2_with fail
    refine (MT.out _).mono ?_
    rintro e w1 ⟨rfl, hb1⟩
    have hB2 := hB.trans (hb1.mono hB.size)
    have hI2 := hkeep hb1 hI
    have k1 := hcell (k := 1) (v := .int .i64 ax) hI2 rfl
    have k3 := hcell (k := 3) (v := .int .i64 az) hI2 rfl
    clear hb1 hB MT hI
    go_upto_region 3 with fail
    go_cut [7, 8, 9, 10] from 15 to 30 (fun s7 s8 s9 s10 wx => s7 = .int .i64 ax ∧ s8 = .int .i64 az ∧ s9 = .int .i64 ax ∧ s10 = .int .i64 az ∧ Below w1.heap.size w1 wx)
    case first =>
      clear hw1 hw2 hI2 hB2
      go_wp2_with fail
      go_region
      all_goals
        go_wp2
        go_meet
        exact ⟨rfl, rfl, rfl, rfl, below_drew' (Below.refl _ _)⟩
    case rest =>
    obtain ⟨rfl, rfl, rfl, rfl, hbw⟩ := hcut
    have hB3 := hB2.trans (hbw.mono hB2.size)
    have hI3 := hkeep hbw hI2
    have k4 := hcell (k := 4) (v := .int .i64 bx) hI3 rfl
    have k6 := hcell (k := 6) (v := .int .i64 bz) hI3 rfl
    have k7 := hcell (k := 7) (v := .int .i64 cx) hI3 rfl
    have k9 := hcell (k := 9) (v := .int .i64 cz) hI3 rfl
    clear k1 k3 hI2 hB2 hbw hI3
    go_wp2_with fail
    refine wp_loop_rounds 3 ?_
    rw [rounds_succ]
    go_wp2
    rw [rounds_succ]
    go_wp2
    rw [rounds_succ]
    go_upto_region 11 with fail
    try simp only [min_ite, max_ite]
    have hw1' : wrap64 (min ax (min bx cx) - 1) = min ax (min bx cx) - 1 := by have h := hw1; rw [IntKind.wrap_i64] at h; unfold wrap64; exact h
    have hw2' : wrap64 (min az (min bz cz) - 1) = min az (min bz cz) - 1 := by have h := hw2; rw [IntKind.wrap_i64] at h; unfold wrap64; exact h
    go_wp2
    ((try simp only [Exit.inBlock, Exit.then]); refine bodyPost_ret (results_tmp5 rfl _ _ _) rfl ?_)
    exact ⟨rfl, hB3⟩
end Go.Proofs.Ytndjljefppbmcaa

namespace Go.Proofs.Ytndjljefppbmcaa
open Go.RowKit

theorem corn_res_same {a b c : V3} {x z : Int} {l m : List Cr} {e f : Int} (h1 : CornRes a b c x z l e) (h2 : CornRes a b c x z m f) : l = m ∧ e = f := by
  rcases h1 with ⟨a1, a2, a3⟩ | ⟨a1, a2, a3, a4⟩ | ⟨a1, a2, a3, a4⟩ <;> rcases h2 with ⟨b1, b2, b3⟩ | ⟨b1, b2, b3, b4⟩ | ⟨b1, b2, b3, b4⟩
  · exact ⟨a2.trans b2.symm, a3.trans b3.symm⟩
  · rw [a1] at b1; cases b1
  · rw [a1] at b1; cases b1
  · rw [b1] at a1; cases a1
  · exact ⟨a3.trans b3.symm, a4.trans b4.symm⟩
  · exact absurd b2 a2
  · rw [b1] at a1; cases a1
  · exact absurd a2 b2
  · obtain ⟨f1, f2⟩ := open_flat (open_pair a1)
    exact ⟨corn_same f1 f2 a3 b3, a4.trans b4.symm⟩

set_option maxRecDepth 100000 in
set_option maxHeartbeats 8000000 in
theorem cliptells_any (i : Int) (a b c : V3) (x z : Int) (w : World) :
    Calls Try.prog 11 #[tiA i a b c, .int .i64 x, .int .i64 z] w fun e w' => e = .returned (.bool true) ∧ Below w.heap.size w w' := by
  have C1 := Lib.hid (fun W => overE_any i a b c x z W)
  have C2 := Lib.hid (fun W => refover_any i a b c x z W)
  have C3 := Lib.hid (fun W => corners_any i a b c x z W)
  have C4 := Lib.hid (fun W => refcorners_any i a b c x z W)
  have C6 := Lib.hid (fun W => columns_any i a b c W)
  have C7 := Lib.hid (fun W => refcolumns_any i a b c W)
  have WK := Lib.hid (fun W => wakes07_any W)
  generalize overE a b c x z = r at C1 C2
  generalize colsE a b c = q at C6 C7
  obtain ⟨lo, hi, ok, er⟩ := r
  obtain ⟨q0, q1, q2, q3, q4⟩ := q
  simp only at C1 C2 C6 C7
  have hB0 : Below w.heap.size w (w.alloc (triO i a b c)) := (Below.refl _ _).alloc (Nat.le_refl _) _
  have hI0 := World.alloc_heap_new w (triO i a b c)
  obtain ⟨ax, ay, az⟩ := a
  obtain ⟨bx, by_, bz⟩ := b
  obtain ⟨cx, cy, cz⟩ := c
  go_enter Try.func11, Try.ntmps11
  go_wp2_with fail
  refine (C1.out _).mono ?_
  rintro e w1 ⟨rfl, hb1⟩
  have hB1 := hB0.trans (hb1.mono hB0.size)
  have hI1 := hkeep hb1 hI0
  clear  hB0 hI0 C1
  have k0 := hcell (k := 0) (v := .int .i64 i) hI1 rfl
  have k1 := hcell (k := 1) (v := .int .i64 ax) hI1 rfl
  have k2 := hcell (k := 2) (v := .int .i64 ay) hI1 rfl
  have k3 := hcell (k := 3) (v := .int .i64 az) hI1 rfl
  have k4 := hcell (k := 4) (v := .int .i64 bx) hI1 rfl
  have k5 := hcell (k := 5) (v := .int .i64 by_) hI1 rfl
  have k6 := hcell (k := 6) (v := .int .i64 bz) hI1 rfl
  have k7 := hcell (k := 7) (v := .int .i64 cx) hI1 rfl
  have k8 := hcell (k := 8) (v := .int .i64 cy) hI1 rfl
  have k9 := hcell (k := 9) (v := .int .i64 cz) hI1 rfl
  go_wp2_with fail
  refine (C2.out _).mono ?_
  rintro e w2 ⟨rfl, hb2⟩
  have hB2 := hB1.trans (hb2.mono hB1.size)
  have hI2 := hkeep hb2 hI1
  clear k0 k1 k2 k3 k4 k5 k6 k7 k8 k9 hB1 hI1 C2
  have k0 := hcell (k := 0) (v := .int .i64 i) hI2 rfl
  have k1 := hcell (k := 1) (v := .int .i64 ax) hI2 rfl
  have k2 := hcell (k := 2) (v := .int .i64 ay) hI2 rfl
  have k3 := hcell (k := 3) (v := .int .i64 az) hI2 rfl
  have k4 := hcell (k := 4) (v := .int .i64 bx) hI2 rfl
  have k5 := hcell (k := 5) (v := .int .i64 by_) hI2 rfl
  have k6 := hcell (k := 6) (v := .int .i64 bz) hI2 rfl
  have k7 := hcell (k := 7) (v := .int .i64 cx) hI2 rfl
  have k8 := hcell (k := 8) (v := .int .i64 cy) hI2 rfl
  have k9 := hcell (k := 9) (v := .int .i64 cz) hI2 rfl
  go_wp2_with fail
  refine (C3.out _).mono ?_
  rintro e w3 ⟨ad1, cp1, l1, e1, rfl, hr1, hs1, hb3⟩
  have hB3 := hB2.trans (hb3.mono hB2.size)
  have hI3 := hkeep hb3 hI2
  clear k0 k1 k2 k3 k4 k5 k6 k7 k8 k9 hB2 hI2 C3
  clear hb3
  have k0 := hcell (k := 0) (v := .int .i64 i) hI3 rfl
  have k1 := hcell (k := 1) (v := .int .i64 ax) hI3 rfl
  have k2 := hcell (k := 2) (v := .int .i64 ay) hI3 rfl
  have k3 := hcell (k := 3) (v := .int .i64 az) hI3 rfl
  have k4 := hcell (k := 4) (v := .int .i64 bx) hI3 rfl
  have k5 := hcell (k := 5) (v := .int .i64 by_) hI3 rfl
  have k6 := hcell (k := 6) (v := .int .i64 bz) hI3 rfl
  have k7 := hcell (k := 7) (v := .int .i64 cx) hI3 rfl
  have k8 := hcell (k := 8) (v := .int .i64 cy) hI3 rfl
  have k9 := hcell (k := 9) (v := .int .i64 cz) hI3 rfl
  go_wp2_with fail
  refine (C4.out _).mono ?_
  rintro e w4 ⟨ad2, cp2, l2, e2, rfl, hr2, hs2, hb4⟩
  have hB4 := hB3.trans (hb4.mono hB3.size)
  have hI4 := hkeep hb4 hI3
  clear k0 k1 k2 k3 k4 k5 k6 k7 k8 k9 hB3 hI3 C4
  have k0 := hcell (k := 0) (v := .int .i64 i) hI4 rfl
  have k1 := hcell (k := 1) (v := .int .i64 ax) hI4 rfl
  have k2 := hcell (k := 2) (v := .int .i64 ay) hI4 rfl
  have k3 := hcell (k := 3) (v := .int .i64 az) hI4 rfl
  have k4 := hcell (k := 4) (v := .int .i64 bx) hI4 rfl
  have k5 := hcell (k := 5) (v := .int .i64 by_) hI4 rfl
  have k6 := hcell (k := 6) (v := .int .i64 bz) hI4 rfl
  have k7 := hcell (k := 7) (v := .int .i64 cx) hI4 rfl
  have k8 := hcell (k := 8) (v := .int .i64 cy) hI4 rfl
  have k9 := hcell (k := 9) (v := .int .i64 cz) hI4 rfl
  obtain ⟨hl, he⟩ := corn_res_same hr1 hr2
  subst hl he
  have hs1' := hs1.below hb4 (Nat.le_refl _)
  have SM := Lib.hid (refsame_any ad1 ad2 l1.length cp1 cp2 l1 w4 hs1' hs2)
  clear hr1 hr2 hs1 hs2 hs1' hb4
  generalize l1.length = n at SM ⊢
  go_wp2_with fail
  refine SM.out.mono ?_
  rintro e w5 ⟨rfl, hb5⟩
  have hB5 := hB4.trans (hb5.mono hB4.size)
  have hI5 := hkeep hb5 hI4
  clear hB4 hI4 SM hb5 k0 k1 k2 k3 k4 k5 k6 k7 k8 k9
  have k0 := hcell (k := 0) (v := .int .i64 i) hI5 rfl
  have k1 := hcell (k := 1) (v := .int .i64 ax) hI5 rfl
  have k2 := hcell (k := 2) (v := .int .i64 ay) hI5 rfl
  have k3 := hcell (k := 3) (v := .int .i64 az) hI5 rfl
  have k4 := hcell (k := 4) (v := .int .i64 bx) hI5 rfl
  have k5 := hcell (k := 5) (v := .int .i64 by_) hI5 rfl
  have k6 := hcell (k := 6) (v := .int .i64 bz) hI5 rfl
  have k7 := hcell (k := 7) (v := .int .i64 cx) hI5 rfl
  have k8 := hcell (k := 8) (v := .int .i64 cy) hI5 rfl
  have k9 := hcell (k := 9) (v := .int .i64 cz) hI5 rfl
  go_wp2_with fail
  refine (C6.out _).mono ?_
  rintro e w6 ⟨rfl, hb6⟩
  have hB6 := hB5.trans (hb6.mono hB5.size)
  have hI6 := hkeep hb6 hI5
  clear k0 k1 k2 k3 k4 k5 k6 k7 k8 k9 hB5 hI5 C6
  have k0 := hcell (k := 0) (v := .int .i64 i) hI6 rfl
  have k1 := hcell (k := 1) (v := .int .i64 ax) hI6 rfl
  have k2 := hcell (k := 2) (v := .int .i64 ay) hI6 rfl
  have k3 := hcell (k := 3) (v := .int .i64 az) hI6 rfl
  have k4 := hcell (k := 4) (v := .int .i64 bx) hI6 rfl
  have k5 := hcell (k := 5) (v := .int .i64 by_) hI6 rfl
  have k6 := hcell (k := 6) (v := .int .i64 bz) hI6 rfl
  have k7 := hcell (k := 7) (v := .int .i64 cx) hI6 rfl
  have k8 := hcell (k := 8) (v := .int .i64 cy) hI6 rfl
  have k9 := hcell (k := 9) (v := .int .i64 cz) hI6 rfl
  go_wp2_with fail
  refine (C7.out _).mono ?_
  rintro e w7 ⟨rfl, hb7⟩
  have hB7 := hB6.trans (hb7.mono hB6.size)
  have hI7 := hkeep hb7 hI6
  clear k0 k1 k2 k3 k4 k5 k6 k7 k8 k9 hB6 hI6 C7
  have k0 := hcell (k := 0) (v := .int .i64 i) hI7 rfl
  have k1 := hcell (k := 1) (v := .int .i64 ax) hI7 rfl
  have k2 := hcell (k := 2) (v := .int .i64 ay) hI7 rfl
  have k3 := hcell (k := 3) (v := .int .i64 az) hI7 rfl
  have k4 := hcell (k := 4) (v := .int .i64 bx) hI7 rfl
  have k5 := hcell (k := 5) (v := .int .i64 by_) hI7 rfl
  have k6 := hcell (k := 6) (v := .int .i64 bz) hI7 rfl
  have k7 := hcell (k := 7) (v := .int .i64 cx) hI7 rfl
  have k8 := hcell (k := 8) (v := .int .i64 cy) hI7 rfl
  have k9 := hcell (k := 9) (v := .int .i64 cz) hI7 rfl
  clear k0 k1 k2 k3 k4 k5 k6 k7 k8 k9
  go_wp2_with fail
  refine (WK.out _).mono ?_
  rintro e w8 ⟨rfl, hb8⟩
  have hB8 := hB7.trans (hb8.mono hB7.size)
  go_wp2
  go_ret
  exact ⟨rfl, hB8⟩
end Go.Proofs.Ytndjljefppbmcaa

