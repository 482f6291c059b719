/- Walk: the corners of a triangle over a column, refused ones too. -/
import Derived.Test.YtjiklfffcnfdjaaGreatClpN
namespace Go.Proofs.YtjiklfffcnfdjaaGreat
open Go.RowKit

set_option maxHeartbeats 4000000 in
theorem corners_no (i : Int) (a b c : V3) (x z : Int) (w : World) (ho : (openT a b c).2 = false) :
    Calls Tryz.prog 64 #[tiA i a b c, .int .i64 x, .int .i64 z] w fun e w' => e = .returned (.tuple #[.slice none 0 0, .int .i64 40]) ∧ Below w.heap.size w w' := by
  have OP := Lib.hid (fun W => open_any i a b c W)
  rw [ho] at OP
  generalize (openT a b c).1 = t at OP
  clear ho
  have hB : Below w.heap.size w (((w.alloc (.cells #[.int .i64 i, .int .i64 a.x, .int .i64 a.y, .int .i64 a.z, .int .i64 b.x, .int .i64 b.y, .int .i64 b.z, .int .i64 c.x, .int .i64 c.y, .int .i64 c.z] 77)).alloc (.cells #[.int .i64 x] 3)).alloc (.cells #[.int .i64 z] 3)) := (((Below.refl _ _).alloc (Nat.le_refl _) _).alloc (by simp) _).alloc (by simp; omega) _
  obtain ⟨ax, ay, az⟩ := a
  obtain ⟨bx, by_, bz⟩ := b
  obtain ⟨cx, cy, cz⟩ := c
  obtain ⟨ta, tb, tc, ts⟩ := t
  simp only at OP hB
  go_enter Tryz.func64, Tryz.ntmps64
  go_wp2_with fail
  refine (OP.out _).mono ?_
  rintro e w1 ⟨rfl, hb1⟩
  have hB2 := (hB.trans (hb1.mono hB.size)).alloc (hB.trans (hb1.mono hB.size)).size (.cells (t3C ⟨ta, tb, tc, ts⟩) 124)
  clear hb1 hB OP
  go_wp2
  go_ret2
  exact ⟨rfl, hB2⟩

set_option maxRecDepth 100000 in
set_option maxHeartbeats 8000000 in
theorem corners_out (i : Int) (a b c : V3) (x z : Int) (w : World) (ho : (openT a b c).2 = true) (hx : ¬ inC x z) :
    Calls Tryz.prog 64 #[tiA i a b c, .int .i64 x, .int .i64 z] w fun e w' => e = .returned (.tuple #[.slice none 0 0, .int .i64 2]) ∧ Below w.heap.size w w' := by
  have OP := Lib.hid (fun W => open_any i a b c W)
  rw [ho] at OP
  generalize (openT a b c).1 = t at OP
  clear ho
  have hX := (Boxed.new (w.alloc (.cells #[.int .i64 i, .int .i64 a.x, .int .i64 a.y, .int .i64 a.z, .int .i64 b.x, .int .i64 b.y, .int .i64 b.z, .int .i64 c.x, .int .i64 c.y, .int .i64 c.z] 77)) 3 (.int .i64 x)).alloc (.cells #[.int .i64 z] 3)
  have hZ := Boxed.new ((w.alloc (.cells #[.int .i64 i, .int .i64 a.x, .int .i64 a.y, .int .i64 a.z, .int .i64 b.x, .int .i64 b.y, .int .i64 b.z, .int .i64 c.x, .int .i64 c.y, .int .i64 c.z] 77)).alloc (.cells #[.int .i64 x] 3)) 3 (.int .i64 z)
  have hB : Below w.heap.size w (((w.alloc (.cells #[.int .i64 i, .int .i64 a.x, .int .i64 a.y, .int .i64 a.z, .int .i64 b.x, .int .i64 b.y, .int .i64 b.z, .int .i64 c.x, .int .i64 c.y, .int .i64 c.z] 77)).alloc (.cells #[.int .i64 x] 3)).alloc (.cells #[.int .i64 z] 3)) := (((Below.refl _ _).alloc (Nat.le_refl _) _).alloc (by simp) _).alloc (by simp; omega) _
  simp only [World.size_alloc] at hX hZ
  obtain ⟨ax, ay, az⟩ := a
  obtain ⟨bx, by_, bz⟩ := b
  obtain ⟨cx, cy, cz⟩ := c
  obtain ⟨ta, tb, tc, ts⟩ := t
  simp only at OP hB hX hZ
  have hcase : x < -1 ∨ (¬ x < -1 ∧ 32 < x) ∨ (¬ x < -1 ∧ ¬ 32 < x ∧ z < -1) ∨ (¬ x < -1 ∧ ¬ 32 < x ∧ ¬ z < -1 ∧ 32 < z) := by unfold inC at hx; omega
  clear hx
  go_enter Tryz.func64, Tryz.ntmps64
  go_wp2_with fail
  refine (OP.out _).mono ?_
  rintro e w1 ⟨rfl, hb1⟩
  have hX0 : Boxed w1 (w.heap.size + 1) 3 (.int .i64 x) := (hb1.block _ hX.lt).trans hX
  have hZ0 : Boxed w1 (w.heap.size + 1 + 1) 3 (.int .i64 z) := (hb1.block _ hZ.lt).trans hZ
  have hX1 := Boxed.alloc hX0 (.cells (t3C ⟨ta, tb, tc, ts⟩) 124)
  have hZ1 := Boxed.alloc hZ0 (.cells (t3C ⟨ta, tb, tc, ts⟩) 124)
  have hB2 := (hB.trans (hb1.mono hB.size)).alloc (hB.trans (hb1.mono hB.size)).size (.cells (t3C ⟨ta, tb, tc, ts⟩) 124)
  have x2 := hX1.cell
  have z2 := hZ1.cell
  clear hb1 hB OP hX hZ hX0 hZ0 hX1 hZ1
  rcases hcase with h | ⟨h0, h⟩ | ⟨h0, h1, h⟩ | ⟨h0, h1, h2, h⟩
  all_goals
    go_wp2
    go_ret2
    exact ⟨rfl, hB2⟩

theorem corners_any (i : Int) (a b c : V3) (x z : Int) (w : World) :
    Calls Tryz.prog 64 #[tiA i a b c, .int .i64 x, .int .i64 z] w fun e w' => ∃ ad cp l err, e = .returned (.tuple #[.slice ad l.length cp, .int .i64 err]) ∧ CornRes a b c x z l err ∧ SlR crC 4 w' ad l.length cp l ∧ Below w.heap.size w w' := by
  cases ho : (openT a b c).2 with
  | false =>
    refine (corners_no i a b c x z w ho).mono ?_
    rintro e w' ⟨rfl, hb⟩
    exact ⟨none, 0, [], 40, rfl, .inl ⟨ho, rfl, rfl⟩, SlR.nil _ _ _, hb⟩
  | true =>
    by_cases hc : inC x z
    · refine (corners_good i a b c x z w _ (open_pair ho) ⟨hc.1, hc.2.1⟩ ⟨hc.2.2.1, hc.2.2.2⟩).mono ?_
      rintro e w' ⟨ad, cp, l, rfl, h1, h2, h3⟩
      exact ⟨ad, cp, l, 0, rfl, .inr (.inr ⟨ho, hc, h1, rfl⟩), h2, h3⟩
    · refine (corners_out i a b c x z w ho hc).mono ?_
      rintro e w' ⟨rfl, hb⟩
      exact ⟨none, 0, [], 2, rfl, .inr (.inl ⟨ho, hc, rfl, rfl⟩), SlR.nil _ _ _, hb⟩
end Go.Proofs.YtjiklfffcnfdjaaGreat

namespace Go.Proofs.YtjiklfffcnfdjaaGreat
open Go.RowKit

set_option maxHeartbeats 1000000 in
theorem flo_any (c : Cr) (w : World) (h : CrHigh c) : Calls Tryz.prog 65 #[crA c] w fun e w' => e = .returned (.int .i64 (floC c)) ∧ Below w.heap.size w w' := by
  obtain ⟨h1, h2, h3, h4⟩ := h
  have F := Lib.hid (fun W => floor_any c.y c.d W (by omega) (by omega))
  have Hr : Hid (floC c = floorI c.y c.d) := rfl
  rw [Hr.out]
  generalize floorI c.y c.d = r at F
  clear Hr
  obtain ⟨cx, cz, cy, cd⟩ := c
  simp only at F
  clear h1 h2 h3 h4
  have hB := (Below.refl w.heap.size w).alloc (Nat.le_refl _) (.cells #[.int .i64 cx, .int .i64 cz, .int .i64 cy, .int .i64 cd] 105)
  unfold crA
  go_enter Tryz.func65, Tryz.ntmps65
  go_wp2_with fail
  refine (F.out _).mono ?_
  rintro e w1 ⟨rfl, rfl⟩
  go_wp2
  go_ret
  exact ⟨rfl, hB⟩
set_option maxHeartbeats 1000000 in
theorem cei_any (c : Cr) (w : World) (h : CrHigh c) : Calls Tryz.prog 67 #[crA c] w fun e w' => e = .returned (.int .i64 (ceiC c)) ∧ Below w.heap.size w w' := by
  obtain ⟨h1, h2, h3, h4⟩ := h
  have F := Lib.hid (fun W => ceil_any c.y c.d W (by omega) (by omega))
  have Hr : Hid (ceiC c = ceilI c.y c.d) := rfl
  rw [Hr.out]
  generalize ceilI c.y c.d = r at F
  clear Hr
  obtain ⟨cx, cz, cy, cd⟩ := c
  simp only at F
  clear h1 h2 h3 h4
  have hB := (Below.refl w.heap.size w).alloc (Nat.le_refl _) (.cells #[.int .i64 cx, .int .i64 cz, .int .i64 cy, .int .i64 cd] 105)
  unfold crA
  go_enter Tryz.func67, Tryz.ntmps67
  go_wp2_with fail
  refine (F.out _).mono ?_
  rintro e w1 ⟨rfl, rfl⟩
  go_wp2
  go_ret
  exact ⟨rfl, hB⟩

theorem results_tmp4 {fn : Func} {t u v x : Tmp} (h : fn.results = #[.tmp t, .tmp u, .tmp v, .tmp x]) (tmps : Array Value) (P : Program) (w : World) :
    (results fn tmps).run P w = .ok (.tuple #[tmps.getD t undef, tmps.getD u undef, tmps.getD v undef, tmps.getD x undef]) w := by
  simp [results, h]
theorem fold_step {f : Cr → Int} {g : Int → Int → Int} {l : List Cr} {k : Nat} {y : Cr} (h : l[k]? = some y) (s : Int) : ((l.take (k + 1)).map f).foldl g s = g (((l.take k).map f).foldl g s) (f y) := by
  rw [List.take_add_one, h]
  simp

set_option maxRecDepth 100000 in
set_option maxHeartbeats 8000000 in
theorem overE_any (i : Int) (a b c : V3) (x z : Int) (w : World) :
    Calls Tryz.prog 46 #[tiA i a b c, .int .i64 x, .int .i64 z] w fun e w' => e = .returned (.tuple #[.int .i64 (overE a b c x z).1, .int .i64 (overE a b c x z).2.1, .bool (overE a b c x z).2.2.1, .int .i64 (overE a b c x z).2.2.2]) ∧ Below w.heap.size w w' := by
  have CO := Lib.hid (fun W => corners_any i a b c x z W)
  have HE := Lib.hid (fun l e (h : CornRes a b c x z l e) => And.intro (corn_overE h) (corn_high h (fun t ht => open_ok ht)))
  generalize overE a b c x z = r at HE ⊢
  obtain ⟨ax, ay, az⟩ := a
  obtain ⟨bx, by_, bz⟩ := b
  obtain ⟨cx, cy, cz⟩ := c
  have hB : Below w.heap.size w (w.alloc (.cells #[.int .i64 i, .int .i64 ax, .int .i64 ay, .int .i64 az, .int .i64 bx, .int .i64 by_, .int .i64 bz, .int .i64 cx, .int .i64 cy, .int .i64 cz] 77)) := (Below.refl _ _).alloc (Nat.le_refl _) _
  go_enter Tryz.func46, Tryz.ntmps46
  go_wp2_with fail
  refine (CO.out _).mono ?_
  rintro e w1 ⟨ad, cp, l, err, rfl, hres, hsl, hb1⟩
  obtain ⟨he, hh⟩ := HE.out l err hres
  have hB1 := hB.trans (hb1.mono hB.size)
  clear CO HE hres hB hb1
  by_cases h0 : err = 0
  · subst h0
    rw [if_neg (by simp)] at he
    cases l with
    | nil =>
      have e1 : r = (0, 0, false, 0) := he
      subst e1
      clear he hh
      have hz : ([] : List Cr).length = 0 := rfl
      rw [hz]
      clear hsl
      go_wp2
      ((try simp only [Exit.inBlock, Exit.then]); refine bodyPost_ret (results_tmp4 rfl _ _ _) rfl ?_)
      exact ⟨rfl, hB1⟩
    | cons c0 rest =>
      rw [overL_cons] at he
      have Hr := Lib.hid he
      have hn : (c0 :: rest).length = rest.length + 1 := rfl
      rw [hn] at hsl ⊢
      obtain ⟨m, hm⟩ : ∃ m, m = rest.length := ⟨_, rfl⟩
      rw [← hm] at hsl ⊢
      have Hm := Lib.hid hm
      have Hh := Lib.hid hh
      have Hsl := Lib.hid hsl
      have hle := hsl.le
      have hmax := hsl.max
      obtain ⟨bk, off, rfl, hbl, hc⟩ := hsl.at0 (by omega)
      have q0 : w1.cell? ⟨bk, off, none⟩ = some (.int .i64 c0.x) := hc 0 c0 rfl 0 _ rfl
      have q1 : w1.cell? ⟨bk, off + 1, none⟩ = some (.int .i64 c0.z) := hc 0 c0 rfl 1 _ rfl
      have q2 : w1.cell? ⟨bk, off + 2, none⟩ = some (.int .i64 c0.y) := hc 0 c0 rfl 2 _ rfl
      have q3 : w1.cell? ⟨bk, off + 3, none⟩ = some (.int .i64 c0.d) := hc 0 c0 rfl 3 _ rfl
      have F1 := Lib.hid (fun W => flo_any c0 W (hh c0 (by simp)))
      have F2 := Lib.hid (fun W => cei_any c0 W (hh c0 (by simp)))
      clear he hh hm hsl hc hn
      obtain ⟨lo0, hlo⟩ : ∃ lo0, lo0 = floC c0 := ⟨_, rfl⟩
      obtain ⟨hi0, hhi⟩ : ∃ hi0, hi0 = ceiC c0 := ⟨_, rfl⟩
      rw [← hlo] at F1 Hr
      rw [← hhi] at F2 Hr
      obtain ⟨x0, z0, y0, d0⟩ := c0
      simp only at q0 q1 q2 q3
      clear hlo hhi
      go_upto_region 6 with fail
      have e_q0 := fun d os => cell_regrown q0 d os
      have e_q1 := fun d os => cell_regrown q1 d os
      have e_q2 := fun d os => cell_regrown q2 d os
      have e_q3 := fun d os => cell_regrown q3 d os
      clear q0 q1 q2 q3
      refine wp_region_quiet_below (by kernel_rfl) (by kernel_rfl) ?_
      repeat (go_big_quiet_step (first | (go_at_call 65; exact Calls.regrown_of (F1.out _)) | (go_at_call 67; exact Calls.regrown_of (F2.out _))))
      refine wpQuiet_nil ?_
      rintro w2 ⟨⟨dq, osq⟩, hw2⟩
      have hb2 : Below w1.heap.size w1 w2 := by rw [hw2]; exact below_regrown w1 dq osq
      have hB2 : Below w.heap.size w w2 := hB1.trans (hb2.mono hB1.size)
      have Hsl2 := Lib.hid (Hsl.out.below hb2 (Nat.le_refl _))
      clear hw2 e_q0 e_q1 e_q2 e_q3 hb2 hB1 F1 F2 Hsl
      have n1 : (1 : Int) ≤ ((m + 1 : Nat) : Int) := by omega
      have n2 : (1 : Int) ≤ (cp : Int) := by omega
      by_cases hcp : cp = 1
      · obtain rfl : m = 0 := by omega
        obtain rfl := List.eq_nil_of_length_eq_zero Hm.out.symm
        have e := Hr.out
        subst e
        subst hcp
        go_wp2
        refine wp_loop_rounds 1 ?_
        rw [rounds_succ]
        go_wp2
        ((try simp only [Exit.inBlock, Exit.then]); refine bodyPost_ret (results_tmp4 rfl _ _ _) rfl ?_)
        exact ⟨rfl, hB2⟩
      go_wp2
      go_loopw [6, 7, 43] (fun s6 s7 s43 wr => ∃ k : Nat, s43 = .int .i64 k ∧ k ≤ m ∧ s6 = .int .i64 (((rest.take k).map floC).foldl min lo0) ∧ s7 = .int .i64 (((rest.take k).map ceiC).foldl max hi0) ∧ Below w2.heap.size w2 wr) (fun _ _ s43 _ => m - (intOf s43).toNat)
      case atStart => exact ⟨0, rfl, Nat.zero_le _, rfl, rfl, Below.refl _ _⟩
      case round =>
        obtain ⟨k, rfl, hk, rfl, rfl, hb⟩ := hrel
        by_cases hlt : k < m
        · obtain ⟨y, hy⟩ : ∃ y, rest[k]? = some y := ⟨_, List.getElem?_eq_getElem (by rw [← Hm.out]; exact hlt)⟩
          have hltI : (k : Int) < (m : Int) := by omega
          obtain ⟨bk2, off2, hbk, _, hc⟩ := (Hsl2.out.below hb (Nat.le_refl _)).at0 (by omega)
          cases hbk
          have hy1 : (({ x := x0, z := z0, y := y0, d := d0 } : Cr) :: rest)[k + 1]? = some y := by simpa using hy
          have q0 : wr.cell? ⟨bk, off + (k + 1) * 4 + 0, none⟩ = some (.int .i64 y.x) := hc (k + 1) y hy1 0 _ rfl
          have q1 : wr.cell? ⟨bk, off + (k + 1) * 4 + 1, none⟩ = some (.int .i64 y.z) := hc (k + 1) y hy1 1 _ rfl
          have q2 : wr.cell? ⟨bk, off + (k + 1) * 4 + 2, none⟩ = some (.int .i64 y.y) := hc (k + 1) y hy1 2 _ rfl
          have q3 : wr.cell? ⟨bk, off + (k + 1) * 4 + 3, none⟩ = some (.int .i64 y.d) := hc (k + 1) y hy1 3 _ rfl
          rw [show off + (k + 1) * 4 + 0 = off + 4 + k * 4 by omega] at q0
          rw [show off + (k + 1) * 4 = off + 4 + k * 4 by omega] at q1 q2 q3
          have F1 := Lib.hid (fun W => flo_any y W (Hh.out y (List.mem_cons_of_mem _ (List.mem_of_getElem? hy))))
          have F2 := Lib.hid (fun W => cei_any y W (Hh.out y (List.mem_cons_of_mem _ (List.mem_of_getElem? hy))))
          have S1 := Lib.hid (fold_step (f := floC) (g := min) hy lo0)
          have S2 := Lib.hid (fold_step (f := ceiC) (g := max) hy hi0)
          generalize ((rest.take k).map floC).foldl min lo0 = L at S1 ⊢
          generalize ((rest.take k).map ceiC).foldl max hi0 = U at S2 ⊢
          generalize floC y = fy at S1 F1
          generalize ceiC y = cy' at S2 F2
          obtain ⟨yx, yz, yy, yd⟩ := y
          simp only at q0 q1 q2 q3
          clear hc hy hy1
          have hA := World.alloc_heap_new wr (.cells #[.int .i64 yx, .int .i64 yz, .int .i64 yy, .int .i64 yd] 105)
          have hbA := hb.alloc hb.size (.cells #[.int .i64 yx, .int .i64 yz, .int .i64 yy, .int .i64 yd] 105)
          have r0 := hcell (k := 0) (v := .int .i64 yx) hA rfl
          have r1 := hcell (k := 1) (v := .int .i64 yz) hA rfl
          have r2 := hcell (k := 2) (v := .int .i64 yy) hA rfl
          have r3 := hcell (k := 3) (v := .int .i64 yd) hA rfl
          clear hA hb
          go_upto_region 10 with fail
          generalize wr.alloc (.cells #[.int .i64 yx, .int .i64 yz, .int .i64 yy, .int .i64 yd] 105) = W3 at r0 r1 r2 r3 hbA ⊢
          have e_q0 := fun d os => cell_regrown r0 d os
          have e_q1 := fun d os => cell_regrown r1 d os
          have e_q2 := fun d os => cell_regrown r2 d os
          have e_q3 := fun d os => cell_regrown r3 d os
          clear r0 r1 r2 r3 q0 q1 q2 q3
          refine wp_region_quiet_below (by kernel_rfl) (by kernel_rfl) ?_
          repeat (go_big_quiet_step (first | (go_at_call 65; exact Calls.regrown_of (F1.out _)) | (go_at_call 67; exact Calls.regrown_of (F2.out _))))
          refine wpQuiet_nil ?_
          rintro w4 ⟨⟨dq, osq⟩, hw4⟩
          have hb4 : Below w2.heap.size w2 w4 := by rw [hw4]; exact hbA.trans ((below_regrown W3 dq osq).mono hbA.size)
          clear hw4 e_q0 e_q1 e_q2 e_q3 hbA F1 F2
          go_wp2
          go_roundw
          case rel => exact ⟨k + 1, by go_num, by omega, by rw [S1.out], by rw [S2.out], hb4⟩
          case measure => simp [intOf]; omega
        · obtain rfl : k = m := by omega
          have ht : rest.take k = rest := List.take_of_length_le (by rw [← Hm.out]; exact Nat.le_refl _)
          rw [ht]
          have e := Hr.out
          subst e
          have hB3 := hB2.trans (hb.mono hB2.size)
          go_wp2
          ((try simp only [Exit.inBlock, Exit.then]); refine bodyPost_ret (results_tmp4 rfl _ _ _) rfl ?_)
          exact ⟨rfl, hB3⟩
  · rw [if_pos h0] at he
    subst he
    have h0' : (err != 0) = true := by simpa using h0
    clear hh hsl
    go_wp2
    ((try simp only [Exit.inBlock, Exit.then]); refine bodyPost_ret (results_tmp4 rfl _ _ _) rfl ?_)
    exact ⟨rfl, hB1⟩
end Go.Proofs.YtjiklfffcnfdjaaGreat
