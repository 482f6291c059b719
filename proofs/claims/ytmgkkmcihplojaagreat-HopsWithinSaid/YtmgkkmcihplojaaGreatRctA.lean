/- Walks: package rects: wide, At. -/
import Derived.Test.YtmgkkmcihplojaaGreatKa
import Derived.Test.YtmgkkmcihplojaaGreatHh
import Derived.Outline
import Derived.Deep.Cut
import Derived.Deep.CutRange
import Derived.Deep.DeepCutAuto
namespace Go.Proofs.YtmgkkmcihplojaaGreat
open Go.RowKit
attribute [local go_sem] Instr.index

theorem results_c1t {P : Program} {fn : Func} {p u : Tmp} {ty : TypeId} (h : fn.results = #[.cell p ty, .tmp u]) (tmps : Array Value) (w : World) (g : Nat) (t : TypeId) (cs : Array Value) (fr : Nat × Nat) (d : TypeDesc)
    (hp : tmps.getD p undef = .pointer (some ⟨g, 0, none⟩)) (hg : w.heap[g]? = some (.cells cs t fr))
    (hu : P.underlying ty = some d) (hd : (match d with | .struct _ | .array _ _ => true | _ => false) = true) (hi : (P.info? ty).map (·.size) = some cs.size) :
    (results fn tmps).run P w = .ok (.tuple #[.agg cs, tmps.getD u undef]) w := by
  have e1 : tmps[p]?.getD undef = .pointer (some ⟨g, 0, none⟩) := by simpa using hp
  simp [results, h, e1, asAddr, run_loadVar_row w g t ty cs fr d hg hu hd hi, Result.andThen]
/-- Where a rectangle's rows lie. -/
structure RHd where
  ya : Option Addr
  yc : Nat
  ta : Option Addr
  tc : Nat
abbrev rcL (h : RHd) (r : Rc) : List Value := [.int .i64 r.x0, .int .i64 r.z0, .int .i64 r.x1, .int .i64 r.z1, .int .i64 r.area, .slice h.ya r.ys.length h.yc, .slice h.ta r.ts.length h.tc]
abbrev rcV (h : RHd) (r : Rc) : Value := .agg #[.int .i64 r.x0, .int .i64 r.z0, .int .i64 r.x1, .int .i64 r.z1, .int .i64 r.area, .slice h.ya r.ys.length h.yc, .slice h.ta r.ts.length h.tc]
abbrev rcO (h : RHd) (r : Rc) : Obj := .cells #[.int .i64 r.x0, .int .i64 r.z0, .int .i64 r.x1, .int .i64 r.z1, .int .i64 r.area, .slice h.ya r.ys.length h.yc, .slice h.ta r.ts.length h.tc] 55 (0, 0)
structure RcSl (w : World) (h : RHd) (r : Rc) : Prop where
  y : SlI .i64 w h.ya r.ys.length h.yc r.ys
  t : SlI .i64 w h.ta r.ts.length h.tc r.ts
theorem RcSl.below {w w' : World} {h : RHd} {r : Rc} (hs : RcSl w h r) {B : Nat} (hb : Below B w w') (hB : w.heap.size ≤ B) : RcSl w' h r := ⟨hs.y.below hb hB, hs.t.below hb hB⟩

set_option maxHeartbeats 400000 in
theorem wide_any (h : RHd) (r : Rc) (B : Nat) (w : World) (hB : w.heap[B]? = some (rcO h r)) (h1 : -100000 ≤ r.x0 ∧ r.x0 ≤ 100000) (h2 : -100000 ≤ r.x1 ∧ r.x1 ≤ 100000) :
    Calls Tryz.prog 47 #[.pointer (some ⟨B, 0, none⟩)] w fun e w' => e = .returned (.int .i64 (rcW r)) ∧ Below w.heap.size w w' := by
  obtain ⟨x0, z0, x1, z1, ar, ys, ts⟩ := r
  unfold rcW
  dsimp only [rcO] at hB h1 h2 ⊢
  have c0 := hcell (k := 0) (v := .int .i64 x0) hB rfl
  have c2 := hcell (k := 2) (v := .int .i64 x1) hB rfl
  have e_c0 := fun d os => cell_regrown c0 d os
  have e_c2 := fun d os => cell_regrown c2 d os
  have w1 : IntKind.i64.wrap (x1 - x0) = x1 - x0 := by rw [IntKind.wrap_i64]; omega
  have w2 : IntKind.i64.wrap (x1 - x0 + 1) = x1 - x0 + 1 := by rw [IntKind.wrap_i64]; omega
  clear hB c0 c2
  go_enter Tryz.func47, Tryz.ntmps47
  go_wp2
  refine wp_region_quiet_below (by kernel_rfl) (by kernel_rfl) ?_
  repeat (go_big_quiet_step (fail))
  refine wpQuiet_nil ?_
  rintro w4 ⟨⟨dq, osq⟩, hw4⟩
  have hb4 : Below w.heap.size w w4 := by rw [hw4]; exact below_regrown w dq osq
  clear hw4 e_c0 e_c2
  go_wp2
  go_ret
  exact ⟨rfl, hb4⟩
def AtInv (T yb yo tb to_ k : Nat) (x0 z0 x1 z1 ar y t : Int) (yn yc tn tc : Nat) (H : Nat) (w1 : World) (F : Value → Value → Value → Value → Value → Value → Value → Value → Value → Value → Value → Value → Value → Value → Array Value) (D : List Deferred) (L : Array Bool) (a : Act) (w : World) : Prop :=
  ∃ (s0 s1 s2 s3 s4 s5 s6 s7 s8 s9 s10 s11 s12 s14 : Value), a = { tmps := F s0 s1 s2 s3 s4 s5 s6 s7 s8 s9 s10 s11 s12 s14, defers := D } ∧
    Below H w1 w ∧
    w.heap[T]? = some (.cells #[.int .i64 x0, .int .i64 z0, .int .i64 x1, .int .i64 z1, .int .i64 ar, .slice (some ⟨yb, yo, none⟩) yn yc, .slice (some ⟨tb, to_, none⟩) tn tc] 55 (0, 0)) ∧
    w.cell? ⟨yb, yo + k, none⟩ = some (.int .i64 y) ∧
    w.cell? ⟨tb, to_ + k, none⟩ = some (.int .i64 t) ∧
    w.heap[T + 1]? = some (.cells (if L.getD 13 false = true then #[.int .i64 y, .int .i64 t, .int .i64 ar] else #[.int .i64 0, .int .i64 0, .int .i64 0]) 84 (0, 0)) ∧
    (L.getD 0 false = true → s0 = .pointer (some ⟨T, 5, none⟩)) ∧
    (L.getD 1 false = true → s1 = .slice (some ⟨yb, yo, none⟩) yn yc) ∧
    (L.getD 2 false = true → s2 = .int .i64 k) ∧
    (L.getD 3 false = true → s3 = .pointer (some ⟨yb, yo + k, none⟩)) ∧
    (L.getD 4 false = true → s4 = .int .i64 y) ∧
    (L.getD 5 false = true → s5 = .pointer (some ⟨T, 6, none⟩)) ∧
    (L.getD 6 false = true → s6 = .slice (some ⟨tb, to_, none⟩) tn tc) ∧
    (L.getD 7 false = true → s7 = .int .i64 k) ∧
    (L.getD 8 false = true → s8 = .pointer (some ⟨tb, to_ + k, none⟩)) ∧
    (L.getD 9 false = true → s9 = .int .i64 t) ∧
    (L.getD 10 false = true → s10 = .pointer (some ⟨T, 4, none⟩)) ∧
    (L.getD 11 false = true → s11 = .int .i64 ar) ∧
    (L.getD 12 false = true → s12 = .agg #[.int .i64 y, .int .i64 t, .int .i64 ar]) ∧
    (L.getD 14 false = true → s14 = .bool true)
theorem rcat_some {r : Rc} {x z : Int} {k : Nat} {y t : Int} (hin : rcIn r x z = true) (hk : rcK r x z = (k : Int)) (hy : r.ys[k]? = some y) (ht : r.ts[k]? = some t) : rcAt r x z = some ⟨y, t, r.area⟩ := by
  unfold rcAt
  rw [if_pos hin, hk, Int.toNat_natCast, hy, ht]
theorem rcat_none {r : Rc} {x z : Int} {k : Nat} (hin : rcIn r x z = true) (hk : rcK r x z = (k : Int)) (h : r.ys.length ≤ k ∨ r.ts.length ≤ k) : rcAt r x z = none := by
  unfold rcAt
  rw [if_pos hin, hk, Int.toNat_natCast]
  rcases h with h | h
  · rw [List.getElem?_eq_none h]
  · rw [List.getElem?_eq_none h]
    cases r.ys[k]? <;> rfl
theorem SlI.at1 {k : IntKind} {w : World} {a : Option Addr} {n c : Nat} {xs : List Int} (h : SlI k w a n c xs) {i : Nat} {x : Int} (hx : xs[i]? = some x) : ∃ b off, a = some ⟨b, off, none⟩ ∧ b < w.heap.size ∧ i < n ∧ w.cell? ⟨b, off + i, none⟩ = some (.int k x) := by
  have hi := (List.getElem?_eq_some_iff.1 hx).1
  rw [h.len] at hi
  obtain ⟨b, off, ha, hc⟩ := h.at0 (by omega)
  have h1 := hc i hi
  have e : xs.getD i 0 = x := by rw [List.getD_eq_getElem?_getD, hx]; rfl
  rw [e] at h1
  exact ⟨b, off, ha, by have := World.block_lt_of_cell? w _ h1; simpa using this, hi, h1⟩
set_option maxRecDepth 100000 in
set_option maxHeartbeats 8000000 in
theorem rcat_any (h : RHd) (r : Rc) (x z : Int) (w : World) (hs : RcSl w h r) :
    Calls Tryz.prog 27 #[rcV h r, .int .i64 x, .int .i64 z] w fun e w' => e = .returned (.tuple #[flrV (rcF r x z), .bool (rcAt r x z).isSome]) ∧ Below w.heap.size w w' := by
  obtain ⟨W1, hW1⟩ : ∃ W, W = (w.alloc (rcO h r)).alloc (.cells #[.int .i64 0, .int .i64 0, .int .i64 0] 84) := ⟨_, rfl⟩
  have hR := halloc (World.alloc_heap_new w (rcO h r)) (.cells #[.int .i64 0, .int .i64 0, .int .i64 0] 84)
  have hF := World.alloc_heap_new (w.alloc (rcO h r)) (.cells #[.int .i64 0, .int .i64 0, .int .i64 0] 84)
  have hB : Below w.heap.size w ((w.alloc (rcO h r)).alloc (.cells #[.int .i64 0, .int .i64 0, .int .i64 0] 84)) := ((Below.refl _ _).alloc (Nat.le_refl _) _).alloc (by simp) _
  have hS := hs.below hB (Nat.le_refl _)
  simp only [World.size_alloc] at hF
  rw [← hW1] at hR hF hB hS
  have WD := Lib.hid (fun B W hW h1 h2 => wide_any h r B W hW h1 h2)
  have Hs := Lib.hid hs
  clear hs
  obtain ⟨T, hTT⟩ : ∃ T, T = w.heap.size := ⟨_, rfl⟩
  have HTT := Lib.hid hTT
  have hT0 : w.heap.size ≤ T := by omega
  rw [← hTT] at hR hF
  clear hTT
  have hTl := hblt hR
  have hGl := hblt hF
  cases hin : rcIn r x z with
  | false =>
    have hN : rcAt r x z = none := by unfold rcAt; rw [hin]; rfl
    have hN2 : rcF r x z = ⟨0, 0, 0⟩ := by unfold rcF; rw [hN]; rfl
    rw [hN, hN2]
    have HI : Hid (rcIn r x z = false) := hin
    clear hin hN hN2 hS WD Hs
    obtain ⟨x0, z0, x1, z1, ar, ys, ts⟩ := r
    dsimp only [rcO, rcV, flrV, Option.isSome] at hR hF hB hW1 ⊢
    have c0 := hcell (k := 0) (v := .int .i64 x0) hR rfl
    have c1 := hcell (k := 1) (v := .int .i64 z0) hR rfl
    have c2 := hcell (k := 2) (v := .int .i64 x1) hR rfl
    have c3 := hcell (k := 3) (v := .int .i64 z1) hR rfl
    have f0 := hfroz (k := 0) hF
    have f1 := hfroz (k := 1) hF
    have f2 := hfroz (k := 2) hF
    have g0 := hcell (k := 0) (v := .int .i64 0) hF rfl
    have g1 := hcell (k := 1) (v := .int .i64 0) hF rfl
    have g2 := hcell (k := 2) (v := .int .i64 0) hF rfl
    have hG2 := box3_set hF (.int .i64 0) (.int .i64 0) (.int .i64 0)
    have hB2 := hB.grown (box3_grown (w := W1) (b := T + 1) (.int .i64 0) (.int .i64 0) (.int .i64 0)) hB.size (fun j hj => by cases hj; omega)
    clear hR hF hB
    go_enter Tryz.func27, Tryz.ntmps27
    go_upto_region 1 with fail
    rw [← hW1, ← HTT.out]
    clear hW1 HTT
    by_cases b0 : x0 < 0
    · clear HI
      go_wp2
      all_goals refine bodyPost_ret (results_c1t rfl _ _ (T + 1) 84 #[.int .i64 0, .int .i64 0, .int .i64 0] (0, 0) _ rfl hG2 Tryz.underlying84 rfl (by kernel_rfl)) rfl ⟨rfl, hB2⟩
    by_cases b1 : 32 ≤ x1
    · clear HI
      go_wp2
      all_goals refine bodyPost_ret (results_c1t rfl _ _ (T + 1) 84 #[.int .i64 0, .int .i64 0, .int .i64 0] (0, 0) _ rfl hG2 Tryz.underlying84 rfl (by kernel_rfl)) rfl ⟨rfl, hB2⟩
    by_cases b2 : z0 < 0
    · clear HI
      go_wp2
      all_goals refine bodyPost_ret (results_c1t rfl _ _ (T + 1) 84 #[.int .i64 0, .int .i64 0, .int .i64 0] (0, 0) _ rfl hG2 Tryz.underlying84 rfl (by kernel_rfl)) rfl ⟨rfl, hB2⟩
    by_cases b3 : 32 ≤ z1
    · clear HI
      go_wp2
      all_goals refine bodyPost_ret (results_c1t rfl _ _ (T + 1) 84 #[.int .i64 0, .int .i64 0, .int .i64 0] (0, 0) _ rfl hG2 Tryz.underlying84 rfl (by kernel_rfl)) rfl ⟨rfl, hB2⟩
    by_cases b4 : x < x0
    · clear HI
      go_wp2
      all_goals refine bodyPost_ret (results_c1t rfl _ _ (T + 1) 84 #[.int .i64 0, .int .i64 0, .int .i64 0] (0, 0) _ rfl hG2 Tryz.underlying84 rfl (by kernel_rfl)) rfl ⟨rfl, hB2⟩
    by_cases b5 : x1 < x
    · clear HI
      go_wp2
      all_goals refine bodyPost_ret (results_c1t rfl _ _ (T + 1) 84 #[.int .i64 0, .int .i64 0, .int .i64 0] (0, 0) _ rfl hG2 Tryz.underlying84 rfl (by kernel_rfl)) rfl ⟨rfl, hB2⟩
    by_cases b6 : z < z0
    · clear HI
      go_wp2
      all_goals refine bodyPost_ret (results_c1t rfl _ _ (T + 1) 84 #[.int .i64 0, .int .i64 0, .int .i64 0] (0, 0) _ rfl hG2 Tryz.underlying84 rfl (by kernel_rfl)) rfl ⟨rfl, hB2⟩
    by_cases b7 : z1 < z
    · clear HI
      go_wp2
      all_goals refine bodyPost_ret (results_c1t rfl _ _ (T + 1) 84 #[.int .i64 0, .int .i64 0, .int .i64 0] (0, 0) _ rfl hG2 Tryz.underlying84 rfl (by kernel_rfl)) rfl ⟨rfl, hB2⟩
    exact absurd (HI.out) (by rw [Bool.not_eq_false, rcIn_iff]; dsimp only; omega)
  | true =>
    obtain ⟨i1, i2, i3, i4, i5, i6, i7, i8⟩ := rcIn_iff.1 hin
    have hkb := rcK_bd hin
    obtain ⟨k, hk⟩ := Int.eq_ofNat_of_zero_le hkb.1
    have HSome := Lib.hid (fun (y t : Int) => rcat_some (y := y) (t := t) hin hk)
    have HNone := Lib.hid (rcat_none hin hk)
    have hwb : 1 ≤ rcW r ∧ rcW r ≤ 32 := by unfold rcW; omega
    have WD2 := Lib.hid (fun B W hW => WD.out B W hW (by omega) (by omega))
    have hm : 0 ≤ (z - r.z0) * rcW r ∧ (z - r.z0) * rcW r ≤ 31 * 32 := ⟨Int.mul_nonneg (by omega) (by omega), Int.mul_le_mul (by omega) (by omega) (by omega) (by omega)⟩
    have hkk : (z - r.z0) * rcW r + x - r.x0 = (k : Int) := hk
    unfold rcF
    generalize rcAt r x z = O at HSome HNone ⊢
    clear WD hin hk hkb
    obtain ⟨wd, hwd⟩ : ∃ v, v = rcW r := ⟨_, rfl⟩
    rw [← hwd] at hwb hm hkk WD2
    clear hwd
    obtain ⟨x0, z0, x1, z1, ar, ys, ts⟩ := r
    obtain ⟨ya, yc, ta, tc⟩ := h
    obtain ⟨hSy, hSt⟩ := hS
    dsimp only [rcO, rcV, flrV] at hR hF hB hW1 hm hkk i1 i2 i3 i4 i5 i6 i7 i8 HSome HNone hSy hSt WD2 ⊢
    have c0 := hcell (k := 0) (v := .int .i64 x0) hR rfl
    have c1 := hcell (k := 1) (v := .int .i64 z0) hR rfl
    have c2 := hcell (k := 2) (v := .int .i64 x1) hR rfl
    have c3 := hcell (k := 3) (v := .int .i64 z1) hR rfl
    have b0 : ¬ x0 < 0 := by omega
    have b1 : ¬ 32 ≤ x1 := by omega
    have b2 : ¬ z0 < 0 := by omega
    have b3 : ¬ 32 ≤ z1 := by omega
    have b4 : ¬ x < x0 := by omega
    have b5 : ¬ x1 < x := by omega
    have b6 : ¬ z < z0 := by omega
    have b7 : ¬ z1 < z := by omega
    have q1 : IntKind.i64.wrap (z - z0) = z - z0 := by rw [IntKind.wrap_i64]; omega
    have q2 : IntKind.i64.wrap ((z - z0) * wd) = (z - z0) * wd := by rw [IntKind.wrap_i64]; omega
    have q3 : IntKind.i64.wrap ((z - z0) * wd + x) = (z - z0) * wd + x := by rw [IntKind.wrap_i64]; omega
    have q4 : IntKind.i64.wrap ((z - z0) * wd + x - x0) = (k : Int) := by rw [IntKind.wrap_i64]; omega
    have hHR := Lib.hid hR
    go_enter Tryz.func27, Tryz.ntmps27
    go_upto_region 1 with fail
    rw [← hW1, ← HTT.out]
    clear hW1 hkk hm
    go_upto_region 3 with fail
    clear b0 b1 b2 b3 b4 b5 b6 b7 i1 i2 i3 i4 i5 i6 i7 i8 c2 c3
    have e_c0 := fun d os => cell_regrown c0 d os
    have e_c1 := fun d os => cell_regrown c1 d os
    have e_R := fun d os => (below_regrown W1 d os).block T hTl
    refine wp_region_quiet_below (by kernel_rfl) (by kernel_rfl) ?_
    repeat (go_big_quiet_step ((go_at_call 47; exact Calls.regrown_of (WD2.out _ _ ((e_R _ _).trans hHR.out)))))
    refine wpQuiet_nil ?_
    rintro w4 ⟨⟨dq, osq⟩, hw4⟩
    have hb4 : Below W1.heap.size W1 w4 := by rw [hw4]; exact below_regrown W1 dq osq
    clear hw4 e_c0 e_c1 e_R q1 q2 q3 q4 c0 c1
    have hB4 := hB.trans (hb4.mono hB.size)
    have hR4 := hkeep hb4 hR
    have hF4 := hkeep hb4 hF
    have hSy4 := hSy.below hb4 (Nat.le_refl _)
    have hSt4 := hSt.below hb4 (Nat.le_refl _)
    clear hR hF hSy hSt hB hb4 hHR
    have c5 := hcell (k := 5) (v := .slice ya ys.length yc) hR4 rfl
    have c6 := hcell (k := 6) (v := .slice ta ts.length tc) hR4 rfl
    by_cases hno : ys.length ≤ k ∨ ts.length ≤ k
    · have hO := HNone.out hno
      subst hO
      have f0 := hfroz (k := 0) hF4
      have f1 := hfroz (k := 1) hF4
      have f2 := hfroz (k := 2) hF4
      have g0 := hcell (k := 0) (v := .int .i64 0) hF4 rfl
      have g1 := hcell (k := 1) (v := .int .i64 0) hF4 rfl
      have g2 := hcell (k := 2) (v := .int .i64 0) hF4 rfl
      have hG2 := box3_set hF4 (.int .i64 0) (.int .i64 0) (.int .i64 0)
      have hB2 := hB4.grown (box3_grown (w := w4) (b := T + 1) (.int .i64 0) (.int .i64 0) (.int .i64 0)) hB4.size (fun j hj => by cases hj; omega)
      have hge : (if ts.length < ys.length then (ts.length : Int) else (ys.length : Int)) ≤ (k : Int) := by split <;> omega
      have hgd := decide_eq_true hge
      clear hge
      clear hR4 hF4 hB4 hno
      (try dsimp only [Option.getD, Option.isSome])
      go_wp2
      all_goals refine bodyPost_ret (results_c1t rfl _ _ (T + 1) 84 #[.int .i64 0, .int .i64 0, .int .i64 0] (0, 0) _ rfl hG2 Tryz.underlying84 rfl (by kernel_rfl)) rfl ⟨rfl, hB2⟩
    · have hly : k < ys.length := by omega
      have hlt : k < ts.length := by omega
      obtain ⟨y, hy⟩ : ∃ y, ys[k]? = some y := ⟨_, List.getElem?_eq_getElem hly⟩
      obtain ⟨t, ht⟩ : ∃ t, ts[k]? = some t := ⟨_, List.getElem?_eq_getElem hlt⟩
      have hO := HSome.out y t hy ht
      subst hO
      (try dsimp only [Option.getD, Option.isSome])
      have hge : ¬ (if ts.length < ys.length then (ts.length : Int) else (ys.length : Int)) ≤ (k : Int) := by split <;> omega
      have hgd := decide_eq_false hge
      clear hge
      obtain ⟨yb, yo, e1, hyb, _, hcy0⟩ := Hs.out.y.at1 hy
      obtain ⟨tb, to_, e2, htb, _, hct0⟩ := Hs.out.t.at1 ht
      dsimp only at e1 e2
      subst e1 e2
      have hcy := hbc hB4 hcy0
      have hct := hbc hB4 hct0
      have hyT : yb < T := by have := HTT.out; omega
      have htT : tb < T := by have := HTT.out; omega
      clear hcy0 hct0 hyb htb Hs
      go_upto_region 6 with fail
      clear hgd hno
      refine wp_region_inv (AtInv T yb yo tb to_ k x0 z0 x1 z1 ar y t ys.length yc ts.length tc w.heap.size w4 (fun s0 s1 s2 s3 s4 s5 s6 s7 s8 s9 s10 s11 s12 s14 => #[Value.agg #[Value.int IntKind.i64 x0, Value.int IntKind.i64 z0, Value.int IntKind.i64 x1, Value.int IntKind.i64 z1, Value.int IntKind.i64 ar, Value.slice (some { block := yb, off := yo }) ys.length yc, Value.slice (some { block := tb, off := to_ }) ts.length tc], Value.int IntKind.i64 x, Value.int IntKind.i64 z, Value.pointer (some { block := T, off := 0 }), undef, undef, Value.pointer (some { block := T + 1, off := 0 }), s14, Value.int IntKind.i64 ↑k, Value.pointer (some { block := T, off := 0 }), Value.int IntKind.i64 x0, Value.bool false, Value.bool false, Value.pointer (some { block := T, off := 2 }), Value.int IntKind.i64 x1, Value.bool false, Value.bool false, Value.bool false, Value.pointer (some { block := T, off := 1 }), Value.int IntKind.i64 z0, Value.bool false, Value.bool false, Value.bool false, Value.pointer (some { block := T, off := 3 }), Value.int IntKind.i64 z1, Value.bool false, Value.bool false, Value.bool false, Value.int IntKind.i64 x, Value.pointer (some { block := T, off := 0 }), Value.int IntKind.i64 x0, Value.bool false, Value.bool false, Value.bool false, Value.int IntKind.i64 x, Value.pointer (some { block := T, off := 2 }), Value.int IntKind.i64 x1, Value.bool false, Value.bool false, Value.bool false, Value.int IntKind.i64 z, Value.pointer (some { block := T, off := 1 }), Value.int IntKind.i64 z0, Value.bool false, Value.bool false, Value.bool false, Value.int IntKind.i64 z, Value.pointer (some { block := T, off := 3 }), Value.int IntKind.i64 z1, Value.bool false, Value.bool false, undef, Value.int IntKind.i64 z, Value.pointer (some { block := T, off := 1 }), Value.int IntKind.i64 z0, Value.int IntKind.i64 (z - z0), Value.int IntKind.i64 wd, Value.int IntKind.i64 ((z - z0) * wd), Value.int IntKind.i64 x, Value.int IntKind.i64 ((z - z0) * wd + x), Value.pointer (some { block := T, off := 0 }), Value.int IntKind.i64 x0, Value.int IntKind.i64 ↑k, Value.int IntKind.i64 ↑k, Value.pointer (some { block := T, off := 5 }), Value.slice (some { block := yb, off := yo }) ys.length yc, Value.int IntKind.i64 ↑ys.length, Value.pointer (some { block := T, off := 6 }), Value.slice (some { block := tb, off := to_ }) ts.length tc, Value.int IntKind.i64 ↑ts.length, Value.int IntKind.i64 (if ts.length < ys.length then ↑ts.length else ↑ys.length), Value.bool false, undef, s0, s1, s2, s3, s4, s5, s6, s7, s8, s9, s10, s11, s12]) []) (by kernel_rfl) (by kernel_rfl) ?_ ?_ ?_
      · unfold AtInv
        refine ⟨_, _, _, _, _, _, _, _, _, _, _, _, _, _, rfl, (Below.refl _ _).drew, hR4, hcy, hct, hF4, (fun h => by cases (show false = true from h)), (fun h => by cases (show false = true from h)), (fun h => by cases (show false = true from h)), (fun h => by cases (show false = true from h)), (fun h => by cases (show false = true from h)), (fun h => by cases (show false = true from h)), (fun h => by cases (show false = true from h)), (fun h => by cases (show false = true from h)), (fun h => by cases (show false = true from h)), (fun h => by cases (show false = true from h)), (fun h => by cases (show false = true from h)), (fun h => by cases (show false = true from h)), (fun h => by cases (show false = true from h)), (fun h => by cases (show false = true from h))⟩
      · intro L a wi i hs hI hi
        have hsN : L.size = 15 := hs
        have hn := ready_elim hi
        have hlt : i < 15 := by
            obtain ⟨o, ho, _⟩ := hn.2
            exact (Array.getElem?_eq_some_iff.1 ho).1
        have hi' := ready_not hi false (by rw [hs]; exact hlt)
        clear hn
        unfold AtInv at hI
        obtain ⟨s0, s1, s2, s3, s4, s5, s6, s7, s8, s9, s10, s11, s12, s14, rfl, hB, hF_R, hC_y, hC_t, hX_G, h0, h1, h2, h3, h4, h5, h6, h7, h8, h9, h10, h11, h12, h14⟩ := hI
        rcases (by omega : i = 0 ∨ i = 1 ∨ i = 2 ∨ i = 3 ∨ i = 4 ∨ i = 5 ∨ i = 6 ∨ i = 7 ∨ i = 8 ∨ i = 9 ∨ i = 10 ∨ i = 11 ∨ i = 12 ∨ i = 13 ∨ i = 14) with rfl | rfl | rfl | rfl | rfl | rfl | rfl | rfl | rfl | rfl | rfl | rfl | rfl | rfl | rfl
        · skip
          refine wpOp_of rfl rfl ?_
          go_simp
          unfold AtInv
          exact ⟨_, _, _, _, _, _, _, _, _, _, _, _, _, _, rfl, (hB), (hF_R), (hC_y), (hC_t), (by rw [getD_set_ne (by decide)]; exact hX_G), (fun _ => rfl), (fun h => h1 (by rwa [getD_set_ne (by decide)] at h)), (fun h => h2 (by rwa [getD_set_ne (by decide)] at h)), (fun h => h3 (by rwa [getD_set_ne (by decide)] at h)), (fun h => h4 (by rwa [getD_set_ne (by decide)] at h)), (fun h => h5 (by rwa [getD_set_ne (by decide)] at h)), (fun h => h6 (by rwa [getD_set_ne (by decide)] at h)), (fun h => h7 (by rwa [getD_set_ne (by decide)] at h)), (fun h => h8 (by rwa [getD_set_ne (by decide)] at h)), (fun h => h9 (by rwa [getD_set_ne (by decide)] at h)), (fun h => h10 (by rwa [getD_set_ne (by decide)] at h)), (fun h => h11 (by rwa [getD_set_ne (by decide)] at h)), (fun h => h12 (by rwa [getD_set_ne (by decide)] at h)), (fun h => h14 (by rwa [getD_set_ne (by decide)] at h))⟩
        · skip
          have e0 := h0 (ready_dep hi (by kernel_rfl))
          subst e0
          have c5 := hcell (k := 5) (v := .slice (some ⟨yb, yo, none⟩) ys.length yc) hF_R rfl
          refine wpOp_of rfl rfl ?_
          go_simp
          unfold AtInv
          exact ⟨_, _, _, _, _, _, _, _, _, _, _, _, _, _, rfl, (hB), (hF_R), (hC_y), (hC_t), (by rw [getD_set_ne (by decide)]; exact hX_G), (fun h => h0 (by rwa [getD_set_ne (by decide)] at h)), (fun _ => rfl), (fun h => h2 (by rwa [getD_set_ne (by decide)] at h)), (fun h => h3 (by rwa [getD_set_ne (by decide)] at h)), (fun h => h4 (by rwa [getD_set_ne (by decide)] at h)), (fun h => h5 (by rwa [getD_set_ne (by decide)] at h)), (fun h => h6 (by rwa [getD_set_ne (by decide)] at h)), (fun h => h7 (by rwa [getD_set_ne (by decide)] at h)), (fun h => h8 (by rwa [getD_set_ne (by decide)] at h)), (fun h => h9 (by rwa [getD_set_ne (by decide)] at h)), (fun h => h10 (by rwa [getD_set_ne (by decide)] at h)), (fun h => h11 (by rwa [getD_set_ne (by decide)] at h)), (fun h => h12 (by rwa [getD_set_ne (by decide)] at h)), (fun h => h14 (by rwa [getD_set_ne (by decide)] at h))⟩
        · skip
          refine wpOp_of rfl rfl ?_
          go_simp
          unfold AtInv
          exact ⟨_, _, _, _, _, _, _, _, _, _, _, _, _, _, rfl, (hB), (hF_R), (hC_y), (hC_t), (by rw [getD_set_ne (by decide)]; exact hX_G), (fun h => h0 (by rwa [getD_set_ne (by decide)] at h)), (fun h => h1 (by rwa [getD_set_ne (by decide)] at h)), (fun _ => rfl), (fun h => h3 (by rwa [getD_set_ne (by decide)] at h)), (fun h => h4 (by rwa [getD_set_ne (by decide)] at h)), (fun h => h5 (by rwa [getD_set_ne (by decide)] at h)), (fun h => h6 (by rwa [getD_set_ne (by decide)] at h)), (fun h => h7 (by rwa [getD_set_ne (by decide)] at h)), (fun h => h8 (by rwa [getD_set_ne (by decide)] at h)), (fun h => h9 (by rwa [getD_set_ne (by decide)] at h)), (fun h => h10 (by rwa [getD_set_ne (by decide)] at h)), (fun h => h11 (by rwa [getD_set_ne (by decide)] at h)), (fun h => h12 (by rwa [getD_set_ne (by decide)] at h)), (fun h => h14 (by rwa [getD_set_ne (by decide)] at h))⟩
        · skip
          have e1 := h1 (ready_dep hi (by kernel_rfl))
          subst e1
          have e2 := h2 (ready_dep hi (by kernel_rfl))
          subst e2
          refine wpOp_of rfl rfl ?_
          go_simp
          unfold AtInv
          exact ⟨_, _, _, _, _, _, _, _, _, _, _, _, _, _, rfl, (hB), (hF_R), (hC_y), (hC_t), (by rw [getD_set_ne (by decide)]; exact hX_G), (fun h => h0 (by rwa [getD_set_ne (by decide)] at h)), (fun h => h1 (by rwa [getD_set_ne (by decide)] at h)), (fun h => h2 (by rwa [getD_set_ne (by decide)] at h)), (fun _ => rfl), (fun h => h4 (by rwa [getD_set_ne (by decide)] at h)), (fun h => h5 (by rwa [getD_set_ne (by decide)] at h)), (fun h => h6 (by rwa [getD_set_ne (by decide)] at h)), (fun h => h7 (by rwa [getD_set_ne (by decide)] at h)), (fun h => h8 (by rwa [getD_set_ne (by decide)] at h)), (fun h => h9 (by rwa [getD_set_ne (by decide)] at h)), (fun h => h10 (by rwa [getD_set_ne (by decide)] at h)), (fun h => h11 (by rwa [getD_set_ne (by decide)] at h)), (fun h => h12 (by rwa [getD_set_ne (by decide)] at h)), (fun h => h14 (by rwa [getD_set_ne (by decide)] at h))⟩
        · skip
          have e3 := h3 (ready_dep hi (by kernel_rfl))
          subst e3
          refine wpOp_of rfl rfl ?_
          go_simp
          unfold AtInv
          exact ⟨_, _, _, _, _, _, _, _, _, _, _, _, _, _, rfl, (hB), (hF_R), (hC_y), (hC_t), (by rw [getD_set_ne (by decide)]; exact hX_G), (fun h => h0 (by rwa [getD_set_ne (by decide)] at h)), (fun h => h1 (by rwa [getD_set_ne (by decide)] at h)), (fun h => h2 (by rwa [getD_set_ne (by decide)] at h)), (fun h => h3 (by rwa [getD_set_ne (by decide)] at h)), (fun _ => rfl), (fun h => h5 (by rwa [getD_set_ne (by decide)] at h)), (fun h => h6 (by rwa [getD_set_ne (by decide)] at h)), (fun h => h7 (by rwa [getD_set_ne (by decide)] at h)), (fun h => h8 (by rwa [getD_set_ne (by decide)] at h)), (fun h => h9 (by rwa [getD_set_ne (by decide)] at h)), (fun h => h10 (by rwa [getD_set_ne (by decide)] at h)), (fun h => h11 (by rwa [getD_set_ne (by decide)] at h)), (fun h => h12 (by rwa [getD_set_ne (by decide)] at h)), (fun h => h14 (by rwa [getD_set_ne (by decide)] at h))⟩
        · skip
          refine wpOp_of rfl rfl ?_
          go_simp
          unfold AtInv
          exact ⟨_, _, _, _, _, _, _, _, _, _, _, _, _, _, rfl, (hB), (hF_R), (hC_y), (hC_t), (by rw [getD_set_ne (by decide)]; exact hX_G), (fun h => h0 (by rwa [getD_set_ne (by decide)] at h)), (fun h => h1 (by rwa [getD_set_ne (by decide)] at h)), (fun h => h2 (by rwa [getD_set_ne (by decide)] at h)), (fun h => h3 (by rwa [getD_set_ne (by decide)] at h)), (fun h => h4 (by rwa [getD_set_ne (by decide)] at h)), (fun _ => rfl), (fun h => h6 (by rwa [getD_set_ne (by decide)] at h)), (fun h => h7 (by rwa [getD_set_ne (by decide)] at h)), (fun h => h8 (by rwa [getD_set_ne (by decide)] at h)), (fun h => h9 (by rwa [getD_set_ne (by decide)] at h)), (fun h => h10 (by rwa [getD_set_ne (by decide)] at h)), (fun h => h11 (by rwa [getD_set_ne (by decide)] at h)), (fun h => h12 (by rwa [getD_set_ne (by decide)] at h)), (fun h => h14 (by rwa [getD_set_ne (by decide)] at h))⟩
        · skip
          have e5 := h5 (ready_dep hi (by kernel_rfl))
          subst e5
          have c6 := hcell (k := 6) (v := .slice (some ⟨tb, to_, none⟩) ts.length tc) hF_R rfl
          refine wpOp_of rfl rfl ?_
          go_simp
          unfold AtInv
          exact ⟨_, _, _, _, _, _, _, _, _, _, _, _, _, _, rfl, (hB), (hF_R), (hC_y), (hC_t), (by rw [getD_set_ne (by decide)]; exact hX_G), (fun h => h0 (by rwa [getD_set_ne (by decide)] at h)), (fun h => h1 (by rwa [getD_set_ne (by decide)] at h)), (fun h => h2 (by rwa [getD_set_ne (by decide)] at h)), (fun h => h3 (by rwa [getD_set_ne (by decide)] at h)), (fun h => h4 (by rwa [getD_set_ne (by decide)] at h)), (fun h => h5 (by rwa [getD_set_ne (by decide)] at h)), (fun _ => rfl), (fun h => h7 (by rwa [getD_set_ne (by decide)] at h)), (fun h => h8 (by rwa [getD_set_ne (by decide)] at h)), (fun h => h9 (by rwa [getD_set_ne (by decide)] at h)), (fun h => h10 (by rwa [getD_set_ne (by decide)] at h)), (fun h => h11 (by rwa [getD_set_ne (by decide)] at h)), (fun h => h12 (by rwa [getD_set_ne (by decide)] at h)), (fun h => h14 (by rwa [getD_set_ne (by decide)] at h))⟩
        · skip
          refine wpOp_of rfl rfl ?_
          go_simp
          unfold AtInv
          exact ⟨_, _, _, _, _, _, _, _, _, _, _, _, _, _, rfl, (hB), (hF_R), (hC_y), (hC_t), (by rw [getD_set_ne (by decide)]; exact hX_G), (fun h => h0 (by rwa [getD_set_ne (by decide)] at h)), (fun h => h1 (by rwa [getD_set_ne (by decide)] at h)), (fun h => h2 (by rwa [getD_set_ne (by decide)] at h)), (fun h => h3 (by rwa [getD_set_ne (by decide)] at h)), (fun h => h4 (by rwa [getD_set_ne (by decide)] at h)), (fun h => h5 (by rwa [getD_set_ne (by decide)] at h)), (fun h => h6 (by rwa [getD_set_ne (by decide)] at h)), (fun _ => rfl), (fun h => h8 (by rwa [getD_set_ne (by decide)] at h)), (fun h => h9 (by rwa [getD_set_ne (by decide)] at h)), (fun h => h10 (by rwa [getD_set_ne (by decide)] at h)), (fun h => h11 (by rwa [getD_set_ne (by decide)] at h)), (fun h => h12 (by rwa [getD_set_ne (by decide)] at h)), (fun h => h14 (by rwa [getD_set_ne (by decide)] at h))⟩
        · skip
          have e6 := h6 (ready_dep hi (by kernel_rfl))
          subst e6
          have e7 := h7 (ready_dep hi (by kernel_rfl))
          subst e7
          refine wpOp_of rfl rfl ?_
          go_simp
          unfold AtInv
          exact ⟨_, _, _, _, _, _, _, _, _, _, _, _, _, _, rfl, (hB), (hF_R), (hC_y), (hC_t), (by rw [getD_set_ne (by decide)]; exact hX_G), (fun h => h0 (by rwa [getD_set_ne (by decide)] at h)), (fun h => h1 (by rwa [getD_set_ne (by decide)] at h)), (fun h => h2 (by rwa [getD_set_ne (by decide)] at h)), (fun h => h3 (by rwa [getD_set_ne (by decide)] at h)), (fun h => h4 (by rwa [getD_set_ne (by decide)] at h)), (fun h => h5 (by rwa [getD_set_ne (by decide)] at h)), (fun h => h6 (by rwa [getD_set_ne (by decide)] at h)), (fun h => h7 (by rwa [getD_set_ne (by decide)] at h)), (fun _ => rfl), (fun h => h9 (by rwa [getD_set_ne (by decide)] at h)), (fun h => h10 (by rwa [getD_set_ne (by decide)] at h)), (fun h => h11 (by rwa [getD_set_ne (by decide)] at h)), (fun h => h12 (by rwa [getD_set_ne (by decide)] at h)), (fun h => h14 (by rwa [getD_set_ne (by decide)] at h))⟩
        · skip
          have e8 := h8 (ready_dep hi (by kernel_rfl))
          subst e8
          refine wpOp_of rfl rfl ?_
          go_simp
          unfold AtInv
          exact ⟨_, _, _, _, _, _, _, _, _, _, _, _, _, _, rfl, (hB), (hF_R), (hC_y), (hC_t), (by rw [getD_set_ne (by decide)]; exact hX_G), (fun h => h0 (by rwa [getD_set_ne (by decide)] at h)), (fun h => h1 (by rwa [getD_set_ne (by decide)] at h)), (fun h => h2 (by rwa [getD_set_ne (by decide)] at h)), (fun h => h3 (by rwa [getD_set_ne (by decide)] at h)), (fun h => h4 (by rwa [getD_set_ne (by decide)] at h)), (fun h => h5 (by rwa [getD_set_ne (by decide)] at h)), (fun h => h6 (by rwa [getD_set_ne (by decide)] at h)), (fun h => h7 (by rwa [getD_set_ne (by decide)] at h)), (fun h => h8 (by rwa [getD_set_ne (by decide)] at h)), (fun _ => rfl), (fun h => h10 (by rwa [getD_set_ne (by decide)] at h)), (fun h => h11 (by rwa [getD_set_ne (by decide)] at h)), (fun h => h12 (by rwa [getD_set_ne (by decide)] at h)), (fun h => h14 (by rwa [getD_set_ne (by decide)] at h))⟩
        · skip
          refine wpOp_of rfl rfl ?_
          go_simp
          unfold AtInv
          exact ⟨_, _, _, _, _, _, _, _, _, _, _, _, _, _, rfl, (hB), (hF_R), (hC_y), (hC_t), (by rw [getD_set_ne (by decide)]; exact hX_G), (fun h => h0 (by rwa [getD_set_ne (by decide)] at h)), (fun h => h1 (by rwa [getD_set_ne (by decide)] at h)), (fun h => h2 (by rwa [getD_set_ne (by decide)] at h)), (fun h => h3 (by rwa [getD_set_ne (by decide)] at h)), (fun h => h4 (by rwa [getD_set_ne (by decide)] at h)), (fun h => h5 (by rwa [getD_set_ne (by decide)] at h)), (fun h => h6 (by rwa [getD_set_ne (by decide)] at h)), (fun h => h7 (by rwa [getD_set_ne (by decide)] at h)), (fun h => h8 (by rwa [getD_set_ne (by decide)] at h)), (fun h => h9 (by rwa [getD_set_ne (by decide)] at h)), (fun _ => rfl), (fun h => h11 (by rwa [getD_set_ne (by decide)] at h)), (fun h => h12 (by rwa [getD_set_ne (by decide)] at h)), (fun h => h14 (by rwa [getD_set_ne (by decide)] at h))⟩
        · skip
          have e10 := h10 (ready_dep hi (by kernel_rfl))
          subst e10
          have c4 := hcell (k := 4) (v := .int .i64 ar) hF_R rfl
          refine wpOp_of rfl rfl ?_
          go_simp
          unfold AtInv
          exact ⟨_, _, _, _, _, _, _, _, _, _, _, _, _, _, rfl, (hB), (hF_R), (hC_y), (hC_t), (by rw [getD_set_ne (by decide)]; exact hX_G), (fun h => h0 (by rwa [getD_set_ne (by decide)] at h)), (fun h => h1 (by rwa [getD_set_ne (by decide)] at h)), (fun h => h2 (by rwa [getD_set_ne (by decide)] at h)), (fun h => h3 (by rwa [getD_set_ne (by decide)] at h)), (fun h => h4 (by rwa [getD_set_ne (by decide)] at h)), (fun h => h5 (by rwa [getD_set_ne (by decide)] at h)), (fun h => h6 (by rwa [getD_set_ne (by decide)] at h)), (fun h => h7 (by rwa [getD_set_ne (by decide)] at h)), (fun h => h8 (by rwa [getD_set_ne (by decide)] at h)), (fun h => h9 (by rwa [getD_set_ne (by decide)] at h)), (fun h => h10 (by rwa [getD_set_ne (by decide)] at h)), (fun _ => rfl), (fun h => h12 (by rwa [getD_set_ne (by decide)] at h)), (fun h => h14 (by rwa [getD_set_ne (by decide)] at h))⟩
        · skip
          have e4 := h4 (ready_dep hi (by kernel_rfl))
          subst e4
          have e9 := h9 (ready_dep hi (by kernel_rfl))
          subst e9
          have e11 := h11 (ready_dep hi (by kernel_rfl))
          subst e11
          refine wpOp_of rfl rfl ?_
          go_simp
          unfold AtInv
          exact ⟨_, _, _, _, _, _, _, _, _, _, _, _, _, _, rfl, (hB), (hF_R), (hC_y), (hC_t), (by rw [getD_set_ne (by decide)]; exact hX_G), (fun h => h0 (by rwa [getD_set_ne (by decide)] at h)), (fun h => h1 (by rwa [getD_set_ne (by decide)] at h)), (fun h => h2 (by rwa [getD_set_ne (by decide)] at h)), (fun h => h3 (by rwa [getD_set_ne (by decide)] at h)), (fun h => h4 (by rwa [getD_set_ne (by decide)] at h)), (fun h => h5 (by rwa [getD_set_ne (by decide)] at h)), (fun h => h6 (by rwa [getD_set_ne (by decide)] at h)), (fun h => h7 (by rwa [getD_set_ne (by decide)] at h)), (fun h => h8 (by rwa [getD_set_ne (by decide)] at h)), (fun h => h9 (by rwa [getD_set_ne (by decide)] at h)), (fun h => h10 (by rwa [getD_set_ne (by decide)] at h)), (fun h => h11 (by rwa [getD_set_ne (by decide)] at h)), (fun _ => rfl), (fun h => h14 (by rwa [getD_set_ne (by decide)] at h))⟩
        · skip
          have e12 := h12 (ready_dep hi (by kernel_rfl))
          subst e12
          have e3 := hX_G
          rw [hi'] at e3
          have e3 : wi.heap[T + 1]? = some (.cells #[.int .i64 0, .int .i64 0, .int .i64 0] 84 (0, 0)) := e3
          have f0 := hfroz (k := 0) e3
          have z0 := hcell (k := 0) (v := .int .i64 0) e3 rfl
          have f1 := hfroz (k := 1) e3
          have z1 := hcell (k := 1) (v := .int .i64 0) e3 rfl
          have f2 := hfroz (k := 2) e3
          have z2 := hcell (k := 2) (v := .int .i64 0) e3 rfl
          have hG := bx3_grown (w := wi) (b := T + 1) (.int .i64 y) (.int .i64 t) (.int .i64 ar)
          have hN := bx3_set e3 (.int .i64 y) (.int .i64 t) (.int .i64 ar)
          refine wpOp_of rfl rfl ?_
          go_simp
          unfold AtInv
          exact ⟨_, _, _, _, _, _, _, _, _, _, _, _, _, _, rfl, (hB.grown hG (Nat.le_trans (hB4.size) hB.size) (fun j hj => by cases hj; omega)), (hgrown hG hF_R (by simp only [ne_eq, Option.some.injEq]; omega)), (hG.cell hC_y (by simp only [ne_eq, Option.some.injEq]; omega)), (hG.cell hC_t (by simp only [ne_eq, Option.some.injEq]; omega)), (by rw [getD_set_eq (by omega)]; exact hN), (fun h => h0 (by rwa [getD_set_ne (by decide)] at h)), (fun h => h1 (by rwa [getD_set_ne (by decide)] at h)), (fun h => h2 (by rwa [getD_set_ne (by decide)] at h)), (fun h => h3 (by rwa [getD_set_ne (by decide)] at h)), (fun h => h4 (by rwa [getD_set_ne (by decide)] at h)), (fun h => h5 (by rwa [getD_set_ne (by decide)] at h)), (fun h => h6 (by rwa [getD_set_ne (by decide)] at h)), (fun h => h7 (by rwa [getD_set_ne (by decide)] at h)), (fun h => h8 (by rwa [getD_set_ne (by decide)] at h)), (fun h => h9 (by rwa [getD_set_ne (by decide)] at h)), (fun h => h10 (by rwa [getD_set_ne (by decide)] at h)), (fun h => h11 (by rwa [getD_set_ne (by decide)] at h)), (fun h => h12 (by rwa [getD_set_ne (by decide)] at h)), (fun h => h14 (by rwa [getD_set_ne (by decide)] at h))⟩
        · skip
          refine wpOp_of rfl rfl ?_
          go_simp
          unfold AtInv
          exact ⟨_, _, _, _, _, _, _, _, _, _, _, _, _, _, rfl, (hB), (hF_R), (hC_y), (hC_t), (by rw [getD_set_ne (by decide)]; exact hX_G), (fun h => h0 (by rwa [getD_set_ne (by decide)] at h)), (fun h => h1 (by rwa [getD_set_ne (by decide)] at h)), (fun h => h2 (by rwa [getD_set_ne (by decide)] at h)), (fun h => h3 (by rwa [getD_set_ne (by decide)] at h)), (fun h => h4 (by rwa [getD_set_ne (by decide)] at h)), (fun h => h5 (by rwa [getD_set_ne (by decide)] at h)), (fun h => h6 (by rwa [getD_set_ne (by decide)] at h)), (fun h => h7 (by rwa [getD_set_ne (by decide)] at h)), (fun h => h8 (by rwa [getD_set_ne (by decide)] at h)), (fun h => h9 (by rwa [getD_set_ne (by decide)] at h)), (fun h => h10 (by rwa [getD_set_ne (by decide)] at h)), (fun h => h11 (by rwa [getD_set_ne (by decide)] at h)), (fun h => h12 (by rwa [getD_set_ne (by decide)] at h)), (fun _ => rfl)⟩
      · intro L a wi hI hall
        unfold AtInv at hI
        obtain ⟨s0, s1, s2, s3, s4, s5, s6, s7, s8, s9, s10, s11, s12, s14, rfl, hB, hF_R, hC_y, hC_t, hX_G, h0, h1, h2, h3, h4, h5, h6, h7, h8, h9, h10, h11, h12, h14⟩ := hI
        have e0 := h0 (hall 0 (by decide))
        subst e0
        have e1 := h1 (hall 1 (by decide))
        subst e1
        have e2 := h2 (hall 2 (by decide))
        subst e2
        have e3 := h3 (hall 3 (by decide))
        subst e3
        have e4 := h4 (hall 4 (by decide))
        subst e4
        have e5 := h5 (hall 5 (by decide))
        subst e5
        have e6 := h6 (hall 6 (by decide))
        subst e6
        have e7 := h7 (hall 7 (by decide))
        subst e7
        have e8 := h8 (hall 8 (by decide))
        subst e8
        have e9 := h9 (hall 9 (by decide))
        subst e9
        have e10 := h10 (hall 10 (by decide))
        subst e10
        have e11 := h11 (hall 11 (by decide))
        subst e11
        have e12 := h12 (hall 12 (by decide))
        subst e12
        have e14 := h14 (hall 14 (by decide))
        subst e14
        rw [if_pos (hall 13 (by decide))] at hX_G
        clear hall 
        go_wp2
        all_goals refine bodyPost_ret (results_c1t rfl _ _ (T + 1) 84 #[.int .i64 y, .int .i64 t, .int .i64 ar] (0, 0) _ rfl hX_G Tryz.underlying84 rfl (by kernel_rfl)) rfl ⟨rfl, hB4.trans hB⟩
end Go.Proofs.YtmgkkmcihplojaaGreat
