/- Walks: rects.Same returns. -/
import Derived.Test.YtgfmdgiepomkiaaSmA
import Derived.Lib.QuietBelow
namespace Go.Proofs.Ytgfmdgiepomkiaa
open Go.RowKit Go.Sort
attribute [local go_sem] Instr.index

/-- Some boolean is told. -/
def BoPost (w : World) (e : Ending) (w' : World) : Prop := (∃ q : Bool, e = .returned (.bool q)) ∧ Below w.heap.size w w'
theorem BoPost.mk {w w' : World} (q : Bool) (hb : Below w.heap.size w w') : BoPost w (.returned (.bool q)) w' := ⟨⟨q, rfl⟩, hb⟩
set_option maxHeartbeats 4000000 in
theorem eqint_any (a b : Option Addr) (n c m d : Nat) (xs ys : List Int) (w : World) (hx : SlI .i64 w a n c xs) (hy : SlI .i64 w b m d ys) :
    Calls Try.prog 102 #[.slice a n c, .slice b m d] w (BoPost w) := by
  have hmax := hx.max
  have hle := hx.le
  have HX := Lib.hid (fun W (hb : Below w.heap.size w W) => hx.below hb (Nat.le_refl _))
  have HY := Lib.hid (fun W (hb : Below w.heap.size w W) => hy.below hb (Nat.le_refl _))
  clear hx hy
  by_cases hnm : n = m
  case neg =>
    have hI : ¬ (n : Int) = (m : Int) := by omega
    go_enter Try.func102, Try.ntmps102
    go_wp2
    go_ret
    exact BoPost.mk _ (Below.refl _ _)
  subst hnm
  go_enter Try.func102, Try.ntmps102
  go_wp2
  go_loopw [13] (fun i wr => ∃ k : Nat, i = .int .i64 k ∧ k ≤ n ∧ Below w.heap.size w wr) (fun i _ => n - (intOf i).toNat)
  case atStart => exact ⟨0, rfl, Nat.zero_le _, Below.refl _ _⟩
  case round =>
    obtain ⟨k, rfl, hk, hb⟩ := hrel
    by_cases hlt : k < n
    case neg =>
      obtain rfl : k = n := by omega
      have hI : ¬ (k : Int) < (k : Int) := by omega
      go_wp2
      go_ret
      exact BoPost.mk _ hb
    have hI : (k : Int) < (n : Int) := by omega
    have wi1 : IntKind.i64.wrap ((k : Int) + 1) = ((k + 1 : Nat) : Int) := by rw [IntKind.wrap_i64]; omega
    obtain ⟨b1, off1, rfl, h1⟩ := (HX.out _ hb).at0 (by omega)
    obtain ⟨b2, off2, rfl, h2⟩ := (HY.out _ hb).at0 (by omega)
    have p := h1 k hlt
    have q := h2 k hlt
    generalize xs.getD k 0 = x at p
    generalize ys.getD k 0 = y at q
    have e_p := fun d os => cell_regrown p d os
    have e_q := fun d os => cell_regrown q d os
    clear p q h1 h2
    go_wp2
    by_cases hxy : x = y
    case neg =>
      have q1 : (x != y) = true := by simp [hxy]
      clear hxy
      refine wp_region_quiet_below (by kernel_rfl) (by kernel_rfl) ?_
      repeat (go_big_quiet_step (fail))
      refine wpQuiet_nil ?_
      rintro w4 ⟨⟨dq, osq⟩, hw4⟩
      have hb4 : Below w.heap.size w w4 := by rw [hw4]; exact hb.trans ((below_regrown wr dq osq).mono hb.size)
      clear hw4 e_p e_q
      go_wp2
      go_ret
      exact BoPost.mk _ hb4
    have q1 : (x != y) = false := by simp [hxy]
    clear hxy
    refine wp_region_quiet_below (by kernel_rfl) (by kernel_rfl) ?_
    repeat (go_big_quiet_step (fail))
    refine wpQuiet_nil ?_
    rintro w4 ⟨⟨dq, osq⟩, hw4⟩
    have hb4 : Below w.heap.size w w4 := by rw [hw4]; exact hb.trans ((below_regrown wr dq osq).mono hb.size)
    clear hw4 e_p e_q
    go_wp2
    go_roundw
    case rel => exact ⟨k + 1, by go_num, by omega, hb4⟩
    case measure => simp [intOf]; omega
set_option maxRecDepth 100000 in
set_option maxHeartbeats 8000000 in
theorem rsame1_any (h : RHd) (r : Rc) (k : RHd) (s : Rc) (w : World) (hr : RcSl w h r) (hs : RcSl w k s) :
    Calls Try.prog 101 #[rcV h r, rcV k s] w (BoPost w) := by
  have hB : Below w.heap.size w ((w.alloc (rcO h r)).alloc (rcO k s)) := ((Below.refl _ _).alloc (Nat.le_refl _) _).alloc (by simp) _
  have h1 := halloc (World.alloc_heap_new w (rcO h r)) (rcO k s)
  have h2 := World.alloc_heap_new (w.alloc (rcO h r)) (rcO k s)
  simp only [World.size_alloc] at h2
  obtain ⟨W1, hW1⟩ : ∃ W, W = (w.alloc (rcO h r)).alloc (rcO k s) := ⟨_, rfl⟩
  rw [← hW1] at hB h1 h2
  have EY := Lib.hid (fun W (hb : Below W1.heap.size W1 W) => eqint_any _ _ _ _ _ _ _ _ _ ((hr.y.below hB (Nat.le_refl _)).below hb (Nat.le_refl _)) ((hs.y.below hB (Nat.le_refl _)).below hb (Nat.le_refl _)))
  have ET := Lib.hid (fun W (hb : Below W1.heap.size W1 W) => eqint_any _ _ _ _ _ _ _ _ _ ((hr.t.below hB (Nat.le_refl _)).below hb (Nat.le_refl _)) ((hs.t.below hB (Nat.le_refl _)).below hb (Nat.le_refl _)))
  clear hr hs
  obtain ⟨S0, hS0⟩ : ∃ S, S = w.heap.size := ⟨_, rfl⟩
  rw [← hS0] at h1 h2
  have HR1 := Lib.hid h1
  have HR2 := Lib.hid h2
  clear h1 h2
  dsimp only [rcO, rcV] at HR1 HR2 hW1 ⊢
  go_enter Try.func101, Try.ntmps101
  go_upto_region 1 with fail
  rw [← hW1, ← hS0]
  clear hW1 hS0
  have c0 := hcell (k := 0) (v := .int .i64 r.x0) HR1.out rfl
  have c1 := hcell (k := 1) (v := .int .i64 r.z0) HR1.out rfl
  have c2 := hcell (k := 2) (v := .int .i64 r.x1) HR1.out rfl
  have c3 := hcell (k := 3) (v := .int .i64 r.z1) HR1.out rfl
  have c4 := hcell (k := 4) (v := .int .i64 r.area) HR1.out rfl
  have c5 := hcell (k := 5) (v := .slice h.ya r.ys.length h.yc) HR1.out rfl
  have c6 := hcell (k := 6) (v := .slice h.ta r.ts.length h.tc) HR1.out rfl
  have d0 := hcell (k := 0) (v := .int .i64 s.x0) HR2.out rfl
  have d1 := hcell (k := 1) (v := .int .i64 s.z0) HR2.out rfl
  have d2 := hcell (k := 2) (v := .int .i64 s.x1) HR2.out rfl
  have d3 := hcell (k := 3) (v := .int .i64 s.z1) HR2.out rfl
  have d4 := hcell (k := 4) (v := .int .i64 s.area) HR2.out rfl
  have d5 := hcell (k := 5) (v := .slice k.ya s.ys.length k.yc) HR2.out rfl
  have d6 := hcell (k := 6) (v := .slice k.ta s.ts.length k.tc) HR2.out rfl
  by_cases e0 : r.x0 = s.x0
  case neg =>
    have q0 : (r.x0 == s.x0) = false := by simp [e0]
    clear e0
    go_wp2
    go_ret
    exact BoPost.mk _ hB
  have q0 : (r.x0 == s.x0) = true := by simp [e0]
  clear e0
  by_cases e1 : r.z0 = s.z0
  case neg =>
    have q1 : (r.z0 == s.z0) = false := by simp [e1]
    clear e1
    go_wp2
    go_ret
    exact BoPost.mk _ hB
  have q1 : (r.z0 == s.z0) = true := by simp [e1]
  clear e1
  by_cases e2 : r.x1 = s.x1
  case neg =>
    have q2 : (r.x1 == s.x1) = false := by simp [e2]
    clear e2
    go_wp2
    go_ret
    exact BoPost.mk _ hB
  have q2 : (r.x1 == s.x1) = true := by simp [e2]
  clear e2
  by_cases e3 : r.z1 = s.z1
  case neg =>
    have q3 : (r.z1 == s.z1) = false := by simp [e3]
    clear e3
    go_wp2
    go_ret
    exact BoPost.mk _ hB
  have q3 : (r.z1 == s.z1) = true := by simp [e3]
  clear e3
  by_cases e4 : r.area = s.area
  case neg =>
    have q4 : (r.area == s.area) = false := by simp [e4]
    clear e4
    go_wp2
    go_ret
    exact BoPost.mk _ hB
  have q4 : (r.area == s.area) = true := by simp [e4]
  clear e4
  go_wp2_with fail
  refine (EY.out _ (Below.refl _ _)).mono ?_
  rintro e w2 ⟨⟨q, rfl⟩, hb2⟩
  have hB2 := hB.trans (hb2.mono hB.size)
  clear c0 c1 c2 c3 c4 c5 c6 d0 d1 d2 d3 d4 d5 d6
  cases q with
  | false =>
    go_wp2
    go_ret
    exact BoPost.mk _ hB2
  | true =>
  have c6 := hcell (k := 6) (v := .slice h.ta r.ts.length h.tc) (hkeep hb2 HR1.out) rfl
  have d6 := hcell (k := 6) (v := .slice k.ta s.ts.length k.tc) (hkeep hb2 HR2.out) rfl
  go_wp2_with fail
  refine (ET.out _ hb2).mono ?_
  rintro e w3 ⟨⟨q, rfl⟩, hb3⟩
  have hB3 := hB2.trans (hb3.mono hB2.size)
  clear c6 d6
  go_wp2
  go_ret
  exact BoPost.mk _ hB3
abbrev same1V : Value := .func (.func 101) #[] #[]
set_option maxRecDepth 100000 in
set_option maxHeartbeats 8000000 in
theorem eqfrc_any (a b : Option Addr) (n c m d : Nat) (xs ys : List (RHd × Rc)) (w : World) (hx : SlRc w a n c xs) (hy : SlRc w b m d ys) :
    Calls Try.prog 100 #[.slice a n c, .slice b m d, same1V] w (BoPost w) := by
  have Hl := Lib.hid hx.sl.len
  have Hm := Lib.hid hy.sl.len
  have hmax := hx.sl.max
  have hle := hx.sl.le
  have HX := Lib.hid (fun W (hb : Below w.heap.size w W) => hx.below hb (Nat.le_refl _))
  have HY := Lib.hid (fun W (hb : Below w.heap.size w W) => hy.below hb (Nat.le_refl _))
  clear hx hy
  have SM := Lib.hid (fun h r k s W hr hs => rsame1_any h r k s W hr hs)
  by_cases hnm : n = m
  case neg =>
    have hI : ¬ (n : Int) = (m : Int) := by omega
    go_enter Try.func100, Try.ntmps100
    go_wp2
    go_ret
    exact BoPost.mk _ (Below.refl _ _)
  subst hnm
  go_enter Try.func100, Try.ntmps100
  go_wp2
  go_loopw [17] (fun i wr => ∃ k : Nat, i = .int .i64 k ∧ k ≤ n ∧ Below w.heap.size w wr) (fun i _ => n - (intOf i).toNat)
  case atStart => exact ⟨0, rfl, Nat.zero_le _, Below.refl _ _⟩
  case round =>
    obtain ⟨k, rfl, hk, hb⟩ := hrel
    by_cases hlt : k < n
    case neg =>
      obtain rfl : k = n := by omega
      have hI : ¬ (k : Int) < (k : Int) := by omega
      go_wp2
      go_ret
      exact BoPost.mk _ hb
    have hI : (k : Int) < (n : Int) := by omega
    have wi1 : IntKind.i64.wrap ((k : Int) + 1) = ((k + 1 : Nat) : Int) := by rw [IntKind.wrap_i64]; omega
    obtain ⟨⟨h, r⟩, hxk⟩ : ∃ x, xs[k]? = some x := ⟨_, List.getElem?_eq_getElem (by rw [Hl.out]; exact hlt)⟩
    obtain ⟨⟨g, s⟩, hyk⟩ : ∃ x, ys[k]? = some x := ⟨_, List.getElem?_eq_getElem (by rw [Hm.out]; exact hlt)⟩
    have hw := HX.out _ hb
    have hv := HY.out _ hb
    obtain ⟨B, off, rfl, hB1, _⟩ := hw.sl.at0 (by omega)
    obtain ⟨C, ofg, rfl, hC1, _⟩ := hv.sl.at0 (by omega)
    have r0 := hw.at hxk 0 _ rfl
    have s0 := hv.at hyk 0 _ rfl
    have r1 := hw.at hxk 1 _ rfl
    have s1 := hv.at hyk 1 _ rfl
    have r2 := hw.at hxk 2 _ rfl
    have s2 := hv.at hyk 2 _ rfl
    have r3 := hw.at hxk 3 _ rfl
    have s3 := hv.at hyk 3 _ rfl
    have r4 := hw.at hxk 4 _ rfl
    have s4 := hv.at hyk 4 _ rfl
    have r5 := hw.at hxk 5 _ rfl
    have s5 := hv.at hyk 5 _ rfl
    have r6 := hw.at hxk 6 _ rfl
    have s6 := hv.at hyk 6 _ rfl
    simp only [Nat.add_zero] at r0 s0
    have hA1 : Below wr.heap.size wr (wr.alloc (rcO h r)) := (Below.refl _ _).alloc (Nat.le_refl _) _
    have hA2 : Below wr.heap.size wr ((wr.alloc (rcO h r)).alloc (rcO g s)) := hA1.alloc (by simp) _
    have hN1 := halloc (World.alloc_heap_new wr (rcO h r)) (rcO g s)
    have hN2 := World.alloc_heap_new (wr.alloc (rcO h r)) (rcO g s)
    simp only [World.size_alloc] at hN2
    have HS := Lib.hid ((hw.one hxk).below hA2 (Nat.le_refl _))
    have HT := Lib.hid ((hv.one hyk).below hA2 (Nat.le_refl _))
    have hb2 := hb.trans (hA2.mono hb.size)
    have u0 := hbc hA1 s0
    have u1 := hbc hA1 s1
    have u2 := hbc hA1 s2
    have u3 := hbc hA1 s3
    have u4 := hbc hA1 s4
    have u5 := hbc hA1 s5
    have u6 := hbc hA1 s6
    clear hw hv hxk hyk s0 s1 s2 s3 s4 s5 s6 hA1 hA2
    dsimp only [rcO] at hN1 hN2 HS HT hb2 u0 u1 u2 u3 u4 u5 u6
    have c0 := hcell (k := 0) (v := .int .i64 r.x0) hN1 rfl
    have c1 := hcell (k := 1) (v := .int .i64 r.z0) hN1 rfl
    have c2 := hcell (k := 2) (v := .int .i64 r.x1) hN1 rfl
    have c3 := hcell (k := 3) (v := .int .i64 r.z1) hN1 rfl
    have c4 := hcell (k := 4) (v := .int .i64 r.area) hN1 rfl
    have c5 := hcell (k := 5) (v := .slice h.ya r.ys.length h.yc) hN1 rfl
    have c6 := hcell (k := 6) (v := .slice h.ta r.ts.length h.tc) hN1 rfl
    have d0 := hcell (k := 0) (v := .int .i64 s.x0) hN2 rfl
    have d1 := hcell (k := 1) (v := .int .i64 s.z0) hN2 rfl
    have d2 := hcell (k := 2) (v := .int .i64 s.x1) hN2 rfl
    have d3 := hcell (k := 3) (v := .int .i64 s.z1) hN2 rfl
    have d4 := hcell (k := 4) (v := .int .i64 s.area) hN2 rfl
    have d5 := hcell (k := 5) (v := .slice g.ya s.ys.length g.yc) hN2 rfl
    have d6 := hcell (k := 6) (v := .slice g.ta s.ts.length g.tc) hN2 rfl
    clear hN1 hN2
    go_wp2_with fail
    refine (SM.out h r g s _ HS.out HT.out).mono ?_
    rintro e w1 ⟨⟨q, rfl⟩, hb1⟩
    have hb3 := hb2.trans (hb1.mono hb2.size)
    clear c0 c1 c2 c3 c4 c5 c6 d0 d1 d2 d3 d4 d5 d6 r0 r1 r2 r3 r4 r5 r6 u0 u1 u2 u3 u4 u5 u6 HS HT hb2 hb1
    cases q with
    | false =>
      go_wp2
      go_ret
      exact BoPost.mk _ hb3
    | true =>
      go_wp2
      go_roundw
      case rel => exact ⟨k + 1, by go_num, by omega, hb3⟩
      case measure => simp [intOf]; omega
theorem rsame_any (a b : Option Addr) (n c m d : Nat) (xs ys : List (RHd × Rc)) (w : World) (hx : SlRc w a n c xs) (hy : SlRc w b m d ys) :
    Calls Try.prog 82 #[.slice a n c, .slice b m d] w (BoPost w) := by
  have EF := Lib.hid (eqfrc_any a b n c m d xs ys w hx hy)
  clear hx hy
  go_enter Try.func82, Try.ntmps82
  go_wp2_with fail
  refine EF.out.mono ?_
  rintro e w1 ⟨⟨q, rfl⟩, hb⟩
  go_wp2
  go_ret
  exact BoPost.mk _ hb
end Go.Proofs.Ytgfmdgiepomkiaa
