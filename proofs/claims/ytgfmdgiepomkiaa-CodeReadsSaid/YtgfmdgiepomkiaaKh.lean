/- Walk: the reference's doors: open; a floor laid. -/
import Derived.Test.YtgfmdgiepomkiaaRcrA
import Derived.Test.YtgfmdgiepomkiaaLnr
import Derived.Test.YtgfmdgiepomkiaaHh
import Derived.Test.YtgfmdgiepomkiaaRctC
import Derived.Test.YtgfmdgiepomkiaaKg
import Derived.Test.YtgfmdgiepomkiaaGo
import Derived.Lib.QuietBelow
import Derived.BigQuiet
import Derived.Deep.Cut
import Derived.Deep.CutRange
import Derived.Test.YtgfmdgiepomkiaaKa
namespace Go.Proofs.Ytgfmdgiepomkiaa
open Go.RowKit Go.Sort
attribute [local go_sem] Instr.index

set_option maxRecDepth 100000 in
set_option maxHeartbeats 8000000 in
theorem refopen18_any (cf : Cfg) (ha : RHd) (ra : Rc) (hb : RHd) (rb : Rc) (ax az bx bz : Int) (w : World) (h1 : RcSl w ha ra) (h2 : RcSl w hb rb) :
    Calls Try.prog 130 #[cfgV cf, rcV ha ra, rcV hb rb, .int .i64 ax, .int .i64 az, .int .i64 bx, .int .i64 bz] w fun e w' => e = .returned (.bool ((rcAt ra ax az).isSome && ((rcAt rb bx bz).isSome && lnk cf (rcF ra ax az) (rcF rb bx bz)))) ∧ Below w.heap.size w w' := by
  have AT1 := Lib.hid (fun W (hb' : Below w.heap.size w W) => refat17_any ha ra ax az W (h1.below hb' (Nat.le_refl _)))
  have AT2 := Lib.hid (fun W (hb' : Below w.heap.size w W) => refat17_any hb rb bx bz W (h2.below hb' (Nat.le_refl _)))
  have LK := Lib.hid (fun W => reflinked_any cf (rcF ra ax az) (rcF rb bx bz) W)
  clear h1 h2
  generalize (rcAt ra ax az).isSome = o1 at AT1 ⊢
  generalize (rcAt rb bx bz).isSome = o2 at AT2 ⊢
  obtain ⟨r, hr⟩ : ∃ r, r = lnk cf (rcF ra ax az) (rcF rb bx bz) := ⟨_, rfl⟩
  rw [← hr] at LK ⊢
  clear hr
  generalize rcF ra ax az = f at AT1 LK
  generalize rcF rb bx bz = g at AT2 LK
  obtain ⟨fy, ft, fa⟩ := f
  obtain ⟨gy, gt, ga⟩ := g
  obtain ⟨W1, hW1⟩ : ∃ W, W = ((w.alloc (cfO cf)).alloc (rcO ha ra)).alloc (rcO hb rb) := ⟨_, rfl⟩
  have hC := halloc (halloc (World.alloc_heap_new w (cfO cf)) (rcO ha ra)) (rcO hb rb)
  have hA := halloc (World.alloc_heap_new (w.alloc (cfO cf)) (rcO ha ra)) (rcO hb rb)
  have hR := World.alloc_heap_new ((w.alloc (cfO cf)).alloc (rcO ha ra)) (rcO hb rb)
  have hB : Below w.heap.size w (((w.alloc (cfO cf)).alloc (rcO ha ra)).alloc (rcO hb rb)) := (((Below.refl _ _).alloc (Nat.le_refl _) _).alloc (by simp) _).alloc (by simp; omega) _
  simp only [World.size_alloc] at hA hR
  rw [← hW1] at hC hA hR hB
  dsimp only [cfO, cfgV, rcO, rcV, flrV] at hC hA hR hW1 AT1 AT2 LK ⊢
  have HC := Lib.hid hC
  have HR := Lib.hid hR
  clear hC hR
  have a0 := hcell (k := 0) (v := .int .i64 ra.x0) hA rfl
  have a1 := hcell (k := 1) (v := .int .i64 ra.z0) hA rfl
  have a2 := hcell (k := 2) (v := .int .i64 ra.x1) hA rfl
  have a3 := hcell (k := 3) (v := .int .i64 ra.z1) hA rfl
  have a4 := hcell (k := 4) (v := .int .i64 ra.area) hA rfl
  have a5 := hcell (k := 5) (v := .slice ha.ya ra.ys.length ha.yc) hA rfl
  have a6 := hcell (k := 6) (v := .slice ha.ta ra.ts.length ha.tc) hA rfl
  go_enter Try.func130, Try.ntmps130
  go_upto_region 1 with fail
  rw [← hW1]
  clear hW1
  go_wp2_with fail
  refine (AT1.out _ hB).mono ?_
  rintro e w2 ⟨rfl, hb2⟩
  have hB2 := hB.trans (hb2.mono hB.size)
  have HC2 := Lib.hid (hkeep hb2 HC.out)
  have HR2 := Lib.hid (hkeep hb2 HR.out)
  clear HC HR hA a0 a1 a2 a3 a4 a5 a6 hb2 AT1
  have hF1 := World.alloc_heap_new w2 (.cells #[.int .i64 fy, .int .i64 ft, .int .i64 fa] 102 (0, 0))
  have hL : Below w2.heap.size w2 (w2.alloc (.cells #[.int .i64 fy, .int .i64 ft, .int .i64 fa] 102 (0, 0))) := (Below.refl _ _).alloc (Nat.le_refl _) _
  go_upto_region 2 with fail
  obtain ⟨W3, hW3⟩ : ∃ W, W = w2.alloc (.cells #[.int .i64 fy, .int .i64 ft, .int .i64 fa] 102 (0, 0)) := ⟨_, rfl⟩
  rw [← hW3] at hL hF1 ⊢
  clear hW3
  have hB3 := hB2.trans (hL.mono hB2.size)
  have HC3 := Lib.hid (hkeep hL HC2.out)
  have hR3 := hkeep hL HR2.out
  have HF1 := Lib.hid hF1
  generalize w2.heap.size = p1 at HF1
  clear HC2 HR2 hL hB2 hF1
  have b0 := hcell (k := 0) (v := .int .i64 rb.x0) hR3 rfl
  have b1 := hcell (k := 1) (v := .int .i64 rb.z0) hR3 rfl
  have b2 := hcell (k := 2) (v := .int .i64 rb.x1) hR3 rfl
  have b3 := hcell (k := 3) (v := .int .i64 rb.z1) hR3 rfl
  have b4 := hcell (k := 4) (v := .int .i64 rb.area) hR3 rfl
  have b5 := hcell (k := 5) (v := .slice hb.ya rb.ys.length hb.yc) hR3 rfl
  have b6 := hcell (k := 6) (v := .slice hb.ta rb.ts.length hb.tc) hR3 rfl
  go_wp2_with fail
  refine (AT2.out _ hB3).mono ?_
  rintro e w4 ⟨rfl, hb4⟩
  have hB4 := hB3.trans (hb4.mono hB3.size)
  have HC4 := Lib.hid (hkeep hb4 HC3.out)
  have HF14 := Lib.hid (hkeep hb4 HF1.out)
  clear HC3 HF1 hR3 b0 b1 b2 b3 b4 b5 b6 hb4 AT2
  have hF2 := World.alloc_heap_new w4 (.cells #[.int .i64 gy, .int .i64 gt, .int .i64 ga] 102 (0, 0))
  have hL : Below w4.heap.size w4 (w4.alloc (.cells #[.int .i64 gy, .int .i64 gt, .int .i64 ga] 102 (0, 0))) := (Below.refl _ _).alloc (Nat.le_refl _) _
  go_upto_region 3 with fail
  obtain ⟨W5, hW5⟩ : ∃ W, W = w4.alloc (.cells #[.int .i64 gy, .int .i64 gt, .int .i64 ga] 102 (0, 0)) := ⟨_, rfl⟩
  rw [← hW5] at hL hF2 ⊢
  clear hW5
  have hB5 := hB4.trans (hL.mono hB4.size)
  have hC5 := hkeep hL HC4.out
  have hF15 := hkeep hL HF14.out
  generalize w4.heap.size = p2 at hF2 ⊢
  clear HC4 HF14 hL hB4
  have c0 := hcell (k := 0) (v := .int .i64 cf.clear) hC5 rfl
  have c1 := hcell (k := 1) (v := .int .i64 cf.climb) hC5 rfl
  have c2 := hcell (k := 2) (v := .int .i64 cf.height) hC5 rfl
  have c3 := hcell (k := 3) (v := .int .i64 cf.rise) hC5 rfl
  have c4 := hcell (k := 4) (v := .int .i64 cf.run) hC5 rfl
  have c5 := hcell (k := 5) (v := .int .i64 cf.w) hC5 rfl
  have c6 := hcell (k := 6) (v := .int .i64 cf.d) hC5 rfl
  have f0 := hcell (k := 0) (v := .int .i64 fy) hF15 rfl
  have f1 := hcell (k := 1) (v := .int .i64 ft) hF15 rfl
  have f2 := hcell (k := 2) (v := .int .i64 fa) hF15 rfl
  have g0 := hcell (k := 0) (v := .int .i64 gy) hF2 rfl
  have g1 := hcell (k := 1) (v := .int .i64 gt) hF2 rfl
  have g2 := hcell (k := 2) (v := .int .i64 ga) hF2 rfl
  clear hC5 hF15 hF2
  cases o1 with
  | false =>
    go_wp2
    go_ret
    exact ⟨rfl, hB5⟩
  | true =>
    cases o2 with
    | false =>
      go_wp2
      go_ret
      exact ⟨rfl, hB5⟩
    | true =>
      go_wp2_with fail
      refine (LK.out _).mono ?_
      rintro e w6 ⟨rfl, hb6⟩
      have hB6 := hB5.trans (hb6.mono hB5.size)
      cases r with
      | false =>
        go_wp2
        go_ret
        exact ⟨rfl, hB6⟩
      | true =>
        go_wp2
        go_ret
        exact ⟨rfl, hB6⟩
end Go.Proofs.Ytgfmdgiepomkiaa

namespace Go.Proofs.Ytgfmdgiepomkiaa
open Go.RowKit Go.Sort
attribute [local go_sem] Instr.index

theorem dr_block {B : Nat} {w : World} {v : Value} {n : Nat} {xs : List Dr} (h : OwnR drC 6 96 B w v n xs) (hn : 0 < n) : ∃ g c, v = .slice (some ⟨g, 0, none⟩) n c ∧ B ≤ g ∧ g < w.heap.size := by
  rcases h.2.2 with ⟨rfl, hx⟩ | ⟨g, cap, cur, rfl, hB, hg, _⟩
  · have hl := h.1
    rw [hx] at hl
    exact absurd hl (by omega)
  · exact ⟨g, cap, rfl, hB, (Array.getElem?_eq_some_iff.1 hg).1⟩
def AddPost (H : Nat) (D : List Dr) (w : World) (e : Ending) (w' : World) : Prop := ∃ s', e = .returned s' ∧ OwnR drC 6 96 H w' s' D.length D ∧ Below H w w'
set_option maxRecDepth 100000 in
set_option maxHeartbeats 8000000 in
theorem refadd18_any (H : Nat) (L : List Dr) (s : Value) (d : Dr) (w : World) (hs : OwnR drC 6 96 H w s L.length L) (hH : H ≤ w.heap.size) (hL : L.length ≤ 1000) :
    Calls Try.prog 131 #[s, .agg (drC d).toArray] w (AddPost H (addD L d) w) := by
  unfold AddPost
  have hB0 : Below w.heap.size w (w.alloc (.cells (drC d).toArray 96 (0, 0))) := (Below.refl _ _).alloc (Nat.le_refl _) _
  have hD := World.alloc_heap_new w (.cells (drC d).toArray 96 (0, 0))
  have hs1 := hs.below hB0 (Nat.le_refl _)
  have hB := hB0.mono hH
  have hsz := World.size_alloc w (.cells (drC d).toArray 96 (0, 0))
  obtain ⟨W1, hW1⟩ : ∃ W, W = w.alloc (.cells (drC d).toArray 96 (0, 0)) := ⟨_, rfl⟩
  rw [← hW1] at hB hD hs1 hsz
  have hS : w.heap.size < W1.heap.size := by omega
  have Hs := Lib.hid hs
  clear hB0 hs hsz
  obtain ⟨da, db, dx0, dz0, dx1, dz1⟩ := d
  dsimp only [drC] at hD hW1 ⊢
  have d0 := hcell (k := 0) (v := .int .i64 da) hD rfl
  have d1 := hcell (k := 1) (v := .int .i64 db) hD rfl
  have d2 := hcell (k := 2) (v := .int .i64 dx0) hD rfl
  have d3 := hcell (k := 3) (v := .int .i64 dz0) hD rfl
  have d4 := hcell (k := 4) (v := .int .i64 dx1) hD rfl
  have d5 := hcell (k := 5) (v := .int .i64 dz1) hD rfl
  obtain ⟨S, hSw⟩ : ∃ S, S = w.heap.size := ⟨_, rfl⟩
  rw [← hSw] at hH hS hD d0 d1 d2 d3 d4 d5
  have HS := Lib.hid hSw
  clear hSw
  cases hl : L.getLast? with
  | none =>
    have hnil : L = [] := List.getLast?_eq_none_iff.1 hl
    subst hnil
    obtain ⟨a, c, rfl, _⟩ := OwnR.reads drC_len hs1
    have hI : IntKind.i64.wrap (-1) = -1 := by rw [IntKind.wrap_i64]; omega
    clear hl
    go_enter Try.func131, Try.ntmps131
    go_upto_region 1 with fail
    rw [← hW1, ← HS.out]
    clear hW1 HS Hs
    go_upto_region 2 with fail
    refine wp_region_quiet_below (by kernel_rfl) (by kernel_rfl) ?_
    repeat (go_big_quiet_step (fail))
    refine wpQuiet_nil ?_
    rintro w4 ⟨⟨dq, osq⟩, hw4⟩
    have hb4 : Below W1.heap.size W1 w4 := by rw [hw4]; exact below_regrown W1 dq osq
    clear hw4
    have hs4 := hs1.below hb4 (Nat.le_refl _)
    have hB4 := hB.trans (hb4.mono (by omega))
    have hz4 := hb4.size
    have d0 := hbc hb4 d0
    have d1 := hbc hb4 d1
    have d2 := hbc hb4 d2
    have d3 := hbc hb4 d3
    have d4 := hbc hb4 d4
    have d5 := hbc hb4 d5
    clear hb4 hs1 hD hB
    go_wp2_with (at_builtin; refine wpList_appR (f := drC) (sz := 6) (e := 96) (B := H) (n := 0) (xs := []) _ drC_len drC_one rfl _ _ 25 rfl (.agg #[.int .i64 0, .int .i64 0, .int .i64 0, .int .i64 0, .int .i64 0, .int .i64 0]) 48 Try.underlying25 info_dr rfl (by decide) ⟨da, db, dx0, dz0, dx1, dz1⟩ 96 hs4 rfl rfl (by omega) (by omega) (by omega) ?_; intro v' w' hown' happ)
    have hBE := hB4.trans (happ.below (B := H) (by omega) (fun j hj => hs4.le j hj))
    clear happ hs4 hB4 d0 d1 d2 d3 d4 d5
    go_wp2
    go_ret
    exact ⟨_, rfl, hown', hBE⟩
  | some e =>
    obtain ⟨m, hm⟩ : ∃ m, L.length = m + 1 := by
      cases L with
      | nil => cases hl
      | cons x xs => exact ⟨xs.length, rfl⟩
    have hme : L[m]? = some e := by
      rw [List.getLast?_eq_getElem?, hm] at hl
      simpa using hl
    have hset : m = L.length - 1 := by omega
    have HJ := Lib.hid (fun (h : e.x1 = dx0) (h2 : e.z1 = dz0) => addD_join (d := ⟨da, db, dx0, dz0, dx1, dz1⟩) hl h h2)
    have HM := Lib.hid (fun h => addD_more (d := ⟨da, db, dx0, dz0, dx1, dz1⟩) hl h)
    rw [← hset] at HJ
    clear hset hl
    obtain ⟨g, c, rfl, hg1, hg2⟩ := dr_block Hs.out (by omega)
    have hgS : S ≠ g := by have := HS.out; omega
    clear Hs
    have hO := hs1
    rw [hm] at hO
    have q4 := OwnR.cellAt drC_len hO (j := 4) hme rfl
    have q5 := OwnR.cellAt drC_len hO (j := 5) hme rfl
    have hI : ((m + 1 : Nat) : Int) - 1 = (m : Int) := by omega
    have hI2 : IntKind.i64.wrap (((m + 1 : Nat) : Int) - 1) = (m : Int) := by rw [IntKind.wrap_i64]; omega
    obtain ⟨ea, eb, ex0, ez0, ex1, ez1⟩ := e
    dsimp only at q4 q5 HJ HM
    rw [hm]
    clear hs1
    obtain ⟨N, hN⟩ : ∃ N, N = m + 1 := ⟨_, rfl⟩
    rw [← hN] at hO hI hI2 ⊢
    go_enter Try.func131, Try.ntmps131
    go_upto_region 1 with fail
    rw [← hW1, ← HS.out]
    clear hW1 HS
    go_upto_region 2 with fail
    by_cases h1 : ex1 = dx0
    case neg =>
      have b1 : (ex1 == dx0) = false := by simpa using h1
      have e_q4 := fun d os => cell_regrown q4 d os
      have e_d2 := fun d os => cell_regrown d2 d os
      refine wp_region_quiet_below (by kernel_rfl) (by kernel_rfl) ?_
      repeat (go_big_quiet_step (fail))
      refine wpQuiet_nil ?_
      rintro w4 ⟨⟨dq, osq⟩, hw4⟩
      have hb4 : Below W1.heap.size W1 w4 := by rw [hw4]; exact below_regrown W1 dq osq
      clear hw4 e_q4 e_d2 q4 q5 hI hI2
      have hs4 := hO.below hb4 (Nat.le_refl _)
      have hB4 := hB.trans (hb4.mono (by omega))
      have hz4 := hb4.size
      have d0 := hbc hb4 d0
      have d1 := hbc hb4 d1
      have d2 := hbc hb4 d2
      have d3 := hbc hb4 d3
      have d4 := hbc hb4 d4
      have d5 := hbc hb4 d5
      clear hb4 hO hD hB
      go_wp2_with (at_builtin; refine wpList_appR (f := drC) (sz := 6) (e := 96) (B := H) (n := N) (xs := L) _ drC_len drC_one rfl _ _ 25 rfl (.agg #[.int .i64 0, .int .i64 0, .int .i64 0, .int .i64 0, .int .i64 0, .int .i64 0]) 48 Try.underlying25 info_dr rfl (by decide) ⟨da, db, dx0, dz0, dx1, dz1⟩ 96 hs4 rfl rfl (by omega) (by omega) (by omega) ?_; intro v' w' hown' happ)
      have hBE := hB4.trans (happ.below (B := H) (by omega) (fun j hj => hs4.le j hj))
      clear happ hs4 hB4 d0 d1 d2 d3 d4 d5
      have HMx := Lib.hid (HM.out (fun q => h1 q.1))
      clear HM HJ
      go_wp2
      go_ret
      refine ⟨_, rfl, ?_, hBE⟩
      rw [HMx.out, List.length_append, hm, ← hN]
      exact hown'
    have b1 : (ex1 == dx0) = true := by simpa using h1
    by_cases h2 : ez1 = dz0
    case neg =>
      have b2 : (ez1 == dz0) = false := by simpa using h2
      have e_q4 := fun d os => cell_regrown q4 d os
      have e_d2 := fun d os => cell_regrown d2 d os
      have e_q5 := fun d os => cell_regrown q5 d os
      have e_d3 := fun d os => cell_regrown d3 d os
      refine wp_region_quiet_below (by kernel_rfl) (by kernel_rfl) ?_
      repeat (go_big_quiet_step (fail))
      refine wpQuiet_nil ?_
      rintro w4 ⟨⟨dq, osq⟩, hw4⟩
      have hb4 : Below W1.heap.size W1 w4 := by rw [hw4]; exact below_regrown W1 dq osq
      clear hw4 e_q4 e_d2 e_q5 e_d3 q4 q5 hI hI2
      have hs4 := hO.below hb4 (Nat.le_refl _)
      have hB4 := hB.trans (hb4.mono (by omega))
      have hz4 := hb4.size
      have d0 := hbc hb4 d0
      have d1 := hbc hb4 d1
      have d2 := hbc hb4 d2
      have d3 := hbc hb4 d3
      have d4 := hbc hb4 d4
      have d5 := hbc hb4 d5
      clear hb4 hO hD hB
      go_wp2_with (at_builtin; refine wpList_appR (f := drC) (sz := 6) (e := 96) (B := H) (n := N) (xs := L) _ drC_len drC_one rfl _ _ 25 rfl (.agg #[.int .i64 0, .int .i64 0, .int .i64 0, .int .i64 0, .int .i64 0, .int .i64 0]) 48 Try.underlying25 info_dr rfl (by decide) ⟨da, db, dx0, dz0, dx1, dz1⟩ 96 hs4 rfl rfl (by omega) (by omega) (by omega) ?_; intro v' w' hown' happ)
      have hBE := hB4.trans (happ.below (B := H) (by omega) (fun j hj => hs4.le j hj))
      clear happ hs4 hB4 d0 d1 d2 d3 d4 d5
      have HMx := Lib.hid (HM.out (fun q => h2 q.2))
      clear HM HJ
      go_wp2
      go_ret
      refine ⟨_, rfl, ?_, hBE⟩
      rw [HMx.out, List.length_append, hm, ← hN]
      exact hown'
    have b2 : (ez1 == dz0) = true := by simpa using h2
    have e_q4 := fun d os => cell_regrown q4 d os
    have e_d2 := fun d os => cell_regrown d2 d os
    have e_q5 := fun d os => cell_regrown q5 d os
    have e_d3 := fun d os => cell_regrown d3 d os
    refine wp_region_quiet_below (by kernel_rfl) (by kernel_rfl) ?_
    repeat (go_big_quiet_step (fail))
    refine wpQuiet_nil ?_
    rintro w4 ⟨⟨dq, osq⟩, hw4⟩
    have hb4 : Below W1.heap.size W1 w4 := by rw [hw4]; exact below_regrown W1 dq osq
    clear hw4 e_q4 e_d2 e_q5 e_d3 q4 q5 hI hI2
    have hs4 := hO.below hb4 (Nat.le_refl _)
    have hB4 := hB.trans (hb4.mono (by omega))
    have hz4 := hb4.size
    have d0 := hbc hb4 d0
    have d1 := hbc hb4 d1
    have d2 := hbc hb4 d2
    have d3 := hbc hb4 d3
    have d4 := hbc hb4 d4
    have d5 := hbc hb4 d5
    have HJx := Lib.hid (HJ.out h1 h2)
    clear HM HJ b1 b2 h1 h2 hb4 hO hD hB
    have q4 := OwnR.cellAt drC_len hs4 (j := 4) hme rfl
    have f4 := OwnR.frozen hs4 (m * 6 + 4)
    have hmL : m < L.length := by omega
    have hO5 := OwnR.setAt drC_len hs4 (j := 4) (u := .int .i64 dx1) (y := ⟨ea, eb, ex0, ez0, dx1, ez1⟩) hme (by decide) rfl
    have hB5 := hB4.setCell (p := ⟨g, m * 6 + 4, none⟩) hg1 (.int .i64 dx1)
    have d5' := (grown_set w4 g (m * 6 + 4) (.int .i64 dx1)).cell d5 (by simp only [ne_eq, Option.some.injEq]; exact fun q => hgS (by omega))
    go_upto_region 4 with fail
    obtain ⟨W5, hW5⟩ : ∃ W, W = w4.setCell ⟨g, m * 6 + 4, none⟩ (.int .i64 dx1) := ⟨_, rfl⟩
    rw [← hW5] at hO5 hB5 d5' ⊢
    clear hW5 q4 f4 hs4 hB4 d0 d1 d2 d3 d4 d5
    have hm5 : (L.set m ⟨ea, eb, ex0, ez0, dx1, ez1⟩)[m]? = some (⟨ea, eb, ex0, ez0, dx1, ez1⟩ : Dr) := List.getElem?_set_self hmL
    have q5 := OwnR.cellAt drC_len hO5 (j := 5) hm5 rfl
    have f5 := OwnR.frozen hO5 (m * 6 + 5)
    have hO6 := OwnR.setAt drC_len hO5 (j := 5) (u := .int .i64 dz1) (y := ⟨ea, eb, ex0, ez0, dx1, dz1⟩) hm5 (by decide) rfl
    have hB6 := hB5.setCell (p := ⟨g, m * 6 + 5, none⟩) hg1 (.int .i64 dz1)
    clear hO5 hB5 hm5
    go_upto_region 5 with fail
    obtain ⟨W6, hW6⟩ : ∃ W, W = W5.setCell ⟨g, m * 6 + 5, none⟩ (.int .i64 dz1) := ⟨_, rfl⟩
    rw [← hW6] at hO6 hB6 ⊢
    clear hW6 q5 f5 d5'
    go_wp2
    go_ret
    refine ⟨_, rfl, ?_, hB6⟩
    rw [HJx.out, List.length_set, List.length_set, hm, ← hN]
    exact hO6
end Go.Proofs.Ytgfmdgiepomkiaa

namespace Go.Proofs.Ytgfmdgiepomkiaa
open Go.RowKit Go.Sort
attribute [local go_sem] Instr.index

theorem joinTo_succ (cf : Cfg) (a b : Rc) (up : Bool) (k : Nat) : joinD (prsTo cf a b up (k + 1)) = if lnk cf (prF a up (prFrom a b up + (k : Int))) (prG b up (prFrom a b up + (k : Int))) then addD (joinD (prsTo cf a b up k)) (prD b up (prFrom a b up + (k : Int))) else joinD (prsTo cf a b up k) := by
  rw [prsTo_succ]
  unfold joinD prOne
  split
  · rw [List.foldl_append, List.foldl_cons, List.foldl_nil]
  · rw [List.append_nil]
theorem joinTo_len (cf : Cfg) (a b : Rc) (up : Bool) (k : Nat) : (joinD (prsTo cf a b up k)).length ≤ k := by
  have h := foldD_len2 (prsTo cf a b up k) []
  have h2 := prsTo_len2 cf a b up k
  unfold joinD
  simp only [List.length_nil] at h
  omega

set_option linter.unusedSimpArgs false in
set_option maxRecDepth 100000 in
set_option maxHeartbeats 16000000 in
theorem refpairs18_up (cf : Cfg) (ha : RHd) (ra : Rc) (hb : RHd) (rb : Rc) (w : World) (h1 : RcSl w ha ra) (h2 : RcSl w hb rb) (e1 : rcE cf ra = 0) (e2 : rcE cf rb = 0) :
    Calls Try.prog 122 #[cfgV cf, rcV ha ra, rcV hb rb, .bool true] w (AddPost w.heap.size (joinD (prs cf ra rb true)) w) := by
  obtain ⟨u1, u2, u3, u4, u5, u6, _, _⟩ := rcBd_iff.1 (rcOk_bd e1)
  obtain ⟨v1, v2, v3, v4, v5, v6, _, _⟩ := rcBd_iff.1 (rcOk_bd e2)
  have OP : Hid (∀ (n : Int) (W : World), max ra.z0 rb.z0 ≤ n → n ≤ min ra.z1 rb.z1 → Below w.heap.size w W → Calls Try.prog 130 #[cfgV cf, rcV ha ra, rcV hb rb, .int .i64 ra.x1, .int .i64 n, .int .i64 rb.x0, .int .i64 n] W fun e w' => e = .returned (.bool (lnk cf (rcF ra ra.x1 n) (rcF rb rb.x0 n))) ∧ Below W.heap.size W w') := by
    intro n W hn1 hn2 hW
    have h := refopen18_any cf ha ra hb rb ra.x1 n rb.x0 n W (h1.below hW (Nat.le_refl _)) (h2.below hW (Nat.le_refl _))
    rw [rcAt_in e1 (by omega) (by omega) (by omega) (by omega), rcAt_in e2 (by omega) (by omega) (by omega) (by omega), Bool.true_and, Bool.true_and] at h
    exact h
  have AD := Lib.hid (fun L s n W hs hH hL => refadd18_any (w.heap.size + 1 + 1 + 1) L s (⟨0, 1, rb.x0, n, rb.x0, n + 1⟩ : Dr) W hs hH hL)
  have J1 : Hid (∀ (k : Nat) (n : Int), n = max ra.z0 rb.z0 + (k : Int) → joinD (prsTo cf ra rb true (k + 1)) = if lnk cf (rcF ra ra.x1 n) (rcF rb rb.x0 n) then addD (joinD (prsTo cf ra rb true k)) ⟨0, 1, rb.x0, n, rb.x0, n + 1⟩ else joinD (prsTo cf ra rb true k)) := by
    intro k n hn
    rw [hn]
    exact joinTo_succ cf ra rb true k
  have J2 := Lib.hid (joinTo_len cf ra rb true)
  have J0 : Hid (joinD (prsTo cf ra rb true 0) = []) := rfl
  have JA : Hid (ra.x1 + 1 = rb.x0 → joinD (prs cf ra rb true) = joinD (prsTo cf ra rb true (min ra.z1 rb.z1 + 1 - (max ra.z0 rb.z0)).toNat)) := by
    intro h
    unfold prs prLen prAcross
    simp only [if_true, Bool.false_eq_true, if_false]
    rw [if_pos (by simpa using h)]
    rfl
  have JN : Hid (ra.x1 + 1 ≠ rb.x0 → joinD (prs cf ra rb true) = []) := by
    intro h
    rw [prs_nil]
    · rfl
    · unfold prLen prAcross
      simp only [if_true, Bool.false_eq_true, if_false]
      rw [if_neg (by simpa using h)]
  clear h1 h2 e1 e2
  generalize joinD (prs cf ra rb true) = JR at JA JN ⊢
  obtain ⟨JT, hJT⟩ : ∃ J : Nat → List Dr, J = fun k => joinD (prsTo cf ra rb true k) := ⟨_, rfl⟩
  have hJTx : ∀ k, joinD (prsTo cf ra rb true k) = JT k := fun k => by rw [hJT]
  simp only [hJTx] at J0 J1 J2 JA
  clear hJT hJTx
  obtain ⟨LK, hLK⟩ : ∃ L : Int → Bool, L = fun n => lnk cf (rcF ra ra.x1 n) (rcF rb rb.x0 n) := ⟨_, rfl⟩
  have hLKx : ∀ n, lnk cf (rcF ra ra.x1 n) (rcF rb rb.x0 n) = LK n := fun n => by rw [hLK]
  simp only [hLKx] at OP J1
  clear hLK hLKx
  obtain ⟨W1, hW1⟩ : ∃ W, W = ((w.alloc (cfO cf)).alloc (rcO ha ra)).alloc (rcO hb rb) := ⟨_, rfl⟩
  have hC := halloc (halloc (World.alloc_heap_new w (cfO cf)) (rcO ha ra)) (rcO hb rb)
  have hA := halloc (World.alloc_heap_new (w.alloc (cfO cf)) (rcO ha ra)) (rcO hb rb)
  have hR := World.alloc_heap_new ((w.alloc (cfO cf)).alloc (rcO ha ra)) (rcO hb rb)
  have hB : Below w.heap.size w (((w.alloc (cfO cf)).alloc (rcO ha ra)).alloc (rcO hb rb)) := (((Below.refl _ _).alloc (Nat.le_refl _) _).alloc (by simp) _).alloc (by simp; omega) _
  have hsz : (((w.alloc (cfO cf)).alloc (rcO ha ra)).alloc (rcO hb rb)).heap.size = w.heap.size + 1 + 1 + 1 := by simp
  simp only [World.size_alloc] at hA hR
  rw [← hW1] at hC hA hR hB hsz
  obtain ⟨S, hS⟩ : ∃ S, S = w.heap.size := ⟨_, rfl⟩
  rw [← hS] at hC hA hR hB OP AD hsz ⊢
  have HS := Lib.hid hS
  clear hS
  dsimp only [cfO, cfgV, rcO, rcV, drC] at hC hA hR hW1 OP AD ⊢
  unfold AddPost at AD ⊢
  have HCC := Lib.hid (And.intro hC (And.intro hA hR))
  have hBx := Lib.hid hB
  have a0 := hcell (k := 0) (v := .int .i64 ra.x0) hA rfl
  have a1 := hcell (k := 1) (v := .int .i64 ra.z0) hA rfl
  have a2 := hcell (k := 2) (v := .int .i64 ra.x1) hA rfl
  have a3 := hcell (k := 3) (v := .int .i64 ra.z1) hA rfl
  have a4 := hcell (k := 4) (v := .int .i64 ra.area) hA rfl
  have a5 := hcell (k := 5) (v := .slice ha.ya ra.ys.length ha.yc) hA rfl
  have a6 := hcell (k := 6) (v := .slice ha.ta ra.ts.length ha.tc) hA rfl
  have b0 := hcell (k := 0) (v := .int .i64 rb.x0) hR rfl
  have b1 := hcell (k := 1) (v := .int .i64 rb.z0) hR rfl
  have b2 := hcell (k := 2) (v := .int .i64 rb.x1) hR rfl
  have b3 := hcell (k := 3) (v := .int .i64 rb.z1) hR rfl
  have b4 := hcell (k := 4) (v := .int .i64 rb.area) hR rfl
  have b5 := hcell (k := 5) (v := .slice hb.ya rb.ys.length hb.yc) hR rfl
  have b6 := hcell (k := 6) (v := .slice hb.ta rb.ts.length hb.tc) hR rfl
  have wa : IntKind.i64.wrap (ra.x1 + 1) = ra.x1 + 1 := by rw [IntKind.wrap_i64]; omega
  clear hC hA hR hB
  go_enter Try.func122, Try.ntmps122
  go_upto_region 1 with fail
  rw [← hW1, ← HS.out]
  clear hW1
  by_cases hac : ra.x1 + 1 = rb.x0
  case neg =>
    have q : (ra.x1 + 1 == rb.x0) = false := by simpa using hac
    have HR := Lib.hid (JN.out hac)
    clear  JA JN J0 J1 J2 OP AD HCC hsz
    go_wp2
    go_ret
    refine ⟨_, rfl, ?_, hBx.out⟩
    rw [HR.out]
    exact OwnR.nil _ _ _ _ _
  have q : (ra.x1 + 1 == rb.x0) = true := by simpa using hac
  have HR := Lib.hid (JA.out hac)
  clear JA JN
  go_upto_region 3 with fail
  go_cut [10] from 21 to 25 (fun s wx => s = .int .i64 (max ra.z0 rb.z0) ∧ wx = W1)
  case first =>
    by_cases hm : ra.z0 < rb.z0
    · go_wp2
      go_meet
      exact ⟨by congr 1; omega, rfl⟩
    · go_wp2
      go_meet
      exact ⟨by congr 1; omega, rfl⟩
  case rest =>
  obtain ⟨rfl, rfl⟩ := hcut
  go_wp2_with fail
  clear a0 a1 a2 a3 a4 a5 a6 b0 b1 b2 b3 b4 b5 b6
  obtain ⟨fr, hfr⟩ : ∃ v, v = max ra.z0 rb.z0 := ⟨_, rfl⟩
  obtain ⟨to_, hto⟩ : ∃ v, v = min ra.z1 rb.z1 := ⟨_, rfl⟩
  have hfb : 0 ≤ fr ∧ fr ≤ 31 := by omega
  have htb : 0 ≤ to_ ∧ to_ ≤ 31 := by omega
  rw [← hfr] at OP J1 HR ⊢
  rw [← hto] at OP HR
  have HFR := Lib.hid hfr
  have HTO := Lib.hid hto
  clear hfr hto
  obtain ⟨N, hN⟩ : ∃ N, N = (to_ + 1 - fr).toNat := ⟨_, rfl⟩
  rw [← hN] at HR
  go_loopw [9, 10] (fun s9 sn wr => ∃ (k : Nat) (n : Int) (L : List Dr), sn = .int .i64 n ∧ Hid (n = fr + (k : Int)) ∧ k ≤ N ∧ Hid (L = JT k) ∧ DrAt (S + 1 + 1 + 1) L s9 wr ∧ Hid (wr.heap[S]? = some (.cells #[.int .i64 cf.clear, .int .i64 cf.climb, .int .i64 cf.height, .int .i64 cf.rise, .int .i64 cf.run, .int .i64 cf.w, .int .i64 cf.d] 23 (0, 0)) ∧ wr.heap[S + 1]? = some (.cells #[.int .i64 ra.x0, .int .i64 ra.z0, .int .i64 ra.x1, .int .i64 ra.z1, .int .i64 ra.area, .slice ha.ya ra.ys.length ha.yc, .slice ha.ta ra.ts.length ha.tc] 55 (0, 0)) ∧ wr.heap[S + 1 + 1]? = some (.cells #[.int .i64 rb.x0, .int .i64 rb.z0, .int .i64 rb.x1, .int .i64 rb.z1, .int .i64 rb.area, .slice hb.ya rb.ys.length hb.yc, .slice hb.ta rb.ts.length hb.tc] 55 (0, 0))) ∧ Below S w wr) (fun _ sn _ => (to_ + 1 - intOf sn).toNat)
  case atStart => exact ⟨0, fr, [], rfl, by show _ = _; simp, Nat.zero_le _, J0.out.symm, ⟨none, 0, rfl, OwnR.nil _ _ _ _ _⟩, HCC.out, hBx.out⟩
  case round =>
    clear HCC hBx
    obtain ⟨k, n, L, rfl, Hn, hk, HL, hD, HCC, hBr⟩ := hrel
    obtain ⟨oa, oc, rfl, hO⟩ := hD
    have hLk : L.length ≤ k := by rw [HL.out]; exact J2.out k
    obtain ⟨hC, hA, hR⟩ := HCC.out
    have a0 := hcell (k := 0) (v := .int .i64 ra.x0) hA rfl
    have a1 := hcell (k := 1) (v := .int .i64 ra.z0) hA rfl
    have a2 := hcell (k := 2) (v := .int .i64 ra.x1) hA rfl
    have a3 := hcell (k := 3) (v := .int .i64 ra.z1) hA rfl
    have a4 := hcell (k := 4) (v := .int .i64 ra.area) hA rfl
    have a5 := hcell (k := 5) (v := .slice ha.ya ra.ys.length ha.yc) hA rfl
    have a6 := hcell (k := 6) (v := .slice ha.ta ra.ts.length ha.tc) hA rfl
    have b0 := hcell (k := 0) (v := .int .i64 rb.x0) hR rfl
    have b1 := hcell (k := 1) (v := .int .i64 rb.z0) hR rfl
    have b2 := hcell (k := 2) (v := .int .i64 rb.x1) hR rfl
    have b3 := hcell (k := 3) (v := .int .i64 rb.z1) hR rfl
    have b4 := hcell (k := 4) (v := .int .i64 rb.area) hR rfl
    have b5 := hcell (k := 5) (v := .slice hb.ya rb.ys.length hb.yc) hR rfl
    have b6 := hcell (k := 6) (v := .slice hb.ta rb.ts.length hb.tc) hR rfl
    have c0 := hcell (k := 0) (v := .int .i64 cf.clear) hC rfl
    have c1 := hcell (k := 1) (v := .int .i64 cf.climb) hC rfl
    have c2 := hcell (k := 2) (v := .int .i64 cf.height) hC rfl
    have c3 := hcell (k := 3) (v := .int .i64 cf.rise) hC rfl
    have c4 := hcell (k := 4) (v := .int .i64 cf.run) hC rfl
    have c5 := hcell (k := 5) (v := .int .i64 cf.w) hC rfl
    have c6 := hcell (k := 6) (v := .int .i64 cf.d) hC rfl
    clear hC hA hR
    have hnk := Hn.out
    go_upto_region 4 with fail
    go_cut [32] from 26 to 31 (fun s wx => s = .bool (decide (n ≤ to_)) ∧ wx = wr)
    case first =>
      clear hnk
      by_cases hm : rb.z1 < ra.z1
      · go_wp2
        go_meet
        have hto := HTO.out
        exact ⟨by congr 1; exact decide_eq_decide.2 (by omega), rfl⟩
      · go_wp2
        go_meet
        have hto := HTO.out
        exact ⟨by congr 1; exact decide_eq_decide.2 (by omega), rfl⟩
    case rest =>
    obtain ⟨rfl, rfl⟩ := hcut
    by_cases hlt : n ≤ to_
    case neg =>
      have hlt' : ¬ n ≤ min ra.z1 rb.z1 := by rw [← HTO.out]; exact hlt
      have hkN : k = N := by omega
      have HLN : Hid (L = JR) := by show _ = _; rw [HR.out, HL.out, hkN]
      clear HL HR J0 J1 J2 OP AD HCC HFR HTO
      go_wp2
      go_ret
      refine ⟨_, rfl, ?_, hBr⟩
      rw [← HLN.out]
      exact hO.mono (by omega)
    have hlt' : n ≤ min ra.z1 rb.z1 := by rw [← HTO.out]; exact hlt
    have wn : IntKind.i64.wrap (n + 1) = n + 1 := by rw [IntKind.wrap_i64]; omega
    have hk1 : k + 1 ≤ N := by omega
    have Hn1 : Hid (n + 1 = fr + ((k + 1 : Nat) : Int)) := by show _ = _; omega
    have J1k := Lib.hid (J1.out k n hnk)
    have OPn := Lib.hid (fun W hW => OP.out n W (by omega) hlt hW)
    have ADn := Lib.hid (fun s W hs hH => AD.out L s n W hs hH (by omega))
    have hms : (to_ + 1 - (n + 1)).toNat < (to_ + 1 - n).toNat := by omega
    have hs2 := hBr.size
    generalize LK n = lk at OPn J1k
    clear hnk Hn
    go_wp2_with fail
    refine (OPn.out _ hBr).mono ?_
    rintro e w2 ⟨rfl, hb2⟩
    have hB2 := hBr.trans (hb2.mono (by have := HS.out; have := hBr.size; omega))
    have hO2 := hO.below hb2 (Nat.le_refl _)
    have HCC2 := Lib.hid (And.intro (hkeep hb2 HCC.out.1) (And.intro (hkeep hb2 HCC.out.2.1) (hkeep hb2 HCC.out.2.2)))
    have hz2 := hb2.size
    clear hBr hO HCC hb2 OPn a0 a1 a2 a3 a4 a5 a6 b0 b1 b2 b3 b4 b5 b6 c0 c1 c2 c3 c4 c5 c6
    cases lk with
    | false =>
      have HL2 : Hid (L = JT (k + 1)) := by show _ = _; rw [J1k.out]; exact HL.out
      go_wp2
      go_roundw
      case rel => exact ⟨k + 1, n + 1, L, rfl, Hn1, hk1, HL2, ⟨_, _, rfl, hO2⟩, HCC2.out, hB2⟩
      case measure => exact hms
    | true =>
      have HL2 : Hid (addD L ⟨0, 1, rb.x0, n, rb.x0, n + 1⟩ = JT (k + 1)) := by show _ = _; rw [J1k.out, ← HL.out]; rfl
      obtain ⟨hC, hA, hR⟩ := HCC2.out
      have b0 := hcell (k := 0) (v := .int .i64 rb.x0) hR rfl
      have b1 := hcell (k := 1) (v := .int .i64 rb.z0) hR rfl
      have b2 := hcell (k := 2) (v := .int .i64 rb.x1) hR rfl
      have b3 := hcell (k := 3) (v := .int .i64 rb.z1) hR rfl
      have b4 := hcell (k := 4) (v := .int .i64 rb.area) hR rfl
      have b5 := hcell (k := 5) (v := .slice hb.ya rb.ys.length hb.yc) hR rfl
      have b6 := hcell (k := 6) (v := .slice hb.ta rb.ts.length hb.tc) hR rfl
      clear hC hA hR
      go_wp2_with fail
      refine (ADn.out _ _ hO2 (by have := hblt HCC2.out.2.2; omega)).mono ?_
      rintro e w3 ⟨s3, rfl, hO3, hb3⟩
      have hB3 := hB2.trans (hb3.mono (by omega))
      have HCC3 := Lib.hid (And.intro (hkeepB hb3 HCC2.out.1 (by omega)) (And.intro (hkeepB hb3 HCC2.out.2.1 (by omega)) (hkeepB hb3 HCC2.out.2.2 (by omega))))
      obtain ⟨a3, c3, rfl, _⟩ := OwnR.reads drC_len hO3
      clear b0 b1 b2 b3 b4 b5 b6 hO2 HCC2 hB2 hb3
      go_wp2
      go_roundw
      case rel => exact ⟨k + 1, n + 1, _, rfl, Hn1, hk1, HL2, ⟨_, _, rfl, hO3⟩, HCC3.out, hB3⟩
      case measure => exact hms
set_option linter.unusedSimpArgs false in
set_option maxRecDepth 100000 in
set_option maxHeartbeats 16000000 in
theorem refpairs18_down (cf : Cfg) (ha : RHd) (ra : Rc) (hb : RHd) (rb : Rc) (w : World) (h1 : RcSl w ha ra) (h2 : RcSl w hb rb) (e1 : rcE cf ra = 0) (e2 : rcE cf rb = 0) :
    Calls Try.prog 122 #[cfgV cf, rcV ha ra, rcV hb rb, .bool false] w (AddPost w.heap.size (joinD (prs cf ra rb false)) w) := by
  obtain ⟨u1, u2, u3, u4, u5, u6, _, _⟩ := rcBd_iff.1 (rcOk_bd e1)
  obtain ⟨v1, v2, v3, v4, v5, v6, _, _⟩ := rcBd_iff.1 (rcOk_bd e2)
  have OP : Hid (∀ (n : Int) (W : World), max ra.x0 rb.x0 ≤ n → n ≤ min ra.x1 rb.x1 → Below w.heap.size w W → Calls Try.prog 130 #[cfgV cf, rcV ha ra, rcV hb rb, .int .i64 n, .int .i64 ra.z1, .int .i64 n, .int .i64 rb.z0] W fun e w' => e = .returned (.bool (lnk cf (rcF ra n ra.z1) (rcF rb n rb.z0))) ∧ Below W.heap.size W w') := by
    intro n W hn1 hn2 hW
    have h := refopen18_any cf ha ra hb rb n ra.z1 n rb.z0 W (h1.below hW (Nat.le_refl _)) (h2.below hW (Nat.le_refl _))
    rw [rcAt_in e1 (by omega) (by omega) (by omega) (by omega), rcAt_in e2 (by omega) (by omega) (by omega) (by omega), Bool.true_and, Bool.true_and] at h
    exact h
  have AD := Lib.hid (fun L s n W hs hH hL => refadd18_any (w.heap.size + 1 + 1 + 1) L s (⟨0, 1, n, rb.z0, n + 1, rb.z0⟩ : Dr) W hs hH hL)
  have J1 : Hid (∀ (k : Nat) (n : Int), n = max ra.x0 rb.x0 + (k : Int) → joinD (prsTo cf ra rb false (k + 1)) = if lnk cf (rcF ra n ra.z1) (rcF rb n rb.z0) then addD (joinD (prsTo cf ra rb false k)) ⟨0, 1, n, rb.z0, n + 1, rb.z0⟩ else joinD (prsTo cf ra rb false k)) := by
    intro k n hn
    rw [hn]
    exact joinTo_succ cf ra rb false k
  have J2 := Lib.hid (joinTo_len cf ra rb false)
  have J0 : Hid (joinD (prsTo cf ra rb false 0) = []) := rfl
  have JA : Hid (ra.z1 + 1 = rb.z0 → joinD (prs cf ra rb false) = joinD (prsTo cf ra rb false (min ra.x1 rb.x1 + 1 - (max ra.x0 rb.x0)).toNat)) := by
    intro h
    unfold prs prLen prAcross
    simp only [if_true, Bool.false_eq_true, if_false]
    rw [if_pos (by simpa using h)]
    rfl
  have JN : Hid (ra.z1 + 1 ≠ rb.z0 → joinD (prs cf ra rb false) = []) := by
    intro h
    rw [prs_nil]
    · rfl
    · unfold prLen prAcross
      simp only [if_true, Bool.false_eq_true, if_false]
      rw [if_neg (by simpa using h)]
  clear h1 h2 e1 e2
  generalize joinD (prs cf ra rb false) = JR at JA JN ⊢
  obtain ⟨JT, hJT⟩ : ∃ J : Nat → List Dr, J = fun k => joinD (prsTo cf ra rb false k) := ⟨_, rfl⟩
  have hJTx : ∀ k, joinD (prsTo cf ra rb false k) = JT k := fun k => by rw [hJT]
  simp only [hJTx] at J0 J1 J2 JA
  clear hJT hJTx
  obtain ⟨LK, hLK⟩ : ∃ L : Int → Bool, L = fun n => lnk cf (rcF ra n ra.z1) (rcF rb n rb.z0) := ⟨_, rfl⟩
  have hLKx : ∀ n, lnk cf (rcF ra n ra.z1) (rcF rb n rb.z0) = LK n := fun n => by rw [hLK]
  simp only [hLKx] at OP J1
  clear hLK hLKx
  obtain ⟨W1, hW1⟩ : ∃ W, W = ((w.alloc (cfO cf)).alloc (rcO ha ra)).alloc (rcO hb rb) := ⟨_, rfl⟩
  have hC := halloc (halloc (World.alloc_heap_new w (cfO cf)) (rcO ha ra)) (rcO hb rb)
  have hA := halloc (World.alloc_heap_new (w.alloc (cfO cf)) (rcO ha ra)) (rcO hb rb)
  have hR := World.alloc_heap_new ((w.alloc (cfO cf)).alloc (rcO ha ra)) (rcO hb rb)
  have hB : Below w.heap.size w (((w.alloc (cfO cf)).alloc (rcO ha ra)).alloc (rcO hb rb)) := (((Below.refl _ _).alloc (Nat.le_refl _) _).alloc (by simp) _).alloc (by simp; omega) _
  have hsz : (((w.alloc (cfO cf)).alloc (rcO ha ra)).alloc (rcO hb rb)).heap.size = w.heap.size + 1 + 1 + 1 := by simp
  simp only [World.size_alloc] at hA hR
  rw [← hW1] at hC hA hR hB hsz
  obtain ⟨S, hS⟩ : ∃ S, S = w.heap.size := ⟨_, rfl⟩
  rw [← hS] at hC hA hR hB OP AD hsz ⊢
  have HS := Lib.hid hS
  clear hS
  dsimp only [cfO, cfgV, rcO, rcV, drC] at hC hA hR hW1 OP AD ⊢
  unfold AddPost at AD ⊢
  have HCC := Lib.hid (And.intro hC (And.intro hA hR))
  have hBx := Lib.hid hB
  have a0 := hcell (k := 0) (v := .int .i64 ra.x0) hA rfl
  have a1 := hcell (k := 1) (v := .int .i64 ra.z0) hA rfl
  have a2 := hcell (k := 2) (v := .int .i64 ra.x1) hA rfl
  have a3 := hcell (k := 3) (v := .int .i64 ra.z1) hA rfl
  have a4 := hcell (k := 4) (v := .int .i64 ra.area) hA rfl
  have a5 := hcell (k := 5) (v := .slice ha.ya ra.ys.length ha.yc) hA rfl
  have a6 := hcell (k := 6) (v := .slice ha.ta ra.ts.length ha.tc) hA rfl
  have b0 := hcell (k := 0) (v := .int .i64 rb.x0) hR rfl
  have b1 := hcell (k := 1) (v := .int .i64 rb.z0) hR rfl
  have b2 := hcell (k := 2) (v := .int .i64 rb.x1) hR rfl
  have b3 := hcell (k := 3) (v := .int .i64 rb.z1) hR rfl
  have b4 := hcell (k := 4) (v := .int .i64 rb.area) hR rfl
  have b5 := hcell (k := 5) (v := .slice hb.ya rb.ys.length hb.yc) hR rfl
  have b6 := hcell (k := 6) (v := .slice hb.ta rb.ts.length hb.tc) hR rfl
  have wa : IntKind.i64.wrap (ra.z1 + 1) = ra.z1 + 1 := by rw [IntKind.wrap_i64]; omega
  clear hC hA hR hB
  go_enter Try.func122, Try.ntmps122
  go_upto_region 1 with fail
  rw [← hW1, ← HS.out]
  clear hW1
  by_cases hac : ra.z1 + 1 = rb.z0
  case neg =>
    have q : (ra.z1 + 1 == rb.z0) = false := by simpa using hac
    have HR := Lib.hid (JN.out hac)
    clear  JA JN J0 J1 J2 OP AD HCC hsz
    go_wp2
    go_ret
    refine ⟨_, rfl, ?_, hBx.out⟩
    rw [HR.out]
    exact OwnR.nil _ _ _ _ _
  have q : (ra.z1 + 1 == rb.z0) = true := by simpa using hac
  have HR := Lib.hid (JA.out hac)
  clear JA JN
  go_upto_region 9 with fail
  go_cut [11] from 65 to 69 (fun s wx => s = .int .i64 (max ra.x0 rb.x0) ∧ wx = W1)
  case first =>
    by_cases hm : ra.x0 < rb.x0
    · go_wp2
      go_meet
      exact ⟨by congr 1; omega, rfl⟩
    · go_wp2
      go_meet
      exact ⟨by congr 1; omega, rfl⟩
  case rest =>
  obtain ⟨rfl, rfl⟩ := hcut
  go_wp2_with fail
  clear a0 a1 a2 a3 a4 a5 a6 b0 b1 b2 b3 b4 b5 b6
  obtain ⟨fr, hfr⟩ : ∃ v, v = max ra.x0 rb.x0 := ⟨_, rfl⟩
  obtain ⟨to_, hto⟩ : ∃ v, v = min ra.x1 rb.x1 := ⟨_, rfl⟩
  have hfb : 0 ≤ fr ∧ fr ≤ 31 := by omega
  have htb : 0 ≤ to_ ∧ to_ ≤ 31 := by omega
  rw [← hfr] at OP J1 HR ⊢
  rw [← hto] at OP HR
  have HFR := Lib.hid hfr
  have HTO := Lib.hid hto
  clear hfr hto
  obtain ⟨N, hN⟩ : ∃ N, N = (to_ + 1 - fr).toNat := ⟨_, rfl⟩
  rw [← hN] at HR
  go_loopw [9, 11] (fun s9 sn wr => ∃ (k : Nat) (n : Int) (L : List Dr), sn = .int .i64 n ∧ Hid (n = fr + (k : Int)) ∧ k ≤ N ∧ Hid (L = JT k) ∧ DrAt (S + 1 + 1 + 1) L s9 wr ∧ Hid (wr.heap[S]? = some (.cells #[.int .i64 cf.clear, .int .i64 cf.climb, .int .i64 cf.height, .int .i64 cf.rise, .int .i64 cf.run, .int .i64 cf.w, .int .i64 cf.d] 23 (0, 0)) ∧ wr.heap[S + 1]? = some (.cells #[.int .i64 ra.x0, .int .i64 ra.z0, .int .i64 ra.x1, .int .i64 ra.z1, .int .i64 ra.area, .slice ha.ya ra.ys.length ha.yc, .slice ha.ta ra.ts.length ha.tc] 55 (0, 0)) ∧ wr.heap[S + 1 + 1]? = some (.cells #[.int .i64 rb.x0, .int .i64 rb.z0, .int .i64 rb.x1, .int .i64 rb.z1, .int .i64 rb.area, .slice hb.ya rb.ys.length hb.yc, .slice hb.ta rb.ts.length hb.tc] 55 (0, 0))) ∧ Below S w wr) (fun _ sn _ => (to_ + 1 - intOf sn).toNat)
  case atStart => exact ⟨0, fr, [], rfl, by show _ = _; simp, Nat.zero_le _, J0.out.symm, ⟨none, 0, rfl, OwnR.nil _ _ _ _ _⟩, HCC.out, hBx.out⟩
  case round =>
    clear HCC hBx
    obtain ⟨k, n, L, rfl, Hn, hk, HL, hD, HCC, hBr⟩ := hrel
    obtain ⟨oa, oc, rfl, hO⟩ := hD
    have hLk : L.length ≤ k := by rw [HL.out]; exact J2.out k
    obtain ⟨hC, hA, hR⟩ := HCC.out
    have a0 := hcell (k := 0) (v := .int .i64 ra.x0) hA rfl
    have a1 := hcell (k := 1) (v := .int .i64 ra.z0) hA rfl
    have a2 := hcell (k := 2) (v := .int .i64 ra.x1) hA rfl
    have a3 := hcell (k := 3) (v := .int .i64 ra.z1) hA rfl
    have a4 := hcell (k := 4) (v := .int .i64 ra.area) hA rfl
    have a5 := hcell (k := 5) (v := .slice ha.ya ra.ys.length ha.yc) hA rfl
    have a6 := hcell (k := 6) (v := .slice ha.ta ra.ts.length ha.tc) hA rfl
    have b0 := hcell (k := 0) (v := .int .i64 rb.x0) hR rfl
    have b1 := hcell (k := 1) (v := .int .i64 rb.z0) hR rfl
    have b2 := hcell (k := 2) (v := .int .i64 rb.x1) hR rfl
    have b3 := hcell (k := 3) (v := .int .i64 rb.z1) hR rfl
    have b4 := hcell (k := 4) (v := .int .i64 rb.area) hR rfl
    have b5 := hcell (k := 5) (v := .slice hb.ya rb.ys.length hb.yc) hR rfl
    have b6 := hcell (k := 6) (v := .slice hb.ta rb.ts.length hb.tc) hR rfl
    have c0 := hcell (k := 0) (v := .int .i64 cf.clear) hC rfl
    have c1 := hcell (k := 1) (v := .int .i64 cf.climb) hC rfl
    have c2 := hcell (k := 2) (v := .int .i64 cf.height) hC rfl
    have c3 := hcell (k := 3) (v := .int .i64 cf.rise) hC rfl
    have c4 := hcell (k := 4) (v := .int .i64 cf.run) hC rfl
    have c5 := hcell (k := 5) (v := .int .i64 cf.w) hC rfl
    have c6 := hcell (k := 6) (v := .int .i64 cf.d) hC rfl
    clear hC hA hR
    have hnk := Hn.out
    go_upto_region 10 with fail
    go_cut [76] from 70 to 75 (fun s wx => s = .bool (decide (n ≤ to_)) ∧ wx = wr)
    case first =>
      clear hnk
      by_cases hm : rb.x1 < ra.x1
      · go_wp2
        go_meet
        have hto := HTO.out
        exact ⟨by congr 1; exact decide_eq_decide.2 (by omega), rfl⟩
      · go_wp2
        go_meet
        have hto := HTO.out
        exact ⟨by congr 1; exact decide_eq_decide.2 (by omega), rfl⟩
    case rest =>
    obtain ⟨rfl, rfl⟩ := hcut
    by_cases hlt : n ≤ to_
    case neg =>
      have hlt' : ¬ n ≤ min ra.x1 rb.x1 := by rw [← HTO.out]; exact hlt
      have hkN : k = N := by omega
      have HLN : Hid (L = JR) := by show _ = _; rw [HR.out, HL.out, hkN]
      clear HL HR J0 J1 J2 OP AD HCC HFR HTO
      go_wp2
      go_ret
      refine ⟨_, rfl, ?_, hBr⟩
      rw [← HLN.out]
      exact hO.mono (by omega)
    have hlt' : n ≤ min ra.x1 rb.x1 := by rw [← HTO.out]; exact hlt
    have wn : IntKind.i64.wrap (n + 1) = n + 1 := by rw [IntKind.wrap_i64]; omega
    have hk1 : k + 1 ≤ N := by omega
    have Hn1 : Hid (n + 1 = fr + ((k + 1 : Nat) : Int)) := by show _ = _; omega
    have J1k := Lib.hid (J1.out k n hnk)
    have OPn := Lib.hid (fun W hW => OP.out n W (by omega) hlt hW)
    have ADn := Lib.hid (fun s W hs hH => AD.out L s n W hs hH (by omega))
    have hms : (to_ + 1 - (n + 1)).toNat < (to_ + 1 - n).toNat := by omega
    have hs2 := hBr.size
    generalize LK n = lk at OPn J1k
    clear hnk Hn
    go_wp2_with fail
    refine (OPn.out _ hBr).mono ?_
    rintro e w2 ⟨rfl, hb2⟩
    have hB2 := hBr.trans (hb2.mono (by have := HS.out; have := hBr.size; omega))
    have hO2 := hO.below hb2 (Nat.le_refl _)
    have HCC2 := Lib.hid (And.intro (hkeep hb2 HCC.out.1) (And.intro (hkeep hb2 HCC.out.2.1) (hkeep hb2 HCC.out.2.2)))
    have hz2 := hb2.size
    clear hBr hO HCC hb2 OPn a0 a1 a2 a3 a4 a5 a6 b0 b1 b2 b3 b4 b5 b6 c0 c1 c2 c3 c4 c5 c6
    cases lk with
    | false =>
      have HL2 : Hid (L = JT (k + 1)) := by show _ = _; rw [J1k.out]; exact HL.out
      go_wp2
      go_roundw
      case rel => exact ⟨k + 1, n + 1, L, rfl, Hn1, hk1, HL2, ⟨_, _, rfl, hO2⟩, HCC2.out, hB2⟩
      case measure => exact hms
    | true =>
      have HL2 : Hid (addD L ⟨0, 1, n, rb.z0, n + 1, rb.z0⟩ = JT (k + 1)) := by show _ = _; rw [J1k.out, ← HL.out]; rfl
      obtain ⟨hC, hA, hR⟩ := HCC2.out
      have b0 := hcell (k := 0) (v := .int .i64 rb.x0) hR rfl
      have b1 := hcell (k := 1) (v := .int .i64 rb.z0) hR rfl
      have b2 := hcell (k := 2) (v := .int .i64 rb.x1) hR rfl
      have b3 := hcell (k := 3) (v := .int .i64 rb.z1) hR rfl
      have b4 := hcell (k := 4) (v := .int .i64 rb.area) hR rfl
      have b5 := hcell (k := 5) (v := .slice hb.ya rb.ys.length hb.yc) hR rfl
      have b6 := hcell (k := 6) (v := .slice hb.ta rb.ts.length hb.tc) hR rfl
      clear hC hA hR
      go_wp2_with fail
      refine (ADn.out _ _ hO2 (by have := hblt HCC2.out.2.2; omega)).mono ?_
      rintro e w3 ⟨s3, rfl, hO3, hb3⟩
      have hB3 := hB2.trans (hb3.mono (by omega))
      have HCC3 := Lib.hid (And.intro (hkeepB hb3 HCC2.out.1 (by omega)) (And.intro (hkeepB hb3 HCC2.out.2.1 (by omega)) (hkeepB hb3 HCC2.out.2.2 (by omega))))
      obtain ⟨a3, c3, rfl, _⟩ := OwnR.reads drC_len hO3
      clear b0 b1 b2 b3 b4 b5 b6 hO2 HCC2 hB2 hb3
      go_wp2
      go_roundw
      case rel => exact ⟨k + 1, n + 1, _, rfl, Hn1, hk1, HL2, ⟨_, _, rfl, hO3⟩, HCC3.out, hB3⟩
      case measure => exact hms
end Go.Proofs.Ytgfmdgiepomkiaa
