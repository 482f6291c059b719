/- Walk: the law CodeReads. -/
import Derived.Test.YtgfmdgiepomkiaaKp
import Derived.Test.YtgfmdgiepomkiaaSaT
import Derived.Test.YtgfmdgiepomkiaaNumL
namespace Go.Proofs.Ytgfmdgiepomkiaa
open Go.RowKit Go.Sort

set_option maxRecDepth 100000 in
set_option maxHeartbeats 8000000 in
theorem codereads_any (cf : Cfg) (a : Option Addr) (n c : Nat) (xs : List Int) (w : World) (hx : SlI .u8 w a n c xs) (hb : ∀ x ∈ xs, 0 ≤ x ∧ x ≤ 255) (hfar : n = 0 ∨ ∀ ad, a = some ad → ad.block < w.heap.size) :
    Calls Try.prog 4 #[cfgV cf, .slice a n c] w fun e w' => e = .returned (.bool true) ∧ Below w.heap.size w w' := by
  have hA : Below w.heap.size w (w.alloc (cfO cf)) := (Below.refl _ _).alloc (Nat.le_refl _) _
  have hC := World.alloc_heap_new w (cfO cf)
  by_cases hn : 20000 < n
  · have hnI : (20000 : Int) < (n : Int) := by omega
    dsimp only [cfO, cfgV] at hA ⊢
    go_enter Try.func4, Try.ntmps4
    go_wp2_with fail
    refine (wakes20_any _).mono ?_
    rintro e w1 ⟨rfl, hb1⟩
    go_wp2
    go_ret
    exact ⟨rfl, hA.trans (hb1.mono hA.size)⟩
  have hnI : ¬ (20000 : Int) < (n : Int) := by omega
  have H1 := Lib.hid (fun (W : World) (hW : Below w.heap.size w W) => readtile_any W cf a n c xs (hx.below hW (Nat.le_refl _)) hb (hfar.imp id fun q ad ha => Nat.lt_of_lt_of_le (q ad ha) hW.size))
  have H2 := Lib.hid (fun (W : World) (hW : Below w.heap.size w W) => refreadtile_any W cf a n c xs (hx.below hW (Nat.le_refl _)) hb (hfar.imp id fun q ad ha => Nat.lt_of_lt_of_le (q ad ha) hW.size))
  clear hx hfar
  obtain ⟨⟨⟨X, Z, rs, ds⟩, u, E⟩, hR⟩ : ∃ R, R = rdTile cf xs := ⟨_, rfl⟩
  rw [← hR] at H1 H2
  unfold RtPost at H1 H2
  dsimp only at H1 H2
  clear hR hb
  dsimp only [cfO, cfgV] at hA hC H1 H2 ⊢
  obtain ⟨T, hT⟩ : ∃ T, T = w.heap.size := ⟨_, rfl⟩
  obtain ⟨W1, hW1⟩ : ∃ W, W = w.alloc (.cells #[.int .i64 cf.clear, .int .i64 cf.climb, .int .i64 cf.height, .int .i64 cf.rise, .int .i64 cf.run, .int .i64 cf.w, .int .i64 cf.d] 23 (0, 0)) := ⟨_, rfl⟩
  rw [← hW1] at hA hC
  rw [← hT] at hC
  have c0 := hcell (k := 0) (v := .int .i64 cf.clear) hC rfl
  have c1 := hcell (k := 1) (v := .int .i64 cf.climb) hC rfl
  have c2 := hcell (k := 2) (v := .int .i64 cf.height) hC rfl
  have c3 := hcell (k := 3) (v := .int .i64 cf.rise) hC rfl
  have c4 := hcell (k := 4) (v := .int .i64 cf.run) hC rfl
  have c5 := hcell (k := 5) (v := .int .i64 cf.w) hC rfl
  have c6 := hcell (k := 6) (v := .int .i64 cf.d) hC rfl
  go_enter Try.func4, Try.ntmps4
  go_upto_region 1 with fail
  rw [← hW1, ← hT]
  clear hW1 hT
  go_wp2_with fail
  refine (H1.out _ hA).mono ?_
  rintro e w2 ⟨pa, pn, pc, ps, qa, qn, qc, rfl, hp, hps, hq, hb2⟩
  clear H1 c0 c1 c2 c3 c4 c5 c6
  have hC2 := hkeep hb2 hC
  have hA2 := hA.trans (hb2.mono hA.size)
  clear hC hA hb2
  have hL : Below w2.heap.size w2 (w2.alloc (.cells #[.int .i64 X, .int .i64 Z, .slice pa pn pc, .slice qa qn qc] 27 (0, 0))) := (Below.refl _ _).alloc (Nat.le_refl _) _
  have hP := World.alloc_heap_new w2 (.cells #[.int .i64 X, .int .i64 Z, .slice pa pn pc, .slice qa qn qc] 27 (0, 0))
  obtain ⟨P, hPd⟩ : ∃ P, P = w2.heap.size := ⟨_, rfl⟩
  obtain ⟨W3, hW3⟩ : ∃ W, W = w2.alloc (.cells #[.int .i64 X, .int .i64 Z, .slice pa pn pc, .slice qa qn qc] 27 (0, 0)) := ⟨_, rfl⟩
  rw [← hW3] at hL hP
  have hC3 := hkeep hL hC2
  have hA3 := hA2.trans (hL.mono hA2.size)
  have hp3 := hp.below hL (Nat.le_refl _)
  have hq3 := hq.below hL (Nat.le_refl _)
  rw [← hPd] at hP
  clear hC2 hA2 hp hq hL
  have c0 := hcell (k := 0) (v := .int .i64 cf.clear) hC3 rfl
  have c1 := hcell (k := 1) (v := .int .i64 cf.climb) hC3 rfl
  have c2 := hcell (k := 2) (v := .int .i64 cf.height) hC3 rfl
  have c3 := hcell (k := 3) (v := .int .i64 cf.rise) hC3 rfl
  have c4 := hcell (k := 4) (v := .int .i64 cf.run) hC3 rfl
  have c5 := hcell (k := 5) (v := .int .i64 cf.w) hC3 rfl
  have c6 := hcell (k := 6) (v := .int .i64 cf.d) hC3 rfl
  go_upto_region 4 with fail
  rw [← hW3, ← hPd]
  clear hW3 hPd
  go_wp2_with fail
  refine (H2.out _ hA3).mono ?_
  rintro e w4 ⟨ra, rn, rc, ps', sa, sn, sc, rfl, hr, hps', hs, hb4⟩
  clear H2 c0 c1 c2 c3 c4 c5 c6 hC3
  have hP4 := hkeep hb4 hP
  have hA4 := hA3.trans (hb4.mono hA3.size)
  have hp4 := hp3.below hb4 (Nat.le_refl _)
  have hq4 := hq3.below hb4 (Nat.le_refl _)
  clear hA3 hb4 hp3 hq3 hP
  obtain rfl : pn = rn := by rw [← hp4.sl.len, ← hr.sl.len, ← List.length_map (f := Prod.snd), hps, ← hps', List.length_map]
  obtain rfl : qn = sn := by rw [← hq4.len, ← hs.len]
  have hL : Below w4.heap.size w4 (w4.alloc (.cells #[.int .i64 X, .int .i64 Z, .slice ra pn rc, .slice sa qn sc] 27 (0, 0))) := (Below.refl _ _).alloc (Nat.le_refl _) _
  have hU := World.alloc_heap_new w4 (.cells #[.int .i64 X, .int .i64 Z, .slice ra pn rc, .slice sa qn sc] 27 (0, 0))
  obtain ⟨U, hUd⟩ : ∃ P, P = w4.heap.size := ⟨_, rfl⟩
  obtain ⟨W5, hW5⟩ : ∃ W, W = w4.alloc (.cells #[.int .i64 X, .int .i64 Z, .slice ra pn rc, .slice sa qn sc] 27 (0, 0)) := ⟨_, rfl⟩
  rw [← hW5] at hL hU
  have hP5 := hkeep hL hP4
  have hA5 := hA4.trans (hL.mono hA4.size)
  have SM := Lib.hid (same19_same X Z pa ra pn pc rc ps ps' qa sa qn qc sc ds W5 (hp4.below hL (Nat.le_refl _)) (hr.below hL (Nat.le_refl _)) (hps.trans hps'.symm) (hq4.below hL (Nat.le_refl _)) (hs.below hL (Nat.le_refl _)))
  rw [← hUd] at hU
  clear hP4 hA4 hp4 hq4 hr hs hL hps hps'
  have p0 := hcell (k := 0) (v := .int .i64 X) hP5 rfl
  have p1 := hcell (k := 1) (v := .int .i64 Z) hP5 rfl
  have p2 := hcell (k := 2) (v := .slice pa pn pc) hP5 rfl
  have p3 := hcell (k := 3) (v := .slice qa qn qc) hP5 rfl
  have q0 := hcell (k := 0) (v := .int .i64 X) hU rfl
  have q1 := hcell (k := 1) (v := .int .i64 Z) hU rfl
  have q2 := hcell (k := 2) (v := .slice ra pn rc) hU rfl
  have q3 := hcell (k := 3) (v := .slice sa qn sc) hU rfl
  go_upto_region 5 with fail
  rw [← hW5, ← hUd]
  clear hW5 hUd
  go_wp2_with fail
  refine SM.out.mono ?_
  rintro e w6 ⟨rfl, hb6⟩
  have hA6 := hA5.trans (hb6.mono hA5.size)
  clear p0 p1 p2 p3 q0 q1 q2 q3 hP5 hU hA5 hb6 SM
  go_wp2_with fail
  refine (wakes20_any _).mono ?_
  rintro e w7 ⟨rfl, hb7⟩
  go_wp2
  go_ret
  exact ⟨rfl, hA6.trans (hb7.mono hA6.size)⟩
end Go.Proofs.Ytgfmdgiepomkiaa
