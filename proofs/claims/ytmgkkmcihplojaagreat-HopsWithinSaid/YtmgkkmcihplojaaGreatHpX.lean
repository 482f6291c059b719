/- Walk: the law's wakes. -/
import Derived.Test.YtmgkkmcihplojaaGreatHpW
namespace Go.Proofs.YtmgkkmcihplojaaGreat
open Go.RowKit Go.Sort
attribute [local go_sem] Instr.index

theorem hpl_col {a : Option Addr} {t : Tl} {W : World} {y : Int} {o : Option Fd} (h : SlTl W a 1 1 [t]) (hc : ColT t) (hy : clY y = y) (ho : locD 2 2 y 4 [[hr1, hr2]] = o) :
    Calls Tryz.prog 6 #[cfgV hcfg, .slice a 1 1, .agg #[.int .i64 2, .int .i64 2, .int .i64 y], .int .i64 4] W (LoPost 2 2 o W) := by
  have L := hplocate_any hcfg a 1 1 [t] 2 2 y 4 W h (by omega) (fun u hu => by rw [List.mem_singleton.1 hu]; exact hc.2.2.2.2)
  have e : lcE hcfg 2 2 y 4 [t] = o := by
    unfold lcE
    rw [if_pos (sm_col hc.1 hc.2.1 hc.2.2.1 hc.2.2.2.1), hy]
    unfold tlRs
    rw [List.map_singleton, hc.2.2.1, ho]
  rw [e] at L
  exact L
abbrev hh1 : Hp := { id := 1, a := { x := 2, z := 2, y := 3 }, b := { x := 2, z := 2, y := 7 }, both := false, area := 1, cost := 0 }
theorem hpa_col {a : Option Addr} {t : Tl} {W : World} {hb : Nat} (h : SlTl W a 1 1 [t]) (hc : ColT t) (hs : SlR hpC 10 W (some ⟨hb, 0, none⟩) 1 1 [hh1]) :
    Calls Tryz.prog 10 #[cfgV hcfg, .slice a 1 1, .slice (some ⟨hb, 0, none⟩) 1 1] W (AcPost hh1 ⟨0, 0, 3⟩ ⟨0, 1, 7⟩ W) := by
  refine hpactive_any hcfg a 1 1 [t] hh1 hb 1 ⟨0, 0, 3⟩ ⟨0, 1, 7⟩ W h (by omega) (fun u hu => by rw [List.mem_singleton.1 hu]; exact hc.2.2.2.2) hs (sm_col hc.1 hc.2.1 hc.2.2.1 hc.2.2.2.1) (by decide) ?_ ?_
  · rw [show clY hh1.a.y = 3 from rfl]
    unfold tlRs
    rw [List.map_singleton, hc.2.2.1]
    exact loc_c3
  · rw [show clY hh1.b.y = 7 from rfl]
    unfold tlRs
    rw [List.map_singleton, hc.2.2.1]
    exact loc_c4
set_option maxRecDepth 100000 in
set_option maxHeartbeats 8000000 in
theorem wakes23_any (w : World) : Calls Tryz.prog 5 #[] w fun e w' => e = .returned (.bool true) ∧ Below w.heap.size w w' := by
  have CF := Lib.hid (fun W => config23_any W)
  have CO := Lib.hid (fun W => column23_any W)
  have L1 := Lib.hid (fun a t W (h : SlTl W a 1 1 [t]) (hc : ColT t) => hpl_col h hc (y := 5) rfl loc_c1)
  have L2 := Lib.hid (fun a t W (h : SlTl W a 1 1 [t]) (hc : ColT t) => hpl_col h hc (y := 12) rfl loc_c2)
  have AC := Lib.hid (fun a t W hb (h : SlTl W a 1 1 [t]) (hc : ColT t) (hs : SlR hpC 10 W (some ⟨hb, 0, none⟩) 1 1 [hh1]) => hpa_col h hc hs)
  unfold CoPost at CO
  unfold LoPost at L1 L2
  unfold AcPost at AC
  dsimp only [enA, Option.isSome, cfgV] at CF L1 L2 AC
  go_enter Tryz.func5, Tryz.ntmps5
  have hB0 : Below w.heap.size w w := Below.refl _ _
  go_wp2_with fail
  refine (CF.out _).mono ?_
  rintro e u1 ⟨rfl, hb⟩
  have hB := hb
  clear hb
  go_wp2_with fail
  refine (CO.out _).mono ?_
  rintro e u2 ⟨⟨a, t, rfl, hs, hc⟩, hb⟩
  have hB2 := hB.trans (hb.mono hB.size)
  clear hb hB
  go_wp2_with fail
  refine (L1.out _ _ _ hs hc).mono ?_
  rintro e u3 ⟨rfl, hb⟩
  have hB3 := hB2.trans (hb.mono hB2.size)
  clear hs hc hb hB2 hB0
  have hA : Below u3.heap.size u3 (u3.alloc (.cells #[.int .i64 0, .int .i64 0, .int .i64 2, .int .i64 2, .int .i64 3] 30 (0, 0))) := (Below.refl _ _).alloc (Nat.le_refl _) _
  have hK := World.alloc_heap_new u3 (.cells #[.int .i64 0, .int .i64 0, .int .i64 2, .int .i64 2, .int .i64 3] 30 (0, 0))
  have hB0 := hB3.trans (hA.mono hB3.size)
  obtain ⟨u4, hu4⟩ : ∃ W, W = u3.alloc (.cells #[.int .i64 0, .int .i64 0, .int .i64 2, .int .i64 2, .int .i64 3] 30 (0, 0)) := ⟨_, rfl⟩
  obtain ⟨T1, hT1⟩ : ∃ T, T = u3.heap.size := ⟨_, rfl⟩
  rw [← hu4] at hK hB0
  rw [← hT1] at hK
  clear hA hB3
  go_upto_region 2 with fail
  rw [← hu4, ← hT1]
  clear hu4 hT1
  go_wp2_with fail
  refine (CF.out _).mono ?_
  rintro e v1 ⟨rfl, hb⟩
  have hB := hB0.trans (hb.mono hB0.size)
  have hKc := hkeep hb hK
  clear hb hK
  clear hB0
  go_wp2_with fail
  refine (CO.out _).mono ?_
  rintro e v2 ⟨⟨a, t, rfl, hs, hc⟩, hb⟩
  have hB2 := hB.trans (hb.mono hB.size)
  have hKd := hkeep hb hKc
  clear hKc hb hB
  go_wp2_with fail
  refine (L2.out _ _ _ hs hc).mono ?_
  rintro e v3 ⟨rfl, hb⟩
  have hB3 := hB2.trans (hb.mono hB2.size)
  have hK3 := hkeep hb hKd
  clear hs hc hb hB2 hKd
  have hA : Below v3.heap.size v3 (v3.alloc (.cells #[.int .i64 0, .int .i64 0, .int .i64 0, .int .i64 0, .int .i64 0] 30 (0, 0))) := (Below.refl _ _).alloc (Nat.le_refl _) _
  have hK := hkeep hA hK3
  have hB0 := hB3.trans (hA.mono hB3.size)
  obtain ⟨v4, hv4⟩ : ∃ W, W = v3.alloc (.cells #[.int .i64 0, .int .i64 0, .int .i64 0, .int .i64 0, .int .i64 0] 30 (0, 0)) := ⟨_, rfl⟩
  rw [← hv4] at hK hB0
  clear hA hB3 hK3
  go_upto_region 3 with fail
  rw [← hv4]
  clear hv4
  go_wp2_with fail
  refine (CF.out _).mono ?_
  rintro e x1 ⟨rfl, hb⟩
  have hB := hB0.trans (hb.mono hB0.size)
  have hKc := hkeep hb hK
  clear hb hK
  clear hB0
  go_wp2_with fail
  refine (CO.out _).mono ?_
  rintro e x2 ⟨⟨a, t, rfl, hs, hc⟩, hb⟩
  have hB2 := hB.trans (hb.mono hB.size)
  have hKd := hkeep hb hKc
  clear hKc hb hB
  have hA : Below x2.heap.size x2 (x2.alloc (.cells #[.int .i64 1, .int .i64 2, .int .i64 2, .int .i64 3, .int .i64 2, .int .i64 2, .int .i64 7, .bool false, .int .i64 1, .int .i64 0] 46 (0, 0))) := (Below.refl _ _).alloc (Nat.le_refl _) _
  have hN := World.alloc_heap_new x2 (.cells #[.int .i64 1, .int .i64 2, .int .i64 2, .int .i64 3, .int .i64 2, .int .i64 2, .int .i64 7, .bool false, .int .i64 1, .int .i64 0] 46 (0, 0))
  have hKe := hkeep hA hKd
  have hB3 := hB2.trans (hA.mono hB2.size)
  have hsl := SlR.ofBlock (f := hpC) (sz := 10) (xs := [hh1]) (n := 1) (fun _ => rfl) hN rfl (by omega)
  have AQ := Lib.hid (AC.out _ _ _ _ (hs.below hA (Nat.le_refl _)) hc hsl)
  obtain ⟨x3, hx3⟩ : ∃ W, W = x2.alloc (.cells #[.int .i64 1, .int .i64 2, .int .i64 2, .int .i64 3, .int .i64 2, .int .i64 2, .int .i64 7, .bool false, .int .i64 1, .int .i64 0] 46 (0, 0)) := ⟨_, rfl⟩
  obtain ⟨S3, hS3⟩ : ∃ T, T = x2.heap.size := ⟨_, rfl⟩
  rw [← hx3, ← hS3] at AQ
  rw [← hx3] at hKe hB3
  clear hA hN hsl hs hc hB2 hKd
  go_wp2_with fail
  rw [← hx3, ← hS3]
  clear hx3 hS3
  refine AQ.out.mono ?_
  rintro e x4 ⟨⟨xa, xc, rfl, hs⟩, hb⟩
  have hB4 := hB3.trans (hb.mono hB3.size)
  have hKf := hkeep hb hKe
  have k1 := hcell (k := 1) (v := .int .i64 0) hKf rfl
  have k4 := hcell (k := 4) (v := .int .i64 3) hKf rfl
  obtain ⟨B, off, rfl, _, _⟩ := hs.at0 (by omega)
  have r := hs.cells (k := 0) rfl 7 _ rfl
  simp only [Nat.zero_mul, Nat.add_zero] at r
  clear hKe hKf hs hb hB3 AQ
  go_wp2
  go_ret
  exact ⟨rfl, hB4⟩
end Go.Proofs.YtmgkkmcihplojaaGreat
