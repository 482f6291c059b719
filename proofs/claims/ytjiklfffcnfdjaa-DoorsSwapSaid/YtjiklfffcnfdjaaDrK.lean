/- Walk: the law's wakes (under way). -/
import Derived.Test.YtjiklfffcnfdjaaDrV
namespace Go.Proofs.Ytjiklfffcnfdjaa
open Go.RowKit Go.Sort

theorem eqPt4 (w : World) : (Op.equalIn 10000 61 (.agg #[.int .i64 4, .int .i64 4]) (.agg #[.int .i64 4, .int .i64 4])).run Try.prog w = .ok true w := by
  have u3 := Try.underlying3
  have a3 := Try.isAgg3
  have z3 := Try.sizeOf3
  have hS : Try.prog.underlying 61 = some (.struct (Try.prog.fieldsOf 61)) := by kernel_rfl
  rw [show (10000 : Nat) = 9999 + 1 from rfl, run_equalIn_struct w 9999 61 _ _ hS (by kernel_rfl)]
  simp only [Program.fieldsOf, Try.underlying61]
  go_simp
set_option maxHeartbeats 1600000 in
theorem wakes18_any (w : World) : Calls Try.prog 9 #[] w fun e w' => e = .returned (.bool true) ∧ Below w.heap.size w w' := by
  have KC := Lib.hid (fun W => config18_any W)
  have FA := Lib.hid (fun W => flat_any 0 0 1 3 0 1 2 3 4 8 W (by omega) (by omega) (by decide) (by decide) (by decide) (by decide) (by decide))
  have FB := Lib.hid (fun W => flat_any 2 1 4 2 1 2 3 1 2 6 W (by omega) (by omega) (by decide) (by decide) (by decide) (by decide) (by decide))
  have FC := Lib.hid (fun W => flat_any 2 1 4 2 2 2 3 1 2 6 W (by omega) (by omega) (by decide) (by decide) (by decide) (by decide) (by decide))
  unfold cfgV wkC at KC
  go_enter Try.func9, Try.ntmps9
  go_wp2_with fail
  refine (KC.out _).mono ?_
  rintro e w1 ⟨rfl, hb1⟩
  go_wp2_with fail
  refine (FA.out _).mono ?_
  rintro e w2 ⟨h2, rfl, hs2, hb2⟩
  have hB2 := hb1.trans (hb2.mono hb1.size)
  go_wp2_with fail
  refine (FB.out _).mono ?_
  rintro e w3 ⟨h3, rfl, hs3, hb3⟩
  have hB3 := hB2.trans (hb3.mono hB2.size)
  have hs2' := hs2.below hb3 (Nat.le_refl _)
  have hB4 := hB3.alloc hB3.size (.cells (rcL h2 wkA ++ rcL h3 wkB1).toArray 26)
  have hs2'' := hs2'.below ((Below.refl _ _).alloc (Nat.le_refl _) (.cells (rcL h2 wkA ++ rcL h3 wkB1).toArray 26)) (Nat.le_refl _)
  have hs3'' := hs3.below ((Below.refl _ _).alloc (Nat.le_refl _) (.cells (rcL h2 wkA ++ rcL h3 wkB1).toArray 26)) (Nat.le_refl _)
  have BD := Lib.hid (build2_any wkC w3.heap.size h2 wkA h3 wkB1 _ (World.alloc_heap_new w3 (.cells (rcL h2 wkA ++ rcL h3 wkB1).toArray 26)) hs2'' hs3'' wk_cfg wk_a wk_b1 _ wk_one (.inr ⟨_, rfl⟩))
  have HB4 := Lib.hid hB4
  clear hB4 hs2'' hs3'' hs2' hs2 hs3
  go_wp2_with fail
  refine (BD.out).mono ?_
  rintro e w5 ⟨v, rfl, hown, hb5⟩
  have hB5 := HB4.out.trans (hb5.mono HB4.out.size)
  obtain ⟨va, vc, rfl, hsl⟩ := OwnR.reads drC_len hown
  have HSL := Lib.hid hsl
  clear hown hsl BD HB4
  simp only [List.map_cons, List.map_nil, List.length_cons, List.length_nil, dr01] at HSL ⊢
  go_wp2_with fail
  refine (KC.out _).mono ?_
  rintro e w6 ⟨rfl, hb6⟩
  have hB6 := hB5.trans (hb6.mono hB5.size)
  go_wp2_with fail
  refine (FA.out _).mono ?_
  rintro e w7 ⟨h7, rfl, hs7, hb7⟩
  have hB7 := hB6.trans (hb7.mono hB6.size)
  go_wp2_with fail
  refine (FC.out _).mono ?_
  rintro e w8 ⟨h8, rfl, hs8, hb8⟩
  have hB8 := hB7.trans (hb8.mono hB7.size)
  have hs7' := hs7.below hb8 (Nat.le_refl _)
  have hS8 := ((HSL.out.below hb6 (Nat.le_refl _)).below hb7 (Nat.le_refl _)).below hb8 (Nat.le_refl _)
  have hbA := (Below.refl _ _).alloc (Nat.le_refl w8.heap.size) (.cells (rcL h7 wkA ++ rcL h8 wkB2).toArray 26)
  have hB9 := hB8.alloc hB8.size (.cells (rcL h7 wkA ++ rcL h8 wkB2).toArray 26)
  have BE := Lib.hid (build2_any wkC w8.heap.size h7 wkA h8 wkB2 _ (World.alloc_heap_new w8 (.cells (rcL h7 wkA ++ rcL h8 wkB2).toArray 26)) (hs7'.below hbA (Nat.le_refl _)) (hs8.below hbA (Nat.le_refl _)) wk_cfg wk_a wk_b2 _ wk_none (.inl rfl))
  have HS9 := Lib.hid (hS8.below hbA (Nat.le_refl _))
  have HB9 := Lib.hid hB9
  clear hB9 hbA hS8 hs7' hs7 hs8 HSL
  go_wp2_with fail
  refine (BE.out).mono ?_
  rintro e w10 ⟨v2, rfl, hown2, hb10⟩
  have hB10 := HB9.out.trans (hb10.mono HB9.out.size)
  have hS10 := HS9.out.below hb10 (Nat.le_refl _)
  obtain ⟨va2, vc2, rfl, _⟩ := OwnR.reads drC_len hown2
  obtain ⟨b1, off1, rfl, hbl1, _⟩ := hS10.at0 (by simp)
  have p0 := SlDr.cells hS10 (k := 0) rfl 0 _ rfl
  have p1 := SlDr.cells hS10 (k := 0) rfl 1 _ rfl
  have p2 := SlDr.cells hS10 (k := 0) rfl 2 _ rfl
  have p3 := SlDr.cells hS10 (k := 0) rfl 3 _ rfl
  have p4 := SlDr.cells hS10 (k := 0) rfl 4 _ rfl
  have p5 := SlDr.cells hS10 (k := 0) rfl 5 _ rfl
  simp only [Nat.zero_mul, Nat.add_zero] at p0 p1 p2 p3 p4 p5
  have eD := fun W => eqDr W ⟨0, 1, 2, 1, 2, 3⟩ ⟨0, 1, 2, 1, 2, 3⟩
  simp only [decide_true] at eD
  have eP := fun W => eqPt4 W
  have MD := Lib.hid (fun W => middle_any W ⟨0, 1, 2, 1, 2, 3⟩ 4 4 (by decide) (by decide))
  clear hS10 hown2 HS9 HB9 BE
  simp only [List.map_nil, List.length_nil]
  go_wp2_with fail
  refine (MD.out _).mono ?_
  rintro e w11 ⟨rfl, hb11⟩
  have hB11 := hB10.trans (hb11.mono hB10.size)
  clear p0 p1 p2 p3 p4 p5
  go_wp2
  go_ret
  exact ⟨rfl, hB11⟩
end Go.Proofs.Ytjiklfffcnfdjaa
