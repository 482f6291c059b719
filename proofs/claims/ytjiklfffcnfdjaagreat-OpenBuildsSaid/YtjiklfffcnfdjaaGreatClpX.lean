/- Walks: the clip: sides turned, spots over a column. -/
import Derived.Test.YtjiklfffcnfdjaaGreatClpW
import Derived.Test.YtjiklfffcnfdjaaGreatGi
namespace Go.Proofs.YtjiklfffcnfdjaaGreat
open Go.RowKit
attribute [local go_sem] Instr.index

set_option maxRecDepth 100000 in
set_option maxHeartbeats 4000000 in
theorem turned_any (a b : V3) (w : World) :
    Calls Tryz.prog 116 #[siA a b] w fun e w' => e = .returned (siA (turnV a) (turnV b)) ∧ Below w.heap.size w w' := by
  obtain ⟨ax, ay, az⟩ := a
  obtain ⟨bx, by_, bz⟩ := b
  unfold turnV
  go_enter Tryz.func116, Tryz.ntmps116
  go_wp2
  have hh := World.alloc_heap_new (w.alloc (.cells #[.int .i64 az, .int .i64 ay, .int .i64 ax, .int .i64 bz, .int .i64 by_, .int .i64 bx] 137)) (.cells #[.int .i64 az, .int .i64 ay, .int .i64 ax, .int .i64 bz, .int .i64 by_, .int .i64 bx] 137)
  simp only [World.size_alloc] at hh
  have hB : Below w.heap.size w ((w.alloc (.cells #[.int .i64 az, .int .i64 ay, .int .i64 ax, .int .i64 bz, .int .i64 by_, .int .i64 bx] 137)).alloc (.cells #[.int .i64 az, .int .i64 ay, .int .i64 ax, .int .i64 bz, .int .i64 by_, .int .i64 bx] 137)) := ((Below.refl _ _).alloc (Nat.le_refl _) _).alloc (by simp) _
  refine bodyPost_ret (results_cell_row rfl _ _ (w.heap.size + 1) 137 #[.int .i64 az, .int .i64 ay, .int .i64 ax, .int .i64 bz, .int .i64 by_, .int .i64 bx] (0, 0) _ rfl hh Tryz.underlying137 rfl (by kernel_rfl)) rfl ⟨rfl, hB⟩

set_option maxRecDepth 100000 in
set_option maxHeartbeats 4000000 in
theorem alongz_any (a b : V3) (n : Int) (w : World) (h : sideOk a b n) :
    Calls Tryz.prog 93 #[siA a b, .int .i64 n] w fun e w' => e = .returned (.tuple #[spA (alongQ a b n).1, .bool (alongQ a b n).2]) ∧ Below w.heap.size w w' := by
  have T := Lib.hid (fun W => turned_any a b W)
  have C := Lib.hid (fun W => along_any (turnV a) (turnV b) n W (by unfold sideOk turnV at *; simp only; omega))
  unfold alongQ
  simp only
  generalize alongP (turnV a) (turnV b) n = r at C ⊢
  obtain ⟨⟨rx, rz, rd⟩, rk⟩ := r
  clear h
  obtain ⟨ax, ay, az⟩ := a
  obtain ⟨bx, by_, bz⟩ := b
  simp only at T C ⊢
  have hB : Below w.heap.size w ((w.alloc (.cells #[.int .i64 ax, .int .i64 ay, .int .i64 az, .int .i64 bx, .int .i64 by_, .int .i64 bz] 137)).alloc (.cells #[.int .i64 0, .int .i64 0, .int .i64 0] 128)) := ((Below.refl _ _).alloc (Nat.le_refl _) _).alloc (by simp) _
  have hS := halloc (World.alloc_heap_new w (.cells #[.int .i64 ax, .int .i64 ay, .int .i64 az, .int .i64 bx, .int .i64 by_, .int .i64 bz] 137)) (.cells #[.int .i64 0, .int .i64 0, .int .i64 0] 128)
  have hP := World.alloc_heap_new (w.alloc (.cells #[.int .i64 ax, .int .i64 ay, .int .i64 az, .int .i64 bx, .int .i64 by_, .int .i64 bz] 137)) (.cells #[.int .i64 0, .int .i64 0, .int .i64 0] 128)
  simp only [World.size_alloc] at hP
  have k0 := hcell (k := 0) (v := .int .i64 ax) hS rfl
  have k1 := hcell (k := 1) (v := .int .i64 ay) hS rfl
  have k2 := hcell (k := 2) (v := .int .i64 az) hS rfl
  have k3 := hcell (k := 3) (v := .int .i64 bx) hS rfl
  have k4 := hcell (k := 4) (v := .int .i64 by_) hS rfl
  have k5 := hcell (k := 5) (v := .int .i64 bz) hS rfl
  clear hS
  go_enter Tryz.func93, Tryz.ntmps93
  go_wp2_with fail
  refine (T.out _).mono ?_
  rintro e w1 ⟨rfl, hb1⟩
  have hP1 := hkeep hb1 hP
  have hB1 := hB.trans (hb1.mono hB.size)
  clear k0 k1 k2 k3 k4 k5 hP hB hb1
  go_wp2_with fail
  refine (C.out _).mono ?_
  rintro e w2 ⟨rfl, hb2⟩
  have hP2 := hkeep hb2 hP1
  have hB2 := hB1.trans (hb2.mono hB1.size)
  have hs2 := hblt hP2
  clear hb2 hP1 hB1
  have f0 := hfroz (k := 0) hP2
  have f1 := hfroz (k := 1) hP2
  have f2 := hfroz (k := 2) hP2
  have p0 := hcell (k := 0) (v := .int .i64 0) hP2 rfl
  have p1 := hcell (k := 1) (v := .int .i64 0) hP2 rfl
  have p2 := hcell (k := 2) (v := .int .i64 0) hP2 rfl
  have hP3 := halloc (box3_set hP2 (.int .i64 rz) (.int .i64 rx) (.int .i64 rd)) (.cells #[.int .i64 rx, .int .i64 rz, .int .i64 rd] 128)
  have hB3' := hB2.grown (box3_grown (b := w.heap.size + 1) (.int .i64 rz) (.int .i64 rx) (.int .i64 rd)) hB2.size (fun j hj => by cases hj; omega)
  have hB3 := hB3'.alloc hB3'.size (.cells #[.int .i64 rx, .int .i64 rz, .int .i64 rd] 128)
  go_wp2
  refine bodyPost_ret (results_ct1 rfl _ _ (w.heap.size + 1) 128 #[.int .i64 rz, .int .i64 rx, .int .i64 rd] (0, 0) _ rfl hP3 Tryz.underlying128 rfl (by kernel_rfl)) rfl ⟨?_, hB3⟩
  rfl

set_option maxRecDepth 100000 in
set_option maxHeartbeats 4000000 in
/-- Is a spot over a column? (X, Z: the boxes of the column's numbers.) -/
theorem over_any (x z : Int) (p : Sp) (X Z : Nat) (w : World) (hx : Boxed w X 3 (.int .i64 x)) (hz : Boxed w Z 3 (.int .i64 z)) (hxb : -1 ≤ x ∧ x ≤ 32) (hzb : -1 ≤ z ∧ z ≤ 32) (hp : SpSmall p) :
    Calls Tryz.prog 86 #[spA p, .pointer (some ⟨X, 0, none⟩), .pointer (some ⟨Z, 0, none⟩)] w fun e w' => e = .returned (.bool (overS x z p)) ∧ Below w.heap.size w w' := by
  obtain ⟨r, hr⟩ : ∃ r, Hid (r = overS x z p) := ⟨_, rfl⟩
  rw [← hr.out]
  obtain ⟨px, pz, pd⟩ := p
  obtain ⟨p1, p2, p3, p4, p5, p6⟩ := hp
  simp only at p1 p2 p3 p4 p5 p6
  have m1 := mulB (x := x) (y := pd) (K := 40) (L := 40) (by omega) (by omega)
  have m2 := mulB (x := x + 1) (y := pd) (K := 40) (L := 40) (by omega) (by omega)
  have m3 := mulB (x := z) (y := pd) (K := 40) (L := 40) (by omega) (by omega)
  have m4 := mulB (x := z + 1) (y := pd) (K := 40) (L := 40) (by omega) (by omega)
  have hB : Below w.heap.size w (w.alloc (.cells #[.int .i64 px, .int .i64 pz, .int .i64 pd] 128)) := (Below.refl _ _).alloc (Nat.le_refl _) _
  have cx := (Boxed.alloc hx (.cells #[.int .i64 px, .int .i64 pz, .int .i64 pd] 128)).cell
  have cz := (Boxed.alloc hz (.cells #[.int .i64 px, .int .i64 pz, .int .i64 pd] 128)).cell
  go_enter Tryz.func86, Tryz.ntmps86
  go_wp2
  all_goals
    go_ret
    refine ⟨ret_bool ?_, hB⟩
    rw [hr.out]
    clear hr
    simp only [overS]
    grind
end Go.Proofs.YtjiklfffcnfdjaaGreat
