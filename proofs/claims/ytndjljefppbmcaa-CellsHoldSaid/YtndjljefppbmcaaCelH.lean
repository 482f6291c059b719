/- Walk: the law CellsHold. -/
import Derived.Test.YtndjljefppbmcaaCelT
namespace Go.Proofs.Ytndjljefppbmcaa
open Go.RowKit

theorem holds_at {a b : Pt} {l : List Cel} (ha : pointOk a = true) (hb : pointOk b = true) (hl : CelAt a b l) {n k u v : Int} (hn : 0 < n) (h0 : 0 ≤ k) (h1 : k ≤ n) (hu : (b.x - a.x) * k = n * u) (hv : (b.z - a.z) * k = n * v) {c : Cel} (hc : c ∈ l) :
    decide (holdsC c ⟨a.x + u, a.z + v⟩) = (!decide (ltR ⟨k, n⟩ c.p) && !decide (ltR c.q ⟨k, n⟩)) := by
  have e1 := cel_at ha hb hl hc (r := ⟨k, n⟩) hn
  have e2 := at_whole (a := a) (b := b) (x := c.x) (z := c.z) hn h0 h1 hu hv
  rw [Bool.eq_iff_iff, decide_eq_true_eq, Bool.and_eq_true, Bool.not_eq_true', Bool.not_eq_true', decide_eq_false_iff_not, decide_eq_false_iff_not, not_ltR, not_ltR, e1, e2]
  unfold holdsC
  simp only
  omega
theorem holds_some {a b : Pt} {l : List Cel} (ha : pointOk a = true) (hb : pointOk b = true) (hl : CelAt a b l) {n k u v : Int} (hn : 0 < n) (h0 : 0 ≤ k) (h1 : k ≤ n) (hu : (b.x - a.x) * k = n * u) (hv : (b.z - a.z) * k = n * v) :
    l.any (fun c => decide (holdsC c ⟨a.x + u, a.z + v⟩)) = true := by
  obtain ⟨c, hc, h⟩ := cel_has ha hb hl (r := ⟨k, n⟩) hn h0 h1
  rw [List.any_eq_true]
  refine ⟨c, hc, ?_⟩
  rw [holds_at ha hb hl hn h0 h1 hu hv hc, Bool.and_eq_true, Bool.not_eq_true', Bool.not_eq_true', decide_eq_false_iff_not, decide_eq_false_iff_not, not_ltR, not_ltR]
  exact h
theorem mul64 {d k : Int} (hd : -64 ≤ d ∧ d ≤ 64) (hk : 0 ≤ k ∧ k ≤ 100) : -6400 ≤ d * k ∧ d * k ≤ 6400 := by
  have h1 := Int.mul_le_mul_of_nonneg_right (c := k) hd.1 hk.1
  have h2 := Int.mul_le_mul_of_nonneg_right (c := k) hd.2 hk.1
  omega
theorem tdiv_of {x n : Int} (hn : 0 < n) (h : x.tmod n = 0) (hx : -6400 ≤ x ∧ x ≤ 6400) : ∃ u, x.tdiv n = u ∧ x = n * u ∧ -6400 ≤ u ∧ u ≤ 6400 := by
  refine ⟨_, rfl, (Int.mul_tdiv_cancel' (Int.dvd_of_tmod_eq_zero h)).symm, ?_⟩
  have e := Int.mul_tdiv_cancel' (Int.dvd_of_tmod_eq_zero h)
  exact abs_le_of_mul hn (by omega) (by omega) (by omega)

set_option maxRecDepth 100000 in
set_option maxHeartbeats 4000000 in
theorem cellshold_no (ax az bx bz k n : Int) (w : World) (hab : (pointOk ⟨ax, az⟩ && pointOk ⟨bx, bz⟩) = false) :
    Calls Try.prog 6 #[ptA ⟨ax, az⟩, ptA ⟨bx, bz⟩, .int .i64 k, .int .i64 n] w fun e w' => e = .returned (.bool true) ∧ Below w.heap.size w w' := by
  have hB : Below w.heap.size w ((w.alloc (.cells #[.int .i64 ax, .int .i64 az] 36)).alloc (.cells #[.int .i64 bx, .int .i64 bz] 36)) := ((Below.refl _ _).alloc (Nat.le_refl _) _).alloc (by simp) _
  have hA := halloc (World.alloc_heap_new w (.cells #[.int .i64 ax, .int .i64 az] 36)) (.cells #[.int .i64 bx, .int .i64 bz] 36)
  have hBb := World.alloc_heap_new (w.alloc (.cells #[.int .i64 ax, .int .i64 az] 36)) (.cells #[.int .i64 bx, .int .i64 bz] 36)
  simp only [World.size_alloc] at hBb
  have C1 := Lib.hid (fun W => cells_no ⟨ax, az⟩ ⟨bx, bz⟩ W hab)
  go_enter Try.func6, Try.ntmps6
  go_wp2_with fail
  refine (C1.out _).mono ?_
  rintro e w1 ⟨ad, c, rfl, hb1⟩
  have hA1 := hkeep hb1 hA
  have hBb1 := hkeep hb1 hBb
  have hB1 := hB.trans (hb1.mono hB.size)
  have k1 := hcell (k := 0) (v := .int .i64 ax) hA1 rfl
  have k2 := hcell (k := 1) (v := .int .i64 az) hA1 rfl
  have k3 := hcell (k := 0) (v := .int .i64 bx) hBb1 rfl
  have k4 := hcell (k := 1) (v := .int .i64 bz) hBb1 rfl
  clear hA hBb hB hb1 C1
  go_wp2_with fail
  refine (wakes03_any _).mono ?_
  rintro e w2 ⟨rfl, hb2⟩
  have hB2 := hB1.trans (hb2.mono hB1.size)
  clear hA1 hBb1 k1 k2 k3 k4 hB1 hb2
  go_wp2
  go_ret
  exact ⟨rfl, hB2⟩

set_option maxRecDepth 100000 in
set_option maxHeartbeats 4000000 in
theorem cellshold_n1 (ax az bx bz k n : Int) (w : World) (ha : pointOk ⟨ax, az⟩ = true) (hb : pointOk ⟨bx, bz⟩ = true) (h : n < 1) :
    Calls Try.prog 6 #[ptA ⟨ax, az⟩, ptA ⟨bx, bz⟩, .int .i64 k, .int .i64 n] w fun e w' => e = .returned (.bool true) ∧ Below w.heap.size w w' := by
  have hB : Below w.heap.size w ((w.alloc (.cells #[.int .i64 ax, .int .i64 az] 36)).alloc (.cells #[.int .i64 bx, .int .i64 bz] 36)) := ((Below.refl _ _).alloc (Nat.le_refl _) _).alloc (by simp) _
  have hA := halloc (World.alloc_heap_new w (.cells #[.int .i64 ax, .int .i64 az] 36)) (.cells #[.int .i64 bx, .int .i64 bz] 36)
  have hBb := World.alloc_heap_new (w.alloc (.cells #[.int .i64 ax, .int .i64 az] 36)) (.cells #[.int .i64 bx, .int .i64 bz] 36)
  simp only [World.size_alloc] at hBb
  have C1 := Lib.hid (fun W => cells_ok ⟨ax, az⟩ ⟨bx, bz⟩ W ha hb)
  go_enter Try.func6, Try.ntmps6
  go_wp2_with fail
  refine (C1.out _).mono ?_
  rintro e w1 ⟨ad, m, c, l, rfl, hsl, _, hat, hb1⟩
  clear hsl hat
  have hA1 := hkeep hb1 hA
  have hBb1 := hkeep hb1 hBb
  have hB1 := hB.trans (hb1.mono hB.size)
  have k1 := hcell (k := 0) (v := .int .i64 ax) hA1 rfl
  have k2 := hcell (k := 1) (v := .int .i64 az) hA1 rfl
  have k3 := hcell (k := 0) (v := .int .i64 bx) hBb1 rfl
  have k4 := hcell (k := 1) (v := .int .i64 bz) hBb1 rfl
  clear hA hBb hB hb1 C1
  go_wp2_with fail
  refine (wakes03_any _).mono ?_
  rintro e w2 ⟨rfl, hb2⟩
  have hB2 := hB1.trans (hb2.mono hB1.size)
  clear hA1 hBb1 k1 k2 k3 k4 hB1 hb2
  go_wp2
  go_ret
  exact ⟨rfl, hB2⟩

set_option maxRecDepth 100000 in
set_option maxHeartbeats 4000000 in
theorem cellshold_n2 (ax az bx bz k n : Int) (w : World) (ha : pointOk ⟨ax, az⟩ = true) (hb : pointOk ⟨bx, bz⟩ = true) (h1 : ¬ n < 1) (h : 100 < n) :
    Calls Try.prog 6 #[ptA ⟨ax, az⟩, ptA ⟨bx, bz⟩, .int .i64 k, .int .i64 n] w fun e w' => e = .returned (.bool true) ∧ Below w.heap.size w w' := by
  have hB : Below w.heap.size w ((w.alloc (.cells #[.int .i64 ax, .int .i64 az] 36)).alloc (.cells #[.int .i64 bx, .int .i64 bz] 36)) := ((Below.refl _ _).alloc (Nat.le_refl _) _).alloc (by simp) _
  have hA := halloc (World.alloc_heap_new w (.cells #[.int .i64 ax, .int .i64 az] 36)) (.cells #[.int .i64 bx, .int .i64 bz] 36)
  have hBb := World.alloc_heap_new (w.alloc (.cells #[.int .i64 ax, .int .i64 az] 36)) (.cells #[.int .i64 bx, .int .i64 bz] 36)
  simp only [World.size_alloc] at hBb
  have C1 := Lib.hid (fun W => cells_ok ⟨ax, az⟩ ⟨bx, bz⟩ W ha hb)
  go_enter Try.func6, Try.ntmps6
  go_wp2_with fail
  refine (C1.out _).mono ?_
  rintro e w1 ⟨ad, m, c, l, rfl, hsl, _, hat, hb1⟩
  clear hsl hat
  have hA1 := hkeep hb1 hA
  have hBb1 := hkeep hb1 hBb
  have hB1 := hB.trans (hb1.mono hB.size)
  have k1 := hcell (k := 0) (v := .int .i64 ax) hA1 rfl
  have k2 := hcell (k := 1) (v := .int .i64 az) hA1 rfl
  have k3 := hcell (k := 0) (v := .int .i64 bx) hBb1 rfl
  have k4 := hcell (k := 1) (v := .int .i64 bz) hBb1 rfl
  clear hA hBb hB hb1 C1
  go_wp2_with fail
  refine (wakes03_any _).mono ?_
  rintro e w2 ⟨rfl, hb2⟩
  have hB2 := hB1.trans (hb2.mono hB1.size)
  clear hA1 hBb1 k1 k2 k3 k4 hB1 hb2
  go_wp2
  go_ret
  exact ⟨rfl, hB2⟩

set_option maxRecDepth 100000 in
set_option maxHeartbeats 4000000 in
theorem cellshold_k1 (ax az bx bz k n : Int) (w : World) (ha : pointOk ⟨ax, az⟩ = true) (hb : pointOk ⟨bx, bz⟩ = true) (h1 : ¬ n < 1) (h2 : ¬ 100 < n) (h : k < 0) :
    Calls Try.prog 6 #[ptA ⟨ax, az⟩, ptA ⟨bx, bz⟩, .int .i64 k, .int .i64 n] w fun e w' => e = .returned (.bool true) ∧ Below w.heap.size w w' := by
  have hB : Below w.heap.size w ((w.alloc (.cells #[.int .i64 ax, .int .i64 az] 36)).alloc (.cells #[.int .i64 bx, .int .i64 bz] 36)) := ((Below.refl _ _).alloc (Nat.le_refl _) _).alloc (by simp) _
  have hA := halloc (World.alloc_heap_new w (.cells #[.int .i64 ax, .int .i64 az] 36)) (.cells #[.int .i64 bx, .int .i64 bz] 36)
  have hBb := World.alloc_heap_new (w.alloc (.cells #[.int .i64 ax, .int .i64 az] 36)) (.cells #[.int .i64 bx, .int .i64 bz] 36)
  simp only [World.size_alloc] at hBb
  have C1 := Lib.hid (fun W => cells_ok ⟨ax, az⟩ ⟨bx, bz⟩ W ha hb)
  go_enter Try.func6, Try.ntmps6
  go_wp2_with fail
  refine (C1.out _).mono ?_
  rintro e w1 ⟨ad, m, c, l, rfl, hsl, _, hat, hb1⟩
  clear hsl hat
  have hA1 := hkeep hb1 hA
  have hBb1 := hkeep hb1 hBb
  have hB1 := hB.trans (hb1.mono hB.size)
  have k1 := hcell (k := 0) (v := .int .i64 ax) hA1 rfl
  have k2 := hcell (k := 1) (v := .int .i64 az) hA1 rfl
  have k3 := hcell (k := 0) (v := .int .i64 bx) hBb1 rfl
  have k4 := hcell (k := 1) (v := .int .i64 bz) hBb1 rfl
  clear hA hBb hB hb1 C1
  go_wp2_with fail
  refine (wakes03_any _).mono ?_
  rintro e w2 ⟨rfl, hb2⟩
  have hB2 := hB1.trans (hb2.mono hB1.size)
  clear hA1 hBb1 k1 k2 k3 k4 hB1 hb2
  go_wp2
  go_ret
  exact ⟨rfl, hB2⟩

set_option maxRecDepth 100000 in
set_option maxHeartbeats 4000000 in
theorem cellshold_k2 (ax az bx bz k n : Int) (w : World) (ha : pointOk ⟨ax, az⟩ = true) (hb : pointOk ⟨bx, bz⟩ = true) (h1 : ¬ n < 1) (h2 : ¬ 100 < n) (h3 : ¬ k < 0) (h : n < k) :
    Calls Try.prog 6 #[ptA ⟨ax, az⟩, ptA ⟨bx, bz⟩, .int .i64 k, .int .i64 n] w fun e w' => e = .returned (.bool true) ∧ Below w.heap.size w w' := by
  have hB : Below w.heap.size w ((w.alloc (.cells #[.int .i64 ax, .int .i64 az] 36)).alloc (.cells #[.int .i64 bx, .int .i64 bz] 36)) := ((Below.refl _ _).alloc (Nat.le_refl _) _).alloc (by simp) _
  have hA := halloc (World.alloc_heap_new w (.cells #[.int .i64 ax, .int .i64 az] 36)) (.cells #[.int .i64 bx, .int .i64 bz] 36)
  have hBb := World.alloc_heap_new (w.alloc (.cells #[.int .i64 ax, .int .i64 az] 36)) (.cells #[.int .i64 bx, .int .i64 bz] 36)
  simp only [World.size_alloc] at hBb
  have C1 := Lib.hid (fun W => cells_ok ⟨ax, az⟩ ⟨bx, bz⟩ W ha hb)
  go_enter Try.func6, Try.ntmps6
  go_wp2_with fail
  refine (C1.out _).mono ?_
  rintro e w1 ⟨ad, m, c, l, rfl, hsl, _, hat, hb1⟩
  clear hsl hat
  have hA1 := hkeep hb1 hA
  have hBb1 := hkeep hb1 hBb
  have hB1 := hB.trans (hb1.mono hB.size)
  have k1 := hcell (k := 0) (v := .int .i64 ax) hA1 rfl
  have k2 := hcell (k := 1) (v := .int .i64 az) hA1 rfl
  have k3 := hcell (k := 0) (v := .int .i64 bx) hBb1 rfl
  have k4 := hcell (k := 1) (v := .int .i64 bz) hBb1 rfl
  clear hA hBb hB hb1 C1
  go_wp2_with fail
  refine (wakes03_any _).mono ?_
  rintro e w2 ⟨rfl, hb2⟩
  have hB2 := hB1.trans (hb2.mono hB1.size)
  clear hA1 hBb1 k1 k2 k3 k4 hB1 hb2
  go_wp2
  go_ret
  exact ⟨rfl, hB2⟩

set_option maxRecDepth 100000 in
set_option maxHeartbeats 4000000 in
theorem cellshold_x (ax az bx bz k n : Int) (w : World) (ha : pointOk ⟨ax, az⟩ = true) (hb : pointOk ⟨bx, bz⟩ = true) (h1 : ¬ n < 1) (h2 : ¬ 100 < n) (h3 : ¬ k < 0) (h4 : ¬ n < k) (h : ¬ ((bx - ax) * k).tmod n = 0) :
    Calls Try.prog 6 #[ptA ⟨ax, az⟩, ptA ⟨bx, bz⟩, .int .i64 k, .int .i64 n] w fun e w' => e = .returned (.bool true) ∧ Below w.heap.size w w' := by
  have hB : Below w.heap.size w ((w.alloc (.cells #[.int .i64 ax, .int .i64 az] 36)).alloc (.cells #[.int .i64 bx, .int .i64 bz] 36)) := ((Below.refl _ _).alloc (Nat.le_refl _) _).alloc (by simp) _
  have hA := halloc (World.alloc_heap_new w (.cells #[.int .i64 ax, .int .i64 az] 36)) (.cells #[.int .i64 bx, .int .i64 bz] 36)
  have hBb := World.alloc_heap_new (w.alloc (.cells #[.int .i64 ax, .int .i64 az] 36)) (.cells #[.int .i64 bx, .int .i64 bz] 36)
  simp only [World.size_alloc] at hBb
  have C1 := Lib.hid (fun W => cells_ok ⟨ax, az⟩ ⟨bx, bz⟩ W ha hb)
  have pa := pointOk_iff.1 ha
  have pb := pointOk_iff.1 hb
  simp only at pa pb
  have m1 := mul64 (d := bx - ax) (k := k) (by omega) (by omega)
  have m2 := mul64 (d := bz - az) (k := k) (by omega) (by omega)
  have dx1 : -64 ≤ bx - ax ∧ bx - ax ≤ 64 := by omega
  have dz1 : -64 ≤ bz - az ∧ bz - az ≤ 64 := by omega
  have hnz : ¬ n = 0 := by omega
  have i1 : ¬ n < 1 := by omega
  have i2 : ¬ 100 < n := by omega
  have i3 : ¬ k < 0 := by omega
  have i4 : ¬ n < k := by omega
  have r1 : (((bx - ax) * k).tmod n != 0) = true := by simpa using h
  clear h ha hb
  go_enter Try.func6, Try.ntmps6
  go_wp2_with fail
  refine (C1.out _).mono ?_
  rintro e w1 ⟨ad, m, c, l, rfl, hsl, _, hat, hb1⟩
  clear hsl hat
  have hA1 := hkeep hb1 hA
  have hBb1 := hkeep hb1 hBb
  have hB1 := hB.trans (hb1.mono hB.size)
  have k1 := hcell (k := 0) (v := .int .i64 ax) hA1 rfl
  have k2 := hcell (k := 1) (v := .int .i64 az) hA1 rfl
  have k3 := hcell (k := 0) (v := .int .i64 bx) hBb1 rfl
  have k4 := hcell (k := 1) (v := .int .i64 bz) hBb1 rfl
  clear hA hBb hB hb1 C1
  go_wp2_with fail
  refine (wakes03_any _).mono ?_
  rintro e w2 ⟨rfl, hb2⟩
  have hB2 := hB1.trans (hb2.mono hB1.size)
  clear hA1 hBb1 k1 k2 k3 k4 hB1 hb2
  go_wp2
  go_ret
  exact ⟨rfl, hB2⟩

set_option maxRecDepth 100000 in
set_option maxHeartbeats 4000000 in
theorem cellshold_z (ax az bx bz k n : Int) (w : World) (ha : pointOk ⟨ax, az⟩ = true) (hb : pointOk ⟨bx, bz⟩ = true) (h1 : ¬ n < 1) (h2 : ¬ 100 < n) (h3 : ¬ k < 0) (h4 : ¬ n < k) (h5 : ((bx - ax) * k).tmod n = 0) (h : ¬ ((bz - az) * k).tmod n = 0) :
    Calls Try.prog 6 #[ptA ⟨ax, az⟩, ptA ⟨bx, bz⟩, .int .i64 k, .int .i64 n] w fun e w' => e = .returned (.bool true) ∧ Below w.heap.size w w' := by
  have hB : Below w.heap.size w ((w.alloc (.cells #[.int .i64 ax, .int .i64 az] 36)).alloc (.cells #[.int .i64 bx, .int .i64 bz] 36)) := ((Below.refl _ _).alloc (Nat.le_refl _) _).alloc (by simp) _
  have hA := halloc (World.alloc_heap_new w (.cells #[.int .i64 ax, .int .i64 az] 36)) (.cells #[.int .i64 bx, .int .i64 bz] 36)
  have hBb := World.alloc_heap_new (w.alloc (.cells #[.int .i64 ax, .int .i64 az] 36)) (.cells #[.int .i64 bx, .int .i64 bz] 36)
  simp only [World.size_alloc] at hBb
  have C1 := Lib.hid (fun W => cells_ok ⟨ax, az⟩ ⟨bx, bz⟩ W ha hb)
  have pa := pointOk_iff.1 ha
  have pb := pointOk_iff.1 hb
  simp only at pa pb
  have m1 := mul64 (d := bx - ax) (k := k) (by omega) (by omega)
  have m2 := mul64 (d := bz - az) (k := k) (by omega) (by omega)
  have dx1 : -64 ≤ bx - ax ∧ bx - ax ≤ 64 := by omega
  have dz1 : -64 ≤ bz - az ∧ bz - az ≤ 64 := by omega
  have hnz : ¬ n = 0 := by omega
  have i1 : ¬ n < 1 := by omega
  have i2 : ¬ 100 < n := by omega
  have i3 : ¬ k < 0 := by omega
  have i4 : ¬ n < k := by omega
  have r1 : (((bx - ax) * k).tmod n != 0) = false := by simpa using h5
  have r2 : (((bz - az) * k).tmod n != 0) = true := by simpa using h
  clear h5 h ha hb
  go_enter Try.func6, Try.ntmps6
  go_wp2_with fail
  refine (C1.out _).mono ?_
  rintro e w1 ⟨ad, m, c, l, rfl, hsl, _, hat, hb1⟩
  clear hsl hat
  have hA1 := hkeep hb1 hA
  have hBb1 := hkeep hb1 hBb
  have hB1 := hB.trans (hb1.mono hB.size)
  have k1 := hcell (k := 0) (v := .int .i64 ax) hA1 rfl
  have k2 := hcell (k := 1) (v := .int .i64 az) hA1 rfl
  have k3 := hcell (k := 0) (v := .int .i64 bx) hBb1 rfl
  have k4 := hcell (k := 1) (v := .int .i64 bz) hBb1 rfl
  clear hA hBb hB hb1 C1
  go_wp2_with fail
  refine (wakes03_any _).mono ?_
  rintro e w2 ⟨rfl, hb2⟩
  have hB2 := hB1.trans (hb2.mono hB1.size)
  clear hA1 hBb1 k1 k2 k3 k4 hB1 hb2
  go_wp2
  go_ret
  exact ⟨rfl, hB2⟩

set_option maxRecDepth 100000 in
set_option maxHeartbeats 4000000 in
theorem cellshold_yes (ax az bx bz k n : Int) (w : World) (ha : pointOk ⟨ax, az⟩ = true) (hb : pointOk ⟨bx, bz⟩ = true) (h1 : ¬ n < 1) (h2 : ¬ 100 < n) (h3 : ¬ k < 0) (h4 : ¬ n < k) (h5 : ((bx - ax) * k).tmod n = 0) (h6 : ((bz - az) * k).tmod n = 0) :
    Calls Try.prog 6 #[ptA ⟨ax, az⟩, ptA ⟨bx, bz⟩, .int .i64 k, .int .i64 n] w fun e w' => e = .returned (.bool true) ∧ Below w.heap.size w w' := by
  have hB : Below w.heap.size w ((w.alloc (.cells #[.int .i64 ax, .int .i64 az] 36)).alloc (.cells #[.int .i64 bx, .int .i64 bz] 36)) := ((Below.refl _ _).alloc (Nat.le_refl _) _).alloc (by simp) _
  have hA := halloc (World.alloc_heap_new w (.cells #[.int .i64 ax, .int .i64 az] 36)) (.cells #[.int .i64 bx, .int .i64 bz] 36)
  have hBb := World.alloc_heap_new (w.alloc (.cells #[.int .i64 ax, .int .i64 az] 36)) (.cells #[.int .i64 bx, .int .i64 bz] 36)
  simp only [World.size_alloc] at hBb
  have C1 := Lib.hid (fun W => cells_ok ⟨ax, az⟩ ⟨bx, bz⟩ W ha hb)
  have pa := pointOk_iff.1 ha
  have pb := pointOk_iff.1 hb
  simp only at pa pb
  have m1 := mul64 (d := bx - ax) (k := k) (by omega) (by omega)
  have m2 := mul64 (d := bz - az) (k := k) (by omega) (by omega)
  have dx1 : -64 ≤ bx - ax ∧ bx - ax ≤ 64 := by omega
  have dz1 : -64 ≤ bz - az ∧ bz - az ≤ 64 := by omega
  have hnz : ¬ n = 0 := by omega
  have i1 : ¬ n < 1 := by omega
  have i2 : ¬ 100 < n := by omega
  have i3 : ¬ k < 0 := by omega
  have i4 : ¬ n < k := by omega
  have r1 : (((bx - ax) * k).tmod n != 0) = false := by simpa using h5
  have r2 : (((bz - az) * k).tmod n != 0) = false := by simpa using h6
  obtain ⟨u, eu, hu, u1, u2⟩ := tdiv_of (by omega) h5 m1
  obtain ⟨v, ev, hv, v1, v2⟩ := tdiv_of (by omega) h6 m2
  have HH : Hid (∀ l, CelAt ⟨ax, az⟩ ⟨bx, bz⟩ l → (∀ c ∈ l, decide (holdsC c ⟨ax + u, az + v⟩) = (!decide (ltR ⟨k, n⟩ c.p) && !decide (ltR c.q ⟨k, n⟩))) ∧ l.any (fun c => decide (holdsC c ⟨ax + u, az + v⟩)) = true) := fun l hl =>
    ⟨fun c hc => holds_at (a := ⟨ax, az⟩) (b := ⟨bx, bz⟩) ha hb hl (by omega) (by omega) (by omega) hu hv hc, holds_some (a := ⟨ax, az⟩) (b := ⟨bx, bz⟩) ha hb hl (by omega) (by omega) (by omega) hu hv⟩
  have Ha := Lib.hid ha
  have Hb := Lib.hid hb
  have Hr : Hid (RtSmall 1073741824 ⟨k, n⟩) := ⟨by simp only; omega, by simp only; omega, by simp only; omega, by simp only; omega⟩
  clear h5 h6 hu hv ha hb
  go_enter Try.func6, Try.ntmps6
  go_wp2_with fail
  refine (C1.out _).mono ?_
  rintro e w1 ⟨ad, m, c, l, rfl, hsl, hm, hat, hb1⟩
  have Hsl := Lib.hid hsl
  have Hat := Lib.hid hat
  have Hl := Lib.hid hsl.len
  have hle := hsl.le
  have hmax := hsl.max
  have HH2 := Lib.hid (HH.out l hat)
  clear hsl hat HH
  have hA1 := hkeep hb1 hA
  have hBb1 := hkeep hb1 hBb
  have hB1 := hB.trans (hb1.mono hB.size)
  have k1 := hcell (k := 0) (v := .int .i64 ax) hA1 rfl
  have k2 := hcell (k := 1) (v := .int .i64 az) hA1 rfl
  have k3 := hcell (k := 0) (v := .int .i64 bx) hBb1 rfl
  have k4 := hcell (k := 1) (v := .int .i64 bz) hBb1 rfl
  clear hA hBb hB hb1 C1
  go_wp2_with fail
  have hAz := halloc hA1 (.cells #[.int .i64 0, .int .i64 0] 36)
  have hBz := halloc hBb1 (.cells #[.int .i64 0, .int .i64 0] 36)
  have SA : (w1.alloc (.cells #[.int .i64 0, .int .i64 0] 36)).drew.cell? ⟨w.heap.size, 0, none⟩ = some (.int .i64 ax) ∧ (w1.alloc (.cells #[.int .i64 0, .int .i64 0] 36)).drew.cell? ⟨w.heap.size, 1, none⟩ = some (.int .i64 az) ∧ (w1.alloc (.cells #[.int .i64 0, .int .i64 0] 36)).drew.cell? ⟨w.heap.size + 1, 0, none⟩ = some (.int .i64 bx) ∧ (w1.alloc (.cells #[.int .i64 0, .int .i64 0] 36)).drew.cell? ⟨w.heap.size + 1, 1, none⟩ = some (.int .i64 bz) := ⟨hcell (k := 0) hAz rfl, hcell (k := 1) hAz rfl, hcell (k := 0) hBz rfl, hcell (k := 1) hBz rfl⟩
  have n1 := World.new_ne w1 _ k1
  have n2 := World.new_ne w1 _ k2
  have n3 := World.new_ne w1 _ k3
  have n4 := World.new_ne w1 _ k4
  go_region_held3 (fun WW => WW.cell? ⟨w.heap.size, 0, none⟩ = some (.int .i64 ax) ∧ WW.cell? ⟨w.heap.size, 1, none⟩ = some (.int .i64 az) ∧ WW.cell? ⟨w.heap.size + 1, 0, none⟩ = some (.int .i64 bx) ∧ WW.cell? ⟨w.heap.size + 1, 1, none⟩ = some (.int .i64 bz)) (first | exact ⟨k1, k2, k3, k4⟩ | exact SA | go_keep | fail) (fail)
  rename_i hH
  clear hH
  have W0 : ∀ x : Int, -100000 ≤ x → x ≤ 100000 → IntKind.i64.wrap x = x := fun x h1 h2 => by rw [IntKind.wrap_i64]; omega
  have ew1 : IntKind.i64.wrap (ax + IntKind.i64.wrap ((IntKind.i64.wrap (IntKind.i64.wrap (bx - ax) * k)).tdiv n)) = ax + u := by rw [W0 (bx - ax) (by omega) (by omega), W0 ((bx - ax) * k) (by omega) (by omega), eu, W0 u (by omega) (by omega), W0 (ax + u) (by omega) (by omega)]
  have ew2 : IntKind.i64.wrap (az + IntKind.i64.wrap ((IntKind.i64.wrap (IntKind.i64.wrap (bz - az) * k)).tdiv n)) = az + v := by rw [W0 (bz - az) (by omega) (by omega), W0 ((bz - az) * k) (by omega) (by omega), ev, W0 v (by omega) (by omega), W0 (az + v) (by omega) (by omega)]
  rw [ew1, ew2]
  clear ew1 ew2 W0 eu ev n1 n2 n3 n4 SA hAz hBz k1 k2 k3 k4 hA1 hBb1 m1 m2 dx1 dz1 hnz r1 r2
  have hP : (w1.alloc (.cells #[.int .i64 (ax + u), .int .i64 (az + v)] 36)).drew.heap[w1.heap.size]? = some (.cells #[.int .i64 (ax + u), .int .i64 (az + v)] 36 (0, 0)) := World.alloc_heap_new w1 (.cells #[.int .i64 (ax + u), .int .i64 (az + v)] 36)
  have hB3 : Below w.heap.size w (w1.alloc (.cells #[.int .i64 (ax + u), .int .i64 (az + v)] 36)).drew := (hB1.alloc hB1.size (.cells #[.int .i64 (ax + u), .int .i64 (az + v)] 36)).drew
  have Hsl3 := Lib.hid (Hsl.out.below (((Below.refl w1.heap.size w1).alloc (Nat.le_refl _) (.cells #[.int .i64 (ax + u), .int .i64 (az + v)] 36)).drew) (Nat.le_refl _))
  clear hB1 Hsl
  generalize (w1.alloc (.cells #[.int .i64 (ax + u), .int .i64 (az + v)] 36)).drew = W at hP hB3 Hsl3 ⊢
  generalize w1.heap.size = pp at hP ⊢
  go_wp2_with fail
  go_loopw [12, 93] (fun f i wr => ∃ j : Nat, i = .int .i64 j ∧ j ≤ m ∧ f = .bool ((l.take j).any (fun c => decide (holdsC c ⟨ax + u, az + v⟩))) ∧ Below W.heap.size W wr) (fun _ i _ => m - (intOf i).toNat)
  case atStart => exact ⟨0, rfl, Nat.zero_le _, rfl, Below.refl _ _⟩
  case round =>
    obtain ⟨j, rfl, hj, rfl, hb⟩ := hrel
    by_cases hlt : j < m
    · obtain ⟨cc, hck⟩ : ∃ x, l[j]? = some x := ⟨_, List.getElem?_eq_getElem (by rw [Hl.out]; exact hlt)⟩
      have hcm : cc ∈ l := List.mem_of_getElem? hck
      obtain ⟨f1, f2, f3, f4, f5, f6, f7, f8, f9, f10, f11⟩ := cel_facts Ha.out Hb.out Hat.out hcm
      have hltI : (j : Int) < (m : Int) := by omega
      obtain ⟨bb, off, rfl, hbl, hcell⟩ := (Hsl3.out.below hb (Nat.le_refl _)).at0 (by omega)
      obtain ⟨c0, c1, c2, c3, c4, c5⟩ := SlCe.cells hcell hck
      have hP3 := hkeep hb hP
      have HX := Lib.hid (any_take_succ (fun c => decide (holdsC c ⟨ax + u, az + v⟩)) hck)
      have L1 := Lib.hid (fun W => cless_any ⟨k, n⟩ cc.p W Hr.out f6.big)
      have L2 := Lib.hid (fun W => cless_any cc.q ⟨k, n⟩ W f7.big Hr.out)
      have HA := Lib.hid (fun W => holds_any cc ⟨ax + u, az + v⟩ W ⟨f8, f9⟩ ⟨f10, f11⟩)
      have HE := HH2.out.1 cc hcm
      simp only [HE] at HX HA
      generalize hx : (l.take j).any (fun c => decide (holdsC c ⟨ax + u, az + v⟩)) = tt at HX ⊢
      generalize hy1 : decide (ltR ⟨k, n⟩ cc.p) = y1 at L1 HA HX
      generalize hy2 : decide (ltR cc.q ⟨k, n⟩) = y2 at L2 HA HX
      clear hx hy1 hy2 HE
      obtain ⟨cx, cz, ⟨cpn, cpd⟩, ⟨cqn, cqd⟩⟩ := cc
      simp only at c0 c1 c2 c3 c4 c5
      clear f1 f2 f3 f4 f5 f6 f7 f8 f9 f10 f11 hcm hck hcell
      have hs3 := hblt hP3
      go_wp2_with fail
      refine (L1.out _).mono ?_
      rintro e w3 ⟨rfl, hb2⟩
      have hC4 := hkeep hb2 (World.alloc_heap_new wr (.cells #[.int .i64 cx, .int .i64 cz, .int .i64 cpn, .int .i64 cpd, .int .i64 cqn, .int .i64 cqd] 43))
      have hP4 := hkeep hb2 (halloc hP3 (.cells #[.int .i64 cx, .int .i64 cz, .int .i64 cpn, .int .i64 cpd, .int .i64 cqn, .int .i64 cqd] 43))
      have hb4 := (hb.alloc hb.size (.cells #[.int .i64 cx, .int .i64 cz, .int .i64 cpn, .int .i64 cpd, .int .i64 cqn, .int .i64 cqd] 43)).trans (hb2.mono (by simp; have := hb.size; omega))
      clear hP3 hb hb2 L1 c0 c1 c2 c3 c4 c5
      generalize wr.heap.size = pc at hC4 ⊢
      have k0 := hcell (k := 0) (v := .int .i64 cx) hC4 rfl
      have k1 := hcell (k := 1) (v := .int .i64 cz) hC4 rfl
      have k2 := hcell (k := 2) (v := .int .i64 cpn) hC4 rfl
      have k3 := hcell (k := 3) (v := .int .i64 cpd) hC4 rfl
      have k4 := hcell (k := 4) (v := .int .i64 cqn) hC4 rfl
      have k5 := hcell (k := 5) (v := .int .i64 cqd) hC4 rfl
      have k6 := hcell (k := 0) (v := .int .i64 (ax + u)) hP4 rfl
      have k7 := hcell (k := 1) (v := .int .i64 (az + v)) hP4 rfl
      cases y1 with
      | true =>
        have HX2 : Hid ((l.take (j + 1)).any (fun c => decide (holdsC c ⟨ax + u, az + v⟩)) = tt) := by show _ = _; rw [HX.out]; simp
        clear HX hC4 hP4
        go_wp2_with fail
        refine (HA.out _).mono ?_
        rintro e w5 ⟨rfl, hb5⟩
        have hb6 := hb4.trans (hb5.mono hb4.size)
        clear hb5 hb4 k0 k1 k2 k3 k4 k5 k6 k7 HA
        cases tt
        all_goals
          go_wp2
          go_roundw
          case rel => exact ⟨j + 1, by go_num, by omega, by rw [HX2.out], hb6⟩
          case measure => simp [intOf]; omega
      | false =>
        go_wp2_with fail
        refine (L2.out _).mono ?_
        rintro e w4 ⟨rfl, hb3⟩
        have hC5 := hkeep hb3 hC4
        have hP5 := hkeep hb3 hP4
        have hb5 := hb4.trans (hb3.mono hb4.size)
        clear k0 k1 k2 k3 k4 k5 k6 k7 hC4 hP4 hb4 hb3
        have k0 := hcell (k := 0) (v := .int .i64 cx) hC5 rfl
        have k1 := hcell (k := 1) (v := .int .i64 cz) hC5 rfl
        have k2 := hcell (k := 2) (v := .int .i64 cpn) hC5 rfl
        have k3 := hcell (k := 3) (v := .int .i64 cpd) hC5 rfl
        have k4 := hcell (k := 4) (v := .int .i64 cqn) hC5 rfl
        have k5 := hcell (k := 5) (v := .int .i64 cqd) hC5 rfl
        have k6 := hcell (k := 0) (v := .int .i64 (ax + u)) hP5 rfl
        have k7 := hcell (k := 1) (v := .int .i64 (az + v)) hP5 rfl
        have HX2 : Hid ((l.take (j + 1)).any (fun c => decide (holdsC c ⟨ax + u, az + v⟩)) = (tt || !y2)) := by show _ = _; rw [HX.out]; simp
        clear HX
        cases y2
        all_goals
          go_wp2_with fail
          refine (HA.out _).mono ?_
          rintro e w5 ⟨rfl, hb6⟩
          have hb7 := hb5.trans (hb6.mono hb5.size)
          clear hb5 hb6 k0 k1 k2 k3 k4 k5 k6 k7 HA
          cases tt
          all_goals
            go_wp2
            go_roundw
            case rel => exact ⟨j + 1, by go_num, by omega, by rw [HX2.out]; rfl, hb7⟩
            case measure => simp [intOf]; omega
    · obtain rfl : j = m := by omega
      have hF : Hid ((l.take j).any (fun c => decide (holdsC c ⟨ax + u, az + v⟩)) = true) := by show _ = _; rw [List.take_of_length_le (by rw [Hl.out]; exact Nat.le_refl _)]; exact HH2.out.2
      rw [hF.out]
      have hB9 := hB3.trans (hb.mono hB3.size)
      clear hb hP hF
      go_wp2_with fail
      refine (wakes03_any _).mono ?_
      rintro e w2 ⟨rfl, hb2⟩
      have hB10 := hB9.trans (hb2.mono hB9.size)
      go_wp2
      go_ret
      exact ⟨rfl, hB10⟩

theorem cellshold_any (a b : Pt) (k n : Int) (w : World) :
    Calls Try.prog 6 #[ptA a, ptA b, .int .i64 k, .int .i64 n] w fun e w' => e = .returned (.bool true) ∧ Below w.heap.size w w' := by
  obtain ⟨ax, az⟩ := a
  obtain ⟨bx, bz⟩ := b
  by_cases hab : (pointOk ⟨ax, az⟩ && pointOk ⟨bx, bz⟩) = true
  · rw [Bool.and_eq_true] at hab
    by_cases h1 : n < 1
    · exact cellshold_n1 ax az bx bz k n w hab.1 hab.2 h1
    by_cases h2 : 100 < n
    · exact cellshold_n2 ax az bx bz k n w hab.1 hab.2 h1 h2
    by_cases h3 : k < 0
    · exact cellshold_k1 ax az bx bz k n w hab.1 hab.2 h1 h2 h3
    by_cases h4 : n < k
    · exact cellshold_k2 ax az bx bz k n w hab.1 hab.2 h1 h2 h3 h4
    by_cases h5 : ((bx - ax) * k).tmod n = 0
    · by_cases h6 : ((bz - az) * k).tmod n = 0
      · exact cellshold_yes ax az bx bz k n w hab.1 hab.2 h1 h2 h3 h4 h5 h6
      · exact cellshold_z ax az bx bz k n w hab.1 hab.2 h1 h2 h3 h4 h5 h6
    · exact cellshold_x ax az bx bz k n w hab.1 hab.2 h1 h2 h3 h4 h5
  · exact cellshold_no ax az bx bz k n w (by simpa using hab)
end Go.Proofs.Ytndjljefppbmcaa
