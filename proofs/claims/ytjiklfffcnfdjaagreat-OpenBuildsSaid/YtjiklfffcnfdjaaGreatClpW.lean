/- Walks: the clip's small functions. -/
import Derived.Test.YtjiklfffcnfdjaaGreatClpP
import Derived.Test.YtjiklfffcnfdjaaGreatCfg
import Derived.Test.YtjiklfffcnfdjaaGreatGf
namespace Go.Proofs.YtjiklfffcnfdjaaGreat
open Go.RowKit
attribute [local go_sem] Instr.index

abbrev v3A (v : V3) : Value := .agg #[.int .i64 v.x, .int .i64 v.y, .int .i64 v.z]
abbrev spA (p : Sp) : Value := .agg #[.int .i64 p.x, .int .i64 p.z, .int .i64 p.d]
abbrev crA (c : Cr) : Value := .agg #[.int .i64 c.x, .int .i64 c.z, .int .i64 c.y, .int .i64 c.d]
abbrev siA (a b : V3) : Value := .agg #[.int .i64 a.x, .int .i64 a.y, .int .i64 a.z, .int .i64 b.x, .int .i64 b.y, .int .i64 b.z]
abbrev tiA (i : Int) (a b c : V3) : Value := .agg #[.int .i64 i, .int .i64 a.x, .int .i64 a.y, .int .i64 a.z, .int .i64 b.x, .int .i64 b.y, .int .i64 b.z, .int .i64 c.x, .int .i64 c.y, .int .i64 c.z]
abbrev t3C (t : T3) : Array Value := #[.int .i64 t.a.x, .int .i64 t.a.y, .int .i64 t.a.z, .int .i64 t.b.x, .int .i64 t.b.y, .int .i64 t.b.z, .int .i64 t.c.x, .int .i64 t.c.y, .int .i64 t.c.z, .int .i64 t.s]

def Sm30 (n : Int) : Prop := -1073741824 ≤ n ∧ n ≤ 1073741824

set_option maxHeartbeats 1000000 in
theorem cross4_any (a b c d : Int) (w : World) (ha : Sm30 a) (hb : Sm30 b) (hc : Sm30 c) (hd : Sm30 d) :
    Calls Tryz.prog 123 #[.int .i64 a, .int .i64 b, .int .i64 c, .int .i64 d] w fun e w' => e = .returned (.tuple #[.int .i64 (crossI a b c d), .int .i64 0]) ∧ w' = w := by
  have m1 := mulB ha hd
  have m2 := mulB hb hc
  have IA := Lib.hid (fun W => in_in a (-1073741824) 1073741824 W ha.1 ha.2)
  have IB := Lib.hid (fun W => in_in b (-1073741824) 1073741824 W hb.1 hb.2)
  have IC := Lib.hid (fun W => in_in c (-1073741824) 1073741824 W hc.1 hc.2)
  have ID := Lib.hid (fun W => in_in d (-1073741824) 1073741824 W hd.1 hd.2)
  have ea : (a != a) = false := by simp
  have eb : (b != b) = false := by simp
  have ec : (c != c) = false := by simp
  have ed : (d != d) = false := by simp
  obtain ⟨r, hr⟩ : ∃ r, Hid (r = crossI a b c d) := ⟨_, rfl⟩
  rw [← hr.out]
  clear ha hb hc hd
  go_enter Tryz.func123, Tryz.ntmps123
  go_wp2
  refine wp_loop_rounds 5 ?_
  rw [rounds_succ]
  go_wp2_with fail
  refine (IA.out _).mono ?_
  rintro e w1 ⟨rfl, rfl⟩
  go_wp2
  rw [rounds_succ]
  go_wp2_with fail
  refine (IB.out _).mono ?_
  rintro e w1 ⟨rfl, rfl⟩
  go_wp2
  rw [rounds_succ]
  go_wp2_with fail
  refine (IC.out _).mono ?_
  rintro e w1 ⟨rfl, rfl⟩
  go_wp2
  rw [rounds_succ]
  go_wp2_with fail
  refine (ID.out _).mono ?_
  rintro e w1 ⟨rfl, rfl⟩
  go_wp2
  rw [rounds_succ]
  go_wp2
  go_ret2
  exact ⟨by rw [hr.out]; rfl, rfl⟩

set_option maxHeartbeats 1000000 in
theorem ccross_any (a b c d : Int) (w : World) (ha : Sm30 a) (hb : Sm30 b) (hc : Sm30 c) (hd : Sm30 d) :
    Calls Tryz.prog 115 #[.int .i64 a, .int .i64 b, .int .i64 c, .int .i64 d] w fun e w' => e = .returned (.int .i64 (crossI a b c d)) ∧ w' = w := by
  have C := Lib.hid (fun W => cross4_any a b c d W ha hb hc hd)
  obtain ⟨r, hr⟩ : ∃ r, r = crossI a b c d := ⟨_, rfl⟩
  rw [← hr] at C ⊢
  clear hr ha hb hc hd
  go_enter Tryz.func115, Tryz.ntmps115
  go_wp2_with fail
  refine (C.out _).mono ?_
  rintro e w1 ⟨rfl, rfl⟩
  go_wp2
  go_ret
  exact ⟨rfl, rfl⟩

theorem floor_eq {a b : Int} (hb : 0 < b) : (a - (a.tmod b + b).tmod b).tdiv b = a / b := by
  have h1 : (a.tmod b + b).tmod b = a % b := by
    have h0 : 0 ≤ a.tmod b + b := by
      have := Int.lt_tmod_of_pos a hb
      omega
    rw [Int.tmod_eq_emod_of_nonneg h0, Int.add_emod_right, Int.tmod_def, Int.sub_mul_emod_self_left]
  rw [h1]
  have h2 := Int.mul_ediv_add_emod a b
  have h3 : a - a % b = b * (a / b) := by omega
  rw [h3, Int.mul_tdiv_cancel_left _ (by omega)]

theorem ediv_bound {a b K : Int} (hb : 0 < b) (h1 : -K ≤ a) (h2 : a ≤ K) : -K ≤ a / b ∧ a / b ≤ K := by
  have hK : 0 ≤ K := by omega
  have h3 : K * 1 ≤ K * b := Int.mul_le_mul_of_nonneg_left (by omega) hK
  exact ⟨Int.le_ediv_of_mul_le hb (by rw [Int.neg_mul]; omega), Int.ediv_le_of_le_mul hb (by omega)⟩
set_option maxHeartbeats 1000000 in
theorem floor_any (a b : Int) (w : World) (ha : -1000000000000 ≤ a ∧ a ≤ 1000000000000) (hb : 0 < b ∧ b ≤ 1000000000000) :
    Calls Tryz.prog 66 #[.int .i64 a, .int .i64 b] w fun e w' => e = .returned (.tuple #[.int .i64 (floorI a b), .int .i64 0]) ∧ w' = w := by
  have IA := Lib.hid (fun W => in_in a (-2305843009213693952) 2305843009213693952 W (by omega) (by omega))
  have IB := Lib.hid (fun W => in_in b (-2305843009213693952) 2305843009213693952 W (by omega) (by omega))
  have hb0 : ¬ b = 0 := by omega
  have hb1 : ¬ b < 0 := by omega
  have m1 := Int.lt_tmod_of_pos a hb.1
  have m2 := Int.tmod_lt_of_pos a hb.1
  have m3 := Int.tmod_nonneg (a := a.tmod b + b) b (by omega)
  have m4 := Int.tmod_lt_of_pos (a.tmod b + b) hb.1
  obtain ⟨r, hr⟩ : ∃ r, Hid (r = floorI a b) := ⟨_, rfl⟩
  rw [← hr.out]
  have q1 : -1000000000000 ≤ floorI a b ∧ floorI a b ≤ 1000000000000 := ediv_bound hb.1 ha.1 ha.2
  have hE : Hid (wrap64 ((wrap64 (a - a.tmod b % b)).tdiv b) = r) := by
    show _ = _
    have e1 : a.tmod b % b = a % b := by rw [Int.tmod_def, Int.sub_mul_emod_self_left]
    have h2 := Int.mul_ediv_add_emod a b
    have h3 : a - a % b = b * (a / b) := by omega
    have h4 := Int.emod_nonneg a hb0
    have h5 := Int.emod_lt_of_pos a hb.1
    have q2 := q1
    unfold floorI at q2
    rw [e1, IntWalk.wrap64_in (a - a % b) (by omega), h3, Int.mul_tdiv_cancel_left _ hb0, IntWalk.wrap64_in (a / b) (by omega), hr.out]
    rfl
  rw [← hr.out] at q1
  go_enter Tryz.func66, Tryz.ntmps66
  go_wp2_with fail
  refine (IA.out _).mono ?_
  rintro e w1 ⟨rfl, rfl⟩
  go_wp2_with fail
  refine (IB.out _).mono ?_
  rintro e w1 ⟨rfl, rfl⟩
  go_wp2
  go_ret2
  exact ⟨congrArg (fun x => Ending.returned (.tuple #[.int .i64 x, .int .i64 0])) hE.out, rfl⟩

set_option maxHeartbeats 1000000 in
theorem ceil_any (a b : Int) (w : World) (ha : -1000000000000 ≤ a ∧ a ≤ 1000000000000) (hb : 0 < b ∧ b ≤ 1000000000000) :
    Calls Tryz.prog 68 #[.int .i64 a, .int .i64 b] w fun e w' => e = .returned (.tuple #[.int .i64 (ceilI a b), .int .i64 0]) ∧ w' = w := by
  have IA := Lib.hid (fun W => in_in a (-2305843009213693952) 2305843009213693952 W (by omega) (by omega))
  have FA := Lib.hid (fun W => floor_any (-a) b W (by omega) hb)
  have q1 : -1000000000000 ≤ floorI (-a) b ∧ floorI (-a) b ≤ 1000000000000 := ediv_bound hb.1 (by omega) (by omega)
  have hr : Hid (ceilI a b = -floorI (-a) b) := rfl
  rw [hr.out]
  generalize floorI (-a) b = r at FA q1
  clear hr
  go_enter Tryz.func68, Tryz.ntmps68
  go_wp2_with fail
  refine (IA.out _).mono ?_
  rintro e w1 ⟨rfl, rfl⟩
  go_wp2_with fail
  refine (FA.out _).mono ?_
  rintro e w1 ⟨rfl, rfl⟩
  go_wp2
  go_ret2
  exact ⟨rfl, rfl⟩

/-! ### Sides -/
def sideOk (a b : V3) (n : Int) : Prop := 0 ≤ a.x ∧ a.x ≤ 32 ∧ 0 ≤ a.z ∧ a.z ≤ 32 ∧ 0 ≤ b.x ∧ b.x ≤ 32 ∧ 0 ≤ b.z ∧ b.z ≤ 32 ∧ -2 ≤ n ∧ n ≤ 40
theorem ret_sp {p : Sp} {k : Bool} {X : Sp × Bool} (h : X = (p, k)) : Ending.returned (.tuple #[.agg #[.int .i64 p.x, .int .i64 p.z, .int .i64 p.d], .bool k]) = Ending.returned (.tuple #[spA X.1, .bool X.2]) := by rw [h]

set_option maxRecDepth 100000 in
set_option maxHeartbeats 4000000 in
/-- The side goes upward, or does not cross. -/
theorem along_core (a b : V3) (n : Int) (w : World) (h : sideOk a b n) (hd : ¬ (b.x - a.x < 0 ∧ ¬ (n - a.x) * (b.x - a.x) < 0 ∧ ¬ (b.x - n) * (b.x - a.x) < 0)) :
    Calls Tryz.prog 92 #[siA a b, .int .i64 n] w fun e w' => e = .returned (.tuple #[spA (alongP a b n).1, .bool (alongP a b n).2]) ∧ Below w.heap.size w w' := by
  obtain ⟨r, hr⟩ : ∃ r, Hid (r = alongP a b n) := ⟨_, rfl⟩
  rw [← hr.out]
  obtain ⟨ax, ay, az⟩ := a
  obtain ⟨bx, by_, bz⟩ := b
  obtain ⟨h1, h2, h3, h4, h5, h6, h7, h8, h9, h10⟩ := h
  simp only at h1 h2 h3 h4 h5 h6 h7 h8 hd
  have m1 := mulB (x := n - ax) (y := bx - ax) (K := 80) (L := 40) (by omega) (by omega)
  have m2 := mulB (x := bx - n) (y := bx - ax) (K := 80) (L := 40) (by omega) (by omega)
  have m3 := mulB (x := n) (y := bx - ax) (K := 80) (L := 40) (by omega) (by omega)
  have m4 := mulB (x := az) (y := bx - ax) (K := 80) (L := 40) (by omega) (by omega)
  have m5 := mulB (x := bz - az) (y := n - ax) (K := 80) (L := 80) (by omega) (by omega)
  have hB : Below w.heap.size w ((w.alloc (.cells #[.int .i64 ax, .int .i64 ay, .int .i64 az, .int .i64 bx, .int .i64 by_, .int .i64 bz] 137)).alloc (.cells #[.int .i64 0, .int .i64 0, .int .i64 0] 128)) := ((Below.refl _ _).alloc (Nat.le_refl _) _).alloc (by simp) _
  have hS := halloc (World.alloc_heap_new w (.cells #[.int .i64 ax, .int .i64 ay, .int .i64 az, .int .i64 bx, .int .i64 by_, .int .i64 bz] 137)) (.cells #[.int .i64 0, .int .i64 0, .int .i64 0] 128)
  have hP := World.alloc_heap_new (w.alloc (.cells #[.int .i64 ax, .int .i64 ay, .int .i64 az, .int .i64 bx, .int .i64 by_, .int .i64 bz] 137)) (.cells #[.int .i64 0, .int .i64 0, .int .i64 0] 128)
  simp only [World.size_alloc] at hP
  have k0 := hcell (k := 0) (v := .int .i64 ax) hS rfl
  have k2 := hcell (k := 2) (v := .int .i64 az) hS rfl
  have k3 := hcell (k := 3) (v := .int .i64 bx) hS rfl
  have k5 := hcell (k := 5) (v := .int .i64 bz) hS rfl
  have HEnd : Hid (∀ x z d : Int, ((w.alloc (.cells #[.int .i64 ax, .int .i64 ay, .int .i64 az, .int .i64 bx, .int .i64 by_, .int .i64 bz] 137)).alloc (.cells #[.int .i64 x, .int .i64 z, .int .i64 d] 128)).heap[w.heap.size + 1]? = some (.cells #[.int .i64 x, .int .i64 z, .int .i64 d] 128 (0, 0)) ∧ Below w.heap.size w ((w.alloc (.cells #[.int .i64 ax, .int .i64 ay, .int .i64 az, .int .i64 bx, .int .i64 by_, .int .i64 bz] 137)).alloc (.cells #[.int .i64 x, .int .i64 z, .int .i64 d] 128))) := fun x z d => ⟨by
    have := World.alloc_heap_new (w.alloc (.cells #[.int .i64 ax, .int .i64 ay, .int .i64 az, .int .i64 bx, .int .i64 by_, .int .i64 bz] 137)) (.cells #[.int .i64 x, .int .i64 z, .int .i64 d] 128)
    simpa using this, ((Below.refl _ _).alloc (Nat.le_refl _) _).alloc (by simp) _⟩
  clear hB hP hS
  by_cases d0 : bx - ax = 0
  · have HR : Hid (r = (zSp, false)) := by show _ = _; rw [hr.out, alongP]; simp [d0]
    clear hr
    go_enter Tryz.func92, Tryz.ntmps92
    go_wp2
    obtain ⟨hh, hbw⟩ := HEnd.out 0 0 0
    refine bodyPost_ret (results_ct1 rfl _ _ (w.heap.size + 1) 128 #[.int .i64 0, .int .i64 0, .int .i64 0] (0, 0) _ rfl hh Tryz.underlying128 rfl (by kernel_rfl)) rfl ⟨?_, hbw⟩
    exact ret_sp (p := zSp) HR.out
  · have e0 : (bx - ax == 0) = false := by simpa using d0
    by_cases c1 : (n - ax) * (bx - ax) < 0
    · have HR : Hid (r = (zSp, false)) := by show _ = _; rw [hr.out, alongP]; simp [c1]
      clear hr
      go_enter Tryz.func92, Tryz.ntmps92
      go_wp2
      obtain ⟨hh, hbw⟩ := HEnd.out 0 0 0
      refine bodyPost_ret (results_ct1 rfl _ _ (w.heap.size + 1) 128 #[.int .i64 0, .int .i64 0, .int .i64 0] (0, 0) _ rfl hh Tryz.underlying128 rfl (by kernel_rfl)) rfl ⟨?_, hbw⟩
      exact ret_sp (p := zSp) HR.out
    · by_cases c2 : (bx - n) * (bx - ax) < 0
      · have HR : Hid (r = (zSp, false)) := by show _ = _; rw [hr.out, alongP]; simp [c2]
        clear hr
        go_enter Tryz.func92, Tryz.ntmps92
        go_wp2
        obtain ⟨hh, hbw⟩ := HEnd.out 0 0 0
        refine bodyPost_ret (results_ct1 rfl _ _ (w.heap.size + 1) 128 #[.int .i64 0, .int .i64 0, .int .i64 0] (0, 0) _ rfl hh Tryz.underlying128 rfl (by kernel_rfl)) rfl ⟨?_, hbw⟩
        exact ret_sp (p := zSp) HR.out
      · have d1 : ¬ bx - ax < 0 := fun h => hd ⟨h, c1, c2⟩
        have HR : Hid (r = (⟨n * (bx - ax), az * (bx - ax) + (bz - az) * (n - ax), bx - ax⟩, true)) := by show _ = _; rw [hr.out, alongP]; simp only; rw [if_neg (by rintro (h | h | h) <;> contradiction), if_neg d1]
        clear hr
        go_enter Tryz.func92, Tryz.ntmps92
        go_wp2
        obtain ⟨hh, hbw⟩ := HEnd.out (n * (bx - ax)) (az * (bx - ax) + (bz - az) * (n - ax)) (bx - ax)
        refine bodyPost_ret (results_ct1 rfl _ _ (w.heap.size + 1) 128 #[.int .i64 (n * (bx - ax)), .int .i64 (az * (bx - ax) + (bz - az) * (n - ax)), .int .i64 (bx - ax)] (0, 0) _ rfl hh Tryz.underlying128 rfl (by kernel_rfl)) rfl ⟨?_, hbw⟩
        exact ret_sp (p := ⟨n * (bx - ax), az * (bx - ax) + (bz - az) * (n - ax), bx - ax⟩) HR.out

set_option maxRecDepth 100000 in
set_option maxHeartbeats 4000000 in
theorem along_any (a b : V3) (n : Int) (w : World) (h : sideOk a b n) :
    Calls Tryz.prog 92 #[siA a b, .int .i64 n] w fun e w' => e = .returned (.tuple #[spA (alongP a b n).1, .bool (alongP a b n).2]) ∧ Below w.heap.size w w' := by
  by_cases hd : (b.x - a.x < 0 ∧ ¬ (n - a.x) * (b.x - a.x) < 0 ∧ ¬ (b.x - n) * (b.x - a.x) < 0)
  · obtain ⟨d1, c1, c2⟩ := hd
    have h' := h
    have s1 : (n - b.x) * (a.x - b.x) = (b.x - n) * (b.x - a.x) := by rw [show n - b.x = -(b.x - n) by omega, show a.x - b.x = -(b.x - a.x) by omega, Int.neg_mul_neg]
    have s2 : (a.x - n) * (a.x - b.x) = (n - a.x) * (b.x - a.x) := by rw [show a.x - n = -(n - a.x) by omega, show a.x - b.x = -(b.x - a.x) by omega, Int.neg_mul_neg]
    have C := Lib.hid (fun W => along_core b a n W (by unfold sideOk at h ⊢; omega) (by omega))
    have e1 : alongP a b n = alongP b a n := by
      unfold alongP
      simp only
      rw [if_neg (by rintro (h | h | h) <;> first | contradiction | omega), if_pos d1, if_neg (by rw [s1, s2]; rintro (h | h | h) <;> first | contradiction | omega), if_neg (by omega), show -(b.x - a.x) = a.x - b.x by omega]
    rw [e1]
    generalize alongP b a n = r at C ⊢
    clear e1 s1 s2
    obtain ⟨⟨rx, rz, rd⟩, rk⟩ := r
    obtain ⟨ax, ay, az⟩ := a
    obtain ⟨bx, by_, bz⟩ := b
    obtain ⟨h1, h2, h3, h4, h5, h6, h7, h8, h9, h10⟩ := h
    simp only at h1 h2 h3 h4 h5 h6 h7 h8 d1 c1 c2 C
    have m1 := mulB (x := n - ax) (y := bx - ax) (K := 80) (L := 40) (by omega) (by omega)
    have m2 := mulB (x := bx - n) (y := bx - ax) (K := 80) (L := 40) (by omega) (by omega)
    have d0 : ¬ bx - ax = 0 := by omega
    have e0 : (bx - ax == 0) = false := by simpa using d0
    have hB : Below w.heap.size w ((w.alloc (.cells #[.int .i64 ax, .int .i64 ay, .int .i64 az, .int .i64 bx, .int .i64 by_, .int .i64 bz] 137)).alloc (.cells #[.int .i64 0, .int .i64 0, .int .i64 0] 128)) := ((Below.refl _ _).alloc (Nat.le_refl _) _).alloc (by simp) _
    have hS := halloc (World.alloc_heap_new w (.cells #[.int .i64 ax, .int .i64 ay, .int .i64 az, .int .i64 bx, .int .i64 by_, .int .i64 bz] 137)) (.cells #[.int .i64 0, .int .i64 0, .int .i64 0] 128)
    have hP := World.alloc_heap_new (w.alloc (.cells #[.int .i64 ax, .int .i64 ay, .int .i64 az, .int .i64 bx, .int .i64 by_, .int .i64 bz] 137)) (.cells #[.int .i64 0, .int .i64 0, .int .i64 0] 128)
    simp only [World.size_alloc] at hP
    have k0 := hcell (k := 0) (v := .int .i64 ax) hS rfl
    have k1 := hcell (k := 1) (v := .int .i64 ay) hS rfl
    have k2 := hcell (k := 2) (v := .int .i64 az) hS rfl
    have k3 := hcell (k := 3) (v := .int .i64 bx) hS rfl
    have k4 := hcell (k := 4) (v := .int .i64 by_) hS rfl
    have k5 := hcell (k := 5) (v := .int .i64 bz) hS rfl
    clear hS
    go_enter Tryz.func92, Tryz.ntmps92
    go_wp2_with fail
    refine (C.out _).mono ?_
    rintro e w1 ⟨rfl, hb1⟩
    have hP1 := hkeep hb1 hP
    have hB1 := hB.trans (hb1.mono hB.size)
    clear k0 k1 k2 k3 k4 k5 hP hB hb1
    have p0 := hcell (k := 0) (v := .int .i64 0) hP1 rfl
    have p1 := hcell (k := 1) (v := .int .i64 0) hP1 rfl
    have p2 := hcell (k := 2) (v := .int .i64 0) hP1 rfl
    have f0 := hfroz (k := 0) hP1
    have f1 := hfroz (k := 1) hP1
    have f2 := hfroz (k := 2) hP1
    have hP2 := box3_set hP1 (.int .i64 rx) (.int .i64 rz) (.int .i64 rd)
    have hB2 := hB1.grown (box3_grown (b := w.heap.size + 1) (.int .i64 rx) (.int .i64 rz) (.int .i64 rd)) hB1.size (fun j hj => by cases hj; omega)
    go_wp2
    refine bodyPost_ret (results_ct1 rfl _ _ (w.heap.size + 1) 128 #[.int .i64 rx, .int .i64 rz, .int .i64 rd] (0, 0) _ rfl hP2 Tryz.underlying128 rfl (by kernel_rfl)) rfl ⟨?_, hB2⟩
    rfl
  · exact along_core a b n w h hd
end Go.Proofs.YtjiklfffcnfdjaaGreat
