/- Walks: boxes and hops that may be: their parts. -/
import Derived.Test.YtmgkkmcihplojaaGreatLa
namespace Go.Proofs.YtmgkkmcihplojaaGreat
open Go.RowKit Go.Sort
attribute [local go_sem] run_store_func

set_option maxHeartbeats 1000000 in
theorem box1_any (Bb Bc : Nat) (x0 x1 W : Int) (w : World) (c1 : w.cell? ⟨Bb, 1, none⟩ = some (.int .i64 x0)) (c3 : w.cell? ⟨Bb, 3, none⟩ = some (.int .i64 x1)) (c5 : w.cell? ⟨Bc, 5, none⟩ = some (.int .i64 W)) :
    Calls Tryz.prog 73 #[.pointer (some ⟨Bb, 0, none⟩), .pointer (some ⟨Bc, 0, none⟩)] w fun e w' => e = .returned (.bool (decide (0 ≤ x0 ∧ x0 ≤ x1 ∧ x1 < W))) ∧ w = w' := by
  by_cases h0 : 0 ≤ x0
  rotate_left
  · have d0 : decide (0 ≤ x0) = false := decide_eq_false h0
    have H : Hid (decide (0 ≤ x0 ∧ x0 ≤ x1 ∧ x1 < W) = false) := by show _ = _; simp [h0]
    clear h0
    go_enter Tryz.func73, Tryz.ntmps73
    go_wp2
    go_ret
    exact ⟨ret_bool H.out.symm, rfl⟩
  have d0 : decide (0 ≤ x0) = true := decide_eq_true h0
  by_cases h1 : x0 ≤ x1
  rotate_left
  · have d1 : decide (x0 ≤ x1) = false := decide_eq_false h1
    have H : Hid (decide (0 ≤ x0 ∧ x0 ≤ x1 ∧ x1 < W) = false) := by show _ = _; simp [h1]
    clear h0 h1
    go_enter Tryz.func73, Tryz.ntmps73
    go_wp2
    go_ret
    exact ⟨ret_bool H.out.symm, rfl⟩
  have d1 : decide (x0 ≤ x1) = true := decide_eq_true h1
  have H : Hid (decide (0 ≤ x0 ∧ x0 ≤ x1 ∧ x1 < W) = decide (x1 < W)) := by show _ = _; simp [h0, h1]
  clear h0 h1
  go_enter Tryz.func73, Tryz.ntmps73
  go_wp2
  go_ret
  exact ⟨ret_bool H.out.symm, rfl⟩

set_option maxHeartbeats 1000000 in
theorem box2_any (Bb Bc : Nat) (z0 z1 D : Int) (w : World) (c1 : w.cell? ⟨Bb, 2, none⟩ = some (.int .i64 z0)) (c3 : w.cell? ⟨Bb, 4, none⟩ = some (.int .i64 z1)) (c5 : w.cell? ⟨Bc, 6, none⟩ = some (.int .i64 D)) :
    Calls Tryz.prog 74 #[.pointer (some ⟨Bb, 0, none⟩), .pointer (some ⟨Bc, 0, none⟩)] w fun e w' => e = .returned (.bool (decide (0 ≤ z0 ∧ z0 ≤ z1 ∧ z1 < D))) ∧ w = w' := by
  by_cases h0 : 0 ≤ z0
  rotate_left
  · have d0 : decide (0 ≤ z0) = false := decide_eq_false h0
    have H : Hid (decide (0 ≤ z0 ∧ z0 ≤ z1 ∧ z1 < D) = false) := by show _ = _; simp [h0]
    clear h0
    go_enter Tryz.func74, Tryz.ntmps74
    go_wp2
    go_ret
    exact ⟨ret_bool H.out.symm, rfl⟩
  have d0 : decide (0 ≤ z0) = true := decide_eq_true h0
  by_cases h1 : z0 ≤ z1
  rotate_left
  · have d1 : decide (z0 ≤ z1) = false := decide_eq_false h1
    have H : Hid (decide (0 ≤ z0 ∧ z0 ≤ z1 ∧ z1 < D) = false) := by show _ = _; simp [h1]
    clear h0 h1
    go_enter Tryz.func74, Tryz.ntmps74
    go_wp2
    go_ret
    exact ⟨ret_bool H.out.symm, rfl⟩
  have d1 : decide (z0 ≤ z1) = true := decide_eq_true h1
  have H : Hid (decide (0 ≤ z0 ∧ z0 ≤ z1 ∧ z1 < D) = decide (z1 < D)) := by show _ = _; simp [h0, h1]
  clear h0 h1
  go_enter Tryz.func74, Tryz.ntmps74
  go_wp2
  go_ret
  exact ⟨ret_bool H.out.symm, rfl⟩

set_option maxHeartbeats 1000000 in
theorem box3_any (Bb : Nat) (y0 y1 : Int) (w : World) (c5 : w.cell? ⟨Bb, 5, none⟩ = some (.int .i64 y0)) (c6 : w.cell? ⟨Bb, 6, none⟩ = some (.int .i64 y1)) :
    Calls Tryz.prog 75 #[.pointer (some ⟨Bb, 0, none⟩)] w fun e w' => e = .returned (.bool (hgtOk y0 && hgtOk y1 && decide (y0 ≤ y1))) ∧ w = w' := by
  have HH := Lib.hid (fun y (w' : World) => height_any y w')
  cases h0 : hgtOk y0 with
  | false =>
    have H0 := Lib.hid h0
    clear h0
    go_enter Tryz.func75, Tryz.ntmps75
    go_wp2_with fail
    refine (HH.out _ _).mono ?_
    rw [H0.out]
    rintro e w1 ⟨rfl, rfl⟩
    go_wp2
    go_ret
    exact ⟨ret_bool rfl, rfl⟩
  | true =>
    cases h1 : hgtOk y1 with
    | false =>
      have H0 := Lib.hid h0
      have H1 := Lib.hid h1
      clear h0 h1
      go_enter Tryz.func75, Tryz.ntmps75
      go_wp2_with fail
      refine (HH.out _ _).mono ?_
      rw [H0.out]
      rintro e w1 ⟨rfl, rfl⟩
      go_wp2_with fail
      refine (HH.out _ _).mono ?_
      rw [H1.out]
      rintro e w1 ⟨rfl, rfl⟩
      go_wp2
      go_ret
      exact ⟨ret_bool rfl, rfl⟩
    | true =>
      have H0 := Lib.hid h0
      have H1 := Lib.hid h1
      clear h0 h1
      go_enter Tryz.func75, Tryz.ntmps75
      go_wp2_with fail
      refine (HH.out _ _).mono ?_
      rw [H0.out]
      rintro e w1 ⟨rfl, rfl⟩
      go_wp2_with fail
      refine (HH.out _ _).mono ?_
      rw [H1.out]
      rintro e w1 ⟨rfl, rfl⟩
      go_wp2
      go_ret
      exact ⟨ret_bool rfl, rfl⟩

set_option maxHeartbeats 1000000 in
theorem box4_any (Bb : Nat) (ar : Int) (w : World) (c7 : w.cell? ⟨Bb, 7, none⟩ = some (.int .i64 ar)) :
    Calls Tryz.prog 76 #[.pointer (some ⟨Bb, 0, none⟩)] w fun e w' => e = .returned (.bool (decide (0 ≤ ar ∧ ar ≤ 7))) ∧ w = w' := by
  by_cases h0 : 0 ≤ ar
  rotate_left
  · have d0 : decide (0 ≤ ar) = false := decide_eq_false h0
    have H : Hid (decide (0 ≤ ar ∧ ar ≤ 7) = false) := by show _ = _; simp [h0]
    clear h0
    go_enter Tryz.func76, Tryz.ntmps76
    go_wp2
    go_ret
    exact ⟨ret_bool H.out.symm, rfl⟩
  have d0 : decide (0 ≤ ar) = true := decide_eq_true h0
  have H : Hid (decide (0 ≤ ar ∧ ar ≤ 7) = decide (ar ≤ 7)) := by show _ = _; simp [h0]
  clear h0
  go_enter Tryz.func76, Tryz.ntmps76
  go_wp2
  go_ret
  exact ⟨ret_bool H.out.symm, rfl⟩

set_option maxHeartbeats 400000 in
theorem nothold0 (Bb Bc : Nat) (W : Int) (b : Bx) (w : World) (c1 : w.cell? ⟨Bb, 1, none⟩ = some (.int .i64 b.x0)) (c3 : w.cell? ⟨Bb, 3, none⟩ = some (.int .i64 b.x1)) (g5 : w.cell? ⟨Bc, 5, none⟩ = some (.int .i64 W)) :
    Calls Tryz.prog 89 #[.func (.func 73) #[] #[.pointer (some ⟨Bb, 0, none⟩), .pointer (some ⟨Bc, 0, none⟩)]] w fun e w' => e = .returned (.bool (!(decide (0 ≤ b.x0 ∧ b.x0 ≤ b.x1 ∧ b.x1 < W)))) ∧ w = w' := by
  have Hc := Lib.hid (box1_any _ _ _ _ _ _ c1 c3 g5)
  clear c1 c3 g5
  go_enter Tryz.func89, Tryz.ntmps89
  go_wp2_with fail
  refine Hc.out.mono ?_
  rintro e w1 ⟨rfl, rfl⟩
  obtain ⟨R, hR⟩ : ∃ R, R = (decide (0 ≤ b.x0 ∧ b.x0 ≤ b.x1 ∧ b.x1 < W)) := ⟨_, rfl⟩
  have HR := Lib.hid hR
  rw [← hR]
  clear hR Hc
  go_wp2
  go_ret
  exact ⟨ret_bool (by rw [HR.out]), rfl⟩

set_option maxHeartbeats 400000 in
theorem nothold1 (Bb Bc : Nat) (D : Int) (b : Bx) (w : World) (c1 : w.cell? ⟨Bb, 2, none⟩ = some (.int .i64 b.z0)) (c3 : w.cell? ⟨Bb, 4, none⟩ = some (.int .i64 b.z1)) (g5 : w.cell? ⟨Bc, 6, none⟩ = some (.int .i64 D)) :
    Calls Tryz.prog 89 #[.func (.func 74) #[] #[.pointer (some ⟨Bb, 0, none⟩), .pointer (some ⟨Bc, 0, none⟩)]] w fun e w' => e = .returned (.bool (!(decide (0 ≤ b.z0 ∧ b.z0 ≤ b.z1 ∧ b.z1 < D)))) ∧ w = w' := by
  have Hc := Lib.hid (box2_any _ _ _ _ _ _ c1 c3 g5)
  clear c1 c3 g5
  go_enter Tryz.func89, Tryz.ntmps89
  go_wp2_with fail
  refine Hc.out.mono ?_
  rintro e w1 ⟨rfl, rfl⟩
  obtain ⟨R, hR⟩ : ∃ R, R = (decide (0 ≤ b.z0 ∧ b.z0 ≤ b.z1 ∧ b.z1 < D)) := ⟨_, rfl⟩
  have HR := Lib.hid hR
  rw [← hR]
  clear hR Hc
  go_wp2
  go_ret
  exact ⟨ret_bool (by rw [HR.out]), rfl⟩

set_option maxHeartbeats 400000 in
theorem nothold2 (Bb : Nat) (b : Bx) (w : World) (c1 : w.cell? ⟨Bb, 5, none⟩ = some (.int .i64 b.y0)) (c3 : w.cell? ⟨Bb, 6, none⟩ = some (.int .i64 b.y1)) :
    Calls Tryz.prog 89 #[.func (.func 75) #[] #[.pointer (some ⟨Bb, 0, none⟩)]] w fun e w' => e = .returned (.bool (!(hgtOk b.y0 && hgtOk b.y1 && decide (b.y0 ≤ b.y1)))) ∧ w = w' := by
  have Hc := Lib.hid (box3_any _ _ _ _ c1 c3)
  clear c1 c3
  go_enter Tryz.func89, Tryz.ntmps89
  go_wp2_with fail
  refine Hc.out.mono ?_
  rintro e w1 ⟨rfl, rfl⟩
  obtain ⟨R, hR⟩ : ∃ R, R = (hgtOk b.y0 && hgtOk b.y1 && decide (b.y0 ≤ b.y1)) := ⟨_, rfl⟩
  have HR := Lib.hid hR
  rw [← hR]
  clear hR Hc
  go_wp2
  go_ret
  exact ⟨ret_bool (by rw [HR.out]), rfl⟩

set_option maxHeartbeats 400000 in
theorem nothold3 (Bb : Nat) (b : Bx) (w : World) (c1 : w.cell? ⟨Bb, 7, none⟩ = some (.int .i64 b.area)) :
    Calls Tryz.prog 89 #[.func (.func 76) #[] #[.pointer (some ⟨Bb, 0, none⟩)]] w fun e w' => e = .returned (.bool (!(decide (0 ≤ b.area ∧ b.area ≤ 7)))) ∧ w = w' := by
  have Hc := Lib.hid (box4_any _ _ _ c1)
  clear c1 
  go_enter Tryz.func89, Tryz.ntmps89
  go_wp2_with fail
  refine Hc.out.mono ?_
  rintro e w1 ⟨rfl, rfl⟩
  obtain ⟨R, hR⟩ : ∃ R, R = (decide (0 ≤ b.area ∧ b.area ≤ 7)) := ⟨_, rfl⟩
  have HR := Lib.hid hR
  rw [← hR]
  clear hR Hc
  go_wp2
  go_ret
  exact ⟨ret_bool (by rw [HR.out]), rfl⟩

set_option maxRecDepth 100000 in
set_option maxHeartbeats 4000000 in
theorem idxfn_any (Bb Bc Bs : Nat) (r0 r1 r2 r3 : Bool) (w : World) (s0 : w.cell? ⟨Bs, 0, none⟩ = some (.func (.func 73) #[] #[.pointer (some ⟨Bb, 0, none⟩), .pointer (some ⟨Bc, 0, none⟩)])) (s1 : w.cell? ⟨Bs, 1, none⟩ = some (.func (.func 74) #[] #[.pointer (some ⟨Bb, 0, none⟩), .pointer (some ⟨Bc, 0, none⟩)])) (s2 : w.cell? ⟨Bs, 2, none⟩ = some (.func (.func 75) #[] #[.pointer (some ⟨Bb, 0, none⟩)])) (s3 : w.cell? ⟨Bs, 3, none⟩ = some (.func (.func 76) #[] #[.pointer (some ⟨Bb, 0, none⟩)]))
    (n0 : Calls Tryz.prog 89 #[.func (.func 73) #[] #[.pointer (some ⟨Bb, 0, none⟩), .pointer (some ⟨Bc, 0, none⟩)]] w fun e w' => e = .returned (.bool (!r0)) ∧ w = w') (n1 : Calls Tryz.prog 89 #[.func (.func 74) #[] #[.pointer (some ⟨Bb, 0, none⟩), .pointer (some ⟨Bc, 0, none⟩)]] w fun e w' => e = .returned (.bool (!r1)) ∧ w = w') (n2 : Calls Tryz.prog 89 #[.func (.func 75) #[] #[.pointer (some ⟨Bb, 0, none⟩)]] w fun e w' => e = .returned (.bool (!r2)) ∧ w = w') (n3 : Calls Tryz.prog 89 #[.func (.func 76) #[] #[.pointer (some ⟨Bb, 0, none⟩)]] w fun e w' => e = .returned (.bool (!r3)) ∧ w = w') :
    Calls Tryz.prog 105 #[.slice (some ⟨Bs, 0, none⟩) 4 4, .func (.func 89) #[] #[]] w fun e w' => (∃ k : Int, e = .returned (.int .i64 k) ∧ decide (0 ≤ k) = !(r0 && r1 && r2 && r3)) ∧ w = w' := by
  have N0 := Lib.hid n0
  have N1 := Lib.hid n1
  have N2 := Lib.hid n2
  have N3 := Lib.hid n3
  clear n0 n1 n2 n3
  go_enter Tryz.func105, Tryz.ntmps105
  go_wp2
  refine wp_loop_rounds 5 ?_
  rw [rounds_succ]
  go_wp2_with fail
  refine N0.out.mono ?_
  rintro e w1 ⟨rfl, rfl⟩
  clear N0
  cases r0 with
  | false =>
    go_wp2
    go_ret
    exact ⟨⟨0, rfl, by simp⟩, rfl⟩
  | true =>
  go_wp2
  rw [rounds_succ]
  go_wp2_with fail
  refine N1.out.mono ?_
  rintro e w1 ⟨rfl, rfl⟩
  clear N1
  cases r1 with
  | false =>
    go_wp2
    go_ret
    exact ⟨⟨1, rfl, by simp⟩, rfl⟩
  | true =>
  go_wp2
  rw [rounds_succ]
  go_wp2_with fail
  refine N2.out.mono ?_
  rintro e w1 ⟨rfl, rfl⟩
  clear N2
  cases r2 with
  | false =>
    go_wp2
    go_ret
    exact ⟨⟨2, rfl, by simp⟩, rfl⟩
  | true =>
  go_wp2
  rw [rounds_succ]
  go_wp2_with fail
  refine N3.out.mono ?_
  rintro e w1 ⟨rfl, rfl⟩
  clear N3
  cases r3 with
  | false =>
    go_wp2
    go_ret
    exact ⟨⟨3, rfl, by simp⟩, rfl⟩
  | true =>
  go_wp2
  rw [rounds_succ]
  go_wp2
  go_ret
  exact ⟨⟨-1, rfl, by simp⟩, rfl⟩

set_option maxHeartbeats 1000000 in
theorem all_any (Bb Bc Bs : Nat) (r0 r1 r2 r3 : Bool) (w : World) (s0 : w.cell? ⟨Bs, 0, none⟩ = some (.func (.func 73) #[] #[.pointer (some ⟨Bb, 0, none⟩), .pointer (some ⟨Bc, 0, none⟩)])) (s1 : w.cell? ⟨Bs, 1, none⟩ = some (.func (.func 74) #[] #[.pointer (some ⟨Bb, 0, none⟩), .pointer (some ⟨Bc, 0, none⟩)])) (s2 : w.cell? ⟨Bs, 2, none⟩ = some (.func (.func 75) #[] #[.pointer (some ⟨Bb, 0, none⟩)])) (s3 : w.cell? ⟨Bs, 3, none⟩ = some (.func (.func 76) #[] #[.pointer (some ⟨Bb, 0, none⟩)]))
    (n0 : Calls Tryz.prog 89 #[.func (.func 73) #[] #[.pointer (some ⟨Bb, 0, none⟩), .pointer (some ⟨Bc, 0, none⟩)]] w fun e w' => e = .returned (.bool (!r0)) ∧ w = w') (n1 : Calls Tryz.prog 89 #[.func (.func 74) #[] #[.pointer (some ⟨Bb, 0, none⟩), .pointer (some ⟨Bc, 0, none⟩)]] w fun e w' => e = .returned (.bool (!r1)) ∧ w = w') (n2 : Calls Tryz.prog 89 #[.func (.func 75) #[] #[.pointer (some ⟨Bb, 0, none⟩)]] w fun e w' => e = .returned (.bool (!r2)) ∧ w = w') (n3 : Calls Tryz.prog 89 #[.func (.func 76) #[] #[.pointer (some ⟨Bb, 0, none⟩)]] w fun e w' => e = .returned (.bool (!r3)) ∧ w = w') :
    Calls Tryz.prog 72 #[.slice (some ⟨Bs, 0, none⟩) 4 4] w fun e w' => e = .returned (.bool (r0 && r1 && r2 && r3)) ∧ w = w' := by
  have HI := Lib.hid (idxfn_any Bb Bc Bs r0 r1 r2 r3 w s0 s1 s2 s3 n0 n1 n2 n3)
  clear s0 s1 s2 s3 n0 n1 n2 n3
  go_enter Tryz.func72, Tryz.ntmps72
  go_wp2_with fail
  have HC : Calls Tryz.prog 88 #[.slice (some ⟨Bs, 0, none⟩) 4 4, .func (.func 89) #[] #[]] w fun e w' => e = .returned (.bool (!(r0 && r1 && r2 && r3))) ∧ w = w' := by
    go_enter Tryz.func88, Tryz.ntmps88
    go_wp2_with fail
    refine HI.out.mono ?_
    rintro e w1 ⟨⟨k, rfl, hk⟩, rfl⟩
    have Hk := Lib.hid hk
    clear hk HI
    go_wp2
    go_ret
    exact ⟨ret_bool Hk.out, rfl⟩
  refine HC.mono ?_
  rintro e w1 ⟨rfl, rfl⟩
  obtain ⟨R, hR⟩ : ∃ R, R = (r0 && r1 && r2 && r3) := ⟨_, rfl⟩
  have HR := Lib.hid hR
  rw [← hR]
  clear hR HC HI
  go_wp2
  go_ret
  exact ⟨ret_bool HR.out, rfl⟩

end Go.Proofs.YtmgkkmcihplojaaGreat

namespace Go.Proofs.YtmgkkmcihplojaaGreat
open Go.RowKit Go.Sort
attribute [local go_sem] run_store_func

theorem cell_heap {w : World} {b k : Nat} {cs : Array Value} {t : TypeId} {fr : Nat × Nat} {v : Value} (h : w.heap[b]? = some (.cells cs t fr)) (hk : cs[k]? = some v) : w.cell? ⟨b, k, none⟩ = some v := by simp [World.cell?, h, hk]
theorem bxall_any (W D : Int) (b : Bx) (Bb Bc Bs : Nat) (w : World) (c1 : w.cell? ⟨Bb, 1, none⟩ = some (.int .i64 b.x0)) (c2 : w.cell? ⟨Bb, 2, none⟩ = some (.int .i64 b.z0)) (c3 : w.cell? ⟨Bb, 3, none⟩ = some (.int .i64 b.x1)) (c4 : w.cell? ⟨Bb, 4, none⟩ = some (.int .i64 b.z1)) (c5 : w.cell? ⟨Bb, 5, none⟩ = some (.int .i64 b.y0)) (c6 : w.cell? ⟨Bb, 6, none⟩ = some (.int .i64 b.y1)) (c7 : w.cell? ⟨Bb, 7, none⟩ = some (.int .i64 b.area)) (hw : w.cell? ⟨Bc, 5, none⟩ = some (.int .i64 W)) (hd : w.cell? ⟨Bc, 6, none⟩ = some (.int .i64 D))
    (s0 : w.cell? ⟨Bs, 0, none⟩ = some (.func (.func 73) #[] #[.pointer (some ⟨Bb, 0, none⟩), .pointer (some ⟨Bc, 0, none⟩)])) (s1 : w.cell? ⟨Bs, 1, none⟩ = some (.func (.func 74) #[] #[.pointer (some ⟨Bb, 0, none⟩), .pointer (some ⟨Bc, 0, none⟩)])) (s2 : w.cell? ⟨Bs, 2, none⟩ = some (.func (.func 75) #[] #[.pointer (some ⟨Bb, 0, none⟩)])) (s3 : w.cell? ⟨Bs, 3, none⟩ = some (.func (.func 76) #[] #[.pointer (some ⟨Bb, 0, none⟩)])) :
    Calls Tryz.prog 72 #[.slice (some ⟨Bs, 0, none⟩) 4 4] w fun e w' => e = .returned (.bool (bxOk W D b)) ∧ w = w' :=
  all_any Bb Bc Bs _ _ _ _ w s0 s1 s2 s3 (nothold0 Bb Bc W b w c1 c3 hw) (nothold1 Bb Bc D b w c2 c4 hd) (nothold2 Bb b w c5 c6) (nothold3 Bb b w c7)

set_option maxRecDepth 100000 in
set_option maxHeartbeats 2000000 in
theorem bxmay_any (W D : Int) (b : Bx) (Bc : Nat) (w : World) (hw : w.cell? ⟨Bc, 5, none⟩ = some (.int .i64 W)) (hd : w.cell? ⟨Bc, 6, none⟩ = some (.int .i64 D)) :
    Calls Tryz.prog 71 #[.agg (bxC b).toArray, .pointer (some ⟨Bc, 0, none⟩)] w fun e w' => e = .returned (.bool (bxOk W D b)) ∧ Below w.heap.size w w' := by
  have past : ∀ (w' : World) (o : Obj) (b k : Nat) (v : Value), w'.cell? ⟨b, k, none⟩ = some v → (w'.alloc o).cell? ⟨b, k, none⟩ = some v := fun w' o b k v h => (World.cell?_alloc_past _ _ _ (World.block_lt_of_cell? w' _ h)).trans h
  have hN := fun o1 o2 : Obj => (Below.heap_alloc (w.alloc o1) o2 w.heap.size (by simp)).trans (World.alloc_heap_new w o1)
  have hS := fun o1 o2 : Obj => (World.alloc_heap_new (w.alloc o1) o2)
  have HA := Lib.hid (bxall_any W D b w.heap.size Bc (w.heap.size + 1) ((w.alloc (.cells #[.int .i64 b.id, .int .i64 b.x0, .int .i64 b.z0, .int .i64 b.x1, .int .i64 b.z1, .int .i64 b.y0, .int .i64 b.y1, .int .i64 b.area] 130)).alloc (.cells #[.func (.func 73) #[] #[.pointer (some ⟨w.heap.size, 0, none⟩), .pointer (some ⟨Bc, 0, none⟩)], .func (.func 74) #[] #[.pointer (some ⟨w.heap.size, 0, none⟩), .pointer (some ⟨Bc, 0, none⟩)], .func (.func 75) #[] #[.pointer (some ⟨w.heap.size, 0, none⟩)], .func (.func 76) #[] #[.pointer (some ⟨w.heap.size, 0, none⟩)]] 28))
    (by simp [World.cell?, hN]) (by simp [World.cell?, hN]) (by simp [World.cell?, hN]) (by simp [World.cell?, hN]) (by simp [World.cell?, hN]) (by simp [World.cell?, hN]) (by simp [World.cell?, hN])
    (past _ _ _ _ _ (past _ _ _ _ _ hw)) (past _ _ _ _ _ (past _ _ _ _ _ hd))
    (cell_heap (by simpa only [World.size_alloc] using hS (.cells #[.int .i64 b.id, .int .i64 b.x0, .int .i64 b.z0, .int .i64 b.x1, .int .i64 b.z1, .int .i64 b.y0, .int .i64 b.y1, .int .i64 b.area] 130) (.cells #[.func (.func 73) #[] #[.pointer (some ⟨w.heap.size, 0, none⟩), .pointer (some ⟨Bc, 0, none⟩)], .func (.func 74) #[] #[.pointer (some ⟨w.heap.size, 0, none⟩), .pointer (some ⟨Bc, 0, none⟩)], .func (.func 75) #[] #[.pointer (some ⟨w.heap.size, 0, none⟩)], .func (.func 76) #[] #[.pointer (some ⟨w.heap.size, 0, none⟩)]] 28)) rfl) (cell_heap (by simpa only [World.size_alloc] using hS (.cells #[.int .i64 b.id, .int .i64 b.x0, .int .i64 b.z0, .int .i64 b.x1, .int .i64 b.z1, .int .i64 b.y0, .int .i64 b.y1, .int .i64 b.area] 130) (.cells #[.func (.func 73) #[] #[.pointer (some ⟨w.heap.size, 0, none⟩), .pointer (some ⟨Bc, 0, none⟩)], .func (.func 74) #[] #[.pointer (some ⟨w.heap.size, 0, none⟩), .pointer (some ⟨Bc, 0, none⟩)], .func (.func 75) #[] #[.pointer (some ⟨w.heap.size, 0, none⟩)], .func (.func 76) #[] #[.pointer (some ⟨w.heap.size, 0, none⟩)]] 28)) rfl) (cell_heap (by simpa only [World.size_alloc] using hS (.cells #[.int .i64 b.id, .int .i64 b.x0, .int .i64 b.z0, .int .i64 b.x1, .int .i64 b.z1, .int .i64 b.y0, .int .i64 b.y1, .int .i64 b.area] 130) (.cells #[.func (.func 73) #[] #[.pointer (some ⟨w.heap.size, 0, none⟩), .pointer (some ⟨Bc, 0, none⟩)], .func (.func 74) #[] #[.pointer (some ⟨w.heap.size, 0, none⟩), .pointer (some ⟨Bc, 0, none⟩)], .func (.func 75) #[] #[.pointer (some ⟨w.heap.size, 0, none⟩)], .func (.func 76) #[] #[.pointer (some ⟨w.heap.size, 0, none⟩)]] 28)) rfl) (cell_heap (by simpa only [World.size_alloc] using hS (.cells #[.int .i64 b.id, .int .i64 b.x0, .int .i64 b.z0, .int .i64 b.x1, .int .i64 b.z1, .int .i64 b.y0, .int .i64 b.y1, .int .i64 b.area] 130) (.cells #[.func (.func 73) #[] #[.pointer (some ⟨w.heap.size, 0, none⟩), .pointer (some ⟨Bc, 0, none⟩)], .func (.func 74) #[] #[.pointer (some ⟨w.heap.size, 0, none⟩), .pointer (some ⟨Bc, 0, none⟩)], .func (.func 75) #[] #[.pointer (some ⟨w.heap.size, 0, none⟩)], .func (.func 76) #[] #[.pointer (some ⟨w.heap.size, 0, none⟩)]] 28)) rfl))
  clear past hw hd hN hS
  unfold bxC
  go_enter Tryz.func71, Tryz.ntmps71
  go_wp2_with fail
  refine HA.out.mono ?_
  rintro e w3 ⟨rfl, rfl⟩
  have HB := Lib.hid (show Below w.heap.size w ((w.alloc (.cells #[.int .i64 b.id, .int .i64 b.x0, .int .i64 b.z0, .int .i64 b.x1, .int .i64 b.z1, .int .i64 b.y0, .int .i64 b.y1, .int .i64 b.area] 130)).alloc (.cells #[.func (.func 73) #[] #[.pointer (some ⟨w.heap.size, 0, none⟩), .pointer (some ⟨Bc, 0, none⟩)], .func (.func 74) #[] #[.pointer (some ⟨w.heap.size, 0, none⟩), .pointer (some ⟨Bc, 0, none⟩)], .func (.func 75) #[] #[.pointer (some ⟨w.heap.size, 0, none⟩)], .func (.func 76) #[] #[.pointer (some ⟨w.heap.size, 0, none⟩)]] 28)) by (repeat (first | exact Below.refl _ _ | refine Below.alloc ?_ (by simp; try omega) _)))
  go_wp2
  go_ret
  exact ⟨rfl, HB.out⟩

/-- The list of what is asked of boxes: a value. -/
def boxesV (Bc : Nat) : List Value := [.func (.func 70) #[] #[], .func (.func 71) #[] #[.pointer (some ⟨Bc, 0, none⟩)], .int .i64 16, .int .i64 2]
theorem boxid_any (b : Bx) (w : World) : Calls Tryz.prog 70 #[.agg (bxC b).toArray] w fun e w' => e = .returned (.int .i64 b.id) ∧ w' = w.alloc (.cells (bxC b).toArray 130) := by
  unfold bxC
  go_enter Tryz.func70, Tryz.ntmps70
  go_wp2
  go_ret
  exact ⟨rfl, rfl⟩
set_option maxRecDepth 100000 in
set_option maxHeartbeats 1000000 in
theorem boxes_any (c : Cfg) (w : World) : Calls Tryz.prog 50 #[cfgV c] w fun e w' => e = .returned (.agg (boxesV w.heap.size).toArray) ∧ w'.cell? ⟨w.heap.size, 5, none⟩ = some (.int .i64 c.w) ∧ w'.cell? ⟨w.heap.size, 6, none⟩ = some (.int .i64 c.d) ∧ Below w.heap.size w w' := by
  have hN := fun o1 o2 : Obj => (Below.heap_alloc (w.alloc o1) o2 w.heap.size (by simp)).trans (World.alloc_heap_new w o1)
  unfold boxesV cfgV
  go_enter Tryz.func50, Tryz.ntmps50
  go_wp2
  refine bodyPost_ret (v := .agg #[.func (.func 70) #[] #[], .func (.func 71) #[] #[.pointer (some ⟨w.heap.size, 0, none⟩)], .int .i64 16, .int .i64 2]) (by simp [results, Tryz.results50, go_sem]) rfl ?_
  refine ⟨rfl, ?_, ?_, by (repeat (first | exact Below.refl _ _ | refine Below.alloc ?_ (by simp; try omega) _))⟩
  · simp [World.cell?, hN]
  · simp [World.cell?, hN]

end Go.Proofs.YtmgkkmcihplojaaGreat

namespace Go.Proofs.YtmgkkmcihplojaaGreat
open Go.RowKit Go.Sort
attribute [local go_sem] run_store_func

set_option maxRecDepth 100000 in
set_option maxHeartbeats 2000000 in
theorem one_bx (W D : Int) (t : Bx) (Bc : Nat) (w : World) (hw : w.cell? ⟨Bc, 5, none⟩ = some (.int .i64 W)) (hd : w.cell? ⟨Bc, 6, none⟩ = some (.int .i64 D)) :
    Calls Tryz.prog 77 #[.agg (boxesV Bc).toArray, .agg (bxC t).toArray] w fun e w' => e = .returned (.bool (idOk t.id && bxOk W D t)) ∧ Below w.heap.size w w' := by
  have past : ∀ (w' : World) (o : Obj) (b k : Nat) (v : Value), w'.cell? ⟨b, k, none⟩ = some v → (w'.alloc o).cell? ⟨b, k, none⟩ = some v := fun w' o b k v h => (World.cell?_alloc_past _ _ _ (World.block_lt_of_cell? w' _ h)).trans h
  have Chw := Lib.hid (fun o1 o2 o3 o4 => past _ o4 _ _ _ (past _ o3 _ _ _ (past _ o2 _ _ _ (past _ o1 _ _ _ hw))))
  have Chd := Lib.hid (fun o1 o2 o3 o4 => past _ o4 _ _ _ (past _ o3 _ _ _ (past _ o2 _ _ _ (past _ o1 _ _ _ hd))))
  have Hc := Lib.hid (fun (w' : World) => bxmay_any W D t Bc w')
  have HT1 := Lib.hid (fun (w' : World) => boxid_any t w')
  clear past hw hd
  obtain ⟨r, hr⟩ : ∃ r, r = bxOk W D t := ⟨_, rfl⟩
  rw [← hr] at Hc ⊢
  clear hr
  unfold boxesV bxC
  unfold bxC at HT1
  unfold bxC at Hc
  obtain ⟨id, hid⟩ : ∃ id, id = t.id := ⟨_, rfl⟩
  rw [← hid] at HT1 Hc ⊢
  clear hid
  by_cases h1 : 1 ≤ id
  · have d1 : decide (1 ≤ id) = true := decide_eq_true h1
    by_cases h2 : id ≤ 1073741824
    · have d2 : decide (id ≤ 1073741824) = true := decide_eq_true h2
      have Hi : Hid (idOk id = true) := by show _ = _; unfold idOk; rw [d1, d2]; rfl
      clear h1 h2
      go_enter Tryz.func77, Tryz.ntmps77
      go_wp2_with fail
      refine (HT1.out _).mono ?_
      rintro e w1 ⟨rfl, rfl⟩
      go_wp2_with fail
      refine (HT1.out _).mono ?_
      rintro e w1 ⟨rfl, rfl⟩
      go_wp2_with fail
      refine (Hc.out _ (Chw.out _ _ _ _) (Chd.out _ _ _ _)).mono ?_
      rintro e w3 ⟨rfl, hb3⟩
      have hb0 : Below w.heap.size w w3 := by refine Below.trans ?_ (hb3.mono (by simp; omega)); (repeat (first | exact Below.refl _ _ | refine Below.alloc ?_ (by simp; try omega) _))
      clear hb3
      go_wp2
      go_ret
      exact ⟨ret_bool (by rw [Hi.out]; rfl), hb0⟩
    · have d2 : decide (id ≤ 1073741824) = false := decide_eq_false h2
      have Hi : Hid (idOk id = false) := by show _ = _; unfold idOk; rw [d1, d2]; rfl
      clear h1 h2
      go_enter Tryz.func77, Tryz.ntmps77
      go_wp2_with fail
      refine (HT1.out _).mono ?_
      rintro e w1 ⟨rfl, rfl⟩
      go_wp2_with fail
      refine (HT1.out _).mono ?_
      rintro e w1 ⟨rfl, rfl⟩
      go_wp2
      go_ret
      exact ⟨ret_bool (by rw [Hi.out]; rfl), by (repeat (first | exact Below.refl _ _ | refine Below.alloc ?_ (by simp; try omega) _))⟩
  · have d1 : decide (1 ≤ id) = false := decide_eq_false h1
    have Hi : Hid (idOk id = false) := by show _ = _; unfold idOk; rw [d1]; rfl
    clear h1
    go_enter Tryz.func77, Tryz.ntmps77
    go_wp2_with fail
    refine (HT1.out _).mono ?_
    rintro e w1 ⟨rfl, rfl⟩
    go_wp2
    go_ret
    exact ⟨ret_bool (by rw [Hi.out]; rfl), by (repeat (first | exact Below.refl _ _ | refine Below.alloc ?_ (by simp; try omega) _))⟩

set_option maxRecDepth 100000 in
set_option maxHeartbeats 4000000 in
theorem check_bx (W D : Int) (a : Option Addr) (n c : Nat) (xs : List Bx) (Bc : Nat) (w : World) (hx : SlR bxC 8 w a n c xs) (hw : w.cell? ⟨Bc, 5, none⟩ = some (.int .i64 W)) (hd : w.cell? ⟨Bc, 6, none⟩ = some (.int .i64 D)) :
    Calls Tryz.prog 51 #[.agg (boxesV Bc).toArray, .slice a n c] w fun e w' => e = .returned (.bool (decide (n ≤ 16) && rowOk Bx.id (bxOk W D) 0 xs)) ∧ Below w.heap.size w w' := by
  have hmax := hx.max
  have hle := hx.le
  have Hl := Lib.hid hx.len
  have Hx := Lib.hid hx
  have Hhw := Lib.hid hw
  have Hhd := Lib.hid hd
  clear hx hw hd
  unfold boxesV
  by_cases hn : n ≤ 16
  · have hnI : ¬ (16 : Int) < (n : Int) := by omega
    have hnJ : decide ((16 : Int) < (n : Int)) = false := decide_eq_false hnI
    have hnK : decide (16 < n) = false := decide_eq_false (by omega)
    have Hn : Hid (decide (n ≤ 16) = true) := decide_eq_true hn
    go_enter Tryz.func51, Tryz.ntmps51
    go_wp2
    have hLo : (w.alloc (.cells #[.func (.func 70) #[] #[], .func (.func 71) #[] #[.pointer (some ⟨Bc, 0, none⟩)], .int .i64 16, .int .i64 2] 126)).heap[w.heap.size]? = some (.cells #[.func (.func 70) #[] #[], .func (.func 71) #[] #[.pointer (some ⟨Bc, 0, none⟩)], .int .i64 16, .int .i64 2] 126 (0, 0)) := World.alloc_heap_new _ _
    have hB0 : Below w.heap.size w (w.alloc (.cells #[.func (.func 70) #[] #[], .func (.func 71) #[] #[.pointer (some ⟨Bc, 0, none⟩)], .int .i64 16, .int .i64 2] 126)) := (Below.refl _ _).alloc (Nat.le_refl _) _
    obtain ⟨V, hV⟩ : ∃ V, V = (w.alloc (.cells #[.func (.func 70) #[] #[], .func (.func 71) #[] #[.pointer (some ⟨Bc, 0, none⟩)], .int .i64 16, .int .i64 2] 126)) := ⟨_, rfl⟩
    rw [← hV] at hLo hB0 ⊢
    have hVs : V.heap.size = w.heap.size + 1 := by rw [hV]; simp
    clear hV
    go_loopw [5, 15] (fun x y wr => ∃ (k : Nat) (last : Int), x = .int .i64 last ∧ y = .int .i64 k ∧ k ≤ n ∧ Hid (rowOk Bx.id (bxOk W D) 0 xs = rowOk Bx.id (bxOk W D) last (xs.drop k)) ∧ Below V.heap.size V wr) (fun _ y _ => n - (intOf y).toNat)
    case atStart => exact ⟨0, 0, rfl, rfl, Nat.zero_le _, rfl, Below.refl _ _⟩
    case round =>
      obtain ⟨k, last, rfl, rfl, hk, HR, hbr⟩ := hrel
      obtain ⟨wj, rfl⟩ : ∃ wj : World, wj = wr := ⟨_, rfl⟩
      have hbw := hB0.trans (hbr.mono hB0.size)
      have hbws := hbw.size
      have hVj := hbr.size
      rw [hVs] at hVj
      by_cases hlt : k < n
      · have hltI : (k : Int) < (n : Int) := by omega
        obtain ⟨t, ht⟩ : ∃ t, xs[k]? = some t := ⟨_, List.getElem?_eq_getElem (by rw [Hl.out]; exact hlt)⟩
        obtain ⟨b, off, rfl, _, hcell⟩ := (Hx.out.below hbw (Nat.le_refl _)).at0 (by omega)
        have ct := hcell k t ht
        have c0 := ct 0 _ rfl
        have c1 := ct 1 _ rfl
        have c2 := ct 2 _ rfl
        have c3 := ct 3 _ rfl
        have c4 := ct 4 _ rfl
        have c5 := ct 5 _ rfl
        have c6 := ct 6 _ rfl
        have c7 := ct 7 _ rfl
        simp only [Nat.add_zero] at c0
        have hL := (hbr.block w.heap.size (by omega)).trans hLo
        have hL1 := fun o : Obj => (Below.heap_alloc wj o w.heap.size (by omega)).trans hL
        have l0 := fun o : Obj => (cell_heap (k := 0) (v := .func (.func 70) #[] #[]) (hL1 o) rfl)
        have l1 := fun o : Obj => (cell_heap (k := 1) (v := .func (.func 71) #[] #[.pointer (some ⟨Bc, 0, none⟩)]) (hL1 o) rfl)
        have l2 := fun o : Obj => (cell_heap (k := 2) (v := .int .i64 16) (hL1 o) rfl)
        have l3 := fun o : Obj => (cell_heap (k := 3) (v := .int .i64 2) (hL1 o) rfl)
        have Hstep := Lib.hid (rowOk_drop (id := Bx.id) (ok := bxOk W D) (last := last) ht)
        have HT1 := Lib.hid (fun w' : World => boxid_any t w')
        have hwj := (hbw.cell (World.block_lt_of_cell? w _ Hhw.out)).trans Hhw.out
        have Jhw := Lib.hid (fun o : Obj => (World.cell?_alloc_past o _ _ (World.block_lt_of_cell? wj _ hwj)).trans hwj)
        have hdj := (hbw.cell (World.block_lt_of_cell? w _ Hhd.out)).trans Hhd.out
        have Jhd := Lib.hid (fun o : Obj => (World.cell?_alloc_past o _ _ (World.block_lt_of_cell? wj _ hdj)).trans hdj)
        have Hone := Lib.hid (fun (o : Obj) => one_bx W D t Bc (wj.alloc o) (Jhw.out o) (Jhd.out o))
        have HL1 := Lib.hid hL1
        clear ct hcell hL ht hwj hdj hL1
        go_wp2_with fail
        refine (Hone.out _).mono ?_
        rintro e W2 ⟨rfl, hb2⟩
        have hb2w : Below V.heap.size V W2 := hbr.trans (((Below.refl _ wj).alloc (Nat.le_refl _) _ |>.trans (hb2.mono (by simp))).mono hbr.size)
        have hs2 := hb2.size
        simp only [World.size_alloc] at hs2
        have hL2 : W2.heap[w.heap.size]? = some (.cells #[.func (.func 70) #[] #[], .func (.func 71) #[] #[.pointer (some ⟨Bc, 0, none⟩)], .int .i64 16, .int .i64 2] 126 (0, 0)) := (hb2.block w.heap.size (by simp; omega)).trans (HL1.out _)
        have hT2 : W2.heap[wj.heap.size]? = some (.cells #[.int .i64 t.id, .int .i64 t.x0, .int .i64 t.z0, .int .i64 t.x1, .int .i64 t.z1, .int .i64 t.y0, .int .i64 t.y1, .int .i64 t.area] 130 (0, 0)) := (hb2.block wj.heap.size (by simp)).trans (World.alloc_heap_new _ _)
        clear l0 l1 l2 l3 c0 c1 c2 c3 c4 c5 c6 c7 hb2
        have hL3 := fun o : Obj => (Below.heap_alloc W2 o w.heap.size (by omega)).trans hL2
        have hT3 := fun o : Obj => (Below.heap_alloc W2 o wj.heap.size (by omega)).trans hT2
        have m0 := cell_heap (k := 0) (v := .func (.func 70) #[] #[]) hL2 rfl
        have n0 := fun o : Obj => (cell_heap (k := 0) (v := .func (.func 70) #[] #[]) (hL3 o) rfl)
        have p0 := cell_heap (k := 0) (v := .int .i64 t.id) hT2 rfl
        have q0 := fun o : Obj => (cell_heap (k := 0) (v := .int .i64 t.id) (hT3 o) rfl)
        have p1 := cell_heap (k := 1) (v := .int .i64 t.x0) hT2 rfl
        have q1 := fun o : Obj => (cell_heap (k := 1) (v := .int .i64 t.x0) (hT3 o) rfl)
        have p2 := cell_heap (k := 2) (v := .int .i64 t.z0) hT2 rfl
        have q2 := fun o : Obj => (cell_heap (k := 2) (v := .int .i64 t.z0) (hT3 o) rfl)
        have p3 := cell_heap (k := 3) (v := .int .i64 t.x1) hT2 rfl
        have q3 := fun o : Obj => (cell_heap (k := 3) (v := .int .i64 t.x1) (hT3 o) rfl)
        have p4 := cell_heap (k := 4) (v := .int .i64 t.z1) hT2 rfl
        have q4 := fun o : Obj => (cell_heap (k := 4) (v := .int .i64 t.z1) (hT3 o) rfl)
        have p5 := cell_heap (k := 5) (v := .int .i64 t.y0) hT2 rfl
        have q5 := fun o : Obj => (cell_heap (k := 5) (v := .int .i64 t.y0) (hT3 o) rfl)
        have p6 := cell_heap (k := 6) (v := .int .i64 t.y1) hT2 rfl
        have q6 := fun o : Obj => (cell_heap (k := 6) (v := .int .i64 t.y1) (hT3 o) rfl)
        have p7 := cell_heap (k := 7) (v := .int .i64 t.area) hT2 rfl
        have q7 := fun o : Obj => (cell_heap (k := 7) (v := .int .i64 t.area) (hT3 o) rfl)
        clear hL2 hT2 hL3 hT3 Hone
        obtain ⟨r, hr⟩ : ∃ r, r = (idOk t.id && bxOk W D t) := ⟨_, rfl⟩
        rw [← hr] at Hstep ⊢
        have hB2 := hB0.trans (hb2w.mono hB0.size)
        clear hr
        cases r with
        | false =>
          have hno : Hid (rowOk Bx.id (bxOk W D) 0 xs = false) := by show _ = _; rw [HR.out, Hstep.out]; rfl
          go_wp2
          go_ret
          exact ⟨ret_bool (by first | exact hno.out.symm | rw [hno.out, Bool.and_false]), hB2⟩
        | true =>
          by_cases hid : t.id ≤ last
          · have dl : decide (t.id ≤ last) = true := decide_eq_true hid
            have hno : Hid (rowOk Bx.id (bxOk W D) 0 xs = false) := by show _ = _; rw [HR.out, Hstep.out, decide_eq_false (show ¬ last < t.id by omega)]; rfl
            clear hid
            go_wp2_with fail
            refine (HT1.out _).mono ?_
            rintro e w9 ⟨rfl, rfl⟩
            go_wp2
            go_ret
            exact ⟨ret_bool (by first | exact hno.out.symm | rw [hno.out, Bool.and_false]), hB2.alloc hB2.size _⟩
          · have dl : decide (t.id ≤ last) = false := decide_eq_false hid
            have hyes : Hid (rowOk Bx.id (bxOk W D) 0 xs = rowOk Bx.id (bxOk W D) t.id (xs.drop (k + 1))) := by show _ = _; rw [HR.out, Hstep.out, decide_eq_true (show last < t.id by omega)]; rfl
            clear hid
            go_wp2_with fail
            refine (HT1.out _).mono ?_
            rintro e w9 ⟨rfl, rfl⟩
            go_wp2_with fail
            refine (HT1.out _).mono ?_
            rintro e w9 ⟨rfl, rfl⟩
            have hb4 := (hb2w.alloc hb2w.size (.cells (bxC t).toArray 130)).alloc (by have := hb2w.size; simp; omega) (.cells (bxC t).toArray 130)
            go_wp2
            go_roundw
            case rel => exact ⟨k + 1, t.id, rfl, by go_num, by omega, hyes, hb4⟩
            case measure => simp [intOf]; omega
      · obtain rfl : n = k := by omega
        have hltn : ¬ (n : Int) < (n : Int) := by omega
        have hall : Hid (rowOk Bx.id (bxOk W D) 0 xs = true) := by show _ = _; rw [HR.out, List.drop_of_length_le (by rw [Hl.out]; exact Nat.le_refl _)]; rfl
        go_wp2
        go_ret
        exact ⟨ret_bool (by first | exact hall.out.symm | (rw [Hn.out, hall.out]; rfl)), hbw⟩
  · have hnJ : decide ((16 : Int) < (n : Int)) = true := decide_eq_true (by omega)
    have hnK : decide (16 < n) = true := decide_eq_true (by omega)
    have Hn : Hid (decide (n ≤ 16) = false) := decide_eq_false hn
    clear hn
    go_enter Tryz.func51, Tryz.ntmps51
    go_wp2
    go_ret
    exact ⟨ret_bool (by rw [Hn.out]; rfl), (Below.refl _ _).alloc (Nat.le_refl _) _⟩

end Go.Proofs.YtmgkkmcihplojaaGreat
