/- Walks: boxes and hops that may be: their parts. -/
import Derived.Test.YtilhmlapbifbbaaSo4
namespace Go.Proofs.Ytilhmlapbifbbaa
open Go.RowKit Go.Sort
attribute [local go_sem] run_store_func

set_option maxHeartbeats 1000000 in
theorem box1_any (Bb Bc : Nat) (x0 x1 W : Int) (w : World) (c1 : w.cell? ⟨Bb, 1, none⟩ = some (.int .i64 x0)) (c3 : w.cell? ⟨Bb, 3, none⟩ = some (.int .i64 x1)) (c5 : w.cell? ⟨Bc, 5, none⟩ = some (.int .i64 W)) :
    Calls Try.prog 136 #[.pointer (some ⟨Bb, 0, none⟩), .pointer (some ⟨Bc, 0, none⟩)] w fun e w' => e = .returned (.bool (decide (0 ≤ x0 ∧ x0 ≤ x1 ∧ x1 < W))) ∧ w = w' := by
  by_cases h0 : 0 ≤ x0
  rotate_left
  · have d0 : decide (0 ≤ x0) = false := decide_eq_false h0
    have H : Hid (decide (0 ≤ x0 ∧ x0 ≤ x1 ∧ x1 < W) = false) := by show _ = _; simp [h0]
    clear h0
    go_enter Try.func136, Try.ntmps136
    go_wp2
    go_ret
    exact ⟨ret_bool H.out.symm, rfl⟩
  have d0 : decide (0 ≤ x0) = true := decide_eq_true h0
  by_cases h1 : x0 ≤ x1
  rotate_left
  · have d1 : decide (x0 ≤ x1) = false := decide_eq_false h1
    have H : Hid (decide (0 ≤ x0 ∧ x0 ≤ x1 ∧ x1 < W) = false) := by show _ = _; simp [h1]
    clear h0 h1
    go_enter Try.func136, Try.ntmps136
    go_wp2
    go_ret
    exact ⟨ret_bool H.out.symm, rfl⟩
  have d1 : decide (x0 ≤ x1) = true := decide_eq_true h1
  have H : Hid (decide (0 ≤ x0 ∧ x0 ≤ x1 ∧ x1 < W) = decide (x1 < W)) := by show _ = _; simp [h0, h1]
  clear h0 h1
  go_enter Try.func136, Try.ntmps136
  go_wp2
  go_ret
  exact ⟨ret_bool H.out.symm, rfl⟩

set_option maxHeartbeats 1000000 in
theorem box2_any (Bb Bc : Nat) (z0 z1 D : Int) (w : World) (c1 : w.cell? ⟨Bb, 2, none⟩ = some (.int .i64 z0)) (c3 : w.cell? ⟨Bb, 4, none⟩ = some (.int .i64 z1)) (c5 : w.cell? ⟨Bc, 6, none⟩ = some (.int .i64 D)) :
    Calls Try.prog 137 #[.pointer (some ⟨Bb, 0, none⟩), .pointer (some ⟨Bc, 0, none⟩)] w fun e w' => e = .returned (.bool (decide (0 ≤ z0 ∧ z0 ≤ z1 ∧ z1 < D))) ∧ w = w' := by
  by_cases h0 : 0 ≤ z0
  rotate_left
  · have d0 : decide (0 ≤ z0) = false := decide_eq_false h0
    have H : Hid (decide (0 ≤ z0 ∧ z0 ≤ z1 ∧ z1 < D) = false) := by show _ = _; simp [h0]
    clear h0
    go_enter Try.func137, Try.ntmps137
    go_wp2
    go_ret
    exact ⟨ret_bool H.out.symm, rfl⟩
  have d0 : decide (0 ≤ z0) = true := decide_eq_true h0
  by_cases h1 : z0 ≤ z1
  rotate_left
  · have d1 : decide (z0 ≤ z1) = false := decide_eq_false h1
    have H : Hid (decide (0 ≤ z0 ∧ z0 ≤ z1 ∧ z1 < D) = false) := by show _ = _; simp [h1]
    clear h0 h1
    go_enter Try.func137, Try.ntmps137
    go_wp2
    go_ret
    exact ⟨ret_bool H.out.symm, rfl⟩
  have d1 : decide (z0 ≤ z1) = true := decide_eq_true h1
  have H : Hid (decide (0 ≤ z0 ∧ z0 ≤ z1 ∧ z1 < D) = decide (z1 < D)) := by show _ = _; simp [h0, h1]
  clear h0 h1
  go_enter Try.func137, Try.ntmps137
  go_wp2
  go_ret
  exact ⟨ret_bool H.out.symm, rfl⟩

set_option maxHeartbeats 1000000 in
theorem box3_any (Bb : Nat) (y0 y1 : Int) (w : World) (c5 : w.cell? ⟨Bb, 5, none⟩ = some (.int .i64 y0)) (c6 : w.cell? ⟨Bb, 6, none⟩ = some (.int .i64 y1)) :
    Calls Try.prog 138 #[.pointer (some ⟨Bb, 0, none⟩)] w fun e w' => e = .returned (.bool (hgtOk y0 && hgtOk y1 && decide (y0 ≤ y1))) ∧ w = w' := by
  have HH := Lib.hid (fun y (w' : World) => height_any y w')
  cases h0 : hgtOk y0 with
  | false =>
    have H0 := Lib.hid h0
    clear h0
    go_enter Try.func138, Try.ntmps138
    go_wp2_with fail
    refine (HH.out _ _).mono ?_
    rw [H0.out]
    rintro e w1 ⟨rfl, rfl⟩
    go_wp2
    go_ret
    exact ⟨ret_bool rfl, rfl⟩
  | true =>
    cases h1 : hgtOk y1 with
    | false =>
      have H0 := Lib.hid h0
      have H1 := Lib.hid h1
      clear h0 h1
      go_enter Try.func138, Try.ntmps138
      go_wp2_with fail
      refine (HH.out _ _).mono ?_
      rw [H0.out]
      rintro e w1 ⟨rfl, rfl⟩
      go_wp2_with fail
      refine (HH.out _ _).mono ?_
      rw [H1.out]
      rintro e w1 ⟨rfl, rfl⟩
      go_wp2
      go_ret
      exact ⟨ret_bool rfl, rfl⟩
    | true =>
      have H0 := Lib.hid h0
      have H1 := Lib.hid h1
      clear h0 h1
      go_enter Try.func138, Try.ntmps138
      go_wp2_with fail
      refine (HH.out _ _).mono ?_
      rw [H0.out]
      rintro e w1 ⟨rfl, rfl⟩
      go_wp2_with fail
      refine (HH.out _ _).mono ?_
      rw [H1.out]
      rintro e w1 ⟨rfl, rfl⟩
      go_wp2
      go_ret
      exact ⟨ret_bool rfl, rfl⟩

set_option maxHeartbeats 1000000 in
theorem box4_any (Bb : Nat) (ar : Int) (w : World) (c7 : w.cell? ⟨Bb, 7, none⟩ = some (.int .i64 ar)) :
    Calls Try.prog 139 #[.pointer (some ⟨Bb, 0, none⟩)] w fun e w' => e = .returned (.bool (decide (0 ≤ ar ∧ ar ≤ 7))) ∧ w = w' := by
  by_cases h0 : 0 ≤ ar
  rotate_left
  · have d0 : decide (0 ≤ ar) = false := decide_eq_false h0
    have H : Hid (decide (0 ≤ ar ∧ ar ≤ 7) = false) := by show _ = _; simp [h0]
    clear h0
    go_enter Try.func139, Try.ntmps139
    go_wp2
    go_ret
    exact ⟨ret_bool H.out.symm, rfl⟩
  have d0 : decide (0 ≤ ar) = true := decide_eq_true h0
  have H : Hid (decide (0 ≤ ar ∧ ar ≤ 7) = decide (ar ≤ 7)) := by show _ = _; simp [h0]
  clear h0
  go_enter Try.func139, Try.ntmps139
  go_wp2
  go_ret
  exact ⟨ret_bool H.out.symm, rfl⟩

set_option maxHeartbeats 400000 in
theorem nothold0 (Bb Bc : Nat) (W : Int) (b : Bx) (w : World) (c1 : w.cell? ⟨Bb, 1, none⟩ = some (.int .i64 b.x0)) (c3 : w.cell? ⟨Bb, 3, none⟩ = some (.int .i64 b.x1)) (g5 : w.cell? ⟨Bc, 5, none⟩ = some (.int .i64 W)) :
    Calls Try.prog 159 #[.func (.func 136) #[] #[.pointer (some ⟨Bb, 0, none⟩), .pointer (some ⟨Bc, 0, none⟩)]] w fun e w' => e = .returned (.bool (!(decide (0 ≤ b.x0 ∧ b.x0 ≤ b.x1 ∧ b.x1 < W)))) ∧ w = w' := by
  have Hc := Lib.hid (box1_any _ _ _ _ _ _ c1 c3 g5)
  clear c1 c3 g5
  go_enter Try.func159, Try.ntmps159
  go_wp2_with fail
  refine Hc.out.mono ?_
  rintro e w1 ⟨rfl, rfl⟩
  obtain ⟨R, hR⟩ : ∃ R, R = (decide (0 ≤ b.x0 ∧ b.x0 ≤ b.x1 ∧ b.x1 < W)) := ⟨_, rfl⟩
  have HR := Lib.hid hR
  rw [← hR]
  clear hR Hc
  go_wp2
  go_ret
  exact ⟨ret_bool (by rw [HR.out]), rfl⟩

set_option maxHeartbeats 400000 in
theorem nothold1 (Bb Bc : Nat) (D : Int) (b : Bx) (w : World) (c1 : w.cell? ⟨Bb, 2, none⟩ = some (.int .i64 b.z0)) (c3 : w.cell? ⟨Bb, 4, none⟩ = some (.int .i64 b.z1)) (g5 : w.cell? ⟨Bc, 6, none⟩ = some (.int .i64 D)) :
    Calls Try.prog 159 #[.func (.func 137) #[] #[.pointer (some ⟨Bb, 0, none⟩), .pointer (some ⟨Bc, 0, none⟩)]] w fun e w' => e = .returned (.bool (!(decide (0 ≤ b.z0 ∧ b.z0 ≤ b.z1 ∧ b.z1 < D)))) ∧ w = w' := by
  have Hc := Lib.hid (box2_any _ _ _ _ _ _ c1 c3 g5)
  clear c1 c3 g5
  go_enter Try.func159, Try.ntmps159
  go_wp2_with fail
  refine Hc.out.mono ?_
  rintro e w1 ⟨rfl, rfl⟩
  obtain ⟨R, hR⟩ : ∃ R, R = (decide (0 ≤ b.z0 ∧ b.z0 ≤ b.z1 ∧ b.z1 < D)) := ⟨_, rfl⟩
  have HR := Lib.hid hR
  rw [← hR]
  clear hR Hc
  go_wp2
  go_ret
  exact ⟨ret_bool (by rw [HR.out]), rfl⟩

set_option maxHeartbeats 400000 in
theorem nothold2 (Bb : Nat) (b : Bx) (w : World) (c1 : w.cell? ⟨Bb, 5, none⟩ = some (.int .i64 b.y0)) (c3 : w.cell? ⟨Bb, 6, none⟩ = some (.int .i64 b.y1)) :
    Calls Try.prog 159 #[.func (.func 138) #[] #[.pointer (some ⟨Bb, 0, none⟩)]] w fun e w' => e = .returned (.bool (!(hgtOk b.y0 && hgtOk b.y1 && decide (b.y0 ≤ b.y1)))) ∧ w = w' := by
  have Hc := Lib.hid (box3_any _ _ _ _ c1 c3)
  clear c1 c3
  go_enter Try.func159, Try.ntmps159
  go_wp2_with fail
  refine Hc.out.mono ?_
  rintro e w1 ⟨rfl, rfl⟩
  obtain ⟨R, hR⟩ : ∃ R, R = (hgtOk b.y0 && hgtOk b.y1 && decide (b.y0 ≤ b.y1)) := ⟨_, rfl⟩
  have HR := Lib.hid hR
  rw [← hR]
  clear hR Hc
  go_wp2
  go_ret
  exact ⟨ret_bool (by rw [HR.out]), rfl⟩

set_option maxHeartbeats 400000 in
theorem nothold3 (Bb : Nat) (b : Bx) (w : World) (c1 : w.cell? ⟨Bb, 7, none⟩ = some (.int .i64 b.area)) :
    Calls Try.prog 159 #[.func (.func 139) #[] #[.pointer (some ⟨Bb, 0, none⟩)]] w fun e w' => e = .returned (.bool (!(decide (0 ≤ b.area ∧ b.area ≤ 7)))) ∧ w = w' := by
  have Hc := Lib.hid (box4_any _ _ _ c1)
  clear c1 
  go_enter Try.func159, Try.ntmps159
  go_wp2_with fail
  refine Hc.out.mono ?_
  rintro e w1 ⟨rfl, rfl⟩
  obtain ⟨R, hR⟩ : ∃ R, R = (decide (0 ≤ b.area ∧ b.area ≤ 7)) := ⟨_, rfl⟩
  have HR := Lib.hid hR
  rw [← hR]
  clear hR Hc
  go_wp2
  go_ret
  exact ⟨ret_bool (by rw [HR.out]), rfl⟩

/-- The four things that are asked of a box. -/
def boxFs (Bb Bc : Nat) : List Value := [.func (.func 136) #[] #[.pointer (some ⟨Bb, 0, none⟩), .pointer (some ⟨Bc, 0, none⟩)], .func (.func 137) #[] #[.pointer (some ⟨Bb, 0, none⟩), .pointer (some ⟨Bc, 0, none⟩)], .func (.func 138) #[] #[.pointer (some ⟨Bb, 0, none⟩)], .func (.func 139) #[] #[.pointer (some ⟨Bb, 0, none⟩)]]
set_option maxRecDepth 100000 in
set_option maxHeartbeats 4000000 in
theorem idxfn_any (Bb Bc Bs : Nat) (r0 r1 r2 r3 : Bool) (w : World) (s0 : w.cell? ⟨Bs, 0, none⟩ = some (.func (.func 136) #[] #[.pointer (some ⟨Bb, 0, none⟩), .pointer (some ⟨Bc, 0, none⟩)])) (s1 : w.cell? ⟨Bs, 1, none⟩ = some (.func (.func 137) #[] #[.pointer (some ⟨Bb, 0, none⟩), .pointer (some ⟨Bc, 0, none⟩)])) (s2 : w.cell? ⟨Bs, 2, none⟩ = some (.func (.func 138) #[] #[.pointer (some ⟨Bb, 0, none⟩)])) (s3 : w.cell? ⟨Bs, 3, none⟩ = some (.func (.func 139) #[] #[.pointer (some ⟨Bb, 0, none⟩)]))
    (n0 : Calls Try.prog 159 #[.func (.func 136) #[] #[.pointer (some ⟨Bb, 0, none⟩), .pointer (some ⟨Bc, 0, none⟩)]] w fun e w' => e = .returned (.bool (!r0)) ∧ w = w') (n1 : Calls Try.prog 159 #[.func (.func 137) #[] #[.pointer (some ⟨Bb, 0, none⟩), .pointer (some ⟨Bc, 0, none⟩)]] w fun e w' => e = .returned (.bool (!r1)) ∧ w = w') (n2 : Calls Try.prog 159 #[.func (.func 138) #[] #[.pointer (some ⟨Bb, 0, none⟩)]] w fun e w' => e = .returned (.bool (!r2)) ∧ w = w') (n3 : Calls Try.prog 159 #[.func (.func 139) #[] #[.pointer (some ⟨Bb, 0, none⟩)]] w fun e w' => e = .returned (.bool (!r3)) ∧ w = w') :
    Calls Try.prog 165 #[.slice (some ⟨Bs, 0, none⟩) 4 4, .func (.func 159) #[] #[]] w fun e w' => (∃ k : Int, e = .returned (.int .i64 k) ∧ decide (0 ≤ k) = !(r0 && r1 && r2 && r3)) ∧ w = w' := by
  have N0 := Lib.hid n0
  have N1 := Lib.hid n1
  have N2 := Lib.hid n2
  have N3 := Lib.hid n3
  clear n0 n1 n2 n3
  go_enter Try.func165, Try.ntmps165
  go_wp2
  refine wp_loop_rounds 5 ?_
  rw [rounds_succ]
  go_wp2_with fail
  refine N0.out.mono ?_
  rintro e w1 ⟨rfl, rfl⟩
  clear N0
  cases r0 with
  | false =>
    go_wp2
    go_ret
    exact ⟨⟨0, rfl, by simp⟩, rfl⟩
  | true =>
  go_wp2
  rw [rounds_succ]
  go_wp2_with fail
  refine N1.out.mono ?_
  rintro e w1 ⟨rfl, rfl⟩
  clear N1
  cases r1 with
  | false =>
    go_wp2
    go_ret
    exact ⟨⟨1, rfl, by simp⟩, rfl⟩
  | true =>
  go_wp2
  rw [rounds_succ]
  go_wp2_with fail
  refine N2.out.mono ?_
  rintro e w1 ⟨rfl, rfl⟩
  clear N2
  cases r2 with
  | false =>
    go_wp2
    go_ret
    exact ⟨⟨2, rfl, by simp⟩, rfl⟩
  | true =>
  go_wp2
  rw [rounds_succ]
  go_wp2_with fail
  refine N3.out.mono ?_
  rintro e w1 ⟨rfl, rfl⟩
  clear N3
  cases r3 with
  | false =>
    go_wp2
    go_ret
    exact ⟨⟨3, rfl, by simp⟩, rfl⟩
  | true =>
  go_wp2
  rw [rounds_succ]
  go_wp2
  go_ret
  exact ⟨⟨-1, rfl, by simp⟩, rfl⟩

set_option maxHeartbeats 1000000 in
theorem all_any (Bb Bc Bs : Nat) (r0 r1 r2 r3 : Bool) (w : World) (s0 : w.cell? ⟨Bs, 0, none⟩ = some (.func (.func 136) #[] #[.pointer (some ⟨Bb, 0, none⟩), .pointer (some ⟨Bc, 0, none⟩)])) (s1 : w.cell? ⟨Bs, 1, none⟩ = some (.func (.func 137) #[] #[.pointer (some ⟨Bb, 0, none⟩), .pointer (some ⟨Bc, 0, none⟩)])) (s2 : w.cell? ⟨Bs, 2, none⟩ = some (.func (.func 138) #[] #[.pointer (some ⟨Bb, 0, none⟩)])) (s3 : w.cell? ⟨Bs, 3, none⟩ = some (.func (.func 139) #[] #[.pointer (some ⟨Bb, 0, none⟩)]))
    (n0 : Calls Try.prog 159 #[.func (.func 136) #[] #[.pointer (some ⟨Bb, 0, none⟩), .pointer (some ⟨Bc, 0, none⟩)]] w fun e w' => e = .returned (.bool (!r0)) ∧ w = w') (n1 : Calls Try.prog 159 #[.func (.func 137) #[] #[.pointer (some ⟨Bb, 0, none⟩), .pointer (some ⟨Bc, 0, none⟩)]] w fun e w' => e = .returned (.bool (!r1)) ∧ w = w') (n2 : Calls Try.prog 159 #[.func (.func 138) #[] #[.pointer (some ⟨Bb, 0, none⟩)]] w fun e w' => e = .returned (.bool (!r2)) ∧ w = w') (n3 : Calls Try.prog 159 #[.func (.func 139) #[] #[.pointer (some ⟨Bb, 0, none⟩)]] w fun e w' => e = .returned (.bool (!r3)) ∧ w = w') :
    Calls Try.prog 135 #[.slice (some ⟨Bs, 0, none⟩) 4 4] w fun e w' => e = .returned (.bool (r0 && r1 && r2 && r3)) ∧ w = w' := by
  have HI := Lib.hid (idxfn_any Bb Bc Bs r0 r1 r2 r3 w s0 s1 s2 s3 n0 n1 n2 n3)
  clear s0 s1 s2 s3 n0 n1 n2 n3
  go_enter Try.func135, Try.ntmps135
  go_wp2_with fail
  have HC : Calls Try.prog 158 #[.slice (some ⟨Bs, 0, none⟩) 4 4, .func (.func 159) #[] #[]] w fun e w' => e = .returned (.bool (!(r0 && r1 && r2 && r3))) ∧ w = w' := by
    go_enter Try.func158, Try.ntmps158
    go_wp2_with fail
    refine HI.out.mono ?_
    rintro e w1 ⟨⟨k, rfl, hk⟩, rfl⟩
    have Hk := Lib.hid hk
    clear hk HI
    go_wp2
    go_ret
    exact ⟨ret_bool Hk.out, rfl⟩
  refine HC.mono ?_
  rintro e w1 ⟨rfl, rfl⟩
  obtain ⟨R, hR⟩ : ∃ R, R = (r0 && r1 && r2 && r3) := ⟨_, rfl⟩
  have HR := Lib.hid hR
  rw [← hR]
  clear hR HC HI
  go_wp2
  go_ret
  exact ⟨ret_bool HR.out, rfl⟩

end Go.Proofs.Ytilhmlapbifbbaa
