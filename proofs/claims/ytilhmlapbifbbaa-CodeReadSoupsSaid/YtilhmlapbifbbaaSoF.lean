/- Walks: the reference's boxes and hops that may be. -/
import Derived.Test.YtilhmlapbifbbaaSoH2
namespace Go.Proofs.Ytilhmlapbifbbaa
open Go.RowKit Go.Sort

set_option maxRecDepth 100000 in
set_option maxHeartbeats 4000000 in
theorem refmaybox_any (c : Cfg) (b : Bx) (w : World) :
    Calls Try.prog 115 #[cfgV c, .agg (bxC b).toArray] w fun e w' => e = .returned (.bool (bxOk c.w c.d b)) ∧ Below w.heap.size w w' := by
  have HH := Lib.hid (fun y (w' : World) => refheight_any y w')
  by_cases h0 : 0 ≤ b.x0
  rotate_left
  · have d0 : decide (0 ≤ b.x0) = false := decide_eq_false h0
    have H : Hid (bxOk c.w c.d b = false) := by show _ = _; unfold bxOk; simp [h0]
    clear h0
    unfold bxC cfgV
    go_enter Try.func115, Try.ntmps115
    go_wp2
    go_ret
    exact ⟨ret_bool H.out.symm, (by (repeat (first | exact Below.refl _ _ | refine Below.alloc ?_ (by simp; try omega) _)))⟩
  have d0 : decide (0 ≤ b.x0) = true := decide_eq_true h0
  by_cases h1 : b.x0 ≤ b.x1
  rotate_left
  · have d1 : decide (b.x0 ≤ b.x1) = false := decide_eq_false h1
    have H : Hid (bxOk c.w c.d b = false) := by show _ = _; unfold bxOk; simp [h0, h1]
    clear h0 h1
    unfold bxC cfgV
    go_enter Try.func115, Try.ntmps115
    go_wp2
    go_ret
    exact ⟨ret_bool H.out.symm, (by (repeat (first | exact Below.refl _ _ | refine Below.alloc ?_ (by simp; try omega) _)))⟩
  have d1 : decide (b.x0 ≤ b.x1) = true := decide_eq_true h1
  by_cases h2 : b.x1 < c.w
  rotate_left
  · have d2 : decide (b.x1 < c.w) = false := decide_eq_false h2
    have H : Hid (bxOk c.w c.d b = false) := by show _ = _; unfold bxOk; simp [h0, h1, h2]
    clear h0 h1 h2
    unfold bxC cfgV
    go_enter Try.func115, Try.ntmps115
    go_wp2
    go_ret
    exact ⟨ret_bool H.out.symm, (by (repeat (first | exact Below.refl _ _ | refine Below.alloc ?_ (by simp; try omega) _)))⟩
  have d2 : decide (b.x1 < c.w) = true := decide_eq_true h2
  by_cases h3 : 0 ≤ b.z0
  rotate_left
  · have d3 : decide (0 ≤ b.z0) = false := decide_eq_false h3
    have H : Hid (bxOk c.w c.d b = false) := by show _ = _; unfold bxOk; simp [h0, h1, h2, h3]
    clear h0 h1 h2 h3
    unfold bxC cfgV
    go_enter Try.func115, Try.ntmps115
    go_wp2
    go_ret
    exact ⟨ret_bool H.out.symm, (by (repeat (first | exact Below.refl _ _ | refine Below.alloc ?_ (by simp; try omega) _)))⟩
  have d3 : decide (0 ≤ b.z0) = true := decide_eq_true h3
  by_cases h4 : b.z0 ≤ b.z1
  rotate_left
  · have d4 : decide (b.z0 ≤ b.z1) = false := decide_eq_false h4
    have H : Hid (bxOk c.w c.d b = false) := by show _ = _; unfold bxOk; simp [h0, h1, h2, h3, h4]
    clear h0 h1 h2 h3 h4
    unfold bxC cfgV
    go_enter Try.func115, Try.ntmps115
    go_wp2
    go_ret
    exact ⟨ret_bool H.out.symm, (by (repeat (first | exact Below.refl _ _ | refine Below.alloc ?_ (by simp; try omega) _)))⟩
  have d4 : decide (b.z0 ≤ b.z1) = true := decide_eq_true h4
  by_cases h5 : b.z1 < c.d
  rotate_left
  · have d5 : decide (b.z1 < c.d) = false := decide_eq_false h5
    have H : Hid (bxOk c.w c.d b = false) := by show _ = _; unfold bxOk; simp [h0, h1, h2, h3, h4, h5]
    clear h0 h1 h2 h3 h4 h5
    unfold bxC cfgV
    go_enter Try.func115, Try.ntmps115
    go_wp2
    go_ret
    exact ⟨ret_bool H.out.symm, (by (repeat (first | exact Below.refl _ _ | refine Below.alloc ?_ (by simp; try omega) _)))⟩
  have d5 : decide (b.z1 < c.d) = true := decide_eq_true h5
  obtain ⟨r6, h6⟩ : ∃ r, hgtOk b.y0 = r := ⟨_, rfl⟩
  have H6 := Lib.hid h6
  cases r6 with
  | false =>
    have H : Hid (bxOk c.w c.d b = false) := by show _ = _; unfold bxOk; simp [h0, h1, h2, h3, h4, h5, h6]
    clear h0 h1 h2 h3 h4 h5 h6
    unfold bxC cfgV
    go_enter Try.func115, Try.ntmps115
    go_wp2_with fail
    refine (HH.out _ _).mono ?_
    rw [H6.out]
    rintro e w9 ⟨rfl, rfl⟩
    go_wp2
    go_ret
    exact ⟨ret_bool H.out.symm, (by (repeat (first | exact Below.refl _ _ | refine Below.alloc ?_ (by simp; try omega) _)))⟩
  | true =>
  by_cases h7 : b.y0 ≤ b.y1
  rotate_left
  · have d7 : decide (b.y0 ≤ b.y1) = false := decide_eq_false h7
    have H : Hid (bxOk c.w c.d b = false) := by show _ = _; unfold bxOk; simp [h0, h1, h2, h3, h4, h5, h6, h7]
    clear h0 h1 h2 h3 h4 h5 h6 h7
    unfold bxC cfgV
    go_enter Try.func115, Try.ntmps115
    go_wp2_with fail
    refine (HH.out _ _).mono ?_
    rw [H6.out]
    rintro e w9 ⟨rfl, rfl⟩
    go_wp2
    go_ret
    exact ⟨ret_bool H.out.symm, (by (repeat (first | exact Below.refl _ _ | refine Below.alloc ?_ (by simp; try omega) _)))⟩
  have d7 : decide (b.y0 ≤ b.y1) = true := decide_eq_true h7
  obtain ⟨r8, h8⟩ : ∃ r, hgtOk b.y1 = r := ⟨_, rfl⟩
  have H8 := Lib.hid h8
  cases r8 with
  | false =>
    have H : Hid (bxOk c.w c.d b = false) := by show _ = _; unfold bxOk; simp [h0, h1, h2, h3, h4, h5, h6, h7, h8]
    clear h0 h1 h2 h3 h4 h5 h6 h7 h8
    unfold bxC cfgV
    go_enter Try.func115, Try.ntmps115
    go_wp2_with fail
    refine (HH.out _ _).mono ?_
    rw [H6.out]
    rintro e w9 ⟨rfl, rfl⟩
    go_wp2_with fail
    refine (HH.out _ _).mono ?_
    rw [H8.out]
    rintro e w9 ⟨rfl, rfl⟩
    go_wp2
    go_ret
    exact ⟨ret_bool H.out.symm, (by (repeat (first | exact Below.refl _ _ | refine Below.alloc ?_ (by simp; try omega) _)))⟩
  | true =>
  by_cases h9 : 0 ≤ b.area
  rotate_left
  · have d9 : decide (0 ≤ b.area) = false := decide_eq_false h9
    have H : Hid (bxOk c.w c.d b = false) := by show _ = _; unfold bxOk; simp [h0, h1, h2, h3, h4, h5, h6, h7, h8, h9]
    clear h0 h1 h2 h3 h4 h5 h6 h7 h8 h9
    unfold bxC cfgV
    go_enter Try.func115, Try.ntmps115
    go_wp2_with fail
    refine (HH.out _ _).mono ?_
    rw [H6.out]
    rintro e w9 ⟨rfl, rfl⟩
    go_wp2_with fail
    refine (HH.out _ _).mono ?_
    rw [H8.out]
    rintro e w9 ⟨rfl, rfl⟩
    go_wp2
    go_ret
    exact ⟨ret_bool H.out.symm, (by (repeat (first | exact Below.refl _ _ | refine Below.alloc ?_ (by simp; try omega) _)))⟩
  have d9 : decide (0 ≤ b.area) = true := decide_eq_true h9
  have H : Hid (bxOk c.w c.d b = (decide (b.area ≤ 7))) := by show _ = _; unfold bxOk; simp [h0, h1, h2, h3, h4, h5, h6, h7, h8, h9]
  clear h0 h1 h2 h3 h4 h5 h6 h7 h8 h9
  unfold bxC cfgV
  go_enter Try.func115, Try.ntmps115
  go_wp2_with fail
  refine (HH.out _ _).mono ?_
  rw [H6.out]
  rintro e w9 ⟨rfl, rfl⟩
  go_wp2_with fail
  refine (HH.out _ _).mono ?_
  rw [H8.out]
  rintro e w9 ⟨rfl, rfl⟩
  go_wp2
  go_ret
  exact ⟨ret_bool H.out.symm, (by (repeat (first | exact Below.refl _ _ | refine Below.alloc ?_ (by simp; try omega) _)))⟩

set_option maxRecDepth 100000 in
set_option maxHeartbeats 2000000 in
theorem refspot_any (c : Cfg) (s : Spt) (w : World) :
    Calls Try.prog 147 #[cfgV c, .agg (sptL s).toArray] w fun e w' => e = .returned (.bool (sptOk c.w c.d s)) ∧ w' = (w.alloc (.cells #[.int .i64 c.clear, .int .i64 c.climb, .int .i64 c.height, .int .i64 c.rise, .int .i64 c.run, .int .i64 c.w, .int .i64 c.d] 32)).alloc (.cells (sptL s).toArray 116) := by
  have HH := Lib.hid (fun y (w' : World) => refheight_any y w')
  by_cases h0 : 0 ≤ s.x
  rotate_left
  · have d0 : decide (0 ≤ s.x) = false := decide_eq_false h0
    have H : Hid (sptOk c.w c.d s = false) := by show _ = _; unfold sptOk; simp [h0]
    clear h0
    unfold sptL cfgV
    go_enter Try.func147, Try.ntmps147
    go_wp2
    go_ret
    exact ⟨ret_bool H.out.symm, rfl⟩
  have d0 : decide (0 ≤ s.x) = true := decide_eq_true h0
  by_cases h1 : s.x < c.w
  rotate_left
  · have d1 : decide (s.x < c.w) = false := decide_eq_false h1
    have H : Hid (sptOk c.w c.d s = false) := by show _ = _; unfold sptOk; simp [h0, h1]
    clear h0 h1
    unfold sptL cfgV
    go_enter Try.func147, Try.ntmps147
    go_wp2
    go_ret
    exact ⟨ret_bool H.out.symm, rfl⟩
  have d1 : decide (s.x < c.w) = true := decide_eq_true h1
  by_cases h2 : 0 ≤ s.z
  rotate_left
  · have d2 : decide (0 ≤ s.z) = false := decide_eq_false h2
    have H : Hid (sptOk c.w c.d s = false) := by show _ = _; unfold sptOk; simp [h0, h1, h2]
    clear h0 h1 h2
    unfold sptL cfgV
    go_enter Try.func147, Try.ntmps147
    go_wp2
    go_ret
    exact ⟨ret_bool H.out.symm, rfl⟩
  have d2 : decide (0 ≤ s.z) = true := decide_eq_true h2
  by_cases h3 : s.z < c.d
  rotate_left
  · have d3 : decide (s.z < c.d) = false := decide_eq_false h3
    have H : Hid (sptOk c.w c.d s = false) := by show _ = _; unfold sptOk; simp [h0, h1, h2, h3]
    clear h0 h1 h2 h3
    unfold sptL cfgV
    go_enter Try.func147, Try.ntmps147
    go_wp2
    go_ret
    exact ⟨ret_bool H.out.symm, rfl⟩
  have d3 : decide (s.z < c.d) = true := decide_eq_true h3
  have H : Hid (sptOk c.w c.d s = (hgtOk s.y)) := by show _ = _; unfold sptOk; simp [h0, h1, h2, h3]
  obtain ⟨r4, h4⟩ : ∃ r, hgtOk s.y = r := ⟨_, rfl⟩
  have H4 := Lib.hid h4
  clear h0 h1 h2 h3 h4
  unfold sptL cfgV
  go_enter Try.func147, Try.ntmps147
  go_wp2_with fail
  refine (HH.out _ _).mono ?_
  rw [H4.out]
  rintro e w9 ⟨rfl, rfl⟩
  go_wp2
  go_ret
  exact ⟨ret_bool (by rw [H.out, H4.out]), rfl⟩

set_option maxRecDepth 100000 in
set_option maxHeartbeats 4000000 in
theorem refmayhop_any (c : Cfg) (h : Hp) (w : World) :
    Calls Try.prog 116 #[cfgV c, .agg (hpC h).toArray] w fun e w' => e = .returned (.bool (hpOk c.w c.d h)) ∧ Below w.heap.size w w' := by
  have Sa := Lib.hid (fun w' : World => refspot_any c h.a w')
  have Sb := Lib.hid (fun w' : World => refspot_any c h.b w')
  obtain ⟨r0, h0⟩ : ∃ r, sptOk c.w c.d h.a = r := ⟨_, rfl⟩
  have H0 := Lib.hid h0
  cases r0 with
  | false =>
    have H : Hid (hpOk c.w c.d h = false) := by show _ = _; unfold hpOk; simp [h0]
    clear h0
    unfold hpC cfgV
    go_enter Try.func116, Try.ntmps116
    go_wp2_with fail
    refine (Sa.out _).mono ?_
    rw [H0.out]
    rintro e w9 ⟨rfl, rfl⟩
    go_wp2
    go_ret
    exact ⟨ret_bool H.out.symm, (by (repeat (first | exact Below.refl _ _ | refine Below.alloc ?_ (by simp; try omega) _)))⟩
  | true =>
  obtain ⟨r1, h1⟩ : ∃ r, sptOk c.w c.d h.b = r := ⟨_, rfl⟩
  have H1 := Lib.hid h1
  cases r1 with
  | false =>
    have H : Hid (hpOk c.w c.d h = false) := by show _ = _; unfold hpOk; simp [h0, h1]
    clear h0 h1
    unfold hpC cfgV
    go_enter Try.func116, Try.ntmps116
    go_wp2_with fail
    refine (Sa.out _).mono ?_
    rw [H0.out]
    rintro e w9 ⟨rfl, rfl⟩
    go_wp2_with fail
    refine (Sb.out _).mono ?_
    rw [H1.out]
    rintro e w9 ⟨rfl, rfl⟩
    go_wp2
    go_ret
    exact ⟨ret_bool H.out.symm, (by (repeat (first | exact Below.refl _ _ | refine Below.alloc ?_ (by simp; try omega) _)))⟩
  | true =>
  by_cases h2 : 1 ≤ h.area
  rotate_left
  · have d2 : decide (1 ≤ h.area) = false := decide_eq_false h2
    have H : Hid (hpOk c.w c.d h = false) := by show _ = _; unfold hpOk; simp [h0, h1, h2]
    clear h0 h1 h2
    unfold hpC cfgV
    go_enter Try.func116, Try.ntmps116
    go_wp2_with fail
    refine (Sa.out _).mono ?_
    rw [H0.out]
    rintro e w9 ⟨rfl, rfl⟩
    go_wp2_with fail
    refine (Sb.out _).mono ?_
    rw [H1.out]
    rintro e w9 ⟨rfl, rfl⟩
    go_wp2
    go_ret
    exact ⟨ret_bool H.out.symm, (by (repeat (first | exact Below.refl _ _ | refine Below.alloc ?_ (by simp; try omega) _)))⟩
  have d2 : decide (1 ≤ h.area) = true := decide_eq_true h2
  by_cases h3 : h.area ≤ 7
  rotate_left
  · have d3 : decide (h.area ≤ 7) = false := decide_eq_false h3
    have H : Hid (hpOk c.w c.d h = false) := by show _ = _; unfold hpOk; simp [h0, h1, h2, h3]
    clear h0 h1 h2 h3
    unfold hpC cfgV
    go_enter Try.func116, Try.ntmps116
    go_wp2_with fail
    refine (Sa.out _).mono ?_
    rw [H0.out]
    rintro e w9 ⟨rfl, rfl⟩
    go_wp2_with fail
    refine (Sb.out _).mono ?_
    rw [H1.out]
    rintro e w9 ⟨rfl, rfl⟩
    go_wp2
    go_ret
    exact ⟨ret_bool H.out.symm, (by (repeat (first | exact Below.refl _ _ | refine Below.alloc ?_ (by simp; try omega) _)))⟩
  have d3 : decide (h.area ≤ 7) = true := decide_eq_true h3
  by_cases h4 : 0 ≤ h.cost
  rotate_left
  · have d4 : decide (0 ≤ h.cost) = false := decide_eq_false h4
    have H : Hid (hpOk c.w c.d h = false) := by show _ = _; unfold hpOk; simp [h0, h1, h2, h3, h4]
    clear h0 h1 h2 h3 h4
    unfold hpC cfgV
    go_enter Try.func116, Try.ntmps116
    go_wp2_with fail
    refine (Sa.out _).mono ?_
    rw [H0.out]
    rintro e w9 ⟨rfl, rfl⟩
    go_wp2_with fail
    refine (Sb.out _).mono ?_
    rw [H1.out]
    rintro e w9 ⟨rfl, rfl⟩
    go_wp2
    go_ret
    exact ⟨ret_bool H.out.symm, (by (repeat (first | exact Below.refl _ _ | refine Below.alloc ?_ (by simp; try omega) _)))⟩
  have d4 : decide (0 ≤ h.cost) = true := decide_eq_true h4
  have H : Hid (hpOk c.w c.d h = (decide (h.cost ≤ 1048576))) := by show _ = _; unfold hpOk; simp [h0, h1, h2, h3, h4]
  clear h0 h1 h2 h3 h4
  unfold hpC cfgV
  go_enter Try.func116, Try.ntmps116
  go_wp2_with fail
  refine (Sa.out _).mono ?_
  rw [H0.out]
  rintro e w9 ⟨rfl, rfl⟩
  go_wp2_with fail
  refine (Sb.out _).mono ?_
  rw [H1.out]
  rintro e w9 ⟨rfl, rfl⟩
  go_wp2
  go_ret
  exact ⟨ret_bool H.out.symm, (by (repeat (first | exact Below.refl _ _ | refine Below.alloc ?_ (by simp; try omega) _)))⟩

end Go.Proofs.Ytilhmlapbifbbaa
