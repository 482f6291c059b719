/- Walks: the comparison of corners, and the library's Or of two. -/
import Derived.Test.YtndjljefppbmcaaClpG
import Derived.Test.YtndjljefppbmcaaClpR
import Derived.Test.YtndjljefppbmcaaCelS
namespace Go.Proofs.Ytndjljefppbmcaa
open Go.RowKit Go.Sort

set_option maxHeartbeats 1000000 in
theorem or2_any (u v : Int) (b : Nat) (W : World) (h0 : W.cell? ⟨b, 0, none⟩ = some (.int .i64 u)) (h1 : W.cell? ⟨b, 1, none⟩ = some (.int .i64 v)) :
    Calls Try.prog 56 #[.slice (some ⟨b, 0, none⟩) 2 2] W fun e w' => e = .returned (.int .i64 (orD u v)) ∧ w' = W := by
  obtain ⟨r, hr⟩ : ∃ r, Hid (r = orD u v) := ⟨_, rfl⟩
  rw [← hr.out]
  by_cases hu : u = 0
  · have hu' : (u != 0) = false := by simpa using hu
    by_cases hv : v = 0
    · have hv' : (v != 0) = false := by simpa using hv
      have HR : Hid (r = 0) := by show _ = _; rw [hr.out]; simp [orD, hu, hv]
      clear hr
      subst hu hv
      go_enter Try.func56, Try.ntmps56
      go_wp2
      refine wp_loop_rounds 3 ?_
      rw [rounds_succ]
      go_wp2
      rw [rounds_succ]
      go_wp2
      rw [rounds_succ]
      go_wp2
      go_ret
      exact ⟨ret_int HR.out.symm, rfl⟩
    · have hv' : (v != 0) = true := by simpa using hv
      have HR : Hid (r = v) := by show _ = _; rw [hr.out]; simp [orD, hu]
      clear hr
      subst hu
      go_enter Try.func56, Try.ntmps56
      go_wp2
      refine wp_loop_rounds 3 ?_
      rw [rounds_succ]
      go_wp2
      rw [rounds_succ]
      go_wp2
      go_ret
      exact ⟨ret_int HR.out.symm, rfl⟩
  · have hu' : (u != 0) = true := by simpa using hu
    have HR : Hid (r = u) := by show _ = _; rw [hr.out]; simp [orD, hu]
    clear hr
    go_enter Try.func56, Try.ntmps56
    go_wp2
    refine wp_loop_rounds 3 ?_
    rw [rounds_succ]
    go_wp2
    go_ret
    exact ⟨ret_int HR.out.symm, rfl⟩

set_option maxRecDepth 100000 in
set_option maxHeartbeats 8000000 in
/-- The comparison of corners. -/
theorem cmpcr_any (c d : Cr) (W : World) (hc : CrSmall c) (hd : CrSmall d) :
    Calls Try.prog 90 #[crA c, crA d] W fun e w' => e = .returned (.int .i64 (cmpCr c d)) ∧ ∃ q os', w' = grow (W.drewN q) os' := by
  obtain ⟨c1, c2, c3, c4, c5, c6⟩ := hc
  obtain ⟨d1, d2, d3, d4, d5, d6⟩ := hd
  have wm : ∀ a b : Int, (-12000000 ≤ a ∧ a ≤ 12000000) → (0 < b ∧ b ≤ 70000) → IntKind.i64.wrap (a * b) = a * b := by
    intro a b ha hb
    have := mulB (x := a) (y := b) (K := 12000000) (L := 70000) ha (by omega)
    rw [IntKind.wrap_i64]
    omega
  have m1 := wm c.x d.d ⟨c1, c2⟩ ⟨d5, d6⟩
  have m2 := wm d.x c.d ⟨d1, d2⟩ ⟨c5, c6⟩
  have m3 := wm c.z d.d ⟨c3, c4⟩ ⟨d5, d6⟩
  have m4 := wm d.z c.d ⟨d3, d4⟩ ⟨c5, c6⟩
  have CX := Lib.hid (fun W' => show Calls Try.prog 47 _ _ _ from AnyG.cmp_Compare_int Try.lCmpInt (c.x * d.d) (d.x * c.d) W')
  have CZ := Lib.hid (fun W' => show Calls Try.prog 47 _ _ _ from AnyG.cmp_Compare_int Try.lCmpInt (c.z * d.d) (d.z * c.d) W')
  obtain ⟨r, hr⟩ : ∃ r, Hid (r = cmpCr c d) := ⟨_, rfl⟩
  rw [← hr.out]
  have HR : Hid (r = orD (Lib.compareInt (c.x * d.d) (d.x * c.d)) (Lib.compareInt (c.z * d.d) (d.z * c.d))) := hr.out
  clear hr
  generalize Lib.compareInt (c.x * d.d) (d.x * c.d) = U at CX HR
  generalize Lib.compareInt (c.z * d.d) (d.z * c.d) = V at CZ HR
  have OR := Lib.hid (fun b W h0 h1 => or2_any U V b W h0 h1)
  obtain ⟨cx, cz, cy, cd⟩ := c
  obtain ⟨dx, dz, dy, dd⟩ := d
  simp only at CX CZ m1 m2 m3 m4
  clear c1 c2 c3 c4 c5 c6 d1 d2 d3 d4 d5 d6 wm
  unfold crA
  go_enter Try.func90, Try.ntmps90
  go_wp2_with fail
  go_region_held3 (fun WW => WW.cell? ⟨W.heap.size, 0, none⟩ = some (.int .i64 cx) ∧ WW.cell? ⟨W.heap.size, 1, none⟩ = some (.int .i64 cz) ∧ WW.cell? ⟨W.heap.size, 3, none⟩ = some (.int .i64 cd) ∧ WW.cell? ⟨W.heap.size + 1, 0, none⟩ = some (.int .i64 dx) ∧ WW.cell? ⟨W.heap.size + 1, 1, none⟩ = some (.int .i64 dz) ∧ WW.cell? ⟨W.heap.size + 1, 3, none⟩ = some (.int .i64 dd))
    (first
      | (go_simp; done)
      | fail)
    (first
      | (go_at_call 47; with_reducible refine (CX.out _).mono ?_; rintro e wz ⟨rfl, rfl⟩)
      | (go_at_call 47; with_reducible refine (CZ.out _).mono ?_; rintro e wz ⟨rfl, rfl⟩)
      | (go_at_call 56; refine (OR.out _ _ (by go_simp) (by go_simp)).mono ?_; rintro e wz ⟨rfl, rfl⟩)
      | fail)
  all_goals
    rename_i hH
    clear hH
    go_wp2
    go_ret
    refine ⟨ret_int HR.out.symm, ?_⟩
    exact ⟨1, _, by simp only [alloc_eq_grow, grow_grow]; rfl⟩

end Go.Proofs.Ytndjljefppbmcaa
