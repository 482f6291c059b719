/- Walks: the comparison of columns, and the library's Or. -/
import Derived.Test.YtndjljefppbmcaaCelM
import Derived.Test.YtndjljefppbmcaaCelQ
namespace Go.Proofs.Ytndjljefppbmcaa
open Go.RowKit Go.Sort

set_option maxHeartbeats 1000000 in
theorem or_any (u v t : Int) (b : Nat) (W : World) (h0 : W.cell? ⟨b, 0, none⟩ = some (.int .i64 u)) (h1 : W.cell? ⟨b, 1, none⟩ = some (.int .i64 v)) (h2 : W.cell? ⟨b, 2, none⟩ = some (.int .i64 t)) :
    Calls Try.prog 56 #[.slice (some ⟨b, 0, none⟩) 3 3] W fun e w' => e = .returned (.int .i64 (orS u v t)) ∧ w' = W := by
  obtain ⟨r, hr⟩ : ∃ r, Hid (r = orS u v t) := ⟨_, rfl⟩
  rw [← hr.out]
  by_cases hu : u = 0
  · have hu' : (u != 0) = false := by simpa using hu
    by_cases hv : v = 0
    · have hv' : (v != 0) = false := by simpa using hv
      by_cases ht : t = 0
      · have ht' : (t != 0) = false := by simpa using ht
        have HR : Hid (r = 0) := by show _ = _; rw [hr.out]; simp [orS, hu, hv, ht]
        clear hr
        subst hu hv ht
        go_enter Try.func56, Try.ntmps56
        go_wp2
        refine wp_loop_rounds 4 ?_
        rw [rounds_succ]
        go_wp2
        rw [rounds_succ]
        go_wp2
        rw [rounds_succ]
        go_wp2
        rw [rounds_succ]
        go_wp2
        go_ret
        exact ⟨ret_int HR.out.symm, rfl⟩
      · have ht' : (t != 0) = true := by simpa using ht
        have HR : Hid (r = t) := by show _ = _; rw [hr.out]; simp [orS, hu, hv]
        clear hr
        subst hu hv
        go_enter Try.func56, Try.ntmps56
        go_wp2
        refine wp_loop_rounds 4 ?_
        rw [rounds_succ]
        go_wp2
        rw [rounds_succ]
        go_wp2
        rw [rounds_succ]
        go_wp2
        go_ret
        exact ⟨ret_int HR.out.symm, rfl⟩
    · have hv' : (v != 0) = true := by simpa using hv
      have HR : Hid (r = v) := by show _ = _; rw [hr.out]; simp [orS, hu, hv]
      clear hr
      subst hu
      go_enter Try.func56, Try.ntmps56
      go_wp2
      refine wp_loop_rounds 4 ?_
      rw [rounds_succ]
      go_wp2
      rw [rounds_succ]
      go_wp2
      go_ret
      exact ⟨ret_int HR.out.symm, rfl⟩
  · have hu' : (u != 0) = true := by simpa using hu
    have HR : Hid (r = u) := by show _ = _; rw [hr.out]; simp [orS, hu]
    clear hr
    go_enter Try.func56, Try.ntmps56
    go_wp2
    refine wp_loop_rounds 4 ?_
    rw [rounds_succ]
    go_wp2
    go_ret
    exact ⟨ret_int HR.out.symm, rfl⟩

set_option maxHeartbeats 1000000 in
theorem compare_lays (p q : Rt) (w : World) (hp : RtSmall 1073741824 p) (hq : RtSmall 1073741824 q) :
    Calls Try.prog 57 #[rtA p, rtA q] w fun e w' => e = .returned (.int .i64 (cmpR p q)) ∧ w' = (w.alloc (.cells #[.int .i64 p.n, .int .i64 p.d] 41)).alloc (.cells #[.int .i64 q.n, .int .i64 q.d] 41) := by
  have h1 := mul_bound (x := p.n) (y := q.d) (K := 1073741824) (by omega) ⟨hp.1, hp.2.1⟩ ⟨by have := hq.2.2.1; omega, hq.2.2.2⟩
  have h2 := mul_bound (x := q.n) (y := p.d) (K := 1073741824) (by omega) ⟨hq.1, hq.2.1⟩ ⟨by have := hp.2.2.1; omega, hp.2.2.2⟩
  have hcon := fun W' => AnyG.cmp_Compare_int Try.lCmpInt (p.n * q.d) (q.n * p.d) W'
  change ∀ W', Calls Try.prog 47 _ _ _ at hcon
  obtain ⟨r, hr⟩ : ∃ r, Hid (r = cmpR p q) := ⟨_, rfl⟩
  rw [← hr.out]
  have HC := Lib.hid hcon
  clear hcon hp hq
  obtain ⟨pn, pd⟩ := p
  obtain ⟨qn, qd⟩ := q
  simp only at h1 h2 HC
  go_enter Try.func57, Try.ntmps57
  go_wp2_with fail
  refine (HC.out _).mono ?_
  rintro e w1 ⟨rfl, rfl⟩
  go_wp2
  go_ret
  exact ⟨ret_int hr.out.symm, rfl⟩

set_option maxRecDepth 100000 in
set_option maxHeartbeats 8000000 in
/-- The comparison of columns. -/
theorem cmpcel_any (c d : Cel) (W : World) (hc : RtSmall 1000 c.p) (hd : RtSmall 1000 d.p) :
    Calls Try.prog 55 #[ceA c, ceA d] W fun e w' => e = .returned (.int .i64 (cmpC c d)) ∧ ∃ q os', w' = grow (W.drewN q) os' := by
  have CP := Lib.hid (fun W => compare_lays c.p d.p W hc.big hd.big)
  have CZ := Lib.hid (fun W' => show Calls Try.prog 47 _ _ _ from AnyG.cmp_Compare_int Try.lCmpInt c.z d.z W')
  have CX := Lib.hid (fun W' => show Calls Try.prog 47 _ _ _ from AnyG.cmp_Compare_int Try.lCmpInt c.x d.x W')
  obtain ⟨r, hr⟩ : ∃ r, Hid (r = cmpC c d) := ⟨_, rfl⟩
  rw [← hr.out]
  have HR : Hid (r = orS (cmpR c.p d.p) (Lib.compareInt c.z d.z) (Lib.compareInt c.x d.x)) := hr.out
  clear hr
  generalize cmpR c.p d.p = U at CP HR
  generalize Lib.compareInt c.z d.z = V at CZ HR
  generalize Lib.compareInt c.x d.x = T at CX HR
  have OR := Lib.hid (fun b W h0 h1 h2 => or_any U V T b W h0 h1 h2)
  obtain ⟨cx, cz, ⟨cn, cd⟩, cq⟩ := c
  obtain ⟨dx, dz, ⟨dn, dd⟩, dq⟩ := d
  simp only at CP CZ CX
  clear hc hd
  go_enter Try.func55, Try.ntmps55
  go_wp2_with fail
  go_region_held3 (fun WW => WW.cell? ⟨W.heap.size, 0, none⟩ = some (.int .i64 cx) ∧ WW.cell? ⟨W.heap.size, 1, none⟩ = some (.int .i64 cz) ∧ WW.cell? ⟨W.heap.size, 2, none⟩ = some (.int .i64 cn) ∧ WW.cell? ⟨W.heap.size, 3, none⟩ = some (.int .i64 cd) ∧ WW.cell? ⟨W.heap.size + 1, 0, none⟩ = some (.int .i64 dx) ∧ WW.cell? ⟨W.heap.size + 1, 1, none⟩ = some (.int .i64 dz) ∧ WW.cell? ⟨W.heap.size + 1, 2, none⟩ = some (.int .i64 dn) ∧ WW.cell? ⟨W.heap.size + 1, 3, none⟩ = some (.int .i64 dd))
    (first
      | (go_simp; done)
      | fail)
    (first
      | (go_at_call 57; with_reducible refine (CP.out _).mono ?_; rintro e wz ⟨rfl, rfl⟩)
      | (go_at_call 47; with_reducible refine (CZ.out _).mono ?_; rintro e wz ⟨rfl, rfl⟩)
      | (go_at_call 47; with_reducible refine (CX.out _).mono ?_; rintro e wz ⟨rfl, rfl⟩)
      | (go_at_call 56; refine (OR.out _ _ (by go_simp) (by go_simp) (by go_simp)).mono ?_; rintro e wz ⟨rfl, rfl⟩)
      | fail)
  all_goals
    rename_i hH
    clear hH
    go_wp2
    go_ret
    refine ⟨ret_int HR.out.symm, ?_⟩
    exact ⟨1, _, by simp only [alloc_eq_grow, grow_grow]; rfl⟩

end Go.Proofs.Ytndjljefppbmcaa
