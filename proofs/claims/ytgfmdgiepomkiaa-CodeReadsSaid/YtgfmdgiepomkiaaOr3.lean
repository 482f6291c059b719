/- Walk: the library's Or at three integers; its guards in a drawn region. -/
import Derived.Test.YtgfmdgiepomkiaaKc
import Derived.Test.YtgfmdgiepomkiaaKa
import Derived.Test.YtgfmdgiepomkiaaGo
namespace Go.Proofs.Ytgfmdgiepomkiaa
open Go.RowKit Go.Sort

def or3S (u v t : Int) : Int := if u ≠ 0 then u else if v ≠ 0 then v else t
set_option maxHeartbeats 1000000 in
theorem or3_any (u v t : Int) (b : Nat) (W : World) (h0 : W.cell? ⟨b, 0, none⟩ = some (.int .i64 u)) (h1 : W.cell? ⟨b, 1, none⟩ = some (.int .i64 v)) (h2 : W.cell? ⟨b, 2, none⟩ = some (.int .i64 t)) :
    Calls Try.prog 52 #[.slice (some ⟨b, 0, none⟩) 3 3] W fun e w' => e = .returned (.int .i64 (or3S u v t)) ∧ w' = W := by
  obtain ⟨r, hr⟩ : ∃ r, Hid (r = or3S u v t) := ⟨_, rfl⟩
  rw [← hr.out]
  by_cases hu : u = 0
  · have hu' : (u != 0) = false := by simpa using hu
    by_cases hv : v = 0
    · have hv' : (v != 0) = false := by simpa using hv
      by_cases ht : t = 0
      · have ht' : (t != 0) = false := by simpa using ht
        have HR : Hid (r = 0) := by show _ = _; rw [hr.out]; simp [or3S, hu, hv, ht]
        clear hr
        subst hu hv ht
        go_enter Try.func52, Try.ntmps52
        go_wp2
        refine wp_loop_rounds 4 ?_
        rw [rounds_succ]
        go_wp2
        rw [rounds_succ]
        go_wp2
        rw [rounds_succ]
        go_wp2
        rw [rounds_succ]
        go_wp2
        go_ret
        exact ⟨ret_int HR.out.symm, rfl⟩
      · have ht' : (t != 0) = true := by simpa using ht
        have HR : Hid (r = t) := by show _ = _; rw [hr.out]; simp [or3S, hu, hv]
        clear hr
        subst hu hv
        go_enter Try.func52, Try.ntmps52
        go_wp2
        refine wp_loop_rounds 4 ?_
        rw [rounds_succ]
        go_wp2
        rw [rounds_succ]
        go_wp2
        rw [rounds_succ]
        go_wp2
        go_ret
        exact ⟨ret_int HR.out.symm, rfl⟩
    · have hv' : (v != 0) = true := by simpa using hv
      have HR : Hid (r = v) := by show _ = _; rw [hr.out]; simp [or3S, hu, hv]
      clear hr
      subst hu
      go_enter Try.func52, Try.ntmps52
      go_wp2
      refine wp_loop_rounds 4 ?_
      rw [rounds_succ]
      go_wp2
      rw [rounds_succ]
      go_wp2
      go_ret
      exact ⟨ret_int HR.out.symm, rfl⟩
  · have hu' : (u != 0) = true := by simpa using hu
    have HR : Hid (r = u) := by show _ = _; rw [hr.out]; simp [or3S, hu]
    clear hr
    go_enter Try.func52, Try.ntmps52
    go_wp2
    refine wp_loop_rounds 4 ?_
    rw [rounds_succ]
    go_wp2
    go_ret
    exact ⟨ret_int HR.out.symm, rfl⟩

theorem or3_lt {a b : Rc} : decide (0 ≤ or3S (Lib.compareInt a.z0 b.z0) (Lib.compareInt a.x0 b.x0) (Lib.compareInt (y0R a) (y0R b))) = !aheadR a b := by
  have c1 := @compareInt_lt a.z0 b.z0
  have c2 := @compareInt_lt a.x0 b.x0
  have c3 := @compareInt_lt (y0R a) (y0R b)
  have n1 := @compareInt_ne a.z0 b.z0
  have n2 := @compareInt_ne a.x0 b.x0
  have e1 := compareInt_eq a.z0
  have e2 := compareInt_eq a.x0
  unfold or3S aheadR
  rw [Bool.eq_iff_iff]
  simp only [decide_eq_true_eq, Bool.not_eq_true', decide_eq_false_iff_not]
  by_cases h1 : a.z0 = b.z0
  · rw [← h1, e1, if_neg (by simp)]
    by_cases h2 : a.x0 = b.x0
    · rw [← h2, e2, if_neg (by simp)]
      omega
    · have := n2 h2
      rw [if_pos this]
      omega
  · have := n1 h1
    rw [if_pos this]
    omega
section
variable {P : Program} {ops : Array Oper} {Q : Exit → Act → World → Prop}
theorem wpOp_skip {i : Nat} {o : Oper} {K : Act → World → Prop} {a : Act} {w : World} (ho : ops[i]? = some o) (hw : Region.wanted o (yielded ops a.tmps) = false) (h : K (a.put o.dst undef) w) : wpOp P ops Q i K a w := by
  unfold wpOp
  rw [ho]
  simp only [hw]
  exact h
theorem wpOp_want {i : Nat} {o : Oper} {K : Act → World → Prop} {a : Act} {w : World} (ho : ops[i]? = some o) (hw : Region.wanted o (yielded ops a.tmps) = true) (h : o.wp P a w K Q) : wpOp P ops Q i K a w := by
  unfold wpOp
  rw [ho]
  simp only [hw, if_true]
  exact .inl h
end
end Go.Proofs.Ytgfmdgiepomkiaa
