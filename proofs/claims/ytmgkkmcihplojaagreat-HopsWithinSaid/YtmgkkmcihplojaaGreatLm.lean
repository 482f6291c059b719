/- Walk: the library's Equal at two rows of doors. -/
import Derived.Test.YtmgkkmcihplojaaGreatSmD
import Derived.Test.YtmgkkmcihplojaaGreatKc
import Derived.Test.YtmgkkmcihplojaaGreatKa
import Derived.Test.YtmgkkmcihplojaaGreatGo
namespace Go.Proofs.YtmgkkmcihplojaaGreat
open Go.RowKit Go.Sort
attribute [local go_sem] Instr.index

theorem take_eq_step {α : Type} {xs ys : List α} {k : Nat} {x y : α} (hx : xs[k]? = some x) (hy : ys[k]? = some y) (h : xs.take k = ys.take k) (he : x = y) : xs.take (k + 1) = ys.take (k + 1) := by
  obtain ⟨h1, e1⟩ := List.getElem?_eq_some_iff.1 hx
  obtain ⟨h2, e2⟩ := List.getElem?_eq_some_iff.1 hy
  rw [List.take_succ_eq_append_getElem h1, List.take_succ_eq_append_getElem h2, h, e1, e2, he]
set_option maxHeartbeats 4000000 in
theorem deq_any (a b : Option Addr) (n c m d : Nat) (xs ys : List Dr) (w : World) (hx : SlR drC 6 w a n c xs) (hy : SlR drC 6 w b m d ys) :
    Calls Tryz.prog 46 #[.slice a n c, .slice b m d] w fun e w' => e = .returned (.bool (decide (xs = ys))) ∧ Below w.heap.size w w' := by
  have Hl := Lib.hid hx.len
  have Hm := Lib.hid hy.len
  have hmax := hx.max
  have hle := hx.le
  have Hx := Lib.hid hx; clear hx
  have Hy := Lib.hid hy; clear hy
  obtain ⟨R, hR⟩ : ∃ R, R = decide (xs = ys) := ⟨_, rfl⟩
  have HNe : Hid (∀ (k : Nat) (x y : Dr), xs[k]? = some x → ys[k]? = some y → x ≠ y → R = false) := fun k x y h1 h2 h3 => by rw [hR]; exact decide_eq_false (fun e => h3 (by rw [e, h2] at h1; exact (Option.some.inj h1).symm))
  have HLn : Hid (n ≠ m → R = false) := fun h => by rw [hR]; exact decide_eq_false (fun e => h (by rw [← Hl.out, ← Hm.out, e]))
  have HEq : Hid (n = m → xs.take n = ys.take n → R = true) := fun h h2 => by rw [hR]; exact decide_eq_true (by rw [List.take_of_length_le (Nat.le_of_eq Hl.out), List.take_of_length_le (Nat.le_of_eq (Hm.out.trans h.symm))] at h2; exact h2)
  rw [← hR]
  clear hR
  by_cases hnm : n = m
  case neg =>
    have hI : ¬ (n : Int) = (m : Int) := by omega
    have hF : Hid (R = false) := HLn.out hnm
    clear HNe HLn HEq Hl Hm Hx Hy hmax hle
    go_enter Tryz.func46, Tryz.ntmps46
    go_wp2
    go_ret
    exact ⟨by rw [hF.out]; rfl, Below.refl _ _⟩
  subst hnm
  go_enter Tryz.func46, Tryz.ntmps46
  go_wp2
  go_loopw [13] (fun i wr => ∃ k : Nat, i = .int .i64 k ∧ k ≤ n ∧ Hid (xs.take k = ys.take k) ∧ Below w.heap.size w wr) (fun i _ => n - (intOf i).toNat)
  case atStart => exact ⟨0, rfl, Nat.zero_le _, rfl, Below.refl _ _⟩
  case round =>
    obtain ⟨k, rfl, hk, HT, hb⟩ := hrel
    by_cases hlt : k < n
    · have h1 := Hx.out.below hb (Nat.le_refl _)
      have h2 := Hy.out.below hb (Nat.le_refl _)
      obtain ⟨b1, off1, rfl, hbl1, _⟩ := h1.at0 (by omega)
      obtain ⟨b2, off2, rfl, hbl2, _⟩ := h2.at0 (by omega)
      obtain ⟨x, hxk⟩ : ∃ x, xs[k]? = some x := ⟨_, List.getElem?_eq_getElem (by rw [Hl.out]; exact hlt)⟩
      obtain ⟨y, hyk⟩ : ∃ y, ys[k]? = some y := ⟨_, List.getElem?_eq_getElem (by rw [Hm.out]; exact hlt)⟩
      have p0 := SlDr.cells h1 hxk 0 _ rfl
      have p1 := SlDr.cells h1 hxk 1 _ rfl
      have p2 := SlDr.cells h1 hxk 2 _ rfl
      have p3 := SlDr.cells h1 hxk 3 _ rfl
      have p4 := SlDr.cells h1 hxk 4 _ rfl
      have p5 := SlDr.cells h1 hxk 5 _ rfl
      have q0 := SlDr.cells h2 hyk 0 _ rfl
      have q1 := SlDr.cells h2 hyk 1 _ rfl
      have q2 := SlDr.cells h2 hyk 2 _ rfl
      have q3 := SlDr.cells h2 hyk 3 _ rfl
      have q4 := SlDr.cells h2 hyk 4 _ rfl
      have q5 := SlDr.cells h2 hyk 5 _ rfl
      have HN2 : Hid (x ≠ y → R = false) := fun h => HNe.out k x y hxk hyk h
      have HT2 : Hid (x = y → xs.take (k + 1) = ys.take (k + 1)) := fun h => take_eq_step hxk hyk HT.out h
      clear h1 h2 hxk hyk
      simp only [Nat.add_zero] at p0 q0
      have eD := fun W => eqDr W x y
      obtain ⟨bq, hbq⟩ : ∃ b, b = decide (x = y) := ⟨_, rfl⟩
      rw [← hbq] at eD
      have HBQ := Lib.hid hbq
      clear hbq
      obtain ⟨xa, xb, xx0, xz0, xx1, xz1⟩ := x
      obtain ⟨ya, yb, yx0, yz0, yx1, yz1⟩ := y
      dsimp only at eD p0 p1 p2 p3 p4 p5 q0 q1 q2 q3 q4 q5
      go_wp2
      have e_p0 := fun d os => cell_regrown p0 d os
      have e_p1 := fun d os => cell_regrown p1 d os
      have e_p2 := fun d os => cell_regrown p2 d os
      have e_p3 := fun d os => cell_regrown p3 d os
      have e_p4 := fun d os => cell_regrown p4 d os
      have e_p5 := fun d os => cell_regrown p5 d os
      have e_q0 := fun d os => cell_regrown q0 d os
      have e_q1 := fun d os => cell_regrown q1 d os
      have e_q2 := fun d os => cell_regrown q2 d os
      have e_q3 := fun d os => cell_regrown q3 d os
      have e_q4 := fun d os => cell_regrown q4 d os
      have e_q5 := fun d os => cell_regrown q5 d os
      clear p0 p1 p2 p3 p4 p5 q0 q1 q2 q3 q4 q5
      cases bq with
      | true =>
        have hT2 : Hid (xs.take (k + 1) = ys.take (k + 1)) := HT2.out (of_decide_eq_true HBQ.out.symm)
        refine wp_region_quiet_below (by kernel_rfl) (by kernel_rfl) ?_
        repeat (go_big_quiet_step (fail))
        refine wpQuiet_nil ?_
        rintro w4 ⟨⟨dq, osq⟩, hw4⟩
        have hb4 : Below w.heap.size w w4 := by rw [hw4]; exact hb.trans ((below_regrown wr dq osq).mono hb.size)
        clear hw4 eD e_p0 e_p1 e_p2 e_p3 e_p4 e_p5 e_q0 e_q1 e_q2 e_q3 e_q4 e_q5
        go_wp2
        go_roundw
        case rel => exact ⟨k + 1, by go_num, by omega, hT2.out, hb4⟩
        case measure => simp [intOf]; omega
      | false =>
        have hF : Hid (R = false) := HN2.out (of_decide_eq_false HBQ.out.symm)
        refine wp_region_quiet_below (by kernel_rfl) (by kernel_rfl) ?_
        repeat (go_big_quiet_step (fail))
        refine wpQuiet_nil ?_
        rintro w4 ⟨⟨dq, osq⟩, hw4⟩
        have hb4 : Below w.heap.size w w4 := by rw [hw4]; exact hb.trans ((below_regrown wr dq osq).mono hb.size)
        clear hw4 eD e_p0 e_p1 e_p2 e_p3 e_p4 e_p5 e_q0 e_q1 e_q2 e_q3 e_q4 e_q5
        go_wp2
        go_ret
        exact ⟨by rw [hF.out]; rfl, hb4⟩
    · obtain rfl : k = n := by omega
      have hT : Hid (R = true) := HEq.out (by trivial) HT.out
      go_wp2
      go_ret
      exact ⟨by rw [hT.out]; rfl, hb⟩
end Go.Proofs.YtmgkkmcihplojaaGreat

namespace Go.Proofs.YtmgkkmcihplojaaGreat
open Go.RowKit Go.Sort

def or3S (u v t : Int) : Int := if u ≠ 0 then u else if v ≠ 0 then v else t
set_option maxHeartbeats 1000000 in
theorem or3_any (u v t : Int) (b : Nat) (W : World) (h0 : W.cell? ⟨b, 0, none⟩ = some (.int .i64 u)) (h1 : W.cell? ⟨b, 1, none⟩ = some (.int .i64 v)) (h2 : W.cell? ⟨b, 2, none⟩ = some (.int .i64 t)) :
    Calls Tryz.prog 42 #[.slice (some ⟨b, 0, none⟩) 3 3] W fun e w' => e = .returned (.int .i64 (or3S u v t)) ∧ w' = W := by
  obtain ⟨r, hr⟩ : ∃ r, Hid (r = or3S u v t) := ⟨_, rfl⟩
  rw [← hr.out]
  by_cases hu : u = 0
  · have hu' : (u != 0) = false := by simpa using hu
    by_cases hv : v = 0
    · have hv' : (v != 0) = false := by simpa using hv
      by_cases ht : t = 0
      · have ht' : (t != 0) = false := by simpa using ht
        have HR : Hid (r = 0) := by show _ = _; rw [hr.out]; simp [or3S, hu, hv, ht]
        clear hr
        subst hu hv ht
        go_enter Tryz.func42, Tryz.ntmps42
        go_wp2
        refine wp_loop_rounds 4 ?_
        rw [rounds_succ]
        go_wp2
        rw [rounds_succ]
        go_wp2
        rw [rounds_succ]
        go_wp2
        rw [rounds_succ]
        go_wp2
        go_ret
        exact ⟨ret_int HR.out.symm, rfl⟩
      · have ht' : (t != 0) = true := by simpa using ht
        have HR : Hid (r = t) := by show _ = _; rw [hr.out]; simp [or3S, hu, hv]
        clear hr
        subst hu hv
        go_enter Tryz.func42, Tryz.ntmps42
        go_wp2
        refine wp_loop_rounds 4 ?_
        rw [rounds_succ]
        go_wp2
        rw [rounds_succ]
        go_wp2
        rw [rounds_succ]
        go_wp2
        go_ret
        exact ⟨ret_int HR.out.symm, rfl⟩
    · have hv' : (v != 0) = true := by simpa using hv
      have HR : Hid (r = v) := by show _ = _; rw [hr.out]; simp [or3S, hu, hv]
      clear hr
      subst hu
      go_enter Tryz.func42, Tryz.ntmps42
      go_wp2
      refine wp_loop_rounds 4 ?_
      rw [rounds_succ]
      go_wp2
      rw [rounds_succ]
      go_wp2
      go_ret
      exact ⟨ret_int HR.out.symm, rfl⟩
  · have hu' : (u != 0) = true := by simpa using hu
    have HR : Hid (r = u) := by show _ = _; rw [hr.out]; simp [or3S, hu]
    clear hr
    go_enter Tryz.func42, Tryz.ntmps42
    go_wp2
    refine wp_loop_rounds 4 ?_
    rw [rounds_succ]
    go_wp2
    go_ret
    exact ⟨ret_int HR.out.symm, rfl⟩

theorem or3_lt {a b : Rc} : decide (0 ≤ or3S (Lib.compareInt a.z0 b.z0) (Lib.compareInt a.x0 b.x0) (Lib.compareInt (y0R a) (y0R b))) = !aheadR a b := by
  have c1 := @compareInt_lt a.z0 b.z0
  have c2 := @compareInt_lt a.x0 b.x0
  have c3 := @compareInt_lt (y0R a) (y0R b)
  have n1 := @compareInt_ne a.z0 b.z0
  have n2 := @compareInt_ne a.x0 b.x0
  have e1 := compareInt_eq a.z0
  have e2 := compareInt_eq a.x0
  unfold or3S aheadR
  rw [Bool.eq_iff_iff]
  simp only [decide_eq_true_eq, Bool.not_eq_true', decide_eq_false_iff_not]
  by_cases h1 : a.z0 = b.z0
  · rw [← h1, e1, if_neg (by simp)]
    by_cases h2 : a.x0 = b.x0
    · rw [← h2, e2, if_neg (by simp)]
      omega
    · have := n2 h2
      rw [if_pos this]
      omega
  · have := n1 h1
    rw [if_pos this]
    omega
section
variable {P : Program} {ops : Array Oper} {Q : Exit → Act → World → Prop}
end
end Go.Proofs.YtmgkkmcihplojaaGreat
