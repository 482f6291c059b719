/- Walk: the reference's tile: SameDoors. -/
import Derived.Test.YtgfmdgiepomkiaaGreatLm
namespace Go.Proofs.YtgfmdgiepomkiaaGreat
open Go.RowKit Go.Sort
attribute [local go_sem] Instr.index

set_option maxHeartbeats 4000000 in
theorem samedoors19_any (a b : Option Addr) (n c m d : Nat) (xs ys : List Dr) (w : World) (hx : SlR drC 6 w a n c xs) (hy : SlR drC 6 w b m d ys) :
  Calls Tryz.prog 36 #[.slice a n c, .slice b m d] w fun e w' => e = .returned (.bool (decide (xs = ys))) ∧ Below w.heap.size w w' := by
 have Hl := Lib.hid hx.len
 have Hm := Lib.hid hy.len
 have hmax := hx.max
 have hle := hx.le
 have Hx := Lib.hid hx; clear hx
 have Hy := Lib.hid hy; clear hy
 obtain ⟨R, hR⟩ : ∃ R, R = decide (xs = ys) := ⟨_, rfl⟩
 have HNe : Hid (∀ (k : Nat) (x y : Dr), xs[k]? = some x → ys[k]? = some y → x ≠ y → R = false) := fun k x y h1 h2 h3 => by rw [hR]; exact decide_eq_false (fun e => h3 (by rw [e, h2] at h1; exact (Option.some.inj h1).symm))
 have HLn : Hid (n ≠ m → R = false) := fun h => by rw [hR]; exact decide_eq_false (fun e => h (by rw [← Hl.out, ← Hm.out, e]))
 have HEq : Hid (n = m → xs.take n = ys.take n → R = true) := fun h h2 => by rw [hR]; exact decide_eq_true (by rw [List.take_of_length_le (Nat.le_of_eq Hl.out), List.take_of_length_le (Nat.le_of_eq (Hm.out.trans h.symm))] at h2; exact h2)
 rw [← hR]
 clear hR
 by_cases hnm : n = m
 case neg =>
  have hI : ¬ (n : Int) = (m : Int) := by omega
  have hF : Hid (R = false) := HLn.out hnm
  clear HNe HLn HEq Hl Hm Hx Hy hmax hle
  go_enter Tryz.func36, Tryz.ntmps36
  go_wp2
  go_ret
  exact ⟨by rw [hF.out]; rfl, Below.refl _ _⟩
 subst hnm
 go_enter Tryz.func36, Tryz.ntmps36
 go_wp2
 go_loopw [5] (fun i wr => ∃ k : Nat, i = .int .i64 k ∧ k ≤ n ∧ Hid (xs.take k = ys.take k) ∧ Below w.heap.size w wr) (fun i _ => n - (intOf i).toNat)
 case atStart => exact ⟨0, rfl, Nat.zero_le _, rfl, Below.refl _ _⟩
 case round =>
  obtain ⟨k, rfl, hk, HT, hb⟩ := hrel
  by_cases hlt : k < n
  ·
   have h1 := Hx.out.below hb (Nat.le_refl _)
   have h2 := Hy.out.below hb (Nat.le_refl _)
   obtain ⟨b1, off1, rfl, hbl1, _⟩ := h1.at0 (by omega)
   obtain ⟨b2, off2, rfl, hbl2, _⟩ := h2.at0 (by omega)
   obtain ⟨x, hxk⟩ : ∃ x, xs[k]? = some x := ⟨_, List.getElem?_eq_getElem (by rw [Hl.out]; exact hlt)⟩
   obtain ⟨y, hyk⟩ : ∃ y, ys[k]? = some y := ⟨_, List.getElem?_eq_getElem (by rw [Hm.out]; exact hlt)⟩
   have p0 := SlDr.cells h1 hxk 0 _ rfl
   have p1 := SlDr.cells h1 hxk 1 _ rfl
   have p2 := SlDr.cells h1 hxk 2 _ rfl
   have p3 := SlDr.cells h1 hxk 3 _ rfl
   have p4 := SlDr.cells h1 hxk 4 _ rfl
   have p5 := SlDr.cells h1 hxk 5 _ rfl
   have q0 := SlDr.cells h2 hyk 0 _ rfl
   have q1 := SlDr.cells h2 hyk 1 _ rfl
   have q2 := SlDr.cells h2 hyk 2 _ rfl
   have q3 := SlDr.cells h2 hyk 3 _ rfl
   have q4 := SlDr.cells h2 hyk 4 _ rfl
   have q5 := SlDr.cells h2 hyk 5 _ rfl
   have HN2 : Hid (x ≠ y → R = false) := fun h => HNe.out k x y hxk hyk h
   have HT2 : Hid (x = y → xs.take (k + 1) = ys.take (k + 1)) := fun h => take_eq_step hxk hyk HT.out h
   clear h1 h2 hxk hyk
   simp only [Nat.add_zero] at p0 q0
   have eD := fun W => eqDr W x y
   obtain ⟨bq, hbq⟩ : ∃ b, b = decide (x = y) := ⟨_, rfl⟩
   rw [← hbq] at eD
   have HBQ := Lib.hid hbq
   clear hbq
   obtain ⟨xa, xb, xx0, xz0, xx1, xz1⟩ := x
   obtain ⟨ya, yb, yx0, yz0, yx1, yz1⟩ := y
   dsimp only at eD p0 p1 p2 p3 p4 p5 q0 q1 q2 q3 q4 q5
   go_wp2
   have e_p0 := fun d os => cell_regrown p0 d os
   have e_p1 := fun d os => cell_regrown p1 d os
   have e_p2 := fun d os => cell_regrown p2 d os
   have e_p3 := fun d os => cell_regrown p3 d os
   have e_p4 := fun d os => cell_regrown p4 d os
   have e_p5 := fun d os => cell_regrown p5 d os
   have e_q0 := fun d os => cell_regrown q0 d os
   have e_q1 := fun d os => cell_regrown q1 d os
   have e_q2 := fun d os => cell_regrown q2 d os
   have e_q3 := fun d os => cell_regrown q3 d os
   have e_q4 := fun d os => cell_regrown q4 d os
   have e_q5 := fun d os => cell_regrown q5 d os
   clear p0 p1 p2 p3 p4 p5 q0 q1 q2 q3 q4 q5
   cases bq with
   | true =>
    have hT2 : Hid (xs.take (k + 1) = ys.take (k + 1)) := HT2.out (of_decide_eq_true HBQ.out.symm)
    refine wp_region_quiet_below (by kernel_rfl) (by kernel_rfl) ?_
    repeat (go_big_quiet_step (fail))
    refine wpQuiet_nil ?_
    rintro w4 ⟨⟨dq, osq⟩, hw4⟩
    have hb4 : Below w.heap.size w w4 := by rw [hw4]; exact hb.trans ((below_regrown wr dq osq).mono hb.size)
    clear hw4 eD e_p0 e_p1 e_p2 e_p3 e_p4 e_p5 e_q0 e_q1 e_q2 e_q3 e_q4 e_q5
    go_wp2
    go_roundw
    case rel => exact ⟨k + 1, by go_num, by omega, hT2.out, hb4⟩
    case measure => simp [intOf]; omega
   | false =>
    have hF : Hid (R = false) := HN2.out (of_decide_eq_false HBQ.out.symm)
    refine wp_region_quiet_below (by kernel_rfl) (by kernel_rfl) ?_
    repeat (go_big_quiet_step (fail))
    refine wpQuiet_nil ?_
    rintro w4 ⟨⟨dq, osq⟩, hw4⟩
    have hb4 : Below w.heap.size w w4 := by rw [hw4]; exact hb.trans ((below_regrown wr dq osq).mono hb.size)
    clear hw4 eD e_p0 e_p1 e_p2 e_p3 e_p4 e_p5 e_q0 e_q1 e_q2 e_q3 e_q4 e_q5
    go_wp2
    go_ret
    exact ⟨by rw [hF.out]; rfl, hb4⟩
  ·
   obtain rfl : k = n := by omega
   have hT : Hid (R = true) := HEq.out (by trivial) HT.out
   go_wp2
   go_ret
   exact ⟨by rw [hT.out]; rfl, hb⟩
end Go.Proofs.YtgfmdgiepomkiaaGreat
