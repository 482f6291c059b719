/- Walks: the reference's 18.Same at two rows that read the same. -/
import Derived.Test.YtjiklfffcnfdjaaDrM
import Derived.Test.YtjiklfffcnfdjaaRctC
import Derived.Laws.StructEq
namespace Go.Proofs.Ytjiklfffcnfdjaa
open Go.RowKit Go.Sort
attribute [local go_sem] Instr.index

theorem SlDr.cells {w : World} {b off n c : Nat} {xs : List Dr} {k : Nat} {x : Dr} (h : SlR drC 6 w (some ⟨b, off, none⟩) n c xs) (hx : xs[k]? = some x) : ∀ j u, (drC x)[j]? = some u → w.cell? ⟨b, off + k * 6 + j, none⟩ = some u := by
  intro j u hu
  have hk : k < xs.length := (List.getElem?_eq_some_iff.1 hx).1
  have hlen := h.len
  obtain ⟨b', off', e, _, hc⟩ := h.at0 (by omega)
  cases e
  exact hc k x hx j u hu
theorem dr_beq (a b : Dr) : decide (a = b) = (a.a == b.a && (a.b == b.b && (a.x0 == b.x0 && (a.z0 == b.z0 && (a.x1 == b.x1 && a.z1 == b.z1))))) := by
  obtain ⟨x0, x1, x2, x3, x4, x5⟩ := a
  obtain ⟨y0, y1, y2, y3, y4, y5⟩ := b
  simp only [Dr.mk.injEq, Bool.decide_and]
  rfl
theorem eqDr (w : World) (x y : Dr) : (Op.equalIn 10000 35 (.agg #[.int .i64 x.a, .int .i64 x.b, .int .i64 x.x0, .int .i64 x.z0, .int .i64 x.x1, .int .i64 x.z1]) (.agg #[.int .i64 y.a, .int .i64 y.b, .int .i64 y.x0, .int .i64 y.z0, .int .i64 y.x1, .int .i64 y.z1])).run Try.prog w = .ok (decide (x = y)) w := by
  have u3 := Try.underlying3
  have a3 := Try.isAgg3
  have z3 := Try.sizeOf3
  have hS : Try.prog.underlying 35 = some (.struct (Try.prog.fieldsOf 35)) := by kernel_rfl
  rw [show (10000 : Nat) = 9999 + 1 from rfl, run_equalIn_struct w 9999 35 _ _ hS (by kernel_rfl)]
  simp only [Program.fieldsOf, Try.underlying35]
  go_simp
  rw [dr_beq]
  repeat' split
  all_goals simp_all
set_option maxHeartbeats 2000000 in
theorem same18_any (a b : Option Addr) (n c d : Nat) (xs : List Dr) (w : World) (hx : SlR drC 6 w a n c xs) (hy : SlR drC 6 w b n d xs) :
    Calls Try.prog 12 #[.slice a n c, .slice b n d] w fun e w' => e = .returned (.bool true) ∧ Below w.heap.size w w' := by
  have Hl := Lib.hid hx.len
  have hmax := hx.max
  have hle := hx.le
  have Hx := Lib.hid hx; clear hx
  have Hy := Lib.hid hy; clear hy
  go_enter Try.func12, Try.ntmps12
  go_wp2
  go_loopw [5] (fun i wr => ∃ k : Nat, i = .int .i64 k ∧ k ≤ n ∧ Below w.heap.size w wr) (fun i _ => n - (intOf i).toNat)
  case atStart => exact ⟨0, rfl, Nat.zero_le _, Below.refl _ _⟩
  case round =>
    obtain ⟨k, rfl, hk, hb⟩ := hrel
    by_cases hlt : k < n
    · have h1 := Hx.out.below hb (Nat.le_refl _)
      have h2 := Hy.out.below hb (Nat.le_refl _)
      obtain ⟨b1, off1, rfl, hbl1, _⟩ := h1.at0 (by omega)
      obtain ⟨b2, off2, rfl, hbl2, _⟩ := h2.at0 (by omega)
      obtain ⟨x, hxk⟩ : ∃ x, xs[k]? = some x := ⟨_, List.getElem?_eq_getElem (by rw [Hl.out]; exact hlt)⟩
      have p0 := SlDr.cells h1 hxk 0 _ rfl
      have p1 := SlDr.cells h1 hxk 1 _ rfl
      have p2 := SlDr.cells h1 hxk 2 _ rfl
      have p3 := SlDr.cells h1 hxk 3 _ rfl
      have p4 := SlDr.cells h1 hxk 4 _ rfl
      have p5 := SlDr.cells h1 hxk 5 _ rfl
      have q0 := SlDr.cells h2 hxk 0 _ rfl
      have q1 := SlDr.cells h2 hxk 1 _ rfl
      have q2 := SlDr.cells h2 hxk 2 _ rfl
      have q3 := SlDr.cells h2 hxk 3 _ rfl
      have q4 := SlDr.cells h2 hxk 4 _ rfl
      have q5 := SlDr.cells h2 hxk 5 _ rfl
      obtain ⟨da, db, dx0, dz0, dx1, dz1⟩ := x
      clear h1 h2 hxk
      simp only [Nat.add_zero] at p0 p1 p2 p3 p4 p5 q0 q1 q2 q3 q4 q5
      go_wp2
      have eD := fun W => eqDr W ⟨da, db, dx0, dz0, dx1, dz1⟩ ⟨da, db, dx0, dz0, dx1, dz1⟩
      simp only [decide_true] at eD
      have e_p0 := fun d os => cell_regrown p0 d os
      have e_p1 := fun d os => cell_regrown p1 d os
      have e_p2 := fun d os => cell_regrown p2 d os
      have e_p3 := fun d os => cell_regrown p3 d os
      have e_p4 := fun d os => cell_regrown p4 d os
      have e_p5 := fun d os => cell_regrown p5 d os
      have e_q0 := fun d os => cell_regrown q0 d os
      have e_q1 := fun d os => cell_regrown q1 d os
      have e_q2 := fun d os => cell_regrown q2 d os
      have e_q3 := fun d os => cell_regrown q3 d os
      have e_q4 := fun d os => cell_regrown q4 d os
      have e_q5 := fun d os => cell_regrown q5 d os
      clear p0 p1 p2 p3 p4 p5 q0 q1 q2 q3 q4 q5
      refine wp_region_quiet_below (by kernel_rfl) (by kernel_rfl) ?_
      repeat (go_big_quiet_step (fail))
      refine wpQuiet_nil ?_
      rintro w4 ⟨⟨dq, osq⟩, hw4⟩
      have hb4 : Below w.heap.size w w4 := by rw [hw4]; exact hb.trans ((below_regrown wr dq osq).mono hb.size)
      clear hw4 eD e_p0 e_p1 e_p2 e_p3 e_p4 e_p5 e_q0 e_q1 e_q2 e_q3 e_q4 e_q5
      go_wp2
      go_roundw
      case rel => exact ⟨k + 1, by go_num, by omega, hb4⟩
      case measure => simp [intOf]; omega
    · obtain rfl : k = n := by omega
      go_wp2
      go_ret
      exact ⟨rfl, hb⟩
end Go.Proofs.Ytjiklfffcnfdjaa
