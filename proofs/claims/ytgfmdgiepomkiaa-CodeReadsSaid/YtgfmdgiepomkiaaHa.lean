/- Walks: configs, the document's. -/
import Derived.Test.YtgfmdgiepomkiaaCfg
namespace Go.Proofs.Ytgfmdgiepomkiaa
open Go.RowKit

set_option maxHeartbeats 1000000 in
theorem refcfgcheck_bad00 (clear climb height rise run cw cd : Int) (w : World) (h0 : clear < 0) :
    Calls Try.prog 33 #[.agg #[.int .i64 clear, .int .i64 climb, .int .i64 height, .int .i64 rise, .int .i64 run, .int .i64 cw, .int .i64 cd]] w fun e w' => e = .returned (.int .i64 20) ∧ Below w.heap.size w w' := by
  go_enter Try.func33, Try.ntmps33
  go_wp2
  go_ret
  exact ⟨rfl, (Below.refl _ _).alloc (Nat.le_refl _) _⟩

set_option maxHeartbeats 1000000 in
theorem refcfgcheck_bad01 (clear climb height rise run cw cd : Int) (w : World) (h0 : 3 < clear) :
    Calls Try.prog 33 #[.agg #[.int .i64 clear, .int .i64 climb, .int .i64 height, .int .i64 rise, .int .i64 run, .int .i64 cw, .int .i64 cd]] w fun e w' => e = .returned (.int .i64 20) ∧ Below w.heap.size w w' := by
  go_enter Try.func33, Try.ntmps33
  go_wp2
  go_ret
  exact ⟨rfl, (Below.refl _ _).alloc (Nat.le_refl _) _⟩

set_option maxHeartbeats 1000000 in
theorem refcfgcheck_bad10 (clear climb height rise run cw cd : Int) (w : World) (h0 : 0 ≤ clear) (h1 : clear ≤ 3) (h2 : climb < 0) :
    Calls Try.prog 33 #[.agg #[.int .i64 clear, .int .i64 climb, .int .i64 height, .int .i64 rise, .int .i64 run, .int .i64 cw, .int .i64 cd]] w fun e w' => e = .returned (.int .i64 20) ∧ Below w.heap.size w w' := by
  go_enter Try.func33, Try.ntmps33
  go_wp2
  go_ret
  exact ⟨rfl, (Below.refl _ _).alloc (Nat.le_refl _) _⟩

set_option maxHeartbeats 1000000 in
theorem refcfgcheck_bad11 (clear climb height rise run cw cd : Int) (w : World) (h0 : 0 ≤ clear) (h1 : clear ≤ 3) (h2 : 8 < climb) :
    Calls Try.prog 33 #[.agg #[.int .i64 clear, .int .i64 climb, .int .i64 height, .int .i64 rise, .int .i64 run, .int .i64 cw, .int .i64 cd]] w fun e w' => e = .returned (.int .i64 20) ∧ Below w.heap.size w w' := by
  go_enter Try.func33, Try.ntmps33
  go_wp2
  go_ret
  exact ⟨rfl, (Below.refl _ _).alloc (Nat.le_refl _) _⟩

set_option maxHeartbeats 1000000 in
theorem refcfgcheck_bad20 (clear climb height rise run cw cd : Int) (w : World) (h0 : 0 ≤ clear) (h1 : clear ≤ 3) (h2 : 0 ≤ climb) (h3 : climb ≤ 8) (h4 : height ≤ climb) :
    Calls Try.prog 33 #[.agg #[.int .i64 clear, .int .i64 climb, .int .i64 height, .int .i64 rise, .int .i64 run, .int .i64 cw, .int .i64 cd]] w fun e w' => e = .returned (.int .i64 20) ∧ Below w.heap.size w w' := by
  go_enter Try.func33, Try.ntmps33
  go_wp2
  go_ret
  exact ⟨rfl, (Below.refl _ _).alloc (Nat.le_refl _) _⟩

set_option maxHeartbeats 1000000 in
theorem refcfgcheck_bad30 (clear climb height rise run cw cd : Int) (w : World) (h0 : 0 ≤ clear) (h1 : clear ≤ 3) (h2 : 0 ≤ climb) (h3 : climb ≤ 8) (h4 : climb < height) (h5 : 32 < height) :
    Calls Try.prog 33 #[.agg #[.int .i64 clear, .int .i64 climb, .int .i64 height, .int .i64 rise, .int .i64 run, .int .i64 cw, .int .i64 cd]] w fun e w' => e = .returned (.int .i64 20) ∧ Below w.heap.size w w' := by
  go_enter Try.func33, Try.ntmps33
  go_wp2
  go_ret
  exact ⟨rfl, (Below.refl _ _).alloc (Nat.le_refl _) _⟩

set_option maxHeartbeats 1000000 in
theorem refcfgcheck_bad40 (clear climb height rise run cw cd : Int) (w : World) (h0 : 0 ≤ clear) (h1 : clear ≤ 3) (h2 : 0 ≤ climb) (h3 : climb ≤ 8) (h4 : climb < height) (h5 : height ≤ 32) (h6 : rise < 0) :
    Calls Try.prog 33 #[.agg #[.int .i64 clear, .int .i64 climb, .int .i64 height, .int .i64 rise, .int .i64 run, .int .i64 cw, .int .i64 cd]] w fun e w' => e = .returned (.int .i64 20) ∧ Below w.heap.size w w' := by
  go_enter Try.func33, Try.ntmps33
  go_wp2
  go_ret
  exact ⟨rfl, (Below.refl _ _).alloc (Nat.le_refl _) _⟩

set_option maxHeartbeats 1000000 in
theorem refcfgcheck_bad41 (clear climb height rise run cw cd : Int) (w : World) (h0 : 0 ≤ clear) (h1 : clear ≤ 3) (h2 : 0 ≤ climb) (h3 : climb ≤ 8) (h4 : climb < height) (h5 : height ≤ 32) (h6 : 100 < rise) :
    Calls Try.prog 33 #[.agg #[.int .i64 clear, .int .i64 climb, .int .i64 height, .int .i64 rise, .int .i64 run, .int .i64 cw, .int .i64 cd]] w fun e w' => e = .returned (.int .i64 20) ∧ Below w.heap.size w w' := by
  go_enter Try.func33, Try.ntmps33
  go_wp2
  go_ret
  exact ⟨rfl, (Below.refl _ _).alloc (Nat.le_refl _) _⟩

set_option maxHeartbeats 1000000 in
theorem refcfgcheck_bad50 (clear climb height rise run cw cd : Int) (w : World) (h0 : 0 ≤ clear) (h1 : clear ≤ 3) (h2 : 0 ≤ climb) (h3 : climb ≤ 8) (h4 : climb < height) (h5 : height ≤ 32) (h6 : 0 ≤ rise) (h7 : rise ≤ 100) (h8 : run < 1) :
    Calls Try.prog 33 #[.agg #[.int .i64 clear, .int .i64 climb, .int .i64 height, .int .i64 rise, .int .i64 run, .int .i64 cw, .int .i64 cd]] w fun e w' => e = .returned (.int .i64 20) ∧ Below w.heap.size w w' := by
  go_enter Try.func33, Try.ntmps33
  go_wp2
  go_ret
  exact ⟨rfl, (Below.refl _ _).alloc (Nat.le_refl _) _⟩

set_option maxHeartbeats 1000000 in
theorem refcfgcheck_bad51 (clear climb height rise run cw cd : Int) (w : World) (h0 : 0 ≤ clear) (h1 : clear ≤ 3) (h2 : 0 ≤ climb) (h3 : climb ≤ 8) (h4 : climb < height) (h5 : height ≤ 32) (h6 : 0 ≤ rise) (h7 : rise ≤ 100) (h8 : 100 < run) :
    Calls Try.prog 33 #[.agg #[.int .i64 clear, .int .i64 climb, .int .i64 height, .int .i64 rise, .int .i64 run, .int .i64 cw, .int .i64 cd]] w fun e w' => e = .returned (.int .i64 20) ∧ Below w.heap.size w w' := by
  go_enter Try.func33, Try.ntmps33
  go_wp2
  go_ret
  exact ⟨rfl, (Below.refl _ _).alloc (Nat.le_refl _) _⟩

set_option maxHeartbeats 1000000 in
theorem refcfgcheck_bad60 (clear climb height rise run cw cd : Int) (w : World) (h0 : 0 ≤ clear) (h1 : clear ≤ 3) (h2 : 0 ≤ climb) (h3 : climb ≤ 8) (h4 : climb < height) (h5 : height ≤ 32) (h6 : 0 ≤ rise) (h7 : rise ≤ 100) (h8 : 1 ≤ run) (h9 : run ≤ 100) (h10 : cw < 1) :
    Calls Try.prog 33 #[.agg #[.int .i64 clear, .int .i64 climb, .int .i64 height, .int .i64 rise, .int .i64 run, .int .i64 cw, .int .i64 cd]] w fun e w' => e = .returned (.int .i64 20) ∧ Below w.heap.size w w' := by
  go_enter Try.func33, Try.ntmps33
  go_wp2
  go_ret
  exact ⟨rfl, (Below.refl _ _).alloc (Nat.le_refl _) _⟩

set_option maxHeartbeats 1000000 in
theorem refcfgcheck_bad61 (clear climb height rise run cw cd : Int) (w : World) (h0 : 0 ≤ clear) (h1 : clear ≤ 3) (h2 : 0 ≤ climb) (h3 : climb ≤ 8) (h4 : climb < height) (h5 : height ≤ 32) (h6 : 0 ≤ rise) (h7 : rise ≤ 100) (h8 : 1 ≤ run) (h9 : run ≤ 100) (h10 : 32 < cw) :
    Calls Try.prog 33 #[.agg #[.int .i64 clear, .int .i64 climb, .int .i64 height, .int .i64 rise, .int .i64 run, .int .i64 cw, .int .i64 cd]] w fun e w' => e = .returned (.int .i64 20) ∧ Below w.heap.size w w' := by
  go_enter Try.func33, Try.ntmps33
  go_wp2
  go_ret
  exact ⟨rfl, (Below.refl _ _).alloc (Nat.le_refl _) _⟩

set_option maxHeartbeats 1000000 in
theorem refcfgcheck_bad70 (clear climb height rise run cw cd : Int) (w : World) (h0 : 0 ≤ clear) (h1 : clear ≤ 3) (h2 : 0 ≤ climb) (h3 : climb ≤ 8) (h4 : climb < height) (h5 : height ≤ 32) (h6 : 0 ≤ rise) (h7 : rise ≤ 100) (h8 : 1 ≤ run) (h9 : run ≤ 100) (h10 : 1 ≤ cw) (h11 : cw ≤ 32) (h12 : cd < 1) :
    Calls Try.prog 33 #[.agg #[.int .i64 clear, .int .i64 climb, .int .i64 height, .int .i64 rise, .int .i64 run, .int .i64 cw, .int .i64 cd]] w fun e w' => e = .returned (.int .i64 20) ∧ Below w.heap.size w w' := by
  go_enter Try.func33, Try.ntmps33
  go_wp2
  go_ret
  exact ⟨rfl, (Below.refl _ _).alloc (Nat.le_refl _) _⟩

set_option maxHeartbeats 1000000 in
theorem refcfgcheck_bad71 (clear climb height rise run cw cd : Int) (w : World) (h0 : 0 ≤ clear) (h1 : clear ≤ 3) (h2 : 0 ≤ climb) (h3 : climb ≤ 8) (h4 : climb < height) (h5 : height ≤ 32) (h6 : 0 ≤ rise) (h7 : rise ≤ 100) (h8 : 1 ≤ run) (h9 : run ≤ 100) (h10 : 1 ≤ cw) (h11 : cw ≤ 32) (h12 : 32 < cd) :
    Calls Try.prog 33 #[.agg #[.int .i64 clear, .int .i64 climb, .int .i64 height, .int .i64 rise, .int .i64 run, .int .i64 cw, .int .i64 cd]] w fun e w' => e = .returned (.int .i64 20) ∧ Below w.heap.size w w' := by
  go_enter Try.func33, Try.ntmps33
  go_wp2
  go_ret
  exact ⟨rfl, (Below.refl _ _).alloc (Nat.le_refl _) _⟩

set_option maxHeartbeats 1000000 in
theorem refcfgcheck_good (clear climb height rise run cw cd : Int) (w : World) (h0 : 0 ≤ clear) (h1 : clear ≤ 3) (h2 : 0 ≤ climb) (h3 : climb ≤ 8) (h4 : climb < height) (h5 : height ≤ 32) (h6 : 0 ≤ rise) (h7 : rise ≤ 100) (h8 : 1 ≤ run) (h9 : run ≤ 100) (h10 : 1 ≤ cw) (h11 : cw ≤ 32) (h12 : 1 ≤ cd) (h13 : cd ≤ 32) :
    Calls Try.prog 33 #[.agg #[.int .i64 clear, .int .i64 climb, .int .i64 height, .int .i64 rise, .int .i64 run, .int .i64 cw, .int .i64 cd]] w fun e w' => e = .returned (.int .i64 0) ∧ Below w.heap.size w w' := by
  go_enter Try.func33, Try.ntmps33
  go_wp2
  go_ret
  exact ⟨rfl, (Below.refl _ _).alloc (Nat.le_refl _) _⟩

theorem refcfgcheck_any (c : Cfg) (w : World) :
    Calls Try.prog 33 #[cfgV c] w fun e w' => e = .returned (.int .i64 (cfgE c)) ∧ Below w.heap.size w w' := by
  obtain ⟨clear, climb, height, rise, run, cw, cd⟩ := c
  obtain ⟨r, hr⟩ : ∃ r, r = cfgE ⟨clear, climb, height, rise, run, cw, cd⟩ := ⟨_, rfl⟩
  rw [← hr]
  by_cases b00 : clear < 0
  · obtain rfl : r = 20 := by rw [hr, cfgE, if_neg (by simp only [cfgOk, decide_eq_true_eq]; omega)]
    exact refcfgcheck_bad00 clear climb height rise run cw cd w (by omega)
  by_cases b01 : 3 < clear
  · obtain rfl : r = 20 := by rw [hr, cfgE, if_neg (by simp only [cfgOk, decide_eq_true_eq]; omega)]
    exact refcfgcheck_bad01 clear climb height rise run cw cd w (by omega)
  by_cases b10 : climb < 0
  · obtain rfl : r = 20 := by rw [hr, cfgE, if_neg (by simp only [cfgOk, decide_eq_true_eq]; omega)]
    exact refcfgcheck_bad10 clear climb height rise run cw cd w (by omega) (by omega) (by omega)
  by_cases b11 : 8 < climb
  · obtain rfl : r = 20 := by rw [hr, cfgE, if_neg (by simp only [cfgOk, decide_eq_true_eq]; omega)]
    exact refcfgcheck_bad11 clear climb height rise run cw cd w (by omega) (by omega) (by omega)
  by_cases b20 : height ≤ climb
  · obtain rfl : r = 20 := by rw [hr, cfgE, if_neg (by simp only [cfgOk, decide_eq_true_eq]; omega)]
    exact refcfgcheck_bad20 clear climb height rise run cw cd w (by omega) (by omega) (by omega) (by omega) (by omega)
  by_cases b30 : 32 < height
  · obtain rfl : r = 20 := by rw [hr, cfgE, if_neg (by simp only [cfgOk, decide_eq_true_eq]; omega)]
    exact refcfgcheck_bad30 clear climb height rise run cw cd w (by omega) (by omega) (by omega) (by omega) (by omega) (by omega)
  by_cases b40 : rise < 0
  · obtain rfl : r = 20 := by rw [hr, cfgE, if_neg (by simp only [cfgOk, decide_eq_true_eq]; omega)]
    exact refcfgcheck_bad40 clear climb height rise run cw cd w (by omega) (by omega) (by omega) (by omega) (by omega) (by omega) (by omega)
  by_cases b41 : 100 < rise
  · obtain rfl : r = 20 := by rw [hr, cfgE, if_neg (by simp only [cfgOk, decide_eq_true_eq]; omega)]
    exact refcfgcheck_bad41 clear climb height rise run cw cd w (by omega) (by omega) (by omega) (by omega) (by omega) (by omega) (by omega)
  by_cases b50 : run < 1
  · obtain rfl : r = 20 := by rw [hr, cfgE, if_neg (by simp only [cfgOk, decide_eq_true_eq]; omega)]
    exact refcfgcheck_bad50 clear climb height rise run cw cd w (by omega) (by omega) (by omega) (by omega) (by omega) (by omega) (by omega) (by omega) (by omega)
  by_cases b51 : 100 < run
  · obtain rfl : r = 20 := by rw [hr, cfgE, if_neg (by simp only [cfgOk, decide_eq_true_eq]; omega)]
    exact refcfgcheck_bad51 clear climb height rise run cw cd w (by omega) (by omega) (by omega) (by omega) (by omega) (by omega) (by omega) (by omega) (by omega)
  by_cases b60 : cw < 1
  · obtain rfl : r = 20 := by rw [hr, cfgE, if_neg (by simp only [cfgOk, decide_eq_true_eq]; omega)]
    exact refcfgcheck_bad60 clear climb height rise run cw cd w (by omega) (by omega) (by omega) (by omega) (by omega) (by omega) (by omega) (by omega) (by omega) (by omega) (by omega)
  by_cases b61 : 32 < cw
  · obtain rfl : r = 20 := by rw [hr, cfgE, if_neg (by simp only [cfgOk, decide_eq_true_eq]; omega)]
    exact refcfgcheck_bad61 clear climb height rise run cw cd w (by omega) (by omega) (by omega) (by omega) (by omega) (by omega) (by omega) (by omega) (by omega) (by omega) (by omega)
  by_cases b70 : cd < 1
  · obtain rfl : r = 20 := by rw [hr, cfgE, if_neg (by simp only [cfgOk, decide_eq_true_eq]; omega)]
    exact refcfgcheck_bad70 clear climb height rise run cw cd w (by omega) (by omega) (by omega) (by omega) (by omega) (by omega) (by omega) (by omega) (by omega) (by omega) (by omega) (by omega) (by omega)
  by_cases b71 : 32 < cd
  · obtain rfl : r = 20 := by rw [hr, cfgE, if_neg (by simp only [cfgOk, decide_eq_true_eq]; omega)]
    exact refcfgcheck_bad71 clear climb height rise run cw cd w (by omega) (by omega) (by omega) (by omega) (by omega) (by omega) (by omega) (by omega) (by omega) (by omega) (by omega) (by omega) (by omega)
  obtain rfl : r = 0 := by rw [hr, cfgE, if_pos (by simp only [cfgOk, decide_eq_true_eq]; omega)]
  exact refcfgcheck_good clear climb height rise run cw cd w (by omega) (by omega) (by omega) (by omega) (by omega) (by omega) (by omega) (by omega) (by omega) (by omega) (by omega) (by omega) (by omega) (by omega)

end Go.Proofs.Ytgfmdgiepomkiaa
