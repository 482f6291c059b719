/- Walks: configs. -/
import Derived.Test.YtmgkkmcihplojaaGreatGa
namespace Go.Proofs.YtmgkkmcihplojaaGreat
open Go.RowKit

structure Cfg where
  clear : Int
  climb : Int
  height : Int
  rise : Int
  run : Int
  w : Int
  d : Int
deriving DecidableEq

def cfgV (c : Cfg) : Value := .agg #[.int .i64 c.clear, .int .i64 c.climb, .int .i64 c.height, .int .i64 c.rise, .int .i64 c.run, .int .i64 c.w, .int .i64 c.d]

/-- May it be a config? -/
def cfgOk (c : Cfg) : Bool := decide (0 ≤ c.clear ∧ c.clear ≤ 3 ∧ 0 ≤ c.climb ∧ c.climb ≤ 8 ∧ c.climb < c.height ∧ c.height ≤ 32 ∧ 0 ≤ c.rise ∧ c.rise ≤ 100 ∧ 1 ≤ c.run ∧ c.run ≤ 100 ∧ 1 ≤ c.w ∧ c.w ≤ 32 ∧ 1 ≤ c.d ∧ c.d ≤ 32)
def cfgE (c : Cfg) : Int := if cfgOk c then 0 else 20

theorem quiet_add_same' {P : Program} {f : FuncId} {args : Array Value} {w : World} {a n : Nat} {v : Value}
    (h : Calls P f args (w.drewN (a + n)) fun e w' => e = .returned v ∧ w' = w.drewN (a + n)) :
    Calls P f args (w.drewN (a + n)) fun e w'' => e = .returned v ∧ ∃ m, w'' = w.drewN (a + m) :=
  h.mono fun _ _ ⟨he, hm⟩ => ⟨he, n, hm⟩

set_option maxHeartbeats 400000 in
theorem in_in (n lo hi : Int) (w : World) (h1 : lo ≤ n) (h2 : n ≤ hi) :
    Calls Tryz.prog 39 #[.int .i64 n, .int .i64 lo, .int .i64 hi] w fun e w' => e = .returned (.int .i64 n) ∧ w' = w := by
  go_enter Tryz.func39, Tryz.ntmps39
  go_wp2
  go_ret
  exact ⟨rfl, rfl⟩
set_option maxHeartbeats 400000 in
theorem in_lo (n lo hi : Int) (w : World) (h1 : n < lo) (h2 : lo ≤ hi) :
    Calls Tryz.prog 39 #[.int .i64 n, .int .i64 lo, .int .i64 hi] w fun e w' => e = .returned (.int .i64 lo) ∧ w' = w := by
  go_enter Tryz.func39, Tryz.ntmps39
  go_wp2
  go_ret
  exact ⟨rfl, rfl⟩
set_option maxHeartbeats 400000 in
theorem in_hi (n lo hi : Int) (w : World) (h1 : hi < n) (h2 : lo ≤ hi) :
    Calls Tryz.prog 39 #[.int .i64 n, .int .i64 lo, .int .i64 hi] w fun e w' => e = .returned (.int .i64 hi) ∧ w' = w := by
  go_enter Tryz.func39, Tryz.ntmps39
  go_wp2
  go_ret
  exact ⟨rfl, rfl⟩
set_option maxHeartbeats 2000000 in
theorem cfgcheck_any (c : Cfg) (w : World) :
    Calls Tryz.prog 24 #[cfgV c] w fun e w' => e = .returned (.int .i64 (cfgE c)) ∧ Below w.heap.size w w' := by
  obtain ⟨clear, climb, height, rise, run, cw, cd⟩ := c
  obtain ⟨r, hr⟩ : ∃ r, r = cfgE ⟨clear, climb, height, rise, run, cw, cd⟩ := ⟨_, rfl⟩
  rw [← hr]
  unfold cfgV
  simp only
  have HR := Lib.hid hr; clear hr
  go_enter Tryz.func24, Tryz.ntmps24
  go_wp2
  by_cases b00 : clear < 0
  · have Hr : Hid (r = 20) := by show _ = _; rw [HR.out, cfgE, if_neg (by simp only [cfgOk, decide_eq_true_eq]; omega)]
    clear HR
    go_quiet ((go_at_call 39; refine Calls.quiet_of_same (in_lo _ _ _ _ ?_ ?_) <;> omega))
    go_wp2
    go_ret
    exact ⟨ret_int Hr.out.symm, by repeat (first | exact (Below.refl _ _).alloc (Nat.le_refl _) _ | apply below_drewN)⟩
  by_cases b01 : 3 < clear
  · have Hr : Hid (r = 20) := by show _ = _; rw [HR.out, cfgE, if_neg (by simp only [cfgOk, decide_eq_true_eq]; omega)]
    clear HR
    go_quiet ((go_at_call 39; refine Calls.quiet_of_same (in_hi _ _ _ _ ?_ ?_) <;> omega))
    go_wp2
    go_ret
    exact ⟨ret_int Hr.out.symm, by repeat (first | exact (Below.refl _ _).alloc (Nat.le_refl _) _ | apply below_drewN)⟩
  have g00 : 0 ≤ clear := by omega
  have g01 : clear ≤ 3 := by omega
  clear b00 b01
  go_quiet ((go_at_call 39; refine Calls.quiet_of_same (in_in _ _ _ _ ?_ ?_) <;> omega))
  go_wp2
  by_cases b10 : climb < 0
  · have Hr : Hid (r = 20) := by show _ = _; rw [HR.out, cfgE, if_neg (by simp only [cfgOk, decide_eq_true_eq]; omega)]
    clear HR
    go_quiet ((go_at_call 39; refine quiet_add_same' (in_lo _ _ _ _ ?_ ?_) <;> omega))
    go_wp2
    go_ret
    exact ⟨ret_int Hr.out.symm, by repeat (first | exact (Below.refl _ _).alloc (Nat.le_refl _) _ | apply below_drewN)⟩
  by_cases b11 : 8 < climb
  · have Hr : Hid (r = 20) := by show _ = _; rw [HR.out, cfgE, if_neg (by simp only [cfgOk, decide_eq_true_eq]; omega)]
    clear HR
    go_quiet ((go_at_call 39; refine quiet_add_same' (in_hi _ _ _ _ ?_ ?_) <;> omega))
    go_wp2
    go_ret
    exact ⟨ret_int Hr.out.symm, by repeat (first | exact (Below.refl _ _).alloc (Nat.le_refl _) _ | apply below_drewN)⟩
  have g10 : 0 ≤ climb := by omega
  have g11 : climb ≤ 8 := by omega
  clear b10 b11
  go_quiet ((go_at_call 39; refine quiet_add_same' (in_in _ _ _ _ ?_ ?_) <;> omega))
  by_cases b20 : height ≤ climb
  · have Hr : Hid (r = 20) := by show _ = _; rw [HR.out, cfgE, if_neg (by simp only [cfgOk, decide_eq_true_eq]; omega)]
    clear HR
    go_wp2
    go_ret
    exact ⟨ret_int Hr.out.symm, by repeat (first | exact (Below.refl _ _).alloc (Nat.le_refl _) _ | apply below_drewN)⟩
  have g20 : climb < height := by omega
  clear b20
  by_cases b30 : 32 < height
  · have Hr : Hid (r = 20) := by show _ = _; rw [HR.out, cfgE, if_neg (by simp only [cfgOk, decide_eq_true_eq]; omega)]
    clear HR
    go_wp2
    go_ret
    exact ⟨ret_int Hr.out.symm, by repeat (first | exact (Below.refl _ _).alloc (Nat.le_refl _) _ | apply below_drewN)⟩
  have g30 : height ≤ 32 := by omega
  clear b30
  go_wp2
  by_cases b40 : rise < 0
  · have Hr : Hid (r = 20) := by show _ = _; rw [HR.out, cfgE, if_neg (by simp only [cfgOk, decide_eq_true_eq]; omega)]
    clear HR
    go_quiet ((go_at_call 39; refine quiet_add_same' (in_lo _ _ _ _ ?_ ?_) <;> omega))
    go_wp2
    go_ret
    exact ⟨ret_int Hr.out.symm, by repeat (first | exact (Below.refl _ _).alloc (Nat.le_refl _) _ | apply below_drewN)⟩
  by_cases b41 : 100 < rise
  · have Hr : Hid (r = 20) := by show _ = _; rw [HR.out, cfgE, if_neg (by simp only [cfgOk, decide_eq_true_eq]; omega)]
    clear HR
    go_quiet ((go_at_call 39; refine quiet_add_same' (in_hi _ _ _ _ ?_ ?_) <;> omega))
    go_wp2
    go_ret
    exact ⟨ret_int Hr.out.symm, by repeat (first | exact (Below.refl _ _).alloc (Nat.le_refl _) _ | apply below_drewN)⟩
  have g40 : 0 ≤ rise := by omega
  have g41 : rise ≤ 100 := by omega
  clear b40 b41
  go_quiet ((go_at_call 39; refine quiet_add_same' (in_in _ _ _ _ ?_ ?_) <;> omega))
  go_wp2
  by_cases b50 : run < 1
  · have Hr : Hid (r = 20) := by show _ = _; rw [HR.out, cfgE, if_neg (by simp only [cfgOk, decide_eq_true_eq]; omega)]
    clear HR
    go_quiet ((go_at_call 39; refine quiet_add_same' (in_lo _ _ _ _ ?_ ?_) <;> omega))
    go_wp2
    go_ret
    exact ⟨ret_int Hr.out.symm, by repeat (first | exact (Below.refl _ _).alloc (Nat.le_refl _) _ | apply below_drewN)⟩
  by_cases b51 : 100 < run
  · have Hr : Hid (r = 20) := by show _ = _; rw [HR.out, cfgE, if_neg (by simp only [cfgOk, decide_eq_true_eq]; omega)]
    clear HR
    go_quiet ((go_at_call 39; refine quiet_add_same' (in_hi _ _ _ _ ?_ ?_) <;> omega))
    go_wp2
    go_ret
    exact ⟨ret_int Hr.out.symm, by repeat (first | exact (Below.refl _ _).alloc (Nat.le_refl _) _ | apply below_drewN)⟩
  have g50 : 1 ≤ run := by omega
  have g51 : run ≤ 100 := by omega
  clear b50 b51
  go_quiet ((go_at_call 39; refine quiet_add_same' (in_in _ _ _ _ ?_ ?_) <;> omega))
  go_wp2
  by_cases b60 : cw < 1
  · have Hr : Hid (r = 20) := by show _ = _; rw [HR.out, cfgE, if_neg (by simp only [cfgOk, decide_eq_true_eq]; omega)]
    clear HR
    go_quiet ((go_at_call 39; refine quiet_add_same' (in_lo _ _ _ _ ?_ ?_) <;> omega))
    go_wp2
    go_ret
    exact ⟨ret_int Hr.out.symm, by repeat (first | exact (Below.refl _ _).alloc (Nat.le_refl _) _ | apply below_drewN)⟩
  by_cases b61 : 32 < cw
  · have Hr : Hid (r = 20) := by show _ = _; rw [HR.out, cfgE, if_neg (by simp only [cfgOk, decide_eq_true_eq]; omega)]
    clear HR
    go_quiet ((go_at_call 39; refine quiet_add_same' (in_hi _ _ _ _ ?_ ?_) <;> omega))
    go_wp2
    go_ret
    exact ⟨ret_int Hr.out.symm, by repeat (first | exact (Below.refl _ _).alloc (Nat.le_refl _) _ | apply below_drewN)⟩
  have g60 : 1 ≤ cw := by omega
  have g61 : cw ≤ 32 := by omega
  clear b60 b61
  go_quiet ((go_at_call 39; refine quiet_add_same' (in_in _ _ _ _ ?_ ?_) <;> omega))
  go_wp2
  by_cases b70 : cd < 1
  · have Hr : Hid (r = 20) := by show _ = _; rw [HR.out, cfgE, if_neg (by simp only [cfgOk, decide_eq_true_eq]; omega)]
    clear HR
    go_quiet ((go_at_call 39; refine quiet_add_same' (in_lo _ _ _ _ ?_ ?_) <;> omega))
    go_wp2
    go_ret
    exact ⟨ret_int Hr.out.symm, by repeat (first | exact (Below.refl _ _).alloc (Nat.le_refl _) _ | apply below_drewN)⟩
  by_cases b71 : 32 < cd
  · have Hr : Hid (r = 20) := by show _ = _; rw [HR.out, cfgE, if_neg (by simp only [cfgOk, decide_eq_true_eq]; omega)]
    clear HR
    go_quiet ((go_at_call 39; refine quiet_add_same' (in_hi _ _ _ _ ?_ ?_) <;> omega))
    go_wp2
    go_ret
    exact ⟨ret_int Hr.out.symm, by repeat (first | exact (Below.refl _ _).alloc (Nat.le_refl _) _ | apply below_drewN)⟩
  have g70 : 1 ≤ cd := by omega
  have g71 : cd ≤ 32 := by omega
  clear b70 b71
  go_quiet ((go_at_call 39; refine quiet_add_same' (in_in _ _ _ _ ?_ ?_) <;> omega))
  have Hr : Hid (r = 0) := by show _ = _; rw [HR.out, cfgE, if_pos (by simp only [cfgOk, decide_eq_true_eq]; omega)]
  clear HR
  go_wp2
  go_ret
  exact ⟨ret_int Hr.out.symm, by repeat (first | exact (Below.refl _ _).alloc (Nat.le_refl _) _ | apply below_drewN)⟩

end Go.Proofs.YtmgkkmcihplojaaGreat
