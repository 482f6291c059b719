/- Walks: configs, the document's. -/
import Derived.Test.YtjiklfffcnfdjaaGreatCfg
import Derived.Test.YtjiklfffcnfdjaaGreatGj
import Derived.Laws.EntriesVeiled
import Derived.Test.YtjiklfffcnfdjaaGreatGh
namespace Go.Proofs.YtjiklfffcnfdjaaGreat
open Go.RowKit

set_option maxHeartbeats 1000000 in
theorem refcfgcheck_bad00 (clear climb height rise run cw cd : Int) (w : World) (h0 : clear < 0) :
    Calls Tryz.prog 14 #[.agg #[.int .i64 clear, .int .i64 climb, .int .i64 height, .int .i64 rise, .int .i64 run, .int .i64 cw, .int .i64 cd]] w fun e w' => e = .returned (.int .i64 20) ∧ Below w.heap.size w w' := by
  go_enter Tryz.func14, Tryz.ntmps14
  go_wp2
  go_ret
  exact ⟨rfl, (Below.refl _ _).alloc (Nat.le_refl _) _⟩

set_option maxHeartbeats 1000000 in
theorem refcfgcheck_bad01 (clear climb height rise run cw cd : Int) (w : World) (h0 : 3 < clear) :
    Calls Tryz.prog 14 #[.agg #[.int .i64 clear, .int .i64 climb, .int .i64 height, .int .i64 rise, .int .i64 run, .int .i64 cw, .int .i64 cd]] w fun e w' => e = .returned (.int .i64 20) ∧ Below w.heap.size w w' := by
  go_enter Tryz.func14, Tryz.ntmps14
  go_wp2
  go_ret
  exact ⟨rfl, (Below.refl _ _).alloc (Nat.le_refl _) _⟩

set_option maxHeartbeats 1000000 in
theorem refcfgcheck_bad10 (clear climb height rise run cw cd : Int) (w : World) (h0 : 0 ≤ clear) (h1 : clear ≤ 3) (h2 : climb < 0) :
    Calls Tryz.prog 14 #[.agg #[.int .i64 clear, .int .i64 climb, .int .i64 height, .int .i64 rise, .int .i64 run, .int .i64 cw, .int .i64 cd]] w fun e w' => e = .returned (.int .i64 20) ∧ Below w.heap.size w w' := by
  go_enter Tryz.func14, Tryz.ntmps14
  go_wp2
  go_ret
  exact ⟨rfl, (Below.refl _ _).alloc (Nat.le_refl _) _⟩

set_option maxHeartbeats 1000000 in
theorem refcfgcheck_bad11 (clear climb height rise run cw cd : Int) (w : World) (h0 : 0 ≤ clear) (h1 : clear ≤ 3) (h2 : 8 < climb) :
    Calls Tryz.prog 14 #[.agg #[.int .i64 clear, .int .i64 climb, .int .i64 height, .int .i64 rise, .int .i64 run, .int .i64 cw, .int .i64 cd]] w fun e w' => e = .returned (.int .i64 20) ∧ Below w.heap.size w w' := by
  go_enter Tryz.func14, Tryz.ntmps14
  go_wp2
  go_ret
  exact ⟨rfl, (Below.refl _ _).alloc (Nat.le_refl _) _⟩

set_option maxHeartbeats 1000000 in
theorem refcfgcheck_bad20 (clear climb height rise run cw cd : Int) (w : World) (h0 : 0 ≤ clear) (h1 : clear ≤ 3) (h2 : 0 ≤ climb) (h3 : climb ≤ 8) (h4 : height ≤ climb) :
    Calls Tryz.prog 14 #[.agg #[.int .i64 clear, .int .i64 climb, .int .i64 height, .int .i64 rise, .int .i64 run, .int .i64 cw, .int .i64 cd]] w fun e w' => e = .returned (.int .i64 20) ∧ Below w.heap.size w w' := by
  go_enter Tryz.func14, Tryz.ntmps14
  go_wp2
  go_ret
  exact ⟨rfl, (Below.refl _ _).alloc (Nat.le_refl _) _⟩

set_option maxHeartbeats 1000000 in
theorem refcfgcheck_bad30 (clear climb height rise run cw cd : Int) (w : World) (h0 : 0 ≤ clear) (h1 : clear ≤ 3) (h2 : 0 ≤ climb) (h3 : climb ≤ 8) (h4 : climb < height) (h5 : 32 < height) :
    Calls Tryz.prog 14 #[.agg #[.int .i64 clear, .int .i64 climb, .int .i64 height, .int .i64 rise, .int .i64 run, .int .i64 cw, .int .i64 cd]] w fun e w' => e = .returned (.int .i64 20) ∧ Below w.heap.size w w' := by
  go_enter Tryz.func14, Tryz.ntmps14
  go_wp2
  go_ret
  exact ⟨rfl, (Below.refl _ _).alloc (Nat.le_refl _) _⟩

set_option maxHeartbeats 1000000 in
theorem refcfgcheck_bad40 (clear climb height rise run cw cd : Int) (w : World) (h0 : 0 ≤ clear) (h1 : clear ≤ 3) (h2 : 0 ≤ climb) (h3 : climb ≤ 8) (h4 : climb < height) (h5 : height ≤ 32) (h6 : rise < 0) :
    Calls Tryz.prog 14 #[.agg #[.int .i64 clear, .int .i64 climb, .int .i64 height, .int .i64 rise, .int .i64 run, .int .i64 cw, .int .i64 cd]] w fun e w' => e = .returned (.int .i64 20) ∧ Below w.heap.size w w' := by
  go_enter Tryz.func14, Tryz.ntmps14
  go_wp2
  go_ret
  exact ⟨rfl, (Below.refl _ _).alloc (Nat.le_refl _) _⟩

set_option maxHeartbeats 1000000 in
theorem refcfgcheck_bad41 (clear climb height rise run cw cd : Int) (w : World) (h0 : 0 ≤ clear) (h1 : clear ≤ 3) (h2 : 0 ≤ climb) (h3 : climb ≤ 8) (h4 : climb < height) (h5 : height ≤ 32) (h6 : 100 < rise) :
    Calls Tryz.prog 14 #[.agg #[.int .i64 clear, .int .i64 climb, .int .i64 height, .int .i64 rise, .int .i64 run, .int .i64 cw, .int .i64 cd]] w fun e w' => e = .returned (.int .i64 20) ∧ Below w.heap.size w w' := by
  go_enter Tryz.func14, Tryz.ntmps14
  go_wp2
  go_ret
  exact ⟨rfl, (Below.refl _ _).alloc (Nat.le_refl _) _⟩

set_option maxHeartbeats 1000000 in
theorem refcfgcheck_bad50 (clear climb height rise run cw cd : Int) (w : World) (h0 : 0 ≤ clear) (h1 : clear ≤ 3) (h2 : 0 ≤ climb) (h3 : climb ≤ 8) (h4 : climb < height) (h5 : height ≤ 32) (h6 : 0 ≤ rise) (h7 : rise ≤ 100) (h8 : run < 1) :
    Calls Tryz.prog 14 #[.agg #[.int .i64 clear, .int .i64 climb, .int .i64 height, .int .i64 rise, .int .i64 run, .int .i64 cw, .int .i64 cd]] w fun e w' => e = .returned (.int .i64 20) ∧ Below w.heap.size w w' := by
  go_enter Tryz.func14, Tryz.ntmps14
  go_wp2
  go_ret
  exact ⟨rfl, (Below.refl _ _).alloc (Nat.le_refl _) _⟩

set_option maxHeartbeats 1000000 in
theorem refcfgcheck_bad51 (clear climb height rise run cw cd : Int) (w : World) (h0 : 0 ≤ clear) (h1 : clear ≤ 3) (h2 : 0 ≤ climb) (h3 : climb ≤ 8) (h4 : climb < height) (h5 : height ≤ 32) (h6 : 0 ≤ rise) (h7 : rise ≤ 100) (h8 : 100 < run) :
    Calls Tryz.prog 14 #[.agg #[.int .i64 clear, .int .i64 climb, .int .i64 height, .int .i64 rise, .int .i64 run, .int .i64 cw, .int .i64 cd]] w fun e w' => e = .returned (.int .i64 20) ∧ Below w.heap.size w w' := by
  go_enter Tryz.func14, Tryz.ntmps14
  go_wp2
  go_ret
  exact ⟨rfl, (Below.refl _ _).alloc (Nat.le_refl _) _⟩

set_option maxHeartbeats 1000000 in
theorem refcfgcheck_bad60 (clear climb height rise run cw cd : Int) (w : World) (h0 : 0 ≤ clear) (h1 : clear ≤ 3) (h2 : 0 ≤ climb) (h3 : climb ≤ 8) (h4 : climb < height) (h5 : height ≤ 32) (h6 : 0 ≤ rise) (h7 : rise ≤ 100) (h8 : 1 ≤ run) (h9 : run ≤ 100) (h10 : cw < 1) :
    Calls Tryz.prog 14 #[.agg #[.int .i64 clear, .int .i64 climb, .int .i64 height, .int .i64 rise, .int .i64 run, .int .i64 cw, .int .i64 cd]] w fun e w' => e = .returned (.int .i64 20) ∧ Below w.heap.size w w' := by
  go_enter Tryz.func14, Tryz.ntmps14
  go_wp2
  go_ret
  exact ⟨rfl, (Below.refl _ _).alloc (Nat.le_refl _) _⟩

set_option maxHeartbeats 1000000 in
theorem refcfgcheck_bad61 (clear climb height rise run cw cd : Int) (w : World) (h0 : 0 ≤ clear) (h1 : clear ≤ 3) (h2 : 0 ≤ climb) (h3 : climb ≤ 8) (h4 : climb < height) (h5 : height ≤ 32) (h6 : 0 ≤ rise) (h7 : rise ≤ 100) (h8 : 1 ≤ run) (h9 : run ≤ 100) (h10 : 32 < cw) :
    Calls Tryz.prog 14 #[.agg #[.int .i64 clear, .int .i64 climb, .int .i64 height, .int .i64 rise, .int .i64 run, .int .i64 cw, .int .i64 cd]] w fun e w' => e = .returned (.int .i64 20) ∧ Below w.heap.size w w' := by
  go_enter Tryz.func14, Tryz.ntmps14
  go_wp2
  go_ret
  exact ⟨rfl, (Below.refl _ _).alloc (Nat.le_refl _) _⟩

set_option maxHeartbeats 1000000 in
theorem refcfgcheck_bad70 (clear climb height rise run cw cd : Int) (w : World) (h0 : 0 ≤ clear) (h1 : clear ≤ 3) (h2 : 0 ≤ climb) (h3 : climb ≤ 8) (h4 : climb < height) (h5 : height ≤ 32) (h6 : 0 ≤ rise) (h7 : rise ≤ 100) (h8 : 1 ≤ run) (h9 : run ≤ 100) (h10 : 1 ≤ cw) (h11 : cw ≤ 32) (h12 : cd < 1) :
    Calls Tryz.prog 14 #[.agg #[.int .i64 clear, .int .i64 climb, .int .i64 height, .int .i64 rise, .int .i64 run, .int .i64 cw, .int .i64 cd]] w fun e w' => e = .returned (.int .i64 20) ∧ Below w.heap.size w w' := by
  go_enter Tryz.func14, Tryz.ntmps14
  go_wp2
  go_ret
  exact ⟨rfl, (Below.refl _ _).alloc (Nat.le_refl _) _⟩

set_option maxHeartbeats 1000000 in
theorem refcfgcheck_bad71 (clear climb height rise run cw cd : Int) (w : World) (h0 : 0 ≤ clear) (h1 : clear ≤ 3) (h2 : 0 ≤ climb) (h3 : climb ≤ 8) (h4 : climb < height) (h5 : height ≤ 32) (h6 : 0 ≤ rise) (h7 : rise ≤ 100) (h8 : 1 ≤ run) (h9 : run ≤ 100) (h10 : 1 ≤ cw) (h11 : cw ≤ 32) (h12 : 32 < cd) :
    Calls Tryz.prog 14 #[.agg #[.int .i64 clear, .int .i64 climb, .int .i64 height, .int .i64 rise, .int .i64 run, .int .i64 cw, .int .i64 cd]] w fun e w' => e = .returned (.int .i64 20) ∧ Below w.heap.size w w' := by
  go_enter Tryz.func14, Tryz.ntmps14
  go_wp2
  go_ret
  exact ⟨rfl, (Below.refl _ _).alloc (Nat.le_refl _) _⟩

set_option maxHeartbeats 1000000 in
theorem refcfgcheck_good (clear climb height rise run cw cd : Int) (w : World) (h0 : 0 ≤ clear) (h1 : clear ≤ 3) (h2 : 0 ≤ climb) (h3 : climb ≤ 8) (h4 : climb < height) (h5 : height ≤ 32) (h6 : 0 ≤ rise) (h7 : rise ≤ 100) (h8 : 1 ≤ run) (h9 : run ≤ 100) (h10 : 1 ≤ cw) (h11 : cw ≤ 32) (h12 : 1 ≤ cd) (h13 : cd ≤ 32) :
    Calls Tryz.prog 14 #[.agg #[.int .i64 clear, .int .i64 climb, .int .i64 height, .int .i64 rise, .int .i64 run, .int .i64 cw, .int .i64 cd]] w fun e w' => e = .returned (.int .i64 0) ∧ Below w.heap.size w w' := by
  go_enter Tryz.func14, Tryz.ntmps14
  go_wp2
  go_ret
  exact ⟨rfl, (Below.refl _ _).alloc (Nat.le_refl _) _⟩

theorem refcfgcheck_any (c : Cfg) (w : World) :
    Calls Tryz.prog 14 #[cfgV c] w fun e w' => e = .returned (.int .i64 (cfgE c)) ∧ Below w.heap.size w w' := by
  obtain ⟨clear, climb, height, rise, run, cw, cd⟩ := c
  obtain ⟨r, hr⟩ : ∃ r, r = cfgE ⟨clear, climb, height, rise, run, cw, cd⟩ := ⟨_, rfl⟩
  rw [← hr]
  by_cases b00 : clear < 0
  · obtain rfl : r = 20 := by rw [hr, cfgE, if_neg (by simp only [cfgOk, decide_eq_true_eq]; omega)]
    exact refcfgcheck_bad00 clear climb height rise run cw cd w (by omega)
  by_cases b01 : 3 < clear
  · obtain rfl : r = 20 := by rw [hr, cfgE, if_neg (by simp only [cfgOk, decide_eq_true_eq]; omega)]
    exact refcfgcheck_bad01 clear climb height rise run cw cd w (by omega)
  by_cases b10 : climb < 0
  · obtain rfl : r = 20 := by rw [hr, cfgE, if_neg (by simp only [cfgOk, decide_eq_true_eq]; omega)]
    exact refcfgcheck_bad10 clear climb height rise run cw cd w (by omega) (by omega) (by omega)
  by_cases b11 : 8 < climb
  · obtain rfl : r = 20 := by rw [hr, cfgE, if_neg (by simp only [cfgOk, decide_eq_true_eq]; omega)]
    exact refcfgcheck_bad11 clear climb height rise run cw cd w (by omega) (by omega) (by omega)
  by_cases b20 : height ≤ climb
  · obtain rfl : r = 20 := by rw [hr, cfgE, if_neg (by simp only [cfgOk, decide_eq_true_eq]; omega)]
    exact refcfgcheck_bad20 clear climb height rise run cw cd w (by omega) (by omega) (by omega) (by omega) (by omega)
  by_cases b30 : 32 < height
  · obtain rfl : r = 20 := by rw [hr, cfgE, if_neg (by simp only [cfgOk, decide_eq_true_eq]; omega)]
    exact refcfgcheck_bad30 clear climb height rise run cw cd w (by omega) (by omega) (by omega) (by omega) (by omega) (by omega)
  by_cases b40 : rise < 0
  · obtain rfl : r = 20 := by rw [hr, cfgE, if_neg (by simp only [cfgOk, decide_eq_true_eq]; omega)]
    exact refcfgcheck_bad40 clear climb height rise run cw cd w (by omega) (by omega) (by omega) (by omega) (by omega) (by omega) (by omega)
  by_cases b41 : 100 < rise
  · obtain rfl : r = 20 := by rw [hr, cfgE, if_neg (by simp only [cfgOk, decide_eq_true_eq]; omega)]
    exact refcfgcheck_bad41 clear climb height rise run cw cd w (by omega) (by omega) (by omega) (by omega) (by omega) (by omega) (by omega)
  by_cases b50 : run < 1
  · obtain rfl : r = 20 := by rw [hr, cfgE, if_neg (by simp only [cfgOk, decide_eq_true_eq]; omega)]
    exact refcfgcheck_bad50 clear climb height rise run cw cd w (by omega) (by omega) (by omega) (by omega) (by omega) (by omega) (by omega) (by omega) (by omega)
  by_cases b51 : 100 < run
  · obtain rfl : r = 20 := by rw [hr, cfgE, if_neg (by simp only [cfgOk, decide_eq_true_eq]; omega)]
    exact refcfgcheck_bad51 clear climb height rise run cw cd w (by omega) (by omega) (by omega) (by omega) (by omega) (by omega) (by omega) (by omega) (by omega)
  by_cases b60 : cw < 1
  · obtain rfl : r = 20 := by rw [hr, cfgE, if_neg (by simp only [cfgOk, decide_eq_true_eq]; omega)]
    exact refcfgcheck_bad60 clear climb height rise run cw cd w (by omega) (by omega) (by omega) (by omega) (by omega) (by omega) (by omega) (by omega) (by omega) (by omega) (by omega)
  by_cases b61 : 32 < cw
  · obtain rfl : r = 20 := by rw [hr, cfgE, if_neg (by simp only [cfgOk, decide_eq_true_eq]; omega)]
    exact refcfgcheck_bad61 clear climb height rise run cw cd w (by omega) (by omega) (by omega) (by omega) (by omega) (by omega) (by omega) (by omega) (by omega) (by omega) (by omega)
  by_cases b70 : cd < 1
  · obtain rfl : r = 20 := by rw [hr, cfgE, if_neg (by simp only [cfgOk, decide_eq_true_eq]; omega)]
    exact refcfgcheck_bad70 clear climb height rise run cw cd w (by omega) (by omega) (by omega) (by omega) (by omega) (by omega) (by omega) (by omega) (by omega) (by omega) (by omega) (by omega) (by omega)
  by_cases b71 : 32 < cd
  · obtain rfl : r = 20 := by rw [hr, cfgE, if_neg (by simp only [cfgOk, decide_eq_true_eq]; omega)]
    exact refcfgcheck_bad71 clear climb height rise run cw cd w (by omega) (by omega) (by omega) (by omega) (by omega) (by omega) (by omega) (by omega) (by omega) (by omega) (by omega) (by omega) (by omega)
  obtain rfl : r = 0 := by rw [hr, cfgE, if_pos (by simp only [cfgOk, decide_eq_true_eq]; omega)]
  exact refcfgcheck_good clear climb height rise run cw cd w (by omega) (by omega) (by omega) (by omega) (by omega) (by omega) (by omega) (by omega) (by omega) (by omega) (by omega) (by omega) (by omega) (by omega)

end Go.Proofs.YtjiklfffcnfdjaaGreat

namespace Go.Proofs.YtjiklfffcnfdjaaGreat
open Go.RowKit

/-- Where the room above a span ends. -/
def roomN (xs : List Spn) (k : Nat) : Int := match xs[k + 1]? with
  | none => 1048576
  | some y => y.lo
def roomB (xs : List Spn) (k : Int) : Bool := spOk xs && decide (0 ≤ k) && decide (k < xs.length)
def roomI (xs : List Spn) (k : Int) : Int := if roomB xs k then roomN xs k.toNat else 0
def fitsN (c : Cfg) (xs : List Spn) (k : Nat) : Bool := match xs[k]? with
  | none => false
  | some x => cfgOk c && decide (c.height ≤ roomN xs k - x.hi)
def fitsI (c : Cfg) (xs : List Spn) (k : Int) : Bool := roomB xs k && fitsN c xs k.toNat

theorem roomI_false {xs : List Spn} {k : Int} (h : roomB xs k = false) : roomI xs k = 0 := by simp [roomI, h]
theorem roomI_true {xs : List Spn} {k : Int} (h : roomB xs k = true) : roomI xs k = roomN xs k.toNat := by simp [roomI, h]

theorem spE_eq (xs : List Spn) : (spE xs = 0 ∧ spOk xs = true) ∨ (spE xs = 2 ∧ spOk xs = false) := by
  unfold spE
  cases spOk xs <;> simp
theorem cfgE_eq (c : Cfg) : (cfgE c = 0 ∧ cfgOk c = true) ∨ (cfgE c = 20 ∧ cfgOk c = false) := by
  unfold cfgE
  cases cfgOk c <;> simp
theorem spOk_may {xs : List Spn} (h : spOk xs = true) {k : Nat} {x : Spn} (hx : xs[k]? = some x) : x.lo ≤ x.hi ∧ -2048 ≤ x.lo ∧ x.hi ≤ 2048 := by
  simp only [spOk, Bool.and_eq_true, List.all_eq_true] at h
  have hk := (List.getElem?_eq_some_iff.1 hx).1
  have := h.2 k (by simpa using hk)
  simp only [goodAt, hx, Bool.and_eq_true, mayS, decide_eq_true_eq] at this
  exact ⟨this.1.1.1, this.1.1.2, this.1.2⟩
theorem roomN_bd {xs : List Spn} (h : spOk xs = true) (k : Nat) : -2048 ≤ roomN xs k ∧ roomN xs k ≤ 1048576 := by
  unfold roomN
  cases hy : xs[k + 1]? with
  | none => simp
  | some y => have := spOk_may h hy; simp only; omega
theorem roomB_lt {xs : List Spn} {k : Int} (h : roomB xs k = true) : spOk xs = true ∧ 0 ≤ k ∧ k < xs.length := by
  simpa [roomB, and_assoc] using h

/-- What Room answers. -/
def RoomPost (xs : List Spn) (k : Int) (w : World) (e : Ending) (w' : World) : Prop := e = .returned (.tuple #[.int .i64 (roomI xs k), .bool (roomB xs k)]) ∧ Below w.heap.size w w'

set_option maxHeartbeats 400000 in
theorem room_any (a : Option Addr) (n c : Nat) (xs : List Spn) (k : Int) (w : World) (hx : SlSp w a n c xs) :
    Calls Tryz.prog 23 #[.slice a n c, .int .i64 k] w (RoomPost xs k w) := by
  have Hl := Lib.hid hx.len
  have hmax := hx.max
  have hle := hx.le
  have Hx := Lib.hid hx; clear hx
  rcases spE_eq xs with ⟨he, hok⟩ | ⟨he, hok⟩
  · have He := Lib.hid he; clear he
    have Hok := Lib.hid hok; clear hok
    by_cases hk0 : k < 0
    · have Hr : Hid (roomB xs k = false) := by show _ = _; simp [roomB, show ¬ 0 ≤ k by omega]
      go_enter Tryz.func23, Tryz.ntmps23
      go_wp2_with fail
      refine (spancheck_any a n c xs _ Hx.out).mono ?_
      rintro e w1 ⟨rfl, hb1⟩
      rw [He.out]
      go_wp2
      go_ret2
      unfold RoomPost
      rw [roomI_false Hr.out, Hr.out]
      exact ⟨rfl, hb1⟩
    by_cases hkn : (n : Int) ≤ k
    · have Hr : Hid (roomB xs k = false) := by show _ = _; simp [roomB, show ¬ k < xs.length by rw [Hl.out]; omega]
      go_enter Tryz.func23, Tryz.ntmps23
      go_wp2_with fail
      refine (spancheck_any a n c xs _ Hx.out).mono ?_
      rintro e w1 ⟨rfl, hb1⟩
      rw [He.out]
      go_wp2
      go_ret2
      unfold RoomPost
      rw [roomI_false Hr.out, Hr.out]
      exact ⟨rfl, hb1⟩
    obtain ⟨j, rfl⟩ := Int.eq_ofNat_of_zero_le (show 0 ≤ k by omega)
    have hj : j < n := by omega
    have Hr : Hid (roomB xs j = true) := by show _ = _; simp [roomB, Hok.out, Hl.out, hj]
    by_cases hj1 : j + 1 < n
    · obtain ⟨y, hy⟩ : ∃ y, xs[j + 1]? = some y := ⟨_, List.getElem?_eq_getElem (by rw [Hl.out]; exact hj1)⟩
      have Hrn : Hid (roomI xs j = y.lo) := by show _ = _; rw [roomI_true Hr.out]; simp [roomN, hy]
      have hj2 : (j : Int) + 1 < (n : Int) := by omega
      go_enter Tryz.func23, Tryz.ntmps23
      go_wp2_with fail
      refine (spancheck_any a n c xs _ Hx.out).mono ?_
      rintro e w1 ⟨rfl, hb1⟩
      rw [He.out]
      obtain ⟨b, off, rfl, hbl, hc⟩ := (Hx.out.below hb1 (Nat.le_refl _)).at0 (by omega)
      have c1 := (SlSp.cells hc hy).1
      clear hc hy
      go_wp2
      go_ret2
      unfold RoomPost
      rw [Hrn.out, Hr.out]
      exact ⟨rfl, hb1⟩
    · have Hrn : Hid (roomI xs j = 1048576) := by show _ = _; rw [roomI_true Hr.out]; simp [roomN, List.getElem?_eq_none (show xs.length ≤ j + 1 by rw [Hl.out]; omega)]
      have hj2 : ¬ (j : Int) + 1 < (n : Int) := by omega
      go_enter Tryz.func23, Tryz.ntmps23
      go_wp2_with fail
      refine (spancheck_any a n c xs _ Hx.out).mono ?_
      rintro e w1 ⟨rfl, hb1⟩
      rw [He.out]
      go_wp2
      go_ret2
      unfold RoomPost
      rw [Hrn.out, Hr.out]
      exact ⟨rfl, hb1⟩
  · have He := Lib.hid he; clear he
    have Hr : Hid (roomB xs k = false) := by show _ = _; simp [roomB, hok]
    clear hok
    go_enter Tryz.func23, Tryz.ntmps23
    go_wp2_with fail
    refine (spancheck_any a n c xs _ Hx.out).mono ?_
    rintro e w1 ⟨rfl, hb1⟩
    rw [He.out]
    go_wp2
    go_ret2
    unfold RoomPost
    rw [roomI_false Hr.out, Hr.out]
    exact ⟨rfl, hb1⟩

set_option maxHeartbeats 400000 in
theorem fits_any (cf : Cfg) (a : Option Addr) (n c : Nat) (xs : List Spn) (k : Int) (w : World) (hx : SlSp w a n c xs) :
    Calls Tryz.prog 21 #[cfgV cf, .slice a n c, .int .i64 k] w fun e w' => e = .returned (.bool (fitsI cf xs k)) ∧ Below w.heap.size w w' := by
  have Hl := Lib.hid hx.len
  have hmax := hx.max
  have hle := hx.le
  have Hx := Lib.hid hx; clear hx
  have hck := cfgcheck_any cf
  have hcc := cfgE_eq cf
  have hff : fitsI cf xs k = (roomB xs k && fitsN cf xs k.toNat) := rfl
  obtain ⟨r, hr⟩ : ∃ r, r = roomB xs k := ⟨_, rfl⟩
  cases r with
  | false =>
    have Hf : Hid (fitsI cf xs k = false) := by show _ = _; rw [hff, ← hr]; rfl
    have Hr := Lib.hid hr.symm
    clear hr hck hcc hff
    obtain ⟨clear, climb, height, rise, run, cw, cd⟩ := cf
    unfold cfgV
    simp only
    go_enter Tryz.func21, Tryz.ntmps21
    go_wp2_with fail
    refine (room_any a n c xs _ _ (Hx.out.alloc _)).mono ?_
    rintro e w1 ⟨rfl, hb1⟩
    have hB1 : Below w.heap.size w w1 := ((Below.refl _ _).alloc (Nat.le_refl _) _).trans (hb1.mono (by simp))
    rw [Hr.out]
    have d0 : w1.cell? ⟨w.heap.size, 0, none⟩ = some (.int .i64 clear) := (hb1.cell (p := ⟨w.heap.size, 0, none⟩) (by simp)).trans (World.cell?_alloc_at _ _ _ _ rfl)
    have e0 := fun d os => cell_regrown d0 d os
    have d1 : w1.cell? ⟨w.heap.size, 1, none⟩ = some (.int .i64 climb) := (hb1.cell (p := ⟨w.heap.size, 1, none⟩) (by simp)).trans (World.cell?_alloc_at _ _ _ _ rfl)
    have e1 := fun d os => cell_regrown d1 d os
    have d2 : w1.cell? ⟨w.heap.size, 2, none⟩ = some (.int .i64 height) := (hb1.cell (p := ⟨w.heap.size, 2, none⟩) (by simp)).trans (World.cell?_alloc_at _ _ _ _ rfl)
    have e2 := fun d os => cell_regrown d2 d os
    have d3 : w1.cell? ⟨w.heap.size, 3, none⟩ = some (.int .i64 rise) := (hb1.cell (p := ⟨w.heap.size, 3, none⟩) (by simp)).trans (World.cell?_alloc_at _ _ _ _ rfl)
    have e3 := fun d os => cell_regrown d3 d os
    have d4 : w1.cell? ⟨w.heap.size, 4, none⟩ = some (.int .i64 run) := (hb1.cell (p := ⟨w.heap.size, 4, none⟩) (by simp)).trans (World.cell?_alloc_at _ _ _ _ rfl)
    have e4 := fun d os => cell_regrown d4 d os
    have d5 : w1.cell? ⟨w.heap.size, 5, none⟩ = some (.int .i64 cw) := (hb1.cell (p := ⟨w.heap.size, 5, none⟩) (by simp)).trans (World.cell?_alloc_at _ _ _ _ rfl)
    have e5 := fun d os => cell_regrown d5 d os
    have d6 : w1.cell? ⟨w.heap.size, 6, none⟩ = some (.int .i64 cd) := (hb1.cell (p := ⟨w.heap.size, 6, none⟩) (by simp)).trans (World.cell?_alloc_at _ _ _ _ rfl)
    have e6 := fun d os => cell_regrown d6 d os
    clear d0 d1 d2 d3 d4 d5 d6
    go_wp2
    refine wp_region_quiet_below (by kernel_rfl) (by kernel_rfl) ?_
    repeat (go_big_quiet_step (fail))
    refine wpQuiet_nil ?_
    rintro w' ⟨⟨dq, osq⟩, hw''⟩
    have hB2 : Below w.heap.size w w' := by rw [hw'']; exact hB1.trans ((below_regrown w1 dq osq).mono hB1.size)
    clear hw'' e0 e1 e2 e3 e4 e5 e6
    go_wp2
    go_ret
    exact ⟨ret_bool (by first | exact Hf.out.symm | (rw [Hf.out]; simp; omega)), hB2⟩
  | true =>
    obtain ⟨hok, hk0, hkn⟩ := roomB_lt hr.symm
    have hkn : k < (n : Int) := by have := Hl.out; omega
    obtain ⟨j, rfl⟩ := Int.eq_ofNat_of_zero_le hk0
    have hj : j < n := by omega
    obtain ⟨x, hxj⟩ : ∃ x, xs[j]? = some x := ⟨_, List.getElem?_eq_getElem (by rw [Hl.out]; exact hj)⟩
    have hm := spOk_may hok hxj
    have hrn := roomN_bd hok j
    have hfn : fitsN cf xs j = (cfgOk cf && decide (cf.height ≤ roomN xs j - x.hi)) := by simp [fitsN, hxj]
    rw [← hr, Bool.true_and, Int.toNat_natCast, hfn] at hff
    have hri : roomI xs j = roomN xs j := by rw [roomI_true hr.symm, Int.toNat_natCast]
    obtain ⟨t, ht⟩ : ∃ t, t = roomN xs j := ⟨_, rfl⟩
    rw [← ht] at hff hri hrn
    have Hri := Lib.hid hri
    have Hr := Lib.hid hr.symm
    have Hxj := Lib.hid hxj
    clear hr hri hok ht hfn hxj
    obtain ⟨clear, climb, height, rise, run, cw, cd⟩ := cf
    obtain ⟨xlo, xhi, xwk⟩ := x
    unfold cfgV at hck
    unfold cfgV
    simp only at hck hm hff ⊢
    rcases hcc with ⟨h1, h2⟩ | ⟨h1, h2⟩
    · rw [h1] at hck
      rw [h2, Bool.true_and] at hff
      have Hck := Lib.hid hck
      clear hck h1 h2
      by_cases hh : height ≤ t - xhi
      · have Hf : Hid (fitsI ⟨clear, climb, height, rise, run, cw, cd⟩ xs j = true) := by show _ = _; rw [hff]; simp [hh]
        clear hff
        go_enter Tryz.func21, Tryz.ntmps21
        go_wp2_with fail
        refine (room_any a n c xs _ _ (Hx.out.alloc _)).mono ?_
        rintro e w1 ⟨rfl, hb1⟩
        have hB1 : Below w.heap.size w w1 := ((Below.refl _ _).alloc (Nat.le_refl _) _).trans (hb1.mono (by simp))
        rw [Hr.out, Hri.out]
        obtain ⟨b, off, rfl, hbl, hc⟩ := (Hx.out.below hB1 (Nat.le_refl _)).at0 (by omega)
        have p2 := (SlSp.cells hc Hxj.out).2.1
        have e7 := fun d os => cell_regrown p2 d os
        clear hc p2
        have d0 : w1.cell? ⟨w.heap.size, 0, none⟩ = some (.int .i64 clear) := (hb1.cell (p := ⟨w.heap.size, 0, none⟩) (by simp)).trans (World.cell?_alloc_at _ _ _ _ rfl)
        have e0 := fun d os => cell_regrown d0 d os
        have d1 : w1.cell? ⟨w.heap.size, 1, none⟩ = some (.int .i64 climb) := (hb1.cell (p := ⟨w.heap.size, 1, none⟩) (by simp)).trans (World.cell?_alloc_at _ _ _ _ rfl)
        have e1 := fun d os => cell_regrown d1 d os
        have d2 : w1.cell? ⟨w.heap.size, 2, none⟩ = some (.int .i64 height) := (hb1.cell (p := ⟨w.heap.size, 2, none⟩) (by simp)).trans (World.cell?_alloc_at _ _ _ _ rfl)
        have e2 := fun d os => cell_regrown d2 d os
        have d3 : w1.cell? ⟨w.heap.size, 3, none⟩ = some (.int .i64 rise) := (hb1.cell (p := ⟨w.heap.size, 3, none⟩) (by simp)).trans (World.cell?_alloc_at _ _ _ _ rfl)
        have e3 := fun d os => cell_regrown d3 d os
        have d4 : w1.cell? ⟨w.heap.size, 4, none⟩ = some (.int .i64 run) := (hb1.cell (p := ⟨w.heap.size, 4, none⟩) (by simp)).trans (World.cell?_alloc_at _ _ _ _ rfl)
        have e4 := fun d os => cell_regrown d4 d os
        have d5 : w1.cell? ⟨w.heap.size, 5, none⟩ = some (.int .i64 cw) := (hb1.cell (p := ⟨w.heap.size, 5, none⟩) (by simp)).trans (World.cell?_alloc_at _ _ _ _ rfl)
        have e5 := fun d os => cell_regrown d5 d os
        have d6 : w1.cell? ⟨w.heap.size, 6, none⟩ = some (.int .i64 cd) := (hb1.cell (p := ⟨w.heap.size, 6, none⟩) (by simp)).trans (World.cell?_alloc_at _ _ _ _ rfl)
        have e6 := fun d os => cell_regrown d6 d os
        clear d0 d1 d2 d3 d4 d5 d6
        go_wp2
        refine wp_region_quiet_below (by kernel_rfl) (by kernel_rfl) ?_
        repeat (go_big_quiet_step (exact Calls.regrown_of (Hck.out _)))
        refine wpQuiet_nil ?_
        rintro w' ⟨⟨dq, osq⟩, hw''⟩
        have hB2 : Below w.heap.size w w' := by rw [hw'']; exact hB1.trans ((below_regrown w1 dq osq).mono hB1.size)
        clear hw'' e0 e1 e2 e3 e4 e5 e6 e7
        go_wp2
        go_ret
        exact ⟨ret_bool (by first | exact Hf.out.symm | (rw [Hf.out]; simp; omega)), hB2⟩
      · have Hf : Hid (fitsI ⟨clear, climb, height, rise, run, cw, cd⟩ xs j = false) := by show _ = _; rw [hff]; simp; omega
        clear hff
        go_enter Tryz.func21, Tryz.ntmps21
        go_wp2_with fail
        refine (room_any a n c xs _ _ (Hx.out.alloc _)).mono ?_
        rintro e w1 ⟨rfl, hb1⟩
        have hB1 : Below w.heap.size w w1 := ((Below.refl _ _).alloc (Nat.le_refl _) _).trans (hb1.mono (by simp))
        rw [Hr.out, Hri.out]
        obtain ⟨b, off, rfl, hbl, hc⟩ := (Hx.out.below hB1 (Nat.le_refl _)).at0 (by omega)
        have p2 := (SlSp.cells hc Hxj.out).2.1
        have e7 := fun d os => cell_regrown p2 d os
        clear hc p2
        have d0 : w1.cell? ⟨w.heap.size, 0, none⟩ = some (.int .i64 clear) := (hb1.cell (p := ⟨w.heap.size, 0, none⟩) (by simp)).trans (World.cell?_alloc_at _ _ _ _ rfl)
        have e0 := fun d os => cell_regrown d0 d os
        have d1 : w1.cell? ⟨w.heap.size, 1, none⟩ = some (.int .i64 climb) := (hb1.cell (p := ⟨w.heap.size, 1, none⟩) (by simp)).trans (World.cell?_alloc_at _ _ _ _ rfl)
        have e1 := fun d os => cell_regrown d1 d os
        have d2 : w1.cell? ⟨w.heap.size, 2, none⟩ = some (.int .i64 height) := (hb1.cell (p := ⟨w.heap.size, 2, none⟩) (by simp)).trans (World.cell?_alloc_at _ _ _ _ rfl)
        have e2 := fun d os => cell_regrown d2 d os
        have d3 : w1.cell? ⟨w.heap.size, 3, none⟩ = some (.int .i64 rise) := (hb1.cell (p := ⟨w.heap.size, 3, none⟩) (by simp)).trans (World.cell?_alloc_at _ _ _ _ rfl)
        have e3 := fun d os => cell_regrown d3 d os
        have d4 : w1.cell? ⟨w.heap.size, 4, none⟩ = some (.int .i64 run) := (hb1.cell (p := ⟨w.heap.size, 4, none⟩) (by simp)).trans (World.cell?_alloc_at _ _ _ _ rfl)
        have e4 := fun d os => cell_regrown d4 d os
        have d5 : w1.cell? ⟨w.heap.size, 5, none⟩ = some (.int .i64 cw) := (hb1.cell (p := ⟨w.heap.size, 5, none⟩) (by simp)).trans (World.cell?_alloc_at _ _ _ _ rfl)
        have e5 := fun d os => cell_regrown d5 d os
        have d6 : w1.cell? ⟨w.heap.size, 6, none⟩ = some (.int .i64 cd) := (hb1.cell (p := ⟨w.heap.size, 6, none⟩) (by simp)).trans (World.cell?_alloc_at _ _ _ _ rfl)
        have e6 := fun d os => cell_regrown d6 d os
        clear d0 d1 d2 d3 d4 d5 d6
        go_wp2
        refine wp_region_quiet_below (by kernel_rfl) (by kernel_rfl) ?_
        repeat (go_big_quiet_step (exact Calls.regrown_of (Hck.out _)))
        refine wpQuiet_nil ?_
        rintro w' ⟨⟨dq, osq⟩, hw''⟩
        have hB2 : Below w.heap.size w w' := by rw [hw'']; exact hB1.trans ((below_regrown w1 dq osq).mono hB1.size)
        clear hw'' e0 e1 e2 e3 e4 e5 e6 e7
        go_wp2
        go_ret
        exact ⟨ret_bool (by first | exact Hf.out.symm | (rw [Hf.out]; simp; omega)), hB2⟩
    · rw [h1] at hck
      rw [h2, Bool.false_and] at hff
      have Hck := Lib.hid hck
      have Hf := Lib.hid hff
      clear hck h1 h2 hff
      go_enter Tryz.func21, Tryz.ntmps21
      go_wp2_with fail
      refine (room_any a n c xs _ _ (Hx.out.alloc _)).mono ?_
      rintro e w1 ⟨rfl, hb1⟩
      have hB1 : Below w.heap.size w w1 := ((Below.refl _ _).alloc (Nat.le_refl _) _).trans (hb1.mono (by simp))
      rw [Hr.out, Hri.out]
      have d0 : w1.cell? ⟨w.heap.size, 0, none⟩ = some (.int .i64 clear) := (hb1.cell (p := ⟨w.heap.size, 0, none⟩) (by simp)).trans (World.cell?_alloc_at _ _ _ _ rfl)
      have e0 := fun d os => cell_regrown d0 d os
      have d1 : w1.cell? ⟨w.heap.size, 1, none⟩ = some (.int .i64 climb) := (hb1.cell (p := ⟨w.heap.size, 1, none⟩) (by simp)).trans (World.cell?_alloc_at _ _ _ _ rfl)
      have e1 := fun d os => cell_regrown d1 d os
      have d2 : w1.cell? ⟨w.heap.size, 2, none⟩ = some (.int .i64 height) := (hb1.cell (p := ⟨w.heap.size, 2, none⟩) (by simp)).trans (World.cell?_alloc_at _ _ _ _ rfl)
      have e2 := fun d os => cell_regrown d2 d os
      have d3 : w1.cell? ⟨w.heap.size, 3, none⟩ = some (.int .i64 rise) := (hb1.cell (p := ⟨w.heap.size, 3, none⟩) (by simp)).trans (World.cell?_alloc_at _ _ _ _ rfl)
      have e3 := fun d os => cell_regrown d3 d os
      have d4 : w1.cell? ⟨w.heap.size, 4, none⟩ = some (.int .i64 run) := (hb1.cell (p := ⟨w.heap.size, 4, none⟩) (by simp)).trans (World.cell?_alloc_at _ _ _ _ rfl)
      have e4 := fun d os => cell_regrown d4 d os
      have d5 : w1.cell? ⟨w.heap.size, 5, none⟩ = some (.int .i64 cw) := (hb1.cell (p := ⟨w.heap.size, 5, none⟩) (by simp)).trans (World.cell?_alloc_at _ _ _ _ rfl)
      have e5 := fun d os => cell_regrown d5 d os
      have d6 : w1.cell? ⟨w.heap.size, 6, none⟩ = some (.int .i64 cd) := (hb1.cell (p := ⟨w.heap.size, 6, none⟩) (by simp)).trans (World.cell?_alloc_at _ _ _ _ rfl)
      have e6 := fun d os => cell_regrown d6 d os
      clear d0 d1 d2 d3 d4 d5 d6
      go_wp2
      refine wp_region_quiet_below (by kernel_rfl) (by kernel_rfl) ?_
      repeat (go_big_quiet_step (exact Calls.regrown_of (Hck.out _)))
      refine wpQuiet_nil ?_
      rintro w' ⟨⟨dq, osq⟩, hw''⟩
      have hB2 : Below w.heap.size w w' := by rw [hw'']; exact hB1.trans ((below_regrown w1 dq osq).mono hB1.size)
      clear hw'' e0 e1 e2 e3 e4 e5 e6
      go_wp2
      go_ret
      exact ⟨ret_bool (by first | exact Hf.out.symm | (rw [Hf.out]; simp; omega)), hB2⟩

end Go.Proofs.YtjiklfffcnfdjaaGreat

namespace Go.Proofs.YtjiklfffcnfdjaaGreat
open Go.RowKit Go.Shelf Go.Sort
attribute [local go_sem] Oper.semAt_some

def cfgL (c : Cfg) : List Value := [.int .i64 c.clear, .int .i64 c.climb, .int .i64 c.height, .int .i64 c.rise, .int .i64 c.run, .int .i64 c.w, .int .i64 c.d]

/-- What Each has laid from block B on: the config, the spans, the test. -/
structure EachAt (B : Nat) (cf : Cfg) (a : Option Addr) (n c : Nat) (xs : List Spn) (w : World) : Prop where
  cfg : ∀ j v, (cfgL cf)[j]? = some v → w.cell? ⟨B, j, none⟩ = some v
  sl : w.cell? ⟨B + 1, 0, none⟩ = some (.slice a n c)
  op : w.cell? ⟨B + 2, 0, none⟩ = some (.func (.func 20) #[] #[.pointer (some ⟨B + 1, 0, none⟩), .pointer (some ⟨B, 0, none⟩)])
  xs : SlSp w a n c xs
  lt : B + 2 < w.heap.size

theorem EachAt.below {B : Nat} {cf : Cfg} {a : Option Addr} {n c : Nat} {xs : List Spn} {w w' : World} (h : EachAt B cf a n c xs w) (hb : Below w.heap.size w w') : EachAt B cf a n c xs w' :=
  ⟨fun j v hj => (hb.cell (p := ⟨B, j, none⟩) (by have := h.lt; simp; omega)).trans (h.cfg j v hj), (hb.cell (p := ⟨B + 1, 0, none⟩) (by have := h.lt; simp; omega)).trans h.sl, (hb.cell (p := ⟨B + 2, 0, none⟩) (by have := h.lt; simp; omega)).trans h.op, h.xs.below hb (Nat.le_refl _), Nat.lt_of_lt_of_le h.lt hb.size⟩

theorem EachAt.keep {B : Nat} {cf : Cfg} {a : Option Addr} {n c : Nat} {xs : List Spn} {w w' : World} (h : EachAt B cf a n c xs w) {L : Nat} {S : Nat → Prop} (hk : KeepEx L S w w') (hL : B + 2 < L) (h0 : ¬ S B) (h1 : ¬ S (B + 1)) (h2 : ¬ S (B + 2)) (ha : ∀ ad, a = some ad → n = 0 ∨ (ad.block < L ∧ ¬ S ad.block)) : EachAt B cf a n c xs w' :=
  ⟨fun j v hj => hk.cell (by simp; omega) (by simpa using h0) (h.cfg j v hj), hk.cell (by simp; omega) (by simpa using h1) h.sl, hk.cell (by simp; omega) (by simpa using h2) h.op, h.xs.keepEx hk ha, Nat.lt_of_lt_of_le h.lt hk.size⟩

set_option maxHeartbeats 400000 in
theorem each_any (cf : Cfg) (a : Option Addr) (n c : Nat) (xs : List Spn) (w : World) (hx : SlSp w a n c xs) :
    Calls Tryz.prog 13 #[cfgV cf, .slice a n c] w fun e w' => e = .returned (.func (.func 22) #[] #[.pointer (some ⟨w.heap.size + 1, 0, none⟩), .pointer (some ⟨w.heap.size + 2, 0, none⟩)]) ∧ Below w.heap.size w w' ∧ EachAt w.heap.size cf a n c xs w' ∧ w'.heap.size = w.heap.size + 3 := by
  obtain ⟨clear, climb, height, rise, run, cw, cd⟩ := cf
  unfold cfgV
  simp only
  have Hx := Lib.hid hx; clear hx
  go_enter Tryz.func13, Tryz.ntmps13
  go_wp2
  go_ret
  refine ⟨rfl, (((Below.refl _ _).alloc (Nat.le_refl _) _).alloc (by simp) _).alloc (by simp; omega) _, ⟨fun j v hj => ?_, ?_, ?_, ?_, by simp⟩, by simp⟩
  · rw [World.cell?_alloc_past _ _ _ (by simp; omega), World.cell?_alloc_past _ _ _ (by simp), World.cell?_alloc_at _ _ _ _ rfl]
    simpa [cfgL] using hj
  · rw [World.cell?_alloc_past _ _ _ (by simp), World.cell?_alloc_at _ _ _ _ (by simp)]
    rfl
  · rw [World.cell?_alloc_at _ _ _ _ (by simp)]
    rfl
  · exact ((Hx.out.alloc _).alloc _).alloc _

set_option maxHeartbeats 400000 in
theorem eachopen_any (cf : Cfg) (a : Option Addr) (n c : Nat) (xs : List Spn) (k : Nat) (x : Spn) (B : Nat) (w : World) (he : EachAt B cf a n c xs w) (hx : xs[k]? = some x) :
    Calls Tryz.prog 20 #[.int .i64 k, .pointer (some ⟨B + 1, 0, none⟩), .pointer (some ⟨B, 0, none⟩)] w fun e w' => e = .returned (.bool (x.walk && fitsI cf xs k)) ∧ Below w.heap.size w w' := by
  have hk : k < n := by rw [← he.xs.len]; exact (List.getElem?_eq_some_iff.1 hx).1
  have hle := he.xs.le
  have hmax := he.xs.max
  obtain ⟨b, off, rfl, hbl, hc⟩ := he.xs.at0 (by omega)
  have c3 := (SlSp.cells hc hx).2.2
  have q1 := he.sl
  have f0 := he.cfg 0 _ rfl
  have f1 := he.cfg 1 _ rfl
  have f2 := he.cfg 2 _ rfl
  have f3 := he.cfg 3 _ rfl
  have f4 := he.cfg 4 _ rfl
  have f5 := he.cfg 5 _ rfl
  have f6 := he.cfg 6 _ rfl
  have Hs := Lib.hid he.xs
  obtain ⟨t, ht⟩ : ∃ t, t = fitsI cf xs k := ⟨_, rfl⟩
  rw [← ht]
  have Ht := Lib.hid ht
  obtain ⟨clear, climb, height, rise, run, cw, cd⟩ := cf
  obtain ⟨xlo, xhi, xwk⟩ := x
  simp only at f0 f1 f2 f3 f4 f5 f6 c3 ⊢
  clear hc hx he ht
  have hlt : (k : Int) < (n : Int) := by omega
  cases xwk with
  | false =>
    go_enter Tryz.func20, Tryz.ntmps20
    go_wp2
    go_ret
    exact ⟨rfl, Below.refl _ _⟩
  | true =>
    go_enter Tryz.func20, Tryz.ntmps20
    go_wp2_with fail
    refine (fits_any ⟨clear, climb, height, rise, run, cw, cd⟩ _ _ _ xs k _ Hs.out).mono ?_
    rw [← Ht.out]
    rintro e w1 ⟨rfl, hb1⟩
    go_wp2
    go_ret
    exact ⟨ret_bool (by simp), hb1⟩

end Go.Proofs.YtjiklfffcnfdjaaGreat

namespace Go.Proofs.YtjiklfffcnfdjaaGreat
open Go.RowKit Go.Shelf Go.Sort
attribute [local go_sem] Oper.semAt_some

/-- Is the k-th span open? -/
def openAt (cf : Cfg) (xs : List Spn) (k : Nat) : Bool := match xs[k]? with
  | none => false
  | some x => x.walk && fitsI cf xs k
/-- What Each gives of the first k spans. -/
def eachUp (cf : Cfg) (xs : List Spn) : Nat → List (Nat × Int)
  | 0 => []
  | k + 1 => if openAt cf xs k then eachUp cf xs k ++ [(k, roomI xs k)] else eachUp cf xs k
def eachL (cf : Cfg) (xs : List Spn) : List (Nat × Int) := eachUp cf xs xs.length

theorem eachUp_yes {cf : Cfg} {xs : List Spn} {k : Nat} (h : openAt cf xs k = true) : eachUp cf xs (k + 1) = eachUp cf xs k ++ [(k, roomI xs k)] := by simp [eachUp, h]
theorem eachUp_no {cf : Cfg} {xs : List Spn} {k : Nat} (h : openAt cf xs k = false) : eachUp cf xs (k + 1) = eachUp cf xs k := by simp [eachUp, h]
theorem eachUp_len (cf : Cfg) (xs : List Spn) (k : Nat) : (eachUp cf xs k).length ≤ k := by
  induction k with
  | zero => exact Nat.le_refl _
  | succ k ih =>
    cases h : openAt cf xs k with
    | true => rw [eachUp_yes h]; simp; omega
    | false => rw [eachUp_no h]; omega
theorem eachUp_prefix (cf : Cfg) (xs : List Spn) {j k : Nat} (h : j ≤ k) : eachUp cf xs j <+: eachUp cf xs k := by
  induction k with
  | zero => rw [Nat.le_zero.1 h]; exact List.prefix_refl _
  | succ k ih =>
    by_cases e : j = k + 1
    · rw [e]; exact List.prefix_refl _
    · refine (ih (by omega)).trans ?_
      cases hk : openAt cf xs k with
      | true => rw [eachUp_yes hk]; exact List.prefix_append _ _
      | false => rw [eachUp_no hk]; exact List.prefix_refl _

set_option maxRecDepth 100000 in
set_option maxHeartbeats 1000000 in
theorem each_stopsG {β : Type} (g : β → Nat × Int) (m : Nat) (hm : 1 ≤ m) (B L : Nat) (S : Nat → Prop) (cf : Cfg) (a : Option Addr) (n c : Nat) (xs : List Spn) (w : World) (hg : ∀ k, openAt cf xs k = true → ∃ b : β, g b = (k, roomI xs k)) (he : EachAt B cf a n c xs w) (hL : B + 2 < L) (h0 : ¬ S B) (h1 : ¬ S (B + 1)) (h2 : ¬ S (B + 2)) (ha : ∀ ad, a = some ad → n = 0 ∨ (ad.block < L ∧ ¬ S ad.block)) :
    SeqStopsK Fence.wide m Tryz.prog 22 #[.pointer (some ⟨B + 1, 0, none⟩), .pointer (some ⟨B + 2, 0, none⟩)] (fun x : β => #[Value.int .i64 ((g x).1 : Int), Value.int .i64 (g x).2]) (KeepEx L S) (fun ys => ys.map g = eachL cf xs) (fun pre => pre.map g <+: eachL cf xs) n w := fun l J Jx W hW hJ hJx hY h0' => by
  have he' := he.below hW
  have Hl := Lib.hid he.xs.len
  have hle := he.xs.le
  have hmax := he.xs.max
  have HJ := Lib.hid hJ; clear hJ hJx
  have HY := Lib.hid hY; clear hY
  have Ha := Lib.hid ha; clear ha
  have Hg := Lib.hid hg; clear hg
  refine callsIn_of_wp Tryz.func22 rfl trivial ?_ rfl
  simp only [Tryz.ntmps22, List.size_toArray, List.length_cons, List.length_nil, Nat.reduceAdd, Nat.reduceSub, Array.replicate_succ, Array.replicate_zero, List.push_toArray, List.append_toArray, List.nil_append, List.cons_append]
  have q1 := he'.sl
  gi_wp2
  gi_loopw [9] (fun i wr => ∃ (k : Nat) (pre : List β), i = .int .i64 k ∧ k ≤ n ∧ EachAt B cf a n c xs wr ∧ pre.map g = eachUp cf xs k ∧ J pre wr) (fun i _ => n - (intOf i).toNat)
  case atStart => exact ⟨0, [], rfl, Nat.zero_le _, he', rfl, h0'⟩
  case round =>
    clear q1 he' h0'
    obtain ⟨k, pre, rfl, hk, he2, hpre, hJs⟩ := hrel
    have Hpre := Lib.hid hpre; clear hpre
    by_cases hlt : k < n
    · obtain ⟨x, hxk⟩ : ∃ x, xs[k]? = some x := ⟨_, List.getElem?_eq_getElem (by rw [Hl.out]; exact hlt)⟩
      have q1 := he2.sl
      have Ho : Hid (openAt cf xs k = (x.walk && fitsI cf xs k)) := by show _ = _; simp [openAt, hxk]
      have hkl : pre.length ≤ k := by have := eachUp_len cf xs k; rw [← Hpre.out, List.length_map] at this; exact this
      have hltI : (k : Int) < (n : Int) := by omega
      have Hxk := Lib.hid hxk; clear hxk
      have He2 := Lib.hid he2; clear he2
      gi_wp2_with fail
      refine ⟨trivial, ?_⟩
      gi_at_call 23
      refine (callsIn_wide.2 (room_any a n c xs k _ He2.out.xs)).mono ?_
      rintro e w1 ⟨rfl, hb1⟩
      have hJ1 : J pre w1 := AbidesFrom.below HJ.out hJs hb1
      have He3 : Hid (EachAt B cf a n c xs w1) := He2.out.below hb1
      have q2 := He3.out.op
      clear q1 hJs He2 hb1
      gi_wp2_with fail
      refine ⟨trivial, ?_⟩
      gi_at_call 20
      refine (callsIn_wide.2 (eachopen_any cf a n c xs k x B _ He3.out Hxk.out)).mono ?_
      rw [← Ho.out]
      rintro e w2 ⟨rfl, hb2⟩
      have hJ2 : J pre w2 := AbidesFrom.below HJ.out hJ1 hb2
      have He4 : Hid (EachAt B cf a n c xs w2) := He3.out.below hb2
      clear q2 hJ1 He3 hb2 Ho
      obtain ⟨t, ht⟩ : ∃ t, t = openAt cf xs k := ⟨_, rfl⟩
      rw [← ht]
      have Ht := Lib.hid ht.symm; clear ht
      cases t with
      | false =>
        gi_wp2
        refine ⟨fun _ h => (by cases h), ?_⟩
        gi_wp2
        go_roundw
        case rel => exact ⟨k + 1, pre, by go_num, by omega, He4.out, by rw [eachUp_no Ht.out]; exact Hpre.out, hJ2⟩
        case measure => simp [intOf]; omega
      | true =>
        obtain ⟨bx, hbx⟩ := Hg.out k Ht.out
        obtain ⟨fn, tmps, assign, body, hy, hR⟩ := HY.out _ bx w2 hJ2 (by omega)
        rw [hbx] at hy
        dsimp only at hy
        have Hbx := Lib.hid hbx; clear hbx
        have HR := Lib.hid hR; clear hR
        gi_wp2
        refine HR.out.mono ?_
        rintro e W3 (⟨rfl, hJ3, hk3⟩ | ⟨rfl, hJx3⟩)
        · clear hJ2 hy HR
          gi_wp2
          go_roundw
          case rel => exact ⟨k + 1, pre ++ [bx], by go_num, by omega, He4.out.keep hk3 hL h0 h1 h2 Ha.out, by rw [eachUp_yes Ht.out, List.map_append, Hpre.out, List.map_singleton, Hbx.out], hJ3⟩
          case measure => simp [intOf]; omega
        · clear hJ2 hy HR
          gi_wp2
          refine bodyPost_ret (results_none rfl _ _ _) rfl ?_
          refine ⟨⟨_, rfl⟩, .inr ⟨_, ?_, hJx3⟩⟩
          rw [List.map_append, Hpre.out, List.map_singleton, Hbx.out, ← eachUp_yes Ht.out]
          exact eachUp_prefix cf xs (by rw [Hl.out]; exact hlt)
    · obtain rfl : k = n := by omega
      gi_wp2
      go_end0
      refine ⟨⟨_, rfl⟩, .inl ⟨_, by rw [Hpre.out, eachL, Hl.out], ?_⟩⟩
      exact hJs

theorem each_stops (m : Nat) (hm : 1 ≤ m) (B L : Nat) (S : Nat → Prop) (cf : Cfg) (a : Option Addr) (n c : Nat) (xs : List Spn) (w : World) (he : EachAt B cf a n c xs w) (hL : B + 2 < L) (h0 : ¬ S B) (h1 : ¬ S (B + 1)) (h2 : ¬ S (B + 2)) (ha : ∀ ad, a = some ad → n = 0 ∨ (ad.block < L ∧ ¬ S ad.block)) :
    SeqStopsK Fence.wide m Tryz.prog 22 #[.pointer (some ⟨B + 1, 0, none⟩), .pointer (some ⟨B + 2, 0, none⟩)] (fun x : Nat × Int => #[Value.int .i64 (x.1 : Int), Value.int .i64 x.2]) (KeepEx L S) (fun ys => ys = eachL cf xs) (fun pre => pre <+: eachL cf xs) n w := by
  have := each_stopsG (id : Nat × Int → Nat × Int) m hm B L S cf a n c xs w (fun k _ => ⟨_, rfl⟩) he hL h0 h1 h2 ha
  simp only [List.map_id, id] at this
  exact this

end Go.Proofs.YtjiklfffcnfdjaaGreat
