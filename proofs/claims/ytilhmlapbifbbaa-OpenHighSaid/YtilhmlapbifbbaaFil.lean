/- Walks: filter's Room and Fits, and the document's. -/
import Derived.Test.YtilhmlapbifbbaaSpn
import Derived.Test.YtilhmlapbifbbaaCfgR
namespace Go.Proofs.Ytilhmlapbifbbaa
open Go.RowKit

/-- Where the room above a span ends. -/
def roomN (xs : List Spn) (k : Nat) : Int := match xs[k + 1]? with
  | none => 1048576
  | some y => y.lo
def roomB (xs : List Spn) (k : Int) : Bool := spOk xs && decide (0 ≤ k) && decide (k < xs.length)
def roomI (xs : List Spn) (k : Int) : Int := if roomB xs k then roomN xs k.toNat else 0
def fitsN (c : Cfg) (xs : List Spn) (k : Nat) : Bool := match xs[k]? with
  | none => false
  | some x => cfgOk c && decide (c.height ≤ roomN xs k - x.hi)
def fitsI (c : Cfg) (xs : List Spn) (k : Int) : Bool := roomB xs k && fitsN c xs k.toNat

theorem roomI_false {xs : List Spn} {k : Int} (h : roomB xs k = false) : roomI xs k = 0 := by simp [roomI, h]
theorem roomI_true {xs : List Spn} {k : Int} (h : roomB xs k = true) : roomI xs k = roomN xs k.toNat := by simp [roomI, h]

theorem spE_eq (xs : List Spn) : (spE xs = 0 ∧ spOk xs = true) ∨ (spE xs = 2 ∧ spOk xs = false) := by
  unfold spE
  cases spOk xs <;> simp
theorem cfgE_eq (c : Cfg) : (cfgE c = 0 ∧ cfgOk c = true) ∨ (cfgE c = 20 ∧ cfgOk c = false) := by
  unfold cfgE
  cases cfgOk c <;> simp
theorem spOk_may {xs : List Spn} (h : spOk xs = true) {k : Nat} {x : Spn} (hx : xs[k]? = some x) : x.lo ≤ x.hi ∧ -2048 ≤ x.lo ∧ x.hi ≤ 2048 := by
  simp only [spOk, Bool.and_eq_true, List.all_eq_true] at h
  have hk := (List.getElem?_eq_some_iff.1 hx).1
  have := h.2 k (by simpa using hk)
  simp only [goodAt, hx, Bool.and_eq_true, mayS, decide_eq_true_eq] at this
  exact ⟨this.1.1.1, this.1.1.2, this.1.2⟩
theorem roomN_bd {xs : List Spn} (h : spOk xs = true) (k : Nat) : -2048 ≤ roomN xs k ∧ roomN xs k ≤ 1048576 := by
  unfold roomN
  cases hy : xs[k + 1]? with
  | none => simp
  | some y => have := spOk_may h hy; simp only; omega
theorem roomB_lt {xs : List Spn} {k : Int} (h : roomB xs k = true) : spOk xs = true ∧ 0 ≤ k ∧ k < xs.length := by
  simpa [roomB, and_assoc] using h

/-- What Room answers. -/
def RoomPost (xs : List Spn) (k : Int) (w : World) (e : Ending) (w' : World) : Prop := e = .returned (.tuple #[.int .i64 (roomI xs k), .bool (roomB xs k)]) ∧ Below w.heap.size w w'

set_option maxHeartbeats 400000 in
theorem room_any (a : Option Addr) (n c : Nat) (xs : List Spn) (k : Int) (w : World) (hx : SlSp w a n c xs) :
    Calls Try.prog 24 #[.slice a n c, .int .i64 k] w (RoomPost xs k w) := by
  have Hl := Lib.hid hx.len
  have hmax := hx.max
  have hle := hx.le
  have Hx := Lib.hid hx; clear hx
  rcases spE_eq xs with ⟨he, hok⟩ | ⟨he, hok⟩
  · have He := Lib.hid he; clear he
    have Hok := Lib.hid hok; clear hok
    by_cases hk0 : k < 0
    · have Hr : Hid (roomB xs k = false) := by show _ = _; simp [roomB, show ¬ 0 ≤ k by omega]
      go_enter Try.func24, Try.ntmps24
      go_wp2_with fail
      refine (spancheck_any a n c xs _ Hx.out).mono ?_
      rintro e w1 ⟨rfl, hb1⟩
      rw [He.out]
      go_wp2
      go_ret2
      unfold RoomPost
      rw [roomI_false Hr.out, Hr.out]
      exact ⟨rfl, hb1⟩
    by_cases hkn : (n : Int) ≤ k
    · have Hr : Hid (roomB xs k = false) := by show _ = _; simp [roomB, show ¬ k < xs.length by rw [Hl.out]; omega]
      go_enter Try.func24, Try.ntmps24
      go_wp2_with fail
      refine (spancheck_any a n c xs _ Hx.out).mono ?_
      rintro e w1 ⟨rfl, hb1⟩
      rw [He.out]
      go_wp2
      go_ret2
      unfold RoomPost
      rw [roomI_false Hr.out, Hr.out]
      exact ⟨rfl, hb1⟩
    obtain ⟨j, rfl⟩ := Int.eq_ofNat_of_zero_le (show 0 ≤ k by omega)
    have hj : j < n := by omega
    have Hr : Hid (roomB xs j = true) := by show _ = _; simp [roomB, Hok.out, Hl.out, hj]
    by_cases hj1 : j + 1 < n
    · obtain ⟨y, hy⟩ : ∃ y, xs[j + 1]? = some y := ⟨_, List.getElem?_eq_getElem (by rw [Hl.out]; exact hj1)⟩
      have Hrn : Hid (roomI xs j = y.lo) := by show _ = _; rw [roomI_true Hr.out]; simp [roomN, hy]
      have hj2 : (j : Int) + 1 < (n : Int) := by omega
      go_enter Try.func24, Try.ntmps24
      go_wp2_with fail
      refine (spancheck_any a n c xs _ Hx.out).mono ?_
      rintro e w1 ⟨rfl, hb1⟩
      rw [He.out]
      obtain ⟨b, off, rfl, hbl, hc⟩ := (Hx.out.below hb1 (Nat.le_refl _)).at0 (by omega)
      have c1 := (SlSp.cells hc hy).1
      clear hc hy
      go_wp2
      go_ret2
      unfold RoomPost
      rw [Hrn.out, Hr.out]
      exact ⟨rfl, hb1⟩
    · have Hrn : Hid (roomI xs j = 1048576) := by show _ = _; rw [roomI_true Hr.out]; simp [roomN, List.getElem?_eq_none (show xs.length ≤ j + 1 by rw [Hl.out]; omega)]
      have hj2 : ¬ (j : Int) + 1 < (n : Int) := by omega
      go_enter Try.func24, Try.ntmps24
      go_wp2_with fail
      refine (spancheck_any a n c xs _ Hx.out).mono ?_
      rintro e w1 ⟨rfl, hb1⟩
      rw [He.out]
      go_wp2
      go_ret2
      unfold RoomPost
      rw [Hrn.out, Hr.out]
      exact ⟨rfl, hb1⟩
  · have He := Lib.hid he; clear he
    have Hr : Hid (roomB xs k = false) := by show _ = _; simp [roomB, hok]
    clear hok
    go_enter Try.func24, Try.ntmps24
    go_wp2_with fail
    refine (spancheck_any a n c xs _ Hx.out).mono ?_
    rintro e w1 ⟨rfl, hb1⟩
    rw [He.out]
    go_wp2
    go_ret2
    unfold RoomPost
    rw [roomI_false Hr.out, Hr.out]
    exact ⟨rfl, hb1⟩

set_option maxHeartbeats 400000 in
theorem refroom_any (a : Option Addr) (n c : Nat) (xs : List Spn) (k : Int) (w : World) (hx : SlSp w a n c xs) :
    Calls Try.prog 25 #[.slice a n c, .int .i64 k] w (RoomPost xs k w) := by
  have Hl := Lib.hid hx.len
  have hmax := hx.max
  have hle := hx.le
  have Hx := Lib.hid hx; clear hx
  rcases spE_eq xs with ⟨he, hok⟩ | ⟨he, hok⟩
  · have He := Lib.hid he; clear he
    have Hok := Lib.hid hok; clear hok
    by_cases hk0 : k < 0
    · have Hr : Hid (roomB xs k = false) := by show _ = _; simp [roomB, show ¬ 0 ≤ k by omega]
      go_enter Try.func25, Try.ntmps25
      go_wp2_with fail
      refine (refspancheck_any a n c xs _ Hx.out).mono ?_
      rintro e w1 ⟨rfl, hb1⟩
      rw [He.out]
      go_wp2
      go_ret2
      unfold RoomPost
      rw [roomI_false Hr.out, Hr.out]
      exact ⟨rfl, hb1⟩
    by_cases hkn : (n : Int) ≤ k
    · have Hr : Hid (roomB xs k = false) := by show _ = _; simp [roomB, show ¬ k < xs.length by rw [Hl.out]; omega]
      go_enter Try.func25, Try.ntmps25
      go_wp2_with fail
      refine (refspancheck_any a n c xs _ Hx.out).mono ?_
      rintro e w1 ⟨rfl, hb1⟩
      rw [He.out]
      go_wp2
      go_ret2
      unfold RoomPost
      rw [roomI_false Hr.out, Hr.out]
      exact ⟨rfl, hb1⟩
    obtain ⟨j, rfl⟩ := Int.eq_ofNat_of_zero_le (show 0 ≤ k by omega)
    have hj : j < n := by omega
    have Hr : Hid (roomB xs j = true) := by show _ = _; simp [roomB, Hok.out, Hl.out, hj]
    by_cases hj1 : j + 1 < n
    · obtain ⟨y, hy⟩ : ∃ y, xs[j + 1]? = some y := ⟨_, List.getElem?_eq_getElem (by rw [Hl.out]; exact hj1)⟩
      have Hrn : Hid (roomI xs j = y.lo) := by show _ = _; rw [roomI_true Hr.out]; simp [roomN, hy]
      have hj2 : (j : Int) + 1 < (n : Int) := by omega
      go_enter Try.func25, Try.ntmps25
      go_wp2_with fail
      refine (refspancheck_any a n c xs _ Hx.out).mono ?_
      rintro e w1 ⟨rfl, hb1⟩
      rw [He.out]
      obtain ⟨b, off, rfl, hbl, hc⟩ := (Hx.out.below hb1 (Nat.le_refl _)).at0 (by omega)
      have c1 := (SlSp.cells hc hy).1
      clear hc hy
      go_wp2
      go_ret2
      unfold RoomPost
      rw [Hrn.out, Hr.out]
      exact ⟨rfl, hb1⟩
    · have Hrn : Hid (roomI xs j = 1048576) := by show _ = _; rw [roomI_true Hr.out]; simp [roomN, List.getElem?_eq_none (show xs.length ≤ j + 1 by rw [Hl.out]; omega)]
      have hj2 : ¬ (j : Int) + 1 < (n : Int) := by omega
      go_enter Try.func25, Try.ntmps25
      go_wp2_with fail
      refine (refspancheck_any a n c xs _ Hx.out).mono ?_
      rintro e w1 ⟨rfl, hb1⟩
      rw [He.out]
      go_wp2
      go_ret2
      unfold RoomPost
      rw [Hrn.out, Hr.out]
      exact ⟨rfl, hb1⟩
  · have He := Lib.hid he; clear he
    have Hr : Hid (roomB xs k = false) := by show _ = _; simp [roomB, hok]
    clear hok
    go_enter Try.func25, Try.ntmps25
    go_wp2_with fail
    refine (refspancheck_any a n c xs _ Hx.out).mono ?_
    rintro e w1 ⟨rfl, hb1⟩
    rw [He.out]
    go_wp2
    go_ret2
    unfold RoomPost
    rw [roomI_false Hr.out, Hr.out]
    exact ⟨rfl, hb1⟩

set_option maxHeartbeats 400000 in
theorem fits_any (cf : Cfg) (a : Option Addr) (n c : Nat) (xs : List Spn) (k : Int) (w : World) (hx : SlSp w a n c xs) :
    Calls Try.prog 28 #[cfgV cf, .slice a n c, .int .i64 k] w fun e w' => e = .returned (.bool (fitsI cf xs k)) ∧ Below w.heap.size w w' := by
  have Hl := Lib.hid hx.len
  have hmax := hx.max
  have hle := hx.le
  have Hx := Lib.hid hx; clear hx
  have hck := cfgcheck_any cf
  have hcc := cfgE_eq cf
  have hff : fitsI cf xs k = (roomB xs k && fitsN cf xs k.toNat) := rfl
  obtain ⟨r, hr⟩ : ∃ r, r = roomB xs k := ⟨_, rfl⟩
  cases r with
  | false =>
    have Hf : Hid (fitsI cf xs k = false) := by show _ = _; rw [hff, ← hr]; rfl
    have Hr := Lib.hid hr.symm
    clear hr hck hcc hff
    obtain ⟨clear, climb, height, rise, run, cw, cd⟩ := cf
    unfold cfgV
    simp only
    go_enter Try.func28, Try.ntmps28
    go_wp2_with fail
    refine (room_any a n c xs _ _ (Hx.out.alloc _)).mono ?_
    rintro e w1 ⟨rfl, hb1⟩
    have hB1 : Below w.heap.size w w1 := ((Below.refl _ _).alloc (Nat.le_refl _) _).trans (hb1.mono (by simp))
    rw [Hr.out]
    have d0 : w1.cell? ⟨w.heap.size, 0, none⟩ = some (.int .i64 clear) := (hb1.cell (p := ⟨w.heap.size, 0, none⟩) (by simp)).trans (World.cell?_alloc_at _ _ _ _ rfl)
    have e0 := fun d os => cell_regrown d0 d os
    have d1 : w1.cell? ⟨w.heap.size, 1, none⟩ = some (.int .i64 climb) := (hb1.cell (p := ⟨w.heap.size, 1, none⟩) (by simp)).trans (World.cell?_alloc_at _ _ _ _ rfl)
    have e1 := fun d os => cell_regrown d1 d os
    have d2 : w1.cell? ⟨w.heap.size, 2, none⟩ = some (.int .i64 height) := (hb1.cell (p := ⟨w.heap.size, 2, none⟩) (by simp)).trans (World.cell?_alloc_at _ _ _ _ rfl)
    have e2 := fun d os => cell_regrown d2 d os
    have d3 : w1.cell? ⟨w.heap.size, 3, none⟩ = some (.int .i64 rise) := (hb1.cell (p := ⟨w.heap.size, 3, none⟩) (by simp)).trans (World.cell?_alloc_at _ _ _ _ rfl)
    have e3 := fun d os => cell_regrown d3 d os
    have d4 : w1.cell? ⟨w.heap.size, 4, none⟩ = some (.int .i64 run) := (hb1.cell (p := ⟨w.heap.size, 4, none⟩) (by simp)).trans (World.cell?_alloc_at _ _ _ _ rfl)
    have e4 := fun d os => cell_regrown d4 d os
    have d5 : w1.cell? ⟨w.heap.size, 5, none⟩ = some (.int .i64 cw) := (hb1.cell (p := ⟨w.heap.size, 5, none⟩) (by simp)).trans (World.cell?_alloc_at _ _ _ _ rfl)
    have e5 := fun d os => cell_regrown d5 d os
    have d6 : w1.cell? ⟨w.heap.size, 6, none⟩ = some (.int .i64 cd) := (hb1.cell (p := ⟨w.heap.size, 6, none⟩) (by simp)).trans (World.cell?_alloc_at _ _ _ _ rfl)
    have e6 := fun d os => cell_regrown d6 d os
    clear d0 d1 d2 d3 d4 d5 d6
    go_wp2
    refine wp_region_quiet_below (by kernel_rfl) (by kernel_rfl) ?_
    repeat (go_big_quiet_step (fail))
    refine wpQuiet_nil ?_
    rintro w' ⟨⟨dq, osq⟩, hw''⟩
    have hB2 : Below w.heap.size w w' := by rw [hw'']; exact hB1.trans ((below_regrown w1 dq osq).mono hB1.size)
    clear hw'' e0 e1 e2 e3 e4 e5 e6
    go_wp2
    go_ret
    exact ⟨ret_bool (by first | exact Hf.out.symm | (rw [Hf.out]; simp; omega)), hB2⟩
  | true =>
    obtain ⟨hok, hk0, hkn⟩ := roomB_lt hr.symm
    have hkn : k < (n : Int) := by have := Hl.out; omega
    obtain ⟨j, rfl⟩ := Int.eq_ofNat_of_zero_le hk0
    have hj : j < n := by omega
    obtain ⟨x, hxj⟩ : ∃ x, xs[j]? = some x := ⟨_, List.getElem?_eq_getElem (by rw [Hl.out]; exact hj)⟩
    have hm := spOk_may hok hxj
    have hrn := roomN_bd hok j
    have hfn : fitsN cf xs j = (cfgOk cf && decide (cf.height ≤ roomN xs j - x.hi)) := by simp [fitsN, hxj]
    rw [← hr, Bool.true_and, Int.toNat_natCast, hfn] at hff
    have hri : roomI xs j = roomN xs j := by rw [roomI_true hr.symm, Int.toNat_natCast]
    obtain ⟨t, ht⟩ : ∃ t, t = roomN xs j := ⟨_, rfl⟩
    rw [← ht] at hff hri hrn
    have Hri := Lib.hid hri
    have Hr := Lib.hid hr.symm
    have Hxj := Lib.hid hxj
    clear hr hri hok ht hfn hxj
    obtain ⟨clear, climb, height, rise, run, cw, cd⟩ := cf
    obtain ⟨xlo, xhi, xwk⟩ := x
    unfold cfgV at hck
    unfold cfgV
    simp only at hck hm hff ⊢
    rcases hcc with ⟨h1, h2⟩ | ⟨h1, h2⟩
    · rw [h1] at hck
      rw [h2, Bool.true_and] at hff
      have Hck := Lib.hid hck
      clear hck h1 h2
      by_cases hh : height ≤ t - xhi
      · have Hf : Hid (fitsI ⟨clear, climb, height, rise, run, cw, cd⟩ xs j = true) := by show _ = _; rw [hff]; simp [hh]
        clear hff
        go_enter Try.func28, Try.ntmps28
        go_wp2_with fail
        refine (room_any a n c xs _ _ (Hx.out.alloc _)).mono ?_
        rintro e w1 ⟨rfl, hb1⟩
        have hB1 : Below w.heap.size w w1 := ((Below.refl _ _).alloc (Nat.le_refl _) _).trans (hb1.mono (by simp))
        rw [Hr.out, Hri.out]
        obtain ⟨b, off, rfl, hbl, hc⟩ := (Hx.out.below hB1 (Nat.le_refl _)).at0 (by omega)
        have p2 := (SlSp.cells hc Hxj.out).2.1
        have e7 := fun d os => cell_regrown p2 d os
        clear hc p2
        have d0 : w1.cell? ⟨w.heap.size, 0, none⟩ = some (.int .i64 clear) := (hb1.cell (p := ⟨w.heap.size, 0, none⟩) (by simp)).trans (World.cell?_alloc_at _ _ _ _ rfl)
        have e0 := fun d os => cell_regrown d0 d os
        have d1 : w1.cell? ⟨w.heap.size, 1, none⟩ = some (.int .i64 climb) := (hb1.cell (p := ⟨w.heap.size, 1, none⟩) (by simp)).trans (World.cell?_alloc_at _ _ _ _ rfl)
        have e1 := fun d os => cell_regrown d1 d os
        have d2 : w1.cell? ⟨w.heap.size, 2, none⟩ = some (.int .i64 height) := (hb1.cell (p := ⟨w.heap.size, 2, none⟩) (by simp)).trans (World.cell?_alloc_at _ _ _ _ rfl)
        have e2 := fun d os => cell_regrown d2 d os
        have d3 : w1.cell? ⟨w.heap.size, 3, none⟩ = some (.int .i64 rise) := (hb1.cell (p := ⟨w.heap.size, 3, none⟩) (by simp)).trans (World.cell?_alloc_at _ _ _ _ rfl)
        have e3 := fun d os => cell_regrown d3 d os
        have d4 : w1.cell? ⟨w.heap.size, 4, none⟩ = some (.int .i64 run) := (hb1.cell (p := ⟨w.heap.size, 4, none⟩) (by simp)).trans (World.cell?_alloc_at _ _ _ _ rfl)
        have e4 := fun d os => cell_regrown d4 d os
        have d5 : w1.cell? ⟨w.heap.size, 5, none⟩ = some (.int .i64 cw) := (hb1.cell (p := ⟨w.heap.size, 5, none⟩) (by simp)).trans (World.cell?_alloc_at _ _ _ _ rfl)
        have e5 := fun d os => cell_regrown d5 d os
        have d6 : w1.cell? ⟨w.heap.size, 6, none⟩ = some (.int .i64 cd) := (hb1.cell (p := ⟨w.heap.size, 6, none⟩) (by simp)).trans (World.cell?_alloc_at _ _ _ _ rfl)
        have e6 := fun d os => cell_regrown d6 d os
        clear d0 d1 d2 d3 d4 d5 d6
        go_wp2
        refine wp_region_quiet_below (by kernel_rfl) (by kernel_rfl) ?_
        repeat (go_big_quiet_step (exact Calls.regrown_of (Hck.out _)))
        refine wpQuiet_nil ?_
        rintro w' ⟨⟨dq, osq⟩, hw''⟩
        have hB2 : Below w.heap.size w w' := by rw [hw'']; exact hB1.trans ((below_regrown w1 dq osq).mono hB1.size)
        clear hw'' e0 e1 e2 e3 e4 e5 e6 e7
        go_wp2
        go_ret
        exact ⟨ret_bool (by first | exact Hf.out.symm | (rw [Hf.out]; simp; omega)), hB2⟩
      · have Hf : Hid (fitsI ⟨clear, climb, height, rise, run, cw, cd⟩ xs j = false) := by show _ = _; rw [hff]; simp; omega
        clear hff
        go_enter Try.func28, Try.ntmps28
        go_wp2_with fail
        refine (room_any a n c xs _ _ (Hx.out.alloc _)).mono ?_
        rintro e w1 ⟨rfl, hb1⟩
        have hB1 : Below w.heap.size w w1 := ((Below.refl _ _).alloc (Nat.le_refl _) _).trans (hb1.mono (by simp))
        rw [Hr.out, Hri.out]
        obtain ⟨b, off, rfl, hbl, hc⟩ := (Hx.out.below hB1 (Nat.le_refl _)).at0 (by omega)
        have p2 := (SlSp.cells hc Hxj.out).2.1
        have e7 := fun d os => cell_regrown p2 d os
        clear hc p2
        have d0 : w1.cell? ⟨w.heap.size, 0, none⟩ = some (.int .i64 clear) := (hb1.cell (p := ⟨w.heap.size, 0, none⟩) (by simp)).trans (World.cell?_alloc_at _ _ _ _ rfl)
        have e0 := fun d os => cell_regrown d0 d os
        have d1 : w1.cell? ⟨w.heap.size, 1, none⟩ = some (.int .i64 climb) := (hb1.cell (p := ⟨w.heap.size, 1, none⟩) (by simp)).trans (World.cell?_alloc_at _ _ _ _ rfl)
        have e1 := fun d os => cell_regrown d1 d os
        have d2 : w1.cell? ⟨w.heap.size, 2, none⟩ = some (.int .i64 height) := (hb1.cell (p := ⟨w.heap.size, 2, none⟩) (by simp)).trans (World.cell?_alloc_at _ _ _ _ rfl)
        have e2 := fun d os => cell_regrown d2 d os
        have d3 : w1.cell? ⟨w.heap.size, 3, none⟩ = some (.int .i64 rise) := (hb1.cell (p := ⟨w.heap.size, 3, none⟩) (by simp)).trans (World.cell?_alloc_at _ _ _ _ rfl)
        have e3 := fun d os => cell_regrown d3 d os
        have d4 : w1.cell? ⟨w.heap.size, 4, none⟩ = some (.int .i64 run) := (hb1.cell (p := ⟨w.heap.size, 4, none⟩) (by simp)).trans (World.cell?_alloc_at _ _ _ _ rfl)
        have e4 := fun d os => cell_regrown d4 d os
        have d5 : w1.cell? ⟨w.heap.size, 5, none⟩ = some (.int .i64 cw) := (hb1.cell (p := ⟨w.heap.size, 5, none⟩) (by simp)).trans (World.cell?_alloc_at _ _ _ _ rfl)
        have e5 := fun d os => cell_regrown d5 d os
        have d6 : w1.cell? ⟨w.heap.size, 6, none⟩ = some (.int .i64 cd) := (hb1.cell (p := ⟨w.heap.size, 6, none⟩) (by simp)).trans (World.cell?_alloc_at _ _ _ _ rfl)
        have e6 := fun d os => cell_regrown d6 d os
        clear d0 d1 d2 d3 d4 d5 d6
        go_wp2
        refine wp_region_quiet_below (by kernel_rfl) (by kernel_rfl) ?_
        repeat (go_big_quiet_step (exact Calls.regrown_of (Hck.out _)))
        refine wpQuiet_nil ?_
        rintro w' ⟨⟨dq, osq⟩, hw''⟩
        have hB2 : Below w.heap.size w w' := by rw [hw'']; exact hB1.trans ((below_regrown w1 dq osq).mono hB1.size)
        clear hw'' e0 e1 e2 e3 e4 e5 e6 e7
        go_wp2
        go_ret
        exact ⟨ret_bool (by first | exact Hf.out.symm | (rw [Hf.out]; simp; omega)), hB2⟩
    · rw [h1] at hck
      rw [h2, Bool.false_and] at hff
      have Hck := Lib.hid hck
      have Hf := Lib.hid hff
      clear hck h1 h2 hff
      go_enter Try.func28, Try.ntmps28
      go_wp2_with fail
      refine (room_any a n c xs _ _ (Hx.out.alloc _)).mono ?_
      rintro e w1 ⟨rfl, hb1⟩
      have hB1 : Below w.heap.size w w1 := ((Below.refl _ _).alloc (Nat.le_refl _) _).trans (hb1.mono (by simp))
      rw [Hr.out, Hri.out]
      have d0 : w1.cell? ⟨w.heap.size, 0, none⟩ = some (.int .i64 clear) := (hb1.cell (p := ⟨w.heap.size, 0, none⟩) (by simp)).trans (World.cell?_alloc_at _ _ _ _ rfl)
      have e0 := fun d os => cell_regrown d0 d os
      have d1 : w1.cell? ⟨w.heap.size, 1, none⟩ = some (.int .i64 climb) := (hb1.cell (p := ⟨w.heap.size, 1, none⟩) (by simp)).trans (World.cell?_alloc_at _ _ _ _ rfl)
      have e1 := fun d os => cell_regrown d1 d os
      have d2 : w1.cell? ⟨w.heap.size, 2, none⟩ = some (.int .i64 height) := (hb1.cell (p := ⟨w.heap.size, 2, none⟩) (by simp)).trans (World.cell?_alloc_at _ _ _ _ rfl)
      have e2 := fun d os => cell_regrown d2 d os
      have d3 : w1.cell? ⟨w.heap.size, 3, none⟩ = some (.int .i64 rise) := (hb1.cell (p := ⟨w.heap.size, 3, none⟩) (by simp)).trans (World.cell?_alloc_at _ _ _ _ rfl)
      have e3 := fun d os => cell_regrown d3 d os
      have d4 : w1.cell? ⟨w.heap.size, 4, none⟩ = some (.int .i64 run) := (hb1.cell (p := ⟨w.heap.size, 4, none⟩) (by simp)).trans (World.cell?_alloc_at _ _ _ _ rfl)
      have e4 := fun d os => cell_regrown d4 d os
      have d5 : w1.cell? ⟨w.heap.size, 5, none⟩ = some (.int .i64 cw) := (hb1.cell (p := ⟨w.heap.size, 5, none⟩) (by simp)).trans (World.cell?_alloc_at _ _ _ _ rfl)
      have e5 := fun d os => cell_regrown d5 d os
      have d6 : w1.cell? ⟨w.heap.size, 6, none⟩ = some (.int .i64 cd) := (hb1.cell (p := ⟨w.heap.size, 6, none⟩) (by simp)).trans (World.cell?_alloc_at _ _ _ _ rfl)
      have e6 := fun d os => cell_regrown d6 d os
      clear d0 d1 d2 d3 d4 d5 d6
      go_wp2
      refine wp_region_quiet_below (by kernel_rfl) (by kernel_rfl) ?_
      repeat (go_big_quiet_step (exact Calls.regrown_of (Hck.out _)))
      refine wpQuiet_nil ?_
      rintro w' ⟨⟨dq, osq⟩, hw''⟩
      have hB2 : Below w.heap.size w w' := by rw [hw'']; exact hB1.trans ((below_regrown w1 dq osq).mono hB1.size)
      clear hw'' e0 e1 e2 e3 e4 e5 e6
      go_wp2
      go_ret
      exact ⟨ret_bool (by first | exact Hf.out.symm | (rw [Hf.out]; simp; omega)), hB2⟩

set_option maxHeartbeats 400000 in
theorem reffits_any (cf : Cfg) (a : Option Addr) (n c : Nat) (xs : List Spn) (k : Int) (w : World) (hx : SlSp w a n c xs) :
    Calls Try.prog 29 #[cfgV cf, .slice a n c, .int .i64 k] w fun e w' => e = .returned (.bool (fitsI cf xs k)) ∧ Below w.heap.size w w' := by
  have Hl := Lib.hid hx.len
  have hmax := hx.max
  have hle := hx.le
  have Hx := Lib.hid hx; clear hx
  have hck := refcfgcheck_any cf
  have hcc := cfgE_eq cf
  have hff : fitsI cf xs k = (roomB xs k && fitsN cf xs k.toNat) := rfl
  obtain ⟨r, hr⟩ : ∃ r, r = roomB xs k := ⟨_, rfl⟩
  cases r with
  | false =>
    have Hf : Hid (fitsI cf xs k = false) := by show _ = _; rw [hff, ← hr]; rfl
    have Hr := Lib.hid hr.symm
    clear hr hck hcc hff
    obtain ⟨clear, climb, height, rise, run, cw, cd⟩ := cf
    unfold cfgV
    simp only
    go_enter Try.func29, Try.ntmps29
    go_wp2_with fail
    refine (refroom_any a n c xs _ _ (Hx.out.alloc _)).mono ?_
    rintro e w1 ⟨rfl, hb1⟩
    have hB1 : Below w.heap.size w w1 := ((Below.refl _ _).alloc (Nat.le_refl _) _).trans (hb1.mono (by simp))
    rw [Hr.out]
    have d0 : w1.cell? ⟨w.heap.size, 0, none⟩ = some (.int .i64 clear) := (hb1.cell (p := ⟨w.heap.size, 0, none⟩) (by simp)).trans (World.cell?_alloc_at _ _ _ _ rfl)
    have e0 := fun d os => cell_regrown d0 d os
    have d1 : w1.cell? ⟨w.heap.size, 1, none⟩ = some (.int .i64 climb) := (hb1.cell (p := ⟨w.heap.size, 1, none⟩) (by simp)).trans (World.cell?_alloc_at _ _ _ _ rfl)
    have e1 := fun d os => cell_regrown d1 d os
    have d2 : w1.cell? ⟨w.heap.size, 2, none⟩ = some (.int .i64 height) := (hb1.cell (p := ⟨w.heap.size, 2, none⟩) (by simp)).trans (World.cell?_alloc_at _ _ _ _ rfl)
    have e2 := fun d os => cell_regrown d2 d os
    have d3 : w1.cell? ⟨w.heap.size, 3, none⟩ = some (.int .i64 rise) := (hb1.cell (p := ⟨w.heap.size, 3, none⟩) (by simp)).trans (World.cell?_alloc_at _ _ _ _ rfl)
    have e3 := fun d os => cell_regrown d3 d os
    have d4 : w1.cell? ⟨w.heap.size, 4, none⟩ = some (.int .i64 run) := (hb1.cell (p := ⟨w.heap.size, 4, none⟩) (by simp)).trans (World.cell?_alloc_at _ _ _ _ rfl)
    have e4 := fun d os => cell_regrown d4 d os
    have d5 : w1.cell? ⟨w.heap.size, 5, none⟩ = some (.int .i64 cw) := (hb1.cell (p := ⟨w.heap.size, 5, none⟩) (by simp)).trans (World.cell?_alloc_at _ _ _ _ rfl)
    have e5 := fun d os => cell_regrown d5 d os
    have d6 : w1.cell? ⟨w.heap.size, 6, none⟩ = some (.int .i64 cd) := (hb1.cell (p := ⟨w.heap.size, 6, none⟩) (by simp)).trans (World.cell?_alloc_at _ _ _ _ rfl)
    have e6 := fun d os => cell_regrown d6 d os
    clear d0 d1 d2 d3 d4 d5 d6
    go_wp2
    refine wp_region_quiet_below (by kernel_rfl) (by kernel_rfl) ?_
    repeat (go_big_quiet_step (fail))
    refine wpQuiet_nil ?_
    rintro w' ⟨⟨dq, osq⟩, hw''⟩
    have hB2 : Below w.heap.size w w' := by rw [hw'']; exact hB1.trans ((below_regrown w1 dq osq).mono hB1.size)
    clear hw'' e0 e1 e2 e3 e4 e5 e6
    go_wp2
    go_ret
    exact ⟨ret_bool (by first | exact Hf.out.symm | (rw [Hf.out]; simp; omega)), hB2⟩
  | true =>
    obtain ⟨hok, hk0, hkn⟩ := roomB_lt hr.symm
    have hkn : k < (n : Int) := by have := Hl.out; omega
    obtain ⟨j, rfl⟩ := Int.eq_ofNat_of_zero_le hk0
    have hj : j < n := by omega
    obtain ⟨x, hxj⟩ : ∃ x, xs[j]? = some x := ⟨_, List.getElem?_eq_getElem (by rw [Hl.out]; exact hj)⟩
    have hm := spOk_may hok hxj
    have hrn := roomN_bd hok j
    have hfn : fitsN cf xs j = (cfgOk cf && decide (cf.height ≤ roomN xs j - x.hi)) := by simp [fitsN, hxj]
    rw [← hr, Bool.true_and, Int.toNat_natCast, hfn] at hff
    have hri : roomI xs j = roomN xs j := by rw [roomI_true hr.symm, Int.toNat_natCast]
    obtain ⟨t, ht⟩ : ∃ t, t = roomN xs j := ⟨_, rfl⟩
    rw [← ht] at hff hri hrn
    have Hri := Lib.hid hri
    have Hr := Lib.hid hr.symm
    have Hxj := Lib.hid hxj
    clear hr hri hok ht hfn hxj
    obtain ⟨clear, climb, height, rise, run, cw, cd⟩ := cf
    obtain ⟨xlo, xhi, xwk⟩ := x
    unfold cfgV at hck
    unfold cfgV
    simp only at hck hm hff ⊢
    rcases hcc with ⟨h1, h2⟩ | ⟨h1, h2⟩
    · rw [h1] at hck
      rw [h2, Bool.true_and] at hff
      have Hck := Lib.hid hck
      clear hck h1 h2
      by_cases hh : height ≤ t - xhi
      · have Hf : Hid (fitsI ⟨clear, climb, height, rise, run, cw, cd⟩ xs j = true) := by show _ = _; rw [hff]; simp [hh]
        clear hff
        go_enter Try.func29, Try.ntmps29
        go_wp2_with fail
        refine (refroom_any a n c xs _ _ (Hx.out.alloc _)).mono ?_
        rintro e w1 ⟨rfl, hb1⟩
        have hB1 : Below w.heap.size w w1 := ((Below.refl _ _).alloc (Nat.le_refl _) _).trans (hb1.mono (by simp))
        rw [Hr.out, Hri.out]
        obtain ⟨b, off, rfl, hbl, hc⟩ := (Hx.out.below hB1 (Nat.le_refl _)).at0 (by omega)
        have p2 := (SlSp.cells hc Hxj.out).2.1
        have e7 := fun d os => cell_regrown p2 d os
        clear hc p2
        have d0 : w1.cell? ⟨w.heap.size, 0, none⟩ = some (.int .i64 clear) := (hb1.cell (p := ⟨w.heap.size, 0, none⟩) (by simp)).trans (World.cell?_alloc_at _ _ _ _ rfl)
        have e0 := fun d os => cell_regrown d0 d os
        have d1 : w1.cell? ⟨w.heap.size, 1, none⟩ = some (.int .i64 climb) := (hb1.cell (p := ⟨w.heap.size, 1, none⟩) (by simp)).trans (World.cell?_alloc_at _ _ _ _ rfl)
        have e1 := fun d os => cell_regrown d1 d os
        have d2 : w1.cell? ⟨w.heap.size, 2, none⟩ = some (.int .i64 height) := (hb1.cell (p := ⟨w.heap.size, 2, none⟩) (by simp)).trans (World.cell?_alloc_at _ _ _ _ rfl)
        have e2 := fun d os => cell_regrown d2 d os
        have d3 : w1.cell? ⟨w.heap.size, 3, none⟩ = some (.int .i64 rise) := (hb1.cell (p := ⟨w.heap.size, 3, none⟩) (by simp)).trans (World.cell?_alloc_at _ _ _ _ rfl)
        have e3 := fun d os => cell_regrown d3 d os
        have d4 : w1.cell? ⟨w.heap.size, 4, none⟩ = some (.int .i64 run) := (hb1.cell (p := ⟨w.heap.size, 4, none⟩) (by simp)).trans (World.cell?_alloc_at _ _ _ _ rfl)
        have e4 := fun d os => cell_regrown d4 d os
        have d5 : w1.cell? ⟨w.heap.size, 5, none⟩ = some (.int .i64 cw) := (hb1.cell (p := ⟨w.heap.size, 5, none⟩) (by simp)).trans (World.cell?_alloc_at _ _ _ _ rfl)
        have e5 := fun d os => cell_regrown d5 d os
        have d6 : w1.cell? ⟨w.heap.size, 6, none⟩ = some (.int .i64 cd) := (hb1.cell (p := ⟨w.heap.size, 6, none⟩) (by simp)).trans (World.cell?_alloc_at _ _ _ _ rfl)
        have e6 := fun d os => cell_regrown d6 d os
        clear d0 d1 d2 d3 d4 d5 d6
        go_wp2
        refine wp_region_quiet_below (by kernel_rfl) (by kernel_rfl) ?_
        repeat (go_big_quiet_step (exact Calls.regrown_of (Hck.out _)))
        refine wpQuiet_nil ?_
        rintro w' ⟨⟨dq, osq⟩, hw''⟩
        have hB2 : Below w.heap.size w w' := by rw [hw'']; exact hB1.trans ((below_regrown w1 dq osq).mono hB1.size)
        clear hw'' e0 e1 e2 e3 e4 e5 e6 e7
        go_wp2
        go_ret
        exact ⟨ret_bool (by first | exact Hf.out.symm | (rw [Hf.out]; simp; omega)), hB2⟩
      · have Hf : Hid (fitsI ⟨clear, climb, height, rise, run, cw, cd⟩ xs j = false) := by show _ = _; rw [hff]; simp; omega
        clear hff
        go_enter Try.func29, Try.ntmps29
        go_wp2_with fail
        refine (refroom_any a n c xs _ _ (Hx.out.alloc _)).mono ?_
        rintro e w1 ⟨rfl, hb1⟩
        have hB1 : Below w.heap.size w w1 := ((Below.refl _ _).alloc (Nat.le_refl _) _).trans (hb1.mono (by simp))
        rw [Hr.out, Hri.out]
        obtain ⟨b, off, rfl, hbl, hc⟩ := (Hx.out.below hB1 (Nat.le_refl _)).at0 (by omega)
        have p2 := (SlSp.cells hc Hxj.out).2.1
        have e7 := fun d os => cell_regrown p2 d os
        clear hc p2
        have d0 : w1.cell? ⟨w.heap.size, 0, none⟩ = some (.int .i64 clear) := (hb1.cell (p := ⟨w.heap.size, 0, none⟩) (by simp)).trans (World.cell?_alloc_at _ _ _ _ rfl)
        have e0 := fun d os => cell_regrown d0 d os
        have d1 : w1.cell? ⟨w.heap.size, 1, none⟩ = some (.int .i64 climb) := (hb1.cell (p := ⟨w.heap.size, 1, none⟩) (by simp)).trans (World.cell?_alloc_at _ _ _ _ rfl)
        have e1 := fun d os => cell_regrown d1 d os
        have d2 : w1.cell? ⟨w.heap.size, 2, none⟩ = some (.int .i64 height) := (hb1.cell (p := ⟨w.heap.size, 2, none⟩) (by simp)).trans (World.cell?_alloc_at _ _ _ _ rfl)
        have e2 := fun d os => cell_regrown d2 d os
        have d3 : w1.cell? ⟨w.heap.size, 3, none⟩ = some (.int .i64 rise) := (hb1.cell (p := ⟨w.heap.size, 3, none⟩) (by simp)).trans (World.cell?_alloc_at _ _ _ _ rfl)
        have e3 := fun d os => cell_regrown d3 d os
        have d4 : w1.cell? ⟨w.heap.size, 4, none⟩ = some (.int .i64 run) := (hb1.cell (p := ⟨w.heap.size, 4, none⟩) (by simp)).trans (World.cell?_alloc_at _ _ _ _ rfl)
        have e4 := fun d os => cell_regrown d4 d os
        have d5 : w1.cell? ⟨w.heap.size, 5, none⟩ = some (.int .i64 cw) := (hb1.cell (p := ⟨w.heap.size, 5, none⟩) (by simp)).trans (World.cell?_alloc_at _ _ _ _ rfl)
        have e5 := fun d os => cell_regrown d5 d os
        have d6 : w1.cell? ⟨w.heap.size, 6, none⟩ = some (.int .i64 cd) := (hb1.cell (p := ⟨w.heap.size, 6, none⟩) (by simp)).trans (World.cell?_alloc_at _ _ _ _ rfl)
        have e6 := fun d os => cell_regrown d6 d os
        clear d0 d1 d2 d3 d4 d5 d6
        go_wp2
        refine wp_region_quiet_below (by kernel_rfl) (by kernel_rfl) ?_
        repeat (go_big_quiet_step (exact Calls.regrown_of (Hck.out _)))
        refine wpQuiet_nil ?_
        rintro w' ⟨⟨dq, osq⟩, hw''⟩
        have hB2 : Below w.heap.size w w' := by rw [hw'']; exact hB1.trans ((below_regrown w1 dq osq).mono hB1.size)
        clear hw'' e0 e1 e2 e3 e4 e5 e6 e7
        go_wp2
        go_ret
        exact ⟨ret_bool (by first | exact Hf.out.symm | (rw [Hf.out]; simp; omega)), hB2⟩
    · rw [h1] at hck
      rw [h2, Bool.false_and] at hff
      have Hck := Lib.hid hck
      have Hf := Lib.hid hff
      clear hck h1 h2 hff
      go_enter Try.func29, Try.ntmps29
      go_wp2_with fail
      refine (refroom_any a n c xs _ _ (Hx.out.alloc _)).mono ?_
      rintro e w1 ⟨rfl, hb1⟩
      have hB1 : Below w.heap.size w w1 := ((Below.refl _ _).alloc (Nat.le_refl _) _).trans (hb1.mono (by simp))
      rw [Hr.out, Hri.out]
      have d0 : w1.cell? ⟨w.heap.size, 0, none⟩ = some (.int .i64 clear) := (hb1.cell (p := ⟨w.heap.size, 0, none⟩) (by simp)).trans (World.cell?_alloc_at _ _ _ _ rfl)
      have e0 := fun d os => cell_regrown d0 d os
      have d1 : w1.cell? ⟨w.heap.size, 1, none⟩ = some (.int .i64 climb) := (hb1.cell (p := ⟨w.heap.size, 1, none⟩) (by simp)).trans (World.cell?_alloc_at _ _ _ _ rfl)
      have e1 := fun d os => cell_regrown d1 d os
      have d2 : w1.cell? ⟨w.heap.size, 2, none⟩ = some (.int .i64 height) := (hb1.cell (p := ⟨w.heap.size, 2, none⟩) (by simp)).trans (World.cell?_alloc_at _ _ _ _ rfl)
      have e2 := fun d os => cell_regrown d2 d os
      have d3 : w1.cell? ⟨w.heap.size, 3, none⟩ = some (.int .i64 rise) := (hb1.cell (p := ⟨w.heap.size, 3, none⟩) (by simp)).trans (World.cell?_alloc_at _ _ _ _ rfl)
      have e3 := fun d os => cell_regrown d3 d os
      have d4 : w1.cell? ⟨w.heap.size, 4, none⟩ = some (.int .i64 run) := (hb1.cell (p := ⟨w.heap.size, 4, none⟩) (by simp)).trans (World.cell?_alloc_at _ _ _ _ rfl)
      have e4 := fun d os => cell_regrown d4 d os
      have d5 : w1.cell? ⟨w.heap.size, 5, none⟩ = some (.int .i64 cw) := (hb1.cell (p := ⟨w.heap.size, 5, none⟩) (by simp)).trans (World.cell?_alloc_at _ _ _ _ rfl)
      have e5 := fun d os => cell_regrown d5 d os
      have d6 : w1.cell? ⟨w.heap.size, 6, none⟩ = some (.int .i64 cd) := (hb1.cell (p := ⟨w.heap.size, 6, none⟩) (by simp)).trans (World.cell?_alloc_at _ _ _ _ rfl)
      have e6 := fun d os => cell_regrown d6 d os
      clear d0 d1 d2 d3 d4 d5 d6
      go_wp2
      refine wp_region_quiet_below (by kernel_rfl) (by kernel_rfl) ?_
      repeat (go_big_quiet_step (exact Calls.regrown_of (Hck.out _)))
      refine wpQuiet_nil ?_
      rintro w' ⟨⟨dq, osq⟩, hw''⟩
      have hB2 : Below w.heap.size w w' := by rw [hw'']; exact hB1.trans ((below_regrown w1 dq osq).mono hB1.size)
      clear hw'' e0 e1 e2 e3 e4 e5 e6
      go_wp2
      go_ret
      exact ⟨ret_bool (by first | exact Hf.out.symm | (rw [Hf.out]; simp; omega)), hB2⟩

end Go.Proofs.Ytilhmlapbifbbaa
