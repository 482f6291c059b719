/- Walks: spans. -/
import Derived.Test.YtndjljefppbmcaaRow
namespace Go.Proofs.Ytndjljefppbmcaa
open Go.RowKit

set_option maxHeartbeats 400000 in
theorem may_any (lo hi : Int) (wk : Bool) (w : World) :
    Calls Try.prog 43 #[.agg #[.int .i64 lo, .int .i64 hi, .bool wk]] w fun e w' => e = .returned (.bool (mayS ⟨lo, hi, wk⟩)) ∧ Below w.heap.size w w' := by
  have hB : Below w.heap.size w (w.alloc (.cells #[.int .i64 lo, .int .i64 hi, .bool wk] 28)) := (Below.refl _ _).alloc (Nat.le_refl _) _
  obtain ⟨r, hr⟩ : ∃ r, r = mayS ⟨lo, hi, wk⟩ := ⟨_, rfl⟩
  rw [← hr]
  by_cases h1 : lo ≤ hi
  · by_cases h2 : -2048 ≤ lo
    · by_cases h3 : hi ≤ 2048
      · obtain rfl : r = true := by rw [hr]; simp [mayS]; omega
        clear hr
        go_enter Try.func43, Try.ntmps43
        go_wp2
        go_ret
        exact ⟨rfl, hB⟩
      · obtain rfl : r = false := by rw [hr]; simp [mayS]; omega
        clear hr
        go_enter Try.func43, Try.ntmps43
        go_wp2
        go_ret
        exact ⟨rfl, hB⟩
    · obtain rfl : r = false := by rw [hr]; simp [mayS]; omega
      clear hr
      go_enter Try.func43, Try.ntmps43
      go_wp2
      go_ret
      exact ⟨rfl, hB⟩
  · obtain rfl : r = false := by rw [hr]; simp [mayS]; omega
    clear hr
    go_enter Try.func43, Try.ntmps43
    go_wp2
    go_ret
    exact ⟨rfl, hB⟩

set_option maxHeartbeats 400000 in
theorem spancheck_any (a : Option Addr) (n c : Nat) (xs : List Spn) (w : World) (hx : SlSp w a n c xs) :
    Calls Try.prog 17 #[.slice a n c] w fun e w' => e = .returned (.int .i64 (spE xs)) ∧ Below w.heap.size w w' := by
  have Hl := Lib.hid hx.len
  have hmax := hx.max
  have hle := hx.le
  by_cases h8 : 8 < n
  · have h8' : (8 : Int) < (n : Int) := by omega
    have He : Hid (spE xs = 2) := spE_long (by rw [Hl.out]; exact h8)
    clear hx
    go_enter Try.func17, Try.ntmps17
    go_wp2
    go_ret
    exact ⟨ret_int He.out.symm, Below.refl _ _⟩
  have h8' : ¬ (8 : Int) < (n : Int) := by omega
  have Hx := Lib.hid hx; clear hx
  go_enter Try.func17, Try.ntmps17
  go_wp2
  go_loopw [10] (fun i wr => ∃ k : Nat, i = .int .i64 k ∧ k ≤ n ∧ Below w.heap.size w wr ∧ Hid (∀ i, i < k → goodAt xs i = true)) (fun i _ => n - (intOf i).toNat)
  case atStart => exact ⟨0, rfl, Nat.zero_le _, Below.refl _ _, fun i hi => absurd hi (Nat.not_lt_zero i)⟩
  case round =>
    obtain ⟨k, rfl, hk, hb, Hgood⟩ := hrel
    by_cases hlt : k < n
    · obtain ⟨b, off, rfl, hbl, hc⟩ := (Hx.out.below hb (Nat.le_refl _)).at0 (by omega)
      obtain ⟨x, hxk⟩ : ∃ x, xs[k]? = some x := ⟨_, List.getElem?_eq_getElem (by rw [Hl.out]; exact hlt)⟩
      obtain ⟨c1, c2, c3⟩ := SlSp.cells hc hxk
      by_cases hk0 : k = 0
      · subst hk0
        have hg0 : goodAt xs 0 = mayS x := goodAt_zero hxk
        obtain ⟨xlo, xhi, xwk⟩ := x
        have Hm := may_any xlo xhi xwk
        obtain ⟨r, hr⟩ : ∃ r, r = mayS ⟨xlo, xhi, xwk⟩ := ⟨_, rfl⟩
        rw [← hr] at Hm hg0
        have Hg0 := Lib.hid hg0
        have Hm' := Lib.hid Hm
        clear hc hxk hg0 hr Hm
        simp only [Nat.zero_mul, Nat.add_zero] at c1 c2 c3
        cases r with
        | true =>
          go_wp2
          refine wp_named (F := fun w0 => Below w.heap.size w w0 ∧ w0.cell? ⟨wr.heap.size, 0, none⟩ = some (.int .i64 xlo) ∧ w0.cell? ⟨wr.heap.size, 1, none⟩ = some (.int .i64 xhi) ∧ w0.cell? ⟨wr.heap.size, 2, none⟩ = some (.bool xwk)) ⟨hb.alloc hb.size _, World.cell?_alloc_at _ _ _ _ rfl, World.cell?_alloc_at _ _ _ _ rfl, World.cell?_alloc_at _ _ _ _ rfl⟩ ?_
          rintro w0 ⟨hb0, d1, d2, d3⟩
          have e1 := fun d os => cell_regrown d1 d os
          have e2 := fun d os => cell_regrown d2 d os
          have e3 := fun d os => cell_regrown d3 d os
          clear d1 d2 d3
          refine wp_region_quiet_below (by kernel_rfl) (by kernel_rfl) ?_
          repeat (go_big_quiet_step (exact Calls.regrown_of (Hm'.out _)))
          refine wpQuiet_nil ?_
          rintro w' ⟨⟨dq, osq⟩, hw''⟩
          have hb2 : Below w.heap.size w w' := by rw [hw'']; exact hb0.trans ((below_regrown w0 dq osq).mono hb0.size)
          clear hw'' e1 e2 e3
          go_wp2
          go_roundw
          case rel => exact ⟨1, by go_num, by omega, hb2, good_step Hgood.out Hg0.out⟩
          case measure => simp [intOf]; omega
        | false =>
          go_wp2
          refine wp_named (F := fun w0 => Below w.heap.size w w0 ∧ w0.cell? ⟨wr.heap.size, 0, none⟩ = some (.int .i64 xlo) ∧ w0.cell? ⟨wr.heap.size, 1, none⟩ = some (.int .i64 xhi) ∧ w0.cell? ⟨wr.heap.size, 2, none⟩ = some (.bool xwk)) ⟨hb.alloc hb.size _, World.cell?_alloc_at _ _ _ _ rfl, World.cell?_alloc_at _ _ _ _ rfl, World.cell?_alloc_at _ _ _ _ rfl⟩ ?_
          rintro w0 ⟨hb0, d1, d2, d3⟩
          have e1 := fun d os => cell_regrown d1 d os
          have e2 := fun d os => cell_regrown d2 d os
          have e3 := fun d os => cell_regrown d3 d os
          clear d1 d2 d3
          refine wp_region_quiet_below (by kernel_rfl) (by kernel_rfl) ?_
          repeat (go_big_quiet_step (exact Calls.regrown_of (Hm'.out _)))
          refine wpQuiet_nil ?_
          rintro w' ⟨⟨dq, osq⟩, hw''⟩
          have hb2 : Below w.heap.size w w' := by rw [hw'']; exact hb0.trans ((below_regrown w0 dq osq).mono hb0.size)
          clear hw'' e1 e2 e3
          have He : Hid (spE xs = 2) := spE_bad (by rw [Hl.out]; exact hlt) Hg0.out
          go_wp2
          go_ret
          exact ⟨ret_int He.out.symm, hb2⟩
      · have hkp : 0 < k := by omega
        obtain ⟨y, hyk⟩ : ∃ y, xs[k - 1]? = some y := ⟨_, List.getElem?_eq_getElem (by rw [Hl.out]; omega)⟩
        obtain ⟨_, p2, _⟩ := SlSp.cells hc hyk
        have hg0 : goodAt xs k = (mayS x && decide (y.hi < x.lo)) := goodAt_succ (by omega) hxk hyk
        obtain ⟨xlo, xhi, xwk⟩ := x
        obtain ⟨ylo, yhi, ywk⟩ := y
        have Hm := may_any xlo xhi xwk
        obtain ⟨r, hr⟩ : ∃ r, r = mayS ⟨xlo, xhi, xwk⟩ := ⟨_, rfl⟩
        rw [← hr] at Hm hg0
        have Hm' := Lib.hid Hm
        clear hc hxk hyk hr Hm hk0
        simp only at c1 c2 c3 p2 hg0
        cases r with
        | true =>
          by_cases hlo : yhi < xlo
          · have Hg0 : Hid (goodAt xs k = true) := by show _ = _; rw [hg0]; simp [hlo]
            have hlo' : ¬ xlo ≤ yhi := by omega
            clear hg0
            go_wp2
            refine wp_named (F := fun w0 => Below w.heap.size w w0 ∧ w0.cell? ⟨wr.heap.size, 0, none⟩ = some (.int .i64 xlo) ∧ w0.cell? ⟨wr.heap.size, 1, none⟩ = some (.int .i64 xhi) ∧ w0.cell? ⟨wr.heap.size, 2, none⟩ = some (.bool xwk) ∧ w0.cell? ⟨b, off + (k - 1) * 3 + 1, none⟩ = some (.int .i64 yhi)) ⟨hb.alloc hb.size _, World.cell?_alloc_at _ _ _ _ rfl, World.cell?_alloc_at _ _ _ _ rfl, World.cell?_alloc_at _ _ _ _ rfl, (World.cell?_alloc_past _ _ _ hbl).trans p2⟩ ?_
            rintro w0 ⟨hb0, d1, d2, d3, d4⟩
            have e1 := fun d os => cell_regrown d1 d os
            have e2 := fun d os => cell_regrown d2 d os
            have e3 := fun d os => cell_regrown d3 d os
            have e4 := fun d os => cell_regrown d4 d os
            clear d1 d2 d3
            refine wp_region_quiet_below (by kernel_rfl) (by kernel_rfl) ?_
            repeat (go_big_quiet_step (exact Calls.regrown_of (Hm'.out _)))
            refine wpQuiet_nil ?_
            rintro w' ⟨⟨dq, osq⟩, hw''⟩
            have hb2 : Below w.heap.size w w' := by rw [hw'']; exact hb0.trans ((below_regrown w0 dq osq).mono hb0.size)
            clear hw'' e1 e2 e3 e4
            go_wp2
            go_roundw
            case rel => exact ⟨k + 1, by go_num, by omega, hb2, good_step Hgood.out Hg0.out⟩
            case measure => simp [intOf]; omega
          · have Hg0 : Hid (goodAt xs k = false) := by show _ = _; rw [hg0]; simp [hlo]
            have hlo' : xlo ≤ yhi := by omega
            clear hg0
            go_wp2
            refine wp_named (F := fun w0 => Below w.heap.size w w0 ∧ w0.cell? ⟨wr.heap.size, 0, none⟩ = some (.int .i64 xlo) ∧ w0.cell? ⟨wr.heap.size, 1, none⟩ = some (.int .i64 xhi) ∧ w0.cell? ⟨wr.heap.size, 2, none⟩ = some (.bool xwk) ∧ w0.cell? ⟨b, off + (k - 1) * 3 + 1, none⟩ = some (.int .i64 yhi)) ⟨hb.alloc hb.size _, World.cell?_alloc_at _ _ _ _ rfl, World.cell?_alloc_at _ _ _ _ rfl, World.cell?_alloc_at _ _ _ _ rfl, (World.cell?_alloc_past _ _ _ hbl).trans p2⟩ ?_
            rintro w0 ⟨hb0, d1, d2, d3, d4⟩
            have e1 := fun d os => cell_regrown d1 d os
            have e2 := fun d os => cell_regrown d2 d os
            have e3 := fun d os => cell_regrown d3 d os
            have e4 := fun d os => cell_regrown d4 d os
            clear d1 d2 d3
            refine wp_region_quiet_below (by kernel_rfl) (by kernel_rfl) ?_
            repeat (go_big_quiet_step (exact Calls.regrown_of (Hm'.out _)))
            refine wpQuiet_nil ?_
            rintro w' ⟨⟨dq, osq⟩, hw''⟩
            have hb2 : Below w.heap.size w w' := by rw [hw'']; exact hb0.trans ((below_regrown w0 dq osq).mono hb0.size)
            clear hw'' e1 e2 e3 e4
            have He : Hid (spE xs = 2) := spE_bad (by rw [Hl.out]; exact hlt) Hg0.out
            go_wp2
            go_ret
            exact ⟨ret_int He.out.symm, hb2⟩
        | false =>
          have Hg0 : Hid (goodAt xs k = false) := by show _ = _; rw [hg0]; rfl
          clear hg0 p2
          go_wp2
          refine wp_named (F := fun w0 => Below w.heap.size w w0 ∧ w0.cell? ⟨wr.heap.size, 0, none⟩ = some (.int .i64 xlo) ∧ w0.cell? ⟨wr.heap.size, 1, none⟩ = some (.int .i64 xhi) ∧ w0.cell? ⟨wr.heap.size, 2, none⟩ = some (.bool xwk)) ⟨hb.alloc hb.size _, World.cell?_alloc_at _ _ _ _ rfl, World.cell?_alloc_at _ _ _ _ rfl, World.cell?_alloc_at _ _ _ _ rfl⟩ ?_
          rintro w0 ⟨hb0, d1, d2, d3⟩
          have e1 := fun d os => cell_regrown d1 d os
          have e2 := fun d os => cell_regrown d2 d os
          have e3 := fun d os => cell_regrown d3 d os
          clear d1 d2 d3
          refine wp_region_quiet_below (by kernel_rfl) (by kernel_rfl) ?_
          repeat (go_big_quiet_step (exact Calls.regrown_of (Hm'.out _)))
          refine wpQuiet_nil ?_
          rintro w' ⟨⟨dq, osq⟩, hw''⟩
          have hb2 : Below w.heap.size w w' := by rw [hw'']; exact hb0.trans ((below_regrown w0 dq osq).mono hb0.size)
          clear hw'' e1 e2 e3
          have He : Hid (spE xs = 2) := spE_bad (by rw [Hl.out]; exact hlt) Hg0.out
          go_wp2
          go_ret
          exact ⟨ret_int He.out.symm, hb2⟩
    · have He : Hid (spE xs = 0) := spE_good (by rw [Hl.out]; omega) (fun i hi => Hgood.out i (by rw [Hl.out] at hi; omega))
      go_wp2
      go_ret
      exact ⟨ret_int He.out.symm, hb⟩

set_option maxHeartbeats 400000 in
theorem refmay_any (lo hi : Int) (wk : Bool) (w : World) :
    Calls Try.prog 49 #[.agg #[.int .i64 lo, .int .i64 hi, .bool wk]] w fun e w' => e = .returned (.bool (mayS ⟨lo, hi, wk⟩)) ∧ Below w.heap.size w w' := by
  have hB : Below w.heap.size w (w.alloc (.cells #[.int .i64 lo, .int .i64 hi, .bool wk] 28)) := (Below.refl _ _).alloc (Nat.le_refl _) _
  obtain ⟨r, hr⟩ : ∃ r, r = mayS ⟨lo, hi, wk⟩ := ⟨_, rfl⟩
  rw [← hr]
  by_cases h1 : lo ≤ hi
  · by_cases h2 : -2048 ≤ lo
    · by_cases h3 : hi ≤ 2048
      · obtain rfl : r = true := by rw [hr]; simp [mayS]; omega
        clear hr
        go_enter Try.func49, Try.ntmps49
        go_wp2
        go_ret
        exact ⟨rfl, hB⟩
      · obtain rfl : r = false := by rw [hr]; simp [mayS]; omega
        clear hr
        go_enter Try.func49, Try.ntmps49
        go_wp2
        go_ret
        exact ⟨rfl, hB⟩
    · obtain rfl : r = false := by rw [hr]; simp [mayS]; omega
      clear hr
      go_enter Try.func49, Try.ntmps49
      go_wp2
      go_ret
      exact ⟨rfl, hB⟩
  · obtain rfl : r = false := by rw [hr]; simp [mayS]; omega
    clear hr
    go_enter Try.func49, Try.ntmps49
    go_wp2
    go_ret
    exact ⟨rfl, hB⟩

set_option maxHeartbeats 400000 in
theorem refspancheck_any (a : Option Addr) (n c : Nat) (xs : List Spn) (w : World) (hx : SlSp w a n c xs) :
    Calls Try.prog 18 #[.slice a n c] w fun e w' => e = .returned (.int .i64 (spE xs)) ∧ Below w.heap.size w w' := by
  have Hl := Lib.hid hx.len
  have hmax := hx.max
  have hle := hx.le
  by_cases h8 : 8 < n
  · have h8' : (8 : Int) < (n : Int) := by omega
    have He : Hid (spE xs = 2) := spE_long (by rw [Hl.out]; exact h8)
    clear hx
    go_enter Try.func18, Try.ntmps18
    go_wp2
    go_ret
    exact ⟨ret_int He.out.symm, Below.refl _ _⟩
  have h8' : ¬ (8 : Int) < (n : Int) := by omega
  have Hx := Lib.hid hx; clear hx
  go_enter Try.func18, Try.ntmps18
  go_wp2
  go_loopw [3] (fun i wr => ∃ k : Nat, i = .int .i64 k ∧ k ≤ n ∧ Below w.heap.size w wr ∧ Hid (∀ i, i < k → goodAt xs i = true)) (fun i _ => n - (intOf i).toNat)
  case atStart => exact ⟨0, rfl, Nat.zero_le _, Below.refl _ _, fun i hi => absurd hi (Nat.not_lt_zero i)⟩
  case round =>
    obtain ⟨k, rfl, hk, hb, Hgood⟩ := hrel
    by_cases hlt : k < n
    · obtain ⟨b, off, rfl, hbl, hc⟩ := (Hx.out.below hb (Nat.le_refl _)).at0 (by omega)
      obtain ⟨x, hxk⟩ : ∃ x, xs[k]? = some x := ⟨_, List.getElem?_eq_getElem (by rw [Hl.out]; exact hlt)⟩
      obtain ⟨c1, c2, c3⟩ := SlSp.cells hc hxk
      by_cases hk0 : k = 0
      · subst hk0
        have hg0 : goodAt xs 0 = mayS x := goodAt_zero hxk
        obtain ⟨xlo, xhi, xwk⟩ := x
        have Hm := refmay_any xlo xhi xwk
        obtain ⟨r, hr⟩ : ∃ r, r = mayS ⟨xlo, xhi, xwk⟩ := ⟨_, rfl⟩
        rw [← hr] at Hm hg0
        have Hg0 := Lib.hid hg0
        have Hm' := Lib.hid Hm
        clear hc hxk hg0 hr Hm
        simp only [Nat.zero_mul, Nat.add_zero] at c1 c2 c3
        cases r with
        | true =>
          have e1 := fun d os => cell_regrown c1 d os
          have e2 := fun d os => cell_regrown c2 d os
          have e3 := fun d os => cell_regrown c3 d os
          clear c1 c2 c3
          go_wp2
          refine wp_region_quiet_below (by kernel_rfl) (by kernel_rfl) ?_
          repeat (go_big_quiet_step (exact Calls.regrown_of (Hm'.out _)))
          refine wpQuiet_nil ?_
          rintro w' ⟨⟨dq, osq⟩, hw''⟩
          have hb2 : Below w.heap.size w w' := by rw [hw'']; exact hb.trans ((below_regrown wr dq osq).mono hb.size)
          clear hw'' e1 e2 e3
          go_wp2
          go_roundw
          case rel => exact ⟨1, by go_num, by omega, hb2, good_step Hgood.out Hg0.out⟩
          case measure => simp [intOf]; omega
        | false =>
          have e1 := fun d os => cell_regrown c1 d os
          have e2 := fun d os => cell_regrown c2 d os
          have e3 := fun d os => cell_regrown c3 d os
          clear c1 c2 c3
          go_wp2
          refine wp_region_quiet_below (by kernel_rfl) (by kernel_rfl) ?_
          repeat (go_big_quiet_step (exact Calls.regrown_of (Hm'.out _)))
          refine wpQuiet_nil ?_
          rintro w' ⟨⟨dq, osq⟩, hw''⟩
          have hb2 : Below w.heap.size w w' := by rw [hw'']; exact hb.trans ((below_regrown wr dq osq).mono hb.size)
          clear hw'' e1 e2 e3
          have He : Hid (spE xs = 2) := spE_bad (by rw [Hl.out]; exact hlt) Hg0.out
          go_wp2
          go_ret
          exact ⟨ret_int He.out.symm, hb2⟩
      · have hkp : 0 < k := by omega
        obtain ⟨y, hyk⟩ : ∃ y, xs[k - 1]? = some y := ⟨_, List.getElem?_eq_getElem (by rw [Hl.out]; omega)⟩
        obtain ⟨_, p2, _⟩ := SlSp.cells hc hyk
        have hg0 : goodAt xs k = (mayS x && decide (y.hi < x.lo)) := goodAt_succ (by omega) hxk hyk
        obtain ⟨xlo, xhi, xwk⟩ := x
        obtain ⟨ylo, yhi, ywk⟩ := y
        have Hm := refmay_any xlo xhi xwk
        obtain ⟨r, hr⟩ : ∃ r, r = mayS ⟨xlo, xhi, xwk⟩ := ⟨_, rfl⟩
        rw [← hr] at Hm hg0
        have Hm' := Lib.hid Hm
        clear hc hxk hyk hr Hm hk0
        simp only at c1 c2 c3 p2 hg0
        cases r with
        | true =>
          by_cases hlo : yhi < xlo
          · have Hg0 : Hid (goodAt xs k = true) := by show _ = _; rw [hg0]; simp [hlo]
            have hlo' : ¬ xlo ≤ yhi := by omega
            clear hg0
            have e1 := fun d os => cell_regrown c1 d os
            have e2 := fun d os => cell_regrown c2 d os
            have e3 := fun d os => cell_regrown c3 d os
            have e4 := fun d os => cell_regrown p2 d os
            clear c1 c2 c3
            go_wp2
            refine wp_region_quiet_below (by kernel_rfl) (by kernel_rfl) ?_
            repeat (go_big_quiet_step (exact Calls.regrown_of (Hm'.out _)))
            refine wpQuiet_nil ?_
            rintro w' ⟨⟨dq, osq⟩, hw''⟩
            have hb2 : Below w.heap.size w w' := by rw [hw'']; exact hb.trans ((below_regrown wr dq osq).mono hb.size)
            clear hw'' e1 e2 e3 e4
            go_wp2
            go_roundw
            case rel => exact ⟨k + 1, by go_num, by omega, hb2, good_step Hgood.out Hg0.out⟩
            case measure => simp [intOf]; omega
          · have Hg0 : Hid (goodAt xs k = false) := by show _ = _; rw [hg0]; simp [hlo]
            have hlo' : xlo ≤ yhi := by omega
            clear hg0
            have e1 := fun d os => cell_regrown c1 d os
            have e2 := fun d os => cell_regrown c2 d os
            have e3 := fun d os => cell_regrown c3 d os
            have e4 := fun d os => cell_regrown p2 d os
            clear c1 c2 c3
            go_wp2
            refine wp_region_quiet_below (by kernel_rfl) (by kernel_rfl) ?_
            repeat (go_big_quiet_step (exact Calls.regrown_of (Hm'.out _)))
            refine wpQuiet_nil ?_
            rintro w' ⟨⟨dq, osq⟩, hw''⟩
            have hb2 : Below w.heap.size w w' := by rw [hw'']; exact hb.trans ((below_regrown wr dq osq).mono hb.size)
            clear hw'' e1 e2 e3 e4
            have He : Hid (spE xs = 2) := spE_bad (by rw [Hl.out]; exact hlt) Hg0.out
            go_wp2
            go_ret
            exact ⟨ret_int He.out.symm, hb2⟩
        | false =>
          have Hg0 : Hid (goodAt xs k = false) := by show _ = _; rw [hg0]; rfl
          clear hg0 p2
          have e1 := fun d os => cell_regrown c1 d os
          have e2 := fun d os => cell_regrown c2 d os
          have e3 := fun d os => cell_regrown c3 d os
          clear c1 c2 c3
          go_wp2
          refine wp_region_quiet_below (by kernel_rfl) (by kernel_rfl) ?_
          repeat (go_big_quiet_step (exact Calls.regrown_of (Hm'.out _)))
          refine wpQuiet_nil ?_
          rintro w' ⟨⟨dq, osq⟩, hw''⟩
          have hb2 : Below w.heap.size w w' := by rw [hw'']; exact hb.trans ((below_regrown wr dq osq).mono hb.size)
          clear hw'' e1 e2 e3
          have He : Hid (spE xs = 2) := spE_bad (by rw [Hl.out]; exact hlt) Hg0.out
          go_wp2
          go_ret
          exact ⟨ret_int He.out.symm, hb2⟩
    · have He : Hid (spE xs = 0) := spE_good (by rw [Hl.out]; omega) (fun i hi => Hgood.out i (by rw [Hl.out] at hi; omega))
      go_wp2
      go_ret
      exact ⟨ret_int He.out.symm, hb⟩

end Go.Proofs.Ytndjljefppbmcaa
