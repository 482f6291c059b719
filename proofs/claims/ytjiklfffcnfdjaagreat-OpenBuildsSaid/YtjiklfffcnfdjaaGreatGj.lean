/- Walks: spans. -/
import Derived.Test.YtjiklfffcnfdjaaGreatGa
import Derived.Test.YtjiklfffcnfdjaaGreatGb
import Derived.Test.YtjiklfffcnfdjaaGreatGp
import Derived.Test.YtjiklfffcnfdjaaGreatGo
import Derived.Outline
namespace Go.Proofs.YtjiklfffcnfdjaaGreat
open Go.RowKit

set_option maxHeartbeats 400000 in
theorem may_any (lo hi : Int) (wk : Bool) (w : World) :
    Calls Tryz.prog 34 #[.agg #[.int .i64 lo, .int .i64 hi, .bool wk]] w fun e w' => e = .returned (.bool (mayS ⟨lo, hi, wk⟩)) ∧ Below w.heap.size w w' := by
  have hB : Below w.heap.size w (w.alloc (.cells #[.int .i64 lo, .int .i64 hi, .bool wk] 41)) := (Below.refl _ _).alloc (Nat.le_refl _) _
  obtain ⟨r, hr⟩ : ∃ r, r = mayS ⟨lo, hi, wk⟩ := ⟨_, rfl⟩
  rw [← hr]
  by_cases h1 : lo ≤ hi
  · by_cases h2 : -2048 ≤ lo
    · by_cases h3 : hi ≤ 2048
      · obtain rfl : r = true := by rw [hr]; simp [mayS]; omega
        clear hr
        go_enter Tryz.func34, Tryz.ntmps34
        go_wp2
        go_ret
        exact ⟨rfl, hB⟩
      · obtain rfl : r = false := by rw [hr]; simp [mayS]; omega
        clear hr
        go_enter Tryz.func34, Tryz.ntmps34
        go_wp2
        go_ret
        exact ⟨rfl, hB⟩
    · obtain rfl : r = false := by rw [hr]; simp [mayS]; omega
      clear hr
      go_enter Tryz.func34, Tryz.ntmps34
      go_wp2
      go_ret
      exact ⟨rfl, hB⟩
  · obtain rfl : r = false := by rw [hr]; simp [mayS]; omega
    clear hr
    go_enter Tryz.func34, Tryz.ntmps34
    go_wp2
    go_ret
    exact ⟨rfl, hB⟩

set_option maxHeartbeats 400000 in
theorem spancheck_any (a : Option Addr) (n c : Nat) (xs : List Spn) (w : World) (hx : SlSp w a n c xs) :
    Calls Tryz.prog 19 #[.slice a n c] w fun e w' => e = .returned (.int .i64 (spE xs)) ∧ Below w.heap.size w w' := by
  have Hl := Lib.hid hx.len
  have hmax := hx.max
  have hle := hx.le
  by_cases h8 : 8 < n
  · have h8' : (8 : Int) < (n : Int) := by omega
    have He : Hid (spE xs = 2) := spE_long (by rw [Hl.out]; exact h8)
    clear hx
    go_enter Tryz.func19, Tryz.ntmps19
    go_wp2
    go_ret
    exact ⟨ret_int He.out.symm, Below.refl _ _⟩
  have h8' : ¬ (8 : Int) < (n : Int) := by omega
  have Hx := Lib.hid hx; clear hx
  go_enter Tryz.func19, Tryz.ntmps19
  go_wp2
  go_loopw [10] (fun i wr => ∃ k : Nat, i = .int .i64 k ∧ k ≤ n ∧ Below w.heap.size w wr ∧ Hid (∀ i, i < k → goodAt xs i = true)) (fun i _ => n - (intOf i).toNat)
  case atStart => exact ⟨0, rfl, Nat.zero_le _, Below.refl _ _, fun i hi => absurd hi (Nat.not_lt_zero i)⟩
  case round =>
    obtain ⟨k, rfl, hk, hb, Hgood⟩ := hrel
    by_cases hlt : k < n
    · obtain ⟨b, off, rfl, hbl, hc⟩ := (Hx.out.below hb (Nat.le_refl _)).at0 (by omega)
      obtain ⟨x, hxk⟩ : ∃ x, xs[k]? = some x := ⟨_, List.getElem?_eq_getElem (by rw [Hl.out]; exact hlt)⟩
      obtain ⟨c1, c2, c3⟩ := SlSp.cells hc hxk
      by_cases hk0 : k = 0
      · subst hk0
        have hg0 : goodAt xs 0 = mayS x := goodAt_zero hxk
        obtain ⟨xlo, xhi, xwk⟩ := x
        have Hm := may_any xlo xhi xwk
        obtain ⟨r, hr⟩ : ∃ r, r = mayS ⟨xlo, xhi, xwk⟩ := ⟨_, rfl⟩
        rw [← hr] at Hm hg0
        have Hg0 := Lib.hid hg0
        have Hm' := Lib.hid Hm
        clear hc hxk hg0 hr Hm
        simp only [Nat.zero_mul, Nat.add_zero] at c1 c2 c3
        cases r with
        | true =>
          go_wp2
          refine wp_named (F := fun w0 => Below w.heap.size w w0 ∧ w0.cell? ⟨wr.heap.size, 0, none⟩ = some (.int .i64 xlo) ∧ w0.cell? ⟨wr.heap.size, 1, none⟩ = some (.int .i64 xhi) ∧ w0.cell? ⟨wr.heap.size, 2, none⟩ = some (.bool xwk)) ⟨hb.alloc hb.size _, World.cell?_alloc_at _ _ _ _ rfl, World.cell?_alloc_at _ _ _ _ rfl, World.cell?_alloc_at _ _ _ _ rfl⟩ ?_
          rintro w0 ⟨hb0, d1, d2, d3⟩
          have e1 := fun d os => cell_regrown d1 d os
          have e2 := fun d os => cell_regrown d2 d os
          have e3 := fun d os => cell_regrown d3 d os
          clear d1 d2 d3
          refine wp_region_quiet_below (by kernel_rfl) (by kernel_rfl) ?_
          repeat (go_big_quiet_step (exact Calls.regrown_of (Hm'.out _)))
          refine wpQuiet_nil ?_
          rintro w' ⟨⟨dq, osq⟩, hw''⟩
          have hb2 : Below w.heap.size w w' := by rw [hw'']; exact hb0.trans ((below_regrown w0 dq osq).mono hb0.size)
          clear hw'' e1 e2 e3
          go_wp2
          go_roundw
          case rel => exact ⟨1, by go_num, by omega, hb2, good_step Hgood.out Hg0.out⟩
          case measure => simp [intOf]; omega
        | false =>
          go_wp2
          refine wp_named (F := fun w0 => Below w.heap.size w w0 ∧ w0.cell? ⟨wr.heap.size, 0, none⟩ = some (.int .i64 xlo) ∧ w0.cell? ⟨wr.heap.size, 1, none⟩ = some (.int .i64 xhi) ∧ w0.cell? ⟨wr.heap.size, 2, none⟩ = some (.bool xwk)) ⟨hb.alloc hb.size _, World.cell?_alloc_at _ _ _ _ rfl, World.cell?_alloc_at _ _ _ _ rfl, World.cell?_alloc_at _ _ _ _ rfl⟩ ?_
          rintro w0 ⟨hb0, d1, d2, d3⟩
          have e1 := fun d os => cell_regrown d1 d os
          have e2 := fun d os => cell_regrown d2 d os
          have e3 := fun d os => cell_regrown d3 d os
          clear d1 d2 d3
          refine wp_region_quiet_below (by kernel_rfl) (by kernel_rfl) ?_
          repeat (go_big_quiet_step (exact Calls.regrown_of (Hm'.out _)))
          refine wpQuiet_nil ?_
          rintro w' ⟨⟨dq, osq⟩, hw''⟩
          have hb2 : Below w.heap.size w w' := by rw [hw'']; exact hb0.trans ((below_regrown w0 dq osq).mono hb0.size)
          clear hw'' e1 e2 e3
          have He : Hid (spE xs = 2) := spE_bad (by rw [Hl.out]; exact hlt) Hg0.out
          go_wp2
          go_ret
          exact ⟨ret_int He.out.symm, hb2⟩
      · have hkp : 0 < k := by omega
        obtain ⟨y, hyk⟩ : ∃ y, xs[k - 1]? = some y := ⟨_, List.getElem?_eq_getElem (by rw [Hl.out]; omega)⟩
        obtain ⟨_, p2, _⟩ := SlSp.cells hc hyk
        have hg0 : goodAt xs k = (mayS x && decide (y.hi < x.lo)) := goodAt_succ (by omega) hxk hyk
        obtain ⟨xlo, xhi, xwk⟩ := x
        obtain ⟨ylo, yhi, ywk⟩ := y
        have Hm := may_any xlo xhi xwk
        obtain ⟨r, hr⟩ : ∃ r, r = mayS ⟨xlo, xhi, xwk⟩ := ⟨_, rfl⟩
        rw [← hr] at Hm hg0
        have Hm' := Lib.hid Hm
        clear hc hxk hyk hr Hm hk0
        simp only at c1 c2 c3 p2 hg0
        cases r with
        | true =>
          by_cases hlo : yhi < xlo
          · have Hg0 : Hid (goodAt xs k = true) := by show _ = _; rw [hg0]; simp [hlo]
            have hlo' : ¬ xlo ≤ yhi := by omega
            clear hg0
            go_wp2
            refine wp_named (F := fun w0 => Below w.heap.size w w0 ∧ w0.cell? ⟨wr.heap.size, 0, none⟩ = some (.int .i64 xlo) ∧ w0.cell? ⟨wr.heap.size, 1, none⟩ = some (.int .i64 xhi) ∧ w0.cell? ⟨wr.heap.size, 2, none⟩ = some (.bool xwk) ∧ w0.cell? ⟨b, off + (k - 1) * 3 + 1, none⟩ = some (.int .i64 yhi)) ⟨hb.alloc hb.size _, World.cell?_alloc_at _ _ _ _ rfl, World.cell?_alloc_at _ _ _ _ rfl, World.cell?_alloc_at _ _ _ _ rfl, (World.cell?_alloc_past _ _ _ hbl).trans p2⟩ ?_
            rintro w0 ⟨hb0, d1, d2, d3, d4⟩
            have e1 := fun d os => cell_regrown d1 d os
            have e2 := fun d os => cell_regrown d2 d os
            have e3 := fun d os => cell_regrown d3 d os
            have e4 := fun d os => cell_regrown d4 d os
            clear d1 d2 d3
            refine wp_region_quiet_below (by kernel_rfl) (by kernel_rfl) ?_
            repeat (go_big_quiet_step (exact Calls.regrown_of (Hm'.out _)))
            refine wpQuiet_nil ?_
            rintro w' ⟨⟨dq, osq⟩, hw''⟩
            have hb2 : Below w.heap.size w w' := by rw [hw'']; exact hb0.trans ((below_regrown w0 dq osq).mono hb0.size)
            clear hw'' e1 e2 e3 e4
            go_wp2
            go_roundw
            case rel => exact ⟨k + 1, by go_num, by omega, hb2, good_step Hgood.out Hg0.out⟩
            case measure => simp [intOf]; omega
          · have Hg0 : Hid (goodAt xs k = false) := by show _ = _; rw [hg0]; simp [hlo]
            have hlo' : xlo ≤ yhi := by omega
            clear hg0
            go_wp2
            refine wp_named (F := fun w0 => Below w.heap.size w w0 ∧ w0.cell? ⟨wr.heap.size, 0, none⟩ = some (.int .i64 xlo) ∧ w0.cell? ⟨wr.heap.size, 1, none⟩ = some (.int .i64 xhi) ∧ w0.cell? ⟨wr.heap.size, 2, none⟩ = some (.bool xwk) ∧ w0.cell? ⟨b, off + (k - 1) * 3 + 1, none⟩ = some (.int .i64 yhi)) ⟨hb.alloc hb.size _, World.cell?_alloc_at _ _ _ _ rfl, World.cell?_alloc_at _ _ _ _ rfl, World.cell?_alloc_at _ _ _ _ rfl, (World.cell?_alloc_past _ _ _ hbl).trans p2⟩ ?_
            rintro w0 ⟨hb0, d1, d2, d3, d4⟩
            have e1 := fun d os => cell_regrown d1 d os
            have e2 := fun d os => cell_regrown d2 d os
            have e3 := fun d os => cell_regrown d3 d os
            have e4 := fun d os => cell_regrown d4 d os
            clear d1 d2 d3
            refine wp_region_quiet_below (by kernel_rfl) (by kernel_rfl) ?_
            repeat (go_big_quiet_step (exact Calls.regrown_of (Hm'.out _)))
            refine wpQuiet_nil ?_
            rintro w' ⟨⟨dq, osq⟩, hw''⟩
            have hb2 : Below w.heap.size w w' := by rw [hw'']; exact hb0.trans ((below_regrown w0 dq osq).mono hb0.size)
            clear hw'' e1 e2 e3 e4
            have He : Hid (spE xs = 2) := spE_bad (by rw [Hl.out]; exact hlt) Hg0.out
            go_wp2
            go_ret
            exact ⟨ret_int He.out.symm, hb2⟩
        | false =>
          have Hg0 : Hid (goodAt xs k = false) := by show _ = _; rw [hg0]; rfl
          clear hg0 p2
          go_wp2
          refine wp_named (F := fun w0 => Below w.heap.size w w0 ∧ w0.cell? ⟨wr.heap.size, 0, none⟩ = some (.int .i64 xlo) ∧ w0.cell? ⟨wr.heap.size, 1, none⟩ = some (.int .i64 xhi) ∧ w0.cell? ⟨wr.heap.size, 2, none⟩ = some (.bool xwk)) ⟨hb.alloc hb.size _, World.cell?_alloc_at _ _ _ _ rfl, World.cell?_alloc_at _ _ _ _ rfl, World.cell?_alloc_at _ _ _ _ rfl⟩ ?_
          rintro w0 ⟨hb0, d1, d2, d3⟩
          have e1 := fun d os => cell_regrown d1 d os
          have e2 := fun d os => cell_regrown d2 d os
          have e3 := fun d os => cell_regrown d3 d os
          clear d1 d2 d3
          refine wp_region_quiet_below (by kernel_rfl) (by kernel_rfl) ?_
          repeat (go_big_quiet_step (exact Calls.regrown_of (Hm'.out _)))
          refine wpQuiet_nil ?_
          rintro w' ⟨⟨dq, osq⟩, hw''⟩
          have hb2 : Below w.heap.size w w' := by rw [hw'']; exact hb0.trans ((below_regrown w0 dq osq).mono hb0.size)
          clear hw'' e1 e2 e3
          have He : Hid (spE xs = 2) := spE_bad (by rw [Hl.out]; exact hlt) Hg0.out
          go_wp2
          go_ret
          exact ⟨ret_int He.out.symm, hb2⟩
    · have He : Hid (spE xs = 0) := spE_good (by rw [Hl.out]; omega) (fun i hi => Hgood.out i (by rw [Hl.out] at hi; omega))
      go_wp2
      go_ret
      exact ⟨ret_int He.out.symm, hb⟩

set_option maxHeartbeats 400000 in
theorem refmay_any (lo hi : Int) (wk : Bool) (w : World) :
    Calls Tryz.prog 24 #[.agg #[.int .i64 lo, .int .i64 hi, .bool wk]] w fun e w' => e = .returned (.bool (mayS ⟨lo, hi, wk⟩)) ∧ Below w.heap.size w w' := by
  have hB : Below w.heap.size w (w.alloc (.cells #[.int .i64 lo, .int .i64 hi, .bool wk] 41)) := (Below.refl _ _).alloc (Nat.le_refl _) _
  obtain ⟨r, hr⟩ : ∃ r, r = mayS ⟨lo, hi, wk⟩ := ⟨_, rfl⟩
  rw [← hr]
  by_cases h1 : lo ≤ hi
  · by_cases h2 : -2048 ≤ lo
    · by_cases h3 : hi ≤ 2048
      · obtain rfl : r = true := by rw [hr]; simp [mayS]; omega
        clear hr
        go_enter Tryz.func24, Tryz.ntmps24
        go_wp2
        go_ret
        exact ⟨rfl, hB⟩
      · obtain rfl : r = false := by rw [hr]; simp [mayS]; omega
        clear hr
        go_enter Tryz.func24, Tryz.ntmps24
        go_wp2
        go_ret
        exact ⟨rfl, hB⟩
    · obtain rfl : r = false := by rw [hr]; simp [mayS]; omega
      clear hr
      go_enter Tryz.func24, Tryz.ntmps24
      go_wp2
      go_ret
      exact ⟨rfl, hB⟩
  · obtain rfl : r = false := by rw [hr]; simp [mayS]; omega
    clear hr
    go_enter Tryz.func24, Tryz.ntmps24
    go_wp2
    go_ret
    exact ⟨rfl, hB⟩

set_option maxHeartbeats 400000 in
theorem refspancheck_any (a : Option Addr) (n c : Nat) (xs : List Spn) (w : World) (hx : SlSp w a n c xs) :
    Calls Tryz.prog 15 #[.slice a n c] w fun e w' => e = .returned (.int .i64 (spE xs)) ∧ Below w.heap.size w w' := by
  have Hl := Lib.hid hx.len
  have hmax := hx.max
  have hle := hx.le
  by_cases h8 : 8 < n
  · have h8' : (8 : Int) < (n : Int) := by omega
    have He : Hid (spE xs = 2) := spE_long (by rw [Hl.out]; exact h8)
    clear hx
    go_enter Tryz.func15, Tryz.ntmps15
    go_wp2
    go_ret
    exact ⟨ret_int He.out.symm, Below.refl _ _⟩
  have h8' : ¬ (8 : Int) < (n : Int) := by omega
  have Hx := Lib.hid hx; clear hx
  go_enter Tryz.func15, Tryz.ntmps15
  go_wp2
  go_loopw [3] (fun i wr => ∃ k : Nat, i = .int .i64 k ∧ k ≤ n ∧ Below w.heap.size w wr ∧ Hid (∀ i, i < k → goodAt xs i = true)) (fun i _ => n - (intOf i).toNat)
  case atStart => exact ⟨0, rfl, Nat.zero_le _, Below.refl _ _, fun i hi => absurd hi (Nat.not_lt_zero i)⟩
  case round =>
    obtain ⟨k, rfl, hk, hb, Hgood⟩ := hrel
    by_cases hlt : k < n
    · obtain ⟨b, off, rfl, hbl, hc⟩ := (Hx.out.below hb (Nat.le_refl _)).at0 (by omega)
      obtain ⟨x, hxk⟩ : ∃ x, xs[k]? = some x := ⟨_, List.getElem?_eq_getElem (by rw [Hl.out]; exact hlt)⟩
      obtain ⟨c1, c2, c3⟩ := SlSp.cells hc hxk
      by_cases hk0 : k = 0
      · subst hk0
        have hg0 : goodAt xs 0 = mayS x := goodAt_zero hxk
        obtain ⟨xlo, xhi, xwk⟩ := x
        have Hm := refmay_any xlo xhi xwk
        obtain ⟨r, hr⟩ : ∃ r, r = mayS ⟨xlo, xhi, xwk⟩ := ⟨_, rfl⟩
        rw [← hr] at Hm hg0
        have Hg0 := Lib.hid hg0
        have Hm' := Lib.hid Hm
        clear hc hxk hg0 hr Hm
        simp only [Nat.zero_mul, Nat.add_zero] at c1 c2 c3
        cases r with
        | true =>
          have e1 := fun d os => cell_regrown c1 d os
          have e2 := fun d os => cell_regrown c2 d os
          have e3 := fun d os => cell_regrown c3 d os
          clear c1 c2 c3
          go_wp2
          refine wp_region_quiet_below (by kernel_rfl) (by kernel_rfl) ?_
          repeat (go_big_quiet_step (exact Calls.regrown_of (Hm'.out _)))
          refine wpQuiet_nil ?_
          rintro w' ⟨⟨dq, osq⟩, hw''⟩
          have hb2 : Below w.heap.size w w' := by rw [hw'']; exact hb.trans ((below_regrown wr dq osq).mono hb.size)
          clear hw'' e1 e2 e3
          go_wp2
          go_roundw
          case rel => exact ⟨1, by go_num, by omega, hb2, good_step Hgood.out Hg0.out⟩
          case measure => simp [intOf]; omega
        | false =>
          have e1 := fun d os => cell_regrown c1 d os
          have e2 := fun d os => cell_regrown c2 d os
          have e3 := fun d os => cell_regrown c3 d os
          clear c1 c2 c3
          go_wp2
          refine wp_region_quiet_below (by kernel_rfl) (by kernel_rfl) ?_
          repeat (go_big_quiet_step (exact Calls.regrown_of (Hm'.out _)))
          refine wpQuiet_nil ?_
          rintro w' ⟨⟨dq, osq⟩, hw''⟩
          have hb2 : Below w.heap.size w w' := by rw [hw'']; exact hb.trans ((below_regrown wr dq osq).mono hb.size)
          clear hw'' e1 e2 e3
          have He : Hid (spE xs = 2) := spE_bad (by rw [Hl.out]; exact hlt) Hg0.out
          go_wp2
          go_ret
          exact ⟨ret_int He.out.symm, hb2⟩
      · have hkp : 0 < k := by omega
        obtain ⟨y, hyk⟩ : ∃ y, xs[k - 1]? = some y := ⟨_, List.getElem?_eq_getElem (by rw [Hl.out]; omega)⟩
        obtain ⟨_, p2, _⟩ := SlSp.cells hc hyk
        have hg0 : goodAt xs k = (mayS x && decide (y.hi < x.lo)) := goodAt_succ (by omega) hxk hyk
        obtain ⟨xlo, xhi, xwk⟩ := x
        obtain ⟨ylo, yhi, ywk⟩ := y
        have Hm := refmay_any xlo xhi xwk
        obtain ⟨r, hr⟩ : ∃ r, r = mayS ⟨xlo, xhi, xwk⟩ := ⟨_, rfl⟩
        rw [← hr] at Hm hg0
        have Hm' := Lib.hid Hm
        clear hc hxk hyk hr Hm hk0
        simp only at c1 c2 c3 p2 hg0
        cases r with
        | true =>
          by_cases hlo : yhi < xlo
          · have Hg0 : Hid (goodAt xs k = true) := by show _ = _; rw [hg0]; simp [hlo]
            have hlo' : ¬ xlo ≤ yhi := by omega
            clear hg0
            have e1 := fun d os => cell_regrown c1 d os
            have e2 := fun d os => cell_regrown c2 d os
            have e3 := fun d os => cell_regrown c3 d os
            have e4 := fun d os => cell_regrown p2 d os
            clear c1 c2 c3
            go_wp2
            refine wp_region_quiet_below (by kernel_rfl) (by kernel_rfl) ?_
            repeat (go_big_quiet_step (exact Calls.regrown_of (Hm'.out _)))
            refine wpQuiet_nil ?_
            rintro w' ⟨⟨dq, osq⟩, hw''⟩
            have hb2 : Below w.heap.size w w' := by rw [hw'']; exact hb.trans ((below_regrown wr dq osq).mono hb.size)
            clear hw'' e1 e2 e3 e4
            go_wp2
            go_roundw
            case rel => exact ⟨k + 1, by go_num, by omega, hb2, good_step Hgood.out Hg0.out⟩
            case measure => simp [intOf]; omega
          · have Hg0 : Hid (goodAt xs k = false) := by show _ = _; rw [hg0]; simp [hlo]
            have hlo' : xlo ≤ yhi := by omega
            clear hg0
            have e1 := fun d os => cell_regrown c1 d os
            have e2 := fun d os => cell_regrown c2 d os
            have e3 := fun d os => cell_regrown c3 d os
            have e4 := fun d os => cell_regrown p2 d os
            clear c1 c2 c3
            go_wp2
            refine wp_region_quiet_below (by kernel_rfl) (by kernel_rfl) ?_
            repeat (go_big_quiet_step (exact Calls.regrown_of (Hm'.out _)))
            refine wpQuiet_nil ?_
            rintro w' ⟨⟨dq, osq⟩, hw''⟩
            have hb2 : Below w.heap.size w w' := by rw [hw'']; exact hb.trans ((below_regrown wr dq osq).mono hb.size)
            clear hw'' e1 e2 e3 e4
            have He : Hid (spE xs = 2) := spE_bad (by rw [Hl.out]; exact hlt) Hg0.out
            go_wp2
            go_ret
            exact ⟨ret_int He.out.symm, hb2⟩
        | false =>
          have Hg0 : Hid (goodAt xs k = false) := by show _ = _; rw [hg0]; rfl
          clear hg0 p2
          have e1 := fun d os => cell_regrown c1 d os
          have e2 := fun d os => cell_regrown c2 d os
          have e3 := fun d os => cell_regrown c3 d os
          clear c1 c2 c3
          go_wp2
          refine wp_region_quiet_below (by kernel_rfl) (by kernel_rfl) ?_
          repeat (go_big_quiet_step (exact Calls.regrown_of (Hm'.out _)))
          refine wpQuiet_nil ?_
          rintro w' ⟨⟨dq, osq⟩, hw''⟩
          have hb2 : Below w.heap.size w w' := by rw [hw'']; exact hb.trans ((below_regrown wr dq osq).mono hb.size)
          clear hw'' e1 e2 e3
          have He : Hid (spE xs = 2) := spE_bad (by rw [Hl.out]; exact hlt) Hg0.out
          go_wp2
          go_ret
          exact ⟨ret_int He.out.symm, hb2⟩
    · have He : Hid (spE xs = 0) := spE_good (by rw [Hl.out]; omega) (fun i hi => Hgood.out i (by rw [Hl.out] at hi; omega))
      go_wp2
      go_ret
      exact ⟨ret_int He.out.symm, hb⟩

end Go.Proofs.YtjiklfffcnfdjaaGreat

namespace Go.Proofs.YtjiklfffcnfdjaaGreat
open Go.RowKit

theorem ret_spn {a a' b b' : Int} {c c' : Bool} (h1 : a = a') (h2 : b = b') (h3 : c = c') : Ending.returned (.agg #[.int .i64 a, .int .i64 b, .bool c]) = Ending.returned (.agg #[.int .i64 a', .int .i64 b', .bool c']) := by rw [h1, h2, h3]
theorem join_wk {p : Bool} {x y : Int} {aw bw : Bool} (h : ∀ m, x ≤ m → y ≤ m → (m = x ∨ m = y) → (p = true ↔ (aw = true ∧ x = m ∨ bw = true ∧ y = m))) : p = (aw && decide (x = max x y) || bw && decide (y = max x y)) := by
  rw [Bool.eq_iff_iff]
  simp only [Bool.or_eq_true, Bool.and_eq_true, decide_eq_true_eq]
  exact h _ (by omega) (by omega) (by omega)
theorem info_spn : (Tryz.prog.info? 41).map (fun i => (i.zero, i.size, i.bytes)) = some (some (.agg #[.int .i64 0, .int .i64 0, .bool false]), 3, 24) := by kernel_rfl
theorem spnC_len (x : Spn) : (spnC x).length = 3 := rfl
theorem spnC_one (x : Spn) : ∀ u ∈ spnC x, u.oneCell' = true := by intro u hu; simp [spnC] at hu; rcases hu with rfl | rfl | rfl <;> rfl
set_option maxHeartbeats 1000000 in
theorem refjoin_any (a b : Spn) (w : World) :
    Calls Tryz.prog 81 #[.agg #[.int .i64 a.lo, .int .i64 a.hi, .bool a.walk], .agg #[.int .i64 b.lo, .int .i64 b.hi, .bool b.walk]] w fun e w' => e = .returned (.agg #[.int .i64 (joinS a b).lo, .int .i64 (joinS a b).hi, .bool (joinS a b).walk]) ∧ Below w.heap.size w w' := by
  have hj1 : (joinS a b).lo = min a.lo b.lo := rfl
  have hj2 : (joinS a b).hi = max a.hi b.hi := rfl
  have hj3 : (joinS a b).walk = ((a.walk && decide (a.hi = max a.hi b.hi)) || (b.walk && decide (b.hi = max a.hi b.hi))) := rfl
  generalize joinS a b = j at hj1 hj2 hj3 ⊢
  have J1 := Lib.hid hj1
  have J2 := Lib.hid hj2
  have J3 := Lib.hid hj3
  clear hj1 hj2 hj3
  obtain ⟨alo, ahi, aw⟩ := a
  obtain ⟨blo, bhi, bw⟩ := b
  rcases Int.lt_trichotomy ahi bhi with hh | hh | hh
  rotate_left
  · subst hh
    cases aw <;> cases bw
    all_goals
      go_enter Tryz.func81, Tryz.ntmps81
      go_wp2
    all_goals
      refine bodyPost_ret (v := _) (by simp [results, Tryz.results81, go_sem]; rfl) rfl ⟨?_, by repeat (first | exact Below.refl _ _ | refine Below.alloc ?_ (by simp; try omega) _)⟩
      refine ret_spn (by rw [J1.out]; omega) (by rw [J2.out]; omega) ?_
      rw [J3.out]
      refine join_wk ?_
      clear J1 J2 J3
      grind
  all_goals
    have h1 : (ahi == bhi) = false := by simp; omega
    have h2 : (bhi == ahi) = false := by simp; omega
    have h3 : ¬ ahi = bhi := by omega
    cases aw <;> cases bw
    all_goals
      go_enter Tryz.func81, Tryz.ntmps81
      go_wp2
    all_goals
      refine bodyPost_ret (v := _) (by simp [results, Tryz.results81, go_sem]; rfl) rfl ⟨?_, by repeat (first | exact Below.refl _ _ | refine Below.alloc ?_ (by simp; try omega) _)⟩
      refine ret_spn (by rw [J1.out]; omega) (by rw [J2.out]; omega) ?_
      rw [J3.out]
      refine join_wk ?_
      clear J1 J2 J3
      grind

set_option maxHeartbeats 400000 in
theorem refmeet_any (a b : Spn) (w : World) :
    Calls Tryz.prog 80 #[.agg #[.int .i64 a.lo, .int .i64 a.hi, .bool a.walk], .agg #[.int .i64 b.lo, .int .i64 b.hi, .bool b.walk]] w fun e w' => e = .returned (.bool (meetS a b)) ∧ Below w.heap.size w w' := by
  obtain ⟨r, hr⟩ : ∃ r, r = meetS a b := ⟨_, rfl⟩
  rw [← hr]
  have R := Lib.hid hr
  clear hr
  obtain ⟨alo, ahi, aw⟩ := a
  obtain ⟨blo, bhi, bw⟩ := b
  go_enter Tryz.func80, Tryz.ntmps80
  go_wp2
  all_goals
    go_ret
    refine ⟨ret_bool ?_, by repeat (first | exact Below.refl _ _ | refine Below.alloc ?_ (by simp; try omega) _)⟩
    rw [R.out]
    unfold meetS
    clear R
    grind

/-- Where put stands. -/
def PutAt (s : Spn) (n : Nat) (xs : List Spn) (w : World) (v d i : Value) (wr : World) : Prop :=
  ∃ (k : Nat) (st : PSt), i = .int .i64 k ∧ k ≤ n ∧ Hid (st = (xs.take k).foldl pstep ([], s, false)) ∧ d = .bool st.2.2 ∧ OwnR spnC 3 41 (w.heap.size + 1) wr v st.1.length st.1 ∧ wr.heap[w.heap.size]? = some (.cells #[.int .i64 st.2.1.lo, .int .i64 st.2.1.hi, .bool st.2.1.walk] 41 (0, 0)) ∧ Below w.heap.size w wr
set_option maxRecDepth 100000 in
set_option maxHeartbeats 2000000 in
theorem refput_any (a : Option Addr) (n c : Nat) (xs : List Spn) (s : Spn) (w : World) (hx : SlSp w a n c xs) (hn : n ≤ 100000) :
    Calls Tryz.prog 61 #[.slice a n c, .agg #[.int .i64 s.lo, .int .i64 s.hi, .bool s.walk]] w fun e w' => ∃ v, e = .returned v ∧ OwnR spnC 3 41 w.heap.size w' v (putG xs s).length (putG xs s) ∧ Below w.heap.size w w' := by
  have Hl := Lib.hid hx.len
  have hmax := hx.max
  have hle := hx.le
  have Hx := Lib.hid hx; clear hx
  have HL : ∀ k, Hid (((xs.take k).foldl pstep ([], s, false)).1.length ≤ k + 1) := fun k => by
    have h1 := psteps_len0 (xs.take k) s
    have h2 := List.length_take_le k xs
    show _ ≤ _
    omega
  go_enter Tryz.func61, Tryz.ntmps61
  go_wp2
  go_loopw [5, 6, 7] (fun v d i wr => PutAt s n xs w v d i wr) (fun _ _ i _ => n - (intOf i).toNat)
  case atStart => exact ⟨0, ([], s, false), rfl, Nat.zero_le _, rfl, rfl, OwnR.nil _ _ _ _ _, World.alloc_heap_new _ _, (Below.refl _ _).alloc (Nat.le_refl _) _⟩
  case round =>
    obtain ⟨k, ⟨out, ⟨slo, shi, swk⟩, dn⟩, rfl, hk, Hst, rfl, hown, hbox, hb⟩ := hrel
    have hol : out.length ≤ k + 1 := by have := (HL k).out; rw [← Hst.out] at this; exact this
    have hsz : w.heap.size + 1 ≤ wr.heap.size := hblt hbox
    simp only at hown hbox
    by_cases hlt : k < n
    · obtain ⟨b, off, rfl, hbl, hc⟩ := (Hx.out.below hb (Nat.le_refl _)).at0 (by omega)
      obtain ⟨x, hxk⟩ : ∃ x, xs[k]? = some x := ⟨_, List.getElem?_eq_getElem (by rw [Hl.out]; exact hlt)⟩
      obtain ⟨c1, c2, c3⟩ := SlSp.cells hc hxk
      have hbw : b < w.heap.size := by
        rcases Hx.out.cell with h0 | ⟨b', off', e, h1, _⟩
        · omega
        · cases e; exact h1
      have Hst2 : Hid ((xs.take (k + 1)).foldl pstep ([], s, false) = pstep (out, ⟨slo, shi, swk⟩, dn) x) := by show _ = _; rw [take_step _ _ _ hxk, ← Hst.out]
      have d1 := hcell (k := 0) (v := .int .i64 slo) hbox rfl
      have d2 := hcell (k := 1) (v := .int .i64 shi) hbox rfl
      have d3 := hcell (k := 2) (v := .bool swk) hbox rfl
      have f1 := hfroz (k := 0) hbox
      have f2 := hfroz (k := 1) hbox
      have f3 := hfroz (k := 2) hbox
      have Hm := refmeet_any x ⟨slo, shi, swk⟩
      have Hj := refjoin_any x ⟨slo, shi, swk⟩
      obtain ⟨r, hr⟩ : ∃ r, r = meetS x ⟨slo, shi, swk⟩ := ⟨_, rfl⟩
      rw [← hr] at Hm
      obtain ⟨xlo, xhi, xwk⟩ := x
      have Hm' := Lib.hid Hm
      have Hr := Lib.hid hr
      have Hj' := Lib.hid Hj
      have hltI : (k : Int) < (n : Int) := by omega
      clear hc hxk hr Hm Hj
      simp only at c1 c2 c3
      go_wp2
      have e_c1 := fun d os => cell_regrown c1 d os
      have e_c2 := fun d os => cell_regrown c2 d os
      have e_c3 := fun d os => cell_regrown c3 d os
      have e_d1 := fun d os => cell_regrown d1 d os
      have e_d2 := fun d os => cell_regrown d2 d os
      have e_d3 := fun d os => cell_regrown d3 d os
      clear c1 c2 c3 d1 d2 d3
      refine wp_region_quiet_below (by kernel_rfl) (by kernel_rfl) ?_
      repeat (go_big_quiet_step (exact Calls.regrown_of (Hm'.out _)))
      refine wpQuiet_nil ?_
      rintro w2 ⟨⟨dq, osq⟩, hw''⟩
      have hb2 : Below w.heap.size w w2 := by rw [hw'']; exact hb.trans ((below_regrown wr dq osq).mono hb.size)
      have hstep : Below wr.heap.size wr w2 := by rw [hw'']; exact below_regrown wr dq osq
      have c1 := e_c1 dq osq
      rw [← hw''] at c1
      have c2 := e_c2 dq osq
      rw [← hw''] at c2
      have c3 := e_c3 dq osq
      rw [← hw''] at c3
      have d1 := e_d1 dq osq
      rw [← hw''] at d1
      have d2 := e_d2 dq osq
      rw [← hw''] at d2
      have d3 := e_d3 dq osq
      rw [← hw''] at d3
      clear hw'' e_c1 e_c2 e_c3 e_d1 e_d2 e_d3
      have hbox2 := hkeep hstep hbox
      have hown2 := hown.below hstep (Nat.le_refl _)
      have g1 := hfroz (k := 0) hbox2
      have g2 := hfroz (k := 1) hbox2
      have g3 := hfroz (k := 2) hbox2
      have hsz2 : w.heap.size + 1 ≤ w2.heap.size := hblt hbox2
      clear hstep hbox hown f1 f2 f3 hb hsz
      cases r with
      | true =>
        obtain ⟨jn, hjn⟩ : ∃ jn, jn = joinS ⟨xlo, xhi, xwk⟩ ⟨slo, shi, swk⟩ := ⟨_, rfl⟩
        rw [← hjn] at Hj'
        have Hjn := Lib.hid hjn
        clear hjn
        have HS : Hid ((xs.take (k + 1)).foldl pstep ([], s, false) = (out, jn, dn)) := by
          show _ = _
          rw [Hst2.out, Hjn.out]
          simp [pstep, ← Hr.out]
        clear Hst2 Hr Hm'
        go_wp2
        have e_c1 := fun d os => cell_regrown c1 d os
        have e_c2 := fun d os => cell_regrown c2 d os
        have e_c3 := fun d os => cell_regrown c3 d os
        have e_d1 := fun d os => cell_regrown d1 d os
        have e_d2 := fun d os => cell_regrown d2 d os
        have e_d3 := fun d os => cell_regrown d3 d os
        clear c1 c2 c3 d1 d2 d3
        refine wp_region_below_tail 6 (by kernel_rfl) (by kernel_rfl) ?_
        simp only [List.take_succ_cons, List.take_zero, List.drop_succ_cons, List.drop_zero]
        repeat (go_big_quiet_step (exact Calls.regrown_of (Hj'.out _)))
        refine wpQuiet_nil ?_
        rintro w3 ⟨⟨dq, osq⟩, hw''⟩
        have hb3 : Below w.heap.size w w3 := by rw [hw'']; exact hb2.trans ((below_regrown w2 dq osq).mono hb2.size)
        have hstep : Below w2.heap.size w2 w3 := by rw [hw'']; exact below_regrown w2 dq osq
        clear hw'' e_c1 e_c2 e_c3 e_d1 e_d2 e_d3
        have hbox3 := hkeep hstep hbox2
        have hown3 := hown2.below hstep (Nat.le_refl _)
        have d1 := hcell (k := 0) (v := .int .i64 slo) hbox3 rfl
        have d2 := hcell (k := 1) (v := .int .i64 shi) hbox3 rfl
        have d3 := hcell (k := 2) (v := .bool swk) hbox3 rfl
        have f1 := hfroz (k := 0) hbox3
        have f2 := hfroz (k := 1) hbox3
        have f3 := hfroz (k := 2) hbox3
        clear hstep hbox2 hown2 hb2 g1 g2 g3 Hj'
        go_wp2
        have hbox4 := box3_set hbox3 (.int .i64 jn.lo) (.int .i64 jn.hi) (.bool jn.walk)
        have hg4 := box3_grown (w := w3) (b := w.heap.size) (.int .i64 jn.lo) (.int .i64 jn.hi) (.bool jn.walk)
        have hown4 := hown3.kept hg4 (.inr (own_ne hown3.le (Nat.lt_succ_self _)))
        have hb4 := hb3.grown hg4 hb3.size (fun j hj => by cases hj; exact Nat.le_refl _)
        clear hg4 hbox3 hown3 hb3
        go_roundw
        case rel => exact ⟨k + 1, (out, jn, dn), by go_num, by omega, Lib.hid HS.out.symm, rfl, hown4, hbox4, hb4⟩
        case measure => simp [intOf]; omega
      | false =>
        cases dn with
        | true =>
          have HS : Hid ((xs.take (k + 1)).foldl pstep ([], s, false) = (out ++ [⟨xlo, xhi, xwk⟩], ⟨slo, shi, swk⟩, true)) := by
            show _ = _
            rw [Hst2.out]
            simp [pstep, ← Hr.out]
          clear Hst2 Hr Hm' Hj'
          go_wp2
          have e_c1 := fun d os => cell_regrown c1 d os
          have e_c2 := fun d os => cell_regrown c2 d os
          have e_c3 := fun d os => cell_regrown c3 d os
          have e_d1 := fun d os => cell_regrown d1 d os
          have e_d2 := fun d os => cell_regrown d2 d os
          have e_d3 := fun d os => cell_regrown d3 d os
          clear c1 c2 c3 d1 d2 d3
          refine wp_region_quiet_below (by kernel_rfl) (by kernel_rfl) ?_
          repeat (go_big_quiet_step (fail))
          refine wpQuiet_nil ?_
          rintro w3 ⟨⟨dq, osq⟩, hw''⟩
          have hb3 : Below w.heap.size w w3 := by rw [hw'']; exact hb2.trans ((below_regrown w2 dq osq).mono hb2.size)
          have hstep : Below w2.heap.size w2 w3 := by rw [hw'']; exact below_regrown w2 dq osq
          have c1 := e_c1 dq osq
          rw [← hw''] at c1
          have c2 := e_c2 dq osq
          rw [← hw''] at c2
          have c3 := e_c3 dq osq
          rw [← hw''] at c3
          have d1 := e_d1 dq osq
          rw [← hw''] at d1
          have d2 := e_d2 dq osq
          rw [← hw''] at d2
          have d3 := e_d3 dq osq
          rw [← hw''] at d3
          clear hw'' e_c1 e_c2 e_c3 e_d1 e_d2 e_d3
          have hbox3 := hkeep hstep hbox2
          have hown3 := hown2.below hstep (Nat.le_refl _)
          have hsz3 := hblt hbox3
          clear hstep hbox2 hown2 hb2 g1 g2 g3 hsz2
          go_wp2_with (at_builtin; refine wpList_appR (f := spnC) (sz := 3) (e := 41) (B := w.heap.size + 1) (n := out.length) (xs := out) _ spnC_len spnC_one rfl _ _ 24 rfl (.agg #[.int .i64 0, .int .i64 0, .bool false]) 24 Tryz.underlying24 info_spn rfl (by decide) ⟨xlo, xhi, xwk⟩ 41 hown3 rfl rfl (by omega) (by omega) (by omega) ?_; intro v' w' hown' happ)
          have hbox5 := hgrown happ.grown hbox3 (own_ne hown3.le (Nat.lt_succ_self _))
          have hb5 := hb3.trans (happ.below (B := w.heap.size) (by omega) (fun j hj => by have := hown3.le j hj; omega))
          clear happ hb3 hbox3 hown3 c1 c2 c3 d1 d2 d3
          go_wp2
          go_roundw
          case rel => exact ⟨k + 1, (out ++ [⟨xlo, xhi, xwk⟩], ⟨slo, shi, swk⟩, true), by go_num, by omega, Lib.hid HS.out.symm, rfl, by have h9 := hown'.1; simp only at h9 ⊢; rw [h9]; exact hown', hbox5, hb5⟩
          case measure => simp [intOf]; omega
        | false =>
          by_cases hc : shi < xlo
          · have hcI : decide (shi < xlo) = true := by simpa using hc
            have HS : Hid ((xs.take (k + 1)).foldl pstep ([], s, false) = (out ++ [⟨slo, shi, swk⟩] ++ [⟨xlo, xhi, xwk⟩], ⟨slo, shi, swk⟩, true)) := by
              show _ = _
              rw [Hst2.out]
              simp [pstep, ← Hr.out, hc]
            clear Hst2 Hr Hm' Hj'
            go_wp2
            have e_c1 := fun d os => cell_regrown c1 d os
            have e_c2 := fun d os => cell_regrown c2 d os
            have e_c3 := fun d os => cell_regrown c3 d os
            have e_d1 := fun d os => cell_regrown d1 d os
            have e_d2 := fun d os => cell_regrown d2 d os
            have e_d3 := fun d os => cell_regrown d3 d os
            clear c1 c2 c3 d1 d2 d3
            refine wp_region_quiet_below (by kernel_rfl) (by kernel_rfl) ?_
            repeat (go_big_quiet_step (fail))
            refine wpQuiet_nil ?_
            rintro w3 ⟨⟨dq, osq⟩, hw''⟩
            have hb3 : Below w.heap.size w w3 := by rw [hw'']; exact hb2.trans ((below_regrown w2 dq osq).mono hb2.size)
            have hstep : Below w2.heap.size w2 w3 := by rw [hw'']; exact below_regrown w2 dq osq
            have c1 := e_c1 dq osq
            rw [← hw''] at c1
            have c2 := e_c2 dq osq
            rw [← hw''] at c2
            have c3 := e_c3 dq osq
            rw [← hw''] at c3
            have d1 := e_d1 dq osq
            rw [← hw''] at d1
            have d2 := e_d2 dq osq
            rw [← hw''] at d2
            have d3 := e_d3 dq osq
            rw [← hw''] at d3
            clear hw'' e_c1 e_c2 e_c3 e_d1 e_d2 e_d3
            have hbox3 := hkeep hstep hbox2
            have hown3 := hown2.below hstep (Nat.le_refl _)
            have hsz3 := hblt hbox3
            clear hstep hbox2 hown2 hb2 g1 g2 g3 hsz2
            go_wp2_with (first | (at_builtin; refine wpList_appR (f := spnC) (sz := 3) (e := 41) (B := w.heap.size + 1) (n := out.length) (xs := out) _ spnC_len spnC_one rfl _ _ 24 rfl (.agg #[.int .i64 0, .int .i64 0, .bool false]) 24 Tryz.underlying24 info_spn rfl (by decide) ⟨slo, shi, swk⟩ 41 hown3 rfl rfl (by omega) (by omega) (by omega) ?_; intro v' w' hown' happ; have hbox4 := hgrown happ.grown hbox3 (own_ne hown3.le (Nat.lt_succ_self _)); have hb4 := hb3.trans (happ.below (B := w.heap.size) (by omega) (fun j hj => by have := hown3.le j hj; omega)); have c1' := happ.grown.cell c1 (own_ne hown3.le (show b < w.heap.size + 1 by omega)).symm; have c2' := happ.grown.cell c2 (own_ne hown3.le (show b < w.heap.size + 1 by omega)).symm; have c3' := happ.grown.cell c3 (own_ne hown3.le (show b < w.heap.size + 1 by omega)).symm; have d1' := hcell (k := 0) (v := .int .i64 slo) hbox4 rfl; have d2' := hcell (k := 1) (v := .int .i64 shi) hbox4 rfl; have d3' := hcell (k := 2) (v := .bool swk) hbox4 rfl; have hsz4 := hblt hbox4; clear happ hb3 hbox3 hown3 c1 c2 c3 d1 d2 d3 hsz3) | (at_builtin; refine wpList_appR (f := spnC) (sz := 3) (e := 41) (B := w.heap.size + 1) (n := out.length + 1) (xs := out ++ [⟨slo, shi, swk⟩]) _ spnC_len spnC_one rfl _ _ 24 rfl (.agg #[.int .i64 0, .int .i64 0, .bool false]) 24 Tryz.underlying24 info_spn rfl (by decide) ⟨xlo, xhi, xwk⟩ 41 hown' rfl rfl (by omega) (by omega) (by omega) ?_; intro v2 w5 hown5 happ5))
            have hbox5 := hgrown happ5.grown hbox4 (own_ne hown'.le (Nat.lt_succ_self _))
            have hb5 := hb4.trans (happ5.below (B := w.heap.size) (by omega) (fun j hj => by have := hown'.le j hj; omega))
            clear happ5 hb4 hbox4 hown' c1' c2' c3' d1' d2' d3'
            go_wp2
            go_roundw
            case rel => exact ⟨k + 1, (out ++ [⟨slo, shi, swk⟩] ++ [⟨xlo, xhi, xwk⟩], ⟨slo, shi, swk⟩, true), by go_num, by omega, Lib.hid HS.out.symm, rfl, by have h9 := hown5.1; simp only at h9 ⊢; rw [h9]; exact hown5, hbox5, hb5⟩
            case measure => simp [intOf]; omega
          · have hcI : decide (shi < xlo) = false := by simpa using hc
            have HS : Hid ((xs.take (k + 1)).foldl pstep ([], s, false) = (out ++ [⟨xlo, xhi, xwk⟩], ⟨slo, shi, swk⟩, false)) := by
              show _ = _
              rw [Hst2.out]
              simp [pstep, ← Hr.out, hc]
            clear Hst2 Hr Hm' Hj'
            go_wp2
            have e_c1 := fun d os => cell_regrown c1 d os
            have e_c2 := fun d os => cell_regrown c2 d os
            have e_c3 := fun d os => cell_regrown c3 d os
            have e_d1 := fun d os => cell_regrown d1 d os
            have e_d2 := fun d os => cell_regrown d2 d os
            have e_d3 := fun d os => cell_regrown d3 d os
            clear c1 c2 c3 d1 d2 d3
            refine wp_region_quiet_below (by kernel_rfl) (by kernel_rfl) ?_
            repeat (go_big_quiet_step (fail))
            refine wpQuiet_nil ?_
            rintro w3 ⟨⟨dq, osq⟩, hw''⟩
            have hb3 : Below w.heap.size w w3 := by rw [hw'']; exact hb2.trans ((below_regrown w2 dq osq).mono hb2.size)
            have hstep : Below w2.heap.size w2 w3 := by rw [hw'']; exact below_regrown w2 dq osq
            have c1 := e_c1 dq osq
            rw [← hw''] at c1
            have c2 := e_c2 dq osq
            rw [← hw''] at c2
            have c3 := e_c3 dq osq
            rw [← hw''] at c3
            have d1 := e_d1 dq osq
            rw [← hw''] at d1
            have d2 := e_d2 dq osq
            rw [← hw''] at d2
            have d3 := e_d3 dq osq
            rw [← hw''] at d3
            clear hw'' e_c1 e_c2 e_c3 e_d1 e_d2 e_d3
            have hbox3 := hkeep hstep hbox2
            have hown3 := hown2.below hstep (Nat.le_refl _)
            have hsz3 := hblt hbox3
            clear hstep hbox2 hown2 hb2 g1 g2 g3 hsz2
            go_wp2_with (at_builtin; refine wpList_appR (f := spnC) (sz := 3) (e := 41) (B := w.heap.size + 1) (n := out.length) (xs := out) _ spnC_len spnC_one rfl _ _ 24 rfl (.agg #[.int .i64 0, .int .i64 0, .bool false]) 24 Tryz.underlying24 info_spn rfl (by decide) ⟨xlo, xhi, xwk⟩ 41 hown3 rfl rfl (by omega) (by omega) (by omega) ?_; intro v' w' hown' happ)
            have hbox5 := hgrown happ.grown hbox3 (own_ne hown3.le (Nat.lt_succ_self _))
            have hb5 := hb3.trans (happ.below (B := w.heap.size) (by omega) (fun j hj => by have := hown3.le j hj; omega))
            clear happ hb3 hbox3 hown3 c1 c2 c3 d1 d2 d3
            go_wp2
            go_roundw
            case rel => exact ⟨k + 1, (out ++ [⟨xlo, xhi, xwk⟩], ⟨slo, shi, swk⟩, false), by go_num, by omega, Lib.hid HS.out.symm, rfl, by have h9 := hown'.1; simp only at h9 ⊢; rw [h9]; exact hown', hbox5, hb5⟩
            case measure => simp [intOf]; omega
    · obtain rfl : k = n := by omega
      have HP : Hid (putG xs s = if dn then out else out ++ [⟨slo, shi, swk⟩]) := by
        show _ = _
        unfold putG
        rw [List.take_of_length_le (by rw [Hl.out]; exact Nat.le_refl _)] at Hst
        rw [← Hst.out]
      have d1 := hcell (k := 0) (v := .int .i64 slo) hbox rfl
      have d2 := hcell (k := 1) (v := .int .i64 shi) hbox rfl
      have d3 := hcell (k := 2) (v := .bool swk) hbox rfl
      cases dn with
      | true =>
        have HP' : Hid (putG xs s = out) := by show _ = _; rw [HP.out]; rfl
        clear HP
        go_wp2
        go_ret
        rw [HP'.out]
        exact ⟨_, rfl, hown.mono (Nat.le_succ _), hb⟩
      | false =>
        have HP' : Hid (putG xs s = out ++ [⟨slo, shi, swk⟩]) := by show _ = _; rw [HP.out]; rfl
        clear HP
        go_wp2_with (at_builtin; refine wpList_appR (f := spnC) (sz := 3) (e := 41) (B := w.heap.size + 1) (n := out.length) (xs := out) _ spnC_len spnC_one rfl _ _ 24 rfl (.agg #[.int .i64 0, .int .i64 0, .bool false]) 24 Tryz.underlying24 info_spn rfl (by decide) ⟨slo, shi, swk⟩ 41 hown rfl rfl (by omega) (by omega) (by omega) ?_; intro v' w' hown' happ)
        have hb5 := hb.trans (happ.below (B := w.heap.size) (by omega) (fun j hj => by have := hown.le j hj; omega))
        go_wp2
        go_ret
        rw [HP'.out]
        refine ⟨_, rfl, OwnR.mono ?_ (Nat.le_succ _), hb5⟩
        have h9 := hown'.1
        rw [h9]
        exact hown'
end Go.Proofs.YtjiklfffcnfdjaaGreat

namespace Go.Proofs.YtjiklfffcnfdjaaGreat
open Go.RowKit

/-- Where the reference's Merge stands. -/
def MrAt (n : Nat) (xs : List Spn) (w : World) (v i : Value) (wr : World) : Prop :=
  ∃ (k : Nat) (ys : List Spn), i = .int .i64 k ∧ k ≤ n ∧ Hid (mayAll (xs.take k) = true) ∧ Hid (ys = mrgL (xs.take k)) ∧ OwnR spnC 3 41 w.heap.size wr v ys.length ys ∧ Below w.heap.size w wr
def mrgPost (xs : List Spn) (w : World) (e : Ending) (w' : World) : Prop :=
  ∃ v, e = .returned (.tuple #[v, .int .i64 (mrgE xs)]) ∧ OwnR spnC 3 41 w.heap.size w' v (mrgR xs).length (mrgR xs) ∧ Below w.heap.size w w'

set_option maxRecDepth 100000 in
set_option maxHeartbeats 2000000 in
theorem refmerge_any (a : Option Addr) (n c : Nat) (xs : List Spn) (w : World) (hx : SlSp w a n c xs) (hn : n ≤ 100000) :
    Calls Tryz.prog 42 #[.slice a n c] w (mrgPost xs w) := by
  have Hl := Lib.hid hx.len
  have hmax := hx.max
  have hle := hx.le
  have Hx := Lib.hid hx; clear hx
  go_enter Tryz.func42, Tryz.ntmps42
  go_wp2
  go_loopw [4, 5] (fun v i wr => MrAt n xs w v i wr) (fun _ i _ => n - (intOf i).toNat)
  case atStart => exact ⟨0, [], rfl, Nat.zero_le _, rfl, rfl, OwnR.nil _ _ _ _ _, Below.refl _ _⟩
  case round =>
    obtain ⟨k, ys, rfl, hk, Hma, Hys, hown, hb⟩ := hrel
    have hyl : ys.length ≤ k := by
      have h1 := mrgL_len (xs.take k)
      have h2 := List.length_take_le k xs
      rw [← Hys.out] at h1
      omega
    by_cases hlt : k < n
    · obtain ⟨b, off, rfl, hbl, hc⟩ := (Hx.out.below hb (Nat.le_refl _)).at0 (by omega)
      obtain ⟨x, hxk⟩ : ∃ x, xs[k]? = some x := ⟨_, List.getElem?_eq_getElem (by rw [Hl.out]; exact hlt)⟩
      obtain ⟨c1, c2, c3⟩ := SlSp.cells hc hxk
      have Hxk := Lib.hid hxk
      obtain ⟨r, hr⟩ : ∃ r, Hid (r = mayS x) := ⟨_, rfl⟩
      obtain ⟨xlo, xhi, xwk⟩ := x
      have Hm := refmay_any xlo xhi xwk
      rw [← hr.out] at Hm
      have Hm' := Lib.hid Hm
      clear hc hxk Hm
      simp only at c1 c2 c3
      go_wp2_with fail
      refine (Hm'.out _).mono ?_
      rintro e w2 ⟨rfl, hbm⟩
      have d1 := hbc hbm c1
      have d2 := hbc hbm c2
      have d3 := hbc hbm c3
      have hown2 := hown.below hbm (Nat.le_refl _)
      have hb2 := hb.trans (hbm.mono hb.size)
      clear Hm' hbm hown hb c1 c2 c3
      cases r with
      | false =>
        have HB : Hid (mayAll xs = false) := mayAll_bad Hxk.out hr.out.symm
        go_wp2
        go_ret2
        unfold mrgPost
        rw [mrgR_not HB.out, mrgE_not HB.out]
        exact ⟨_, rfl, OwnR.nil _ _ _ _ _, hb2⟩
      | true =>
        obtain ⟨av, cv, rfl, hsl⟩ := OwnR.reads spnC_len hown2
        have HP := Lib.hid (refput_any av ys.length cv ys ⟨xlo, xhi, xwk⟩ w2 hsl (by omega))
        have HM2 : Hid (mayAll (xs.take (k + 1)) = true) := by show _ = _; rw [mayAll_take Hxk.out, Hma.out, ← hr.out]; rfl
        have HY : Hid (putG ys ⟨xlo, xhi, xwk⟩ = mrgL (xs.take (k + 1))) := by show _ = _; rw [Hys.out]; exact ref_step Hxk.out Hma.out hr.out.symm
        clear hsl hr Hma Hys Hxk
        go_wp2_with fail
        refine HP.out.mono ?_
        rintro e w3 ⟨v3, rfl, hown3, hb3⟩
        have hown3' := hown3.mono hb2.size
        have hb3' := hb2.trans (hb3.mono hb2.size)
        clear HP hown3 hb3 hown2 hb2 d1 d2 d3
        go_wp2
        go_roundw
        case rel => exact ⟨k + 1, _, by go_num, by omega, HM2, HY, hown3', hb3'⟩
        case measure => simp [intOf]; omega
    · obtain rfl : k = n := by omega
      have HT : Hid (xs.take k = xs) := List.take_of_length_le (by rw [Hl.out]; exact Nat.le_refl _)
      rw [HT.out] at Hma Hys
      go_wp2
      go_ret2
      unfold mrgPost
      rw [mrgR_of Hma.out, mrgE_of Hma.out, ← Hys.out]
      exact ⟨_, rfl, hown, hb⟩
set_option maxHeartbeats 1000000 in
theorem join_any (a b : Spn) (w : World) :
    Calls Tryz.prog 54 #[.agg #[.int .i64 a.lo, .int .i64 a.hi, .bool a.walk], .agg #[.int .i64 b.lo, .int .i64 b.hi, .bool b.walk]] w fun e w' => e = .returned (.agg #[.int .i64 (joinS a b).lo, .int .i64 (joinS a b).hi, .bool (joinS a b).walk]) ∧ Below w.heap.size w w' := by
  have hj1 : (joinS a b).lo = min a.lo b.lo := rfl
  have hj2 : (joinS a b).hi = max a.hi b.hi := rfl
  have hj3 : (joinS a b).walk = ((a.walk && decide (a.hi = max a.hi b.hi)) || (b.walk && decide (b.hi = max a.hi b.hi))) := rfl
  generalize joinS a b = j at hj1 hj2 hj3 ⊢
  have J1 := Lib.hid hj1
  have J2 := Lib.hid hj2
  have J3 := Lib.hid hj3
  clear hj1 hj2 hj3
  obtain ⟨alo, ahi, aw⟩ := a
  obtain ⟨blo, bhi, bw⟩ := b
  rcases Int.lt_trichotomy ahi bhi with hh | hh | hh
  rotate_left
  · subst hh
    cases aw <;> cases bw
    all_goals
      go_enter Tryz.func54, Tryz.ntmps54
      go_wp2
    all_goals
      refine bodyPost_ret (v := _) (by simp [results, Tryz.results54, go_sem]; rfl) rfl ⟨?_, by repeat (first | exact Below.refl _ _ | refine Below.alloc ?_ (by simp; try omega) _)⟩
      refine ret_spn (by rw [J1.out]; omega) (by rw [J2.out]; omega) ?_
      rw [J3.out]
      refine join_wk ?_
      clear J1 J2 J3
      grind
  all_goals
    have h1 : (ahi == bhi) = false := by simp; omega
    have h2 : (bhi == ahi) = false := by simp; omega
    have h3 : ¬ ahi = bhi := by omega
    cases aw <;> cases bw
    all_goals
      go_enter Tryz.func54, Tryz.ntmps54
      go_wp2
    all_goals
      refine bodyPost_ret (v := _) (by simp [results, Tryz.results54, go_sem]; rfl) rfl ⟨?_, by repeat (first | exact Below.refl _ _ | refine Below.alloc ?_ (by simp; try omega) _)⟩
      refine ret_spn (by rw [J1.out]; omega) (by rw [J2.out]; omega) ?_
      rw [J3.out]
      refine join_wk ?_
      clear J1 J2 J3
      grind
set_option maxHeartbeats 400000 in
theorem notmay_any (x : Spn) (w : World) :
    Calls Tryz.prog 49 #[.agg #[.int .i64 x.lo, .int .i64 x.hi, .bool x.walk]] w fun e w' => e = .returned (.bool (!mayS x)) ∧ Below w.heap.size w w' := by
  obtain ⟨r, hr⟩ : ∃ r, r = mayS x := ⟨_, rfl⟩
  rw [← hr]
  obtain ⟨xlo, xhi, xwk⟩ := x
  have Hm := may_any xlo xhi xwk
  rw [← hr] at Hm
  have Hm' := Lib.hid Hm
  clear Hm hr
  go_enter Tryz.func49, Tryz.ntmps49
  go_wp2_with fail
  refine (Hm'.out _).mono ?_
  rintro e w2 ⟨rfl, hbm⟩
  have hb := ((Below.refl w.heap.size w).alloc (Nat.le_refl _) (.cells #[.int .i64 xlo, .int .i64 xhi, .bool xwk] 41)).trans (hbm.mono (by simp))
  go_wp2
  go_ret
  exact ⟨rfl, hb⟩

end Go.Proofs.YtjiklfffcnfdjaaGreat
