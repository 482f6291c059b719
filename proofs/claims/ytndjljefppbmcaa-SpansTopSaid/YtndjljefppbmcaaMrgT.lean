/- Walk: the law SpansTop. -/
import Derived.Test.YtndjljefppbmcaaMrgL
namespace Go.Proofs.Ytndjljefppbmcaa
open Go.RowKit

theorem someAt_zero (l : List Spn) (o : Spn) : someAt (l.take 0) o = false := rfl
theorem botAt_zero (l : List Spn) (o : Spn) : botAt (l.take 0) o = false := rfl
theorem someAt_succ {l : List Spn} {k : Nat} {x : Spn} (hx : l[k]? = some x) (o : Spn) : someAt (l.take (k + 1)) o = (someAt (l.take k) o || (decide (x.hi = o.hi) && x.walk)) := by
  simp [someAt, List.take_add_one, hx]
theorem botAt_succ {l : List Spn} {k : Nat} {x : Spn} (hx : l[k]? = some x) (o : Spn) : botAt (l.take (k + 1)) o = (botAt (l.take k) o || decide (x.lo = o.lo)) := by
  simp [botAt, List.take_add_one, hx]

set_option maxRecDepth 100000 in
set_option maxHeartbeats 4000000 in
theorem spanstop_any (a : Option Addr) (n c : Nat) (xs : List Spn) (w : World) (hx : SlSp w a n c xs) :
    Calls Try.prog 3 #[.slice a n c] w fun e w' => e = .returned (.bool true) ∧ Below w.heap.size w w' := by
  have Hl := Lib.hid hx.len
  have hmax := hx.max
  have hle := hx.le
  have Hx := Lib.hid hx; clear hx
  by_cases hn : 60 < n
  · have hn' : (60 : Int) < (n : Int) := by omega
    go_enter Try.func3, Try.ntmps3
    go_wp2_with fail
    refine (wakes08_any _).mono ?_
    rintro e w1 ⟨rfl, hb1⟩
    go_wp2
    go_ret
    exact ⟨rfl, hb1⟩
  have hn' : ¬ (60 : Int) < (n : Int) := by omega
  obtain ⟨r, hr⟩ : ∃ r, Hid (r = mayAll xs) := ⟨_, rfl⟩
  cases r with
  | false =>
    go_enter Try.func3, Try.ntmps3
    go_wp2_with fail
    refine (merge_any a n c xs _ Hx.out (by omega)).mono ?_
    rintro e w1 ⟨v1, rfl, hown1, hb1⟩
    rw [mrgR_not hr.out.symm] at hown1
    rw [mrgE_not hr.out.symm]
    obtain ⟨av, cv, rfl, hrd⟩ := OwnR.reads spnC_len hown1
    simp only [List.length_nil] at *
    clear hown1 hrd Hx Hl
    go_wp2_with fail
    refine wp_loop_rounds 1 ?_
    rw [rounds_succ]
    go_wp2_with fail
    refine (wakes08_any _).mono ?_
    rintro e w2 ⟨rfl, hb2⟩
    have hB := hb1.trans (hb2.mono hb1.size)
    go_wp2
    go_ret
    exact ⟨rfl, hB⟩
  | true =>
    go_enter Try.func3, Try.ntmps3
    go_wp2_with fail
    refine (merge_any a n c xs _ Hx.out (by omega)).mono ?_
    rintro e w1 ⟨v1, rfl, hown1, hb1⟩
    rw [mrgR_of hr.out.symm] at hown1
    rw [mrgE_of hr.out.symm]
    obtain ⟨ms, hms⟩ : ∃ ms, ms = mrgL xs := ⟨_, rfl⟩
    have HT := Lib.hid (fun (o : Spn) (ho : o ∈ ms) => tops_ok hr.out.symm (hms ▸ ho))
    rw [← hms] at hown1
    have hml : ms.length ≤ n := by have := mrgL_len xs; rw [← hms, Hl.out] at this; exact this
    obtain ⟨av, cv, rfl, hrd⟩ := OwnR.reads spnC_len hown1
    have Hx1 : Hid (SlSp w1 a n c xs) := Hx.out.below hb1 (Nat.le_refl _)
    have Hm := Lib.hid hrd
    have hlem := hrd.le
    have hmaxm := hrd.max
    obtain ⟨m, hm⟩ : ∃ m, m = ms.length := ⟨_, rfl⟩
    rw [← hm] at hml Hm hlem ⊢
    have Hm0 := Lib.hid hm
    clear hown1 hrd Hx hms hm
    go_wp2_with fail
    go_loopw [5] (fun i wr => ∃ k : Nat, i = .int .i64 k ∧ k ≤ m ∧ Below w1.heap.size w1 wr) (fun i _ => m - (intOf i).toNat)
    case atStart => exact ⟨0, rfl, Nat.zero_le _, Below.refl _ _⟩
    case round =>
      obtain ⟨k, rfl, hk, hb⟩ := hrel
      by_cases hlt : k < m
      · obtain ⟨bo, oo, rfl, hbo, hco⟩ := (Hm.out.below hb (Nat.le_refl _)).at0 (by omega)
        obtain ⟨ot, hok⟩ : ∃ ot, ms[k]? = some ot := ⟨_, List.getElem?_eq_getElem (by rw [← Hm0.out]; exact hlt)⟩
        obtain ⟨p1, p2, p3⟩ := SlSp.cells hco hok
        obtain ⟨ht1, ht2⟩ := HT.out ot (List.mem_of_getElem? hok)
        have HS := Lib.hid ht1
        have HB := Lib.hid ht2
        clear hco hok ht1 ht2
        obtain ⟨olo, ohi, owk⟩ := ot
        simp only at p1 p2 p3
        have hn0 : 0 < n := by omega
        obtain ⟨wo, hwo⟩ : ∃ wo, wo = wr := ⟨_, rfl⟩
        subst hwo
        go_wp2_with fail
        go_loopw [6, 7, 8] (fun s b i w2 => ∃ j : Nat, i = .int .i64 j ∧ j ≤ n ∧ s = .bool (someAt (xs.take j) ⟨olo, ohi, owk⟩) ∧ b = .bool (botAt (xs.take j) ⟨olo, ohi, owk⟩) ∧ Below wo.heap.size wo w2) (fun _ _ i _ => n - (intOf i).toNat)
        case atStart => exact ⟨0, rfl, Nat.zero_le _, rfl, rfl, Below.refl _ _⟩
        case round =>
          obtain ⟨j, rfl, hj, rfl, rfl, hb2⟩ := hrel
          by_cases hjn : j < n
          · obtain ⟨b, off, rfl, hbl, hc⟩ := ((Hx1.out.below hb (Nat.le_refl _)).below hb2 (Nat.le_refl _)).at0 hn0
            obtain ⟨x, hxj⟩ : ∃ x, xs[j]? = some x := ⟨_, List.getElem?_eq_getElem (by rw [Hl.out]; exact hjn)⟩
            obtain ⟨c1, c2, c3⟩ := SlSp.cells hc hxj
            have q1 := hbc hb2 p1
            have q2 := hbc hb2 p2
            have hs1 := someAt_succ hxj ⟨olo, ohi, owk⟩
            have hs2 := botAt_succ hxj ⟨olo, ohi, owk⟩
            obtain ⟨xlo, xhi, xwk⟩ := x
            clear hc hxj
            simp only at c1 c2 c3 hs1 hs2
            generalize someAt (xs.take j) ⟨olo, ohi, owk⟩ = s at hs1 ⊢
            generalize botAt (xs.take j) ⟨olo, ohi, owk⟩ = bt at hs2 ⊢
            cases s with
            | true =>
              have HS2 : Hid (someAt (xs.take (j + 1)) ⟨olo, ohi, owk⟩ = true) := by show _ = _; rw [hs1]; simp
              clear hs1
              go_wp2
              have e_c1 := fun d os => cell_regrown c1 d os
              have e_c2 := fun d os => cell_regrown c2 d os
              have e_c3 := fun d os => cell_regrown c3 d os
              have e_q1 := fun d os => cell_regrown q1 d os
              have e_q2 := fun d os => cell_regrown q2 d os
              clear c1 c2 c3 q1 q2
              refine wp_region_quiet_below (by kernel_rfl) (by kernel_rfl) ?_
              repeat (go_big_quiet_step (fail))
              refine wpQuiet_nil ?_
              rintro w3 ⟨⟨dq, osq⟩, hw''⟩
              have hb3 : Below wo.heap.size wo w3 := by rw [hw'']; exact hb2.trans ((below_regrown wr dq osq).mono hb2.size)
              have hstep : Below wr.heap.size wr w3 := by rw [hw'']; exact below_regrown wr dq osq
              have c1 := e_c1 dq osq
              rw [← hw''] at c1
              have c2 := e_c2 dq osq
              rw [← hw''] at c2
              have c3 := e_c3 dq osq
              rw [← hw''] at c3
              have q1 := e_q1 dq osq
              rw [← hw''] at q1
              have q2 := e_q2 dq osq
              rw [← hw''] at q2
              clear hw'' e_c1 e_c2 e_c3 e_q1 e_q2
              clear hstep
              cases bt with
              | true =>
                have HB2 : Hid (botAt (xs.take (j + 1)) ⟨olo, ohi, owk⟩ = true) := by show _ = _; rw [hs2]; rfl
                clear hs2
                go_wp2
                have e_c1 := fun d os => cell_regrown c1 d os
                have e_c2 := fun d os => cell_regrown c2 d os
                have e_c3 := fun d os => cell_regrown c3 d os
                have e_q1 := fun d os => cell_regrown q1 d os
                have e_q2 := fun d os => cell_regrown q2 d os
                clear c1 c2 c3 q1 q2
                refine wp_region_quiet_below (by kernel_rfl) (by kernel_rfl) ?_
                repeat (go_big_quiet_step (fail))
                refine wpQuiet_nil ?_
                rintro w4 ⟨⟨dq, osq⟩, hw''⟩
                have hb4 : Below wo.heap.size wo w4 := by rw [hw'']; exact hb3.trans ((below_regrown w3 dq osq).mono hb3.size)
                have hstep : Below w3.heap.size w3 w4 := by rw [hw'']; exact below_regrown w3 dq osq
                have c1 := e_c1 dq osq
                rw [← hw''] at c1
                have c2 := e_c2 dq osq
                rw [← hw''] at c2
                have c3 := e_c3 dq osq
                rw [← hw''] at c3
                have q1 := e_q1 dq osq
                rw [← hw''] at q1
                have q2 := e_q2 dq osq
                rw [← hw''] at q2
                clear hw'' e_c1 e_c2 e_c3 e_q1 e_q2
                clear hstep hb3 hb2 hbl c1 c2 c3 q1 q2
                go_wp2
                go_roundw
                case rel => exact ⟨j + 1, by go_num, by omega, by rw [HS2.out], by rw [HB2.out], hb4⟩
                case measure => simp [intOf]; omega
              | false =>
                by_cases hle2 : xlo = olo
                · subst hle2
                  have HB2 : Hid (botAt (xs.take (j + 1)) ⟨xlo, ohi, owk⟩ = true) := by show _ = _; rw [hs2]; simp
                  clear hs2
                  go_wp2
                  have e_c1 := fun d os => cell_regrown c1 d os
                  have e_c2 := fun d os => cell_regrown c2 d os
                  have e_c3 := fun d os => cell_regrown c3 d os
                  have e_q1 := fun d os => cell_regrown q1 d os
                  have e_q2 := fun d os => cell_regrown q2 d os
                  clear c1 c2 c3 q1 q2
                  refine wp_region_quiet_below (by kernel_rfl) (by kernel_rfl) ?_
                  repeat (go_big_quiet_step (fail))
                  refine wpQuiet_nil ?_
                  rintro w4 ⟨⟨dq, osq⟩, hw''⟩
                  have hb4 : Below wo.heap.size wo w4 := by rw [hw'']; exact hb3.trans ((below_regrown w3 dq osq).mono hb3.size)
                  have hstep : Below w3.heap.size w3 w4 := by rw [hw'']; exact below_regrown w3 dq osq
                  have c1 := e_c1 dq osq
                  rw [← hw''] at c1
                  have c2 := e_c2 dq osq
                  rw [← hw''] at c2
                  have c3 := e_c3 dq osq
                  rw [← hw''] at c3
                  have q1 := e_q1 dq osq
                  rw [← hw''] at q1
                  have q2 := e_q2 dq osq
                  rw [← hw''] at q2
                  clear hw'' e_c1 e_c2 e_c3 e_q1 e_q2
                  clear hstep hb3 hb2 hbl c1 c2 c3 q1 q2
                  go_wp2
                  go_roundw
                  case rel => exact ⟨j + 1, by go_num, by omega, by rw [HS2.out], by rw [HB2.out], hb4⟩
                  case measure => simp [intOf]; omega
                · have e3 : (xlo == olo) = false := by simpa using hle2
                  have HB2 : Hid (botAt (xs.take (j + 1)) ⟨olo, ohi, owk⟩ = false) := by show _ = _; rw [hs2]; simp [hle2]
                  clear hs2
                  go_wp2
                  have e_c1 := fun d os => cell_regrown c1 d os
                  have e_c2 := fun d os => cell_regrown c2 d os
                  have e_c3 := fun d os => cell_regrown c3 d os
                  have e_q1 := fun d os => cell_regrown q1 d os
                  have e_q2 := fun d os => cell_regrown q2 d os
                  clear c1 c2 c3 q1 q2
                  refine wp_region_quiet_below (by kernel_rfl) (by kernel_rfl) ?_
                  repeat (go_big_quiet_step (fail))
                  refine wpQuiet_nil ?_
                  rintro w4 ⟨⟨dq, osq⟩, hw''⟩
                  have hb4 : Below wo.heap.size wo w4 := by rw [hw'']; exact hb3.trans ((below_regrown w3 dq osq).mono hb3.size)
                  have hstep : Below w3.heap.size w3 w4 := by rw [hw'']; exact below_regrown w3 dq osq
                  have c1 := e_c1 dq osq
                  rw [← hw''] at c1
                  have c2 := e_c2 dq osq
                  rw [← hw''] at c2
                  have c3 := e_c3 dq osq
                  rw [← hw''] at c3
                  have q1 := e_q1 dq osq
                  rw [← hw''] at q1
                  have q2 := e_q2 dq osq
                  rw [← hw''] at q2
                  clear hw'' e_c1 e_c2 e_c3 e_q1 e_q2
                  clear hstep hb3 hb2 hbl c1 c2 c3 q1 q2
                  go_wp2
                  go_roundw
                  case rel => exact ⟨j + 1, by go_num, by omega, by rw [HS2.out], by rw [HB2.out], hb4⟩
                  case measure => simp [intOf]; omega
            | false =>
              by_cases hhi : xhi = ohi
              · subst hhi
                cases xwk with
                | true =>
                  have HS2 : Hid (someAt (xs.take (j + 1)) ⟨olo, xhi, owk⟩ = true) := by show _ = _; rw [hs1]; simp
                  clear hs1
                  go_wp2
                  have e_c1 := fun d os => cell_regrown c1 d os
                  have e_c2 := fun d os => cell_regrown c2 d os
                  have e_c3 := fun d os => cell_regrown c3 d os
                  have e_q1 := fun d os => cell_regrown q1 d os
                  have e_q2 := fun d os => cell_regrown q2 d os
                  clear c1 c2 c3 q1 q2
                  refine wp_region_quiet_below (by kernel_rfl) (by kernel_rfl) ?_
                  repeat (go_big_quiet_step (fail))
                  refine wpQuiet_nil ?_
                  rintro w3 ⟨⟨dq, osq⟩, hw''⟩
                  have hb3 : Below wo.heap.size wo w3 := by rw [hw'']; exact hb2.trans ((below_regrown wr dq osq).mono hb2.size)
                  have hstep : Below wr.heap.size wr w3 := by rw [hw'']; exact below_regrown wr dq osq
                  have c1 := e_c1 dq osq
                  rw [← hw''] at c1
                  have c2 := e_c2 dq osq
                  rw [← hw''] at c2
                  have c3 := e_c3 dq osq
                  rw [← hw''] at c3
                  have q1 := e_q1 dq osq
                  rw [← hw''] at q1
                  have q2 := e_q2 dq osq
                  rw [← hw''] at q2
                  clear hw'' e_c1 e_c2 e_c3 e_q1 e_q2
                  clear hstep
                  cases bt with
                  | true =>
                    have HB2 : Hid (botAt (xs.take (j + 1)) ⟨olo, xhi, owk⟩ = true) := by show _ = _; rw [hs2]; rfl
                    clear hs2
                    go_wp2
                    have e_c1 := fun d os => cell_regrown c1 d os
                    have e_c2 := fun d os => cell_regrown c2 d os
                    have e_c3 := fun d os => cell_regrown c3 d os
                    have e_q1 := fun d os => cell_regrown q1 d os
                    have e_q2 := fun d os => cell_regrown q2 d os
                    clear c1 c2 c3 q1 q2
                    refine wp_region_quiet_below (by kernel_rfl) (by kernel_rfl) ?_
                    repeat (go_big_quiet_step (fail))
                    refine wpQuiet_nil ?_
                    rintro w4 ⟨⟨dq, osq⟩, hw''⟩
                    have hb4 : Below wo.heap.size wo w4 := by rw [hw'']; exact hb3.trans ((below_regrown w3 dq osq).mono hb3.size)
                    have hstep : Below w3.heap.size w3 w4 := by rw [hw'']; exact below_regrown w3 dq osq
                    have c1 := e_c1 dq osq
                    rw [← hw''] at c1
                    have c2 := e_c2 dq osq
                    rw [← hw''] at c2
                    have c3 := e_c3 dq osq
                    rw [← hw''] at c3
                    have q1 := e_q1 dq osq
                    rw [← hw''] at q1
                    have q2 := e_q2 dq osq
                    rw [← hw''] at q2
                    clear hw'' e_c1 e_c2 e_c3 e_q1 e_q2
                    clear hstep hb3 hb2 hbl c1 c2 c3 q1 q2
                    go_wp2
                    go_roundw
                    case rel => exact ⟨j + 1, by go_num, by omega, by rw [HS2.out], by rw [HB2.out], hb4⟩
                    case measure => simp [intOf]; omega
                  | false =>
                    by_cases hle2 : xlo = olo
                    · subst hle2
                      have HB2 : Hid (botAt (xs.take (j + 1)) ⟨xlo, xhi, owk⟩ = true) := by show _ = _; rw [hs2]; simp
                      clear hs2
                      go_wp2
                      have e_c1 := fun d os => cell_regrown c1 d os
                      have e_c2 := fun d os => cell_regrown c2 d os
                      have e_c3 := fun d os => cell_regrown c3 d os
                      have e_q1 := fun d os => cell_regrown q1 d os
                      have e_q2 := fun d os => cell_regrown q2 d os
                      clear c1 c2 c3 q1 q2
                      refine wp_region_quiet_below (by kernel_rfl) (by kernel_rfl) ?_
                      repeat (go_big_quiet_step (fail))
                      refine wpQuiet_nil ?_
                      rintro w4 ⟨⟨dq, osq⟩, hw''⟩
                      have hb4 : Below wo.heap.size wo w4 := by rw [hw'']; exact hb3.trans ((below_regrown w3 dq osq).mono hb3.size)
                      have hstep : Below w3.heap.size w3 w4 := by rw [hw'']; exact below_regrown w3 dq osq
                      have c1 := e_c1 dq osq
                      rw [← hw''] at c1
                      have c2 := e_c2 dq osq
                      rw [← hw''] at c2
                      have c3 := e_c3 dq osq
                      rw [← hw''] at c3
                      have q1 := e_q1 dq osq
                      rw [← hw''] at q1
                      have q2 := e_q2 dq osq
                      rw [← hw''] at q2
                      clear hw'' e_c1 e_c2 e_c3 e_q1 e_q2
                      clear hstep hb3 hb2 hbl c1 c2 c3 q1 q2
                      go_wp2
                      go_roundw
                      case rel => exact ⟨j + 1, by go_num, by omega, by rw [HS2.out], by rw [HB2.out], hb4⟩
                      case measure => simp [intOf]; omega
                    · have e3 : (xlo == olo) = false := by simpa using hle2
                      have HB2 : Hid (botAt (xs.take (j + 1)) ⟨olo, xhi, owk⟩ = false) := by show _ = _; rw [hs2]; simp [hle2]
                      clear hs2
                      go_wp2
                      have e_c1 := fun d os => cell_regrown c1 d os
                      have e_c2 := fun d os => cell_regrown c2 d os
                      have e_c3 := fun d os => cell_regrown c3 d os
                      have e_q1 := fun d os => cell_regrown q1 d os
                      have e_q2 := fun d os => cell_regrown q2 d os
                      clear c1 c2 c3 q1 q2
                      refine wp_region_quiet_below (by kernel_rfl) (by kernel_rfl) ?_
                      repeat (go_big_quiet_step (fail))
                      refine wpQuiet_nil ?_
                      rintro w4 ⟨⟨dq, osq⟩, hw''⟩
                      have hb4 : Below wo.heap.size wo w4 := by rw [hw'']; exact hb3.trans ((below_regrown w3 dq osq).mono hb3.size)
                      have hstep : Below w3.heap.size w3 w4 := by rw [hw'']; exact below_regrown w3 dq osq
                      have c1 := e_c1 dq osq
                      rw [← hw''] at c1
                      have c2 := e_c2 dq osq
                      rw [← hw''] at c2
                      have c3 := e_c3 dq osq
                      rw [← hw''] at c3
                      have q1 := e_q1 dq osq
                      rw [← hw''] at q1
                      have q2 := e_q2 dq osq
                      rw [← hw''] at q2
                      clear hw'' e_c1 e_c2 e_c3 e_q1 e_q2
                      clear hstep hb3 hb2 hbl c1 c2 c3 q1 q2
                      go_wp2
                      go_roundw
                      case rel => exact ⟨j + 1, by go_num, by omega, by rw [HS2.out], by rw [HB2.out], hb4⟩
                      case measure => simp [intOf]; omega
                | false =>
                  have HS2 : Hid (someAt (xs.take (j + 1)) ⟨olo, xhi, owk⟩ = false) := by show _ = _; rw [hs1]; simp
                  clear hs1
                  go_wp2
                  have e_c1 := fun d os => cell_regrown c1 d os
                  have e_c2 := fun d os => cell_regrown c2 d os
                  have e_c3 := fun d os => cell_regrown c3 d os
                  have e_q1 := fun d os => cell_regrown q1 d os
                  have e_q2 := fun d os => cell_regrown q2 d os
                  clear c1 c2 c3 q1 q2
                  refine wp_region_quiet_below (by kernel_rfl) (by kernel_rfl) ?_
                  repeat (go_big_quiet_step (fail))
                  refine wpQuiet_nil ?_
                  rintro w3 ⟨⟨dq, osq⟩, hw''⟩
                  have hb3 : Below wo.heap.size wo w3 := by rw [hw'']; exact hb2.trans ((below_regrown wr dq osq).mono hb2.size)
                  have hstep : Below wr.heap.size wr w3 := by rw [hw'']; exact below_regrown wr dq osq
                  have c1 := e_c1 dq osq
                  rw [← hw''] at c1
                  have c2 := e_c2 dq osq
                  rw [← hw''] at c2
                  have c3 := e_c3 dq osq
                  rw [← hw''] at c3
                  have q1 := e_q1 dq osq
                  rw [← hw''] at q1
                  have q2 := e_q2 dq osq
                  rw [← hw''] at q2
                  clear hw'' e_c1 e_c2 e_c3 e_q1 e_q2
                  clear hstep
                  cases bt with
                  | true =>
                    have HB2 : Hid (botAt (xs.take (j + 1)) ⟨olo, xhi, owk⟩ = true) := by show _ = _; rw [hs2]; rfl
                    clear hs2
                    go_wp2
                    have e_c1 := fun d os => cell_regrown c1 d os
                    have e_c2 := fun d os => cell_regrown c2 d os
                    have e_c3 := fun d os => cell_regrown c3 d os
                    have e_q1 := fun d os => cell_regrown q1 d os
                    have e_q2 := fun d os => cell_regrown q2 d os
                    clear c1 c2 c3 q1 q2
                    refine wp_region_quiet_below (by kernel_rfl) (by kernel_rfl) ?_
                    repeat (go_big_quiet_step (fail))
                    refine wpQuiet_nil ?_
                    rintro w4 ⟨⟨dq, osq⟩, hw''⟩
                    have hb4 : Below wo.heap.size wo w4 := by rw [hw'']; exact hb3.trans ((below_regrown w3 dq osq).mono hb3.size)
                    have hstep : Below w3.heap.size w3 w4 := by rw [hw'']; exact below_regrown w3 dq osq
                    have c1 := e_c1 dq osq
                    rw [← hw''] at c1
                    have c2 := e_c2 dq osq
                    rw [← hw''] at c2
                    have c3 := e_c3 dq osq
                    rw [← hw''] at c3
                    have q1 := e_q1 dq osq
                    rw [← hw''] at q1
                    have q2 := e_q2 dq osq
                    rw [← hw''] at q2
                    clear hw'' e_c1 e_c2 e_c3 e_q1 e_q2
                    clear hstep hb3 hb2 hbl c1 c2 c3 q1 q2
                    go_wp2
                    go_roundw
                    case rel => exact ⟨j + 1, by go_num, by omega, by rw [HS2.out], by rw [HB2.out], hb4⟩
                    case measure => simp [intOf]; omega
                  | false =>
                    by_cases hle2 : xlo = olo
                    · subst hle2
                      have HB2 : Hid (botAt (xs.take (j + 1)) ⟨xlo, xhi, owk⟩ = true) := by show _ = _; rw [hs2]; simp
                      clear hs2
                      go_wp2
                      have e_c1 := fun d os => cell_regrown c1 d os
                      have e_c2 := fun d os => cell_regrown c2 d os
                      have e_c3 := fun d os => cell_regrown c3 d os
                      have e_q1 := fun d os => cell_regrown q1 d os
                      have e_q2 := fun d os => cell_regrown q2 d os
                      clear c1 c2 c3 q1 q2
                      refine wp_region_quiet_below (by kernel_rfl) (by kernel_rfl) ?_
                      repeat (go_big_quiet_step (fail))
                      refine wpQuiet_nil ?_
                      rintro w4 ⟨⟨dq, osq⟩, hw''⟩
                      have hb4 : Below wo.heap.size wo w4 := by rw [hw'']; exact hb3.trans ((below_regrown w3 dq osq).mono hb3.size)
                      have hstep : Below w3.heap.size w3 w4 := by rw [hw'']; exact below_regrown w3 dq osq
                      have c1 := e_c1 dq osq
                      rw [← hw''] at c1
                      have c2 := e_c2 dq osq
                      rw [← hw''] at c2
                      have c3 := e_c3 dq osq
                      rw [← hw''] at c3
                      have q1 := e_q1 dq osq
                      rw [← hw''] at q1
                      have q2 := e_q2 dq osq
                      rw [← hw''] at q2
                      clear hw'' e_c1 e_c2 e_c3 e_q1 e_q2
                      clear hstep hb3 hb2 hbl c1 c2 c3 q1 q2
                      go_wp2
                      go_roundw
                      case rel => exact ⟨j + 1, by go_num, by omega, by rw [HS2.out], by rw [HB2.out], hb4⟩
                      case measure => simp [intOf]; omega
                    · have e3 : (xlo == olo) = false := by simpa using hle2
                      have HB2 : Hid (botAt (xs.take (j + 1)) ⟨olo, xhi, owk⟩ = false) := by show _ = _; rw [hs2]; simp [hle2]
                      clear hs2
                      go_wp2
                      have e_c1 := fun d os => cell_regrown c1 d os
                      have e_c2 := fun d os => cell_regrown c2 d os
                      have e_c3 := fun d os => cell_regrown c3 d os
                      have e_q1 := fun d os => cell_regrown q1 d os
                      have e_q2 := fun d os => cell_regrown q2 d os
                      clear c1 c2 c3 q1 q2
                      refine wp_region_quiet_below (by kernel_rfl) (by kernel_rfl) ?_
                      repeat (go_big_quiet_step (fail))
                      refine wpQuiet_nil ?_
                      rintro w4 ⟨⟨dq, osq⟩, hw''⟩
                      have hb4 : Below wo.heap.size wo w4 := by rw [hw'']; exact hb3.trans ((below_regrown w3 dq osq).mono hb3.size)
                      have hstep : Below w3.heap.size w3 w4 := by rw [hw'']; exact below_regrown w3 dq osq
                      have c1 := e_c1 dq osq
                      rw [← hw''] at c1
                      have c2 := e_c2 dq osq
                      rw [← hw''] at c2
                      have c3 := e_c3 dq osq
                      rw [← hw''] at c3
                      have q1 := e_q1 dq osq
                      rw [← hw''] at q1
                      have q2 := e_q2 dq osq
                      rw [← hw''] at q2
                      clear hw'' e_c1 e_c2 e_c3 e_q1 e_q2
                      clear hstep hb3 hb2 hbl c1 c2 c3 q1 q2
                      go_wp2
                      go_roundw
                      case rel => exact ⟨j + 1, by go_num, by omega, by rw [HS2.out], by rw [HB2.out], hb4⟩
                      case measure => simp [intOf]; omega
              · have e2 : (xhi == ohi) = false := by simpa using hhi
                have HS2 : Hid (someAt (xs.take (j + 1)) ⟨olo, ohi, owk⟩ = false) := by show _ = _; rw [hs1]; simp [hhi]
                clear hs1
                go_wp2
                have e_c1 := fun d os => cell_regrown c1 d os
                have e_c2 := fun d os => cell_regrown c2 d os
                have e_c3 := fun d os => cell_regrown c3 d os
                have e_q1 := fun d os => cell_regrown q1 d os
                have e_q2 := fun d os => cell_regrown q2 d os
                clear c1 c2 c3 q1 q2
                refine wp_region_quiet_below (by kernel_rfl) (by kernel_rfl) ?_
                repeat (go_big_quiet_step (fail))
                refine wpQuiet_nil ?_
                rintro w3 ⟨⟨dq, osq⟩, hw''⟩
                have hb3 : Below wo.heap.size wo w3 := by rw [hw'']; exact hb2.trans ((below_regrown wr dq osq).mono hb2.size)
                have hstep : Below wr.heap.size wr w3 := by rw [hw'']; exact below_regrown wr dq osq
                have c1 := e_c1 dq osq
                rw [← hw''] at c1
                have c2 := e_c2 dq osq
                rw [← hw''] at c2
                have c3 := e_c3 dq osq
                rw [← hw''] at c3
                have q1 := e_q1 dq osq
                rw [← hw''] at q1
                have q2 := e_q2 dq osq
                rw [← hw''] at q2
                clear hw'' e_c1 e_c2 e_c3 e_q1 e_q2
                clear hstep
                cases bt with
                | true =>
                  have HB2 : Hid (botAt (xs.take (j + 1)) ⟨olo, ohi, owk⟩ = true) := by show _ = _; rw [hs2]; rfl
                  clear hs2
                  go_wp2
                  have e_c1 := fun d os => cell_regrown c1 d os
                  have e_c2 := fun d os => cell_regrown c2 d os
                  have e_c3 := fun d os => cell_regrown c3 d os
                  have e_q1 := fun d os => cell_regrown q1 d os
                  have e_q2 := fun d os => cell_regrown q2 d os
                  clear c1 c2 c3 q1 q2
                  refine wp_region_quiet_below (by kernel_rfl) (by kernel_rfl) ?_
                  repeat (go_big_quiet_step (fail))
                  refine wpQuiet_nil ?_
                  rintro w4 ⟨⟨dq, osq⟩, hw''⟩
                  have hb4 : Below wo.heap.size wo w4 := by rw [hw'']; exact hb3.trans ((below_regrown w3 dq osq).mono hb3.size)
                  have hstep : Below w3.heap.size w3 w4 := by rw [hw'']; exact below_regrown w3 dq osq
                  have c1 := e_c1 dq osq
                  rw [← hw''] at c1
                  have c2 := e_c2 dq osq
                  rw [← hw''] at c2
                  have c3 := e_c3 dq osq
                  rw [← hw''] at c3
                  have q1 := e_q1 dq osq
                  rw [← hw''] at q1
                  have q2 := e_q2 dq osq
                  rw [← hw''] at q2
                  clear hw'' e_c1 e_c2 e_c3 e_q1 e_q2
                  clear hstep hb3 hb2 hbl c1 c2 c3 q1 q2
                  go_wp2
                  go_roundw
                  case rel => exact ⟨j + 1, by go_num, by omega, by rw [HS2.out], by rw [HB2.out], hb4⟩
                  case measure => simp [intOf]; omega
                | false =>
                  by_cases hle2 : xlo = olo
                  · subst hle2
                    have HB2 : Hid (botAt (xs.take (j + 1)) ⟨xlo, ohi, owk⟩ = true) := by show _ = _; rw [hs2]; simp
                    clear hs2
                    go_wp2
                    have e_c1 := fun d os => cell_regrown c1 d os
                    have e_c2 := fun d os => cell_regrown c2 d os
                    have e_c3 := fun d os => cell_regrown c3 d os
                    have e_q1 := fun d os => cell_regrown q1 d os
                    have e_q2 := fun d os => cell_regrown q2 d os
                    clear c1 c2 c3 q1 q2
                    refine wp_region_quiet_below (by kernel_rfl) (by kernel_rfl) ?_
                    repeat (go_big_quiet_step (fail))
                    refine wpQuiet_nil ?_
                    rintro w4 ⟨⟨dq, osq⟩, hw''⟩
                    have hb4 : Below wo.heap.size wo w4 := by rw [hw'']; exact hb3.trans ((below_regrown w3 dq osq).mono hb3.size)
                    have hstep : Below w3.heap.size w3 w4 := by rw [hw'']; exact below_regrown w3 dq osq
                    have c1 := e_c1 dq osq
                    rw [← hw''] at c1
                    have c2 := e_c2 dq osq
                    rw [← hw''] at c2
                    have c3 := e_c3 dq osq
                    rw [← hw''] at c3
                    have q1 := e_q1 dq osq
                    rw [← hw''] at q1
                    have q2 := e_q2 dq osq
                    rw [← hw''] at q2
                    clear hw'' e_c1 e_c2 e_c3 e_q1 e_q2
                    clear hstep hb3 hb2 hbl c1 c2 c3 q1 q2
                    go_wp2
                    go_roundw
                    case rel => exact ⟨j + 1, by go_num, by omega, by rw [HS2.out], by rw [HB2.out], hb4⟩
                    case measure => simp [intOf]; omega
                  · have e3 : (xlo == olo) = false := by simpa using hle2
                    have HB2 : Hid (botAt (xs.take (j + 1)) ⟨olo, ohi, owk⟩ = false) := by show _ = _; rw [hs2]; simp [hle2]
                    clear hs2
                    go_wp2
                    have e_c1 := fun d os => cell_regrown c1 d os
                    have e_c2 := fun d os => cell_regrown c2 d os
                    have e_c3 := fun d os => cell_regrown c3 d os
                    have e_q1 := fun d os => cell_regrown q1 d os
                    have e_q2 := fun d os => cell_regrown q2 d os
                    clear c1 c2 c3 q1 q2
                    refine wp_region_quiet_below (by kernel_rfl) (by kernel_rfl) ?_
                    repeat (go_big_quiet_step (fail))
                    refine wpQuiet_nil ?_
                    rintro w4 ⟨⟨dq, osq⟩, hw''⟩
                    have hb4 : Below wo.heap.size wo w4 := by rw [hw'']; exact hb3.trans ((below_regrown w3 dq osq).mono hb3.size)
                    have hstep : Below w3.heap.size w3 w4 := by rw [hw'']; exact below_regrown w3 dq osq
                    have c1 := e_c1 dq osq
                    rw [← hw''] at c1
                    have c2 := e_c2 dq osq
                    rw [← hw''] at c2
                    have c3 := e_c3 dq osq
                    rw [← hw''] at c3
                    have q1 := e_q1 dq osq
                    rw [← hw''] at q1
                    have q2 := e_q2 dq osq
                    rw [← hw''] at q2
                    clear hw'' e_c1 e_c2 e_c3 e_q1 e_q2
                    clear hstep hb3 hb2 hbl c1 c2 c3 q1 q2
                    go_wp2
                    go_roundw
                    case rel => exact ⟨j + 1, by go_num, by omega, by rw [HS2.out], by rw [HB2.out], hb4⟩
                    case measure => simp [intOf]; omega
          · obtain rfl : j = n := by omega
            have HTk : Hid (xs.take j = xs) := List.take_of_length_le (by rw [Hl.out]; exact Nat.le_refl _)
            rw [HTk.out, HS.out, HB.out]
            have q3 := hbc hb2 p3
            have hB2 := hb.trans (hb2.mono hb.size)
            clear HTk HS HB p1 p2 p3 hb hb2
            cases owk
            all_goals
              go_wp2
              go_roundw
              case rel => exact ⟨k + 1, by go_num, by omega, hB2⟩
              case measure => simp [intOf]; omega
      · obtain rfl : k = m := by omega
        have hB := hb1.trans (hb.mono hb1.size)
        clear hb1 hb
        go_wp2_with fail
        refine (wakes08_any _).mono ?_
        rintro e w2 ⟨rfl, hb2⟩
        have hB' := hB.trans (hb2.mono hB.size)
        go_wp2
        go_ret
        exact ⟨rfl, hB'⟩
end Go.Proofs.Ytndjljefppbmcaa
