/- Walk: the program's Merge. -/
import Derived.Test.YtdkikecjlbgmdaaGreatMrgC
namespace Go.Proofs.YtdkikecjlbgmdaaGreat
open Go.RowKit

theorem own_self {α : Type} {f : α → List Value} {sz : Nat} {e : TypeId} {B : Nat} {w : World} {v : Value} {n : Nat} {xs : List α} (h : OwnR f sz e B w v n xs) : OwnR f sz e B w v xs.length xs := by rw [h.1]; exact h
/-- Where Merge stands. -/
def MgAt (n : Nat) (d : List Spn) (w3 : World) (v i : Value) (wr : World) : Prop :=
  ∃ (k : Nat) (ys : List Spn), i = .int .i64 k ∧ k ≤ n ∧ Hid (ys = mstL d k) ∧ OwnR spnC 3 41 w3.heap.size wr v ys.length ys ∧ Below w3.heap.size w3 wr

set_option maxRecDepth 100000 in
set_option maxHeartbeats 4000000 in
theorem merge_any (a : Option Addr) (n c : Nat) (xs : List Spn) (w : World) (hx : SlSp w a n c xs) (hn : n ≤ 100000) :
    Calls Tryz.prog 39 #[.slice a n c] w (mrgPost xs w) := by
  have Hl := Lib.hid hx.len
  have hmax := hx.max
  have hle := hx.le
  have Hx := Lib.hid hx; clear hx
  go_enter Tryz.func39, Tryz.ntmps39
  go_wp2_with fail
  refine (contspn_any a n c xs _ Hx.out hn).mono ?_
  rintro e w1 ⟨rfl, hb1⟩
  obtain ⟨r, hr⟩ : ∃ r, Hid (r = mayAll xs) := ⟨_, rfl⟩
  rw [← hr.out]
  cases r with
  | false =>
    go_wp2
    go_ret2
    unfold mrgPost
    rw [mrgR_not hr.out.symm, mrgE_not hr.out.symm]
    exact ⟨_, rfl, OwnR.nil _ _ _ _ _, hb1⟩
  | true =>
    go_wp2_with fail
    refine (clonspn_any a n c xs _ (Hx.out.below hb1 (Nat.le_refl _)) hn).mono ?_
    rintro e w2 ⟨vc, rfl, hownc, hb2⟩
    go_wp2_with fail
    refine (sortspn_any vc n xs w1.heap.size _ hownc hn).mono ?_
    rintro e w3 ⟨rfl, ds, a3, c3, rfl, hperm, hsort, hsl, hb3⟩
    have Hs := Lib.hid hsl
    have Hd := Lib.hid hsl.len
    have hle3 := hsl.le
    have hmax3 := hsl.max
    have hb : Below w.heap.size w w3 := hb1.trans ((hb2.trans hb3).mono hb1.size)
    have HE : Hid (mstL ds n = mrgL xs) := by
      show _ = _
      unfold mstL
      rw [List.take_of_length_le (by rw [Hd.out]; exact Nat.le_refl _)]
      exact msteps_eq (mayAll_ups hr.out.symm) hperm hsort
    clear hsl hperm hsort hb1 hb2 hb3 hownc
    go_wp2
    go_loopw [2, 16] (fun v i wr => MgAt n ds w3 v i wr) (fun _ i _ => n - (intOf i).toNat)
    case atStart => exact ⟨0, [], rfl, Nat.zero_le _, rfl, OwnR.nil _ _ _ _ _, Below.refl _ _⟩
    case round =>
      obtain ⟨k, ys, rfl, hk, Hys, hown, hbr⟩ := hrel
      have hyl : ys.length ≤ k := by
        have h1 := mstL_len ds k
        rw [← Hys.out] at h1
        exact h1
      by_cases hlt : k < n
      · obtain ⟨b, off, rfl, hbl, hc⟩ := (Hs.out.below hbr (Nat.le_refl _)).at0 (by omega)
        obtain ⟨x, hxk⟩ : ∃ x, ds[k]? = some x := ⟨_, List.getElem?_eq_getElem (by rw [Hd.out]; exact hlt)⟩
        obtain ⟨c1, c2, c3'⟩ := SlSp.cells hc hxk
        have HY : Hid (mstL ds (k + 1) = mstep ys x) := by show _ = _; rw [mstL_succ hxk, Hys.out]
        obtain ⟨xlo, xhi, xwk⟩ := x
        clear hc hxk Hys
        simp only at c1 c2 c3'
        obtain ⟨av, cv, rfl, hrd⟩ := OwnR.reads spnC_len hown
        have hlec := hrd.le
        have hmaxv := hrd.max
        by_cases hm0 : ys.length = 0
        · obtain rfl : ys = [] := List.eq_nil_of_length_eq_zero hm0
          simp only [List.length_nil] at hown hlec
          have HN : Hid (mstL ds (k + 1) = [⟨xlo, xhi, xwk⟩]) := by show _ = _; rw [HY.out]; rfl
          clear HY hrd hm0
          go_wp2
          refine wp_named (F := fun w0 => Below wr.heap.size wr w0 ∧ w0.cell? ⟨wr.heap.size, 0, none⟩ = some (.int .i64 xlo) ∧ w0.cell? ⟨wr.heap.size, 1, none⟩ = some (.int .i64 xhi) ∧ w0.cell? ⟨wr.heap.size, 2, none⟩ = some (.bool xwk)) ⟨(Below.refl _ _).alloc (Nat.le_refl _) _, World.cell?_alloc_at _ _ _ _ rfl, World.cell?_alloc_at _ _ _ _ rfl, World.cell?_alloc_at _ _ _ _ rfl⟩ ?_
          rintro w4 ⟨hb4, d1, d2, d3⟩
          have hown4 := hown.below hb4 (Nat.le_refl _)
          have hbr4 := hbr.trans (hb4.mono hbr.size)
          have e_d1 := fun d os => cell_regrown d1 d os
          have e_d2 := fun d os => cell_regrown d2 d os
          have e_d3 := fun d os => cell_regrown d3 d os
          clear d1 d2 d3
          refine wp_region_quiet_below (by kernel_rfl) (by kernel_rfl) ?_
          repeat (go_big_quiet_step (fail))
          refine wpQuiet_nil ?_
          rintro w5 ⟨⟨dq, osq⟩, hw''⟩
          have hbr5 : Below w3.heap.size w3 w5 := by rw [hw'']; exact hbr4.trans ((below_regrown w4 dq osq).mono hbr4.size)
          have hstep : Below w4.heap.size w4 w5 := by rw [hw'']; exact below_regrown w4 dq osq
          have d1 := e_d1 dq osq
          rw [← hw''] at d1
          have d2 := e_d2 dq osq
          rw [← hw''] at d2
          have d3 := e_d3 dq osq
          rw [← hw''] at d3
          clear hw'' e_d1 e_d2 e_d3
          have hown5 := hown4.below hstep (Nat.le_refl _)
          have hsz5 := hbr5.size
          clear hstep hown4 hbr4 hb4 hown hbr c1 c2 c3'
          go_wp2_with (at_builtin; refine wpList_appR (f := spnC) (sz := 3) (e := 41) (B := w3.heap.size) (n := 0) (xs := []) _ spnC_len spnC_one rfl _ _ 27 rfl (.agg #[.int .i64 0, .int .i64 0, .bool false]) 24 Tryz.underlying27 info_spn rfl (by decide) ⟨xlo, xhi, xwk⟩ 41 hown5 rfl rfl (by omega) (by omega) (by omega) ?_; intro v' w' hown' happ)
          have hb6 := hbr5.trans (happ.below (B := w3.heap.size) hbr5.size (fun j hj => hown5.le j hj))
          clear happ hbr5 hown5
          go_wp2
          go_roundw
          case rel => exact ⟨k + 1, [⟨xlo, xhi, xwk⟩], by go_num, by omega, Lib.hid (HN.out.symm), own_self hown', hb6⟩
          case measure => simp [intOf]; omega
        · obtain ⟨bo, oo, rfl, hbo, hco⟩ := hrd.at0 (by omega)
          obtain ⟨y, hyk⟩ : ∃ y, ys[ys.length - 1]? = some y := ⟨_, List.getElem?_eq_getElem (by omega)⟩
          obtain ⟨p1, p2, p3⟩ := SlSp.cells hco hyk
          obtain ⟨m, hm⟩ : ∃ m, ys.length = m + 1 := ⟨ys.length - 1, by omega⟩
          rw [hm] at hown hlec hyl
          rw [hm, Nat.add_sub_cancel] at hyk p1 p2 p3
          have Hyk := Lib.hid hyk
          have Hco := Lib.hid hco
          obtain ⟨ylo, yhi, ywk⟩ := y
          clear hyk hco hrd
          simp only at p1 p2 p3
          have hmc : m ≤ cv := by omega
          have hm63 : m ≤ 9223372036854775807 := by omega
          have hwm : IntKind.i64.wrap (m : Int) = (m : Int) := by rw [IntKind.wrap_i64]; omega
          clear hm0
          by_cases hle' : xlo ≤ yhi
          · have HN : Hid (mstL ds (k + 1) = ys.take m ++ [joinS ⟨ylo, yhi, ywk⟩ ⟨xlo, xhi, xwk⟩]) := by show _ = _; rw [HY.out]; exact mstep_join hm Hyk.out hle'
            clear HY Hyk
            go_wp2
            refine wp_named (F := fun w0 => Below wr.heap.size wr w0 ∧ w0.cell? ⟨wr.heap.size, 0, none⟩ = some (.int .i64 xlo) ∧ w0.cell? ⟨wr.heap.size, 1, none⟩ = some (.int .i64 xhi) ∧ w0.cell? ⟨wr.heap.size, 2, none⟩ = some (.bool xwk)) ⟨(Below.refl _ _).alloc (Nat.le_refl _) _, World.cell?_alloc_at _ _ _ _ rfl, World.cell?_alloc_at _ _ _ _ rfl, World.cell?_alloc_at _ _ _ _ rfl⟩ ?_
            rintro w4 ⟨hb4, d1, d2, d3⟩
            have hown4 := hown.below hb4 (Nat.le_refl _)
            have hbr4 := hbr.trans (hb4.mono hbr.size)
            have q1 := hbc hb4 p1
            have q2 := hbc hb4 p2
            have q3 := hbc hb4 p3
            have hbo4 : bo < w4.heap.size := Nat.lt_of_lt_of_le hbo hb4.size
            have HC4 := Lib.hid (fun (i : Nat) (x : Spn) (hx : ys[i]? = some x) (j : Nat) (u : Value) (hu : (spnC x)[j]? = some u) => hbc hb4 (Hco.out i x hx j u hu))
            clear p1 p2 p3
            have e_d1 := fun d os => cell_regrown d1 d os
            have e_d2 := fun d os => cell_regrown d2 d os
            have e_d3 := fun d os => cell_regrown d3 d os
            have e_q1 := fun d os => cell_regrown q1 d os
            have e_q2 := fun d os => cell_regrown q2 d os
            have e_q3 := fun d os => cell_regrown q3 d os
            clear d1 d2 d3 q1 q2 q3
            refine wp_region_quiet_below (by kernel_rfl) (by kernel_rfl) ?_
            repeat (go_big_quiet_step (fail))
            refine wpQuiet_nil ?_
            rintro w5 ⟨⟨dq, osq⟩, hw''⟩
            have hbr5 : Below w3.heap.size w3 w5 := by rw [hw'']; exact hbr4.trans ((below_regrown w4 dq osq).mono hbr4.size)
            have hstep : Below w4.heap.size w4 w5 := by rw [hw'']; exact below_regrown w4 dq osq
            have d1 := e_d1 dq osq
            rw [← hw''] at d1
            have d2 := e_d2 dq osq
            rw [← hw''] at d2
            have d3 := e_d3 dq osq
            rw [← hw''] at d3
            have q1 := e_q1 dq osq
            rw [← hw''] at q1
            have q2 := e_q2 dq osq
            rw [← hw''] at q2
            have q3 := e_q3 dq osq
            rw [← hw''] at q3
            clear hw'' e_d1 e_d2 e_d3 e_q1 e_q2 e_q3
            have hown5 := hown4.below hstep (Nat.le_refl _)
            have hsz5 := hbr5.size
            have hbo5 : bo < w5.heap.size := Nat.lt_of_lt_of_le hbo4 hstep.size
            have HC5 := Lib.hid (fun (i : Nat) (x : Spn) (hx : ys[i]? = some x) (j : Nat) (u : Value) (hu : (spnC x)[j]? = some u) => hbc hstep (HC4.out i x hx j u hu))
            clear hstep hown4 hbr4 hb4 hown hbr c1 c2 c3' hbo4 hbo Hco HC4
            obtain ⟨jn, hjn⟩ : ∃ jn, Hid (jn = joinS ⟨ylo, yhi, ywk⟩ ⟨xlo, xhi, xwk⟩) := ⟨_, rfl⟩
            have Hj := join_any ⟨ylo, yhi, ywk⟩ ⟨xlo, xhi, xwk⟩
            rw [← hjn.out] at HN Hj
            have Hj' := Lib.hid Hj
            clear Hj hjn
            have hdr : Below w5.heap.size w5 w5.drew := ⟨rfl, rfl, rfl, Nat.le_refl _, fun _ _ => rfl⟩
            go_wp2
            by_cases hmz : m = 0
            · subst hmz
              simp only [Nat.zero_mul, Nat.add_zero] at q1 q2 q3
              have hw0 : IntKind.i64.wrap 0 = 0 := by decide
              go_region_held_law (fun WW => WW.cell? ⟨wr.heap.size, 0, none⟩ = some (.int .i64 xlo) ∧ WW.cell? ⟨wr.heap.size, 1, none⟩ = some (.int .i64 xhi) ∧ WW.cell? ⟨wr.heap.size, 2, none⟩ = some (.bool xwk) ∧ WW.cell? ⟨bo, oo, none⟩ = some (.int .i64 ylo) ∧ WW.cell? ⟨bo, oo + 1, none⟩ = some (.int .i64 yhi) ∧ WW.cell? ⟨bo, oo + 2, none⟩ = some (.bool ywk))
                (first
                  | assumption
                  | exact ⟨d1, d2, d3, q1, q2, q3⟩
                  | exact ⟨z1, z2, z3, z4, z5, z6⟩
                  | exact ⟨hbc ((Below.refl _ _).alloc (Nat.le_refl _) _) z1, hbc ((Below.refl _ _).alloc (Nat.le_refl _) _) z2, hbc ((Below.refl _ _).alloc (Nat.le_refl _) _) z3, hbc ((Below.refl _ _).alloc (Nat.le_refl _) _) z4, hbc ((Below.refl _ _).alloc (Nat.le_refl _) _) z5, hbc ((Below.refl _ _).alloc (Nat.le_refl _) _) z6⟩
                  | exact ⟨hbc happ z1, hbc happ z2, hbc happ z3, hbc happ z4, hbc happ z5, hbc happ z6⟩
                  | fail)
                (first
                  | (go_at_call 74; refine (Hj'.out _).mono ?_; rintro e wz ⟨rfl, hbz⟩; have z1 := hbc hbz d1; have z2 := hbc hbz d2; have z3 := hbc hbz d3; have z4 := hbc hbz q1; have z5 := hbc hbz q2; have z6 := hbc hbz q3; have hboz : bo < wz.heap.size := Nat.lt_of_lt_of_le hbo5 hbz.size; have HCz := Lib.hid (fun (i : Nat) (x : Spn) (hx : ys[i]? = some x) (j : Nat) (u : Value) (hu : (spnC x)[j]? = some u) => hbc hbz (HC5.out i x hx j u hu)); have hbrz : Below w3.heap.size w3 wz := hbr5.trans ((hdr.trans hbz).mono hbr5.size))
                  | (refine step_appJ (f := spnC) (sz := 3) (e := 41) _ spnC_len spnC_one rfl _ _ 27 rfl (.agg #[.int .i64 0, .int .i64 0, .bool false]) 24 Tryz.underlying27 info_spn rfl (by decide) jn 41 bo oo 0 (ys.take 0) (by rw [List.length_take]; omega) hboz (fun i x hx j u hu => HCz.out i x (by rw [List.getElem?_take] at hx; split at hx; exact hx; cases hx) j u hu) rfl rfl (by omega) (by omega) ?_; intro v' w' hown' happ)
                  | fail)
              rename_i hH
              clear hH
              have hb7 := hbrz.trans (happ.mono hbrz.size)
              have hown7 := hown'.mono hbrz.size
              clear happ hbrz hown'
              go_wp2
              go_roundw
              case rel => exact ⟨k + 1, ys.take 0 ++ [jn], by go_num, by omega, Lib.hid (HN.out.symm), own_self hown7, hb7⟩
              case measure => simp [intOf]; omega
            · have hmp : 0 < m := by omega
              go_region_held_law (fun WW => WW.cell? ⟨wr.heap.size, 0, none⟩ = some (.int .i64 xlo) ∧ WW.cell? ⟨wr.heap.size, 1, none⟩ = some (.int .i64 xhi) ∧ WW.cell? ⟨wr.heap.size, 2, none⟩ = some (.bool xwk) ∧ WW.cell? ⟨bo, oo + m * 3, none⟩ = some (.int .i64 ylo) ∧ WW.cell? ⟨bo, oo + m * 3 + 1, none⟩ = some (.int .i64 yhi) ∧ WW.cell? ⟨bo, oo + m * 3 + 2, none⟩ = some (.bool ywk))
                (first
                  | assumption
                  | exact ⟨d1, d2, d3, q1, q2, q3⟩
                  | exact ⟨z1, z2, z3, z4, z5, z6⟩
                  | exact ⟨hbc ((Below.refl _ _).alloc (Nat.le_refl _) _) z1, hbc ((Below.refl _ _).alloc (Nat.le_refl _) _) z2, hbc ((Below.refl _ _).alloc (Nat.le_refl _) _) z3, hbc ((Below.refl _ _).alloc (Nat.le_refl _) _) z4, hbc ((Below.refl _ _).alloc (Nat.le_refl _) _) z5, hbc ((Below.refl _ _).alloc (Nat.le_refl _) _) z6⟩
                  | exact ⟨hbc happ z1, hbc happ z2, hbc happ z3, hbc happ z4, hbc happ z5, hbc happ z6⟩
                  | fail)
                (first
                  | (go_at_call 74; refine (Hj'.out _).mono ?_; rintro e wz ⟨rfl, hbz⟩; have z1 := hbc hbz d1; have z2 := hbc hbz d2; have z3 := hbc hbz d3; have z4 := hbc hbz q1; have z5 := hbc hbz q2; have z6 := hbc hbz q3; have hboz : bo < wz.heap.size := Nat.lt_of_lt_of_le hbo5 hbz.size; have HCz := Lib.hid (fun (i : Nat) (x : Spn) (hx : ys[i]? = some x) (j : Nat) (u : Value) (hu : (spnC x)[j]? = some u) => hbc hbz (HC5.out i x hx j u hu)); have hbrz : Below w3.heap.size w3 wz := hbr5.trans ((hdr.trans hbz).mono hbr5.size))
                  | (refine step_appJ (f := spnC) (sz := 3) (e := 41) _ spnC_len spnC_one rfl _ _ 27 rfl (.agg #[.int .i64 0, .int .i64 0, .bool false]) 24 Tryz.underlying27 info_spn rfl (by decide) jn 41 bo oo m (ys.take m) (by rw [List.length_take]; omega) hboz (fun i x hx j u hu => HCz.out i x (by rw [List.getElem?_take] at hx; split at hx; exact hx; cases hx) j u hu) rfl rfl (by omega) (by omega) ?_; intro v' w' hown' happ)
                  | fail)
              rename_i hH
              clear hH
              have hb7 := hbrz.trans (happ.mono hbrz.size)
              have hown7 := hown'.mono hbrz.size
              clear happ hbrz hown'
              go_wp2
              go_roundw
              case rel => exact ⟨k + 1, ys.take m ++ [jn], by go_num, by omega, Lib.hid (HN.out.symm), own_self hown7, hb7⟩
              case measure => simp [intOf]; omega
          · have HN : Hid (mstL ds (k + 1) = ys ++ [⟨xlo, xhi, xwk⟩]) := by show _ = _; rw [HY.out]; exact mstep_app hm Hyk.out hle'
            clear HY Hyk
            go_wp2
            refine wp_named (F := fun w0 => Below wr.heap.size wr w0 ∧ w0.cell? ⟨wr.heap.size, 0, none⟩ = some (.int .i64 xlo) ∧ w0.cell? ⟨wr.heap.size, 1, none⟩ = some (.int .i64 xhi) ∧ w0.cell? ⟨wr.heap.size, 2, none⟩ = some (.bool xwk)) ⟨(Below.refl _ _).alloc (Nat.le_refl _) _, World.cell?_alloc_at _ _ _ _ rfl, World.cell?_alloc_at _ _ _ _ rfl, World.cell?_alloc_at _ _ _ _ rfl⟩ ?_
            rintro w4 ⟨hb4, d1, d2, d3⟩
            have hown4 := hown.below hb4 (Nat.le_refl _)
            have hbr4 := hbr.trans (hb4.mono hbr.size)
            have q1 := hbc hb4 p1
            have q2 := hbc hb4 p2
            have q3 := hbc hb4 p3
            have hbo4 : bo < w4.heap.size := Nat.lt_of_lt_of_le hbo hb4.size
            have HC4 := Lib.hid (fun (i : Nat) (x : Spn) (hx : ys[i]? = some x) (j : Nat) (u : Value) (hu : (spnC x)[j]? = some u) => hbc hb4 (Hco.out i x hx j u hu))
            clear p1 p2 p3
            have e_d1 := fun d os => cell_regrown d1 d os
            have e_d2 := fun d os => cell_regrown d2 d os
            have e_d3 := fun d os => cell_regrown d3 d os
            have e_q1 := fun d os => cell_regrown q1 d os
            have e_q2 := fun d os => cell_regrown q2 d os
            have e_q3 := fun d os => cell_regrown q3 d os
            clear d1 d2 d3 q1 q2 q3
            refine wp_region_quiet_below (by kernel_rfl) (by kernel_rfl) ?_
            repeat (go_big_quiet_step (fail))
            refine wpQuiet_nil ?_
            rintro w5 ⟨⟨dq, osq⟩, hw''⟩
            have hbr5 : Below w3.heap.size w3 w5 := by rw [hw'']; exact hbr4.trans ((below_regrown w4 dq osq).mono hbr4.size)
            have hstep : Below w4.heap.size w4 w5 := by rw [hw'']; exact below_regrown w4 dq osq
            have d1 := e_d1 dq osq
            rw [← hw''] at d1
            have d2 := e_d2 dq osq
            rw [← hw''] at d2
            have d3 := e_d3 dq osq
            rw [← hw''] at d3
            have q1 := e_q1 dq osq
            rw [← hw''] at q1
            have q2 := e_q2 dq osq
            rw [← hw''] at q2
            have q3 := e_q3 dq osq
            rw [← hw''] at q3
            clear hw'' e_d1 e_d2 e_d3 e_q1 e_q2 e_q3
            have hown5 := hown4.below hstep (Nat.le_refl _)
            have hsz5 := hbr5.size
            have hbo5 : bo < w5.heap.size := Nat.lt_of_lt_of_le hbo4 hstep.size
            have HC5 := Lib.hid (fun (i : Nat) (x : Spn) (hx : ys[i]? = some x) (j : Nat) (u : Value) (hu : (spnC x)[j]? = some u) => hbc hstep (HC4.out i x hx j u hu))
            clear hstep hown4 hbr4 hb4 hown hbr c1 c2 c3' hbo4 hbo Hco HC4
            go_wp2_with (at_builtin; refine wpList_appR (f := spnC) (sz := 3) (e := 41) (B := w3.heap.size) (n := m + 1) (xs := ys) _ spnC_len spnC_one rfl _ _ 27 rfl (.agg #[.int .i64 0, .int .i64 0, .bool false]) 24 Tryz.underlying27 info_spn rfl (by decide) ⟨xlo, xhi, xwk⟩ 41 hown5 rfl rfl (by omega) (by omega) (by omega) ?_; intro v' w' hown' happ)
            have hb6 := hbr5.trans (happ.below (B := w3.heap.size) hbr5.size (fun j hj => hown5.le j hj))
            clear happ hbr5 hown5
            go_wp2
            go_roundw
            case rel => exact ⟨k + 1, ys ++ [⟨xlo, xhi, xwk⟩], by go_num, by omega, Lib.hid (HN.out.symm), own_self hown', hb6⟩
            case measure => simp [intOf]; omega
      · obtain rfl : k = n := by omega
        rw [HE.out] at Hys
        go_wp2
        go_ret2
        unfold mrgPost
        rw [mrgR_of hr.out.symm, mrgE_of hr.out.symm, ← Hys.out]
        exact ⟨_, rfl, hown.mono hb.size, hb.trans (hbr.mono hb.size)⟩
end Go.Proofs.YtdkikecjlbgmdaaGreat
