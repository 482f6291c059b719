/- Walk: the law SpansAny. -/
import Derived.Test.YtndjljefppbmcaaAnyM
namespace Go.Proofs.Ytndjljefppbmcaa
open Go.RowKit

theorem SlR.takeN {w : World} {a : Option Addr} {n c : Nat} {xs : List Spn} (h : SlSp w a n c xs) {k : Nat} (hk : k ≤ n) : SlSp w a k c (xs.take k) := by
  refine ⟨by simp [h.len, hk], Nat.le_trans hk h.le, h.max, ?_⟩
  rcases h.cell with h0 | ⟨b, off, ha, hb, hc⟩
  · exact .inl (by omega)
  · refine .inr ⟨b, off, ha, hb, fun i x hx => hc i x ?_⟩
    rw [List.getElem?_take] at hx
    split at hx
    · exact hx
    · cases hx
theorem SlR.dropN {w : World} {a : Option Addr} {n c : Nat} {xs : List Spn} (h : SlSp w a n c xs) {k : Nat} (hk : k ≤ n) : SlSp w (a.map (fun x => x.add (k * 3))) (n - k) (c - k) (xs.drop k) := by
  have hm := h.max
  have hle := h.le
  refine ⟨by simp [h.len], by omega, by omega, ?_⟩
  rcases h.cell with h0 | ⟨b, off, ha, hb, hc⟩
  · exact .inl (by omega)
  · refine .inr ⟨b, off + k * 3, by rw [ha, Option.map_some, Addr.add_lit], hb, fun i x hx j u hu => ?_⟩
    rw [List.getElem?_drop] at hx
    have := hc (k + i) x hx j u hu
    rw [show off + k * 3 + i * 3 + j = off + (k + i) * 3 + j by omega]
    exact this

set_option maxRecDepth 100000 in
set_option maxHeartbeats 4000000 in
theorem spansany_any (a : Option Addr) (n c : Nat) (xs : List Spn) (b : Option Addr) (m d : Nat) (os : List Int) (cut y : Int) (w : World) (hx : SlSp w a n c xs) (ho : SlI .i64 w b m d os) :
    Calls Try.prog 5 #[.slice a n c, .slice b m d, .int .i64 cut, .int .i64 y] w fun e w' => e = .returned (.bool true) ∧ Below w.heap.size w w' := by
  have Hl := Lib.hid hx.len
  have hmax := hx.max
  have hle := hx.le
  have Hx := Lib.hid hx; clear hx
  have Ho := Lib.hid ho; clear ho
  by_cases hn : 60 < n
  · have hn' : (60 : Int) < (n : Int) := by omega
    go_enter Try.func5, Try.ntmps5
    go_wp2_with fail
    refine (wakes08_any _).mono ?_
    rintro e w1 ⟨rfl, hb1⟩
    go_wp2
    go_ret
    exact ⟨rfl, hb1⟩
  have hn' : ¬ (60 : Int) < (n : Int) := by omega
  obtain ⟨r, hr⟩ : ∃ r, Hid (r = mayAll xs) := ⟨_, rfl⟩
  have hN0 : ¬ ((n : Int) + 1 = 0) := by omega
  have hN1 : (0 : Int) < (n : Int) + 1 := by omega
  cases r with
  | false =>
    go_enter Try.func5, Try.ntmps5
    go_wp2_with fail
    refine (merge_any a n c xs _ Hx.out (by omega)).mono ?_
    rintro e w1 ⟨v1, rfl, hown1, hb1⟩
    rw [mrgE_not hr.out.symm]
    clear hown1
    go_wp2_with fail
    refine (moved_any a n c xs b m d os _ (Hx.out.below hb1 (Nat.le_refl _)) (Ho.out.below hb1 (Nat.le_refl _)) (by omega)).mono ?_
    rintro e w2 ⟨v2, ys, rfl, hown2, hp, hb2⟩
    obtain ⟨a2, c2, rfl, hrd⟩ := OwnR.reads spnC_len hown2
    have hE : Hid (mrgE ys = 2) := by show _ = _; rw [mrgE_perm hp]; exact mrgE_not hr.out.symm
    have Hrd := Lib.hid hrd
    have hB2 := hb1.trans (hb2.mono hb1.size)
    clear hown2 hrd hp hb1 hb2
    go_wp2_with fail
    refine (merge_any a2 n c2 ys _ Hrd.out (by omega)).mono ?_
    rintro e w3 ⟨v3, rfl, _, hb3⟩
    rw [hE.out]
    have hB3 := hB2.trans (hb3.mono hB2.size)
    clear hb3 hB2 hE Hrd
    go_wp2_with fail
    refine (wakes08_any _).mono ?_
    rintro e w4 ⟨rfl, hb4⟩
    have hB4 := hB3.trans (hb4.mono hB3.size)
    go_wp2
    go_ret
    exact ⟨rfl, hB4⟩
  | true =>
    obtain ⟨k, hkn, hk0⟩ := cut_at cut n
    have hkb := tmod_bounds cut n
    have hcut : (wrap64 (cut.tmod ((n : Int) + 1) + ((n : Int) + 1))).tmod ((n : Int) + 1) = (k : Int) := by rw [IntWalk.wrap64_in _ (by omega)]; exact hk0
    clear hk0 hkb
    obtain ⟨M, hM⟩ : ∃ M, Hid (M = mrgL xs) := ⟨_, rfl⟩
    by_cases hck : c = k
    · obtain rfl : n = k := by omega
      subst hck
      go_enter Try.func5, Try.ntmps5
      go_wp2_with fail
      refine (merge_any a c c xs _ Hx.out (by omega)).mono ?_
      rintro e w1 ⟨v1, rfl, hown1, hb1⟩
      rw [mrgE_of hr.out.symm]
      rw [mrgR_of hr.out.symm, ← hM.out] at hown1
      have hml : M.length ≤ c := by have := mrgL_len xs; rw [← hM.out, Hl.out] at this; exact this
      go_wp2_with fail
      refine (moved_any a c c xs b m d os _ (Hx.out.below hb1 (Nat.le_refl _)) (Ho.out.below hb1 (Nat.le_refl _)) (by omega)).mono ?_
      rintro e w2 ⟨v2, ys, rfl, hown2, hp, hb2⟩
      obtain ⟨a2, c2, rfl, hrd⟩ := OwnR.reads spnC_len hown2
      have hE : Hid (mrgE ys = 0) := by show _ = _; rw [mrgE_perm hp]; exact mrgE_of hr.out.symm
      have hR : Hid (mrgR ys = M) := by show _ = _; rw [mrgR_perm hp, mrgR_of hr.out.symm, ← hM.out]
      have Hrd := Lib.hid hrd
      have hB2 := hb1.trans (hb2.mono hb1.size)
      have o1 := hown1.below hb2 (Nat.le_refl _)
      clear hown1 hown2 hrd hp hb1 hb2
      go_wp2_with fail
      refine (merge_any a2 c c2 ys _ Hrd.out (by omega)).mono ?_
      rintro e w3 ⟨v3, rfl, hown3, hb3⟩
      rw [hE.out]
      rw [hR.out] at hown3
      have hB3 := hB2.trans (hb3.mono hB2.size)
      have o1' := o1.below hb3 (Nat.le_refl _)
      have o3 := hown3.mono hB2.size
      clear o1 hown3 hb3 hB2 hE hR Hrd
      go_wp2_with fail
      refine (merge_any a c c (xs.take c) _ ((Hx.out.below hB3 (Nat.le_refl _)).takeN (by omega)) (by omega)).mono ?_
      rintro e w4 ⟨v4, rfl, hown4, hb4⟩
      rw [mrgE_of (mayAll_takedrop hr.out.symm c).1]
      rw [mrgR_of (mayAll_takedrop hr.out.symm c).1] at hown4
      obtain ⟨a4, c4, rfl, hrd4⟩ := OwnR.reads spnC_len hown4
      have hl4 : (mrgL (xs.take c)).length ≤ c := by have := mrgL_len (xs.take c); have := List.length_take_le c xs; omega
      have hB4 := hB3.trans (hb4.mono hB3.size)
      have p1 := o1'.below hb4 (Nat.le_refl _)
      have p3 := o3.below hb4 (Nat.le_refl _)
      have Hr4 := Lib.hid hrd4
      obtain ⟨q, hq⟩ : ∃ q, q = (mrgL (xs.take c)).length := ⟨_, rfl⟩
      rw [← hq] at Hr4 hl4 ⊢
      have Hq := Lib.hid hq
      have hs4 := hB4.size
      clear o1' o3 hown4 hb4 hrd4 hB3 hq
      go_wp2_with (first | (at_builtin; refine wpList_appS (f := spnC) (sz := 3) (e := 28) _ spnC_len spnC_one rfl _ _ 22 rfl (.agg #[.int .i64 0, .int .i64 0, .bool false]) 24 Try.underlying22 info_spn rfl (by decide) w4.heap.size _ _ _ (OwnR.nil spnC 3 28 w4.heap.size w4) rfl _ _ _ _ Hr4.out rfl (by omega) (by omega) (Nat.le_refl _) ?_; intro v5 w5 hown5 hb5; rw [Nat.zero_add, List.nil_append] at hown5; obtain ⟨a5, c5, rfl, hrd5⟩ := OwnR.reads spnC_len hown5; have hB5 := hB4.trans (hb5.mono hs4); have hs5 := hB5.size; have hown5' := hown5.mono hs4) | (at_builtin; refine wpList_appS (f := spnC) (sz := 3) (e := 28) _ spnC_len spnC_one rfl _ _ 22 rfl (.agg #[.int .i64 0, .int .i64 0, .bool false]) 24 Try.underlying22 info_spn rfl (by decide) w4.heap.size _ _ _ hown5 rfl _ _ _ _ ((⟨rfl, Nat.le_refl _, by omega, .inl rfl⟩ : SlSp w5 a 0 0 [])) rfl (by omega) (by omega) hb5.size ?_; intro v6 w6 hown6 hb6))
      have HL6 : Hid (mrgE (mrgL (xs.take c) ++ []) = 0 ∧ mrgR (mrgL (xs.take c) ++ []) = M) := by
        have e : [] = xs.drop c := (List.drop_eq_nil_of_le (by rw [Hl.out]; exact Nat.le_refl _)).symm
        have h := parts_may hr.out.symm c
        show _ ∧ _
        rw [e, mrgE_of h, mrgR_of h, mrgL_parts hr.out.symm c, ← hM.out]
        exact ⟨rfl, rfl⟩
      obtain ⟨a6, c6, rfl, hrd6⟩ := OwnR.reads spnC_len hown6
      have hb46 := hb5.trans hb6
      have hB6 := hB4.trans (hb46.mono hs4)
      have r1 := p1.below hb46 (Nat.le_refl _)
      have r3 := p3.below hb46 (Nat.le_refl _)
      have hN6 : (q + 0) ≤ 200 := by omega
      have Hr6 := Lib.hid hrd6
      clear hb46 hb5 hb6 hown5 hown6 hrd5 hrd6 p1 p3 Hr4 hB4 hB5
      go_wp2_with fail
      refine (merge_any a6 _ c6 _ _ Hr6.out (by omega)).mono ?_
      rintro e w7 ⟨v7, rfl, hown7, hb7⟩
      rw [HL6.out.1]
      rw [HL6.out.2] at hown7
      have hB7 := hB6.trans (hb7.mono hB6.size)
      have s1 := r1.below hb7 (Nat.le_refl _)
      have s3 := r3.below hb7 (Nat.le_refl _)
      have s7 := hown7.mono hB6.size
      obtain ⟨a1, c1, rfl, hrd1⟩ := OwnR.reads spnC_len s1
      have Hr1 := Lib.hid hrd1
      have hMM : Hid (mrgE M = 0 ∧ mrgR M = M) := by
        have h := mrgL_may hr.out.symm
        rw [← hM.out] at h
        refine ⟨mrgE_of h, ?_⟩
        rw [mrgR_of h, hM.out, mrgL_twice hr.out.symm]
      clear r1 r3 hown7 hb7 hB6 Hr6 HL6 hrd1
      go_wp2_with fail
      refine (merge_any a1 _ c1 M _ Hr1.out (by omega)).mono ?_
      rintro e w8 ⟨v8, rfl, hown8, hb8⟩
      rw [hMM.out.1]
      rw [hMM.out.2] at hown8
      have hB8 := hB7.trans (hb8.mono hB7.size)
      have hs8 := hB7.size
      obtain ⟨b1, e1, he1, t1⟩ := OwnR.reads spnC_len (s1.below hb8 (Nat.le_refl _))
      cases he1
      obtain ⟨b3, e3, rfl, t3⟩ := OwnR.reads spnC_len (s3.below hb8 (Nat.le_refl _))
      obtain ⟨b7, e7, rfl, t7⟩ := OwnR.reads spnC_len (s7.below hb8 (Nat.le_refl _))
      obtain ⟨b8, e8, rfl, t8⟩ := OwnR.reads spnC_len hown8
      have T1 := Lib.hid t1
      have T3 := Lib.hid t3
      have T7 := Lib.hid t7
      have T8 := Lib.hid t8
      have hcle := t1.le
      have hcmx := t1.max
      clear s1 s3 s7 hown8 hb8 hB7 t1 t3 t7 t8 Hr1 hMM
      go_wp2_with fail
      refine (same_self _ _ _ _ _ M _ T1.out T3.out).mono ?_
      rintro e w9 ⟨rfl, hb9⟩
      have T1' : Hid (SlSp w9 a1 M.length c1 M) := T1.out.below hb9 (Nat.le_refl _)
      have T7' : Hid (SlSp w9 b7 M.length e7 M) := T7.out.below hb9 (Nat.le_refl _)
      have T8' : Hid (SlSp w9 b8 M.length e8 M) := T8.out.below hb9 (Nat.le_refl _)
      have hB9 := hB8.trans (hb9.mono hB8.size)
      clear T1 T3 T7 T8 hb9 hB8
      go_wp2_with fail
      refine (same_self _ _ _ _ _ M _ T1'.out T7'.out).mono ?_
      rintro e w10 ⟨rfl, hb10⟩
      have T1 : Hid (SlSp w10 a1 M.length c1 M) := T1'.out.below hb10 (Nat.le_refl _)
      have T8 : Hid (SlSp w10 b8 M.length e8 M) := T8'.out.below hb10 (Nat.le_refl _)
      have hB10 := hB9.trans (hb10.mono hB9.size)
      clear T1' T7' T8' hb10 hB9
      go_wp2_with fail
      refine (same_self _ _ _ _ _ M _ T1.out T8.out).mono ?_
      rintro e w11 ⟨rfl, hb11⟩
      have T9 : Hid (SlSp w11 a1 M.length c1 M) := T1.out.below hb11 (Nat.le_refl _)
      have hB11 := hB10.trans (hb11.mono hB10.size)
      have Hx11 : Hid (SlSp w11 a c c xs) := Hx.out.below hB11 (Nat.le_refl _)
      clear T1 T8 hb11 hB10
      go_wp2_with fail
      go_loopw [21, 23] (fun s i wr => ∃ j : Nat, i = .int .i64 j ∧ j ≤ c ∧ s = .bool ((xs.take j).any (inAt y)) ∧ Below w11.heap.size w11 wr) (fun _ i _ => c - (intOf i).toNat)
      case atStart => exact ⟨0, rfl, Nat.zero_le _, rfl, Below.refl _ _⟩
      case round =>
        obtain ⟨j, rfl, hj, rfl, hb2⟩ := hrel
        by_cases hjn : j < c
        · obtain ⟨bx, ox, hax, hbl, hc⟩ := (Hx11.out.below hb2 (Nat.le_refl _)).at0 (by omega)
          obtain ⟨x, hxj⟩ : ∃ x, xs[j]? = some x := ⟨_, List.getElem?_eq_getElem (by rw [Hl.out]; exact hjn)⟩
          obtain ⟨c1', c2', c3'⟩ := SlSp.cells hc hxj
          have hs1 := any_succ hxj y
          obtain ⟨xlo, xhi, xwk⟩ := x
          clear hc hxj
          simp only at c1' c2' c3' hs1
          cases hax
          generalize (xs.take j).any (inAt y) = s at hs1 ⊢
          cases s with
          | true =>
            have HS2 : Hid ((xs.take (j + 1)).any (inAt y) = true) := by show _ = _; rw [hs1]; rfl
            clear hs1
            go_wp2
            go_roundw
            case rel => exact ⟨j + 1, by go_num, by omega, by rw [HS2.out], hb2⟩
            case measure => simp [intOf]; omega
          | false =>
            by_cases h1 : xlo ≤ y
            · by_cases h2 : y ≤ xhi
              · have HS2 : Hid ((xs.take (j + 1)).any (inAt y) = true) := by show _ = _; rw [hs1]; simp [h1, h2]
                clear hs1
                go_wp2
                go_roundw
                case rel => exact ⟨j + 1, by go_num, by omega, by rw [HS2.out], hb2⟩
                case measure => simp [intOf]; omega
              · have HS2 : Hid ((xs.take (j + 1)).any (inAt y) = false) := by show _ = _; rw [hs1]; simp [h2]
                clear hs1
                go_wp2
                go_roundw
                case rel => exact ⟨j + 1, by go_num, by omega, by rw [HS2.out], hb2⟩
                case measure => simp [intOf]; omega
            · have HS2 : Hid ((xs.take (j + 1)).any (inAt y) = false) := by show _ = _; rw [hs1]; simp [h1]
              clear hs1
              go_wp2
              go_roundw
              case rel => exact ⟨j + 1, by go_num, by omega, by rw [HS2.out], hb2⟩
              case measure => simp [intOf]; omega
        · obtain rfl : j = c := by omega
          have HTk : Hid (xs.take j = xs) := List.take_of_length_le (by rw [Hl.out]; exact Nat.le_refl _)
          rw [HTk.out]
          have hB12 := hB11.trans (hb2.mono hB11.size)
          have T10 : Hid (SlSp wr a1 M.length c1 M) := T9.out.below hb2 (Nat.le_refl _)
          have HC : Hid (M.countP (inAt y) = if xs.any (inAt y) then 1 else 0) := by show _ = _; rw [hM.out]; exact height_ok hr.out.symm y
          have HSep : Hid (M.Pairwise (fun a b => a.hi < b.lo)) := by show List.Pairwise _ _; rw [hM.out]; exact (mrgL_mrg (mayAll_ups hr.out.symm)).sep
          generalize xs.any (inAt y) = inb at HC ⊢
          obtain ⟨wo, hwo⟩ : ∃ wo, wo = wr := ⟨_, rfl⟩
          subst hwo
          clear T9 hB11 HTk hb2
          go_wp2_with fail
          go_loopw [22, 24] (fun s i wr => ∃ j : Nat, i = .int .i64 j ∧ j ≤ M.length ∧ s = .int .i64 ((M.take j).countP (inAt y) : Nat) ∧ Below wo.heap.size wo wr) (fun _ i _ => M.length - (intOf i).toNat)
          case atStart => exact ⟨0, rfl, Nat.zero_le _, rfl, Below.refl _ _⟩
          case round =>
            obtain ⟨i, rfl, hi, rfl, hb2⟩ := hrel
            by_cases him : i < M.length
            · obtain ⟨bx, ox, hax, hbl, hc⟩ := (T10.out.below hb2 (Nat.le_refl _)).at0 (by omega)
              obtain ⟨x, hxi⟩ : ∃ x, M[i]? = some x := ⟨_, List.getElem?_eq_getElem him⟩
              obtain ⟨c1', c2', c3'⟩ := SlSp.cells hc hxi
              have hs1 := count_succ hxi y
              have hcl := count_le_take M i y
              generalize (M.take i).countP (inAt y) = s at hs1 hcl ⊢
              by_cases hi0 : i = 0
              · subst hi0
                obtain ⟨xlo, xhi, xwk⟩ := x
                clear hc hxi
                simp only [Nat.zero_mul, Nat.add_zero] at c1' c2' c3' hs1
                cases hax
                by_cases h1 : xlo ≤ y
                · by_cases h2 : y ≤ xhi
                  · have HS2 : Hid ((M.take (0 + 1)).countP (inAt y) = s + 1) := by show _ = _; rw [hs1]; simp [h1, h2]
                    clear hs1
                    go_wp2
                    have e_c1' := fun d os => cell_regrown c1' d os
                    have e_c2' := fun d os => cell_regrown c2' d os
                    have e_c3' := fun d os => cell_regrown c3' d os
                    clear c1' c2' c3'
                    refine wp_region_quiet_below (by kernel_rfl) (by kernel_rfl) ?_
                    repeat (go_big_quiet_step (fail))
                    refine wpQuiet_nil ?_
                    rintro w14 ⟨⟨dq, osq⟩, hw''⟩
                    have hb3 : Below wo.heap.size wo w14 := by rw [hw'']; exact hb2.trans ((below_regrown wr dq osq).mono hb2.size)
                    have hstep : Below wr.heap.size wr w14 := by rw [hw'']; exact below_regrown wr dq osq
                    clear hw'' e_c1' e_c2' e_c3'
                    clear hstep
                    go_wp2
                    go_roundw
                    case rel => exact ⟨0 + 1, by go_num, by omega, by rw [HS2.out] <;> rfl, hb3⟩
                    case measure => simp [intOf]; omega
                  · have HS2 : Hid ((M.take (0 + 1)).countP (inAt y) = s) := by show _ = _; rw [hs1]; simp [h2]
                    clear hs1
                    go_wp2
                    have e_c1' := fun d os => cell_regrown c1' d os
                    have e_c2' := fun d os => cell_regrown c2' d os
                    have e_c3' := fun d os => cell_regrown c3' d os
                    clear c1' c2' c3'
                    refine wp_region_quiet_below (by kernel_rfl) (by kernel_rfl) ?_
                    repeat (go_big_quiet_step (fail))
                    refine wpQuiet_nil ?_
                    rintro w14 ⟨⟨dq, osq⟩, hw''⟩
                    have hb3 : Below wo.heap.size wo w14 := by rw [hw'']; exact hb2.trans ((below_regrown wr dq osq).mono hb2.size)
                    have hstep : Below wr.heap.size wr w14 := by rw [hw'']; exact below_regrown wr dq osq
                    clear hw'' e_c1' e_c2' e_c3'
                    clear hstep
                    go_wp2
                    go_roundw
                    case rel => exact ⟨0 + 1, by go_num, by omega, by rw [HS2.out] <;> rfl, hb3⟩
                    case measure => simp [intOf]; omega
                · have HS2 : Hid ((M.take (0 + 1)).countP (inAt y) = s) := by show _ = _; rw [hs1]; simp [h1]
                  clear hs1
                  go_wp2
                  have e_c1' := fun d os => cell_regrown c1' d os
                  have e_c2' := fun d os => cell_regrown c2' d os
                  have e_c3' := fun d os => cell_regrown c3' d os
                  clear c1' c2' c3'
                  refine wp_region_quiet_below (by kernel_rfl) (by kernel_rfl) ?_
                  repeat (go_big_quiet_step (fail))
                  refine wpQuiet_nil ?_
                  rintro w14 ⟨⟨dq, osq⟩, hw''⟩
                  have hb3 : Below wo.heap.size wo w14 := by rw [hw'']; exact hb2.trans ((below_regrown wr dq osq).mono hb2.size)
                  have hstep : Below wr.heap.size wr w14 := by rw [hw'']; exact below_regrown wr dq osq
                  clear hw'' e_c1' e_c2' e_c3'
                  clear hstep
                  go_wp2
                  go_roundw
                  case rel => exact ⟨0 + 1, by go_num, by omega, by rw [HS2.out] <;> rfl, hb3⟩
                  case measure => simp [intOf]; omega
              · obtain ⟨p, hpi⟩ : ∃ p, M[i - 1]? = some p := ⟨_, List.getElem?_eq_getElem (by omega)⟩
                obtain ⟨_, q2', _⟩ := SlSp.cells hc hpi
                have hsp := sep_at HSep.out (by omega) hxi hpi
                have hi1 : 0 < i := by omega
                obtain ⟨xlo, xhi, xwk⟩ := x
                obtain ⟨plo, phi, pwk⟩ := p
                clear hc hxi hpi
                simp only at c1' c2' c3' hs1 q2' hsp
                cases hax
                by_cases h1 : xlo ≤ y
                · by_cases h2 : y ≤ xhi
                  · have HS2 : Hid ((M.take (i + 1)).countP (inAt y) = s + 1) := by show _ = _; rw [hs1]; simp [h1, h2]
                    clear hs1
                    go_wp2
                    have e_c1' := fun d os => cell_regrown c1' d os
                    have e_c2' := fun d os => cell_regrown c2' d os
                    have e_c3' := fun d os => cell_regrown c3' d os
                    have e_q2' := fun d os => cell_regrown q2' d os
                    clear c1' c2' c3' q2'
                    refine wp_region_quiet_below (by kernel_rfl) (by kernel_rfl) ?_
                    repeat (go_big_quiet_step (fail))
                    refine wpQuiet_nil ?_
                    rintro w14 ⟨⟨dq, osq⟩, hw''⟩
                    have hb3 : Below wo.heap.size wo w14 := by rw [hw'']; exact hb2.trans ((below_regrown wr dq osq).mono hb2.size)
                    have hstep : Below wr.heap.size wr w14 := by rw [hw'']; exact below_regrown wr dq osq
                    clear hw'' e_c1' e_c2' e_c3' e_q2'
                    clear hstep
                    go_wp2
                    go_roundw
                    case rel => exact ⟨i + 1, by go_num, by omega, by rw [HS2.out] <;> rfl, hb3⟩
                    case measure => simp [intOf]; omega
                  · have HS2 : Hid ((M.take (i + 1)).countP (inAt y) = s) := by show _ = _; rw [hs1]; simp [h2]
                    clear hs1
                    go_wp2
                    have e_c1' := fun d os => cell_regrown c1' d os
                    have e_c2' := fun d os => cell_regrown c2' d os
                    have e_c3' := fun d os => cell_regrown c3' d os
                    have e_q2' := fun d os => cell_regrown q2' d os
                    clear c1' c2' c3' q2'
                    refine wp_region_quiet_below (by kernel_rfl) (by kernel_rfl) ?_
                    repeat (go_big_quiet_step (fail))
                    refine wpQuiet_nil ?_
                    rintro w14 ⟨⟨dq, osq⟩, hw''⟩
                    have hb3 : Below wo.heap.size wo w14 := by rw [hw'']; exact hb2.trans ((below_regrown wr dq osq).mono hb2.size)
                    have hstep : Below wr.heap.size wr w14 := by rw [hw'']; exact below_regrown wr dq osq
                    clear hw'' e_c1' e_c2' e_c3' e_q2'
                    clear hstep
                    go_wp2
                    go_roundw
                    case rel => exact ⟨i + 1, by go_num, by omega, by rw [HS2.out] <;> rfl, hb3⟩
                    case measure => simp [intOf]; omega
                · have HS2 : Hid ((M.take (i + 1)).countP (inAt y) = s) := by show _ = _; rw [hs1]; simp [h1]
                  clear hs1
                  go_wp2
                  have e_c1' := fun d os => cell_regrown c1' d os
                  have e_c2' := fun d os => cell_regrown c2' d os
                  have e_c3' := fun d os => cell_regrown c3' d os
                  have e_q2' := fun d os => cell_regrown q2' d os
                  clear c1' c2' c3' q2'
                  refine wp_region_quiet_below (by kernel_rfl) (by kernel_rfl) ?_
                  repeat (go_big_quiet_step (fail))
                  refine wpQuiet_nil ?_
                  rintro w14 ⟨⟨dq, osq⟩, hw''⟩
                  have hb3 : Below wo.heap.size wo w14 := by rw [hw'']; exact hb2.trans ((below_regrown wr dq osq).mono hb2.size)
                  have hstep : Below wr.heap.size wr w14 := by rw [hw'']; exact below_regrown wr dq osq
                  clear hw'' e_c1' e_c2' e_c3' e_q2'
                  clear hstep
                  go_wp2
                  go_roundw
                  case rel => exact ⟨i + 1, by go_num, by omega, by rw [HS2.out] <;> rfl, hb3⟩
                  case measure => simp [intOf]; omega
            · obtain rfl : i = M.length := by omega
              rw [List.take_length, HC.out]
              have hB13 := hB12.trans (hb2.mono hB12.size)
              clear hb2 hB12
              cases inb
              all_goals
                go_wp2_with fail
                refine (wakes08_any _).mono ?_
                rintro e w4 ⟨rfl, hb4⟩
                have hB14 := hB13.trans (hb4.mono hB13.size)
                go_wp2
                go_ret
                exact ⟨rfl, hB14⟩
    · have hck2 : (k : Int) ≠ (c : Int) := by omega
      go_enter Try.func5, Try.ntmps5
      go_wp2_with fail
      refine (merge_any a n c xs _ Hx.out (by omega)).mono ?_
      rintro e w1 ⟨v1, rfl, hown1, hb1⟩
      rw [mrgE_of hr.out.symm]
      rw [mrgR_of hr.out.symm, ← hM.out] at hown1
      have hml : M.length ≤ n := by have := mrgL_len xs; rw [← hM.out, Hl.out] at this; exact this
      go_wp2_with fail
      refine (moved_any a n c xs b m d os _ (Hx.out.below hb1 (Nat.le_refl _)) (Ho.out.below hb1 (Nat.le_refl _)) (by omega)).mono ?_
      rintro e w2 ⟨v2, ys, rfl, hown2, hp, hb2⟩
      obtain ⟨a2, c2, rfl, hrd⟩ := OwnR.reads spnC_len hown2
      have hE : Hid (mrgE ys = 0) := by show _ = _; rw [mrgE_perm hp]; exact mrgE_of hr.out.symm
      have hR : Hid (mrgR ys = M) := by show _ = _; rw [mrgR_perm hp, mrgR_of hr.out.symm, ← hM.out]
      have Hrd := Lib.hid hrd
      have hB2 := hb1.trans (hb2.mono hb1.size)
      have o1 := hown1.below hb2 (Nat.le_refl _)
      clear hown1 hown2 hrd hp hb1 hb2
      go_wp2_with fail
      refine (merge_any a2 n c2 ys _ Hrd.out (by omega)).mono ?_
      rintro e w3 ⟨v3, rfl, hown3, hb3⟩
      rw [hE.out]
      rw [hR.out] at hown3
      have hB3 := hB2.trans (hb3.mono hB2.size)
      have o1' := o1.below hb3 (Nat.le_refl _)
      have o3 := hown3.mono hB2.size
      clear o1 hown3 hb3 hB2 hE hR Hrd
      go_wp2_with fail
      refine (merge_any a k c (xs.take k) _ ((Hx.out.below hB3 (Nat.le_refl _)).takeN (by omega)) (by omega)).mono ?_
      rintro e w4 ⟨v4, rfl, hown4, hb4⟩
      rw [mrgE_of (mayAll_takedrop hr.out.symm k).1]
      rw [mrgR_of (mayAll_takedrop hr.out.symm k).1] at hown4
      obtain ⟨a4, c4, rfl, hrd4⟩ := OwnR.reads spnC_len hown4
      have hl4 : (mrgL (xs.take k)).length ≤ k := by have := mrgL_len (xs.take k); have := List.length_take_le k xs; omega
      have hB4 := hB3.trans (hb4.mono hB3.size)
      have p1 := o1'.below hb4 (Nat.le_refl _)
      have p3 := o3.below hb4 (Nat.le_refl _)
      have Hr4 := Lib.hid hrd4
      obtain ⟨q, hq⟩ : ∃ q, q = (mrgL (xs.take k)).length := ⟨_, rfl⟩
      rw [← hq] at Hr4 hl4 ⊢
      have Hq := Lib.hid hq
      have hs4 := hB4.size
      clear o1' o3 hown4 hb4 hrd4 hB3 hq
      go_wp2_with (first | (at_builtin; refine wpList_appS (f := spnC) (sz := 3) (e := 28) _ spnC_len spnC_one rfl _ _ 22 rfl (.agg #[.int .i64 0, .int .i64 0, .bool false]) 24 Try.underlying22 info_spn rfl (by decide) w4.heap.size _ _ _ (OwnR.nil spnC 3 28 w4.heap.size w4) rfl _ _ _ _ Hr4.out rfl (by omega) (by omega) (Nat.le_refl _) ?_; intro v5 w5 hown5 hb5; rw [Nat.zero_add, List.nil_append] at hown5; obtain ⟨a5, c5, rfl, hrd5⟩ := OwnR.reads spnC_len hown5; have hB5 := hB4.trans (hb5.mono hs4); have hs5 := hB5.size; have hown5' := hown5.mono hs4; have Hx5 := Lib.hid ((Hx.out.below hB5 (Nat.le_refl _)).dropN hkn)) | (at_builtin; refine wpList_appS (f := spnC) (sz := 3) (e := 28) _ spnC_len spnC_one rfl _ _ 22 rfl (.agg #[.int .i64 0, .int .i64 0, .bool false]) 24 Try.underlying22 info_spn rfl (by decide) w4.heap.size _ _ _ hown5 rfl _ _ _ _ Hx5.out rfl (by omega) (by omega) hb5.size ?_; intro v6 w6 hown6 hb6))
      have HL6 : Hid (mrgE (mrgL (xs.take k) ++ xs.drop k) = 0 ∧ mrgR (mrgL (xs.take k) ++ xs.drop k) = M) := by
        have e : xs.drop k = xs.drop k := rfl
        have h := parts_may hr.out.symm k
        show _ ∧ _
        rw [e, mrgE_of h, mrgR_of h, mrgL_parts hr.out.symm k, ← hM.out]
        exact ⟨rfl, rfl⟩
      obtain ⟨a6, c6, rfl, hrd6⟩ := OwnR.reads spnC_len hown6
      have hb46 := hb5.trans hb6
      have hB6 := hB4.trans (hb46.mono hs4)
      have r1 := p1.below hb46 (Nat.le_refl _)
      have r3 := p3.below hb46 (Nat.le_refl _)
      have hN6 : (q + (n - k)) ≤ 200 := by omega
      have Hr6 := Lib.hid hrd6
      clear hb46 hb5 hb6 hown5 hown6 hrd5 hrd6 p1 p3 Hr4 hB4 hB5
      go_wp2_with fail
      refine (merge_any a6 _ c6 _ _ Hr6.out (by omega)).mono ?_
      rintro e w7 ⟨v7, rfl, hown7, hb7⟩
      rw [HL6.out.1]
      rw [HL6.out.2] at hown7
      have hB7 := hB6.trans (hb7.mono hB6.size)
      have s1 := r1.below hb7 (Nat.le_refl _)
      have s3 := r3.below hb7 (Nat.le_refl _)
      have s7 := hown7.mono hB6.size
      obtain ⟨a1, c1, rfl, hrd1⟩ := OwnR.reads spnC_len s1
      have Hr1 := Lib.hid hrd1
      have hMM : Hid (mrgE M = 0 ∧ mrgR M = M) := by
        have h := mrgL_may hr.out.symm
        rw [← hM.out] at h
        refine ⟨mrgE_of h, ?_⟩
        rw [mrgR_of h, hM.out, mrgL_twice hr.out.symm]
      clear r1 r3 hown7 hb7 hB6 Hr6 HL6 hrd1
      go_wp2_with fail
      refine (merge_any a1 _ c1 M _ Hr1.out (by omega)).mono ?_
      rintro e w8 ⟨v8, rfl, hown8, hb8⟩
      rw [hMM.out.1]
      rw [hMM.out.2] at hown8
      have hB8 := hB7.trans (hb8.mono hB7.size)
      have hs8 := hB7.size
      obtain ⟨b1, e1, he1, t1⟩ := OwnR.reads spnC_len (s1.below hb8 (Nat.le_refl _))
      cases he1
      obtain ⟨b3, e3, rfl, t3⟩ := OwnR.reads spnC_len (s3.below hb8 (Nat.le_refl _))
      obtain ⟨b7, e7, rfl, t7⟩ := OwnR.reads spnC_len (s7.below hb8 (Nat.le_refl _))
      obtain ⟨b8, e8, rfl, t8⟩ := OwnR.reads spnC_len hown8
      have T1 := Lib.hid t1
      have T3 := Lib.hid t3
      have T7 := Lib.hid t7
      have T8 := Lib.hid t8
      have hcle := t1.le
      have hcmx := t1.max
      clear s1 s3 s7 hown8 hb8 hB7 t1 t3 t7 t8 Hr1 hMM
      go_wp2_with fail
      refine (same_self _ _ _ _ _ M _ T1.out T3.out).mono ?_
      rintro e w9 ⟨rfl, hb9⟩
      have T1' : Hid (SlSp w9 a1 M.length c1 M) := T1.out.below hb9 (Nat.le_refl _)
      have T7' : Hid (SlSp w9 b7 M.length e7 M) := T7.out.below hb9 (Nat.le_refl _)
      have T8' : Hid (SlSp w9 b8 M.length e8 M) := T8.out.below hb9 (Nat.le_refl _)
      have hB9 := hB8.trans (hb9.mono hB8.size)
      clear T1 T3 T7 T8 hb9 hB8
      go_wp2_with fail
      refine (same_self _ _ _ _ _ M _ T1'.out T7'.out).mono ?_
      rintro e w10 ⟨rfl, hb10⟩
      have T1 : Hid (SlSp w10 a1 M.length c1 M) := T1'.out.below hb10 (Nat.le_refl _)
      have T8 : Hid (SlSp w10 b8 M.length e8 M) := T8'.out.below hb10 (Nat.le_refl _)
      have hB10 := hB9.trans (hb10.mono hB9.size)
      clear T1' T7' T8' hb10 hB9
      go_wp2_with fail
      refine (same_self _ _ _ _ _ M _ T1.out T8.out).mono ?_
      rintro e w11 ⟨rfl, hb11⟩
      have T9 : Hid (SlSp w11 a1 M.length c1 M) := T1.out.below hb11 (Nat.le_refl _)
      have hB11 := hB10.trans (hb11.mono hB10.size)
      have Hx11 : Hid (SlSp w11 a n c xs) := Hx.out.below hB11 (Nat.le_refl _)
      clear T1 T8 hb11 hB10
      go_wp2_with fail
      go_loopw [21, 23] (fun s i wr => ∃ j : Nat, i = .int .i64 j ∧ j ≤ n ∧ s = .bool ((xs.take j).any (inAt y)) ∧ Below w11.heap.size w11 wr) (fun _ i _ => n - (intOf i).toNat)
      case atStart => exact ⟨0, rfl, Nat.zero_le _, rfl, Below.refl _ _⟩
      case round =>
        obtain ⟨j, rfl, hj, rfl, hb2⟩ := hrel
        by_cases hjn : j < n
        · obtain ⟨bx, ox, hax, hbl, hc⟩ := (Hx11.out.below hb2 (Nat.le_refl _)).at0 (by omega)
          obtain ⟨x, hxj⟩ : ∃ x, xs[j]? = some x := ⟨_, List.getElem?_eq_getElem (by rw [Hl.out]; exact hjn)⟩
          obtain ⟨c1', c2', c3'⟩ := SlSp.cells hc hxj
          have hs1 := any_succ hxj y
          obtain ⟨xlo, xhi, xwk⟩ := x
          clear hc hxj
          simp only at c1' c2' c3' hs1
          cases hax
          generalize (xs.take j).any (inAt y) = s at hs1 ⊢
          cases s with
          | true =>
            have HS2 : Hid ((xs.take (j + 1)).any (inAt y) = true) := by show _ = _; rw [hs1]; rfl
            clear hs1
            go_wp2
            go_roundw
            case rel => exact ⟨j + 1, by go_num, by omega, by rw [HS2.out], hb2⟩
            case measure => simp [intOf]; omega
          | false =>
            by_cases h1 : xlo ≤ y
            · by_cases h2 : y ≤ xhi
              · have HS2 : Hid ((xs.take (j + 1)).any (inAt y) = true) := by show _ = _; rw [hs1]; simp [h1, h2]
                clear hs1
                go_wp2
                go_roundw
                case rel => exact ⟨j + 1, by go_num, by omega, by rw [HS2.out], hb2⟩
                case measure => simp [intOf]; omega
              · have HS2 : Hid ((xs.take (j + 1)).any (inAt y) = false) := by show _ = _; rw [hs1]; simp [h2]
                clear hs1
                go_wp2
                go_roundw
                case rel => exact ⟨j + 1, by go_num, by omega, by rw [HS2.out], hb2⟩
                case measure => simp [intOf]; omega
            · have HS2 : Hid ((xs.take (j + 1)).any (inAt y) = false) := by show _ = _; rw [hs1]; simp [h1]
              clear hs1
              go_wp2
              go_roundw
              case rel => exact ⟨j + 1, by go_num, by omega, by rw [HS2.out], hb2⟩
              case measure => simp [intOf]; omega
        · obtain rfl : j = n := by omega
          have HTk : Hid (xs.take j = xs) := List.take_of_length_le (by rw [Hl.out]; exact Nat.le_refl _)
          rw [HTk.out]
          have hB12 := hB11.trans (hb2.mono hB11.size)
          have T10 : Hid (SlSp wr a1 M.length c1 M) := T9.out.below hb2 (Nat.le_refl _)
          have HC : Hid (M.countP (inAt y) = if xs.any (inAt y) then 1 else 0) := by show _ = _; rw [hM.out]; exact height_ok hr.out.symm y
          have HSep : Hid (M.Pairwise (fun a b => a.hi < b.lo)) := by show List.Pairwise _ _; rw [hM.out]; exact (mrgL_mrg (mayAll_ups hr.out.symm)).sep
          generalize xs.any (inAt y) = inb at HC ⊢
          obtain ⟨wo, hwo⟩ : ∃ wo, wo = wr := ⟨_, rfl⟩
          subst hwo
          clear T9 hB11 HTk hb2
          go_wp2_with fail
          go_loopw [22, 24] (fun s i wr => ∃ j : Nat, i = .int .i64 j ∧ j ≤ M.length ∧ s = .int .i64 ((M.take j).countP (inAt y) : Nat) ∧ Below wo.heap.size wo wr) (fun _ i _ => M.length - (intOf i).toNat)
          case atStart => exact ⟨0, rfl, Nat.zero_le _, rfl, Below.refl _ _⟩
          case round =>
            obtain ⟨i, rfl, hi, rfl, hb2⟩ := hrel
            by_cases him : i < M.length
            · obtain ⟨bx, ox, hax, hbl, hc⟩ := (T10.out.below hb2 (Nat.le_refl _)).at0 (by omega)
              obtain ⟨x, hxi⟩ : ∃ x, M[i]? = some x := ⟨_, List.getElem?_eq_getElem him⟩
              obtain ⟨c1', c2', c3'⟩ := SlSp.cells hc hxi
              have hs1 := count_succ hxi y
              have hcl := count_le_take M i y
              generalize (M.take i).countP (inAt y) = s at hs1 hcl ⊢
              by_cases hi0 : i = 0
              · subst hi0
                obtain ⟨xlo, xhi, xwk⟩ := x
                clear hc hxi
                simp only [Nat.zero_mul, Nat.add_zero] at c1' c2' c3' hs1
                cases hax
                by_cases h1 : xlo ≤ y
                · by_cases h2 : y ≤ xhi
                  · have HS2 : Hid ((M.take (0 + 1)).countP (inAt y) = s + 1) := by show _ = _; rw [hs1]; simp [h1, h2]
                    clear hs1
                    go_wp2
                    have e_c1' := fun d os => cell_regrown c1' d os
                    have e_c2' := fun d os => cell_regrown c2' d os
                    have e_c3' := fun d os => cell_regrown c3' d os
                    clear c1' c2' c3'
                    refine wp_region_quiet_below (by kernel_rfl) (by kernel_rfl) ?_
                    repeat (go_big_quiet_step (fail))
                    refine wpQuiet_nil ?_
                    rintro w14 ⟨⟨dq, osq⟩, hw''⟩
                    have hb3 : Below wo.heap.size wo w14 := by rw [hw'']; exact hb2.trans ((below_regrown wr dq osq).mono hb2.size)
                    have hstep : Below wr.heap.size wr w14 := by rw [hw'']; exact below_regrown wr dq osq
                    clear hw'' e_c1' e_c2' e_c3'
                    clear hstep
                    go_wp2
                    go_roundw
                    case rel => exact ⟨0 + 1, by go_num, by omega, by rw [HS2.out] <;> rfl, hb3⟩
                    case measure => simp [intOf]; omega
                  · have HS2 : Hid ((M.take (0 + 1)).countP (inAt y) = s) := by show _ = _; rw [hs1]; simp [h2]
                    clear hs1
                    go_wp2
                    have e_c1' := fun d os => cell_regrown c1' d os
                    have e_c2' := fun d os => cell_regrown c2' d os
                    have e_c3' := fun d os => cell_regrown c3' d os
                    clear c1' c2' c3'
                    refine wp_region_quiet_below (by kernel_rfl) (by kernel_rfl) ?_
                    repeat (go_big_quiet_step (fail))
                    refine wpQuiet_nil ?_
                    rintro w14 ⟨⟨dq, osq⟩, hw''⟩
                    have hb3 : Below wo.heap.size wo w14 := by rw [hw'']; exact hb2.trans ((below_regrown wr dq osq).mono hb2.size)
                    have hstep : Below wr.heap.size wr w14 := by rw [hw'']; exact below_regrown wr dq osq
                    clear hw'' e_c1' e_c2' e_c3'
                    clear hstep
                    go_wp2
                    go_roundw
                    case rel => exact ⟨0 + 1, by go_num, by omega, by rw [HS2.out] <;> rfl, hb3⟩
                    case measure => simp [intOf]; omega
                · have HS2 : Hid ((M.take (0 + 1)).countP (inAt y) = s) := by show _ = _; rw [hs1]; simp [h1]
                  clear hs1
                  go_wp2
                  have e_c1' := fun d os => cell_regrown c1' d os
                  have e_c2' := fun d os => cell_regrown c2' d os
                  have e_c3' := fun d os => cell_regrown c3' d os
                  clear c1' c2' c3'
                  refine wp_region_quiet_below (by kernel_rfl) (by kernel_rfl) ?_
                  repeat (go_big_quiet_step (fail))
                  refine wpQuiet_nil ?_
                  rintro w14 ⟨⟨dq, osq⟩, hw''⟩
                  have hb3 : Below wo.heap.size wo w14 := by rw [hw'']; exact hb2.trans ((below_regrown wr dq osq).mono hb2.size)
                  have hstep : Below wr.heap.size wr w14 := by rw [hw'']; exact below_regrown wr dq osq
                  clear hw'' e_c1' e_c2' e_c3'
                  clear hstep
                  go_wp2
                  go_roundw
                  case rel => exact ⟨0 + 1, by go_num, by omega, by rw [HS2.out] <;> rfl, hb3⟩
                  case measure => simp [intOf]; omega
              · obtain ⟨p, hpi⟩ : ∃ p, M[i - 1]? = some p := ⟨_, List.getElem?_eq_getElem (by omega)⟩
                obtain ⟨_, q2', _⟩ := SlSp.cells hc hpi
                have hsp := sep_at HSep.out (by omega) hxi hpi
                have hi1 : 0 < i := by omega
                obtain ⟨xlo, xhi, xwk⟩ := x
                obtain ⟨plo, phi, pwk⟩ := p
                clear hc hxi hpi
                simp only at c1' c2' c3' hs1 q2' hsp
                cases hax
                by_cases h1 : xlo ≤ y
                · by_cases h2 : y ≤ xhi
                  · have HS2 : Hid ((M.take (i + 1)).countP (inAt y) = s + 1) := by show _ = _; rw [hs1]; simp [h1, h2]
                    clear hs1
                    go_wp2
                    have e_c1' := fun d os => cell_regrown c1' d os
                    have e_c2' := fun d os => cell_regrown c2' d os
                    have e_c3' := fun d os => cell_regrown c3' d os
                    have e_q2' := fun d os => cell_regrown q2' d os
                    clear c1' c2' c3' q2'
                    refine wp_region_quiet_below (by kernel_rfl) (by kernel_rfl) ?_
                    repeat (go_big_quiet_step (fail))
                    refine wpQuiet_nil ?_
                    rintro w14 ⟨⟨dq, osq⟩, hw''⟩
                    have hb3 : Below wo.heap.size wo w14 := by rw [hw'']; exact hb2.trans ((below_regrown wr dq osq).mono hb2.size)
                    have hstep : Below wr.heap.size wr w14 := by rw [hw'']; exact below_regrown wr dq osq
                    clear hw'' e_c1' e_c2' e_c3' e_q2'
                    clear hstep
                    go_wp2
                    go_roundw
                    case rel => exact ⟨i + 1, by go_num, by omega, by rw [HS2.out] <;> rfl, hb3⟩
                    case measure => simp [intOf]; omega
                  · have HS2 : Hid ((M.take (i + 1)).countP (inAt y) = s) := by show _ = _; rw [hs1]; simp [h2]
                    clear hs1
                    go_wp2
                    have e_c1' := fun d os => cell_regrown c1' d os
                    have e_c2' := fun d os => cell_regrown c2' d os
                    have e_c3' := fun d os => cell_regrown c3' d os
                    have e_q2' := fun d os => cell_regrown q2' d os
                    clear c1' c2' c3' q2'
                    refine wp_region_quiet_below (by kernel_rfl) (by kernel_rfl) ?_
                    repeat (go_big_quiet_step (fail))
                    refine wpQuiet_nil ?_
                    rintro w14 ⟨⟨dq, osq⟩, hw''⟩
                    have hb3 : Below wo.heap.size wo w14 := by rw [hw'']; exact hb2.trans ((below_regrown wr dq osq).mono hb2.size)
                    have hstep : Below wr.heap.size wr w14 := by rw [hw'']; exact below_regrown wr dq osq
                    clear hw'' e_c1' e_c2' e_c3' e_q2'
                    clear hstep
                    go_wp2
                    go_roundw
                    case rel => exact ⟨i + 1, by go_num, by omega, by rw [HS2.out] <;> rfl, hb3⟩
                    case measure => simp [intOf]; omega
                · have HS2 : Hid ((M.take (i + 1)).countP (inAt y) = s) := by show _ = _; rw [hs1]; simp [h1]
                  clear hs1
                  go_wp2
                  have e_c1' := fun d os => cell_regrown c1' d os
                  have e_c2' := fun d os => cell_regrown c2' d os
                  have e_c3' := fun d os => cell_regrown c3' d os
                  have e_q2' := fun d os => cell_regrown q2' d os
                  clear c1' c2' c3' q2'
                  refine wp_region_quiet_below (by kernel_rfl) (by kernel_rfl) ?_
                  repeat (go_big_quiet_step (fail))
                  refine wpQuiet_nil ?_
                  rintro w14 ⟨⟨dq, osq⟩, hw''⟩
                  have hb3 : Below wo.heap.size wo w14 := by rw [hw'']; exact hb2.trans ((below_regrown wr dq osq).mono hb2.size)
                  have hstep : Below wr.heap.size wr w14 := by rw [hw'']; exact below_regrown wr dq osq
                  clear hw'' e_c1' e_c2' e_c3' e_q2'
                  clear hstep
                  go_wp2
                  go_roundw
                  case rel => exact ⟨i + 1, by go_num, by omega, by rw [HS2.out] <;> rfl, hb3⟩
                  case measure => simp [intOf]; omega
            · obtain rfl : i = M.length := by omega
              rw [List.take_length, HC.out]
              have hB13 := hB12.trans (hb2.mono hB12.size)
              clear hb2 hB12
              cases inb
              all_goals
                go_wp2_with fail
                refine (wakes08_any _).mono ?_
                rintro e w4 ⟨rfl, hb4⟩
                have hB14 := hB13.trans (hb4.mono hB13.size)
                go_wp2
                go_ret
                exact ⟨rfl, hB14⟩

end Go.Proofs.Ytndjljefppbmcaa
