/- Walk: the law 'a part is the grid of that part'. -/
import Derived.Test.YtdkikecjlbgmdaaGreatHg
import Derived.Test.YtdkikecjlbgmdaaGreatHd
import Derived.Test.YtdkikecjlbgmdaaGreatRaE
import Derived.Test.YtdkikecjlbgmdaaGreatHc
namespace Go.Proofs.YtdkikecjlbgmdaaGreat
open Go.RowKit
attribute [local go_sem] Instr.index

theorem build_ok2 (cf : Cfg) (a : Option Addr) (n c : Nat) (xs : List Tr) (x z bw bd : Int) (L : List (List Spn)) (w : World) (hx : SlTr w a n c xs) (hr : boxR cf xs x z bw bd = (L, 0)) (hl : L.length ≤ 4096) :
    Calls Tryz.prog 15 #[cfgV cf, .slice a n c, .int .i64 x, .int .i64 z, .int .i64 bw, .int .i64 bd] w fun e w' => ∃ sv, e = .returned (.tuple #[grdV x z bw bd sv, .int .i64 0]) ∧ OwnRR flrC 3 43 w.heap.size w' sv (L.map (flrs cf)) ∧ Below w.heap.size w w' := by
  have h := build_ok cf a n c xs x z bw bd w hx (by rw [hr]) (by rw [hr]; exact hl)
  rw [hr] at h
  exact h
set_option maxRecDepth 100000 in
set_option maxHeartbeats 16000000 in
theorem openparts_any (cf : Cfg) (a : Option Addr) (n c : Nat) (xs : List Tr) (x z bw bd left top less : Int) (w : World) (hx : SlTr w a n c xs) :
    Calls Tryz.prog 5 #[cfgV cf, .slice a n c, .int .i64 x, .int .i64 z, .int .i64 bw, .int .i64 bd, .int .i64 left, .int .i64 top, .int .i64 less] w fun e w' => e = .returned (.bool true) ∧ Below w.heap.size w w' := by
  have WK := Lib.hid (fun W => wakes11_any W)
  have hC := World.alloc_heap_new w (cfgO cf)
  have hB : Below w.heap.size w (w.alloc (cfgO cf)) := (Below.refl _ _).alloc (Nat.le_refl _) _
  have hX := hx.alloc (cfgO cf)
  clear hx
  have GR := Lib.hid (fun W => great09_any a n c W)
  by_cases h40 : 40 < n
  · have hd : decide ((40 : Int) < (n : Int)) = true := decide_eq_true (by omega)
    rw [hd] at GR
    clear hd
    obtain ⟨cl, climb, height, rise, run, cw, cd⟩ := cf
    dsimp only [cfgO, cfgV] at hC hB hX ⊢
    go_enter Tryz.func5, Tryz.ntmps5
    go_wp2_with fail
    refine (GR.out _).mono ?_
    rintro e w1 ⟨rfl, rfl⟩
    go_wp2_with fail
    refine (WK.out _).mono ?_
    rintro e w9 ⟨rfl, hb9⟩
    have hB9 := hB.trans (hb9.mono hB.size)
    go_wp2
    go_ret
    exact ⟨rfl, hB9⟩
  have hd : decide ((40 : Int) < (n : Int)) = false := decide_eq_false (by omega)
  rw [hd] at GR
  clear hd
  by_cases h12 : 12 < bw
  · clear h40
    obtain ⟨cl, climb, height, rise, run, cw, cd⟩ := cf
    dsimp only [cfgO, cfgV] at hC hB hX ⊢
    go_enter Tryz.func5, Tryz.ntmps5
    go_wp2_with fail
    refine (GR.out _).mono ?_
    rintro e w1 ⟨rfl, rfl⟩
    go_wp2_with fail
    refine (WK.out _).mono ?_
    rintro e w9 ⟨rfl, hb9⟩
    have hB9 := hB.trans (hb9.mono hB.size)
    go_wp2
    go_ret
    exact ⟨rfl, hB9⟩
  by_cases h13 : 12 < bd
  · clear h40
    obtain ⟨cl, climb, height, rise, run, cw, cd⟩ := cf
    dsimp only [cfgO, cfgV] at hC hB hX ⊢
    go_enter Tryz.func5, Tryz.ntmps5
    go_wp2_with fail
    refine (GR.out _).mono ?_
    rintro e w1 ⟨rfl, rfl⟩
    go_wp2_with fail
    refine (WK.out _).mono ?_
    rintro e w9 ⟨rfl, hb9⟩
    have hB9 := hB.trans (hb9.mono hB.size)
    go_wp2
    go_ret
    exact ⟨rfl, hB9⟩
  by_cases he : (boxR cf xs x z bw bd).2 = 0
  rotate_left
  · have BE := Lib.hid (fun W hW => build_err cf a n c xs x z bw bd W hW he)
    generalize (boxR cf xs x z bw bd).2 = er at BE he
    have he' : (er != 0) = true := by simpa using he
    clear h40
    obtain ⟨cl, climb, height, rise, run, cw, cd⟩ := cf
    dsimp only [cfgO, cfgV, grdV] at hC hB hX BE ⊢
    go_enter Tryz.func5, Tryz.ntmps5
    go_wp2_with fail
    refine (GR.out _).mono ?_
    rintro e w1 ⟨rfl, rfl⟩
    go_wp2_with fail
    refine (BE.out _ hX).mono ?_
    rintro e w2 ⟨rfl, hb2⟩
    have hB2 := hB.trans (hb2.mono hB.size)
    have hB3 := hB2.alloc hB2.size (.cells #[.int .i64 0, .int .i64 0, .int .i64 0, .int .i64 0, .slice none 0 0] 48)
    clear hC hB hX hb2 hB2 BE
    go_wp2_with fail
    refine (WK.out _).mono ?_
    rintro e w9 ⟨rfl, hb9⟩
    have hB9 := hB3.trans (hb9.mono hB3.size)
    go_wp2
    go_ret
    exact ⟨rfl, hB9⟩
  obtain ⟨hmay, hin, hcols, hbox⟩ := boxR_zero he
  obtain ⟨i1, i2, i3, i4, i5, i6, i7, i8⟩ := inBox_iff.1 hin
  obtain ⟨nw, rfl⟩ := Int.eq_ofNat_of_zero_le i5
  obtain ⟨nd, rfl⟩ := Int.eq_ofNat_of_zero_le i6
  rw [Int.toNat_natCast, Int.toNat_natCast] at hcols hbox
  have hmul : nw * nd ≤ 144 := Nat.mul_le_mul (show nw ≤ 12 by omega) (show nd ≤ 12 by omega)
  have hrl : (boxR cf xs x z nw nd).1.length = nw * nd := by rw [hbox]; exact colsTo_len _ _ _ _ _ _
  have BO := Lib.hid (fun W hW => build_ok cf a n c xs x z nw nd W hW he (by rw [hrl]; omega))
  rw [hbox] at BO
  have HCH := Lib.hid (fun (a' : Option Addr) (c' : Nat) (hs : List Hd) (W : World) (hW : SlRR flrC 3 W a' (nw * nd) c' hs ((colsTo cf xs x z nw (nw * nd)).map (flrs cf))) => ocheck_any cf x z nw nd a' (nw * nd) c' hs _ W hW (fun r hr => by obtain ⟨l, _, rfl⟩ := List.mem_map.1 hr; exact flrs_good cf l) hin rfl)
  have HGD : Hid (∀ (i : Nat) (r : List Flr), ((colsTo cf xs x z nw (nw * nd)).map (flrs cf))[i]? = some r → FlrsGood cf r) := fun i r hr => by obtain ⟨l, _, rfl⟩ := List.mem_map.1 (List.mem_of_getElem? hr); exact flrs_good cf l
  have HLN : Hid (((colsTo cf xs x z nw (nw * nd)).map (flrs cf)).length = nw * nd) := by show _ = _; rw [List.length_map]; exact colsTo_len _ _ _ _ _ _
  have HPART := Lib.hid (fun (l t w' d' : Nat) (hw : l + w' ≤ nw) (hd : t + d' ≤ nd) (hxl : x + (l : Int) ≤ 64) (hzt : z + (t : Int) ≤ 64) =>
    show boxR cf xs (x + (l : Int)) (z + (t : Int)) w' d' = (colsTo cf xs (x + (l : Int)) (z + (t : Int)) w' (w' * d'), 0) from
      boxR_ok hmay (inBox_iff.2 ⟨by omega, by omega, hxl, hzt, by omega, by omega, by omega, by omega⟩) (part_ok hw hd hcols))
  have HBO2 := Lib.hid (fun (X Z : Int) (w' d' : Nat) (hr : boxR cf xs X Z w' d' = (colsTo cf xs X Z w' (w' * d'), 0)) (hl : w' * d' ≤ 4096) (W : World) hW =>
    build_ok2 cf a n c xs X Z w' d' (colsTo cf xs X Z w' (w' * d')) W hW hr (by rw [colsTo_len]; exact hl))
  have HROW := Lib.hid (fun (l t w' d' k i : Nat) (hw : l + w' ≤ nw) (hd : t + d' ≤ nd) (hk : k < d') (hi : i < w') =>
    (show ∃ r, ((colsTo cf xs (x + (l : Int)) (z + (t : Int)) w' (w' * d')).map (flrs cf))[k * w' + i]? = some r ∧ ((colsTo cf xs x z nw (nw * nd)).map (flrs cf))[(k + t) * nw + (i + l)]? = some r ∧ k * w' + i < w' * d' ∧ (k + t) * nw + (i + l) < nw * nd from by
      have h1 : (k + 1) * w' ≤ d' * w' := Nat.mul_le_mul_right _ hk
      have h2 : (k + t + 1) * nw ≤ nd * nw := Nat.mul_le_mul_right _ (by omega)
      rw [Nat.succ_mul] at h1 h2
      rw [Nat.mul_comm d' w'] at h1
      rw [Nat.mul_comm nd nw] at h2
      refine ⟨flrs cf (colOf cf xs x z nw ((k + t) * nw + (i + l))).1, ?_, ?_, by omega, by omega⟩
      · rw [List.getElem?_map, colsTo_at (by omega), part_at hi hw]
        rfl
      · rw [List.getElem?_map, colsTo_at (by omega)]
        rfl))
  obtain ⟨rows, hrows⟩ : ∃ rows, rows = (colsTo cf xs x z nw (nw * nd)).map (flrs cf) := ⟨_, rfl⟩
  rw [← hrows] at BO HCH HGD HLN HROW
  clear hrows hbox hcols hmay hin hrl he h40
  obtain ⟨RS, hRS⟩ : ∃ RS : Int → Int → Nat → Nat → List (List Flr), ∀ X Z w' d', RS X Z w' d' = (colsTo cf xs X Z w' (w' * d')).map (flrs cf) := ⟨_, fun _ _ _ _ => rfl⟩
  have HRSL : Hid (∀ X Z w' d', (RS X Z w' d').length = w' * d') := fun X Z w' d' => by rw [hRS, List.length_map]; exact colsTo_len _ _ _ _ _ _
  have HBB := Lib.hid (fun (l t w' d' : Nat) (hw : l + w' ≤ nw) (hd : t + d' ≤ nd) (hxl : x + (l : Int) ≤ 64) (hzt : z + (t : Int) ≤ 64) (hl : w' * d' ≤ 4096) (W : World) (hW : SlTr W a n c xs) => HBO2.out (x + (l : Int)) (z + (t : Int)) w' d' (HPART.out l t w' d' hw hd hxl hzt) hl W hW)
  simp only [← hRS] at HBB HROW
  clear hRS HBO2 HPART
  obtain ⟨N, hN⟩ : ∃ N, N = nw * nd := ⟨_, rfl⟩
  have hNc : (nw : Int) * (nd : Int) = (N : Int) := by rw [hN]; simp
  rw [← hN] at HCH HLN hmul HROW
  have hNw : IntKind.i64.wrap (N : Int) = (N : Int) := by rw [IntKind.wrap_i64]; omega
  clear hN
  have h12' : ¬ 12 < (nw : Int) := h12
  have h13' : ¬ 12 < (nd : Int) := h13
  have hh0 := Lib.hid (fun (i : Nat) (r : List Flr) (h : rows[i]? = some r) => (HGD.out i r h).each)
  clear HGD i5 i6
  obtain ⟨cl, climb, height, rise, run, cw, cd⟩ := cf
  dsimp only [cfgO, cfgV, grdV] at hC hB hX BO HCH HBB hh0 ⊢
  go_enter Tryz.func5, Tryz.ntmps5
  go_wp2_with fail
  refine (GR.out _).mono ?_
  rintro e w1 ⟨rfl, rfl⟩
  go_wp2_with fail
  refine (BO.out _ hX).mono ?_
  rintro e w2 ⟨sv, rfl, hsv, hb2⟩
  have hB2 := hB.trans (hb2.mono hB.size)
  have hC2 := hkeep hb2 hC
  have hX2 := hX.below hb2 (Nat.le_refl _)
  obtain ⟨sa, sc, hs, hsv2, hrr⟩ := hsv.reads
  subst hsv2
  rw [HLN.out] at hrr ⊢
  have hC3 := halloc hC2 (.cells #[.int .i64 x, .int .i64 z, .int .i64 nw, .int .i64 nd, .slice sa N sc] 48)
  have hg3 := World.alloc_heap_new w2 (.cells #[.int .i64 x, .int .i64 z, .int .i64 nw, .int .i64 nd, .slice sa N sc] 48)
  have hX3 := hX2.alloc (.cells #[.int .i64 x, .int .i64 z, .int .i64 nw, .int .i64 nd, .slice sa N sc] 48)
  have hrr3 := hrr.below ((Below.refl w2.heap.size w2).alloc (Nat.le_refl _) (.cells #[.int .i64 x, .int .i64 z, .int .i64 nw, .int .i64 nd, .slice sa N sc] 48)) (Nat.le_refl _)
  have hB3 := hB2.alloc hB2.size (.cells #[.int .i64 x, .int .i64 z, .int .i64 nw, .int .i64 nd, .slice sa N sc] 48)
  clear hC hB hX hb2 hC2 hX2 hsv hrr hB2 BO GR
  go_wp2_with fail
  refine (HCH.out sa sc hs _ hrr3).mono ?_
  rintro e w4 ⟨rfl, hb4⟩
  have hC4 := hkeep hb4 hC3
  have hg4 := hkeep hb4 hg3
  have hX4 := hX3.below hb4 (Nat.le_refl _)
  have HRR := Lib.hid (hrr3.below hb4 (Nat.le_refl _))
  have hB4 := hB3.trans (hb4.mono hB3.size)
  clear hC3 hg3 hX3 hrr3 hb4 hB3 HCH
  obtain ⟨T, hTT⟩ : ∃ T, T = w.heap.size := ⟨_, rfl⟩
  rw [← hTT] at hC4
  have HTT := Lib.hid hTT
  clear hTT
  rw [← HTT.out]
  obtain ⟨G, hGG⟩ : ∃ G, G = w2.heap.size := ⟨_, rfl⟩
  rw [← hGG] at hg4 ⊢
  clear hGG
  have HX4 := Lib.hid hX4
  clear hX4
  have hNm : N ≤ 144 := hmul
  have hsm := HRR.out.out.max
  have hsle := HRR.out.out.le
  have zg := hcell (k := 4) (v := .slice sa N sc) hg4 rfl
  go_wp2
  clear zg
  go_loopw [73] (fun s73 wr => ∃ i : Nat, s73 = .int .i64 i ∧ i ≤ N ∧ Below w4.heap.size w4 wr) (fun s73 _ => N - (intOf s73).toNat)
  case atStart => exact ⟨0, rfl, Nat.zero_le _, Below.refl _ _⟩
  case round =>
    obtain ⟨i, rfl, hi, hbr⟩ := hrel
    by_cases hlt : i < N
    · have hltI : (i : Int) < (N : Int) := by omega
      obtain ⟨r, hr⟩ : ∃ r, rows[i]? = some r := ⟨_, List.getElem?_eq_getElem (by rw [HLN.out]; exact hlt)⟩
      have FE := Lib.hid (hh0.out i r hr)
      have hxr := HRR.out.below hbr (Nat.le_refl _)
      obtain ⟨bk, off, rfl, hbl, _⟩ := hxr.out.at0 (by omega)
      obtain ⟨⟨ha, hn, hc⟩, hcell5, hsl⟩ := hxr.at hr
      dsimp only at hcell5 hsl
      have hsl2 := Lib.hid hsl
      have hrl := hsl.len
      have hrm := hsl.max
      have hrle := hsl.le
      have hgr := hkeep hbr hg4
      have zg := hcell (k := 4) (v := .slice (some ⟨bk, off, none⟩) N sc) hgr rfl
      clear hxr hsl hr hgr
      go_wp2
      clear zg hcell5
      go_loopw [82] (fun s82 wq => ∃ j : Nat, s82 = .int .i64 j ∧ j ≤ hn ∧ Below wr.heap.size wr wq) (fun s82 _ => hn - (intOf s82).toNat)
      case atStart => exact ⟨0, rfl, Nat.zero_le _, Below.refl _ _⟩
      case round =>
        obtain ⟨j, rfl, hj, hbq⟩ := hrel
        by_cases hjlt : j < hn
        · have hjI : (j : Int) < (hn : Int) := by omega
          obtain ⟨f, hf⟩ : ∃ f, r[j]? = some f := ⟨_, List.getElem?_eq_getElem (by rw [hrl]; exact hjlt)⟩
          obtain ⟨b3, off3, rfl, _, hc3⟩ := (hsl2.out.below hbq (Nat.le_refl _)).at0 (by omega)
          obtain ⟨q0, q1, q2⟩ := SlFlr.cells hc3 hf
          obtain ⟨f1, f2, f3, f4, f5, f6⟩ := FE.out j f hf
          have hC6 := hkeep hbq (hkeep hbr hC4)
          have zc := hcell (k := 2) (v := .int .i64 height) hC6 rfl
          have hTl := hblt hC6
          clear hc3 hf hC6 hsl2 FE
          obtain ⟨fy, ft, fa⟩ := f
          dsimp only at q0 q1 q2 f1 f2 f3 f4 f5 f6
          subst f5
          have hfw : IntKind.i64.wrap (ft - fy) = ft - fy := by rw [IntKind.wrap_i64]; omega
          have hfh : ¬ ft - fy < height := by omega
          have hbA := hbq.alloc hbq.size (.cells #[.int .i64 fy, .int .i64 ft, .int .i64 1] 56)
          clear f1 f2 f3 f4 f6
          go_wp2
          go_roundw
          case rel => first | exact ⟨j + 1, by go_num, by omega, hbA⟩ | ((repeat apply Exists.intro); refine ⟨⟨j + 1, by go_num, by omega, hbA⟩, ?_⟩; (repeat' apply And.intro) <;> rfl)
          case measure => simp [intOf]; omega
        · obtain rfl : j = hn := by omega
          have hbb := hbr.trans (hbq.mono hbr.size)
          go_wp2
          go_roundw
          case rel => first | exact ⟨i + 1, by go_num, by omega, hbb⟩ | ((repeat apply Exists.intro); refine ⟨⟨i + 1, by go_num, by omega, hbb⟩, ?_⟩; (repeat' apply And.intro) <;> rfl)
          case measure => simp [intOf]; omega
    · obtain rfl : N = i := by omega
      have hBL := hB4.trans (hbr.mono hB4.size)
      have hC5 := hkeep hbr hC4
      have hg5 := hkeep hbr hg4
      have HR5 := Lib.hid (HRR.out.below hbr (Nat.le_refl _))
      have HX5 := Lib.hid (HX4.out.below hbr (Nat.le_refl _))
      clear HRR HX4 hC4 hg4 hB4 hbr hh0
      by_cases g1 : left < 0
      · clear HBB HR5 HX5 HROW HRSL
        go_wp2_with fail
        refine (WK.out _).mono ?_
        rintro e w9 ⟨rfl, hb9⟩
        have hB9 := hBL.trans (hb9.mono hBL.size)
        go_wp2
        go_ret
        exact ⟨rfl, hB9⟩
      by_cases g2 : (nw : Int) < left
      · clear HBB HR5 HX5 HROW HRSL
        go_wp2_with fail
        refine (WK.out _).mono ?_
        rintro e w9 ⟨rfl, hb9⟩
        have hB9 := hBL.trans (hb9.mono hBL.size)
        go_wp2
        go_ret
        exact ⟨rfl, hB9⟩
      by_cases g3 : top < 0
      · clear HBB HR5 HX5 HROW HRSL
        go_wp2_with fail
        refine (WK.out _).mono ?_
        rintro e w9 ⟨rfl, hb9⟩
        have hB9 := hBL.trans (hb9.mono hBL.size)
        go_wp2
        go_ret
        exact ⟨rfl, hB9⟩
      by_cases g4 : (nd : Int) < top
      · clear HBB HR5 HX5 HROW HRSL
        go_wp2_with fail
        refine (WK.out _).mono ?_
        rintro e w9 ⟨rfl, hb9⟩
        have hB9 := hBL.trans (hb9.mono hBL.size)
        go_wp2
        go_ret
        exact ⟨rfl, hB9⟩
      by_cases g5 : less < 0
      · clear HBB HR5 HX5 HROW HRSL
        go_wp2_with fail
        refine (WK.out _).mono ?_
        rintro e w9 ⟨rfl, hb9⟩
        have hB9 := hBL.trans (hb9.mono hBL.size)
        go_wp2
        go_ret
        exact ⟨rfl, hB9⟩
      have wa : IntKind.i64.wrap ((nw : Int) - left) = (nw : Int) - left := by rw [IntKind.wrap_i64]; omega
      by_cases g6 : (nw : Int) - left < less
      · clear HBB HR5 HX5 HROW HRSL
        go_wp2_with fail
        refine (WK.out _).mono ?_
        rintro e w9 ⟨rfl, hb9⟩
        have hB9 := hBL.trans (hb9.mono hBL.size)
        go_wp2
        go_ret
        exact ⟨rfl, hB9⟩
      have wb : IntKind.i64.wrap ((nd : Int) - top) = (nd : Int) - top := by rw [IntKind.wrap_i64]; omega
      by_cases g7 : (nd : Int) - top < less
      · clear HBB HR5 HX5 HROW HRSL
        go_wp2_with fail
        refine (WK.out _).mono ?_
        rintro e w9 ⟨rfl, hb9⟩
        have hB9 := hBL.trans (hb9.mono hBL.size)
        go_wp2
        go_ret
        exact ⟨rfl, hB9⟩
      have wc : IntKind.i64.wrap (x + left) = x + left := by rw [IntKind.wrap_i64]; omega
      by_cases g8 : 64 < x + left
      · clear HBB HR5 HX5 HROW HRSL
        go_wp2_with fail
        refine (WK.out _).mono ?_
        rintro e w9 ⟨rfl, hb9⟩
        have hB9 := hBL.trans (hb9.mono hBL.size)
        go_wp2
        go_ret
        exact ⟨rfl, hB9⟩
      have wd : IntKind.i64.wrap (z + top) = z + top := by rw [IntKind.wrap_i64]; omega
      by_cases g9 : 64 < z + top
      · clear HBB HR5 HX5 HROW HRSL
        go_wp2_with fail
        refine (WK.out _).mono ?_
        rintro e w9 ⟨rfl, hb9⟩
        have hB9 := hBL.trans (hb9.mono hBL.size)
        go_wp2
        go_ret
        exact ⟨rfl, hB9⟩
      obtain ⟨l, rfl⟩ := Int.eq_ofNat_of_zero_le (show 0 ≤ left by omega)
      obtain ⟨t, rfl⟩ := Int.eq_ofNat_of_zero_le (show 0 ≤ top by omega)
      obtain ⟨s, rfl⟩ := Int.eq_ofNat_of_zero_le (show 0 ≤ less by omega)
      obtain ⟨w', hw'⟩ : ∃ w', w' = nw - l - s := ⟨_, rfl⟩
      obtain ⟨d', hd'⟩ : ∃ d', d' = nd - t - s := ⟨_, rfl⟩
      obtain ⟨p1, hp1⟩ : ∃ p1, p1 = nw - l := ⟨_, rfl⟩
      obtain ⟨p2, hp2⟩ : ∃ p2, p2 = nd - t := ⟨_, rfl⟩
      have hwl : l + w' ≤ nw := by omega
      have hdt : t + d' ≤ nd := by omega
      have ea : (nw : Int) - (l : Int) = (p1 : Int) := by omega
      have eb : (p1 : Int) - (s : Int) = (w' : Int) := by omega
      have ec : (nd : Int) - (t : Int) = (p2 : Int) := by omega
      have ed : (p2 : Int) - (s : Int) = (d' : Int) := by omega
      clear hp1 hp2 hw' hd'
      rw [ea] at wa
      rw [ec] at wb
      have we : IntKind.i64.wrap (p1 : Int) = (p1 : Int) := by rw [IntKind.wrap_i64]; omega
      have wf : IntKind.i64.wrap (p2 : Int) = (p2 : Int) := by rw [IntKind.wrap_i64]; omega
      have wg : IntKind.i64.wrap (w' : Int) = (w' : Int) := by rw [IntKind.wrap_i64]; omega
      have wh : IntKind.i64.wrap (d' : Int) = (d' : Int) := by rw [IntKind.wrap_i64]; omega
      have hmd : w' * d' ≤ 144 := Nat.mul_le_mul (show w' ≤ 12 by omega) (show d' ≤ 12 by omega)
      have HB3 := Lib.hid (HBB.out l t w' d' hwl hdt (by omega) (by omega) (by omega) wr HX5.out)
      have HRW := Lib.hid (fun (k i : Nat) (hk : k < d') (hi : i < w') => HROW.out l t w' d' k i hwl hdt hk hi)
      obtain ⟨RR, hRR⟩ : ∃ RR, RR = RS (x + (l : Int)) (z + (t : Int)) w' d' := ⟨_, rfl⟩
      have HL2 := Lib.hid (HRSL.out (x + (l : Int)) (z + (t : Int)) w' d')
      rw [← hRR] at HB3 HRW HL2
      clear hRR HBB HROW HRSL
      have zc := fun j v (h : (#[Value.int .i64 cl, .int .i64 climb, .int .i64 height, .int .i64 rise, .int .i64 run, .int .i64 cw, .int .i64 cd] : Array Value)[j]? = some v) => hcell (k := j) hC5 h
      have z0 := zc 0 _ rfl
      have z1 := zc 1 _ rfl
      have z2 := zc 2 _ rfl
      have z3 := zc 3 _ rfl
      have z4 := zc 4 _ rfl
      have z5 := zc 5 _ rfl
      have z6 := zc 6 _ rfl
      clear zc
      go_wp2_with fail
      refine HB3.out.mono ?_
      rintro e w7 ⟨hv, rfl, hsv, hb7⟩
      have hB7 := hBL.trans (hb7.mono hBL.size)
      have hg7 := hkeep hb7 hg5
      have HR7 := HR5.out.below hb7 (Nat.le_refl _)
      obtain ⟨ra, rc, rs, hsv2, hrr⟩ := hsv.reads
      subst hsv2
      rw [HL2.out] at hrr ⊢
      obtain ⟨M, hM⟩ : ∃ M, M = w' * d' := ⟨_, rfl⟩
      have hMc : (w' : Int) * (d' : Int) = (M : Int) := by rw [hM]; simp
      rw [← hM] at hmd hrr HRW HL2 ⊢
      have hMw : IntKind.i64.wrap (M : Int) = (M : Int) := by rw [IntKind.wrap_i64]; omega
      clear hM z0 z1 z2 z3 z4 z5 z6 HB3 hBL hb7 hsv HX5 HR5 hg5 hC5
      have hg8 := halloc hg7 (.cells #[.int .i64 (x + (l : Int)), .int .i64 (z + (t : Int)), .int .i64 w', .int .i64 d', .slice ra M rc] 48)
      have hh8 := World.alloc_heap_new w7 (.cells #[.int .i64 (x + (l : Int)), .int .i64 (z + (t : Int)), .int .i64 w', .int .i64 d', .slice ra M rc] 48)
      have hS8 := (Below.refl w7.heap.size w7).alloc (Nat.le_refl _) (.cells #[.int .i64 (x + (l : Int)), .int .i64 (z + (t : Int)), .int .i64 w', .int .i64 d', .slice ra M rc] 48)
      have HR8 := Lib.hid (HR7.below hS8 (Nat.le_refl _))
      have hrr8 := Lib.hid (hrr.below hS8 (Nat.le_refl _))
      have hB8 := hB7.alloc hB7.size (.cells #[.int .i64 (x + (l : Int)), .int .i64 (z + (t : Int)), .int .i64 w', .int .i64 d', .slice ra M rc] 48)
      clear hg7 HR7 hrr hS8 hB7
      obtain ⟨H, hHH⟩ : ∃ H, H = w7.heap.size := ⟨_, rfl⟩
      rw [← hHH] at hh8
      have HHH := Lib.hid hHH
      clear hHH
      go_upto_region 21 with fail
      rw [← HHH.out]
      generalize w7.alloc (.cells #[.int .i64 (x + (l : Int)), .int .i64 (z + (t : Int)), .int .i64 w', .int .i64 d', .slice ra M rc] 48) = w8 at hg8 hh8 HR8 hrr8 hB8 ⊢
      have y4 := hcell (k := 4) (v := .slice ra M rc) hh8 rfl
      go_wp2
      clear y4
      go_loopw [194] (fun s194 wr2 => ∃ k : Nat, s194 = .int .i64 k ∧ k ≤ d' ∧ Below w8.heap.size w8 wr2) (fun s194 _ => d' - (intOf s194).toNat)
      case atStart => exact ⟨0, rfl, Nat.zero_le _, Below.refl _ _⟩
      case round =>
        obtain ⟨k, rfl, hk, hbk⟩ := hrel
        by_cases hkd : k < d'
        · have hkI : (k : Int) < (d' : Int) := by omega
          go_wp2
          go_loopw [202] (fun s202 wq => ∃ i : Nat, s202 = .int .i64 i ∧ i ≤ w' ∧ Below w8.heap.size w8 wq) (fun s202 _ => w' - (intOf s202).toNat)
          case atStart => exact ⟨0, rfl, Nat.zero_le _, hbk⟩
          case round =>
            obtain ⟨i, rfl, hi2, hbq⟩ := hrel
            by_cases hiw : i < w'
            · have hiI : (i : Int) < (w' : Int) := by omega
              obtain ⟨r, hr1, hr2, b1, b2⟩ := HRW.out k i hkd hiw
              obtain ⟨m1, hm1⟩ : ∃ m, m = k * w' := ⟨_, rfl⟩
              obtain ⟨u1, hu1⟩ : ∃ m, m = k + t := ⟨_, rfl⟩
              rw [← hm1] at hr1 b1
              rw [← hu1] at hr2 b2
              obtain ⟨u2, hu2⟩ : ∃ m, m = u1 * nw := ⟨_, rfl⟩
              rw [← hu2] at hr2 b2
              obtain ⟨q1, hq1⟩ : ∃ m, m = m1 + i := ⟨_, rfl⟩
              obtain ⟨u3, hu3⟩ : ∃ m, m = u2 + i := ⟨_, rfl⟩
              obtain ⟨q2, hq2⟩ : ∃ m, m = u3 + l := ⟨_, rfl⟩
              have e1 : (k : Int) * (w' : Int) = (m1 : Int) := by rw [hm1]; simp
              have e2 : (m1 : Int) + (i : Int) = (q1 : Int) := by omega
              have e3 : (k : Int) + (t : Int) = (u1 : Int) := by omega
              have e4 : (u1 : Int) * (nw : Int) = (u2 : Int) := by rw [hu2]; simp
              have e5 : (u2 : Int) + (i : Int) = (u3 : Int) := by omega
              have e6 : (u3 : Int) + (l : Int) = (q2 : Int) := by omega
              rw [← hq1] at hr1 b1
              have hq2' : u2 + (i + l) = q2 := by omega
              rw [hq2'] at hr2 b2
              have v1 : IntKind.i64.wrap (m1 : Int) = (m1 : Int) := by rw [IntKind.wrap_i64]; omega
              have v2 : IntKind.i64.wrap (q1 : Int) = (q1 : Int) := by rw [IntKind.wrap_i64]; omega
              have v3 : IntKind.i64.wrap (u1 : Int) = (u1 : Int) := by rw [IntKind.wrap_i64]; omega
              have v4 : IntKind.i64.wrap (u2 : Int) = (u2 : Int) := by rw [IntKind.wrap_i64]; omega
              have v5 : IntKind.i64.wrap (u3 : Int) = (u3 : Int) := by rw [IntKind.wrap_i64]; omega
              have v6 : IntKind.i64.wrap (q2 : Int) = (q2 : Int) := by rw [IntKind.wrap_i64]; omega
              have hx1 := hrr8.out.below hbq (Nat.le_refl _)
              have hx2 := HR8.out.below hbq (Nat.le_refl _)
              obtain ⟨bk1, off1, rfl, _, _⟩ := hx1.out.at0 (by omega)
              obtain ⟨bk2, off2, rfl, _, _⟩ := hx2.out.at0 (by omega)
              obtain ⟨⟨ha1, hn1, hc1⟩, hcl1, hsl1⟩ := hx1.at hr1
              obtain ⟨⟨ha2, hn2, hc2⟩, hcl2, hsl2⟩ := hx2.at hr2
              dsimp only at hcl1 hcl2 hsl1 hsl2
              obtain rfl : hn1 = hn2 := hsl1.len.symm.trans hsl2.len
              have SF := Lib.hid (fun (W : World) (hb : Below wr.heap.size wr W) => sameflr_self ha1 ha2 hn1 hc1 hc2 r W (hsl1.below hb (Nat.le_refl _)) (hsl2.below hb (Nat.le_refl _)))
              have hgq := hkeep hbq hg8
              have hhq := hkeep hbq hh8
              have e_g := fun d os => cell_regrown (hcell (k := 4) (v := .slice (some ⟨bk2, off2, none⟩) N sc) hgq rfl) d os
              have e_h := fun d os => cell_regrown (hcell (k := 4) (v := .slice (some ⟨bk1, off1, none⟩) M rc) hhq rfl) d os
              have e_1 := fun d os => cell_regrown hcl1 d os
              have e_2 := fun d os => cell_regrown hcl2 d os
              have hq1I : (q1 : Int) < (M : Int) := by omega
              have hq2I : (q2 : Int) < (N : Int) := by omega
              have hq10 : (0 : Int) ≤ (q1 : Int) := by omega
              have hq20 : (0 : Int) ≤ (q2 : Int) := by omega
              clear hm1 hu1 hu2 hq1 hu3 hq2 hq2' hr1 hr2 b1 b2 hx1 hx2 hcl1 hcl2 hsl1 hsl2 hgq hhq HRW hrr8 HR8
              go_wp2
              refine wp_region_quiet_below (by kernel_rfl) (by kernel_rfl) ?_
              repeat (go_big_quiet_step (exact Calls.regrown_of (SF.out _ (below_regrown wr _ _))))
              refine wpQuiet_nil ?_
              rintro w5 ⟨⟨dq, osq⟩, hw5⟩
              have hb5 : Below w8.heap.size w8 w5 := by rw [hw5]; exact hbq.trans ((below_regrown wr dq osq).mono hbq.size)
              clear hw5 e_g e_h e_1 e_2 SF e1 e2 e3 e4 e5 e6 v1 v2 v3 v4 v5 v6
              go_wp2
              go_roundw
              case rel => first | exact ⟨i + 1, by go_num, by omega, hb5⟩ | ((repeat apply Exists.intro); refine ⟨⟨i + 1, by go_num, by omega, hb5⟩, ?_⟩; (repeat' apply And.intro) <;> rfl)
              case measure => simp [intOf]; omega
            · obtain rfl : i = w' := by omega
              go_wp2
              go_roundw
              case rel => first | exact ⟨k + 1, by go_num, by omega, hbq⟩ | ((repeat apply Exists.intro); refine ⟨⟨k + 1, by go_num, by omega, hbq⟩, ?_⟩; (repeat' apply And.intro) <;> rfl)
              case measure => simp [intOf]; omega
        · obtain rfl : k = d' := by omega
          have hBE := hB8.trans (hbk.mono hB8.size)
          clear HRW hrr8 HR8
          go_wp2_with fail
          refine (WK.out _).mono ?_
          rintro e w9 ⟨rfl, hb9⟩
          have hB9 := hBE.trans (hb9.mono hBE.size)
          go_wp2
          go_ret
          exact ⟨rfl, hB9⟩
end Go.Proofs.YtdkikecjlbgmdaaGreat
