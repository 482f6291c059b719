/- Walk: the law 'a column hangs on its own triangles'. -/
import Derived.Test.YtdkikecjlbgmdaaGreatRaE
import Derived.Test.YtdkikecjlbgmdaaGreatGr
import Derived.Test.YtdkikecjlbgmdaaGreatGq
namespace Go.Proofs.YtdkikecjlbgmdaaGreat
open Go.RowKit
attribute [local go_sem] Instr.index

theorem trCone (t : Tr) : ∀ u ∈ trC t, u.oneCell' = true := by
  intro u hu
  simp [trC] at hu
  rcases hu with h | h | h | h | h | h | h | h | h | h <;> (subst h; rfl)
theorem infotri : (Tryz.prog.info? 35).map (fun i => (i.zero, i.size, i.bytes)) = some (some (.agg #[.int .i64 0, .int .i64 0, .int .i64 0, .int .i64 0, .int .i64 0, .int .i64 0, .int .i64 0, .int .i64 0, .int .i64 0, .int .i64 0]), 10, 80) := by kernel_rfl
theorem rmaytri (W D : Int) (t : Tr) (w : World) (hW : 0 ≤ W ∧ W ≤ 32) (hD : 0 ≤ D ∧ D ≤ 32) : Calls Tryz.prog 9 #[.int .i64 W, .int .i64 D, trA t] w fun e w' => e = .returned (.bool (trMay W D t)) ∧ Below w.heap.size w w' :=
  refmaytri_any W D t.t3 w hW hD
theorem rover (t : Tr) (x z : Int) (w : World) : Calls Tryz.prog 10 #[trA t, .int .i64 x, .int .i64 z] w fun e w' => e = .returned (.tuple #[.int .i64 (overT t x z).1, .int .i64 (overT t x z).2.1, .bool (overT t x z).2.2.1, .int .i64 (overT t x z).2.2.2]) ∧ Below w.heap.size w w' :=
  refover_any t.id t.a t.b t.c x z w
theorem cfg_pos {cf : Cfg} (h : cfgOk cf = true) : 1 ≤ cf.w ∧ 1 ≤ cf.d := by
  unfold cfgOk at h
  simp only [decide_eq_true_eq] at h
  omega
def Own (xs : List Tr) (x z : Int) (k : Nat) : List Tr := (xs.take k).filter (isOver x z)
def Hld (xs : List Tr) (x z y : Int) (k : Nat) : Bool := (xs.take k).any (holdsY x z y)
theorem own_yes {xs : List Tr} {x z : Int} {k : Nat} {t : Tr} (ht : xs[k]? = some t) (h : (overT t x z).2.2.1 = true) : Own xs x z (k + 1) = Own xs x z k ++ [t] := by
  unfold Own
  rw [own_succ x z ht, if_pos (show isOver x z t = true from h)]
theorem own_no {xs : List Tr} {x z : Int} {k : Nat} {t : Tr} (ht : xs[k]? = some t) (h : (overT t x z).2.2.1 = false) : Own xs x z (k + 1) = Own xs x z k := by
  unfold Own
  rw [own_succ x z ht]
  unfold isOver
  rw [h]
  simp
theorem hld_step {xs : List Tr} {x z y : Int} {k : Nat} {t : Tr} (ht : xs[k]? = some t) : Hld xs x z y (k + 1) = (Hld xs x z y k || ((overT t x z).2.2.1 && (decide ((overT t x z).1 ≤ y) && decide (y ≤ (overT t x z).2.1)))) := by
  unfold Hld
  rw [holds_succ x z y ht]
  rfl
theorem ownlen (xs : List Tr) (x z : Int) (k : Nat) : (Own xs x z k).length ≤ k := by
  have h1 := List.length_filter_le (isOver x z) (xs.take k)
  have h2 := List.length_take_le k xs
  unfold Own
  omega
theorem any_s {l : List Spn} {k : Nat} {s : Spn} (hs : l[k]? = some s) (y : Int) : (l.take (k + 1)).any (inAt y) = ((l.take k).any (inAt y) || (decide (s.lo ≤ y) && decide (y ≤ s.hi))) := any_succ hs y
/-- Where the first loop stands. -/
def OwnAt (xs : List Tr) (x z y : Int) (n : Nat) (w1 : World) (s13 s14 s62 : Value) (wr : World) : Prop :=
  ∃ k : Nat, s62 = .int .i64 k ∧ k ≤ n ∧ s14 = .bool (Hld xs x z y k) ∧ OwnR trC 10 35 w1.heap.size wr s13 (Own xs x z k).length (Own xs x z k) ∧ Below w1.heap.size w1 wr
set_option maxRecDepth 100000 in
set_option maxHeartbeats 8000000 in
theorem rasterown_any (cf : Cfg) (a : Option Addr) (n c : Nat) (xs : List Tr) (x z y : Int) (w : World) (hx : SlTr w a n c xs) :
    Calls Tryz.prog 3 #[cfgV cf, .slice a n c, .int .i64 x, .int .i64 z, .int .i64 y] w fun e w' => e = .returned (.bool true) ∧ Below w.heap.size w w' := by
  have WK := Lib.hid (fun W => wakes09_any W)
  have Hl := Lib.hid hx.len
  have hle := hx.le
  have hmax := hx.max
  have hC := World.alloc_heap_new w (cfgO cf)
  have hB : Below w.heap.size w (w.alloc (cfgO cf)) := (Below.refl _ _).alloc (Nat.le_refl _) _
  have hX := hx.alloc (cfgO cf)
  clear hx
  by_cases h40 : 40 < n
  · have h40I : (40 : Int) < (n : Int) := by omega
    have hd : decide ((40 : Int) < (n : Int)) = true := decide_eq_true h40I
    have GR := Lib.hid (fun W => great09_any a n c W)
    rw [hd] at GR
    clear hd
    obtain ⟨cl, climb, height, rise, run, cw, cd⟩ := cf
    dsimp only [cfgO, cfgV] at hC hB hX ⊢
    go_enter Tryz.func3, Tryz.ntmps3
    go_wp2_with fail
    refine (GR.out _).mono ?_
    rintro e w1 ⟨rfl, rfl⟩
    go_wp2_with fail
    refine (WK.out _).mono ?_
    rintro e w9 ⟨rfl, hb9⟩
    have hB9 := hB.trans (hb9.mono hB.size)
    go_wp2
    go_ret
    exact ⟨rfl, hB9⟩
  have h40I : ¬ (40 : Int) < (n : Int) := by omega
  have hd : decide ((40 : Int) < (n : Int)) = false := decide_eq_false h40I
  have GR := Lib.hid (fun W => great09_any a n c W)
  rw [hd] at GR
  clear hd h40I
  have C1 := Lib.hid (fun W hW => rascolumn_any cf a n c xs x z W hW)
  by_cases hbad : ¬ (colAll cf xs x z).2 = 0 ∨ x < 0 ∨ cf.w ≤ x ∨ z < 0 ∨ cf.d ≤ z
  · obtain ⟨R, hR⟩ : ∃ R, R = colAll cf xs x z := ⟨_, rfl⟩
    rw [← hR] at C1 hbad
    clear hR
    obtain ⟨M, er⟩ := R
    obtain ⟨cl, climb, height, rise, run, cw, cd⟩ := cf
    dsimp only [cfgO, cfgV] at hC hB hX C1 hbad ⊢
    go_enter Tryz.func3, Tryz.ntmps3
    go_wp2_with fail
    refine (GR.out _).mono ?_
    rintro e w1 ⟨rfl, rfl⟩
    go_wp2_with fail
    refine (C1.out _ hX).mono ?_
    rintro e w2 ⟨v1, rfl, _, hb2⟩
    have hB2 := hB.trans (hb2.mono hB.size)
    have hC2 := hkeep hb2 hC
    have c5 := hcell (k := 5) (v := .int .i64 cw) hC2 rfl
    have c6 := hcell (k := 6) (v := .int .i64 cd) hC2 rfl
    clear hB hC hX hb2 hC2
    dsimp only
    by_cases g0 : er = 0
    · have hb1 : x < 0 ∨ cw ≤ x ∨ z < 0 ∨ cd ≤ z := by rcases hbad with h | h; exact absurd g0 h; exact h
      clear hbad
      by_cases g1 : x < 0
      · clear hb1
        go_wp2_with fail
        refine (WK.out _).mono ?_
        rintro e w9 ⟨rfl, hb9⟩
        have hB9 := hB2.trans (hb9.mono hB2.size)
        go_wp2
        go_ret
        exact ⟨rfl, hB9⟩
      have hb2 : cw ≤ x ∨ z < 0 ∨ cd ≤ z := by rcases hb1 with h | h; exact absurd h g1; exact h
      clear hb1
      by_cases g2 : cw ≤ x
      · clear hb2
        go_wp2_with fail
        refine (WK.out _).mono ?_
        rintro e w9 ⟨rfl, hb9⟩
        have hB9 := hB2.trans (hb9.mono hB2.size)
        go_wp2
        go_ret
        exact ⟨rfl, hB9⟩
      have hb3 : z < 0 ∨ cd ≤ z := by rcases hb2 with h | h; exact absurd h g2; exact h
      clear hb2
      by_cases g3 : z < 0
      · clear hb3
        go_wp2_with fail
        refine (WK.out _).mono ?_
        rintro e w9 ⟨rfl, hb9⟩
        have hB9 := hB2.trans (hb9.mono hB2.size)
        go_wp2
        go_ret
        exact ⟨rfl, hB9⟩
      have g4 : cd ≤ z := by rcases hb3 with h | h; exact absurd h g3; exact h
      clear hb3
      go_wp2_with fail
      refine (WK.out _).mono ?_
      rintro e w9 ⟨rfl, hb9⟩
      have hB9 := hB2.trans (hb9.mono hB2.size)
      go_wp2
      go_ret
      exact ⟨rfl, hB9⟩
    · have g0' : (er != 0) = true := by simpa using g0
      clear hbad
      go_wp2_with fail
      refine (WK.out _).mono ?_
      rintro e w9 ⟨rfl, hb9⟩
      have hB9 := hB2.trans (hb9.mono hB2.size)
      go_wp2
      go_ret
      exact ⟨rfl, hB9⟩
  have g0 : (colAll cf xs x z).2 = 0 := Classical.byContradiction fun h => hbad (.inl h)
  have g1 : ¬ x < 0 := fun h => hbad (.inr (.inl h))
  have g2 : ¬ cf.w ≤ x := fun h => hbad (.inr (.inr (.inl h)))
  have g3 : ¬ z < 0 := fun h => hbad (.inr (.inr (.inr (.inl h))))
  have g4 : ¬ cf.d ≤ z := fun h => hbad (.inr (.inr (.inr (.inr h))))
  have hin : inCol cf x z = true := by
    unfold inCol
    rw [decide_eq_true (show 0 ≤ x by omega), decide_eq_true (show x < cf.w by omega), decide_eq_true (show 0 ≤ z by omega), decide_eq_true (show z < cf.d by omega)]
    rfl
  obtain ⟨hown, hmay, hcf, -, -⟩ := colAll_own g0 hin
  have hsol := held_solid (y := y) g0 hin
  have hp := cfg_pos hcf
  have hw32 := cfg_wd hcf
  have C2 := Lib.hid (fun (a' : Option Addr) (m c' : Nat) (W : World) hW => rascolumn_any cf a' m c' (xs.filter (isOver x z)) x z W hW)
  rw [hown] at C2
  have MT := Lib.hid (fun (k : Nat) (t : Tr) (ht : xs[k]? = some t) (W : World) => (show trMay cf.w cf.d t = true from hmay t (List.mem_of_getElem? ht)) ▸ rmaytri cf.w cf.d t W ⟨by omega, hw32.1⟩ ⟨by omega, hw32.2⟩)
  have OV := Lib.hid (fun (k : Nat) (t : Tr) (_ : xs[k]? = some t) (W : World) => rover t x z W)
  have OY := Lib.hid (fun (k : Nat) (t : Tr) (ht : xs[k]? = some t) => own_yes (x := x) (z := z) ht)
  have ON := Lib.hid (fun (k : Nat) (t : Tr) (ht : xs[k]? = some t) => own_no (x := x) (z := z) ht)
  have HS := Lib.hid (fun (k : Nat) (t : Tr) (ht : xs[k]? = some t) => hld_step (x := x) (z := z) (y := y) ht)
  have OL := Lib.hid (ownlen xs x z)
  have HN1 : Hid (Own xs x z n = xs.filter (isOver x z)) := by show _ = _; unfold Own; rw [List.take_of_length_le (by rw [Hl.out]; exact Nat.le_refl _)]
  have HN2 : Hid (Hld xs x z y n = xs.any (holdsY x z y)) := by show _ = _; unfold Hld; rw [List.take_of_length_le (by rw [Hl.out]; exact Nat.le_refl _)]
  have HSOL := Lib.hid hsol
  have HO0 : Own xs x z 0 = [] := rfl
  have HH0 : Hld xs x z y 0 = false := rfl
  clear hown hmay hcf hsol hp hw32 hbad hin
  obtain ⟨R, hR⟩ : ∃ R, R = colAll cf xs x z := ⟨_, rfl⟩
  rw [← hR] at C1 C2 g0 HSOL
  clear hR
  obtain ⟨M, er⟩ := R
  dsimp only at g0
  subst g0
  obtain ⟨cl, climb, height, rise, run, cw, cd⟩ := cf
  dsimp only [cfgO, cfgV] at hC hB hX C1 C2 MT HSOL g2 g4 ⊢
  go_enter Tryz.func3, Tryz.ntmps3
  go_wp2_with fail
  refine (GR.out _).mono ?_
  rintro e w1 ⟨rfl, rfl⟩
  go_wp2_with fail
  refine (C1.out _ hX).mono ?_
  rintro e w2 ⟨v1, rfl, hv1, hb2⟩
  have hB2 := hB.trans (hb2.mono hB.size)
  have hC2 := hkeep hb2 hC
  have hX2 := hX.below hb2 (Nat.le_refl _)
  have c5 := hcell (k := 5) (v := .int .i64 cw) hC2 rfl
  have c6 := hcell (k := 6) (v := .int .i64 cd) hC2 rfl
  clear hB hC hX hb2 GR C1
  obtain ⟨a1, k1, rfl, r1⟩ := OwnR.reads spnC_len hv1
  have HX := Lib.hid hX2
  have HR1 := Lib.hid r1
  have hml := r1.len
  have hm1 := r1.le
  have hm2 := r1.max
  clear hX2 hv1 r1
  dsimp only at HR1 hml hm1 hm2 ⊢
  obtain ⟨m, hm⟩ : ∃ m, m = M.length := ⟨_, rfl⟩
  rw [← hm] at HR1 hm1 ⊢
  have HM := Lib.hid hm
  clear hm hml
  obtain ⟨T, hTT⟩ : ∃ T, T = w.heap.size := ⟨_, rfl⟩
  rw [← hTT] at hC2 c5 c6
  have HTT := Lib.hid hTT
  clear hTT
  rw [← HTT.out]
  go_wp2
  clear c5 c6
  go_loopw [13, 14, 62] (fun s13 s14 s62 wr => OwnAt xs x z y n w2 s13 s14 s62 wr) (fun _ _ s62 _ => n - (intOf s62).toNat)
  case atStart => exact ⟨0, rfl, Nat.zero_le _, rfl, OwnR.nil _ _ _ _ _, Below.refl _ _⟩
  case round =>
    obtain ⟨k, rfl, hk, rfl, hown, hbr⟩ := hrel
    have hol := OL.out k
    by_cases hlt : k < n
    · have hltI : (k : Int) < (n : Int) := by omega
      obtain ⟨t, ht⟩ : ∃ t, xs[k]? = some t := ⟨_, List.getElem?_eq_getElem (by rw [Hl.out]; exact hlt)⟩
      have hxr := HX.out.below hbr (Nat.le_refl _)
      obtain ⟨bk, off, rfl, hbl, hc⟩ := hxr.at0 (by omega)
      obtain ⟨q0, q1, q2, q3, q4, q5, q6, q7, q8, q9⟩ := SlTr.cells hc ht
      have MT2 := Lib.hid (MT.out k t ht)
      have OV2 := Lib.hid (OV.out k t ht)
      have OY2 := Lib.hid (OY.out k t ht)
      have ON2 := Lib.hid (ON.out k t ht)
      have HS2 := Lib.hid (HS.out k t ht)
      have hCr := hkeep hbr hC2
      have hTl := hblt hCr
      have c5 := hcell (k := 5) (v := .int .i64 cw) hCr rfl
      have c6 := hcell (k := 6) (v := .int .i64 cd) hCr rfl
      clear hc hxr ht HX MT OV OY ON HS
      generalize (overT t x z).1 = lo at OV2 HS2
      generalize (overT t x z).2.1 = hi at OV2 HS2
      generalize (overT t x z).2.2.1 = ok at OV2 OY2 ON2 HS2
      generalize (overT t x z).2.2.2 = e2 at OV2
      generalize Hld xs x z y k = hk1 at HS2 ⊢
      obtain ⟨ol, hol2⟩ : ∃ l, l = Own xs x z k := ⟨_, rfl⟩
      rw [← hol2] at hown hol OY2 ON2
      clear hol2
      obtain ⟨ti, ⟨ax, ay, az⟩, ⟨bx, by_, bz⟩, ⟨cx, cy, cz⟩⟩ := t
      dsimp only [trA] at q0 q1 q2 q3 q4 q5 q6 q7 q8 q9 MT2 OV2
      have hTA := World.alloc_heap_new wr (.cells #[.int .i64 ti, .int .i64 ax, .int .i64 ay, .int .i64 az, .int .i64 bx, .int .i64 by_, .int .i64 bz, .int .i64 cx, .int .i64 cy, .int .i64 cz] 35)
      have hCA := halloc hCr (.cells #[.int .i64 ti, .int .i64 ax, .int .i64 ay, .int .i64 az, .int .i64 bx, .int .i64 by_, .int .i64 bz, .int .i64 cx, .int .i64 cy, .int .i64 cz] 35)
      have hownA := hown.alloc (.cells #[.int .i64 ti, .int .i64 ax, .int .i64 ay, .int .i64 az, .int .i64 bx, .int .i64 by_, .int .i64 bz, .int .i64 cx, .int .i64 cy, .int .i64 cz] 35)
      have hbA := hbr.alloc hbr.size (.cells #[.int .i64 ti, .int .i64 ax, .int .i64 ay, .int .i64 az, .int .i64 bx, .int .i64 by_, .int .i64 bz, .int .i64 cx, .int .i64 cy, .int .i64 cz] 35)
      go_wp2_with fail
      refine (MT2.out _).mono ?_
      rintro e w4 ⟨rfl, hb4⟩
      have hT4 := hkeep hb4 hTA
      have hC4 := hkeep hb4 hCA
      have hown4 := hownA.below hb4 (Nat.le_refl _)
      have hB4 := hbA.trans (hb4.mono hbA.size)
      clear q0 q1 q2 q3 q4 q5 q6 q7 q8 q9 c5 c6 hTA hCA hownA hbA hb4 hCr hown hbr MT2
      have t0 := hcell (k := 0) (v := .int .i64 ti) hT4 rfl
      have t1 := hcell (k := 1) (v := .int .i64 ax) hT4 rfl
      have t2 := hcell (k := 2) (v := .int .i64 ay) hT4 rfl
      have t3 := hcell (k := 3) (v := .int .i64 az) hT4 rfl
      have t4 := hcell (k := 4) (v := .int .i64 bx) hT4 rfl
      have t5 := hcell (k := 5) (v := .int .i64 by_) hT4 rfl
      have t6 := hcell (k := 6) (v := .int .i64 bz) hT4 rfl
      have t7 := hcell (k := 7) (v := .int .i64 cx) hT4 rfl
      have t8 := hcell (k := 8) (v := .int .i64 cy) hT4 rfl
      have t9 := hcell (k := 9) (v := .int .i64 cz) hT4 rfl
      go_wp2_with fail
      refine (OV2.out _).mono ?_
      rintro e w5 ⟨rfl, hb5⟩
      have hT5 := hkeep hb5 hT4
      have hown5 := hown4.below hb5 (Nat.le_refl _)
      have hB5 := hB4.trans (hb5.mono hB4.size)
      clear t0 t1 t2 t3 t4 t5 t6 t7 t8 t9 hT4 hC4 hown4 hB4 hb5 OV2
      cases ok with
      | false =>
        have hO : Own xs x z (k + 1) = ol := ON2.out rfl
        have hH : Hld xs x z y (k + 1) = hk1 := by have := HS2.out; simpa using this
        clear OY2 ON2 HS2 hT5
        go_wp2
        go_roundw
        case rel => exact ⟨k + 1, by go_num, by omega, by rw [hH], by rw [hO]; exact hown5, hB5⟩
        case measure => simp [intOf]; omega
      | true =>
        have hO := Lib.hid (OY2.out rfl)
        have hH : Hid (Hld xs x z y (k + 1) = (hk1 || (decide (lo ≤ y) && decide (y ≤ hi)))) := by have := HS2.out; show _ = _; simpa using this
        clear OY2 ON2 HS2
        have t0 := hcell (k := 0) (v := .int .i64 ti) hT5 rfl
        have t1 := hcell (k := 1) (v := .int .i64 ax) hT5 rfl
        have t2 := hcell (k := 2) (v := .int .i64 ay) hT5 rfl
        have t3 := hcell (k := 3) (v := .int .i64 az) hT5 rfl
        have t4 := hcell (k := 4) (v := .int .i64 bx) hT5 rfl
        have t5 := hcell (k := 5) (v := .int .i64 by_) hT5 rfl
        have t6 := hcell (k := 6) (v := .int .i64 bz) hT5 rfl
        have t7 := hcell (k := 7) (v := .int .i64 cx) hT5 rfl
        have t8 := hcell (k := 8) (v := .int .i64 cy) hT5 rfl
        have t9 := hcell (k := 9) (v := .int .i64 cz) hT5 rfl
        have hs5 := hB5.size
        cases hk1 with
        | true =>
          go_wp2_with (at_builtin; refine wpList_appR (f := trC) (sz := 10) (e := 35) (B := w2.heap.size) (n := ol.length) (xs := ol) _ trC_len trCone rfl _ _ 24 rfl (.agg #[.int .i64 0, .int .i64 0, .int .i64 0, .int .i64 0, .int .i64 0, .int .i64 0, .int .i64 0, .int .i64 0, .int .i64 0, .int .i64 0]) 80 Tryz.underlying24 infotri rfl (by decide) (⟨ti, ⟨ax, ay, az⟩, ⟨bx, by_, bz⟩, ⟨cx, cy, cz⟩⟩ : Tr) 35 hown5 rfl rfl (by omega) (by omega) hs5 ?_; intro vq wq hownq hAppd)
          have hBq := (Below.refl w2.heap.size w5).grown hAppd.grown hs5 (fun j hj => hown5.le j hj)
          go_roundw
          case rel => exact ⟨k + 1, by go_num, by omega, by rw [hH.out]; rfl, by rw [hO.out]; simpa using hownq, hB5.trans hBq⟩
          case measure => simp [intOf]; omega
        | false =>
          by_cases u1 : lo ≤ y
          · have d1 : decide (lo ≤ y) = true := decide_eq_true u1
            have hH2 : Hid (Hld xs x z y (k + 1) = decide (y ≤ hi)) := by show _ = _; rw [hH.out, d1]; rfl
            clear hH d1
            go_wp2_with (at_builtin; refine wpList_appR (f := trC) (sz := 10) (e := 35) (B := w2.heap.size) (n := ol.length) (xs := ol) _ trC_len trCone rfl _ _ 24 rfl (.agg #[.int .i64 0, .int .i64 0, .int .i64 0, .int .i64 0, .int .i64 0, .int .i64 0, .int .i64 0, .int .i64 0, .int .i64 0, .int .i64 0]) 80 Tryz.underlying24 infotri rfl (by decide) (⟨ti, ⟨ax, ay, az⟩, ⟨bx, by_, bz⟩, ⟨cx, cy, cz⟩⟩ : Tr) 35 hown5 rfl rfl (by omega) (by omega) hs5 ?_; intro vq wq hownq hAppd)
            have hBq := (Below.refl w2.heap.size w5).grown hAppd.grown hs5 (fun j hj => hown5.le j hj)
            go_roundw
            case rel => exact ⟨k + 1, by go_num, by omega, by rw [hH2.out], by rw [hO.out]; simpa using hownq, hB5.trans hBq⟩
            case measure => simp [intOf]; omega
          · have d1 : decide (lo ≤ y) = false := decide_eq_false u1
            have hH2 : Hid (Hld xs x z y (k + 1) = false) := by show _ = _; rw [hH.out, d1]; rfl
            clear hH d1
            go_wp2_with (at_builtin; refine wpList_appR (f := trC) (sz := 10) (e := 35) (B := w2.heap.size) (n := ol.length) (xs := ol) _ trC_len trCone rfl _ _ 24 rfl (.agg #[.int .i64 0, .int .i64 0, .int .i64 0, .int .i64 0, .int .i64 0, .int .i64 0, .int .i64 0, .int .i64 0, .int .i64 0, .int .i64 0]) 80 Tryz.underlying24 infotri rfl (by decide) (⟨ti, ⟨ax, ay, az⟩, ⟨bx, by_, bz⟩, ⟨cx, cy, cz⟩⟩ : Tr) 35 hown5 rfl rfl (by omega) (by omega) hs5 ?_; intro vq wq hownq hAppd)
            have hBq := (Below.refl w2.heap.size w5).grown hAppd.grown hs5 (fun j hj => hown5.le j hj)
            go_roundw
            case rel => exact ⟨k + 1, by go_num, by omega, by rw [hH2.out], by rw [hO.out]; simpa using hownq, hB5.trans hBq⟩
            case measure => simp [intOf]; omega
    · obtain rfl : k = n := by omega
      rw [HN1.out] at hown
      have HHD := Lib.hid HN2.out
      rw [HSOL.out] at HHD
      obtain ⟨hd1, hhd⟩ : ∃ h, h = Hld xs x z y k := ⟨_, rfl⟩
      rw [← hhd] at HHD ⊢
      obtain ⟨a3, k3, rfl, r3⟩ := OwnR.reads trC_len hown
      have hCr := hkeep hbr hC2
      have c0 := hcell (k := 0) (v := .int .i64 cl) hCr rfl
      have c1 := hcell (k := 1) (v := .int .i64 climb) hCr rfl
      have c2 := hcell (k := 2) (v := .int .i64 height) hCr rfl
      have c3 := hcell (k := 3) (v := .int .i64 rise) hCr rfl
      have c4 := hcell (k := 4) (v := .int .i64 run) hCr rfl
      have c5 := hcell (k := 5) (v := .int .i64 cw) hCr rfl
      have c6 := hcell (k := 6) (v := .int .i64 cd) hCr rfl
      have hB3 := hB2.trans (hbr.mono hB2.size)
      have R1 := Lib.hid (HR1.out.below hbr (Nat.le_refl _))
      clear hown HX MT OV OY ON HS OL HN1 HN2 HSOL HR1 hbr hC2 hB2 hhd hol hk
      go_wp2_with fail
      refine (C2.out a3 _ k3 _ r3).mono ?_
      rintro e w4 ⟨v4, rfl, hv4, hb4⟩
      have hB4 := hB3.trans (hb4.mono hB3.size)
      have R2 := Lib.hid (R1.out.below hb4 (Nat.le_refl _))
      obtain ⟨a4, k4, rfl, r4⟩ := OwnR.reads spnC_len hv4
      have R4 := Lib.hid r4
      dsimp only at R4 ⊢
      rw [← HM.out] at R4 ⊢
      clear C2 r3 hv4 hb4 hB3 R1 r4 c0 c1 c2 c3 c4 c5 c6 hCr
      go_wp2_with fail
      refine (refsame_self a1 a4 _ k1 k4 _ _ R2.out R4.out).mono ?_
      rintro e w5 ⟨rfl, hb5⟩
      have hB5 := hB4.trans (hb5.mono hB4.size)
      have R5 := Lib.hid (R2.out.below hb5 (Nat.le_refl _))
      clear hb5 hB4 R2 R4
      go_wp2
      go_loopw [23, 117] (fun s23 s117 wr => ∃ i : Nat, s117 = .int .i64 i ∧ i ≤ m ∧ s23 = .bool ((M.take i).any (inAt y)) ∧ Below w5.heap.size w5 wr) (fun _ s117 _ => m - (intOf s117).toNat)
      case atStart => exact ⟨0, rfl, Nat.zero_le _, rfl, Below.refl _ _⟩
      case round =>
        obtain ⟨i, rfl, hi, rfl, hbr⟩ := hrel
        by_cases hilt : i < m
        · have hiI : (i : Int) < (m : Int) := by omega
          obtain ⟨s, hs⟩ : ∃ s, M[i]? = some s := ⟨_, List.getElem?_eq_getElem (by rw [← HM.out]; exact hilt)⟩
          obtain ⟨bk, off, rfl, hbl, hc⟩ := (R5.out.below hbr (Nat.le_refl _)).at0 (by omega)
          obtain ⟨p1, p2, p3⟩ := SlSp.cells hc hs
          have AS := Lib.hid (any_s hs y)
          obtain ⟨slo, shi, swk⟩ := s
          dsimp only at p1 p2 p3 AS
          clear hc hs R5
          have hbA := hbr.alloc hbr.size (.cells #[.int .i64 slo, .int .i64 shi, .bool swk] 41)
          generalize (M.take i).any (inAt y) = so at AS ⊢
          cases so with
          | true =>
            have A2 : (M.take (i + 1)).any (inAt y) = true := by rw [AS.out]; rfl
            clear AS
            go_wp2
            go_roundw
            case rel => exact ⟨i + 1, by go_num, by omega, by rw [A2], hbA⟩
            case measure => simp [intOf]; omega
          | false =>
            by_cases u1 : slo ≤ y
            · have A2 : (M.take (i + 1)).any (inAt y) = decide (y ≤ shi) := by rw [AS.out, decide_eq_true u1]; rfl
              clear AS
              go_wp2
              go_roundw
              case rel => exact ⟨i + 1, by go_num, by omega, by rw [A2], hbA⟩
              case measure => simp [intOf]; omega
            · have A2 : (M.take (i + 1)).any (inAt y) = false := by rw [AS.out, decide_eq_false u1]; rfl
              clear AS
              go_wp2
              go_roundw
              case rel => exact ⟨i + 1, by go_num, by omega, by rw [A2], hbA⟩
              case measure => simp [intOf]; omega
        · obtain rfl : i = m := by omega
          have hB6 := hB5.trans (hbr.mono hB5.size)
          have e1 : (M.take i).any (inAt y) = hd1 := by rw [List.take_of_length_le (by rw [← HM.out]; exact Nat.le_refl _)]; exact HHD.out.symm
          rw [e1]
          clear R5 hB5 hbr e1 HHD
          go_wp2_with fail
          refine (WK.out _).mono ?_
          rintro e w9 ⟨rfl, hb9⟩
          have hB9 := hB6.trans (hb9.mono hB6.size)
          go_wp2
          go_ret
          exact ⟨rfl, hB9⟩
end Go.Proofs.YtdkikecjlbgmdaaGreat
