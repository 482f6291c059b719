/- Walks: package raster: inside, may, the maker of pieces. -/
import Derived.Test.YtdkikecjlbgmdaaGreatTrK
import Derived.Test.YtdkikecjlbgmdaaGreatTrs
namespace Go.Proofs.YtdkikecjlbgmdaaGreat
open Go.RowKit
attribute [local go_sem] Instr.index

set_option maxHeartbeats 1000000 in
theorem inside_any (cf : Cfg) (x z : Int) (C : Nat) (w : World) (hC : w.heap[C]? = some (cfgO cf)) :
    Calls Tryz.prog 37 #[.pointer (some ⟨C, 0, none⟩), .int .i64 x, .int .i64 z] w fun e w' => e = .returned (.bool (inCol cf x z)) ∧ Below w.heap.size w w' := by
  obtain ⟨r, hr⟩ : ∃ r, r = inCol cf x z := ⟨_, rfl⟩
  rw [← hr]
  unfold inCol at hr
  have HR := Lib.hid hr
  clear hr
  obtain ⟨clear_, climb, height, rise, run, cw, cd⟩ := cf
  dsimp only [cfgO] at hC HR
  have c5 := hcell (k := 5) (v := .int .i64 cw) hC rfl
  have c6 := hcell (k := 6) (v := .int .i64 cd) hC rfl
  clear hC
  go_enter Tryz.func37, Tryz.ntmps37
  go_wp2
  all_goals
    go_ret
    refine ⟨ret_bool ?_, Below.refl _ _⟩
    rw [HR.out]
    clear HR
    grind

theorem trMay_id (W D i : Int) (t : Tr) : trMay W D ⟨i, t.a, t.b, t.c⟩ = trMay W D t := rfl
theorem take_all {cf : Cfg} {xs : List Tr} {k : Nat} {t : Tr} (ht : xs[k]? = some t) (h : ∀ u ∈ xs.take k, trMay cf.w cf.d u = true) (hm : trMay cf.w cf.d t = true) : ∀ u ∈ xs.take (k + 1), trMay cf.w cf.d u = true := by
  intro u hu
  rw [List.take_add_one, ht] at hu
  rcases List.mem_append.1 hu with h1 | h1
  · exact h u h1
  · simp at h1; rw [h1]; exact hm
theorem colMay_bad {cf : Cfg} {xs : List Tr} {k : Nat} {t : Tr} (hc : cfgOk cf = true) (ht : xs[k]? = some t) (hm : trMay cf.w cf.d t = false) : colMay cf xs = 2 := by
  rcases colMay_e cf xs with h | h | h
  · have := (colMay_zero.1 h).2.2 t (List.mem_of_getElem? ht)
    rw [hm] at this
    cases this
  · exact h
  · unfold colMay at h
    rw [hc] at h
    simp at h
    split at h
    · cases h
    · split at h <;> cases h
set_option maxRecDepth 100000 in
set_option maxHeartbeats 4000000 in
theorem rmay_any (cf : Cfg) (a : Option Addr) (n c : Nat) (xs : List Tr) (w : World) (hx : SlTr w a n c xs) :
    Calls Tryz.prog 21 #[cfgV cf, .slice a n c] w fun e w' => e = .returned (.int .i64 (colMay cf xs)) ∧ Below w.heap.size w w' := by
  have CF := Lib.hid (fun W => cfgcheck_any cf W)
  have Hl := Lib.hid hx.len
  have hmax := hx.max
  have hle := hx.le
  have Hx := Lib.hid hx; clear hx
  have hC := World.alloc_heap_new w (cfgO cf)
  have hB : Below w.heap.size w (w.alloc (cfgO cf)) := (Below.refl _ _).alloc (Nat.le_refl _) _
  obtain ⟨r, hr⟩ : ∃ r, r = colMay cf xs := ⟨_, rfl⟩
  rw [← hr]
  have HR := Lib.hid hr
  clear hr
  cases hcf : cfgOk cf with
  | false =>
    have h0 : cfgE cf = 20 := by unfold cfgE; rw [hcf]; rfl
    rw [h0] at CF
    have HR2 : Hid (r = 20) := by show _ = _; rw [HR.out]; unfold colMay; rw [hcf]; rfl
    clear h0 HR hcf
    obtain ⟨clear_, climb, height, rise, run, cw, cd⟩ := cf
    dsimp only [cfgO, cfgV] at CF hC hB ⊢
    go_enter Tryz.func21, Tryz.ntmps21
    go_wp2_with fail
    refine (CF.out _).mono ?_
    rintro e w1 ⟨rfl, hb1⟩
    have hB1 := hB.trans (hb1.mono hB.size)
    go_wp2
    go_ret
    exact ⟨ret_int HR2.out.symm, hB1⟩
  | true =>
  have h0 : cfgE cf = 0 := by unfold cfgE; rw [hcf]; rfl
  rw [h0] at CF
  clear h0
  by_cases hn : 200 < n
  · have hnI : (200 : Int) < (n : Int) := by omega
    have HR2 : Hid (r = 2) := by show _ = _; rw [HR.out]; unfold colMay; rw [hcf, if_neg (by simp), if_pos (by rw [Hl.out]; exact hn)]
    clear HR hcf
    obtain ⟨clear_, climb, height, rise, run, cw, cd⟩ := cf
    dsimp only [cfgO, cfgV] at CF hC hB ⊢
    go_enter Tryz.func21, Tryz.ntmps21
    go_wp2_with fail
    refine (CF.out _).mono ?_
    rintro e w1 ⟨rfl, hb1⟩
    have hB1 := hB.trans (hb1.mono hB.size)
    go_wp2
    go_ret
    exact ⟨ret_int HR2.out.symm, hB1⟩
  have hnI : ¬ (200 : Int) < (n : Int) := by omega
  have CK := Lib.hid (fun (k : Nat) (t : Tr) (ht : xs[k]? = some t) (W : World) => check_any cf ⟨1, t.a, t.b, t.c⟩ W hcf)
  have HT := Lib.hid (fun (k : Nat) (t : Tr) (ht : xs[k]? = some t) (h : ∀ u ∈ xs.take k, trMay cf.w cf.d u = true) (hm : trMay cf.w cf.d t = true) => take_all ht h hm)
  have HBad := Lib.hid (fun (k : Nat) (t : Tr) (ht : xs[k]? = some t) (hm : trMay cf.w cf.d t = false) => HR.out.trans (colMay_bad hcf ht hm))
  have HGood : Hid ((∀ u ∈ xs.take n, trMay cf.w cf.d u = true) → r = 0) := by
    intro h
    rw [List.take_of_length_le (by rw [Hl.out]; exact Nat.le_refl _)] at h
    rw [HR.out]
    exact colMay_zero.2 ⟨hcf, by rw [Hl.out]; omega, h⟩
  clear HR hcf
  have E1 : ∀ t : Tr, checkE cf ⟨1, t.a, t.b, t.c⟩ = if trMay cf.w cf.d t then 0 else 40 := fun t => rfl
  have HE := Lib.hid E1
  clear E1
  obtain ⟨M, hM⟩ : ∃ M : Tr → Bool, M = trMay cf.w cf.d := ⟨_, rfl⟩
  obtain ⟨G, hG⟩ : ∃ G : Tr → Int, G = fun t => checkE cf ⟨1, t.a, t.b, t.c⟩ := ⟨_, rfl⟩
  have hMt : ∀ t, trMay cf.w cf.d t = M t := fun t => by rw [hM]
  have hGt : ∀ t : Tr, checkE cf ⟨1, t.a, t.b, t.c⟩ = G t := fun t => by rw [hG]
  simp only [hMt] at HT HBad HGood HE
  simp only [hGt] at CK HE
  clear hM hG hMt hGt
  obtain ⟨clear_, climb, height, rise, run, cw, cd⟩ := cf
  dsimp only [cfgO, cfgV, trA] at CF hC hB CK ⊢
  obtain ⟨T, hTT⟩ : ∃ T, T = w.heap.size := ⟨_, rfl⟩
  rw [← hTT] at hC
  have HTT := Lib.hid hTT
  clear hTT
  go_enter Tryz.func21, Tryz.ntmps21
  go_wp2_with fail
  refine (CF.out _).mono ?_
  rintro e w1 ⟨rfl, hb1⟩
  have hB1 := hB.trans (hb1.mono hB.size)
  have hC1 := hkeep hb1 hC
  rw [← HTT.out]
  clear hB hb1 hC
  go_wp2
  go_loopw [17] (fun s17 wr => ∃ k : Nat, s17 = .int .i64 k ∧ k ≤ n ∧ Hid (∀ u ∈ xs.take k, M u = true) ∧ wr.heap[T]? = some (.cells #[.int .i64 clear_, .int .i64 climb, .int .i64 height, .int .i64 rise, .int .i64 run, .int .i64 cw, .int .i64 cd] 23 (0, 0)) ∧ Below w.heap.size w wr) (fun s17 _ => n - (intOf s17).toNat)
  case atStart => exact ⟨0, rfl, Nat.zero_le _, fun u hu => by simp at hu, hC1, hB1⟩
  case round =>
    obtain ⟨k, rfl, hk, Hpre, hCr, hbr⟩ := hrel
    clear hC1 hB1
    by_cases hlt : k < n
    · have hltI : (k : Int) < (n : Int) := by omega
      obtain ⟨t, ht⟩ : ∃ t, xs[k]? = some t := ⟨_, List.getElem?_eq_getElem (by rw [Hl.out]; exact hlt)⟩
      have hxr := Hx.out.below hbr (Nat.le_refl _)
      obtain ⟨bk, off, rfl, hbl, hc⟩ := hxr.at0 (by omega)
      obtain ⟨q0, q1, q2, q3, q4, q5, q6, q7, q8, q9⟩ := SlTr.cells hc ht
      have CK2 := Lib.hid (CK.out k t ht)
      have HE2 := Lib.hid (HE.out t)
      have HT2 := Lib.hid (HT.out k t ht Hpre.out)
      have HB2 := Lib.hid (HBad.out k t ht)
      generalize M t = m at HE2 HT2 HB2
      generalize G t = g at HE2 CK2
      clear hc hxr ht Hx
      obtain ⟨i, ⟨ax, ay, az⟩, ⟨bx, by_, bz⟩, ⟨cx, cy, cz⟩⟩ := t
      simp only at q0 q1 q2 q3 q4 q5 q6 q7 q8 q9 CK2
      have e0 := hcell (k := 0) (v := .int .i64 clear_) hCr rfl
      have e1 := hcell (k := 1) (v := .int .i64 climb) hCr rfl
      have e2 := hcell (k := 2) (v := .int .i64 height) hCr rfl
      have e3 := hcell (k := 3) (v := .int .i64 rise) hCr rfl
      have e4 := hcell (k := 4) (v := .int .i64 run) hCr rfl
      have e5 := hcell (k := 5) (v := .int .i64 cw) hCr rfl
      have e6 := hcell (k := 6) (v := .int .i64 cd) hCr rfl
      have hTl := hblt hCr
      have hCA := halloc hCr (.cells #[.int .i64 1, .int .i64 ax, .int .i64 ay, .int .i64 az, .int .i64 bx, .int .i64 by_, .int .i64 bz, .int .i64 cx, .int .i64 cy, .int .i64 cz] 35)
      have hbA := hbr.alloc hbr.size (.cells #[.int .i64 1, .int .i64 ax, .int .i64 ay, .int .i64 az, .int .i64 bx, .int .i64 by_, .int .i64 bz, .int .i64 cx, .int .i64 cy, .int .i64 cz] 35)
      go_wp2_with fail
      refine (CK2.out _).mono ?_
      rintro e w3 ⟨rfl, hb3⟩
      have hC3 := hkeep hb3 hCA
      have hB3 := hbA.trans (hb3.mono hbA.size)
      clear q0 q1 q2 q3 q4 q5 q6 q7 q8 q9 e0 e1 e2 e3 e4 e5 e6 hCA hbA hb3
      cases m with
      | true =>
        have eg : g = 0 := HE2.out
        subst eg
        go_wp2
        go_roundw
        case rel => exact ⟨k + 1, by go_num, by omega, HT2.out (by first | rfl | trivial), hC3, hB3⟩
        case measure => simp [intOf]; omega
      | false =>
        have eg : g = 40 := HE2.out
        subst eg
        have HR2 : Hid (r = 2) := HB2.out (by first | rfl | trivial)
        go_wp2
        go_ret
        exact ⟨ret_int HR2.out.symm, hB3⟩
    · obtain rfl : k = n := by omega
      have HR2 : Hid (r = 0) := HGood.out Hpre.out
      go_wp2
      go_ret
      exact ⟨ret_int HR2.out.symm, hbr⟩
end Go.Proofs.YtdkikecjlbgmdaaGreat
