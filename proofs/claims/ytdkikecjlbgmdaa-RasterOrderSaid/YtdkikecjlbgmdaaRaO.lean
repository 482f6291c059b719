/- Walk: the law 'the order of triangles does not matter'. -/
import Derived.Test.YtdkikecjlbgmdaaRaE
namespace Go.Proofs.Ytdkikecjlbgmdaa
open Go.RowKit
attribute [local go_sem] Instr.index

theorem trC_one (t : Tr) : ∀ u ∈ trC t, u.oneCell' = true := by
  intro u hu
  simp [trC] at hu
  rcases hu with h | h | h | h | h | h | h | h | h | h <;> (subst h; rfl)
theorem info_tri : (Try.prog.info? 35).map (fun i => (i.zero, i.size, i.bytes)) = some (some (.agg #[.int .i64 0, .int .i64 0, .int .i64 0, .int .i64 0, .int .i64 0, .int .i64 0, .int .i64 0, .int .i64 0, .int .i64 0, .int .i64 0]), 10, 80) := by kernel_rfl
theorem mod_at (c : Int) (n : Nat) (hn : 0 < n) : ∃ k : Nat, k < n ∧ ((c.tmod (n : Int)) + (n : Int)).tmod (n : Int) = (k : Int) ∧ -(n : Int) < c.tmod (n : Int) ∧ c.tmod (n : Int) < (n : Int) := by
  have h0 : (0 : Int) < (n : Int) := by omega
  have h1 := Int.lt_tmod_of_pos c h0
  have h2 : 0 ≤ ((c.tmod (n : Int)) + (n : Int)).tmod (n : Int) := Int.tmod_nonneg _ (by omega)
  have h3 := Int.tmod_lt_of_pos ((c.tmod (n : Int)) + (n : Int)) h0
  have h4 := Int.tmod_lt_of_pos c h0
  exact ⟨_, by omega, (Int.toNat_of_nonneg h2).symm, by omega, h4⟩
set_option maxRecDepth 100000 in
set_option maxHeartbeats 8000000 in
theorem rasterorder_any (cf : Cfg) (a : Option Addr) (n c : Nat) (xs : List Tr) (x z k j : Int) (w : World) (hx : SlTr w a n c xs) :
    Calls Try.prog 3 #[cfgV cf, .slice a n c, .int .i64 x, .int .i64 z, .int .i64 k, .int .i64 j] w fun e w' => e = .returned (.bool true) ∧ Below w.heap.size w w' := by
  have WK := Lib.hid (fun W => wakes09_any W)
  have Hl := Lib.hid hx.len
  have hle := hx.le
  have hmax := hx.max
  have hC := World.alloc_heap_new w (cfgO cf)
  have hB : Below w.heap.size w (w.alloc (cfgO cf)) := (Below.refl _ _).alloc (Nat.le_refl _) _
  have hX := hx.alloc (cfgO cf)
  clear hx
  by_cases h40 : 40 < n
  · have h40I : (40 : Int) < (n : Int) := by omega
    have hd : decide ((40 : Int) < (n : Int)) = true := decide_eq_true h40I
    have GR := Lib.hid (fun W => great09_any a n c W)
    rw [hd] at GR
    clear hd
    obtain ⟨cl, climb, height, rise, run, cw, cd⟩ := cf
    dsimp only [cfgO, cfgV] at hC hB hX ⊢
    go_enter Try.func3, Try.ntmps3
    go_wp2_with fail
    refine (GR.out _).mono ?_
    rintro e w1 ⟨rfl, rfl⟩
    go_wp2_with fail
    refine (WK.out _).mono ?_
    rintro e w2 ⟨rfl, hb2⟩
    have hB2 := hB.trans (hb2.mono hB.size)
    go_wp2
    go_ret
    exact ⟨rfl, hB2⟩
  have h40I : ¬ (40 : Int) < (n : Int) := by omega
  have hd : decide ((40 : Int) < (n : Int)) = false := decide_eq_false h40I
  have GR := Lib.hid (fun W => great09_any a n c W)
  rw [hd] at GR
  clear hd h40I
  by_cases h0 : n = 0
  · subst h0
    obtain ⟨cl, climb, height, rise, run, cw, cd⟩ := cf
    dsimp only [cfgO, cfgV] at hC hB hX ⊢
    go_enter Try.func3, Try.ntmps3
    go_wp2_with fail
    refine (GR.out _).mono ?_
    rintro e w1 ⟨rfl, rfl⟩
    go_wp2_with fail
    refine (WK.out _).mono ?_
    rintro e w2 ⟨rfl, hb2⟩
    have hB2 := hB.trans (hb2.mono hB.size)
    go_wp2
    go_ret
    exact ⟨rfl, hB2⟩
  have hn0 : 0 < n := by omega
  have hnI : (0 : Int) < (n : Int) := by omega
  have hnz : ¬ (n : Int) = 0 := by omega
  obtain ⟨kk, hk1, hk2, hk3, hk4⟩ := mod_at k n hn0
  obtain ⟨jj, hj1, hj2, hj3, hj4⟩ := mod_at j n hn0
  have hkw : (wrap64 (k.tmod (n : Int) + (n : Int))).tmod (n : Int) = (kk : Int) := by rw [IntWalk.wrap64_in _ (by omega)]; exact hk2
  have hjw : (wrap64 (j.tmod (n : Int) + (n : Int))).tmod (n : Int) = (jj : Int) := by rw [IntWalk.wrap64_in _ (by omega)]; exact hj2
  obtain ⟨tj, htj⟩ : ∃ t, xs[jj]? = some t := ⟨_, List.getElem?_eq_getElem (by rw [Hl.out]; exact hj1)⟩
  have HEQ : Hid (colAll cf ((xs.drop kk ++ xs.take kk) ++ [tj]) x z = colAll cf xs x z) :=
    colAll_set (fun t => turned_mem kk (List.mem_of_getElem? htj)) (by rw [Hl.out]; omega) (by simp [Hl.out]; omega)
  have C1 := Lib.hid (fun W hW => rascolumn_any cf a n c xs x z W hW)
  have C2 := Lib.hid (fun (a' : Option Addr) (c' : Nat) (W : World) hW => rascolumn_any cf a' (n + 1) c' ((xs.drop kk ++ xs.take kk) ++ [tj]) x z W hW)
  rw [HEQ.out] at C2
  clear hk2 hk3 hk4 hj2 hj3 hj4 HEQ
  obtain ⟨R, hR⟩ : ∃ R, R = colAll cf xs x z := ⟨_, rfl⟩
  rw [← hR] at C1 C2
  clear hR
  obtain ⟨b, off, rfl, hbl, _⟩ := hX.at0 hn0
  have htj' := Lib.hid htj
  clear htj hbl
  obtain ⟨cl, climb, height, rise, run, cw, cd⟩ := cf
  dsimp only [cfgO, cfgV] at hC hB hX C1 C2 ⊢
  have hk1I : (kk : Int) ≤ (n : Int) := by omega
  have hk0I : (0 : Int) ≤ (kk : Int) := by omega
  have hkc : (kk : Int) ≤ (c : Int) := by omega
  have hkc' : kk ≤ c := by omega
  have hkn' : kk ≤ n := by omega
  have hkne : ¬ c = kk := by omega
  have hkneI : ¬ (c : Int) = (kk : Int) := by omega
  have hjI : (jj : Int) < (n : Int) := by omega
  have hj0I : (0 : Int) ≤ (jj : Int) := by omega
  have hncI : (n : Int) ≤ (c : Int) := by omega
  go_enter Try.func3, Try.ntmps3
  go_wp2_with fail
  refine (GR.out _).mono ?_
  rintro e w1 ⟨rfl, rfl⟩
  go_wp2_with fail
  refine (C1.out _ hX).mono ?_
  rintro e w2 ⟨v1, rfl, hv1, hb2⟩
  have hB2 := hB.trans (hb2.mono hB.size)
  have hC2 := hkeep hb2 hC
  have hX2 := hX.below hb2 (Nat.le_refl _)
  clear hB hC hX hb2 GR C1
  go_upto_region 6 with fail
  go_region_held3 (fun WW => Below w2.heap.size w2 WW) (first | (repeat (first | with_reducible exact Below.refl _ _ | with_reducible assumption | with_reducible refine Below.drew ?_ | (with_reducible refine Below.alloc ?_ ?_ _; rotate_left; (first | omega | (simp; done) | (simp; omega)); skip)))) (first
    | (refine step_appSA _ trC_len trC_one rfl _ _ 24 rfl (.agg #[.int .i64 0, .int .i64 0, .int .i64 0, .int .i64 0, .int .i64 0, .int .i64 0, .int .i64 0, .int .i64 0, .int .i64 0, .int .i64 0]) 80 Try.underlying24 info_tri rfl (by decide) w2.heap.size _ 0 [] (OwnR.empty (World.alloc_heap_new _ _) (Nat.le_refl _)) rfl (some ⟨b, off + kk * 10, none⟩) (n - kk) (c - kk) (xs.drop kk) (SlR.dropA (hX2.below ((Below.refl _ _).drew.alloc (Nat.le_refl _) _) (Nat.le_refl _)) hkn') rfl (by omega) (by omega) (by simp) ?_; intro va wa hva hba; have hBa : Below w2.heap.size w2 wa := ((Below.refl _ _).drew.alloc (Nat.le_refl _) _).trans hba; have hSa := hBa.size)
    | (refine step_appSA _ trC_len trC_one rfl _ _ 24 rfl (.agg #[.int .i64 0, .int .i64 0, .int .i64 0, .int .i64 0, .int .i64 0, .int .i64 0, .int .i64 0, .int .i64 0, .int .i64 0, .int .i64 0]) 80 Try.underlying24 info_tri rfl (by decide) w2.heap.size va (0 + (n - kk)) ([] ++ xs.drop kk) hva rfl (some ⟨b, off, none⟩) kk c (xs.take kk) (SlR.takeA (hX2.below hBa (Nat.le_refl _)) hkn') rfl (by omega) (by omega) hSa ?_; intro vb wb hvb hbb; have hBb : Below w2.heap.size w2 wb := hBa.trans hbb; have hSb := hBb.size)
    | fail)
  rename_i hH
  clear hH
  rw [Nat.zero_add, List.nil_append, Nat.sub_add_cancel hkn'] at hvb
  obtain ⟨_, _, hb0, _, hc⟩ := hX2.at0 hn0
  cases hb0
  obtain ⟨q0, q1, q2, q3, q4, q5, q6, q7, q8, q9⟩ := SlTr.cells hc htj'.out
  clear hba hbb hva hSa hc hkw hjw
  obtain ⟨ti, ⟨ax, ay, az⟩, ⟨bx, by_, bz⟩, ⟨cx, cy, cz⟩⟩ := tj
  dsimp only at q0 q1 q2 q3 q4 q5 q6 q7 q8 q9 C2
  have c0 : ∀ WW, Below w2.heap.size w2 WW → WW.cell? ⟨w.heap.size, 0, none⟩ = some (.int .i64 cl) := fun WW hb => hbc hb (hcell (k := 0) hC2 rfl)
  have c1 : ∀ WW, Below w2.heap.size w2 WW → WW.cell? ⟨w.heap.size, 1, none⟩ = some (.int .i64 climb) := fun WW hb => hbc hb (hcell (k := 1) hC2 rfl)
  have c2 : ∀ WW, Below w2.heap.size w2 WW → WW.cell? ⟨w.heap.size, 2, none⟩ = some (.int .i64 height) := fun WW hb => hbc hb (hcell (k := 2) hC2 rfl)
  have c3 : ∀ WW, Below w2.heap.size w2 WW → WW.cell? ⟨w.heap.size, 3, none⟩ = some (.int .i64 rise) := fun WW hb => hbc hb (hcell (k := 3) hC2 rfl)
  have c4 : ∀ WW, Below w2.heap.size w2 WW → WW.cell? ⟨w.heap.size, 4, none⟩ = some (.int .i64 run) := fun WW hb => hbc hb (hcell (k := 4) hC2 rfl)
  have c5 : ∀ WW, Below w2.heap.size w2 WW → WW.cell? ⟨w.heap.size, 5, none⟩ = some (.int .i64 cw) := fun WW hb => hbc hb (hcell (k := 5) hC2 rfl)
  have c6 : ∀ WW, Below w2.heap.size w2 WW → WW.cell? ⟨w.heap.size, 6, none⟩ = some (.int .i64 cd) := fun WW hb => hbc hb (hcell (k := 6) hC2 rfl)
  have t0 : ∀ WW, Below w2.heap.size w2 WW → WW.cell? ⟨b, off + jj * 10, none⟩ = some (.int .i64 ti) := fun WW hb => hbc hb q0
  have t1 : ∀ WW, Below w2.heap.size w2 WW → WW.cell? ⟨b, off + jj * 10 + 1, none⟩ = some (.int .i64 ax) := fun WW hb => hbc hb q1
  have t2 : ∀ WW, Below w2.heap.size w2 WW → WW.cell? ⟨b, off + jj * 10 + 2, none⟩ = some (.int .i64 ay) := fun WW hb => hbc hb q2
  have t3 : ∀ WW, Below w2.heap.size w2 WW → WW.cell? ⟨b, off + jj * 10 + 3, none⟩ = some (.int .i64 az) := fun WW hb => hbc hb q3
  have t4 : ∀ WW, Below w2.heap.size w2 WW → WW.cell? ⟨b, off + jj * 10 + 4, none⟩ = some (.int .i64 bx) := fun WW hb => hbc hb q4
  have t5 : ∀ WW, Below w2.heap.size w2 WW → WW.cell? ⟨b, off + jj * 10 + 5, none⟩ = some (.int .i64 by_) := fun WW hb => hbc hb q5
  have t6 : ∀ WW, Below w2.heap.size w2 WW → WW.cell? ⟨b, off + jj * 10 + 6, none⟩ = some (.int .i64 bz) := fun WW hb => hbc hb q6
  have t7 : ∀ WW, Below w2.heap.size w2 WW → WW.cell? ⟨b, off + jj * 10 + 7, none⟩ = some (.int .i64 cx) := fun WW hb => hbc hb q7
  have t8 : ∀ WW, Below w2.heap.size w2 WW → WW.cell? ⟨b, off + jj * 10 + 8, none⟩ = some (.int .i64 cy) := fun WW hb => hbc hb q8
  have t9 : ∀ WW, Below w2.heap.size w2 WW → WW.cell? ⟨b, off + jj * 10 + 9, none⟩ = some (.int .i64 cz) := fun WW hb => hbc hb q9
  clear q0 q1 q2 q3 q4 q5 q6 q7 q8 q9
  go_upto_region 7 with fail
  go_region_held3 (fun WW => Below w2.heap.size w2 WW) (first | (repeat (first | with_reducible exact Below.refl _ _ | with_reducible assumption | with_reducible refine Below.drew ?_ | (with_reducible refine Below.alloc ?_ ?_ _; rotate_left; (first | omega | (simp; done) | (simp; omega)); skip)))) (first
    | (refine step_appSA _ trC_len trC_one rfl _ _ 24 rfl (.agg #[.int .i64 0, .int .i64 0, .int .i64 0, .int .i64 0, .int .i64 0, .int .i64 0, .int .i64 0, .int .i64 0, .int .i64 0, .int .i64 0]) 80 Try.underlying24 info_tri rfl (by decide) w2.heap.size vb n (xs.drop kk ++ xs.take kk) (OwnR.alloc (w := wb.drew) hvb _) rfl (some ⟨wb.heap.size, 0, none⟩) 1 1 [(⟨ti, ⟨ax, ay, az⟩, ⟨bx, by_, bz⟩, ⟨cx, cy, cz⟩⟩ : Tr)] (SlR.block (xs := [(⟨ti, ⟨ax, ay, az⟩, ⟨bx, by_, bz⟩, ⟨cx, cy, cz⟩⟩ : Tr)]) trC_len (World.alloc_heap_new _ _) rfl (by simp)) rfl (by omega) (by omega) (by simp; omega) ?_; intro vc wc hvc hbc9; obtain ⟨a9, c9, rfl, r9⟩ := OwnR.reads trC_len hvc; have hBc : Below w2.heap.size w2 wc := (by refine Below.trans ?_ hbc9; (repeat (first | with_reducible exact Below.refl _ _ | with_reducible assumption | with_reducible refine Below.drew ?_ | (with_reducible refine Below.alloc ?_ ?_ _; rotate_left; (first | omega | (simp; done) | (simp; omega)); skip)))); have hSc := hBc.size)
    | (go_at_call 6; refine (C2.out _ _ _ r9).mono ?_; rintro e wd ⟨v2, rfl, hv2, hb9⟩; have hBd : Below w2.heap.size w2 wd := hBc.trans (hb9.mono hBc.size); have hSd := hBd.size)
    | fail)
  rename_i hH
  clear hH
  have hB3 := hB2.trans (hBd.mono hB2.size)
  have hv3 := hv1.below hBd (Nat.le_refl _)
  obtain ⟨a1, k1, rfl, r1⟩ := OwnR.reads spnC_len hv3
  obtain ⟨a2, k2, rfl, r2⟩ := OwnR.reads spnC_len hv2
  have R1 := Lib.hid r1
  have R2 := Lib.hid r2
  clear r1 r2 hv1 hv2 hv3 hvc r9 hvb hC2 hX2 C2 c0 c1 c2 c3 c4 c5 c6 t0 t1 t2 t3 t4 t5 t6 t7 t8 t9 hBb hSb hBc hSc hBd hSd hb9 hbc9 hB2 htj'
  go_wp2_with fail
  refine (refsame_self a1 a2 _ k1 k2 _ _ R1.out R2.out).mono ?_
  rintro e w5 ⟨rfl, hb5⟩
  have hB5 := hB3.trans (hb5.mono hB3.size)
  clear hb5 hB3 R1 R2
  go_wp2_with fail
  refine (WK.out _).mono ?_
  rintro e w6 ⟨rfl, hb6⟩
  have hB6 := hB5.trans (hb6.mono hB5.size)
  clear hb6 hB5
  go_wp2
  go_ret
  exact ⟨rfl, hB6⟩
end Go.Proofs.Ytdkikecjlbgmdaa
