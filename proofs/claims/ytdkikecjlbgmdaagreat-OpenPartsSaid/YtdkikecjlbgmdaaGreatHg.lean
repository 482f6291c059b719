/- Walks: open.Check of a grid that was built. -/
import Derived.Test.YtdkikecjlbgmdaaGreatHf
namespace Go.Proofs.YtdkikecjlbgmdaaGreat
open Go.RowKit
attribute [local go_sem] Instr.index

theorem SlFlr.cells {w : World} {b off : Nat} {xs : List Flr} (h : ∀ i x, xs[i]? = some x → ∀ j v, (flrC x)[j]? = some v → w.cell? ⟨b, off + i * 3 + j, none⟩ = some v) {k : Nat} {x : Flr} (hx : xs[k]? = some x) :
    w.cell? ⟨b, off + k * 3, none⟩ = some (.int .i64 x.y) ∧ w.cell? ⟨b, off + k * 3 + 1, none⟩ = some (.int .i64 x.top) ∧ w.cell? ⟨b, off + k * 3 + 2, none⟩ = some (.int .i64 x.area) :=
  ⟨h k x hx 0 _ rfl, h k x hx 1 _ rfl, h k x hx 2 _ rfl⟩
set_option maxRecDepth 100000 in
set_option maxHeartbeats 4000000 in
theorem may1_any (cf : Cfg) (a : Option Addr) (n c : Nat) (fs : List Flr) (w : World) (hx : SlFl w a n c fs) (hg : FlrsGood cf fs) :
    Calls Tryz.prog 60 #[.slice a n c] w fun e w' => e = .returned (.bool false) ∧ Below w.heap.size w w' := by
  have Hl := Lib.hid hx.len
  have hmax := hx.max
  have hle := hx.le
  have h8 : ¬ (8 : Int) < (n : Int) := by have := hg.len; rw [Hl.out] at this; omega
  have Hx := Lib.hid hx; clear hx
  have HE := Lib.hid hg.each
  have HR := Lib.hid hg.rises
  clear hg
  go_enter Tryz.func60, Tryz.ntmps60
  go_wp2
  go_loopw [3, 8] (fun s3 s8 wr => ∃ (k : Nat) (last : Int), s8 = .int .i64 k ∧ s3 = .int .i64 last ∧ k ≤ n ∧ Hid (∀ f, fs[k]? = some f → last ≤ f.y) ∧ Below w.heap.size w wr) (fun _ s8 _ => n - (intOf s8).toNat)
  case atStart => exact ⟨0, -2048, rfl, rfl, Nat.zero_le _, fun f hf => (HE.out 0 f hf).1, Below.refl _ _⟩
  case round =>
    obtain ⟨k, last, rfl, rfl, hk, HL, hbr⟩ := hrel
    by_cases hlt : k < n
    · have hltI : (k : Int) < (n : Int) := by omega
      obtain ⟨f, hf⟩ : ∃ f, fs[k]? = some f := ⟨_, List.getElem?_eq_getElem (by rw [Hl.out]; exact hlt)⟩
      obtain ⟨bk, off, rfl, hbl, hc⟩ := (Hx.out.below hbr (Nat.le_refl _)).at0 (by omega)
      obtain ⟨q0, q1, q2⟩ := SlFlr.cells hc hf
      have h1 := HL.out f hf
      obtain ⟨_, h2, h3, h4, h5, _⟩ := HE.out k f hf
      have HR2 : Hid (∀ g, fs[k + 1]? = some g → f.top ≤ g.y) := fun g hg => HR.out k g f hf hg
      have g1 : ¬ f.y < last := by omega
      have g2 : ¬ 2048 < f.y := by omega
      have g3 : ¬ f.top ≤ f.y := by omega
      have g4 : ¬ 1048576 < f.top := by omega
      clear hc hf HL h1 h2 h3 h4 HR HE
      obtain ⟨fy, ft, fa⟩ := f
      dsimp only at q0 q1 q2 h5 HR2 g1 g2 g3 g4
      subst h5
      have hbA := hbr.alloc hbr.size (.cells #[.int .i64 fy, .int .i64 ft, .int .i64 1] 56)
      go_wp2
      go_roundw
      case rel => exact ⟨k + 1, ft, by go_num, rfl, by omega, HR2.out, hbA⟩
      case measure => simp [intOf]; omega
    · obtain rfl : k = n := by omega
      go_wp2
      go_ret
      exact ⟨ret_bool (decide_eq_false (by omega)), hbr⟩
/-- No row is told of. -/
theorem gidx_any (cf : Cfg) (a : Option Addr) (n c : Nat) (hs : List Hd) (rows : List (List Flr)) (w : World) (hx : SlRR flrC 3 w a n c hs rows) (hg : ∀ r ∈ rows, FlrsGood cf r) :
    Calls Tryz.prog 81 #[.slice a n c, .func (.func 60) #[] #[]] w fun e w' => e = .returned (.int .i64 (-1)) ∧ Below w.heap.size w w' := by
  have Hl := Lib.hid (hx.len.symm.trans hx.out.len)
  have hmax := hx.out.max
  have hle := hx.out.le
  have Hx := Lib.hid hx; clear hx
  have M1 := Lib.hid (fun (a' : Option Addr) (n' c' : Nat) (r : List Flr) (W : World) (hr : r ∈ rows) hW => may1_any cf a' n' c' r W hW (hg r hr))
  clear hg
  go_enter Tryz.func81, Tryz.ntmps81
  go_wp2
  go_loopw [8] (fun s8 wr => ∃ k : Nat, s8 = .int .i64 k ∧ k ≤ n ∧ Below w.heap.size w wr) (fun s8 _ => n - (intOf s8).toNat)
  case atStart => exact ⟨0, rfl, Nat.zero_le _, Below.refl _ _⟩
  case round =>
    obtain ⟨k, rfl, hk, hbr⟩ := hrel
    by_cases hlt : k < n
    · have hltI : (k : Int) < (n : Int) := by omega
      obtain ⟨r, hr⟩ : ∃ r, rows[k]? = some r := ⟨_, List.getElem?_eq_getElem (by rw [Hl.out]; exact hlt)⟩
      have hxr := Hx.out.below hbr (Nat.le_refl _)
      obtain ⟨bk, off, rfl, hbl, _⟩ := hxr.out.at0 (by omega)
      obtain ⟨⟨ha, hn, hc⟩, hcell, hsl⟩ := hxr.at hr
      have M2 := Lib.hid (M1.out ha hn hc r wr (List.mem_of_getElem? hr) hsl)
      dsimp only at hcell
      clear hxr hsl hr
      go_wp2_with fail
      refine M2.out.mono ?_
      rintro e w5 ⟨rfl, hb5⟩
      have hB5 := hbr.trans (hb5.mono hbr.size)
      clear hb5 hbr hcell M2
      go_wp2
      go_roundw
      case rel => exact ⟨k + 1, by go_num, by omega, hB5⟩
      case measure => simp [intOf]; omega
    · obtain rfl : k = n := by omega
      go_wp2
      go_ret
      exact ⟨rfl, hbr⟩
theorem gcont_any (cf : Cfg) (a : Option Addr) (n c : Nat) (hs : List Hd) (rows : List (List Flr)) (w : World) (hx : SlRR flrC 3 w a n c hs rows) (hg : ∀ r ∈ rows, FlrsGood cf r) :
    Calls Tryz.prog 59 #[.slice a n c, .func (.func 60) #[] #[]] w fun e w' => e = .returned (.bool false) ∧ Below w.heap.size w w' := by
  have I := Lib.hid (gidx_any cf a n c hs rows w hx hg)
  clear hx hg
  go_enter Tryz.func59, Tryz.ntmps59
  go_wp2_with fail
  refine I.out.mono ?_
  rintro e w1 ⟨rfl, hb1⟩
  go_wp2
  go_ret
  exact ⟨rfl, hb1⟩
set_option maxRecDepth 100000 in
set_option maxHeartbeats 4000000 in
theorem lookmay_any (cf : Cfg) (x z : Int) (bw bd : Nat) (a : Option Addr) (n c : Nat) (hs : List Hd) (rows : List (List Flr)) (G : Nat) (w : World) (hG : w.heap[G]? = some (grdO x z bw bd (.slice a n c))) (hx : SlRR flrC 3 w a n c hs rows) (hg : ∀ r ∈ rows, FlrsGood cf r) (hin : inBox x z bw bd = true) (hn : n = bw * bd) :
    Calls Tryz.prog 34 #[.agg #[.pointer (some ⟨G, 0, none⟩)]] w fun e w' => e = .returned (.bool true) ∧ Below w.heap.size w w' := by
  obtain ⟨i1, i2, i3, i4, i5, i6, i7, i8⟩ := inBox_iff.1 hin
  have hG1 := halloc hG (.cells #[.pointer (some ⟨G, 0, none⟩)] 84)
  have hx1 := hx.below ((Below.refl w.heap.size w).alloc (Nat.le_refl _) (.cells #[.pointer (some ⟨G, 0, none⟩)] 84)) (Nat.le_refl _)
  have C1 := Lib.hid (gcont_any cf a n c hs rows _ hx1 hg)
  have hB : Below w.heap.size w (w.alloc (.cells #[.pointer (some ⟨G, 0, none⟩)] 84)) := (Below.refl _ _).alloc (Nat.le_refl _) _
  have hmul : bw * bd ≤ 4096 := Nat.mul_le_mul (by omega : bw ≤ 64) (by omega : bd ≤ 64)
  have hcast : (bw : Int) * (bd : Int) = (n : Int) := by rw [hn]; simp
  have hwr : IntKind.i64.wrap (n : Int) = (n : Int) := by rw [IntKind.wrap_i64]; omega
  have N1 : Hid (¬ min x z < -64) := by show ¬ _; omega
  have N2 : Hid (¬ 64 < max x z) := by show ¬ _; omega
  have N3 : Hid (¬ min (bw : Int) (bd : Int) < 0) := by show ¬ _; omega
  have N4 : Hid (¬ 64 < max (bw : Int) (bd : Int)) := by show ¬ _; omega
  dsimp only [grdO] at hG1
  have g0 := hcell (k := 0) (v := .int .i64 x) hG1 rfl
  have g1 := hcell (k := 1) (v := .int .i64 z) hG1 rfl
  have g2 := hcell (k := 2) (v := .int .i64 bw) hG1 rfl
  have g3 := hcell (k := 3) (v := .int .i64 bd) hG1 rfl
  have g4 := hcell (k := 4) (v := .slice a n c) hG1 rfl
  have g5 := hcell (k := 0) (v := .pointer (some ⟨G, 0, none⟩)) (World.alloc_heap_new w (.cells #[.pointer (some ⟨G, 0, none⟩)] 84)) rfl
  clear hG hx hin hn hmul i1 i2 i3 i4 i5 i6 i7 i8 C1
  go_enter Tryz.func34, Tryz.ntmps34
  go_wp2
  generalize w.alloc (.cells #[.pointer (some ⟨G, 0, none⟩)] 84) = W0 at hG1 hx1 hB g0 g1 g2 g3 g4 g5 ⊢
  have e_g0 := fun d os => cell_regrown g0 d os
  have e_g1 := fun d os => cell_regrown g1 d os
  have e_g2 := fun d os => cell_regrown g2 d os
  have e_g3 := fun d os => cell_regrown g3 d os
  have e_g4 := fun d os => cell_regrown g4 d os
  have e_g5 := fun d os => cell_regrown g5 d os
  clear g0 g1 g2 g3 g4
  refine wp_region_quiet_below (by kernel_rfl) (by kernel_rfl) ?_
  have n1 : decide (min x z < -64) = false := decide_eq_false (by have := N1.out; omega)
  have n2 : decide (64 < max x z) = false := decide_eq_false (by have := N2.out; omega)
  have n3 : decide (min (bw : Int) (bd : Int) < 0) = false := decide_eq_false (by have := N3.out; omega)
  have n4 : decide (64 < max (bw : Int) (bd : Int)) = false := decide_eq_false (by have := N4.out; omega)
  repeat (go_big_quiet_step (fail))
  refine wpQuiet_nil ?_
  rintro w4 ⟨⟨dq, osq⟩, hw4⟩
  have hstep : Below W0.heap.size W0 w4 := by rw [hw4]; exact below_regrown W0 dq osq
  clear hw4 e_g0 e_g1 e_g2 e_g3 e_g4 e_g5
  have hG4 := hkeep hstep hG1
  have hB4 := hB.trans (hstep.mono hB.size)
  have hx4 := hx1.below hstep (Nat.le_refl _)
  have C1 := Lib.hid (gcont_any cf a n c hs rows _ hx4 hg)
  have g4 := hcell (k := 4) (v := .slice a n c) hG4 rfl
  have g5 := (hbc hstep g5)
  clear hstep hG1 hB hx1 hx4 hg
  go_wp2_with fail
  refine C1.out.mono ?_
  rintro e w5 ⟨rfl, hb5⟩
  have hB5 := hB4.trans (hb5.mono hB4.size)
  go_wp2
  go_ret
  exact ⟨rfl, hB5⟩
set_option maxHeartbeats 2000000 in
theorem ocheck_any (cf : Cfg) (x z : Int) (bw bd : Nat) (a : Option Addr) (n c : Nat) (hs : List Hd) (rows : List (List Flr)) (w : World) (hx : SlRR flrC 3 w a n c hs rows) (hg : ∀ r ∈ rows, FlrsGood cf r) (hin : inBox x z bw bd = true) (hn : n = bw * bd) :
    Calls Tryz.prog 19 #[grdV x z bw bd (.slice a n c)] w fun e w' => e = .returned (.int .i64 0) ∧ Below w.heap.size w w' := by
  have hG := World.alloc_heap_new w (grdO x z bw bd (.slice a n c))
  have hB : Below w.heap.size w (w.alloc (grdO x z bw bd (.slice a n c))) := (Below.refl _ _).alloc (Nat.le_refl _) _
  have L := Lib.hid (lookmay_any cf x z bw bd a n c hs rows w.heap.size _ hG (hx.below hB (Nat.le_refl _)) hg hin hn)
  clear hx hg hin hn hG
  dsimp only [grdO, grdV] at L hB ⊢
  go_enter Tryz.func19, Tryz.ntmps19
  go_wp2_with fail
  refine L.out.mono ?_
  rintro e w1 ⟨rfl, hb1⟩
  have hB1 := hB.trans (hb1.mono hB.size)
  go_wp2
  go_ret
  exact ⟨rfl, hB1⟩
end Go.Proofs.YtdkikecjlbgmdaaGreat

namespace Go.Proofs.YtdkikecjlbgmdaaGreat
open Go.RowKit
attribute [local go_sem] Instr.index

set_option maxHeartbeats 2000000 in
theorem sameflr_self (a b : Option Addr) (n c d : Nat) (xs : List Flr) (w : World) (hx : SlFl w a n c xs) (hy : SlFl w b n d xs) :
    Calls Tryz.prog 17 #[.slice a n c, .slice b n d] w fun e w' => e = .returned (.bool true) ∧ Below w.heap.size w w' := by
  have Hl := Lib.hid hx.len
  have hmax := hx.max
  have hle := hx.le
  have Hx := Lib.hid hx; clear hx
  have Hy := Lib.hid hy; clear hy
  go_enter Tryz.func17, Tryz.ntmps17
  go_wp2
  go_loopw [5] (fun i wr => ∃ k : Nat, i = .int .i64 k ∧ k ≤ n ∧ Below w.heap.size w wr) (fun i _ => n - (intOf i).toNat)
  case atStart => exact ⟨0, rfl, Nat.zero_le _, Below.refl _ _⟩
  case round =>
    obtain ⟨k, rfl, hk, hb⟩ := hrel
    by_cases hlt : k < n
    · obtain ⟨b1, off1, rfl, hbl1, hc1⟩ := (Hx.out.below hb (Nat.le_refl _)).at0 (by omega)
      obtain ⟨b2, off2, rfl, hbl2, hc2⟩ := (Hy.out.below hb (Nat.le_refl _)).at0 (by omega)
      obtain ⟨x, hxk⟩ : ∃ x, xs[k]? = some x := ⟨_, List.getElem?_eq_getElem (by rw [Hl.out]; exact hlt)⟩
      obtain ⟨c1, c2, c3⟩ := SlFlr.cells hc1 hxk
      obtain ⟨d1, d2, d3⟩ := SlFlr.cells hc2 hxk
      obtain ⟨xlo, xhi, xwk⟩ := x
      clear hc1 hc2 hxk
      simp only at c1 c2 c3 d1 d2 d3
      go_wp2
      have e_c1 := fun d os => cell_regrown c1 d os
      have e_c2 := fun d os => cell_regrown c2 d os
      have e_c3 := fun d os => cell_regrown c3 d os
      have e_d1 := fun d os => cell_regrown d1 d os
      have e_d2 := fun d os => cell_regrown d2 d os
      have e_d3 := fun d os => cell_regrown d3 d os
      clear c1 c2 c3 d1 d2 d3
      refine wp_region_quiet_below (by kernel_rfl) (by kernel_rfl) ?_
      repeat (go_big_quiet_step (fail))
      refine wpQuiet_nil ?_
      rintro w4 ⟨⟨dq, osq⟩, hw4⟩
      have hb4 : Below w.heap.size w w4 := by rw [hw4]; exact hb.trans ((below_regrown wr dq osq).mono hb.size)
      clear hw4 e_c1 e_c2 e_c3 e_d1 e_d2 e_d3
      go_wp2
      go_roundw
      case rel => exact ⟨k + 1, by go_num, by omega, hb4⟩
      case measure => simp [intOf]; omega
    · obtain rfl : k = n := by omega
      go_wp2
      go_ret
      exact ⟨rfl, hb⟩
end Go.Proofs.YtdkikecjlbgmdaaGreat
