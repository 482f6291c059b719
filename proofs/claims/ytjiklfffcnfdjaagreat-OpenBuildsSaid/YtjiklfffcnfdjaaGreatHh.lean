/- Walk: the law 'a column hangs on its own triangles'. -/
import Derived.Test.YtjiklfffcnfdjaaGreatHp
import Derived.Test.YtjiklfffcnfdjaaGreatGr
import Derived.Test.YtjiklfffcnfdjaaGreatGq
import Derived.Test.YtjiklfffcnfdjaaGreatHd
import Derived.Test.YtjiklfffcnfdjaaGreatGp
import Derived.Test.YtjiklfffcnfdjaaGreatGo
import Derived.LoopTactic
import Derived.Deep.Cut
import Derived.Deep.CutRange
import Derived.Deep.DeepCutAuto
import Derived.Outline
namespace Go.Proofs.YtjiklfffcnfdjaaGreat
open Go.RowKit
attribute [local go_sem] Instr.index

theorem trCone (t : Tr) : ∀ u ∈ trC t, u.oneCell' = true := by
  intro u hu
  simp [trC] at hu
  rcases hu with h | h | h | h | h | h | h | h | h | h <;> (subst h; rfl)
theorem infotri : (Tryz.prog.info? 77).map (fun i => (i.zero, i.size, i.bytes)) = some (some (.agg #[.int .i64 0, .int .i64 0, .int .i64 0, .int .i64 0, .int .i64 0, .int .i64 0, .int .i64 0, .int .i64 0, .int .i64 0, .int .i64 0]), 10, 80) := by kernel_rfl
theorem rmaytri (W D : Int) (t : Tr) (w : World) (hW : 0 ≤ W ∧ W ≤ 32) (hD : 0 ≤ D ∧ D ≤ 32) : Calls Tryz.prog 39 #[.int .i64 W, .int .i64 D, trA t] w fun e w' => e = .returned (.bool (trMay W D t)) ∧ Below w.heap.size w w' :=
  refmaytri_any W D t.t3 w hW hD
theorem rover (t : Tr) (x z : Int) (w : World) : Calls Tryz.prog 40 #[trA t, .int .i64 x, .int .i64 z] w fun e w' => e = .returned (.tuple #[.int .i64 (overT t x z).1, .int .i64 (overT t x z).2.1, .bool (overT t x z).2.2.1, .int .i64 (overT t x z).2.2.2]) ∧ Below w.heap.size w w' :=
  refover_any t.id t.a t.b t.c x z w
theorem cfg_pos {cf : Cfg} (h : cfgOk cf = true) : 1 ≤ cf.w ∧ 1 ≤ cf.d := by
  unfold cfgOk at h
  simp only [decide_eq_true_eq] at h
  omega
def Own (xs : List Tr) (x z : Int) (k : Nat) : List Tr := (xs.take k).filter (isOver x z)
def Hld (xs : List Tr) (x z y : Int) (k : Nat) : Bool := (xs.take k).any (holdsY x z y)
theorem own_yes {xs : List Tr} {x z : Int} {k : Nat} {t : Tr} (ht : xs[k]? = some t) (h : (overT t x z).2.2.1 = true) : Own xs x z (k + 1) = Own xs x z k ++ [t] := by
  unfold Own
  rw [own_succ x z ht, if_pos (show isOver x z t = true from h)]
theorem own_no {xs : List Tr} {x z : Int} {k : Nat} {t : Tr} (ht : xs[k]? = some t) (h : (overT t x z).2.2.1 = false) : Own xs x z (k + 1) = Own xs x z k := by
  unfold Own
  rw [own_succ x z ht]
  unfold isOver
  rw [h]
  simp
theorem hld_step {xs : List Tr} {x z y : Int} {k : Nat} {t : Tr} (ht : xs[k]? = some t) : Hld xs x z y (k + 1) = (Hld xs x z y k || ((overT t x z).2.2.1 && (decide ((overT t x z).1 ≤ y) && decide (y ≤ (overT t x z).2.1)))) := by
  unfold Hld
  rw [holds_succ x z y ht]
  rfl
theorem ownlen (xs : List Tr) (x z : Int) (k : Nat) : (Own xs x z k).length ≤ k := by
  have h1 := List.length_filter_le (isOver x z) (xs.take k)
  have h2 := List.length_take_le k xs
  unfold Own
  omega
theorem any_s {l : List Spn} {k : Nat} {s : Spn} (hs : l[k]? = some s) (y : Int) : (l.take (k + 1)).any (inAt y) = ((l.take k).any (inAt y) || (decide (s.lo ≤ y) && decide (y ≤ s.hi))) := any_succ hs y
/-- Where the first loop stands. -/
def OwnAt (xs : List Tr) (x z y : Int) (n : Nat) (w1 : World) (s13 s14 s62 : Value) (wr : World) : Prop :=
  ∃ k : Nat, s62 = .int .i64 k ∧ k ≤ n ∧ s14 = .bool (Hld xs x z y k) ∧ OwnR trC 10 77 w1.heap.size wr s13 (Own xs x z k).length (Own xs x z k) ∧ Below w1.heap.size w1 wr
end Go.Proofs.YtjiklfffcnfdjaaGreat

namespace Go.Proofs.YtjiklfffcnfdjaaGreat
open Go.RowKit
attribute [local go_sem] Instr.index

set_option maxHeartbeats 2000000 in
theorem refbox_any (x z w d : Int) (W : World) : Calls Tryz.prog 31 #[.int .i64 x, .int .i64 z, .int .i64 w, .int .i64 d] W fun e w' => e = .returned (.bool (inBox x z w d)) ∧ w' = W := by
  obtain ⟨r, hr⟩ : ∃ r, r = inBox x z w d := ⟨_, rfl⟩
  rw [← hr]
  unfold inBox at hr
  have HR := Lib.hid hr
  clear hr
  go_enter Tryz.func31, Tryz.ntmps31
  go_wp2
  all_goals
    go_ret
    refine ⟨ret_bool ?_, rfl⟩
    rw [HR.out]
    clear HR
    grind
end Go.Proofs.YtjiklfffcnfdjaaGreat

namespace Go.Proofs.YtjiklfffcnfdjaaGreat
open Go.RowKit
attribute [local go_sem] Instr.index

def mayAllT (cf : Cfg) (xs : List Tr) : Bool := decide (xs.length ≤ 200) && xs.all (trMay cf.w cf.d)
theorem mayAllT_col {cf : Cfg} {xs : List Tr} (hc : cfgOk cf = true) : mayAllT cf xs = decide (colMay cf xs = 0) := by
  rw [Bool.eq_iff_iff, decide_eq_true_eq, colMay_zero]
  unfold mayAllT
  rw [Bool.and_eq_true, decide_eq_true_eq, List.all_eq_true]
  exact ⟨fun h => ⟨hc, h⟩, fun h => h.2⟩
theorem take_allT {cf : Cfg} {xs : List Tr} {k : Nat} {t : Tr} (ht : xs[k]? = some t) (h : ∀ u ∈ xs.take k, trMay cf.w cf.d u = true) (hm : trMay cf.w cf.d t = true) : ∀ u ∈ xs.take (k + 1), trMay cf.w cf.d u = true := take_all ht h hm
set_option maxRecDepth 100000 in
set_option maxHeartbeats 4000000 in
theorem refmay09_any (cf : Cfg) (a : Option Addr) (n c : Nat) (xs : List Tr) (w : World) (hx : SlTr w a n c xs) (hcf : cfgOk cf = true) :
    Calls Tryz.prog 30 #[cfgV cf, .slice a n c] w fun e w' => e = .returned (.bool (mayAllT cf xs)) ∧ Below w.heap.size w w' := by
  have Hl := Lib.hid hx.len
  have hmax := hx.max
  have hle := hx.le
  have hC := World.alloc_heap_new w (cfgO cf)
  have hB : Below w.heap.size w (w.alloc (cfgO cf)) := (Below.refl _ _).alloc (Nat.le_refl _) _
  have Hx := Lib.hid hx; clear hx
  have hp := cfg_pos hcf
  have hw32 := cfg_wd hcf
  have MT := Lib.hid (fun (t : Tr) (W : World) => rmaytri cf.w cf.d t W ⟨by omega, hw32.1⟩ ⟨by omega, hw32.2⟩)
  have HT := Lib.hid (fun (k : Nat) (t : Tr) (ht : xs[k]? = some t) (h : ∀ u ∈ xs.take k, trMay cf.w cf.d u = true) (hm : trMay cf.w cf.d t = true) => take_all ht h hm)
  obtain ⟨r, hr⟩ : ∃ r, r = mayAllT cf xs := ⟨_, rfl⟩
  have HLong : Hid (200 < n → r = false) := fun h => by rw [hr]; unfold mayAllT; rw [Hl.out, decide_eq_false (by omega)]; rfl
  have HBad := Lib.hid (fun (k : Nat) (t : Tr) (ht : xs[k]? = some t) (hm : trMay cf.w cf.d t = false) => (show r = false from by
    rw [hr]; unfold mayAllT
    have : xs.all (trMay cf.w cf.d) = false := by
      cases h : xs.all (trMay cf.w cf.d) with
      | false => rfl
      | true => rw [List.all_eq_true] at h; have := h t (List.mem_of_getElem? ht); rw [hm] at this; cases this
    rw [this, Bool.and_false]))
  have HGood : Hid (n ≤ 200 → (∀ u ∈ xs.take n, trMay cf.w cf.d u = true) → r = true) := fun h1 h2 => by
    rw [List.take_of_length_le (by rw [Hl.out]; exact Nat.le_refl _)] at h2
    rw [hr]; unfold mayAllT
    rw [Hl.out, decide_eq_true h1, List.all_eq_true.2 h2]; rfl
  rw [← hr]
  clear hr hp hw32 hcf
  obtain ⟨P, hP⟩ : ∃ P : Tr → Bool, P = trMay cf.w cf.d := ⟨_, rfl⟩
  have hPt : ∀ t, trMay cf.w cf.d t = P t := fun t => by rw [hP]
  simp only [hPt] at HT HBad HGood MT
  clear hP hPt
  obtain ⟨cl, climb, height, rise, run, cw, cd⟩ := cf
  dsimp only [cfgO, cfgV] at hC hB MT ⊢
  obtain ⟨T, hTT⟩ : ∃ T, T = w.heap.size := ⟨_, rfl⟩
  by_cases hn : 200 < n
  · have hnI : (200 : Int) < (n : Int) := by omega
    have hR := HLong.out hn
    clear hTT
    go_enter Tryz.func30, Tryz.ntmps30
    go_wp2
    go_ret
    exact ⟨ret_bool (by first | rfl | exact hR.symm), hB⟩
  have hnI : ¬ (200 : Int) < (n : Int) := by omega
  obtain ⟨W1, hW1⟩ : ∃ W, W = w.alloc (.cells #[.int .i64 cl, .int .i64 climb, .int .i64 height, .int .i64 rise, .int .i64 run, .int .i64 cw, .int .i64 cd] 23) := ⟨_, rfl⟩
  have HX1 := Lib.hid (Hx.out.alloc (.cells #[.int .i64 cl, .int .i64 climb, .int .i64 height, .int .i64 rise, .int .i64 run, .int .i64 cw, .int .i64 cd] 23))
  rw [← hTT] at hC
  rw [← hW1] at hC hB HX1
  have HTT := Lib.hid hTT
  clear hTT
  go_enter Tryz.func30, Tryz.ntmps30
  go_wp2
  rw [← hW1, ← HTT.out]
  clear hW1 Hx
  go_loopw [5] (fun s5 wr => ∃ k : Nat, s5 = .int .i64 k ∧ k ≤ n ∧ Hid (∀ u ∈ xs.take k, P u = true) ∧ Below W1.heap.size W1 wr) (fun s5 _ => n - (intOf s5).toNat)
  case atStart => exact ⟨0, rfl, Nat.zero_le _, fun u hu => by simp at hu, Below.refl _ _⟩
  case round =>
    obtain ⟨k, rfl, hk, Hpre, hbr⟩ := hrel
    by_cases hlt : k < n
    · have hltI : (k : Int) < (n : Int) := by omega
      obtain ⟨t, ht⟩ : ∃ t, xs[k]? = some t := ⟨_, List.getElem?_eq_getElem (by rw [Hl.out]; exact hlt)⟩
      obtain ⟨bk, off, rfl, hbl, hc⟩ := (HX1.out.below hbr (Nat.le_refl _)).at0 (by omega)
      obtain ⟨q0, q1, q2, q3, q4, q5, q6, q7, q8, q9⟩ := SlTr.cells hc ht
      have MT2 := Lib.hid (MT.out t)
      have HT2 := Lib.hid (HT.out k t ht Hpre.out)
      have HB2 := Lib.hid (HBad.out k t ht)
      generalize P t = m at MT2 HT2 HB2
      have hCr := hkeep hbr hC
      obtain ⟨ti, ⟨ax, ay, az⟩, ⟨bx, by_, bz⟩, ⟨cx, cy, cz⟩⟩ := t
      dsimp only [trA] at q0 q1 q2 q3 q4 q5 q6 q7 q8 q9 MT2
      have e_5 := fun d os => cell_regrown (hcell (k := 5) (v := .int .i64 cw) hCr rfl) d os
      have e_6 := fun d os => cell_regrown (hcell (k := 6) (v := .int .i64 cd) hCr rfl) d os
      have e_q0 := fun d os => cell_regrown q0 d os
      have e_q1 := fun d os => cell_regrown q1 d os
      have e_q2 := fun d os => cell_regrown q2 d os
      have e_q3 := fun d os => cell_regrown q3 d os
      have e_q4 := fun d os => cell_regrown q4 d os
      have e_q5 := fun d os => cell_regrown q5 d os
      have e_q6 := fun d os => cell_regrown q6 d os
      have e_q7 := fun d os => cell_regrown q7 d os
      have e_q8 := fun d os => cell_regrown q8 d os
      have e_q9 := fun d os => cell_regrown q9 d os
      clear hc ht q0 q1 q2 q3 q4 q5 q6 q7 q8 q9 HX1 MT hCr
      go_wp2
      refine wp_region_quiet_below (by kernel_rfl) (by kernel_rfl) ?_
      repeat (go_big_quiet_step (exact Calls.regrown_of (MT2.out _)))
      refine wpQuiet_nil ?_
      rintro w4 ⟨⟨dq, osq⟩, hw4⟩
      have hb4 : Below W1.heap.size W1 w4 := by rw [hw4]; exact hbr.trans ((below_regrown wr dq osq).mono hbr.size)
      clear hw4 e_5 e_6 e_q0 e_q1 e_q2 e_q3 e_q4 e_q5 e_q6 e_q7 e_q8 e_q9
      cases m with
      | true =>
        go_wp2
        go_roundw
        case rel => exact ⟨k + 1, by go_num, by omega, HT2.out (by first | rfl | trivial), hb4⟩
        case measure => simp [intOf]; omega
      | false =>
        have hR := HB2.out (by first | rfl | trivial)
        have hB9 := hB.trans (hb4.mono hB.size)
        go_wp2
        go_ret
        exact ⟨ret_bool (by first | rfl | exact hR.symm), hB9⟩
    · obtain rfl : k = n := by omega
      have hR := HGood.out (by omega) Hpre.out
      have hB9 := hB.trans (hbr.mono hB.size)
      go_wp2
      go_ret
      exact ⟨ret_bool (by first | rfl | exact hR.symm), hB9⟩
end Go.Proofs.YtjiklfffcnfdjaaGreat

namespace Go.Proofs.YtjiklfffcnfdjaaGreat
open Go.RowKit

section
variable {w : World} {b : Nat} {t : TypeId}
theorem bx1_set {u0 : Value} (h : w.heap[b]? = some (.cells #[u0] t (0, 0))) (v0 : Value) : (w.setCell ⟨b, 0, none⟩ v0).heap[b]? = some (.cells #[v0] t (0, 0)) := by
  have h0 : (w.setCell ⟨b, 0, none⟩ v0).heap[b]? = some (.cells #[v0] t (0, 0)) := heap_setCell_same _ b 0 _ _ _ h
  exact h0
theorem bx1_grown (v0 : Value) : w.grownBy (w.setCell ⟨b, 0, none⟩ v0) (some b) :=
  grown_set w b 0 v0
theorem bx2_set {u0 u1 : Value} (h : w.heap[b]? = some (.cells #[u0, u1] t (0, 0))) (v0 v1 : Value) : ((w.setCell ⟨b, 0, none⟩ v0).setCell ⟨b, 1, none⟩ v1).heap[b]? = some (.cells #[v0, v1] t (0, 0)) := by
  have h0 : (w.setCell ⟨b, 0, none⟩ v0).heap[b]? = some (.cells #[v0, u1] t (0, 0)) := heap_setCell_same _ b 0 _ _ _ h
  have h1 : ((w.setCell ⟨b, 0, none⟩ v0).setCell ⟨b, 1, none⟩ v1).heap[b]? = some (.cells #[v0, v1] t (0, 0)) := heap_setCell_same _ b 1 _ _ _ h0
  exact h1
theorem bx2_grown (v0 v1 : Value) : w.grownBy ((w.setCell ⟨b, 0, none⟩ v0).setCell ⟨b, 1, none⟩ v1) (some b) :=
  (grown_set w b 0 v0).trans (grown_set _ b 1 v1)
theorem bx3_set {u0 u1 u2 : Value} (h : w.heap[b]? = some (.cells #[u0, u1, u2] t (0, 0))) (v0 v1 v2 : Value) : (((w.setCell ⟨b, 0, none⟩ v0).setCell ⟨b, 1, none⟩ v1).setCell ⟨b, 2, none⟩ v2).heap[b]? = some (.cells #[v0, v1, v2] t (0, 0)) := by
  have h0 : (w.setCell ⟨b, 0, none⟩ v0).heap[b]? = some (.cells #[v0, u1, u2] t (0, 0)) := heap_setCell_same _ b 0 _ _ _ h
  have h1 : ((w.setCell ⟨b, 0, none⟩ v0).setCell ⟨b, 1, none⟩ v1).heap[b]? = some (.cells #[v0, v1, u2] t (0, 0)) := heap_setCell_same _ b 1 _ _ _ h0
  have h2 : (((w.setCell ⟨b, 0, none⟩ v0).setCell ⟨b, 1, none⟩ v1).setCell ⟨b, 2, none⟩ v2).heap[b]? = some (.cells #[v0, v1, v2] t (0, 0)) := heap_setCell_same _ b 2 _ _ _ h1
  exact h2
theorem bx3_grown (v0 v1 v2 : Value) : w.grownBy (((w.setCell ⟨b, 0, none⟩ v0).setCell ⟨b, 1, none⟩ v1).setCell ⟨b, 2, none⟩ v2) (some b) :=
  ((grown_set w b 0 v0).trans (grown_set _ b 1 v1)).trans (grown_set _ b 2 v2)
theorem bx4_set {u0 u1 u2 u3 : Value} (h : w.heap[b]? = some (.cells #[u0, u1, u2, u3] t (0, 0))) (v0 v1 v2 v3 : Value) : ((((w.setCell ⟨b, 0, none⟩ v0).setCell ⟨b, 1, none⟩ v1).setCell ⟨b, 2, none⟩ v2).setCell ⟨b, 3, none⟩ v3).heap[b]? = some (.cells #[v0, v1, v2, v3] t (0, 0)) := by
  have h0 : (w.setCell ⟨b, 0, none⟩ v0).heap[b]? = some (.cells #[v0, u1, u2, u3] t (0, 0)) := heap_setCell_same _ b 0 _ _ _ h
  have h1 : ((w.setCell ⟨b, 0, none⟩ v0).setCell ⟨b, 1, none⟩ v1).heap[b]? = some (.cells #[v0, v1, u2, u3] t (0, 0)) := heap_setCell_same _ b 1 _ _ _ h0
  have h2 : (((w.setCell ⟨b, 0, none⟩ v0).setCell ⟨b, 1, none⟩ v1).setCell ⟨b, 2, none⟩ v2).heap[b]? = some (.cells #[v0, v1, v2, u3] t (0, 0)) := heap_setCell_same _ b 2 _ _ _ h1
  have h3 : ((((w.setCell ⟨b, 0, none⟩ v0).setCell ⟨b, 1, none⟩ v1).setCell ⟨b, 2, none⟩ v2).setCell ⟨b, 3, none⟩ v3).heap[b]? = some (.cells #[v0, v1, v2, v3] t (0, 0)) := heap_setCell_same _ b 3 _ _ _ h2
  exact h3
theorem bx4_grown (v0 v1 v2 v3 : Value) : w.grownBy ((((w.setCell ⟨b, 0, none⟩ v0).setCell ⟨b, 1, none⟩ v1).setCell ⟨b, 2, none⟩ v2).setCell ⟨b, 3, none⟩ v3) (some b) :=
  (((grown_set w b 0 v0).trans (grown_set _ b 1 v1)).trans (grown_set _ b 2 v2)).trans (grown_set _ b 3 v3)
theorem bx5_set {u0 u1 u2 u3 u4 : Value} (h : w.heap[b]? = some (.cells #[u0, u1, u2, u3, u4] t (0, 0))) (v0 v1 v2 v3 v4 : Value) : (((((w.setCell ⟨b, 0, none⟩ v0).setCell ⟨b, 1, none⟩ v1).setCell ⟨b, 2, none⟩ v2).setCell ⟨b, 3, none⟩ v3).setCell ⟨b, 4, none⟩ v4).heap[b]? = some (.cells #[v0, v1, v2, v3, v4] t (0, 0)) := by
  have h0 : (w.setCell ⟨b, 0, none⟩ v0).heap[b]? = some (.cells #[v0, u1, u2, u3, u4] t (0, 0)) := heap_setCell_same _ b 0 _ _ _ h
  have h1 : ((w.setCell ⟨b, 0, none⟩ v0).setCell ⟨b, 1, none⟩ v1).heap[b]? = some (.cells #[v0, v1, u2, u3, u4] t (0, 0)) := heap_setCell_same _ b 1 _ _ _ h0
  have h2 : (((w.setCell ⟨b, 0, none⟩ v0).setCell ⟨b, 1, none⟩ v1).setCell ⟨b, 2, none⟩ v2).heap[b]? = some (.cells #[v0, v1, v2, u3, u4] t (0, 0)) := heap_setCell_same _ b 2 _ _ _ h1
  have h3 : ((((w.setCell ⟨b, 0, none⟩ v0).setCell ⟨b, 1, none⟩ v1).setCell ⟨b, 2, none⟩ v2).setCell ⟨b, 3, none⟩ v3).heap[b]? = some (.cells #[v0, v1, v2, v3, u4] t (0, 0)) := heap_setCell_same _ b 3 _ _ _ h2
  have h4 : (((((w.setCell ⟨b, 0, none⟩ v0).setCell ⟨b, 1, none⟩ v1).setCell ⟨b, 2, none⟩ v2).setCell ⟨b, 3, none⟩ v3).setCell ⟨b, 4, none⟩ v4).heap[b]? = some (.cells #[v0, v1, v2, v3, v4] t (0, 0)) := heap_setCell_same _ b 4 _ _ _ h3
  exact h4
theorem bx5_grown (v0 v1 v2 v3 v4 : Value) : w.grownBy (((((w.setCell ⟨b, 0, none⟩ v0).setCell ⟨b, 1, none⟩ v1).setCell ⟨b, 2, none⟩ v2).setCell ⟨b, 3, none⟩ v3).setCell ⟨b, 4, none⟩ v4) (some b) :=
  ((((grown_set w b 0 v0).trans (grown_set _ b 1 v1)).trans (grown_set _ b 2 v2)).trans (grown_set _ b 3 v3)).trans (grown_set _ b 4 v4)
theorem bx6_set {u0 u1 u2 u3 u4 u5 : Value} (h : w.heap[b]? = some (.cells #[u0, u1, u2, u3, u4, u5] t (0, 0))) (v0 v1 v2 v3 v4 v5 : Value) : ((((((w.setCell ⟨b, 0, none⟩ v0).setCell ⟨b, 1, none⟩ v1).setCell ⟨b, 2, none⟩ v2).setCell ⟨b, 3, none⟩ v3).setCell ⟨b, 4, none⟩ v4).setCell ⟨b, 5, none⟩ v5).heap[b]? = some (.cells #[v0, v1, v2, v3, v4, v5] t (0, 0)) := by
  have h0 : (w.setCell ⟨b, 0, none⟩ v0).heap[b]? = some (.cells #[v0, u1, u2, u3, u4, u5] t (0, 0)) := heap_setCell_same _ b 0 _ _ _ h
  have h1 : ((w.setCell ⟨b, 0, none⟩ v0).setCell ⟨b, 1, none⟩ v1).heap[b]? = some (.cells #[v0, v1, u2, u3, u4, u5] t (0, 0)) := heap_setCell_same _ b 1 _ _ _ h0
  have h2 : (((w.setCell ⟨b, 0, none⟩ v0).setCell ⟨b, 1, none⟩ v1).setCell ⟨b, 2, none⟩ v2).heap[b]? = some (.cells #[v0, v1, v2, u3, u4, u5] t (0, 0)) := heap_setCell_same _ b 2 _ _ _ h1
  have h3 : ((((w.setCell ⟨b, 0, none⟩ v0).setCell ⟨b, 1, none⟩ v1).setCell ⟨b, 2, none⟩ v2).setCell ⟨b, 3, none⟩ v3).heap[b]? = some (.cells #[v0, v1, v2, v3, u4, u5] t (0, 0)) := heap_setCell_same _ b 3 _ _ _ h2
  have h4 : (((((w.setCell ⟨b, 0, none⟩ v0).setCell ⟨b, 1, none⟩ v1).setCell ⟨b, 2, none⟩ v2).setCell ⟨b, 3, none⟩ v3).setCell ⟨b, 4, none⟩ v4).heap[b]? = some (.cells #[v0, v1, v2, v3, v4, u5] t (0, 0)) := heap_setCell_same _ b 4 _ _ _ h3
  have h5 : ((((((w.setCell ⟨b, 0, none⟩ v0).setCell ⟨b, 1, none⟩ v1).setCell ⟨b, 2, none⟩ v2).setCell ⟨b, 3, none⟩ v3).setCell ⟨b, 4, none⟩ v4).setCell ⟨b, 5, none⟩ v5).heap[b]? = some (.cells #[v0, v1, v2, v3, v4, v5] t (0, 0)) := heap_setCell_same _ b 5 _ _ _ h4
  exact h5
theorem bx6_grown (v0 v1 v2 v3 v4 v5 : Value) : w.grownBy ((((((w.setCell ⟨b, 0, none⟩ v0).setCell ⟨b, 1, none⟩ v1).setCell ⟨b, 2, none⟩ v2).setCell ⟨b, 3, none⟩ v3).setCell ⟨b, 4, none⟩ v4).setCell ⟨b, 5, none⟩ v5) (some b) :=
  (((((grown_set w b 0 v0).trans (grown_set _ b 1 v1)).trans (grown_set _ b 2 v2)).trans (grown_set _ b 3 v3)).trans (grown_set _ b 4 v4)).trans (grown_set _ b 5 v5)
theorem bx7_set {u0 u1 u2 u3 u4 u5 u6 : Value} (h : w.heap[b]? = some (.cells #[u0, u1, u2, u3, u4, u5, u6] t (0, 0))) (v0 v1 v2 v3 v4 v5 v6 : Value) : (((((((w.setCell ⟨b, 0, none⟩ v0).setCell ⟨b, 1, none⟩ v1).setCell ⟨b, 2, none⟩ v2).setCell ⟨b, 3, none⟩ v3).setCell ⟨b, 4, none⟩ v4).setCell ⟨b, 5, none⟩ v5).setCell ⟨b, 6, none⟩ v6).heap[b]? = some (.cells #[v0, v1, v2, v3, v4, v5, v6] t (0, 0)) := by
  have h0 : (w.setCell ⟨b, 0, none⟩ v0).heap[b]? = some (.cells #[v0, u1, u2, u3, u4, u5, u6] t (0, 0)) := heap_setCell_same _ b 0 _ _ _ h
  have h1 : ((w.setCell ⟨b, 0, none⟩ v0).setCell ⟨b, 1, none⟩ v1).heap[b]? = some (.cells #[v0, v1, u2, u3, u4, u5, u6] t (0, 0)) := heap_setCell_same _ b 1 _ _ _ h0
  have h2 : (((w.setCell ⟨b, 0, none⟩ v0).setCell ⟨b, 1, none⟩ v1).setCell ⟨b, 2, none⟩ v2).heap[b]? = some (.cells #[v0, v1, v2, u3, u4, u5, u6] t (0, 0)) := heap_setCell_same _ b 2 _ _ _ h1
  have h3 : ((((w.setCell ⟨b, 0, none⟩ v0).setCell ⟨b, 1, none⟩ v1).setCell ⟨b, 2, none⟩ v2).setCell ⟨b, 3, none⟩ v3).heap[b]? = some (.cells #[v0, v1, v2, v3, u4, u5, u6] t (0, 0)) := heap_setCell_same _ b 3 _ _ _ h2
  have h4 : (((((w.setCell ⟨b, 0, none⟩ v0).setCell ⟨b, 1, none⟩ v1).setCell ⟨b, 2, none⟩ v2).setCell ⟨b, 3, none⟩ v3).setCell ⟨b, 4, none⟩ v4).heap[b]? = some (.cells #[v0, v1, v2, v3, v4, u5, u6] t (0, 0)) := heap_setCell_same _ b 4 _ _ _ h3
  have h5 : ((((((w.setCell ⟨b, 0, none⟩ v0).setCell ⟨b, 1, none⟩ v1).setCell ⟨b, 2, none⟩ v2).setCell ⟨b, 3, none⟩ v3).setCell ⟨b, 4, none⟩ v4).setCell ⟨b, 5, none⟩ v5).heap[b]? = some (.cells #[v0, v1, v2, v3, v4, v5, u6] t (0, 0)) := heap_setCell_same _ b 5 _ _ _ h4
  have h6 : (((((((w.setCell ⟨b, 0, none⟩ v0).setCell ⟨b, 1, none⟩ v1).setCell ⟨b, 2, none⟩ v2).setCell ⟨b, 3, none⟩ v3).setCell ⟨b, 4, none⟩ v4).setCell ⟨b, 5, none⟩ v5).setCell ⟨b, 6, none⟩ v6).heap[b]? = some (.cells #[v0, v1, v2, v3, v4, v5, v6] t (0, 0)) := heap_setCell_same _ b 6 _ _ _ h5
  exact h6
theorem bx7_grown (v0 v1 v2 v3 v4 v5 v6 : Value) : w.grownBy (((((((w.setCell ⟨b, 0, none⟩ v0).setCell ⟨b, 1, none⟩ v1).setCell ⟨b, 2, none⟩ v2).setCell ⟨b, 3, none⟩ v3).setCell ⟨b, 4, none⟩ v4).setCell ⟨b, 5, none⟩ v5).setCell ⟨b, 6, none⟩ v6) (some b) :=
  ((((((grown_set w b 0 v0).trans (grown_set _ b 1 v1)).trans (grown_set _ b 2 v2)).trans (grown_set _ b 3 v3)).trans (grown_set _ b 4 v4)).trans (grown_set _ b 5 v5)).trans (grown_set _ b 6 v6)
end
end Go.Proofs.YtjiklfffcnfdjaaGreat

namespace Go.Proofs.YtjiklfffcnfdjaaGreat
open Go.RowKit
attribute [local go_sem] Instr.index

def RnInv (T : Nat) (i ax ay az bx by_ bz cx cy cz : Int) (w1 : World) (F : Value → Value → Value → Value → Value → Value → Value → Value → Value → Value → Value → Value → Array Value) (D : List Deferred) (L : Array Bool) (a : Act) (w : World) : Prop :=
  ∃ (s0 s1 s2 s3 s4 s5 s6 s7 s8 s9 s10 s11 : Value) (p9 p10 p11 : Nat), a = { tmps := F s0 s1 s2 s3 s4 s5 s6 s7 s8 s9 s10 s11, defers := D } ∧
    Below w1.heap.size w1 w ∧
    w.heap[T]? = some (.cells #[.int .i64 i, .int .i64 ax, .int .i64 ay, .int .i64 az, .int .i64 bx, .int .i64 by_, .int .i64 bz, .int .i64 cx, .int .i64 cy, .int .i64 cz] 77 (0, 0)) ∧
    (L.getD 0 false = true → s0 = .pointer (some ⟨T, 1, none⟩)) ∧
    (L.getD 1 false = true → s1 = .pointer (some ⟨T, 1, none⟩)) ∧
    (L.getD 2 false = true → s2 = .agg #[.int .i64 ax, .int .i64 ay, .int .i64 az]) ∧
    (L.getD 3 false = true → s3 = .pointer (some ⟨T, 1, none⟩)) ∧
    (L.getD 4 false = true → s4 = .pointer (some ⟨T, 4, none⟩)) ∧
    (L.getD 5 false = true → s5 = .agg #[.int .i64 bx, .int .i64 by_, .int .i64 bz]) ∧
    (L.getD 6 false = true → s6 = .pointer (some ⟨T, 1, none⟩)) ∧
    (L.getD 7 false = true → s7 = .pointer (some ⟨T, 7, none⟩)) ∧
    (L.getD 8 false = true → s8 = .agg #[.int .i64 cx, .int .i64 cy, .int .i64 cz]) ∧
    (L.getD 9 false = true → s9 = .pointer (some ⟨p9, 0, none⟩) ∧ w1.heap.size ≤ p9 ∧ w.heap[p9]? = some (.cells (if L.getD 12 false = true then #[.int .i64 ax, .int .i64 ay, .int .i64 az] else #[.int .i64 0, .int .i64 0, .int .i64 0]) 74 (0, 0))) ∧
    (L.getD 10 false = true → s10 = .pointer (some ⟨p10, 0, none⟩) ∧ w1.heap.size ≤ p10 ∧ w.heap[p10]? = some (.cells (if L.getD 13 false = true then #[.int .i64 bx, .int .i64 by_, .int .i64 bz] else #[.int .i64 0, .int .i64 0, .int .i64 0]) 74 (0, 0))) ∧
    (L.getD 11 false = true → s11 = .pointer (some ⟨p11, 0, none⟩) ∧ w1.heap.size ≤ p11 ∧ w.heap[p11]? = some (.cells (if L.getD 14 false = true then #[.int .i64 cx, .int .i64 cy, .int .i64 cz] else #[.int .i64 0, .int .i64 0, .int .i64 0]) 74 (0, 0))) ∧
    (L.getD 9 false = true → L.getD 10 false = true → p9 ≠ p10) ∧
    (L.getD 9 false = true → L.getD 11 false = true → p9 ≠ p11) ∧
    (L.getD 10 false = true → L.getD 11 false = true → p10 ≠ p11) ∧
    (L.getD 12 false = true → L.getD 9 false = true) ∧
    (L.getD 13 false = true → L.getD 10 false = true) ∧
    (L.getD 14 false = true → L.getD 11 false = true)
set_option maxRecDepth 100000 in
set_option maxHeartbeats 20000000 in
theorem refnormal_any (t : Tr) (w : World) (hc : crnOk 32 32 t = true) (hny : nyV t ≠ 0) :
    Calls Tryz.prog 60 #[trA t] w fun e w' => e = .returned (.tuple #[.int .i64 (nxV t), .int .i64 (nyV t), .int .i64 (nzV t), .int .i64 0]) ∧ Below w.heap.size w w' := by
  have hT := World.alloc_heap_new w (trO t.id t.a t.b t.c)
  have hB : Below w.heap.size w (w.alloc (trO t.id t.a t.b t.c)) := (Below.refl _ _).alloc (Nat.le_refl _) _
  obtain ⟨W1, hW1⟩ : ∃ W, W = w.alloc (trO t.id t.a t.b t.c) := ⟨_, rfl⟩
  rw [← hW1] at hT hB
  obtain ⟨T, hTT⟩ : ∃ T, T = w.heap.size := ⟨_, rfl⟩
  rw [← hTT] at hT
  have HTT := Lib.hid hTT
  clear hTT
  have hci := crn_iff.1 hc
  clear hc
  obtain ⟨nx, hnx⟩ : ∃ v, v = nxV t := ⟨_, rfl⟩
  obtain ⟨ny, hy⟩ : ∃ v, v = nyV t := ⟨_, rfl⟩
  obtain ⟨nz, hnz⟩ : ∃ v, v = nzV t := ⟨_, rfl⟩
  rw [← hnx, ← hy, ← hnz]
  unfold nxV at hnx
  unfold nzV at hnz
  unfold nyV at hny hy
  have HNY := Lib.hid hny
  have HX1 := Lib.hid hnx
  have HX2 := Lib.hid hy
  have HX3 := Lib.hid hnz
  clear hny hnx hy hnz
  obtain ⟨i, ⟨ax, ay, az⟩, ⟨bx, by_, bz⟩, ⟨cx, cy, cz⟩⟩ := t
  dsimp only [trO, trA] at hB hT hci hW1 HNY HX1 HX2 HX3 ⊢
  have HCI := Lib.hid hci
  clear hci
  go_enter Tryz.func60, Tryz.ntmps60
  go_wp2
  rw [← hW1, ← HTT.out]
  clear hW1
  go_loopw [6] (fun s6 wr => ∃ k : Nat, s6 = .int .i64 k ∧ k ≤ 3 ∧ Below W1.heap.size W1 wr) (fun s6 _ => 3 - (intOf s6).toNat)
  case atStart => exact ⟨0, rfl, by omega, Below.refl _ _⟩
  case round =>
    obtain ⟨k, rfl, hk, hbr⟩ := hrel
    have hTr := hkeep hbr hT
    by_cases hlt : k < 3
    · obtain rfl | rfl | rfl : k = 0 ∨ k = 1 ∨ k = 2 := by omega
      · have c0 := hcell (k := 1) (v := .int .i64 ax) hTr rfl
        have c1 := hcell (k := 2) (v := .int .i64 ay) hTr rfl
        have c2 := hcell (k := 3) (v := .int .i64 az) hTr rfl
        have t1 : ¬ ax < 0 := by have := HCI.out; omega
        have t2 : ¬ 32 < ax := by have := HCI.out; omega
        have t3 : ¬ az < 0 := by have := HCI.out; omega
        have t4 : ¬ 32 < az := by have := HCI.out; omega
        have t5 : ¬ ay < -2048 := by have := HCI.out; omega
        have t6 : ¬ 2048 < ay := by have := HCI.out; omega
        have hbA := hbr.alloc hbr.size (.cells #[.int .i64 ax, .int .i64 ay, .int .i64 az] 74)
        go_wp2
        go_roundw
        case rel => exact ⟨1, by go_num, by omega, hbA⟩
        case measure => simp [intOf]
      · have c0 := hcell (k := 4) (v := .int .i64 bx) hTr rfl
        have c1 := hcell (k := 5) (v := .int .i64 by_) hTr rfl
        have c2 := hcell (k := 6) (v := .int .i64 bz) hTr rfl
        have t1 : ¬ bx < 0 := by have := HCI.out; omega
        have t2 : ¬ 32 < bx := by have := HCI.out; omega
        have t3 : ¬ bz < 0 := by have := HCI.out; omega
        have t4 : ¬ 32 < bz := by have := HCI.out; omega
        have t5 : ¬ by_ < -2048 := by have := HCI.out; omega
        have t6 : ¬ 2048 < by_ := by have := HCI.out; omega
        have hbA := hbr.alloc hbr.size (.cells #[.int .i64 bx, .int .i64 by_, .int .i64 bz] 74)
        go_wp2
        go_roundw
        case rel => exact ⟨2, by go_num, by omega, hbA⟩
        case measure => simp [intOf]
      · have c0 := hcell (k := 7) (v := .int .i64 cx) hTr rfl
        have c1 := hcell (k := 8) (v := .int .i64 cy) hTr rfl
        have c2 := hcell (k := 9) (v := .int .i64 cz) hTr rfl
        have t1 : ¬ cx < 0 := by have := HCI.out; omega
        have t2 : ¬ 32 < cx := by have := HCI.out; omega
        have t3 : ¬ cz < 0 := by have := HCI.out; omega
        have t4 : ¬ 32 < cz := by have := HCI.out; omega
        have t5 : ¬ cy < -2048 := by have := HCI.out; omega
        have t6 : ¬ 2048 < cy := by have := HCI.out; omega
        have hbA := hbr.alloc hbr.size (.cells #[.int .i64 cx, .int .i64 cy, .int .i64 cz] 74)
        go_wp2
        go_roundw
        case rel => exact ⟨3, by go_num, by omega, hbA⟩
        case measure => simp [intOf]
    · obtain rfl : k = 3 := by omega
      have hT2 := hTr
      have hB2 := hB.trans (hbr.mono hB.size)
      clear hT hTr hbr
      go_upto_region 7 with fail
      have hTl := hblt hT2
      refine wp_region_inv (RnInv T i ax ay az bx by_ bz cx cy cz wr (fun s0 s1 s2 s3 s4 s5 s6 s7 s8 s9 s10 s11 => #[Value.agg #[Value.int IntKind.i64 i, Value.int IntKind.i64 ax, Value.int IntKind.i64 ay, Value.int IntKind.i64 az, Value.int IntKind.i64 bx, Value.int IntKind.i64 by_, Value.int IntKind.i64 bz, Value.int IntKind.i64 cx, Value.int IntKind.i64 cy, Value.int IntKind.i64 cz], Value.pointer (some { block := T, off := 0 }), u2, u3, u4, u5, Value.int IntKind.i64 ((3 : Nat) : Int), u7, s9, s10, s11, undef, undef, undef, undef, undef, undef, undef, undef, undef, Value.int IntKind.i64 ((3 : Nat) : Int), Value.bool false, u22, u23, u24, u25, u26, u27, u28, u29, u30, u31, u32, u33, u34, u35, u36, u37, u38, u39, u40, u41, u42, u43, u44, u45, u46, u47, u48, u49, u50, u51, u52, u53, u54, u55, s0, s1, s2, s3, s4, s5, s6, s7, s8, undef, undef, undef, undef, undef, undef, undef, undef, undef, undef, undef, undef, undef, undef, undef, undef, undef, undef, undef, undef, undef, undef, undef, undef, undef, undef, undef, undef, undef, undef, undef, undef, undef, undef, undef, undef, undef, undef, undef, undef, undef, undef, undef, undef, undef, undef, undef, undef, undef, undef, undef, undef, undef, undef, undef, undef]) []) (by kernel_rfl) (by kernel_rfl) ?_ ?_ ?_
      · unfold RnInv
        refine ⟨_, _, _, _, _, _, _, _, _, _, _, _, 0, 0, 0, rfl, (Below.refl _ _).drew, hT2, (fun h => by cases (show false = true from h)), (fun h => by cases (show false = true from h)), (fun h => by cases (show false = true from h)), (fun h => by cases (show false = true from h)), (fun h => by cases (show false = true from h)), (fun h => by cases (show false = true from h)), (fun h => by cases (show false = true from h)), (fun h => by cases (show false = true from h)), (fun h => by cases (show false = true from h)), (fun h => by cases (show false = true from h)), (fun h => by cases (show false = true from h)), (fun h => by cases (show false = true from h)), (fun h => by cases (show false = true from h)), (fun h => by cases (show false = true from h)), (fun h => by cases (show false = true from h)), (fun h => by cases (show false = true from h)), (fun h => by cases (show false = true from h)), (fun h => by cases (show false = true from h))⟩
      · intro L a wi i hs hI hi
        have hsN : L.size = 15 := hs
        have hn := ready_elim hi
        have hlt : i < 15 := by
            obtain ⟨o, ho, _⟩ := hn.2
            exact (Array.getElem?_eq_some_iff.1 ho).1
        have hi' := ready_not hi false (by rw [hs]; exact hlt)
        clear hn
        unfold RnInv at hI
        obtain ⟨s0, s1, s2, s3, s4, s5, s6, s7, s8, s9, s10, s11, p9, p10, p11, rfl, hB, hF_T, h0, h1, h2, h3, h4, h5, h6, h7, h8, h9, h10, h11, hD9_10, hD9_11, hD10_11, hS9, hS10, hS11⟩ := hI
        rcases (by omega : i = 0 ∨ i = 1 ∨ i = 2 ∨ i = 3 ∨ i = 4 ∨ i = 5 ∨ i = 6 ∨ i = 7 ∨ i = 8 ∨ i = 9 ∨ i = 10 ∨ i = 11 ∨ i = 12 ∨ i = 13 ∨ i = 14) with rfl | rfl | rfl | rfl | rfl | rfl | rfl | rfl | rfl | rfl | rfl | rfl | rfl | rfl | rfl
        · skip
          refine wpOp_of rfl rfl ?_
          go_simp
          unfold RnInv
          exact ⟨_, _, _, _, _, _, _, _, _, _, _, _, p9, p10, p11, rfl, (hB), (hF_T), (fun _ => rfl), (fun h => h1 (by rwa [getD_set_ne (by decide)] at h)), (fun h => h2 (by rwa [getD_set_ne (by decide)] at h)), (fun h => h3 (by rwa [getD_set_ne (by decide)] at h)), (fun h => h4 (by rwa [getD_set_ne (by decide)] at h)), (fun h => h5 (by rwa [getD_set_ne (by decide)] at h)), (fun h => h6 (by rwa [getD_set_ne (by decide)] at h)), (fun h => h7 (by rwa [getD_set_ne (by decide)] at h)), (fun h => h8 (by rwa [getD_set_ne (by decide)] at h)), (fun h => by rw [getD_set_ne (by decide)] at h; rw [getD_set_ne (by decide)]; exact h9 h), (fun h => by rw [getD_set_ne (by decide)] at h; rw [getD_set_ne (by decide)]; exact h10 h), (fun h => by rw [getD_set_ne (by decide)] at h; rw [getD_set_ne (by decide)]; exact h11 h), (fun h h2 => hD9_10 (by rwa [getD_set_ne (by decide)] at h) (by rwa [getD_set_ne (by decide)] at h2)), (fun h h2 => hD9_11 (by rwa [getD_set_ne (by decide)] at h) (by rwa [getD_set_ne (by decide)] at h2)), (fun h h2 => hD10_11 (by rwa [getD_set_ne (by decide)] at h) (by rwa [getD_set_ne (by decide)] at h2)), (fun h => by rw [getD_set_ne (by decide)] at h ⊢; exact hS9 h), (fun h => by rw [getD_set_ne (by decide)] at h ⊢; exact hS10 h), (fun h => by rw [getD_set_ne (by decide)] at h ⊢; exact hS11 h)⟩
        · skip
          have e0 := h0 (ready_dep hi (by kernel_rfl))
          subst e0
          refine wpOp_of rfl rfl ?_
          go_simp
          unfold RnInv
          exact ⟨_, _, _, _, _, _, _, _, _, _, _, _, p9, p10, p11, rfl, (hB), (hF_T), (fun h => h0 (by rwa [getD_set_ne (by decide)] at h)), (fun _ => rfl), (fun h => h2 (by rwa [getD_set_ne (by decide)] at h)), (fun h => h3 (by rwa [getD_set_ne (by decide)] at h)), (fun h => h4 (by rwa [getD_set_ne (by decide)] at h)), (fun h => h5 (by rwa [getD_set_ne (by decide)] at h)), (fun h => h6 (by rwa [getD_set_ne (by decide)] at h)), (fun h => h7 (by rwa [getD_set_ne (by decide)] at h)), (fun h => h8 (by rwa [getD_set_ne (by decide)] at h)), (fun h => by rw [getD_set_ne (by decide)] at h; rw [getD_set_ne (by decide)]; exact h9 h), (fun h => by rw [getD_set_ne (by decide)] at h; rw [getD_set_ne (by decide)]; exact h10 h), (fun h => by rw [getD_set_ne (by decide)] at h; rw [getD_set_ne (by decide)]; exact h11 h), (fun h h2 => hD9_10 (by rwa [getD_set_ne (by decide)] at h) (by rwa [getD_set_ne (by decide)] at h2)), (fun h h2 => hD9_11 (by rwa [getD_set_ne (by decide)] at h) (by rwa [getD_set_ne (by decide)] at h2)), (fun h h2 => hD10_11 (by rwa [getD_set_ne (by decide)] at h) (by rwa [getD_set_ne (by decide)] at h2)), (fun h => by rw [getD_set_ne (by decide)] at h ⊢; exact hS9 h), (fun h => by rw [getD_set_ne (by decide)] at h ⊢; exact hS10 h), (fun h => by rw [getD_set_ne (by decide)] at h ⊢; exact hS11 h)⟩
        · skip
          have e1 := h1 (ready_dep hi (by kernel_rfl))
          subst e1
          have c0 := hcell (k := 1) (v := .int .i64 ax) hF_T rfl
          have c1 := hcell (k := 2) (v := .int .i64 ay) hF_T rfl
          have c2 := hcell (k := 3) (v := .int .i64 az) hF_T rfl
          refine wpOp_of rfl rfl ?_
          go_simp
          unfold RnInv
          exact ⟨_, _, _, _, _, _, _, _, _, _, _, _, p9, p10, p11, rfl, (hB), (hF_T), (fun h => h0 (by rwa [getD_set_ne (by decide)] at h)), (fun h => h1 (by rwa [getD_set_ne (by decide)] at h)), (fun _ => rfl), (fun h => h3 (by rwa [getD_set_ne (by decide)] at h)), (fun h => h4 (by rwa [getD_set_ne (by decide)] at h)), (fun h => h5 (by rwa [getD_set_ne (by decide)] at h)), (fun h => h6 (by rwa [getD_set_ne (by decide)] at h)), (fun h => h7 (by rwa [getD_set_ne (by decide)] at h)), (fun h => h8 (by rwa [getD_set_ne (by decide)] at h)), (fun h => by rw [getD_set_ne (by decide)] at h; rw [getD_set_ne (by decide)]; exact h9 h), (fun h => by rw [getD_set_ne (by decide)] at h; rw [getD_set_ne (by decide)]; exact h10 h), (fun h => by rw [getD_set_ne (by decide)] at h; rw [getD_set_ne (by decide)]; exact h11 h), (fun h h2 => hD9_10 (by rwa [getD_set_ne (by decide)] at h) (by rwa [getD_set_ne (by decide)] at h2)), (fun h h2 => hD9_11 (by rwa [getD_set_ne (by decide)] at h) (by rwa [getD_set_ne (by decide)] at h2)), (fun h h2 => hD10_11 (by rwa [getD_set_ne (by decide)] at h) (by rwa [getD_set_ne (by decide)] at h2)), (fun h => by rw [getD_set_ne (by decide)] at h ⊢; exact hS9 h), (fun h => by rw [getD_set_ne (by decide)] at h ⊢; exact hS10 h), (fun h => by rw [getD_set_ne (by decide)] at h ⊢; exact hS11 h)⟩
        · skip
          refine wpOp_of rfl rfl ?_
          go_simp
          unfold RnInv
          exact ⟨_, _, _, _, _, _, _, _, _, _, _, _, p9, p10, p11, rfl, (hB), (hF_T), (fun h => h0 (by rwa [getD_set_ne (by decide)] at h)), (fun h => h1 (by rwa [getD_set_ne (by decide)] at h)), (fun h => h2 (by rwa [getD_set_ne (by decide)] at h)), (fun _ => rfl), (fun h => h4 (by rwa [getD_set_ne (by decide)] at h)), (fun h => h5 (by rwa [getD_set_ne (by decide)] at h)), (fun h => h6 (by rwa [getD_set_ne (by decide)] at h)), (fun h => h7 (by rwa [getD_set_ne (by decide)] at h)), (fun h => h8 (by rwa [getD_set_ne (by decide)] at h)), (fun h => by rw [getD_set_ne (by decide)] at h; rw [getD_set_ne (by decide)]; exact h9 h), (fun h => by rw [getD_set_ne (by decide)] at h; rw [getD_set_ne (by decide)]; exact h10 h), (fun h => by rw [getD_set_ne (by decide)] at h; rw [getD_set_ne (by decide)]; exact h11 h), (fun h h2 => hD9_10 (by rwa [getD_set_ne (by decide)] at h) (by rwa [getD_set_ne (by decide)] at h2)), (fun h h2 => hD9_11 (by rwa [getD_set_ne (by decide)] at h) (by rwa [getD_set_ne (by decide)] at h2)), (fun h h2 => hD10_11 (by rwa [getD_set_ne (by decide)] at h) (by rwa [getD_set_ne (by decide)] at h2)), (fun h => by rw [getD_set_ne (by decide)] at h ⊢; exact hS9 h), (fun h => by rw [getD_set_ne (by decide)] at h ⊢; exact hS10 h), (fun h => by rw [getD_set_ne (by decide)] at h ⊢; exact hS11 h)⟩
        · skip
          have e3 := h3 (ready_dep hi (by kernel_rfl))
          subst e3
          refine wpOp_of rfl rfl ?_
          go_simp
          unfold RnInv
          exact ⟨_, _, _, _, _, _, _, _, _, _, _, _, p9, p10, p11, rfl, (hB), (hF_T), (fun h => h0 (by rwa [getD_set_ne (by decide)] at h)), (fun h => h1 (by rwa [getD_set_ne (by decide)] at h)), (fun h => h2 (by rwa [getD_set_ne (by decide)] at h)), (fun h => h3 (by rwa [getD_set_ne (by decide)] at h)), (fun _ => rfl), (fun h => h5 (by rwa [getD_set_ne (by decide)] at h)), (fun h => h6 (by rwa [getD_set_ne (by decide)] at h)), (fun h => h7 (by rwa [getD_set_ne (by decide)] at h)), (fun h => h8 (by rwa [getD_set_ne (by decide)] at h)), (fun h => by rw [getD_set_ne (by decide)] at h; rw [getD_set_ne (by decide)]; exact h9 h), (fun h => by rw [getD_set_ne (by decide)] at h; rw [getD_set_ne (by decide)]; exact h10 h), (fun h => by rw [getD_set_ne (by decide)] at h; rw [getD_set_ne (by decide)]; exact h11 h), (fun h h2 => hD9_10 (by rwa [getD_set_ne (by decide)] at h) (by rwa [getD_set_ne (by decide)] at h2)), (fun h h2 => hD9_11 (by rwa [getD_set_ne (by decide)] at h) (by rwa [getD_set_ne (by decide)] at h2)), (fun h h2 => hD10_11 (by rwa [getD_set_ne (by decide)] at h) (by rwa [getD_set_ne (by decide)] at h2)), (fun h => by rw [getD_set_ne (by decide)] at h ⊢; exact hS9 h), (fun h => by rw [getD_set_ne (by decide)] at h ⊢; exact hS10 h), (fun h => by rw [getD_set_ne (by decide)] at h ⊢; exact hS11 h)⟩
        · skip
          have e4 := h4 (ready_dep hi (by kernel_rfl))
          subst e4
          have c0 := hcell (k := 4) (v := .int .i64 bx) hF_T rfl
          have c1 := hcell (k := 5) (v := .int .i64 by_) hF_T rfl
          have c2 := hcell (k := 6) (v := .int .i64 bz) hF_T rfl
          refine wpOp_of rfl rfl ?_
          go_simp
          unfold RnInv
          exact ⟨_, _, _, _, _, _, _, _, _, _, _, _, p9, p10, p11, rfl, (hB), (hF_T), (fun h => h0 (by rwa [getD_set_ne (by decide)] at h)), (fun h => h1 (by rwa [getD_set_ne (by decide)] at h)), (fun h => h2 (by rwa [getD_set_ne (by decide)] at h)), (fun h => h3 (by rwa [getD_set_ne (by decide)] at h)), (fun h => h4 (by rwa [getD_set_ne (by decide)] at h)), (fun _ => rfl), (fun h => h6 (by rwa [getD_set_ne (by decide)] at h)), (fun h => h7 (by rwa [getD_set_ne (by decide)] at h)), (fun h => h8 (by rwa [getD_set_ne (by decide)] at h)), (fun h => by rw [getD_set_ne (by decide)] at h; rw [getD_set_ne (by decide)]; exact h9 h), (fun h => by rw [getD_set_ne (by decide)] at h; rw [getD_set_ne (by decide)]; exact h10 h), (fun h => by rw [getD_set_ne (by decide)] at h; rw [getD_set_ne (by decide)]; exact h11 h), (fun h h2 => hD9_10 (by rwa [getD_set_ne (by decide)] at h) (by rwa [getD_set_ne (by decide)] at h2)), (fun h h2 => hD9_11 (by rwa [getD_set_ne (by decide)] at h) (by rwa [getD_set_ne (by decide)] at h2)), (fun h h2 => hD10_11 (by rwa [getD_set_ne (by decide)] at h) (by rwa [getD_set_ne (by decide)] at h2)), (fun h => by rw [getD_set_ne (by decide)] at h ⊢; exact hS9 h), (fun h => by rw [getD_set_ne (by decide)] at h ⊢; exact hS10 h), (fun h => by rw [getD_set_ne (by decide)] at h ⊢; exact hS11 h)⟩
        · skip
          refine wpOp_of rfl rfl ?_
          go_simp
          unfold RnInv
          exact ⟨_, _, _, _, _, _, _, _, _, _, _, _, p9, p10, p11, rfl, (hB), (hF_T), (fun h => h0 (by rwa [getD_set_ne (by decide)] at h)), (fun h => h1 (by rwa [getD_set_ne (by decide)] at h)), (fun h => h2 (by rwa [getD_set_ne (by decide)] at h)), (fun h => h3 (by rwa [getD_set_ne (by decide)] at h)), (fun h => h4 (by rwa [getD_set_ne (by decide)] at h)), (fun h => h5 (by rwa [getD_set_ne (by decide)] at h)), (fun _ => rfl), (fun h => h7 (by rwa [getD_set_ne (by decide)] at h)), (fun h => h8 (by rwa [getD_set_ne (by decide)] at h)), (fun h => by rw [getD_set_ne (by decide)] at h; rw [getD_set_ne (by decide)]; exact h9 h), (fun h => by rw [getD_set_ne (by decide)] at h; rw [getD_set_ne (by decide)]; exact h10 h), (fun h => by rw [getD_set_ne (by decide)] at h; rw [getD_set_ne (by decide)]; exact h11 h), (fun h h2 => hD9_10 (by rwa [getD_set_ne (by decide)] at h) (by rwa [getD_set_ne (by decide)] at h2)), (fun h h2 => hD9_11 (by rwa [getD_set_ne (by decide)] at h) (by rwa [getD_set_ne (by decide)] at h2)), (fun h h2 => hD10_11 (by rwa [getD_set_ne (by decide)] at h) (by rwa [getD_set_ne (by decide)] at h2)), (fun h => by rw [getD_set_ne (by decide)] at h ⊢; exact hS9 h), (fun h => by rw [getD_set_ne (by decide)] at h ⊢; exact hS10 h), (fun h => by rw [getD_set_ne (by decide)] at h ⊢; exact hS11 h)⟩
        · skip
          have e6 := h6 (ready_dep hi (by kernel_rfl))
          subst e6
          refine wpOp_of rfl rfl ?_
          go_simp
          unfold RnInv
          exact ⟨_, _, _, _, _, _, _, _, _, _, _, _, p9, p10, p11, rfl, (hB), (hF_T), (fun h => h0 (by rwa [getD_set_ne (by decide)] at h)), (fun h => h1 (by rwa [getD_set_ne (by decide)] at h)), (fun h => h2 (by rwa [getD_set_ne (by decide)] at h)), (fun h => h3 (by rwa [getD_set_ne (by decide)] at h)), (fun h => h4 (by rwa [getD_set_ne (by decide)] at h)), (fun h => h5 (by rwa [getD_set_ne (by decide)] at h)), (fun h => h6 (by rwa [getD_set_ne (by decide)] at h)), (fun _ => rfl), (fun h => h8 (by rwa [getD_set_ne (by decide)] at h)), (fun h => by rw [getD_set_ne (by decide)] at h; rw [getD_set_ne (by decide)]; exact h9 h), (fun h => by rw [getD_set_ne (by decide)] at h; rw [getD_set_ne (by decide)]; exact h10 h), (fun h => by rw [getD_set_ne (by decide)] at h; rw [getD_set_ne (by decide)]; exact h11 h), (fun h h2 => hD9_10 (by rwa [getD_set_ne (by decide)] at h) (by rwa [getD_set_ne (by decide)] at h2)), (fun h h2 => hD9_11 (by rwa [getD_set_ne (by decide)] at h) (by rwa [getD_set_ne (by decide)] at h2)), (fun h h2 => hD10_11 (by rwa [getD_set_ne (by decide)] at h) (by rwa [getD_set_ne (by decide)] at h2)), (fun h => by rw [getD_set_ne (by decide)] at h ⊢; exact hS9 h), (fun h => by rw [getD_set_ne (by decide)] at h ⊢; exact hS10 h), (fun h => by rw [getD_set_ne (by decide)] at h ⊢; exact hS11 h)⟩
        · skip
          have e7 := h7 (ready_dep hi (by kernel_rfl))
          subst e7
          have c0 := hcell (k := 7) (v := .int .i64 cx) hF_T rfl
          have c1 := hcell (k := 8) (v := .int .i64 cy) hF_T rfl
          have c2 := hcell (k := 9) (v := .int .i64 cz) hF_T rfl
          refine wpOp_of rfl rfl ?_
          go_simp
          unfold RnInv
          exact ⟨_, _, _, _, _, _, _, _, _, _, _, _, p9, p10, p11, rfl, (hB), (hF_T), (fun h => h0 (by rwa [getD_set_ne (by decide)] at h)), (fun h => h1 (by rwa [getD_set_ne (by decide)] at h)), (fun h => h2 (by rwa [getD_set_ne (by decide)] at h)), (fun h => h3 (by rwa [getD_set_ne (by decide)] at h)), (fun h => h4 (by rwa [getD_set_ne (by decide)] at h)), (fun h => h5 (by rwa [getD_set_ne (by decide)] at h)), (fun h => h6 (by rwa [getD_set_ne (by decide)] at h)), (fun h => h7 (by rwa [getD_set_ne (by decide)] at h)), (fun _ => rfl), (fun h => by rw [getD_set_ne (by decide)] at h; rw [getD_set_ne (by decide)]; exact h9 h), (fun h => by rw [getD_set_ne (by decide)] at h; rw [getD_set_ne (by decide)]; exact h10 h), (fun h => by rw [getD_set_ne (by decide)] at h; rw [getD_set_ne (by decide)]; exact h11 h), (fun h h2 => hD9_10 (by rwa [getD_set_ne (by decide)] at h) (by rwa [getD_set_ne (by decide)] at h2)), (fun h h2 => hD9_11 (by rwa [getD_set_ne (by decide)] at h) (by rwa [getD_set_ne (by decide)] at h2)), (fun h h2 => hD10_11 (by rwa [getD_set_ne (by decide)] at h) (by rwa [getD_set_ne (by decide)] at h2)), (fun h => by rw [getD_set_ne (by decide)] at h ⊢; exact hS9 h), (fun h => by rw [getD_set_ne (by decide)] at h ⊢; exact hS10 h), (fun h => by rw [getD_set_ne (by decide)] at h ⊢; exact hS11 h)⟩
        · skip
          refine wpOp_of rfl rfl ?_
          go_simp
          unfold RnInv
          exact ⟨_, _, _, _, _, _, _, _, _, _, _, _, wi.heap.size, p10, p11, rfl, (hB.alloc (Nat.le_trans (Nat.le_refl _) hB.size) _), (halloc hF_T _), (fun h => h0 (by rwa [getD_set_ne (by decide)] at h)), (fun h => h1 (by rwa [getD_set_ne (by decide)] at h)), (fun h => h2 (by rwa [getD_set_ne (by decide)] at h)), (fun h => h3 (by rwa [getD_set_ne (by decide)] at h)), (fun h => h4 (by rwa [getD_set_ne (by decide)] at h)), (fun h => h5 (by rwa [getD_set_ne (by decide)] at h)), (fun h => h6 (by rwa [getD_set_ne (by decide)] at h)), (fun h => h7 (by rwa [getD_set_ne (by decide)] at h)), (fun h => h8 (by rwa [getD_set_ne (by decide)] at h)), (fun _ => ⟨rfl, hB.size, by rw [getD_set_ne (by decide)]; have n12 : L.getD 12 false = false := (by cases h : L.getD 12 false with | false => rfl | true => rw [hS9 h] at hi'; cases hi'); rw [n12]; exact World.alloc_heap_new _ _⟩), (fun h => by rw [getD_set_ne (by decide)] at h; rw [getD_set_ne (by decide)]; obtain ⟨e1, e2, e3⟩ := h10 h; exact ⟨e1, e2, halloc e3 _⟩), (fun h => by rw [getD_set_ne (by decide)] at h; rw [getD_set_ne (by decide)]; obtain ⟨e1, e2, e3⟩ := h11 h; exact ⟨e1, e2, halloc e3 _⟩), (fun _ h => by rw [getD_set_ne (by decide)] at h; have := hblt (h10 h).2.2; omega), (fun _ h => by rw [getD_set_ne (by decide)] at h; have := hblt (h11 h).2.2; omega), (fun h h2 => hD10_11 (by rwa [getD_set_ne (by decide)] at h) (by rwa [getD_set_ne (by decide)] at h2)), (fun _ => getD_set_eq (by omega) _), (fun h => by rw [getD_set_ne (by decide)] at h ⊢; exact hS10 h), (fun h => by rw [getD_set_ne (by decide)] at h ⊢; exact hS11 h)⟩
        · skip
          refine wpOp_of rfl rfl ?_
          go_simp
          unfold RnInv
          exact ⟨_, _, _, _, _, _, _, _, _, _, _, _, p9, wi.heap.size, p11, rfl, (hB.alloc (Nat.le_trans (Nat.le_refl _) hB.size) _), (halloc hF_T _), (fun h => h0 (by rwa [getD_set_ne (by decide)] at h)), (fun h => h1 (by rwa [getD_set_ne (by decide)] at h)), (fun h => h2 (by rwa [getD_set_ne (by decide)] at h)), (fun h => h3 (by rwa [getD_set_ne (by decide)] at h)), (fun h => h4 (by rwa [getD_set_ne (by decide)] at h)), (fun h => h5 (by rwa [getD_set_ne (by decide)] at h)), (fun h => h6 (by rwa [getD_set_ne (by decide)] at h)), (fun h => h7 (by rwa [getD_set_ne (by decide)] at h)), (fun h => h8 (by rwa [getD_set_ne (by decide)] at h)), (fun h => by rw [getD_set_ne (by decide)] at h; rw [getD_set_ne (by decide)]; obtain ⟨e1, e2, e3⟩ := h9 h; exact ⟨e1, e2, halloc e3 _⟩), (fun _ => ⟨rfl, hB.size, by rw [getD_set_ne (by decide)]; have n13 : L.getD 13 false = false := (by cases h : L.getD 13 false with | false => rfl | true => rw [hS10 h] at hi'; cases hi'); rw [n13]; exact World.alloc_heap_new _ _⟩), (fun h => by rw [getD_set_ne (by decide)] at h; rw [getD_set_ne (by decide)]; obtain ⟨e1, e2, e3⟩ := h11 h; exact ⟨e1, e2, halloc e3 _⟩), (fun h _ => by rw [getD_set_ne (by decide)] at h; have := hblt (h9 h).2.2; omega), (fun h h2 => hD9_11 (by rwa [getD_set_ne (by decide)] at h) (by rwa [getD_set_ne (by decide)] at h2)), (fun _ h => by rw [getD_set_ne (by decide)] at h; have := hblt (h11 h).2.2; omega), (fun h => by rw [getD_set_ne (by decide)] at h ⊢; exact hS9 h), (fun _ => getD_set_eq (by omega) _), (fun h => by rw [getD_set_ne (by decide)] at h ⊢; exact hS11 h)⟩
        · skip
          refine wpOp_of rfl rfl ?_
          go_simp
          unfold RnInv
          exact ⟨_, _, _, _, _, _, _, _, _, _, _, _, p9, p10, wi.heap.size, rfl, (hB.alloc (Nat.le_trans (Nat.le_refl _) hB.size) _), (halloc hF_T _), (fun h => h0 (by rwa [getD_set_ne (by decide)] at h)), (fun h => h1 (by rwa [getD_set_ne (by decide)] at h)), (fun h => h2 (by rwa [getD_set_ne (by decide)] at h)), (fun h => h3 (by rwa [getD_set_ne (by decide)] at h)), (fun h => h4 (by rwa [getD_set_ne (by decide)] at h)), (fun h => h5 (by rwa [getD_set_ne (by decide)] at h)), (fun h => h6 (by rwa [getD_set_ne (by decide)] at h)), (fun h => h7 (by rwa [getD_set_ne (by decide)] at h)), (fun h => h8 (by rwa [getD_set_ne (by decide)] at h)), (fun h => by rw [getD_set_ne (by decide)] at h; rw [getD_set_ne (by decide)]; obtain ⟨e1, e2, e3⟩ := h9 h; exact ⟨e1, e2, halloc e3 _⟩), (fun h => by rw [getD_set_ne (by decide)] at h; rw [getD_set_ne (by decide)]; obtain ⟨e1, e2, e3⟩ := h10 h; exact ⟨e1, e2, halloc e3 _⟩), (fun _ => ⟨rfl, hB.size, by rw [getD_set_ne (by decide)]; have n14 : L.getD 14 false = false := (by cases h : L.getD 14 false with | false => rfl | true => rw [hS11 h] at hi'; cases hi'); rw [n14]; exact World.alloc_heap_new _ _⟩), (fun h h2 => hD9_10 (by rwa [getD_set_ne (by decide)] at h) (by rwa [getD_set_ne (by decide)] at h2)), (fun h _ => by rw [getD_set_ne (by decide)] at h; have := hblt (h9 h).2.2; omega), (fun h _ => by rw [getD_set_ne (by decide)] at h; have := hblt (h10 h).2.2; omega), (fun h => by rw [getD_set_ne (by decide)] at h ⊢; exact hS9 h), (fun h => by rw [getD_set_ne (by decide)] at h ⊢; exact hS10 h), (fun _ => getD_set_eq (by omega) _)⟩
        · skip
          have e2 := h2 (ready_dep hi (by kernel_rfl))
          subst e2
          obtain ⟨e1, e2, e3⟩ := h9 (ready_dep hi (by kernel_rfl))
          subst e1
          rw [hi'] at e3
          have e3 : wi.heap[p9]? = some (.cells #[.int .i64 0, .int .i64 0, .int .i64 0] 74 (0, 0)) := e3
          have f0 := hfroz (k := 0) e3
          have z0 := hcell (k := 0) (v := .int .i64 0) e3 rfl
          have f1 := hfroz (k := 1) e3
          have z1 := hcell (k := 1) (v := .int .i64 0) e3 rfl
          have f2 := hfroz (k := 2) e3
          have z2 := hcell (k := 2) (v := .int .i64 0) e3 rfl
          have hG := bx3_grown (w := wi) (b := p9) (.int .i64 ax) (.int .i64 ay) (.int .i64 az)
          have hN := bx3_set e3 (.int .i64 ax) (.int .i64 ay) (.int .i64 az)
          refine wpOp_of rfl rfl ?_
          go_simp
          unfold RnInv
          exact ⟨_, _, _, _, _, _, _, _, _, _, _, _, p9, p10, p11, rfl, (hB.grown hG (Nat.le_trans (Nat.le_refl _) hB.size) (fun j hj => by cases hj; omega)), (hgrown hG hF_T (by simp only [ne_eq, Option.some.injEq]; omega)), (fun h => h0 (by rwa [getD_set_ne (by decide)] at h)), (fun h => h1 (by rwa [getD_set_ne (by decide)] at h)), (fun h => h2 (by rwa [getD_set_ne (by decide)] at h)), (fun h => h3 (by rwa [getD_set_ne (by decide)] at h)), (fun h => h4 (by rwa [getD_set_ne (by decide)] at h)), (fun h => h5 (by rwa [getD_set_ne (by decide)] at h)), (fun h => h6 (by rwa [getD_set_ne (by decide)] at h)), (fun h => h7 (by rwa [getD_set_ne (by decide)] at h)), (fun h => h8 (by rwa [getD_set_ne (by decide)] at h)), (fun _ => ⟨rfl, e2, by rw [getD_set_eq (by omega)]; exact hN⟩), (fun h => by rw [getD_set_ne (by decide)] at h; rw [getD_set_ne (by decide)]; obtain ⟨e1, e2, e3⟩ := h10 h; exact ⟨e1, e2, hgrown hG e3 (fun e => hD9_10 (ready_dep hi (by kernel_rfl)) h (Option.some.inj e))⟩), (fun h => by rw [getD_set_ne (by decide)] at h; rw [getD_set_ne (by decide)]; obtain ⟨e1, e2, e3⟩ := h11 h; exact ⟨e1, e2, hgrown hG e3 (fun e => hD9_11 (ready_dep hi (by kernel_rfl)) h (Option.some.inj e))⟩), (fun h h2 => hD9_10 (by rwa [getD_set_ne (by decide)] at h) (by rwa [getD_set_ne (by decide)] at h2)), (fun h h2 => hD9_11 (by rwa [getD_set_ne (by decide)] at h) (by rwa [getD_set_ne (by decide)] at h2)), (fun h h2 => hD10_11 (by rwa [getD_set_ne (by decide)] at h) (by rwa [getD_set_ne (by decide)] at h2)), (fun _ => by rw [getD_set_ne (by decide)]; exact ready_dep hi (by kernel_rfl)), (fun h => by rw [getD_set_ne (by decide)] at h ⊢; exact hS10 h), (fun h => by rw [getD_set_ne (by decide)] at h ⊢; exact hS11 h)⟩
        · skip
          have e5 := h5 (ready_dep hi (by kernel_rfl))
          subst e5
          obtain ⟨e1, e2, e3⟩ := h10 (ready_dep hi (by kernel_rfl))
          subst e1
          rw [hi'] at e3
          have e3 : wi.heap[p10]? = some (.cells #[.int .i64 0, .int .i64 0, .int .i64 0] 74 (0, 0)) := e3
          have f0 := hfroz (k := 0) e3
          have z0 := hcell (k := 0) (v := .int .i64 0) e3 rfl
          have f1 := hfroz (k := 1) e3
          have z1 := hcell (k := 1) (v := .int .i64 0) e3 rfl
          have f2 := hfroz (k := 2) e3
          have z2 := hcell (k := 2) (v := .int .i64 0) e3 rfl
          have hG := bx3_grown (w := wi) (b := p10) (.int .i64 bx) (.int .i64 by_) (.int .i64 bz)
          have hN := bx3_set e3 (.int .i64 bx) (.int .i64 by_) (.int .i64 bz)
          refine wpOp_of rfl rfl ?_
          go_simp
          unfold RnInv
          exact ⟨_, _, _, _, _, _, _, _, _, _, _, _, p9, p10, p11, rfl, (hB.grown hG (Nat.le_trans (Nat.le_refl _) hB.size) (fun j hj => by cases hj; omega)), (hgrown hG hF_T (by simp only [ne_eq, Option.some.injEq]; omega)), (fun h => h0 (by rwa [getD_set_ne (by decide)] at h)), (fun h => h1 (by rwa [getD_set_ne (by decide)] at h)), (fun h => h2 (by rwa [getD_set_ne (by decide)] at h)), (fun h => h3 (by rwa [getD_set_ne (by decide)] at h)), (fun h => h4 (by rwa [getD_set_ne (by decide)] at h)), (fun h => h5 (by rwa [getD_set_ne (by decide)] at h)), (fun h => h6 (by rwa [getD_set_ne (by decide)] at h)), (fun h => h7 (by rwa [getD_set_ne (by decide)] at h)), (fun h => h8 (by rwa [getD_set_ne (by decide)] at h)), (fun h => by rw [getD_set_ne (by decide)] at h; rw [getD_set_ne (by decide)]; obtain ⟨e1, e2, e3⟩ := h9 h; exact ⟨e1, e2, hgrown hG e3 (fun e => hD9_10 h (ready_dep hi (by kernel_rfl)) (Option.some.inj e).symm)⟩), (fun _ => ⟨rfl, e2, by rw [getD_set_eq (by omega)]; exact hN⟩), (fun h => by rw [getD_set_ne (by decide)] at h; rw [getD_set_ne (by decide)]; obtain ⟨e1, e2, e3⟩ := h11 h; exact ⟨e1, e2, hgrown hG e3 (fun e => hD10_11 (ready_dep hi (by kernel_rfl)) h (Option.some.inj e))⟩), (fun h h2 => hD9_10 (by rwa [getD_set_ne (by decide)] at h) (by rwa [getD_set_ne (by decide)] at h2)), (fun h h2 => hD9_11 (by rwa [getD_set_ne (by decide)] at h) (by rwa [getD_set_ne (by decide)] at h2)), (fun h h2 => hD10_11 (by rwa [getD_set_ne (by decide)] at h) (by rwa [getD_set_ne (by decide)] at h2)), (fun h => by rw [getD_set_ne (by decide)] at h ⊢; exact hS9 h), (fun _ => by rw [getD_set_ne (by decide)]; exact ready_dep hi (by kernel_rfl)), (fun h => by rw [getD_set_ne (by decide)] at h ⊢; exact hS11 h)⟩
        · skip
          have e8 := h8 (ready_dep hi (by kernel_rfl))
          subst e8
          obtain ⟨e1, e2, e3⟩ := h11 (ready_dep hi (by kernel_rfl))
          subst e1
          rw [hi'] at e3
          have e3 : wi.heap[p11]? = some (.cells #[.int .i64 0, .int .i64 0, .int .i64 0] 74 (0, 0)) := e3
          have f0 := hfroz (k := 0) e3
          have z0 := hcell (k := 0) (v := .int .i64 0) e3 rfl
          have f1 := hfroz (k := 1) e3
          have z1 := hcell (k := 1) (v := .int .i64 0) e3 rfl
          have f2 := hfroz (k := 2) e3
          have z2 := hcell (k := 2) (v := .int .i64 0) e3 rfl
          have hG := bx3_grown (w := wi) (b := p11) (.int .i64 cx) (.int .i64 cy) (.int .i64 cz)
          have hN := bx3_set e3 (.int .i64 cx) (.int .i64 cy) (.int .i64 cz)
          refine wpOp_of rfl rfl ?_
          go_simp
          unfold RnInv
          exact ⟨_, _, _, _, _, _, _, _, _, _, _, _, p9, p10, p11, rfl, (hB.grown hG (Nat.le_trans (Nat.le_refl _) hB.size) (fun j hj => by cases hj; omega)), (hgrown hG hF_T (by simp only [ne_eq, Option.some.injEq]; omega)), (fun h => h0 (by rwa [getD_set_ne (by decide)] at h)), (fun h => h1 (by rwa [getD_set_ne (by decide)] at h)), (fun h => h2 (by rwa [getD_set_ne (by decide)] at h)), (fun h => h3 (by rwa [getD_set_ne (by decide)] at h)), (fun h => h4 (by rwa [getD_set_ne (by decide)] at h)), (fun h => h5 (by rwa [getD_set_ne (by decide)] at h)), (fun h => h6 (by rwa [getD_set_ne (by decide)] at h)), (fun h => h7 (by rwa [getD_set_ne (by decide)] at h)), (fun h => h8 (by rwa [getD_set_ne (by decide)] at h)), (fun h => by rw [getD_set_ne (by decide)] at h; rw [getD_set_ne (by decide)]; obtain ⟨e1, e2, e3⟩ := h9 h; exact ⟨e1, e2, hgrown hG e3 (fun e => hD9_11 h (ready_dep hi (by kernel_rfl)) (Option.some.inj e).symm)⟩), (fun h => by rw [getD_set_ne (by decide)] at h; rw [getD_set_ne (by decide)]; obtain ⟨e1, e2, e3⟩ := h10 h; exact ⟨e1, e2, hgrown hG e3 (fun e => hD10_11 h (ready_dep hi (by kernel_rfl)) (Option.some.inj e).symm)⟩), (fun _ => ⟨rfl, e2, by rw [getD_set_eq (by omega)]; exact hN⟩), (fun h h2 => hD9_10 (by rwa [getD_set_ne (by decide)] at h) (by rwa [getD_set_ne (by decide)] at h2)), (fun h h2 => hD9_11 (by rwa [getD_set_ne (by decide)] at h) (by rwa [getD_set_ne (by decide)] at h2)), (fun h h2 => hD10_11 (by rwa [getD_set_ne (by decide)] at h) (by rwa [getD_set_ne (by decide)] at h2)), (fun h => by rw [getD_set_ne (by decide)] at h ⊢; exact hS9 h), (fun h => by rw [getD_set_ne (by decide)] at h ⊢; exact hS10 h), (fun _ => by rw [getD_set_ne (by decide)]; exact ready_dep hi (by kernel_rfl))⟩
      · intro L a wi hI hall
        unfold RnInv at hI
        obtain ⟨s0, s1, s2, s3, s4, s5, s6, s7, s8, s9, s10, s11, p9, p10, p11, rfl, hB, hF_T, h0, h1, h2, h3, h4, h5, h6, h7, h8, h9, h10, h11, hD9_10, hD9_11, hD10_11, hS9, hS10, hS11⟩ := hI
        have e0 := h0 (hall 0 (by decide))
        subst e0
        have e1 := h1 (hall 1 (by decide))
        subst e1
        have e2 := h2 (hall 2 (by decide))
        subst e2
        have e3 := h3 (hall 3 (by decide))
        subst e3
        have e4 := h4 (hall 4 (by decide))
        subst e4
        have e5 := h5 (hall 5 (by decide))
        subst e5
        have e6 := h6 (hall 6 (by decide))
        subst e6
        have e7 := h7 (hall 7 (by decide))
        subst e7
        have e8 := h8 (hall 8 (by decide))
        subst e8
        obtain ⟨e9, b9, g9⟩ := h9 (hall 9 (by decide))
        rw [if_pos (hall 12 (by decide))] at g9
        subst e9
        obtain ⟨e10, b10, g10⟩ := h10 (hall 10 (by decide))
        rw [if_pos (hall 13 (by decide))] at g10
        subst e10
        obtain ⟨e11, b11, g11⟩ := h11 (hall 11 (by decide))
        rw [if_pos (hall 14 (by decide))] at g11
        subst e11
        replace hD9_10 := hD9_10 (hall 9 (by decide)) (hall 10 (by decide))
        replace hD9_11 := hD9_11 (hall 9 (by decide)) (hall 11 (by decide))
        replace hD10_11 := hD10_11 (hall 10 (by decide)) (hall 11 (by decide))
        clear hall h9 h10 h11 hS9 hS10 hS11
        have hB3 := hB2.trans (hB.mono hB2.size)
        clear hF_T hT2 hB hB2 hTl
        have k1 : -100000 ≤ ax ∧ ax ≤ 100000 := by have := HCI.out; omega
        have k2 : -100000 ≤ ay ∧ ay ≤ 100000 := by have := HCI.out; omega
        have k3 : -100000 ≤ az ∧ az ≤ 100000 := by have := HCI.out; omega
        have k4 : -100000 ≤ bx ∧ bx ≤ 100000 := by have := HCI.out; omega
        have k5 : -100000 ≤ by_ ∧ by_ ≤ 100000 := by have := HCI.out; omega
        have k6 : -100000 ≤ bz ∧ bz ≤ 100000 := by have := HCI.out; omega
        have k7 : -100000 ≤ cx ∧ cx ≤ 100000 := by have := HCI.out; omega
        have k8 : -100000 ≤ cy ∧ cy ≤ 100000 := by have := HCI.out; omega
        have k9 : -100000 ≤ cz ∧ cz ≤ 100000 := by have := HCI.out; omega
        have ca0 := hcell (k := 0) (v := .int .i64 ax) g9 rfl
        have ca1 := hcell (k := 1) (v := .int .i64 ay) g9 rfl
        have ca2 := hcell (k := 2) (v := .int .i64 az) g9 rfl
        have cb0 := hcell (k := 0) (v := .int .i64 bx) g10 rfl
        have cb1 := hcell (k := 1) (v := .int .i64 by_) g10 rfl
        have cb2 := hcell (k := 2) (v := .int .i64 bz) g10 rfl
        have cc0 := hcell (k := 0) (v := .int .i64 cx) g11 rfl
        have cc1 := hcell (k := 1) (v := .int .i64 cy) g11 rfl
        have cc2 := hcell (k := 2) (v := .int .i64 cz) g11 rfl
        have u0 : IntKind.i64.wrap (bx - ax) = bx - ax := by rw [IntKind.wrap_i64]; omega
        have u1 : IntKind.i64.wrap (by_ - ay) = by_ - ay := by rw [IntKind.wrap_i64]; omega
        have u2 : IntKind.i64.wrap (bz - az) = bz - az := by rw [IntKind.wrap_i64]; omega
        have u3 : IntKind.i64.wrap (cx - ax) = cx - ax := by rw [IntKind.wrap_i64]; omega
        have u4 : IntKind.i64.wrap (cy - ay) = cy - ay := by rw [IntKind.wrap_i64]; omega
        have u5 : IntKind.i64.wrap (cz - az) = cz - az := by rw [IntKind.wrap_i64]; omega
        clear g9 g10 g11 b9 b10 b11 hD9_10 hD9_11 hD10_11
        go_upto_region 8 with fail
        have e_ca0 := fun d os => cell_regrown ca0 d os
        have e_ca1 := fun d os => cell_regrown ca1 d os
        have e_ca2 := fun d os => cell_regrown ca2 d os
        have e_cb0 := fun d os => cell_regrown cb0 d os
        have e_cb1 := fun d os => cell_regrown cb1 d os
        have e_cb2 := fun d os => cell_regrown cb2 d os
        have e_cc0 := fun d os => cell_regrown cc0 d os
        have e_cc1 := fun d os => cell_regrown cc1 d os
        have e_cc2 := fun d os => cell_regrown cc2 d os
        refine wp_region_quiet_below (by kernel_rfl) (by kernel_rfl) ?_
        repeat (go_big_quiet_step (fail))
        refine wpQuiet_nil ?_
        rintro w4 ⟨⟨dq, osq⟩, hw4⟩
        have hstep : Below wi.heap.size wi w4 := by rw [hw4]; exact below_regrown wi dq osq
        have ca0n := hbc hstep ca0
        have ca1n := hbc hstep ca1
        have ca2n := hbc hstep ca2
        have cb0n := hbc hstep cb0
        have cb1n := hbc hstep cb1
        have cb2n := hbc hstep cb2
        have cc0n := hbc hstep cc0
        have cc1n := hbc hstep cc1
        have cc2n := hbc hstep cc2
        clear hw4 ca0 ca1 ca2 cb0 cb1 cb2 cc0 cc1 cc2 e_ca0 e_ca1 e_ca2 e_cb0 e_cb1 e_cb2 e_cc0 e_cc1 e_cc2
        have hB4 := hB3.trans (hstep.mono hB3.size)
        clear hstep hB3
        go_upto_region 9 with fail
        have e_ca0n := fun d os => cell_regrown ca0n d os
        have e_ca1n := fun d os => cell_regrown ca1n d os
        have e_ca2n := fun d os => cell_regrown ca2n d os
        have e_cb0n := fun d os => cell_regrown cb0n d os
        have e_cb1n := fun d os => cell_regrown cb1n d os
        have e_cb2n := fun d os => cell_regrown cb2n d os
        have e_cc0n := fun d os => cell_regrown cc0n d os
        have e_cc1n := fun d os => cell_regrown cc1n d os
        have e_cc2n := fun d os => cell_regrown cc2n d os
        refine wp_region_quiet_below (by kernel_rfl) (by kernel_rfl) ?_
        repeat (go_big_quiet_step (fail))
        refine wpQuiet_nil ?_
        rintro w5 ⟨⟨dq, osq⟩, hw4⟩
        have hstep : Below w4.heap.size w4 w5 := by rw [hw4]; exact below_regrown w4 dq osq
        have ca0nn := hbc hstep ca0n
        have ca1nn := hbc hstep ca1n
        have ca2nn := hbc hstep ca2n
        have cb0nn := hbc hstep cb0n
        have cb1nn := hbc hstep cb1n
        have cb2nn := hbc hstep cb2n
        have cc0nn := hbc hstep cc0n
        have cc1nn := hbc hstep cc1n
        have cc2nn := hbc hstep cc2n
        clear hw4 ca0n ca1n ca2n cb0n cb1n cb2n cc0n cc1n cc2n e_ca0n e_ca1n e_ca2n e_cb0n e_cb1n e_cb2n e_cc0n e_cc1n e_cc2n
        have hB5 := hB4.trans (hstep.mono hB4.size)
        clear hstep hB4 u0 u1 u2 u3 u4 u5 k1 k2 k3 k4 k5 k6 k7 k8 k9 ca0nn ca1nn ca2nn cb0nn cb1nn cb2nn cc0nn cc1nn cc2nn
        have HX : Hid ((-32 ≤ bx - ax ∧ bx - ax ≤ 32) ∧ (-4096 ≤ by_ - ay ∧ by_ - ay ≤ 4096) ∧ (-32 ≤ bz - az ∧ bz - az ≤ 32) ∧ (-32 ≤ cx - ax ∧ cx - ax ≤ 32) ∧ (-4096 ≤ cy - ay ∧ cy - ay ≤ 4096) ∧ (-32 ≤ cz - az ∧ cz - az ≤ 32)) := by have := HCI.out; show _ ∧ _; omega
        clear HCI
        generalize bx - ax = ux at *
        generalize by_ - ay = uy at *
        generalize bz - az = uz at *
        generalize cx - ax = vx at *
        generalize cy - ay = vy at *
        generalize cz - az = vz at *
        obtain ⟨x1, x2, x3, x4, x5, x6⟩ := HX.out
        have b1 := mulB (x := uz) (y := vx) (K := 32) (L := 32) (by omega) (by omega)
        have b2 := mulB (x := ux) (y := vz) (K := 32) (L := 32) (by omega) (by omega)
        have b3 := mulB (x := uy) (y := vz) (K := 4096) (L := 32) (by omega) (by omega)
        have b4 := mulB (x := uz) (y := vy) (K := 32) (L := 4096) (by omega) (by omega)
        have b5 := mulB (x := ux) (y := vy) (K := 32) (L := 4096) (by omega) (by omega)
        have b6 := mulB (x := uy) (y := vx) (K := 4096) (L := 32) (by omega) (by omega)
        have w1 : IntKind.i64.wrap (uz * vx) = uz * vx := by rw [IntKind.wrap_i64]; omega
        have w2 : IntKind.i64.wrap (ux * vz) = ux * vz := by rw [IntKind.wrap_i64]; omega
        have w3 : IntKind.i64.wrap (uz * vx - ux * vz) = uz * vx - ux * vz := by rw [IntKind.wrap_i64]; omega
        have w4 : IntKind.i64.wrap (uy * vz) = uy * vz := by rw [IntKind.wrap_i64]; omega
        have w5 : IntKind.i64.wrap (uz * vy) = uz * vy := by rw [IntKind.wrap_i64]; omega
        have w6 : IntKind.i64.wrap (uy * vz - uz * vy) = uy * vz - uz * vy := by rw [IntKind.wrap_i64]; omega
        have w7 : IntKind.i64.wrap (ux * vy) = ux * vy := by rw [IntKind.wrap_i64]; omega
        have w8 : IntKind.i64.wrap (uy * vx) = uy * vx := by rw [IntKind.wrap_i64]; omega
        have w9 : IntKind.i64.wrap (ux * vy - uy * vx) = ux * vy - uy * vx := by rw [IntKind.wrap_i64]; omega
        clear b1 b2 b3 b4 b5 b6 x1 x2 x3 x4 x5 x6 HX
        have hne : (uz * vx - ux * vz == 0) = false := by simpa using HNY.out
        clear HNY
        go_wp2
        ((try simp only [Exit.inBlock, Exit.then]); refine bodyPost_ret (results_n4 rfl _ _ _) rfl ?_)
        refine ⟨?_, hB5⟩
        rw [HX1.out, HX2.out, HX3.out]
        rfl
end Go.Proofs.YtjiklfffcnfdjaaGreat
