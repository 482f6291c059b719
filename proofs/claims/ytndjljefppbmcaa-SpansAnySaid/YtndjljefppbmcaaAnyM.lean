/- Walk: the law's row in another order. -/
import Derived.Test.YtndjljefppbmcaaAnyW
namespace Go.Proofs.Ytndjljefppbmcaa
open Go.RowKit

theorem OwnR.drew {α : Type} {f : α → List Value} {sz : Nat} {e : TypeId} {B : Nat} {w : World} {v : Value} {n : Nat} {xs : List α} (h : OwnR f sz e B w v n xs) : OwnR f sz e B w.drew v n xs := h.below (B2 := w.heap.size) ⟨rfl, rfl, rfl, Nat.le_refl _, fun _ _ => rfl⟩ (Nat.le_refl _)
theorem below_drew {B : Nat} {w w' : World} (h : Below B w w') : Below B w w'.drew := ⟨h.os, h.tape, h.output, h.size, fun i hi => h.block i hi⟩
theorem place_at (r : Int) (j n : Nat) (h0 : 0 ≤ r) (hj : j < n) (hn : n ≤ 1000) : ∃ k : Nat, k < n ∧ wrap64 ((j : Int) + r.tmod ((n : Int) - (j : Int))) = (k : Int) := by
  have h1 : (0 : Int) < (n : Int) - (j : Int) := by omega
  have h2 : 0 ≤ r.tmod ((n : Int) - (j : Int)) := Int.tmod_nonneg _ h0
  have h3 := Int.tmod_lt_of_pos r h1
  refine ⟨((j : Int) + r.tmod ((n : Int) - (j : Int))).toNat, by omega, ?_⟩
  rw [IntWalk.wrap64_in _ (by omega)]
  omega
theorem set_at {l : List Spn} {j k : Nat} {y : Spn} (hj : j < l.length) (hy : l[k]? = some y) : (l.set j y)[k]? = some y := by
  rw [List.getElem?_set]
  split
  · rfl
  · exact hy

set_option maxRecDepth 100000 in
set_option maxHeartbeats 2000000 in
theorem moved_any (a : Option Addr) (n c : Nat) (xs : List Spn) (b : Option Addr) (m d : Nat) (os : List Int) (w : World) (hx : SlSp w a n c xs) (ho : SlI .i64 w b m d os) (hn : n ≤ 1000) :
    Calls Try.prog 19 #[.slice a n c, .slice b m d] w fun e w' => ∃ v ys, e = .returned v ∧ OwnR spnC 3 28 w.heap.size w' v n ys ∧ ys.Perm xs ∧ Below w.heap.size w w' := by
  have Hl := Lib.hid hx.len
  have hmax := hx.max
  have hle := hx.le
  have hmm := ho.max
  have hle2 := ho.le
  have Ho := Lib.hid ho
  have hem : OwnR spnC 3 28 w.heap.size (w.alloc (.cells #[] 28)) (.slice (some ⟨w.heap.size, 0, none⟩) 0 0) 0 [] := ⟨rfl, World.ownsRow_made w #[] 0 (Nat.le_refl _) (Nat.zero_le _) (by simp)⟩
  have Hx := Lib.hid (SlR.alloc hx (.cells #[] 28))
  have hB0 : Below w.heap.size w (w.alloc (.cells #[] 28)) := (Below.refl _ _).alloc (Nat.le_refl _) _
  clear hx ho
  go_enter Try.func19, Try.ntmps19
  go_wp2_with (at_builtin; refine wpList_appS (f := spnC) (sz := 3) (e := 28) _ spnC_len spnC_one rfl _ _ 22 rfl (.agg #[.int .i64 0, .int .i64 0, .bool false]) 24 Try.underlying22 info_spn rfl (by decide) w.heap.size (.slice (some ⟨w.heap.size, 0, none⟩) 0 0) 0 [] hem rfl a n c xs Hx.out rfl (by omega) (by omega) (by simp) ?_; intro v1 w1 hown1 hb1)
  rw [Nat.zero_add, List.nil_append] at hown1
  have hB1 := hB0.trans hb1
  clear hem hB0 hb1 Hx
  by_cases h0 : n = 0
  · subst h0
    obtain ⟨av, cv, rfl, hrd⟩ := OwnR.reads spnC_len hown1
    clear hrd
    go_wp2_with fail
    refine wp_loop_rounds 1 ?_
    rw [rounds_succ]
    go_wp2
    go_ret
    exact ⟨_, xs, rfl, hown1, List.Perm.refl _, hB1⟩
  obtain ⟨g, cap, rfl, hBg, hgw, hcap, hcapm⟩ := hown1.block (by omega)
  go_wp2_with fail
  go_loopw [6] (fun i wr => ∃ (j : Nat) (ys : List Spn), i = .int .i64 j ∧ j ≤ n ∧ Hid (ys.Perm xs) ∧ OwnR spnC 3 28 w.heap.size wr (.slice (some ⟨g, 0, none⟩) n cap) n ys ∧ Below w.heap.size w wr) (fun i _ => n - (intOf i).toNat)
  case atStart => exact ⟨0, xs, rfl, Nat.zero_le _, List.Perm.refl _, hown1, hB1⟩
  case round =>
    obtain ⟨j, ys, rfl, hj, Hp, hown, hb⟩ := hrel
    by_cases hlt : j < n
    · by_cases hjm : j < m
      · obtain ⟨bo, oo, rfl, hco⟩ : ∃ bo oo, b = some ⟨bo, oo, none⟩ ∧ ∀ i, i < m → wr.cell? ⟨bo, oo + i, none⟩ = some (.int .i64 (os.getD i 0)) := by
          rcases (Ho.out.below hb (Nat.le_refl _)).cell with h | ⟨b', o', h1, h2⟩
          · omega
          · exact ⟨b', o', h1, h2⟩
        have q0 := hco j hjm
        generalize os.getD j 0 = ov at q0
        have hr1 := (low_bits ov).1
        obtain ⟨k, hkn, hk1⟩ := place_at (bits .and .i64 ov 1023) j n hr1 hlt hn
        obtain ⟨x, hxj⟩ : ∃ x, ys[j]? = some x := ⟨_, List.getElem?_eq_getElem (by rw [hown.1]; exact hlt)⟩
        obtain ⟨y, hyk⟩ : ∃ y, ys[k]? = some y := ⟨_, List.getElem?_eq_getElem (by rw [hown.1]; exact hkn)⟩
        obtain ⟨c1, c2, c3⟩ := hown.cells3 hxj
        obtain ⟨d1, d2, d3⟩ := hown.cells3 hyk
        have f1 := hown.2.frozenAt (j * 3)
        have f2 := hown.2.frozenAt (j * 3 + 1)
        have f3 := hown.2.frozenAt (j * 3 + 2)
        have hownA := hown.set3 hlt y
        have hyk2 := set_at (j := j) (by rw [hown.1]; exact hlt) hyk
        obtain ⟨e1, e2, e3⟩ := hownA.cells3 hyk2
        have g1 := hownA.2.frozenAt (k * 3)
        have g2 := hownA.2.frozenAt (k * 3 + 1)
        have g3 := hownA.2.frozenAt (k * 3 + 2)
        have hownB := hownA.set3 hkn x
        have HP : Hid ((swapS ys j k x y).Perm xs) := (swap_perm hxj hyk).trans Hp.out
        have hbA := hb.grown (grown_set3 wr g j (.int .i64 y.lo) (.int .i64 y.hi) (.bool y.walk)) hb.size (fun i hi => by cases hi; exact hBg)
        have hbB := hbA.grown (grown_set3 _ g k (.int .i64 x.lo) (.int .i64 x.hi) (.bool x.walk)) (by simpa using hb.size) (fun i hi => by cases hi; exact hBg)
        have HO := Lib.hid hownB
        have HB := Lib.hid hbB
        obtain ⟨xlo, xhi, xwk⟩ := x
        obtain ⟨ylo, yhi, ywk⟩ := y
        clear hco Hp hxj hyk hyk2 hownA hownB hbA hbB hown hb hr1
        simp only at c1 c2 c3 d1 d2 d3 e1 e2 e3 g1 g2 g3
        go_wp2
        go_region
        all_goals
          go_wp2
          go_roundw
        case rel => exact ⟨j + 1, swapS ys j k ⟨xlo, xhi, xwk⟩ ⟨ylo, yhi, ywk⟩, by go_num, by omega, HP, HO.out.drew, below_drew HB.out⟩
        case measure => simp [intOf]; omega
      · go_wp2
        go_ret
        exact ⟨_, ys, rfl, hown, Hp.out, hb⟩
    · go_wp2
      go_ret
      exact ⟨_, ys, rfl, hown, Hp.out, hb⟩

end Go.Proofs.Ytndjljefppbmcaa
