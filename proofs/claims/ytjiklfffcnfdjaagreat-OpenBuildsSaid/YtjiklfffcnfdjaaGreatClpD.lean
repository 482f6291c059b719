/- Walk: the library's Compact at corners. -/
import Derived.Test.YtjiklfffcnfdjaaGreatHt
import Derived.Test.YtjiklfffcnfdjaaGreatGd
import Derived.Laws.OwnMore
import Derived.Lib.SliceRun
import Derived.Deep.DeepCutAuto
import Derived.Deep.CutRange
namespace Go.Proofs.YtjiklfffcnfdjaaGreat
open Go.RowKit

/-! ### Compaction step by step -/
theorem dedC_snoc : ∀ (l : List Cr) (c x : Cr), dedC c (l ++ [x]) = if x = l.getLastD c then dedC c l else dedC c l ++ [x]
  | [], c, x => by simp [dedC]
  | d :: l, c, x => by
    have ih := dedC_snoc l d x
    rw [List.getLastD_cons, List.cons_append]
    unfold dedC
    rw [ih]
    split <;> split <;> simp_all
theorem comp_take {xs : List Cr} {m : Nat} {x y : Cr} (hx : xs[m + 1]? = some x) (hy : xs[m]? = some y) : compC (xs.take (m + 2)) = if x = y then compC (xs.take (m + 1)) else compC (xs.take (m + 1)) ++ [x] := by
  have e1 : xs.take (m + 2) = xs.take (m + 1) ++ [x] := by rw [List.take_add_one, hx]; rfl
  have e2 : xs.take (m + 1) = xs.take m ++ [y] := by rw [List.take_add_one, hy]; rfl
  rw [e1, e2]
  cases xs.take m with
  | nil =>
    show y :: dedC y [x] = if x = y then y :: dedC y [] else (y :: dedC y []) ++ [x]
    simp only [dedC]
    split <;> rfl
  | cons c r =>
    show c :: dedC c (r ++ [y] ++ [x]) = if x = y then c :: dedC c (r ++ [y]) else (c :: dedC c (r ++ [y])) ++ [x]
    rw [dedC_snoc (r ++ [y])]
    have : (r ++ [y]).getLastD c = y := by simp
    rw [this]
    split <;> rfl
theorem comp_one (xs : List Cr) (h : 1 ≤ xs.length) : compC (xs.take 1) = xs.take 1 := by
  cases xs with
  | nil => simp at h
  | cons x l => simp [compC, dedC]
theorem comp_short {xs : List Cr} (h : xs.length < 2) : compC xs = xs := by
  cases xs with
  | nil => rfl
  | cons x l =>
    cases l with
    | nil => rfl
    | cons y l => simp at h; omega
theorem first_diff (x y : Cr) : x = y ∨ x.x ≠ y.x ∨ (x.x = y.x ∧ x.z ≠ y.z) ∨ (x.x = y.x ∧ x.z = y.z ∧ x.y ≠ y.y) ∨ (x.x = y.x ∧ x.z = y.z ∧ x.y = y.y ∧ x.d ≠ y.d) := by
  obtain ⟨a, b, c, d⟩ := x
  obtain ⟨e, f, g, h⟩ := y
  simp only [Cr.mk.injEq]
  omega

/-! ### A store of a corner into a row of one's own -/
theorem flat_len4 : ∀ l : List Cr, (l.flatMap crC).length = l.length * 4
  | [] => rfl
  | x :: l => by rw [List.flatMap_cons, List.length_append, flat_len4 l, List.length_cons]; show 4 + _ = _; omega
theorem flatMap_set4 : ∀ (l : List Cr) (i : Nat) (x : Cr), i < l.length → (((((l.flatMap crC).set (i * 4) (.int .i64 x.x)).set (i * 4 + 1) (.int .i64 x.z)).set (i * 4 + 2) (.int .i64 x.y)).set (i * 4 + 3) (.int .i64 x.d)) = (l.set i x).flatMap crC
  | [], i, x, h => by simp at h
  | y :: l, 0, x, _ => by simp [crC]
  | y :: l, i + 1, x, h => by
    have ih := flatMap_set4 l i x (by simpa using h)
    simp only [List.flatMap_cons, List.set_cons_succ, ← ih]
    have e : ∀ (k : Nat) (u : Value) (r : List Value), (crC y ++ r).set (k + 4) u = crC y ++ r.set k u := fun k u r => by simp [crC]
    rw [show (i + 1) * 4 = i * 4 + 4 by omega, show i * 4 + 4 + 1 = i * 4 + 1 + 4 by omega, show i * 4 + 4 + 2 = i * 4 + 2 + 4 by omega, show i * 4 + 4 + 3 = i * 4 + 3 + 4 by omega, e, e, e, e]
theorem OwnR.set4 {e : TypeId} {B : Nat} {w : World} {g n cap : Nat} {xs : List Cr} (h : OwnR crC 4 e B w (.slice (some ⟨g, 0, none⟩) n cap) n xs) {i : Nat} (hi : i < n) (x : Cr) :
    OwnR crC 4 e B ((((w.setCell ⟨g, i * 4, none⟩ (.int .i64 x.x)).setCell ⟨g, i * 4 + 1, none⟩ (.int .i64 x.z)).setCell ⟨g, i * 4 + 2, none⟩ (.int .i64 x.y)).setCell ⟨g, i * 4 + 3, none⟩ (.int .i64 x.d)) (.slice (some ⟨g, 0, none⟩) n cap) n (xs.set i x) := by
  refine ⟨by simpa using h.1, ?_⟩
  rw [← flatMap_set4 xs i x (by rw [h.1]; exact hi)]
  exact ((((h.2.stored _ _).1.stored _ _).1.stored _ _).1.stored _ _).1
theorem grown_set4 (w : World) (g i : Nat) (x y z u : Value) : w.grownBy ((((w.setCell ⟨g, i * 4, none⟩ x).setCell ⟨g, i * 4 + 1, none⟩ y).setCell ⟨g, i * 4 + 2, none⟩ z).setCell ⟨g, i * 4 + 3, none⟩ u) (some g) :=
  (((grown_set w g _ x).trans (grown_set _ g _ y)).trans (grown_set _ g _ z)).trans (grown_set _ g _ u)
theorem OwnR.cells4 {e : TypeId} {B : Nat} {w : World} {g n cap : Nat} {xs : List Cr} (h : OwnR crC 4 e B w (.slice (some ⟨g, 0, none⟩) n cap) n xs) {i : Nat} {x : Cr} (hx : xs[i]? = some x) :
    w.cell? ⟨g, i * 4, none⟩ = some (.int .i64 x.x) ∧ w.cell? ⟨g, i * 4 + 1, none⟩ = some (.int .i64 x.z) ∧ w.cell? ⟨g, i * 4 + 2, none⟩ = some (.int .i64 x.y) ∧ w.cell? ⟨g, i * 4 + 3, none⟩ = some (.int .i64 x.d) := by
  have hc := fun (j : Nat) (u : Value) (hu : (crC x)[j]? = some u) => h.2.cells (g := g) rfl (i * 4 + j) u (flatMap_at crC_len xs i x j u hx hu)
  refine ⟨?_, ?_, ?_, ?_⟩
  · have := hc 0 _ rfl; rw [Addr.add_lit] at this; simpa using this
  · have := hc 1 _ rfl; rw [Addr.add_lit] at this; simpa using this
  · have := hc 2 _ rfl; rw [Addr.add_lit] at this; simpa using this
  · have := hc 3 _ rfl; rw [Addr.add_lit] at this; simpa using this
theorem ownCr_block {e : TypeId} {B : Nat} {w : World} {v : Value} {n : Nat} {xs : List Cr} (h : OwnR crC 4 e B w v n xs) (hn : 0 < n) : ∃ g cap, v = .slice (some ⟨g, 0, none⟩) n cap ∧ B ≤ g ∧ g < w.heap.size ∧ n ≤ cap ∧ cap ≤ 9223372036854775807 := by
  rcases h.2.2 with ⟨_, h0⟩ | ⟨g, cap, cur, rfl, hB, hg, h1, h2, _⟩
  · omega
  · exact ⟨g, cap, rfl, hB, (Array.getElem?_eq_some_iff.1 hg).1, h1, by simpa [maxLen] using h2⟩

theorem below_drew' {B : Nat} {w w' : World} (h : Below B w w') : Below B w w'.drew := ⟨h.os, h.tape, h.output, h.size, fun i hi => h.block i hi⟩

theorem size_setCells' (b : Nat) : ∀ (vs : List Value) (o : Nat) (w : World), (w.setCells b o vs).heap.size = w.heap.size
  | [], _, _ => rfl
  | v :: r, o, w => by
    have := size_setCells' b r (o + 1) (w.setCell ⟨b, o, none⟩ v)
    rw [World.setCells, this]
    simp [World.setCell]
theorem below_setCells' {B b : Nat} {a : World} (hb : B ≤ b) (hB : B ≤ a.heap.size) : ∀ (vs : List Value) (o : Nat) (w : World), Below B a w → Below B a (w.setCells b o vs)
  | [], _, _, h => h
  | v :: r, o, w, h => below_setCells' hb hB r (o + 1) _ (h.grown (grown_set w b o v) (Nat.le_trans hB h.size) (fun i hi => by cases hi; exact hb))

/-! ### The library's clear at corners -/
def zC4 (m : Nat) : List Value := List.replicate (m * 4) (.int .i64 0)
theorem zero_cells4 (m : Nat) : (Builtin.zeroCells (Value.agg #[.int .i64 0, .int .i64 0, .int .i64 0, .int .i64 0]).cells m).toList = zC4 m := by
  apply List.ext_getElem
  · simp [Builtin.zeroCells, zC4, Value.cells]
    try rfl
  · intro i h1 h2
    simp only [zC4, List.getElem_replicate]
    simp [Builtin.zeroCells, Value.cells]
    try (have : i % 4 = 0 ∨ i % 4 = 1 ∨ i % 4 = 2 ∨ i % 4 = 3 := by omega
         rcases this with h | h | h | h <;> simp [h])
theorem run_clear_corners (w : World) (t e ty : TypeId) (ht : Tryz.prog.underlying t = some (.slice e)) (hv : ∀ w, (zeroValue e).run Tryz.prog w = .ok (.agg #[.int .i64 0, .int .i64 0, .int .i64 0, .int .i64 0]) w) (b o n c : Nat) (hn : 0 < n)
    (hc : ∀ j, j < n * 4 → (w.cell? ⟨b, o + j, none⟩).isSome = true) (hf : ∀ j, j < n * 4 → w.frozen? ⟨b, o + j, none⟩ = false) :
    (Builtin.clear_ #[t] ty #[.slice (some ⟨b, o, none⟩) n c]).run Tryz.prog w = .ok (.tuple #[]) (w.setCells b o (zC4 n)) := by
  have hz := zero_cells4 n
  have hst := run_storeCells_cells (P := Tryz.prog) b o (zC4 n) 0 w (by simpa [zC4] using hc) (by simpa [zC4] using hf) (by intro v hv'; rw [List.eq_of_mem_replicate hv']; rfl)
  simp only [Nat.add_zero] at hst
  obtain ⟨m, rfl⟩ : ∃ m, n = m + 1 := ⟨n - 1, by omega⟩
  simp [Builtin.clear_, run_underlying ht, hv, hz, hst]

set_option maxRecDepth 100000 in
set_option maxHeartbeats 16000000 in
theorem compactcr_any (v : Value) (n : Nat) (xs : List Cr) (B : Nat) (w : World) (hown : OwnR crC 4 105 B w v n xs) (hn : n ≤ 100000) (hBw : B ≤ w.heap.size) :
    Calls Tryz.prog 100 #[v] w fun e w' => ∃ a c, e = .returned (.slice a (compC xs).length c) ∧ SlR crC 4 w' a (compC xs).length c (compC xs) ∧ Below B w w' := by
  have hl := hown.1
  by_cases h2 : n < 2
  · obtain ⟨a, c, rfl, hrd⟩ := OwnR.reads crC_len hown
    have hce : compC xs = xs := comp_short (by omega)
    have hI : (n : Int) < 2 := by omega
    rw [hce, hl]
    have Hrd := Lib.hid hrd
    clear hrd hown
    go_enter Tryz.func100, Tryz.ntmps100
    go_wp2
    go_ret
    exact ⟨a, c, rfl, Hrd.out, Below.refl _ _⟩
  · obtain ⟨g, cap, rfl, hBg, hgs, hnc, hcm⟩ := ownCr_block hown (by omega)
    have hI : ¬ (n : Int) < 2 := by omega
    have HL := Lib.hid hl
    clear hl
    go_enter Tryz.func100, Tryz.ntmps100
    go_wp2
    go_loopw [3] (fun s3 wr => ∃ j : Nat, s3 = .int .i64 ((j + 1 : Nat) : Int) ∧ j + 1 ≤ n ∧ Hid (compC (xs.take (j + 1)) = xs.take (j + 1)) ∧ OwnR crC 4 105 B wr (.slice (some ⟨g, 0, none⟩) n cap) n xs ∧ Below B w wr) (fun s3 _ => n - (intOf s3).toNat)
    case atStart => exact ⟨0, rfl, by omega, comp_one xs (by rw [HL.out]; omega), hown, Below.refl _ _⟩
    case round =>
      clear hown
      obtain ⟨j, rfl, hj, Hc, hown, hb⟩ := hrel
      obtain ⟨k, hk⟩ : ∃ k, k = j + 1 := ⟨_, rfl⟩
      rw [← hk] at hj Hc ⊢
      by_cases hlt : k < n
      · have hltI : (k : Int) < (n : Int) := by omega
        have hw1 : IntKind.i64.wrap ((k : Int) - 1) = (j : Int) := by rw [IntKind.wrap_i64]; omega
        have hjn : (j : Int) < (n : Int) := by omega
        obtain ⟨x, hx⟩ : ∃ x, xs[j + 1]? = some x := ⟨_, List.getElem?_eq_getElem (by rw [HL.out]; omega)⟩
        obtain ⟨y, hy⟩ : ∃ y, xs[j]? = some y := ⟨_, List.getElem?_eq_getElem (by rw [HL.out]; omega)⟩
        have hcs := comp_take hx hy
        obtain ⟨c1, c2, c3, c4⟩ := hown.cells4 hx
        obtain ⟨d1, d2, d3, d4⟩ := hown.cells4 hy
        rw [← hk] at c1 c2 c3 c4
        rw [← hk, show j + 2 = k + 1 by omega] at hcs
        have Hcs := Lib.hid hcs
        have Hx := Lib.hid hx
        have Hy := Lib.hid hy
        have HK := Lib.hid hk
        have HO := Lib.hid hown
        clear hcs hx hy hk hown
        go_upto_region 6 with fail
        go_cut [25] from 16 to 24 (fun s25 wx => s25 = .bool (decide (x = y)) ∧ Below wr.heap.size wr wx)
        case first =>
          as_aux_lemma =>
            clear Hx Hy HO Hcs Hc hb HL
            have fin : ∀ (b : Bool), decide (x = y) = b → Value.bool b = Value.bool (decide (x = y)) := fun b h => by rw [h]
            obtain ⟨x0, x1, x2, x3⟩ := x
            obtain ⟨y0, y1, y2, y3⟩ := y
            simp only at c1 c2 c3 c4 d1 d2 d3 d4
            rcases first_diff ⟨x0, x1, x2, x3⟩ ⟨y0, y1, y2, y3⟩ with h | h | ⟨h0, h⟩ | ⟨h0, h1, h⟩ | ⟨h0, h1, h2, h⟩
            · obtain ⟨rfl, rfl, rfl, rfl⟩ := (by simpa using h : x0 = y0 ∧ x1 = y1 ∧ x2 = y2 ∧ x3 = y3)
              have Fin := Lib.hid (fin true (by simp))
              clear fin h
              go_wp2_with fail
              go_region
              all_goals
                go_wp2
                go_meet
                exact ⟨Fin.out, below_drew' (Below.refl _ _)⟩
            · have Fin := Lib.hid (fin false (by simp; intro e; exact absurd e h))
              clear fin
              go_wp2_with fail
              go_region
              all_goals
                go_wp2
                go_meet
                exact ⟨Fin.out, below_drew' (Below.refl _ _)⟩
            · simp only at h0
              subst h0
              have Fin := Lib.hid (fin false (by simp; intro e; exact absurd e h))
              clear fin
              go_wp2_with fail
              go_region
              all_goals
                go_wp2
                go_meet
                exact ⟨Fin.out, below_drew' (Below.refl _ _)⟩
            · simp only at h0 h1
              subst h0 h1
              have Fin := Lib.hid (fin false (by simp; intro e; exact absurd e h))
              clear fin
              go_wp2_with fail
              go_region
              all_goals
                go_wp2
                go_meet
                exact ⟨Fin.out, below_drew' (Below.refl _ _)⟩
            · simp only at h0 h1 h2
              subst h0 h1 h2
              have Fin := Lib.hid (fin false (by simp; intro e; exact absurd e h))
              clear fin
              go_wp2_with fail
              go_region
              all_goals
                go_wp2
                go_meet
                exact ⟨Fin.out, below_drew' (Below.refl _ _)⟩
        case rest =>
        obtain ⟨rfl, hbw⟩ := hcut
        have hb2 : Below B w wc := hb.trans (hbw.mono (Nat.le_trans hBw hb.size))
        have HO2 := Lib.hid (HO.out.below hbw (Nat.le_refl _))
        clear c1 c2 c3 c4 d1 d2 d3 d4 hb hbw HO
        by_cases hxy : x = y
        · have hd : decide (x = y) = true := decide_eq_true hxy
          rw [hd]
          clear hd
          have Hc2 : Hid (compC (xs.take (k + 1)) = compC (xs.take k)) := by show _ = _; rw [Hcs.out, if_pos hxy]
          have HI : Hid (∃ R : List Cr, OwnR crC 4 105 B wc (.slice (some ⟨g, 0, none⟩) n cap) n R ∧ R.take k = compC (xs.take (k + 1)) ∧ (compC (xs.take (k + 1))).length = k ∧ ∀ i, k + 1 ≤ i + 1 → R[i]? = xs[i]?) :=
            ⟨xs, HO2.out, by rw [Hc2.out, Hc.out], by rw [Hc2.out, Hc.out, List.length_take]; have := HL.out; omega, fun i _ => rfl⟩
          clear Hcs Hc2 Hc HO2
          go_wp2
          go_loopw [3, 5] (fun s3 s5 wr => ∃ (kk m : Nat) (R : List Cr), s3 = .int .i64 kk ∧ s5 = .int .i64 ((m + 1 : Nat) : Int) ∧ k + (m + 1) ≤ n ∧ OwnR crC 4 105 B wr (.slice (some ⟨g, 0, none⟩) n cap) n R ∧ Hid (R.take kk = compC (xs.take (k + (m + 1)))) ∧ Hid ((compC (xs.take (k + (m + 1)))).length = kk) ∧ kk ≤ k + m ∧ Hid (∀ i, k + m ≤ i → R[i]? = xs[i]?) ∧ Below B w wr) (fun _ s5 _ => n - (intOf s5).toNat)
          case atStart =>
            obtain ⟨R, h1, h2', h3, h4⟩ := HI.out
            exact ⟨k, 0, R, rfl, rfl, by omega, h1, h2', h3, by omega, fun i hi => h4 i (by omega), hb2⟩
          case round =>
            clear HI hb2
            obtain ⟨kk, m, R, rfl, rfl, hm, hown, HT, HN, hkk, HH, hb⟩ := hrel
            obtain ⟨q, hq⟩ : ∃ q, q = m + 1 := ⟨_, rfl⟩
            rw [← hq] at hm HT HN ⊢
            by_cases hlt2 : k + q < n
            · have b1 : (q : Int) < ((n - k : Nat) : Int) := by omega
              have b2 : (m : Int) < ((n - k : Nat) : Int) := by omega
              have hw1 : IntKind.i64.wrap ((q : Int) - 1) = (m : Int) := by rw [IntKind.wrap_i64]; omega
              obtain ⟨x, hx⟩ : ∃ x, xs[k + m + 1]? = some x := ⟨_, List.getElem?_eq_getElem (by rw [HL.out]; omega)⟩
              obtain ⟨y, hy⟩ : ∃ y, xs[k + m]? = some y := ⟨_, List.getElem?_eq_getElem (by rw [HL.out]; omega)⟩
              have hcs := comp_take hx hy
              have hRx : R[k + m + 1]? = some x := (HH.out _ (by omega)).trans hx
              have hRy : R[k + m]? = some y := (HH.out _ (by omega)).trans hy
              obtain ⟨c1, c2, c3, c4⟩ := hown.cells4 hRx
              obtain ⟨d1, d2, d3, d4⟩ := hown.cells4 hRy
              rw [show (k + m + 1) * 4 = k * 4 + q * 4 by omega] at c1 c2 c3 c4
              rw [show (k + m) * 4 = k * 4 + m * 4 by omega] at d1 d2 d3 d4
              rw [show k + m + 2 = k + (q + 1) by omega, show k + m + 1 = k + q by omega] at hcs
              have Hcs := Lib.hid hcs
              have HO := Lib.hid hown
              have HQ := Lib.hid hq
              have Hx2 := Lib.hid hRx
              clear hcs hx hy hown hRx hRy hq
              go_upto_region 11 with fail
              go_cut [44] from 35 to 43 (fun s44 wx => s44 = .bool (!decide (x = y)) ∧ Below wr.heap.size wr wx)
              case first =>
                as_aux_lemma =>
                  clear HO Hcs HT HN HH hb HL HQ Hx2
                  have fin : ∀ (b : Bool), decide (x = y) = b → Value.bool (!b) = Value.bool (!decide (x = y)) := fun b h => by rw [h]
                  obtain ⟨x0, x1, x2, x3⟩ := x
                  obtain ⟨y0, y1, y2, y3⟩ := y
                  simp only at c1 c2 c3 c4 d1 d2 d3 d4
                  rcases first_diff ⟨x0, x1, x2, x3⟩ ⟨y0, y1, y2, y3⟩ with h | h | ⟨h0, h⟩ | ⟨h0, h1, h⟩ | ⟨h0, h1, h2, h⟩
                  · obtain ⟨rfl, rfl, rfl, rfl⟩ := (by simpa using h : x0 = y0 ∧ x1 = y1 ∧ x2 = y2 ∧ x3 = y3)
                    have Fin := Lib.hid (fin true (by simp))
                    clear fin h
                    go_wp2_with fail
                    go_region
                    all_goals
                      go_wp2
                      go_meet
                      exact ⟨Fin.out, below_drew' (Below.refl _ _)⟩
                  · have Fin := Lib.hid (fin false (by simp; intro e; exact absurd e h))
                    clear fin
                    go_wp2_with fail
                    go_region
                    all_goals
                      go_wp2
                      go_meet
                      exact ⟨Fin.out, below_drew' (Below.refl _ _)⟩
                  · simp only at h0
                    subst h0
                    have Fin := Lib.hid (fin false (by simp; intro e; exact absurd e h))
                    clear fin
                    go_wp2_with fail
                    go_region
                    all_goals
                      go_wp2
                      go_meet
                      exact ⟨Fin.out, below_drew' (Below.refl _ _)⟩
                  · simp only at h0 h1
                    subst h0 h1
                    have Fin := Lib.hid (fin false (by simp; intro e; exact absurd e h))
                    clear fin
                    go_wp2_with fail
                    go_region
                    all_goals
                      go_wp2
                      go_meet
                      exact ⟨Fin.out, below_drew' (Below.refl _ _)⟩
                  · simp only at h0 h1 h2
                    subst h0 h1 h2
                    have Fin := Lib.hid (fin false (by simp; intro e; exact absurd e h))
                    clear fin
                    go_wp2_with fail
                    go_region
                    all_goals
                      go_wp2
                      go_meet
                      exact ⟨Fin.out, below_drew' (Below.refl _ _)⟩
              case rest =>
              obtain ⟨rfl, hbw⟩ := hcut
              have hb2 : Below B w wc := hb.trans (hbw.mono (Nat.le_trans hBw hb.size))
              have hO2 := HO.out.below hbw (Nat.le_refl _)
              clear c1 c2 c3 c4 d1 d2 d3 d4 hb hbw HO
              by_cases hxy : x = y
              · have hd : decide (x = y) = true := decide_eq_true hxy
                rw [hd]
                clear hd
                have Hc2 : Hid (compC (xs.take (k + (q + 1))) = compC (xs.take (k + q))) := by show _ = _; rw [Hcs.out, if_pos hxy]
                clear Hcs
                go_wp2
                go_roundw
                case rel => exact ⟨kk, q, R, rfl, by go_num, by omega, hO2, by rw [Hc2.out]; exact HT, by rw [Hc2.out]; exact HN, by have := HQ.out; omega, fun i hi => HH.out i (by have := HQ.out; omega), hb2⟩
                case measure => simp [intOf]; omega
              · have hd : decide (x = y) = false := decide_eq_false hxy
                rw [hd]
                clear hd
                have Hc2 : Hid (compC (xs.take (k + (q + 1))) = compC (xs.take (k + q)) ++ [x]) := by show _ = _; rw [Hcs.out, if_neg hxy]
                clear Hcs
                have hkn : kk < n := by omega
                have hkI : (kk : Int) < (n : Int) := by omega
                obtain ⟨z, hz⟩ : ∃ z, R[kk]? = some z := ⟨_, List.getElem?_eq_getElem (by rw [hO2.1]; exact hkn)⟩
                have hRx : R[k + m + 1]? = some x := Hx2.out
                obtain ⟨c1, c2, c3, c4⟩ := hO2.cells4 hRx
                rw [show (k + m + 1) * 4 = k * 4 + q * 4 by have := HQ.out; have e : q = m + 1 := this; omega] at c1 c2 c3 c4
                obtain ⟨z1, z2, z3, z4⟩ := hO2.cells4 hz
                have f1 := hO2.2.frozenAt (kk * 4)
                have f2 := hO2.2.frozenAt (kk * 4 + 1)
                have f3 := hO2.2.frozenAt (kk * 4 + 2)
                have f4 := hO2.2.frozenAt (kk * 4 + 3)
                have HA := Lib.hid (hO2.set4 hkn x)
                have HB := Lib.hid (hb2.grown (grown_set4 wc g kk (.int .i64 x.x) (.int .i64 x.z) (.int .i64 x.y) (.int .i64 x.d)) (Nat.le_trans hBw hb2.size) (fun i hi => by cases hi; exact hBg))
                have HT2 : Hid ((R.set kk x).take (kk + 1) = compC (xs.take (k + (q + 1)))) := by
                  show _ = _
                  rw [Hc2.out, ← HT.out, List.take_add_one, List.take_set_of_le (Nat.le_refl _), List.getElem?_set_self (by rw [hO2.1]; exact hkn)]
                  rfl
                have HN2 : Hid ((compC (xs.take (k + (q + 1)))).length = kk + 1) := by
                  show _ = _
                  rw [Hc2.out, List.length_append, HN.out]
                  rfl
                have HH2 : Hid (∀ i, k + q ≤ i → (R.set kk x)[i]? = xs[i]?) := by
                  intro i hi
                  have e : q = m + 1 := HQ.out
                  rw [List.getElem?_set_ne (by omega)]
                  exact HH.out i (by omega)
                obtain ⟨x0, x1, x2, x3⟩ := x
                simp only at c1 c2 c3 c4
                clear hO2 hb2 Hc2 hz hRx Hx2 HT HN HH
                go_wp2
                go_roundw
                case rel => exact ⟨kk + 1, q, R.set kk ⟨x0, x1, x2, x3⟩, by go_num, by go_num, by omega, HA.out, HT2, HN2, by have e : q = m + 1 := HQ.out; omega, HH2, HB.out⟩
                case measure => simp [intOf]; omega
            · have hkq : k + q = n := by omega
              have hkn : kk < n := by omega
              have hkI : (kk : Int) < (n : Int) := by omega
              have hkI2 : (kk : Int) ≤ (cap : Int) := by omega
              have hcl : ∀ ty, (Builtin.clear_ #[99] ty #[.slice (some ⟨g, kk * 4, none⟩) (n - kk) (cap - kk)]).run Tryz.prog wr = .ok (.tuple #[]) (wr.setCells g (kk * 4) (zC4 (n - kk))) :=
                fun ty => run_clear_corners wr _ _ ty Tryz.underlying99 Tryz.zeroValue105 g (kk * 4) _ _ (by omega) (fun j hj => by
                  have hlt : kk * 4 + j < (R.flatMap crC).length := by rw [flat_len4, hown.1]; omega
                  have := hown.2.cells (g := g) rfl (kk * 4 + j) _ (List.getElem?_eq_getElem hlt)
                  rw [Addr.add_lit, Nat.zero_add] at this
                  rw [this]; rfl) (fun j hj => hown.2.frozenAt (kk * 4 + j))
              have hce : compC xs = R.take kk := by
                have := HT.out
                rw [hkq, List.take_of_length_le (l := xs) (by rw [HL.out]; exact Nat.le_refl _)] at this
                exact this.symm
              have hll : (compC xs).length = kk := by
                have := HN.out
                rwa [hkq, List.take_of_length_le (by rw [HL.out]; exact Nat.le_refl _)] at this
              have HR : Hid (SlR crC 4 (wr.setCells g (kk * 4) (zC4 (n - kk))) (some ⟨g, 0, none⟩) kk cap (compC xs)) := by
                refine ⟨hll, by omega, hcm, .inr ⟨g, 0, rfl, ?_, fun i x hx j u hu => ?_⟩⟩
                · rw [size_setCells']
                  exact Nat.lt_of_lt_of_le hgs hb.size
                · have hi : i < kk := by have := (List.getElem?_eq_some_iff.1 hx).1; omega
                  have hj : j < 4 := by have := (List.getElem?_eq_some_iff.1 hu).1; simpa [crC] using this
                  rw [World.cell?_setCells_out _ _ _ _ _ (fun _ _ => .inl (by simp only; omega))]
                  have hRi : R[i]? = some x := by
                    rw [hce, List.getElem?_take_of_lt hi] at hx
                    exact hx
                  have := hown.2.cells (g := g) rfl (i * 4 + j) u (flatMap_at crC_len R i x j u hRi hu)
                  rw [Addr.add_lit] at this
                  rw [← this]
                  congr 2
                  omega
              have HB : Hid (Below B w (wr.setCells g (kk * 4) (zC4 (n - kk)))) := below_setCells' hBg hBw _ _ _ hb
              have Hll := Lib.hid hll
              clear hown HT HN HH hce hll hb
              go_wp2
              go_ret
              exact ⟨some ⟨g, 0, none⟩, cap, by rw [Hll.out]; rfl, by rw [Hll.out]; exact HR.out, HB.out⟩
        · have hd : decide (x = y) = false := decide_eq_false hxy
          rw [hd]
          clear hd
          have Hc2 : Hid (compC (xs.take (k + 1)) = xs.take (k + 1)) := by
            show _ = _
            rw [Hcs.out, if_neg hxy, Hc.out, List.take_add_one, show k = j + 1 from HK.out, Hx.out]
            rfl
          clear Hcs Hc Hx Hy
          go_wp2
          go_roundw
          case rel => exact ⟨k, by go_num, by omega, Hc2, HO2.out, hb2⟩
          case measure => simp [intOf]; omega
      · obtain rfl : k = n := by omega
        have Hce : Hid (compC xs = xs) := by
          show _ = _
          have := Hc.out
          rwa [List.take_of_length_le (by rw [HL.out]; exact Nat.le_refl _)] at this
        obtain ⟨a', c', ha, hrd⟩ := OwnR.reads crC_len hown
        cases ha
        have HR := Lib.hid hrd
        clear hrd hown Hc hk
        go_wp2
        go_ret
        have hce := Hce.out
        have hll := HL.out
        refine ⟨some ⟨g, 0, none⟩, cap, ?_, ?_, hb⟩
        · rw [hce, hll]
          rfl
        · rw [hce, hll]
          exact HR.out
end Go.Proofs.YtjiklfffcnfdjaaGreat
