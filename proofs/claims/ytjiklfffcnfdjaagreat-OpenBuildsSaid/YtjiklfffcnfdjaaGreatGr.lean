/- Walks: what the document says of three columns. -/
import Derived.Test.YtjiklfffcnfdjaaGreatHn
import Derived.Test.YtjiklfffcnfdjaaGreatCuC
namespace Go.Proofs.YtjiklfffcnfdjaaGreat
open Go.RowKit

theorem wk0 : overE ⟨0, 0, 0⟩ ⟨2, 2, 0⟩ ⟨0, 0, 2⟩ 0 0 = (0, 1, true, 0) := by decide
theorem wk1 : overE ⟨0, 0, 0⟩ ⟨2, 2, 0⟩ ⟨0, 0, 2⟩ 1 0 = (1, 2, true, 0) := by decide
theorem wk2 : overE ⟨0, 0, 0⟩ ⟨2, 2, 0⟩ ⟨0, 0, 2⟩ 1 1 = (1, 1, true, 0) := by decide
theorem wk3 : overE ⟨0, 0, 0⟩ ⟨2, 2, 0⟩ ⟨0, 0, 2⟩ 2 2 = (0, 0, false, 0) := by decide
theorem wkover (x z lo hi e : Int) (ok : Bool) (h : overE ⟨0, 0, 0⟩ ⟨2, 2, 0⟩ ⟨0, 0, 2⟩ x z = (lo, hi, ok, e)) (w : World) :
    Calls Tryz.prog 46 #[tiA 1 ⟨0, 0, 0⟩ ⟨2, 2, 0⟩ ⟨0, 0, 2⟩, .int .i64 x, .int .i64 z] w fun e' w' => e' = .returned (.tuple #[.int .i64 lo, .int .i64 hi, .bool ok, .int .i64 e]) ∧ Below w.heap.size w w' := by
  have := overE_any 1 ⟨0, 0, 0⟩ ⟨2, 2, 0⟩ ⟨0, 0, 2⟩ x z w
  rw [h] at this
  exact this
end Go.Proofs.YtjiklfffcnfdjaaGreat

namespace Go.Proofs.YtjiklfffcnfdjaaGreat
open Go.RowKit
attribute [local go_sem] Instr.index

theorem high_bounds {c : Cr} (h : CrHigh c) : (-200000000 ≤ floC c ∧ floC c ≤ 200000000) ∧ (-200000000 ≤ ceiC c ∧ ceiC c ≤ 200000000) := by
  obtain ⟨h1, h2, h3, h4⟩ := h
  have a := ediv_bound (a := c.y) (K := 200000000) h1 (by omega) (by omega)
  have b := ediv_bound (a := -c.y) (K := 200000000) h1 (by omega) (by omega)
  refine ⟨a, ?_⟩
  unfold ceiC ceilI
  omega
set_option maxRecDepth 100000 in
set_option maxHeartbeats 8000000 in
theorem refover_any (i : Int) (a b c : V3) (x z : Int) (w : World) :
    Calls Tryz.prog 40 #[tiA i a b c, .int .i64 x, .int .i64 z] w fun e w' => e = .returned (.tuple #[.int .i64 (overE a b c x z).1, .int .i64 (overE a b c x z).2.1, .bool (overE a b c x z).2.2.1, .int .i64 (overE a b c x z).2.2.2]) ∧ Below w.heap.size w w' := by
  have CO := Lib.hid (fun W => refcorners_any i a b c x z W)
  have HE := Lib.hid (fun l e (h : CornRes a b c x z l e) => And.intro (corn_overE h) (corn_high h (fun t ht => open_ok ht)))
  generalize overE a b c x z = r at HE ⊢
  obtain ⟨ax, ay, az⟩ := a
  obtain ⟨bx, by_, bz⟩ := b
  obtain ⟨cx, cy, cz⟩ := c
  have hB : Below w.heap.size w (w.alloc (triO i ⟨ax, ay, az⟩ ⟨bx, by_, bz⟩ ⟨cx, cy, cz⟩)) := (Below.refl _ _).alloc (Nat.le_refl _) _
  go_enter Tryz.func40, Tryz.ntmps40
  go_wp2_with fail
  refine (CO.out _).mono ?_
  rintro e w1 ⟨ad, cp, l, err, rfl, hres, hsl, hb1⟩
  obtain ⟨he, hh⟩ := HE.out l err hres
  have hB1 := hB.trans (hb1.mono hB.size)
  clear CO HE hres hB hb1
  by_cases h0 : err = 0
  · subst h0
    rw [if_neg (by simp)] at he
    cases l with
    | nil =>
      have e1 : r = (0, 0, false, 0) := he
      subst e1
      clear he hh
      have hz : ([] : List Cr).length = 0 := rfl
      rw [hz]
      clear hsl
      go_wp2
      ((try simp only [Exit.inBlock, Exit.then]); refine bodyPost_ret (results_tmp4 rfl _ _ _) rfl ?_)
      exact ⟨rfl, hB1⟩
    | cons c0 rest =>
      have hlen : (c0 :: rest).length = rest.length + 1 := rfl
      have hc0 := high_bounds (hh c0 (by simp))
      have he2 : r = ((((c0 :: rest).map floC).foldl min 1073741824), (((c0 :: rest).map ceiC).foldl max (-1073741824)), true, 0) := by
        rw [he, overL_cons]
        simp only [List.map_cons, List.foldl_cons]
        rw [show min 1073741824 (floC c0) = floC c0 by omega, show max (-1073741824) (ceiC c0) = ceiC c0 by omega]
      obtain ⟨L, hL⟩ : ∃ L, L = c0 :: rest := ⟨_, rfl⟩
      rw [← hL] at hsl hh he2 hlen ⊢
      have hpos : ¬ L.length = 0 := by omega
      obtain ⟨n, hn⟩ : ∃ n, n = L.length := ⟨_, rfl⟩
      rw [← hn] at hsl hpos ⊢
      have Hr := Lib.hid he2
      have Hn := Lib.hid hn
      have Hh := Lib.hid hh
      have Hsl := Lib.hid hsl
      have hle := hsl.le
      have hmax := hsl.max
      have hposI : ¬ (n : Int) = 0 := by omega
      have hposB : ((n : Int) == 0) = false := by simpa using hposI
      clear he he2 hc0 hh hsl hL hlen hn
      go_wp2_with fail
      go_loopw [12, 13, 14] (fun s12 s13 s14 wr => ∃ k : Nat, s14 = .int .i64 k ∧ k ≤ n ∧ s12 = .int .i64 (((L.take k).map floC).foldl min 1073741824) ∧ s13 = .int .i64 (((L.take k).map ceiC).foldl max (-1073741824)) ∧ Below w1.heap.size w1 wr) (fun _ _ s14 _ => n - (intOf s14).toNat)
      case atStart => exact ⟨0, rfl, Nat.zero_le _, rfl, rfl, Below.refl _ _⟩
      case round =>
        obtain ⟨k, rfl, hk, rfl, rfl, hb⟩ := hrel
        by_cases hlt : k < n
        · obtain ⟨y, hy⟩ : ∃ y, L[k]? = some y := ⟨_, List.getElem?_eq_getElem (by rw [← Hn.out]; exact hlt)⟩
          have hltI : (k : Int) < (n : Int) := by omega
          obtain ⟨bk, off, rfl, _, hc⟩ := (Hsl.out.below hb (Nat.le_refl _)).at0 (by omega)
          have q2 : wr.cell? ⟨bk, off + k * 4 + 2, none⟩ = some (.int .i64 y.y) := hc k y hy 2 _ rfl
          have q3 : wr.cell? ⟨bk, off + k * 4 + 3, none⟩ = some (.int .i64 y.d) := hc k y hy 3 _ rfl
          have hyh := Hh.out y (List.mem_of_getElem? hy)
          have F1 : Hid (∀ W, Calls Tryz.prog 58 #[.int .i64 y.y, .int .i64 y.d] W fun e w' => e = .returned (.tuple #[.int .i64 (floC y), .int .i64 0]) ∧ Below W.heap.size W w') := fun W => (reffloor_any y.y y.d W (by have := hyh.2.2; omega) (by have := hyh.1; have := hyh.2.1; omega)).mono (by rintro e w' ⟨rfl, rfl⟩; exact ⟨rfl, Below.refl _ _⟩)
          have F2 : Hid (∀ W, Calls Tryz.prog 59 #[.int .i64 y.y, .int .i64 y.d] W fun e w' => e = .returned (.tuple #[.int .i64 (ceiC y), .int .i64 0]) ∧ Below W.heap.size W w') := fun W => (refceil_any y.y y.d W (by have := hyh.2.2; omega) (by have := hyh.1; have := hyh.2.1; omega)).mono (by rintro e w' ⟨rfl, rfl⟩; exact ⟨rfl, Below.refl _ _⟩)
          have S1 := Lib.hid (fold_step (f := floC) (g := min) hy 1073741824)
          have S2 := Lib.hid (fold_step (f := ceiC) (g := max) hy (-1073741824))
          generalize ((L.take k).map floC).foldl min 1073741824 = LO at S1 ⊢
          generalize ((L.take k).map ceiC).foldl max (-1073741824) = UP at S2 ⊢
          generalize floC y = fy at S1 F1
          generalize ceiC y = cy' at S2 F2
          obtain ⟨yx, yz, yy, yd⟩ := y
          simp only at q2 q3 F1 F2
          clear hc hy hyh
          go_upto_region 8 with fail
          have e_q2 := fun d os => cell_regrown q2 d os
          have e_q3 := fun d os => cell_regrown q3 d os
          refine wp_region_quiet_below (by kernel_rfl) (by kernel_rfl) ?_
          repeat (go_big_quiet_step (exact Calls.regrown_of (F1.out _)))
          refine wpQuiet_nil ?_
          rintro w2 ⟨⟨dq, osq⟩, hw2⟩
          have hb2 : Below wr.heap.size wr w2 := by rw [hw2]; exact below_regrown wr dq osq
          have q2' := hbc hb2 q2
          have q3' := hbc hb2 q3
          have hb3 := hb.trans (hb2.mono hb.size)
          clear hw2 e_q2 e_q3 q2 q3 hb2 hb F1
          go_upto_region 9 with fail
          have e_q2 := fun d os => cell_regrown q2' d os
          have e_q3 := fun d os => cell_regrown q3' d os
          clear q2' q3'
          refine wp_region_quiet_below (by kernel_rfl) (by kernel_rfl) ?_
          repeat (go_big_quiet_step (exact Calls.regrown_of (F2.out _)))
          refine wpQuiet_nil ?_
          rintro w4 ⟨⟨dq2, osq2⟩, hw4⟩
          have hb4 : Below w1.heap.size w1 w4 := by rw [hw4]; exact hb3.trans ((below_regrown w2 dq2 osq2).mono hb3.size)
          clear hw4 e_q2 e_q3 hb3 F2
          go_wp2
          go_roundw
          case rel => exact ⟨k + 1, by go_num, by omega, by rw [S1.out], by rw [S2.out], hb4⟩
          case measure => simp [intOf]; omega
        · obtain rfl : k = n := by omega
          have ht : L.take k = L := List.take_of_length_le (by rw [← Hn.out]; exact Nat.le_refl _)
          rw [ht]
          have e := Hr.out
          subst e
          have hB3 := hB1.trans (hb.mono hB1.size)
          go_wp2
          ((try simp only [Exit.inBlock, Exit.then]); refine bodyPost_ret (results_tmp4 rfl _ _ _) rfl ?_)
          exact ⟨rfl, hB3⟩
  · rw [if_pos h0] at he
    subst he
    have h0' : (err != 0) = true := by simpa using h0
    clear hh hsl
    go_wp2
    ((try simp only [Exit.inBlock, Exit.then]); refine bodyPost_ret (results_tmp4 rfl _ _ _) rfl ?_)
    exact ⟨rfl, hB1⟩

end Go.Proofs.YtjiklfffcnfdjaaGreat

namespace Go.Proofs.YtjiklfffcnfdjaaGreat
open Go.RowKit

theorem corn_res_same {a b c : V3} {x z : Int} {l m : List Cr} {e f : Int} (h1 : CornRes a b c x z l e) (h2 : CornRes a b c x z m f) : l = m ∧ e = f := by
  rcases h1 with ⟨a1, a2, a3⟩ | ⟨a1, a2, a3, a4⟩ | ⟨a1, a2, a3, a4⟩ <;> rcases h2 with ⟨b1, b2, b3⟩ | ⟨b1, b2, b3, b4⟩ | ⟨b1, b2, b3, b4⟩
  · exact ⟨a2.trans b2.symm, a3.trans b3.symm⟩
  · rw [a1] at b1; cases b1
  · rw [a1] at b1; cases b1
  · rw [b1] at a1; cases a1
  · exact ⟨a3.trans b3.symm, a4.trans b4.symm⟩
  · exact absurd b2 a2
  · rw [b1] at a1; cases a1
  · exact absurd a2 b2
  · obtain ⟨f1, f2⟩ := open_flat (open_pair a1)
    exact ⟨corn_same f1 f2 a3 b3, a4.trans b4.symm⟩

end Go.Proofs.YtjiklfffcnfdjaaGreat
