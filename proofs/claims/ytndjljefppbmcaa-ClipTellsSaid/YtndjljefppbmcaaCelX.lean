/- Walk: when a segment is within a stretch, by one axis. -/
import Derived.Test.YtndjljefppbmcaaCelW
import Derived.Deep.RegionHeld3
namespace Go.Proofs.Ytndjljefppbmcaa
open Go.RowKit

theorem heap_set_far {w : World} {b b' i : Nat} {u : Obj} {v : Value} (hb : w.heap[b]? = some u) (hne : b ≠ b') : (w.setCell ⟨b', i, none⟩ v).heap[b]? = some u := (heap_setCell_other w _ b v hne).trans hb
theorem rt0_small : RtSmall 1073741824 rt0 := by unfold RtSmall rt0; simp
theorem rt1_small : RtSmall 1073741824 rt1 := by unfold RtSmall rt1; simp
theorem RtSmall.big {r : Rt} (h : RtSmall 1000 r) : RtSmall 1073741824 r := ⟨by have := h.1; omega, by have := h.2.1; omega, h.2.2.1, by have := h.2.2.2; omega⟩
theorem ret_axis {x y : Rt} {b : Bool} {X : Rt × Rt × Bool} (h : X = (x, y, b)) : Ending.returned (.tuple #[.agg #[.int .i64 x.n, .int .i64 x.d], .agg #[.int .i64 y.n, .int .i64 y.d], .bool b]) = Ending.returned (.tuple #[rtA X.1, rtA X.2.1, .bool X.2.2]) := by rw [h]

set_option maxRecDepth 100000 in
set_option maxHeartbeats 4000000 in
theorem axis_any (a b lo : Int) (w : World) (ha : 0 ≤ a ∧ a ≤ 64) (hb : 0 ≤ b ∧ b ≤ 64) (hlo : -100 ≤ lo ∧ lo ≤ 100) :
    Calls Try.prog 104 #[.int .i64 a, .int .i64 b, .int .i64 lo] w fun e w' => e = .returned (.tuple #[rtA (axisS a b lo).1, rtA (axisS a b lo).2.1, .bool (axisS a b lo).2.2]) ∧ Below w.heap.size w w' := by
  have hB : Below w.heap.size w ((w.alloc (.cells #[.int .i64 0, .int .i64 1] 41)).alloc (.cells #[.int .i64 1, .int .i64 1] 41)) := ((Below.refl _ _).alloc (Nat.le_refl _) _).alloc (by simp) _
  have h6 : ((w.alloc (.cells #[.int .i64 0, .int .i64 1] 41)).alloc (.cells #[.int .i64 1, .int .i64 1] 41)).heap[w.heap.size]? = some (.cells #[.int .i64 0, .int .i64 1] 41 (0, 0)) := halloc (World.alloc_heap_new _ _) _
  have h7 : ((w.alloc (.cells #[.int .i64 0, .int .i64 1] 41)).alloc (.cells #[.int .i64 1, .int .i64 1] 41)).heap[w.heap.size + 1]? = some (.cells #[.int .i64 1, .int .i64 1] 41 (0, 0)) := by
    have := World.alloc_heap_new (w.alloc (.cells #[.int .i64 0, .int .i64 1] 41)) (.cells #[.int .i64 1, .int .i64 1] 41)
    simpa using this
  rcases Int.lt_trichotomy a b with hab | hab | hab
  · have hne : ¬ a = b := by omega
    have hlt : ¬ b < a := by omega
    obtain ⟨I, hI⟩ : ∃ I, Hid (I = ratioS (lo - a) (b - a)) := ⟨_, rfl⟩
    obtain ⟨O, hO⟩ : ∃ O, Hid (O = ratioS (lo + 2 - a) (b - a)) := ⟨_, rfl⟩
    have HI : Hid (ins a b lo = (I, O)) := by show _ = _; rw [hI.out, hO.out]; exact if_neg hlt
    have sI : RtSmall 1000 I := by rw [hI.out]; exact ratioS_small (by omega) (by omega) (by omega) (by omega) (by omega)
    have sO : RtSmall 1000 O := by rw [hO.out]; exact ratioS_small (by omega) (by omega) (by omega) (by omega) (by omega)
    have RA := Lib.hid (fun W => ratio_any (lo - a) (b - a) W (by omega) (by omega) (by omega))
    have RB := Lib.hid (fun W => ratio_any (lo + 2 - a) (b - a) W (by omega) (by omega) (by omega))
    rw [← hI.out] at RA
    rw [← hO.out] at RB
    have CI := Lib.hid (fun W => compare_any I rt0 W sI.big rt0_small)
    have CO := Lib.hid (fun W => compare_any O rt1 W sO.big rt1_small)
    have HX : Hid (axisS a b lo = (if 0 < cmpR I rt0 then I else rt0, if cmpR O rt1 < 0 then O else rt1, decide (cmpR (if 0 < cmpR I rt0 then I else rt0) (if cmpR O rt1 < 0 then O else rt1) ≤ 0))) := by show _ = _; simp only [axisS, hne, if_false, HI.out]
    clear hI hO HI
    go_enter Try.func104, Try.ntmps104
    go_wp2_with fail
    generalize ((w.alloc (.cells #[.int .i64 0, .int .i64 1] 41)).alloc (.cells #[.int .i64 1, .int .i64 1] 41)) = W at hB h6 h7 ⊢
    refine (RA.out _).mono ?_
    rintro e w1 ⟨rfl, hb1⟩
    have hB1 := hB.trans (hb1.mono hB.size)
    clear hB
    have hB := hB1
    clear hB1
    have h6' := hkeep hb1 h6
    have h7' := hkeep hb1 h7
    clear h6
    have h6 := h6'
    clear h6'
    clear h7
    have h7 := h7'
    clear h7'
    clear hb1
    go_wp2_with fail
    refine (RB.out _).mono ?_
    rintro e w2 ⟨rfl, hb2⟩
    have hB1 := hB.trans (hb2.mono hB.size)
    clear hB
    have hB := hB1
    clear hB1
    have h6' := hkeep hb2 h6
    have h7' := hkeep hb2 h7
    clear h6
    have h6 := h6'
    clear h6'
    clear h7
    have h7 := h7'
    clear h7'
    clear hb2
    have hs2 := hblt h7
    have h9 : ((w2.alloc (.cells #[.int .i64 I.n, .int .i64 I.d] 41)).alloc (.cells #[.int .i64 O.n, .int .i64 O.d] 41)).heap[w2.heap.size]? = some (.cells #[.int .i64 I.n, .int .i64 I.d] 41 (0, 0)) := halloc (World.alloc_heap_new _ _) _
    have h10 : ((w2.alloc (.cells #[.int .i64 I.n, .int .i64 I.d] 41)).alloc (.cells #[.int .i64 O.n, .int .i64 O.d] 41)).heap[w2.heap.size + 1]? = some (.cells #[.int .i64 O.n, .int .i64 O.d] 41 (0, 0)) := by
      have := World.alloc_heap_new (w2.alloc (.cells #[.int .i64 I.n, .int .i64 I.d] 41)) (.cells #[.int .i64 O.n, .int .i64 O.d] 41)
      simpa using this
    have h6' := halloc (halloc h6 (.cells #[.int .i64 I.n, .int .i64 I.d] 41)) (.cells #[.int .i64 O.n, .int .i64 O.d] 41)
    have h7' := halloc (halloc h7 (.cells #[.int .i64 I.n, .int .i64 I.d] 41)) (.cells #[.int .i64 O.n, .int .i64 O.d] 41)
    clear h6 h7
    have h6 := h6'
    have h7 := h7'
    clear h6' h7'
    have hB1 : Below w.heap.size w ((w2.alloc (.cells #[.int .i64 I.n, .int .i64 I.d] 41)).alloc (.cells #[.int .i64 O.n, .int .i64 O.d] 41)) := (hB.alloc hB.size _).alloc (by simp; have := hB.size; omega) _
    clear hB
    have hB := hB1
    clear hB1
    have hsz : ((w2.alloc (.cells #[.int .i64 I.n, .int .i64 I.d] 41)).alloc (.cells #[.int .i64 O.n, .int .i64 O.d] 41)).heap.size = w2.heap.size + 2 := by simp
    have d6a := hcell (k := 0) (v := .int .i64 0) h6 rfl
    have d6b := hcell (k := 1) (v := .int .i64 1) h6 rfl
    have d7a := hcell (k := 0) (v := .int .i64 1) h7 rfl
    have d7b := hcell (k := 1) (v := .int .i64 1) h7 rfl
    have d9a := hcell (k := 0) (v := .int .i64 I.n) h9 rfl
    have d9b := hcell (k := 1) (v := .int .i64 I.d) h9 rfl
    have d10a := hcell (k := 0) (v := .int .i64 O.n) h10 rfl
    have d10b := hcell (k := 1) (v := .int .i64 O.d) h10 rfl
    go_wp2_with fail
    clear d6a d6b d7a d7b d9a d9b d10a d10b
    generalize ((w2.alloc (.cells #[.int .i64 I.n, .int .i64 I.d] 41)).alloc (.cells #[.int .i64 O.n, .int .i64 O.d] 41)) = W2 at hB h6 h7 h9 h10 hsz ⊢
    refine (CI.out _).mono ?_
    rintro e w3 ⟨rfl, hb3⟩
    have hB1 := hB.trans (hb3.mono hB.size)
    clear hB
    have hB := hB1
    clear hB1
    have h6' := hkeep hb3 h6
    have h7' := hkeep hb3 h7
    have h9' := hkeep hb3 h9
    have h10' := hkeep hb3 h10
    clear h6
    have h6 := h6'
    clear h6'
    clear h7
    have h7 := h7'
    clear h7'
    clear h9
    have h9 := h9'
    clear h9'
    clear h10
    have h10 := h10'
    clear h10'
    clear hb3
    by_cases h1 : 0 < cmpR I rt0
    · rw [if_pos h1] at HX
      have d6a := hcell (k := 0) (v := .int .i64 0) h6 rfl
      have d6b := hcell (k := 1) (v := .int .i64 1) h6 rfl
      have f6a := hfroz (k := 0) h6
      have f6b := hfroz (k := 1) h6
      have d9a := hcell (k := 0) (v := .int .i64 I.n) h9 rfl
      have d9b := hcell (k := 1) (v := .int .i64 I.d) h9 rfl
      have f9a := hfroz (k := 0) h9
      have f9b := hfroz (k := 1) h9
      have d10a := hcell (k := 0) (v := .int .i64 O.n) h10 rfl
      have d10b := hcell (k := 1) (v := .int .i64 O.d) h10 rfl
      have f10a := hfroz (k := 0) h10
      have f10b := hfroz (k := 1) h10
      have d7a := hcell (k := 0) (v := .int .i64 1) h7 rfl
      have d7b := hcell (k := 1) (v := .int .i64 1) h7 rfl
      have f7a := hfroz (k := 0) h7
      have f7b := hfroz (k := 1) h7
      go_wp2_with fail
      clear d6a d6b d7a d7b f6a f6b f7a f7b d9a d9b f9a f9b d10a d10b f10a f10b
      have h6' := box2_set h6 (.int .i64 I.n) (.int .i64 I.d)
      have h7' := heap_set_far (heap_set_far h7 (show _ ≠ w.heap.size by omega) (i := 0) (v := .int .i64 I.n)) (show _ ≠ w.heap.size by omega) (i := 1) (v := .int .i64 I.d)
      have h9' := heap_set_far (heap_set_far h9 (show _ ≠ w.heap.size by omega) (i := 0) (v := .int .i64 I.n)) (show _ ≠ w.heap.size by omega) (i := 1) (v := .int .i64 I.d)
      have h10' := heap_set_far (heap_set_far h10 (show _ ≠ w.heap.size by omega) (i := 0) (v := .int .i64 I.n)) (show _ ≠ w.heap.size by omega) (i := 1) (v := .int .i64 I.d)
      have hB' := hB.grown (box2_grown (b := w.heap.size) (.int .i64 I.n) (.int .i64 I.d)) hB.size (fun j hj => by cases hj; omega)
      clear hB
      have hB := hB'
      clear hB'
      clear h6
      have h6 := h6'
      clear h6'
      clear h7
      have h7 := h7'
      clear h7'
      clear h9
      have h9 := h9'
      clear h9'
      clear h10
      have h10 := h10'
      clear h10'
      refine (CO.out _).mono ?_
      rintro e w4 ⟨rfl, hb4⟩
      have hB1 := hB.trans (hb4.mono hB.size)
      clear hB
      have hB := hB1
      clear hB1
      have h6' := hkeep hb4 h6
      have h7' := hkeep hb4 h7
      have h9' := hkeep hb4 h9
      have h10' := hkeep hb4 h10
      clear h6
      have h6 := h6'
      clear h6'
      clear h7
      have h7 := h7'
      clear h7'
      clear h9
      have h9 := h9'
      clear h9'
      clear h10
      have h10 := h10'
      clear h10'
      clear hb4
      by_cases h2 : cmpR O rt1 < 0
      · rw [if_pos h2] at HX
        have CF := Lib.hid (fun W => compare_any I O W sI.big sO.big)
        have d6a := hcell (k := 0) (v := .int .i64 I.n) h6 rfl
        have d6b := hcell (k := 1) (v := .int .i64 I.d) h6 rfl
        have f6a := hfroz (k := 0) h6
        have f6b := hfroz (k := 1) h6
        have d7a := hcell (k := 0) (v := .int .i64 1) h7 rfl
        have d7b := hcell (k := 1) (v := .int .i64 1) h7 rfl
        have f7a := hfroz (k := 0) h7
        have f7b := hfroz (k := 1) h7
        have d10a := hcell (k := 0) (v := .int .i64 O.n) h10 rfl
        have d10b := hcell (k := 1) (v := .int .i64 O.d) h10 rfl
        have f10a := hfroz (k := 0) h10
        have f10b := hfroz (k := 1) h10
        go_wp2_with fail
        clear d6a d6b d7a d7b f6a f6b f7a f7b d10a d10b f10a f10b
        have h6' := heap_set_far (heap_set_far h6 (show _ ≠ (w.heap.size + 1) by omega) (i := 0) (v := .int .i64 O.n)) (show _ ≠ (w.heap.size + 1) by omega) (i := 1) (v := .int .i64 O.d)
        have h7' := box2_set h7 (.int .i64 O.n) (.int .i64 O.d)
        have h9' := heap_set_far (heap_set_far h9 (show _ ≠ (w.heap.size + 1) by omega) (i := 0) (v := .int .i64 O.n)) (show _ ≠ (w.heap.size + 1) by omega) (i := 1) (v := .int .i64 O.d)
        have h10' := heap_set_far (heap_set_far h10 (show _ ≠ (w.heap.size + 1) by omega) (i := 0) (v := .int .i64 O.n)) (show _ ≠ (w.heap.size + 1) by omega) (i := 1) (v := .int .i64 O.d)
        have hB' := hB.grown (box2_grown (b := (w.heap.size + 1)) (.int .i64 O.n) (.int .i64 O.d)) hB.size (fun j hj => by cases hj; omega)
        clear hB
        have hB := hB'
        clear hB'
        clear h6
        have h6 := h6'
        clear h6'
        clear h7
        have h7 := h7'
        clear h7'
        clear h9
        have h9 := h9'
        clear h9'
        clear h10
        have h10 := h10'
        clear h10'
        clear h9 h10
        obtain ⟨W5, hW5⟩ : ∃ W5, W5 = (w4.setCell ⟨w.heap.size + 1, 0, none⟩ (.int .i64 O.n)).setCell ⟨w.heap.size + 1, 1, none⟩ (.int .i64 O.d) := ⟨_, rfl⟩
        rw [← hW5] at hB h6 h7 ⊢
        clear hW5
        have d6a := hcell (k := 0) (v := .int .i64 I.n) h6 rfl
        have d6b := hcell (k := 1) (v := .int .i64 I.d) h6 rfl
        have d7a := hcell (k := 0) (v := .int .i64 O.n) h7 rfl
        have d7b := hcell (k := 1) (v := .int .i64 O.d) h7 rfl
        have hs5 := hblt h7
        have hdr : Below W5.heap.size W5 W5.drew := ⟨rfl, rfl, rfl, Nat.le_refl _, fun _ _ => rfl⟩
        have S0 : W5.drew.cell? ⟨w.heap.size, 0, none⟩ = some (.int .i64 I.n) ∧ W5.drew.cell? ⟨w.heap.size, 1, none⟩ = some (.int .i64 I.d) ∧ W5.drew.cell? ⟨w.heap.size + 1, 0, none⟩ = some (.int .i64 O.n) ∧ W5.drew.cell? ⟨w.heap.size + 1, 1, none⟩ = some (.int .i64 O.d) := ⟨d6a, d6b, d7a, d7b⟩
        go_wp2_with fail
        go_region_held3 (fun WW => WW.cell? ⟨w.heap.size, 0, none⟩ = some (.int .i64 I.n) ∧ WW.cell? ⟨w.heap.size, 1, none⟩ = some (.int .i64 I.d) ∧ WW.cell? ⟨w.heap.size + 1, 0, none⟩ = some (.int .i64 O.n) ∧ WW.cell? ⟨w.heap.size + 1, 1, none⟩ = some (.int .i64 O.d))
          (first
            | with_reducible exact S0
            | with_reducible exact S1
            | with_reducible exact SA
            | with_reducible exact SE
            | fail)
          (first
            | (go_at_call 57; refine (CF.out _).mono ?_; rintro e wz ⟨rfl, hbz⟩; have z6 := hkeep (hdr.trans hbz) h6; have z7 := hkeep (hdr.trans hbz) h7; have hBz := hB.trans ((hdr.trans hbz).mono hB.size); have y6a := hcell (k := 0) (v := .int .i64 I.n) z6 rfl; have y6b := hcell (k := 1) (v := .int .i64 I.d) z6 rfl; have y7a := hcell (k := 0) (v := .int .i64 O.n) z7 rfl; have y7b := hcell (k := 1) (v := .int .i64 O.d) z7 rfl; have g6a := hfroz (k := 0) z6; have g6b := hfroz (k := 1) z6; have g7a := hfroz (k := 0) z7; have g7b := hfroz (k := 1) z7; have A6 := box2_set z6 (.int .i64 I.n) (.int .i64 I.d); have A7 := heap_set_far (heap_set_far z7 (show w.heap.size + 1 ≠ w.heap.size by omega) (i := 0) (v := .int .i64 I.n)) (show w.heap.size + 1 ≠ w.heap.size by omega) (i := 1) (v := .int .i64 I.d); have E7 := box2_set A7 (.int .i64 O.n) (.int .i64 O.d); have E6 := heap_set_far (heap_set_far A6 (show w.heap.size ≠ w.heap.size + 1 by omega) (i := 0) (v := .int .i64 O.n)) (show w.heap.size ≠ w.heap.size + 1 by omega) (i := 1) (v := .int .i64 O.d); have S1 : wz.cell? ⟨w.heap.size, 0, none⟩ = some (.int .i64 I.n) ∧ wz.cell? ⟨w.heap.size, 1, none⟩ = some (.int .i64 I.d) ∧ wz.cell? ⟨w.heap.size + 1, 0, none⟩ = some (.int .i64 O.n) ∧ wz.cell? ⟨w.heap.size + 1, 1, none⟩ = some (.int .i64 O.d) := ⟨y6a, y6b, y7a, y7b⟩; have SA : ((wz.setCell ⟨w.heap.size, 0, none⟩ (.int .i64 I.n)).setCell ⟨w.heap.size, 1, none⟩ (.int .i64 I.d)).cell? ⟨w.heap.size, 0, none⟩ = some (.int .i64 I.n) ∧ ((wz.setCell ⟨w.heap.size, 0, none⟩ (.int .i64 I.n)).setCell ⟨w.heap.size, 1, none⟩ (.int .i64 I.d)).cell? ⟨w.heap.size, 1, none⟩ = some (.int .i64 I.d) ∧ ((wz.setCell ⟨w.heap.size, 0, none⟩ (.int .i64 I.n)).setCell ⟨w.heap.size, 1, none⟩ (.int .i64 I.d)).cell? ⟨w.heap.size + 1, 0, none⟩ = some (.int .i64 O.n) ∧ ((wz.setCell ⟨w.heap.size, 0, none⟩ (.int .i64 I.n)).setCell ⟨w.heap.size, 1, none⟩ (.int .i64 I.d)).cell? ⟨w.heap.size + 1, 1, none⟩ = some (.int .i64 O.d) := ⟨hcell A6 rfl, hcell A6 rfl, hcell A7 rfl, hcell A7 rfl⟩; have SE : ((((wz.setCell ⟨w.heap.size, 0, none⟩ (.int .i64 I.n)).setCell ⟨w.heap.size, 1, none⟩ (.int .i64 I.d)).setCell ⟨w.heap.size + 1, 0, none⟩ (.int .i64 O.n)).setCell ⟨w.heap.size + 1, 1, none⟩ (.int .i64 O.d)).cell? ⟨w.heap.size, 0, none⟩ = some (.int .i64 I.n) ∧ ((((wz.setCell ⟨w.heap.size, 0, none⟩ (.int .i64 I.n)).setCell ⟨w.heap.size, 1, none⟩ (.int .i64 I.d)).setCell ⟨w.heap.size + 1, 0, none⟩ (.int .i64 O.n)).setCell ⟨w.heap.size + 1, 1, none⟩ (.int .i64 O.d)).cell? ⟨w.heap.size, 1, none⟩ = some (.int .i64 I.d) ∧ ((((wz.setCell ⟨w.heap.size, 0, none⟩ (.int .i64 I.n)).setCell ⟨w.heap.size, 1, none⟩ (.int .i64 I.d)).setCell ⟨w.heap.size + 1, 0, none⟩ (.int .i64 O.n)).setCell ⟨w.heap.size + 1, 1, none⟩ (.int .i64 O.d)).cell? ⟨w.heap.size + 1, 0, none⟩ = some (.int .i64 O.n) ∧ ((((wz.setCell ⟨w.heap.size, 0, none⟩ (.int .i64 I.n)).setCell ⟨w.heap.size, 1, none⟩ (.int .i64 I.d)).setCell ⟨w.heap.size + 1, 0, none⟩ (.int .i64 O.n)).setCell ⟨w.heap.size + 1, 1, none⟩ (.int .i64 O.d)).cell? ⟨w.heap.size + 1, 1, none⟩ = some (.int .i64 O.d) := ⟨hcell E6 rfl, hcell E6 rfl, hcell E7 rfl, hcell E7 rfl⟩)
            | fail)
        rename_i hH
        clear hH
        have hBA := hBz.grown (box2_grown (b := w.heap.size) (.int .i64 I.n) (.int .i64 I.d)) hBz.size (fun j hj => by cases hj; omega)
        have hBE := hBA.grown (box2_grown (b := w.heap.size + 1) (.int .i64 O.n) (.int .i64 O.d)) hBA.size (fun j hj => by cases hj; omega)
        go_wp2
        refine bodyPost_ret (results_cct1 rfl _ _ w.heap.size 41 #[.int .i64 I.n, .int .i64 I.d] (0, 0) _ (w.heap.size + 1) 41 #[.int .i64 O.n, .int .i64 O.d] (0, 0) _ rfl (E6) Try.underlying41 rfl (by kernel_rfl) rfl (E7) Try.underlying41 rfl (by kernel_rfl)) rfl ⟨?_, hBE⟩
        exact ret_axis (x := I) (y := O) HX.out
      · rw [if_neg h2] at HX
        have CF := Lib.hid (fun W => compare_any I rt1 W sI.big rt1_small)
        have d6a := hcell (k := 0) (v := .int .i64 I.n) h6 rfl
        have d6b := hcell (k := 1) (v := .int .i64 I.d) h6 rfl
        have f6a := hfroz (k := 0) h6
        have f6b := hfroz (k := 1) h6
        have d7a := hcell (k := 0) (v := .int .i64 1) h7 rfl
        have d7b := hcell (k := 1) (v := .int .i64 1) h7 rfl
        have f7a := hfroz (k := 0) h7
        have f7b := hfroz (k := 1) h7
        have d10a := hcell (k := 0) (v := .int .i64 O.n) h10 rfl
        have d10b := hcell (k := 1) (v := .int .i64 O.d) h10 rfl
        have f10a := hfroz (k := 0) h10
        have f10b := hfroz (k := 1) h10
        go_wp2_with fail
        clear d6a d6b d7a d7b f6a f6b f7a f7b d10a d10b f10a f10b
        clear h9 h10
        obtain ⟨W5, hW5⟩ : ∃ W5, W5 = w4 := ⟨_, rfl⟩
        rw [← hW5] at hB h6 h7 ⊢
        clear hW5
        have d6a := hcell (k := 0) (v := .int .i64 I.n) h6 rfl
        have d6b := hcell (k := 1) (v := .int .i64 I.d) h6 rfl
        have d7a := hcell (k := 0) (v := .int .i64 1) h7 rfl
        have d7b := hcell (k := 1) (v := .int .i64 1) h7 rfl
        have hs5 := hblt h7
        have hdr : Below W5.heap.size W5 W5.drew := ⟨rfl, rfl, rfl, Nat.le_refl _, fun _ _ => rfl⟩
        have S0 : W5.drew.cell? ⟨w.heap.size, 0, none⟩ = some (.int .i64 I.n) ∧ W5.drew.cell? ⟨w.heap.size, 1, none⟩ = some (.int .i64 I.d) ∧ W5.drew.cell? ⟨w.heap.size + 1, 0, none⟩ = some (.int .i64 1) ∧ W5.drew.cell? ⟨w.heap.size + 1, 1, none⟩ = some (.int .i64 1) := ⟨d6a, d6b, d7a, d7b⟩
        go_wp2_with fail
        go_region_held3 (fun WW => WW.cell? ⟨w.heap.size, 0, none⟩ = some (.int .i64 I.n) ∧ WW.cell? ⟨w.heap.size, 1, none⟩ = some (.int .i64 I.d) ∧ WW.cell? ⟨w.heap.size + 1, 0, none⟩ = some (.int .i64 1) ∧ WW.cell? ⟨w.heap.size + 1, 1, none⟩ = some (.int .i64 1))
          (first
            | with_reducible exact S0
            | with_reducible exact S1
            | with_reducible exact SA
            | with_reducible exact SE
            | fail)
          (first
            | (go_at_call 57; refine (CF.out _).mono ?_; rintro e wz ⟨rfl, hbz⟩; have z6 := hkeep (hdr.trans hbz) h6; have z7 := hkeep (hdr.trans hbz) h7; have hBz := hB.trans ((hdr.trans hbz).mono hB.size); have y6a := hcell (k := 0) (v := .int .i64 I.n) z6 rfl; have y6b := hcell (k := 1) (v := .int .i64 I.d) z6 rfl; have y7a := hcell (k := 0) (v := .int .i64 1) z7 rfl; have y7b := hcell (k := 1) (v := .int .i64 1) z7 rfl; have g6a := hfroz (k := 0) z6; have g6b := hfroz (k := 1) z6; have g7a := hfroz (k := 0) z7; have g7b := hfroz (k := 1) z7; have A6 := box2_set z6 (.int .i64 I.n) (.int .i64 I.d); have A7 := heap_set_far (heap_set_far z7 (show w.heap.size + 1 ≠ w.heap.size by omega) (i := 0) (v := .int .i64 I.n)) (show w.heap.size + 1 ≠ w.heap.size by omega) (i := 1) (v := .int .i64 I.d); have E7 := box2_set A7 (.int .i64 1) (.int .i64 1); have E6 := heap_set_far (heap_set_far A6 (show w.heap.size ≠ w.heap.size + 1 by omega) (i := 0) (v := .int .i64 1)) (show w.heap.size ≠ w.heap.size + 1 by omega) (i := 1) (v := .int .i64 1); have S1 : wz.cell? ⟨w.heap.size, 0, none⟩ = some (.int .i64 I.n) ∧ wz.cell? ⟨w.heap.size, 1, none⟩ = some (.int .i64 I.d) ∧ wz.cell? ⟨w.heap.size + 1, 0, none⟩ = some (.int .i64 1) ∧ wz.cell? ⟨w.heap.size + 1, 1, none⟩ = some (.int .i64 1) := ⟨y6a, y6b, y7a, y7b⟩; have SA : ((wz.setCell ⟨w.heap.size, 0, none⟩ (.int .i64 I.n)).setCell ⟨w.heap.size, 1, none⟩ (.int .i64 I.d)).cell? ⟨w.heap.size, 0, none⟩ = some (.int .i64 I.n) ∧ ((wz.setCell ⟨w.heap.size, 0, none⟩ (.int .i64 I.n)).setCell ⟨w.heap.size, 1, none⟩ (.int .i64 I.d)).cell? ⟨w.heap.size, 1, none⟩ = some (.int .i64 I.d) ∧ ((wz.setCell ⟨w.heap.size, 0, none⟩ (.int .i64 I.n)).setCell ⟨w.heap.size, 1, none⟩ (.int .i64 I.d)).cell? ⟨w.heap.size + 1, 0, none⟩ = some (.int .i64 1) ∧ ((wz.setCell ⟨w.heap.size, 0, none⟩ (.int .i64 I.n)).setCell ⟨w.heap.size, 1, none⟩ (.int .i64 I.d)).cell? ⟨w.heap.size + 1, 1, none⟩ = some (.int .i64 1) := ⟨hcell A6 rfl, hcell A6 rfl, hcell A7 rfl, hcell A7 rfl⟩; have SE : ((((wz.setCell ⟨w.heap.size, 0, none⟩ (.int .i64 I.n)).setCell ⟨w.heap.size, 1, none⟩ (.int .i64 I.d)).setCell ⟨w.heap.size + 1, 0, none⟩ (.int .i64 1)).setCell ⟨w.heap.size + 1, 1, none⟩ (.int .i64 1)).cell? ⟨w.heap.size, 0, none⟩ = some (.int .i64 I.n) ∧ ((((wz.setCell ⟨w.heap.size, 0, none⟩ (.int .i64 I.n)).setCell ⟨w.heap.size, 1, none⟩ (.int .i64 I.d)).setCell ⟨w.heap.size + 1, 0, none⟩ (.int .i64 1)).setCell ⟨w.heap.size + 1, 1, none⟩ (.int .i64 1)).cell? ⟨w.heap.size, 1, none⟩ = some (.int .i64 I.d) ∧ ((((wz.setCell ⟨w.heap.size, 0, none⟩ (.int .i64 I.n)).setCell ⟨w.heap.size, 1, none⟩ (.int .i64 I.d)).setCell ⟨w.heap.size + 1, 0, none⟩ (.int .i64 1)).setCell ⟨w.heap.size + 1, 1, none⟩ (.int .i64 1)).cell? ⟨w.heap.size + 1, 0, none⟩ = some (.int .i64 1) ∧ ((((wz.setCell ⟨w.heap.size, 0, none⟩ (.int .i64 I.n)).setCell ⟨w.heap.size, 1, none⟩ (.int .i64 I.d)).setCell ⟨w.heap.size + 1, 0, none⟩ (.int .i64 1)).setCell ⟨w.heap.size + 1, 1, none⟩ (.int .i64 1)).cell? ⟨w.heap.size + 1, 1, none⟩ = some (.int .i64 1) := ⟨hcell E6 rfl, hcell E6 rfl, hcell E7 rfl, hcell E7 rfl⟩)
            | fail)
        rename_i hH
        clear hH
        have hBA := hBz.grown (box2_grown (b := w.heap.size) (.int .i64 I.n) (.int .i64 I.d)) hBz.size (fun j hj => by cases hj; omega)
        have hBE := hBA.grown (box2_grown (b := w.heap.size + 1) (.int .i64 1) (.int .i64 1)) hBA.size (fun j hj => by cases hj; omega)
        go_wp2
        refine bodyPost_ret (results_cct1 rfl _ _ w.heap.size 41 #[.int .i64 I.n, .int .i64 I.d] (0, 0) _ (w.heap.size + 1) 41 #[.int .i64 1, .int .i64 1] (0, 0) _ rfl (E6) Try.underlying41 rfl (by kernel_rfl) rfl (E7) Try.underlying41 rfl (by kernel_rfl)) rfl ⟨?_, hBE⟩
        exact ret_axis (x := I) (y := rt1) HX.out
    · rw [if_neg h1] at HX
      have d6a := hcell (k := 0) (v := .int .i64 0) h6 rfl
      have d6b := hcell (k := 1) (v := .int .i64 1) h6 rfl
      have f6a := hfroz (k := 0) h6
      have f6b := hfroz (k := 1) h6
      have d9a := hcell (k := 0) (v := .int .i64 I.n) h9 rfl
      have d9b := hcell (k := 1) (v := .int .i64 I.d) h9 rfl
      have f9a := hfroz (k := 0) h9
      have f9b := hfroz (k := 1) h9
      have d10a := hcell (k := 0) (v := .int .i64 O.n) h10 rfl
      have d10b := hcell (k := 1) (v := .int .i64 O.d) h10 rfl
      have f10a := hfroz (k := 0) h10
      have f10b := hfroz (k := 1) h10
      have d7a := hcell (k := 0) (v := .int .i64 1) h7 rfl
      have d7b := hcell (k := 1) (v := .int .i64 1) h7 rfl
      have f7a := hfroz (k := 0) h7
      have f7b := hfroz (k := 1) h7
      go_wp2_with fail
      clear d6a d6b d7a d7b f6a f6b f7a f7b d9a d9b f9a f9b d10a d10b f10a f10b
      refine (CO.out _).mono ?_
      rintro e w4 ⟨rfl, hb4⟩
      have hB1 := hB.trans (hb4.mono hB.size)
      clear hB
      have hB := hB1
      clear hB1
      have h6' := hkeep hb4 h6
      have h7' := hkeep hb4 h7
      have h9' := hkeep hb4 h9
      have h10' := hkeep hb4 h10
      clear h6
      have h6 := h6'
      clear h6'
      clear h7
      have h7 := h7'
      clear h7'
      clear h9
      have h9 := h9'
      clear h9'
      clear h10
      have h10 := h10'
      clear h10'
      clear hb4
      by_cases h2 : cmpR O rt1 < 0
      · rw [if_pos h2] at HX
        have CF := Lib.hid (fun W => compare_any rt0 O W rt0_small sO.big)
        have d6a := hcell (k := 0) (v := .int .i64 0) h6 rfl
        have d6b := hcell (k := 1) (v := .int .i64 1) h6 rfl
        have f6a := hfroz (k := 0) h6
        have f6b := hfroz (k := 1) h6
        have d7a := hcell (k := 0) (v := .int .i64 1) h7 rfl
        have d7b := hcell (k := 1) (v := .int .i64 1) h7 rfl
        have f7a := hfroz (k := 0) h7
        have f7b := hfroz (k := 1) h7
        have d10a := hcell (k := 0) (v := .int .i64 O.n) h10 rfl
        have d10b := hcell (k := 1) (v := .int .i64 O.d) h10 rfl
        have f10a := hfroz (k := 0) h10
        have f10b := hfroz (k := 1) h10
        go_wp2_with fail
        clear d6a d6b d7a d7b f6a f6b f7a f7b d10a d10b f10a f10b
        have h6' := heap_set_far (heap_set_far h6 (show _ ≠ (w.heap.size + 1) by omega) (i := 0) (v := .int .i64 O.n)) (show _ ≠ (w.heap.size + 1) by omega) (i := 1) (v := .int .i64 O.d)
        have h7' := box2_set h7 (.int .i64 O.n) (.int .i64 O.d)
        have h9' := heap_set_far (heap_set_far h9 (show _ ≠ (w.heap.size + 1) by omega) (i := 0) (v := .int .i64 O.n)) (show _ ≠ (w.heap.size + 1) by omega) (i := 1) (v := .int .i64 O.d)
        have h10' := heap_set_far (heap_set_far h10 (show _ ≠ (w.heap.size + 1) by omega) (i := 0) (v := .int .i64 O.n)) (show _ ≠ (w.heap.size + 1) by omega) (i := 1) (v := .int .i64 O.d)
        have hB' := hB.grown (box2_grown (b := (w.heap.size + 1)) (.int .i64 O.n) (.int .i64 O.d)) hB.size (fun j hj => by cases hj; omega)
        clear hB
        have hB := hB'
        clear hB'
        clear h6
        have h6 := h6'
        clear h6'
        clear h7
        have h7 := h7'
        clear h7'
        clear h9
        have h9 := h9'
        clear h9'
        clear h10
        have h10 := h10'
        clear h10'
        clear h9 h10
        obtain ⟨W5, hW5⟩ : ∃ W5, W5 = (w4.setCell ⟨w.heap.size + 1, 0, none⟩ (.int .i64 O.n)).setCell ⟨w.heap.size + 1, 1, none⟩ (.int .i64 O.d) := ⟨_, rfl⟩
        rw [← hW5] at hB h6 h7 ⊢
        clear hW5
        have d6a := hcell (k := 0) (v := .int .i64 0) h6 rfl
        have d6b := hcell (k := 1) (v := .int .i64 1) h6 rfl
        have d7a := hcell (k := 0) (v := .int .i64 O.n) h7 rfl
        have d7b := hcell (k := 1) (v := .int .i64 O.d) h7 rfl
        have hs5 := hblt h7
        have hdr : Below W5.heap.size W5 W5.drew := ⟨rfl, rfl, rfl, Nat.le_refl _, fun _ _ => rfl⟩
        have S0 : W5.drew.cell? ⟨w.heap.size, 0, none⟩ = some (.int .i64 0) ∧ W5.drew.cell? ⟨w.heap.size, 1, none⟩ = some (.int .i64 1) ∧ W5.drew.cell? ⟨w.heap.size + 1, 0, none⟩ = some (.int .i64 O.n) ∧ W5.drew.cell? ⟨w.heap.size + 1, 1, none⟩ = some (.int .i64 O.d) := ⟨d6a, d6b, d7a, d7b⟩
        go_wp2_with fail
        go_region_held3 (fun WW => WW.cell? ⟨w.heap.size, 0, none⟩ = some (.int .i64 0) ∧ WW.cell? ⟨w.heap.size, 1, none⟩ = some (.int .i64 1) ∧ WW.cell? ⟨w.heap.size + 1, 0, none⟩ = some (.int .i64 O.n) ∧ WW.cell? ⟨w.heap.size + 1, 1, none⟩ = some (.int .i64 O.d))
          (first
            | with_reducible exact S0
            | with_reducible exact S1
            | with_reducible exact SA
            | with_reducible exact SE
            | fail)
          (first
            | (go_at_call 57; refine (CF.out _).mono ?_; rintro e wz ⟨rfl, hbz⟩; have z6 := hkeep (hdr.trans hbz) h6; have z7 := hkeep (hdr.trans hbz) h7; have hBz := hB.trans ((hdr.trans hbz).mono hB.size); have y6a := hcell (k := 0) (v := .int .i64 0) z6 rfl; have y6b := hcell (k := 1) (v := .int .i64 1) z6 rfl; have y7a := hcell (k := 0) (v := .int .i64 O.n) z7 rfl; have y7b := hcell (k := 1) (v := .int .i64 O.d) z7 rfl; have g6a := hfroz (k := 0) z6; have g6b := hfroz (k := 1) z6; have g7a := hfroz (k := 0) z7; have g7b := hfroz (k := 1) z7; have A6 := box2_set z6 (.int .i64 0) (.int .i64 1); have A7 := heap_set_far (heap_set_far z7 (show w.heap.size + 1 ≠ w.heap.size by omega) (i := 0) (v := .int .i64 0)) (show w.heap.size + 1 ≠ w.heap.size by omega) (i := 1) (v := .int .i64 1); have E7 := box2_set A7 (.int .i64 O.n) (.int .i64 O.d); have E6 := heap_set_far (heap_set_far A6 (show w.heap.size ≠ w.heap.size + 1 by omega) (i := 0) (v := .int .i64 O.n)) (show w.heap.size ≠ w.heap.size + 1 by omega) (i := 1) (v := .int .i64 O.d); have S1 : wz.cell? ⟨w.heap.size, 0, none⟩ = some (.int .i64 0) ∧ wz.cell? ⟨w.heap.size, 1, none⟩ = some (.int .i64 1) ∧ wz.cell? ⟨w.heap.size + 1, 0, none⟩ = some (.int .i64 O.n) ∧ wz.cell? ⟨w.heap.size + 1, 1, none⟩ = some (.int .i64 O.d) := ⟨y6a, y6b, y7a, y7b⟩; have SA : ((wz.setCell ⟨w.heap.size, 0, none⟩ (.int .i64 0)).setCell ⟨w.heap.size, 1, none⟩ (.int .i64 1)).cell? ⟨w.heap.size, 0, none⟩ = some (.int .i64 0) ∧ ((wz.setCell ⟨w.heap.size, 0, none⟩ (.int .i64 0)).setCell ⟨w.heap.size, 1, none⟩ (.int .i64 1)).cell? ⟨w.heap.size, 1, none⟩ = some (.int .i64 1) ∧ ((wz.setCell ⟨w.heap.size, 0, none⟩ (.int .i64 0)).setCell ⟨w.heap.size, 1, none⟩ (.int .i64 1)).cell? ⟨w.heap.size + 1, 0, none⟩ = some (.int .i64 O.n) ∧ ((wz.setCell ⟨w.heap.size, 0, none⟩ (.int .i64 0)).setCell ⟨w.heap.size, 1, none⟩ (.int .i64 1)).cell? ⟨w.heap.size + 1, 1, none⟩ = some (.int .i64 O.d) := ⟨hcell A6 rfl, hcell A6 rfl, hcell A7 rfl, hcell A7 rfl⟩; have SE : ((((wz.setCell ⟨w.heap.size, 0, none⟩ (.int .i64 0)).setCell ⟨w.heap.size, 1, none⟩ (.int .i64 1)).setCell ⟨w.heap.size + 1, 0, none⟩ (.int .i64 O.n)).setCell ⟨w.heap.size + 1, 1, none⟩ (.int .i64 O.d)).cell? ⟨w.heap.size, 0, none⟩ = some (.int .i64 0) ∧ ((((wz.setCell ⟨w.heap.size, 0, none⟩ (.int .i64 0)).setCell ⟨w.heap.size, 1, none⟩ (.int .i64 1)).setCell ⟨w.heap.size + 1, 0, none⟩ (.int .i64 O.n)).setCell ⟨w.heap.size + 1, 1, none⟩ (.int .i64 O.d)).cell? ⟨w.heap.size, 1, none⟩ = some (.int .i64 1) ∧ ((((wz.setCell ⟨w.heap.size, 0, none⟩ (.int .i64 0)).setCell ⟨w.heap.size, 1, none⟩ (.int .i64 1)).setCell ⟨w.heap.size + 1, 0, none⟩ (.int .i64 O.n)).setCell ⟨w.heap.size + 1, 1, none⟩ (.int .i64 O.d)).cell? ⟨w.heap.size + 1, 0, none⟩ = some (.int .i64 O.n) ∧ ((((wz.setCell ⟨w.heap.size, 0, none⟩ (.int .i64 0)).setCell ⟨w.heap.size, 1, none⟩ (.int .i64 1)).setCell ⟨w.heap.size + 1, 0, none⟩ (.int .i64 O.n)).setCell ⟨w.heap.size + 1, 1, none⟩ (.int .i64 O.d)).cell? ⟨w.heap.size + 1, 1, none⟩ = some (.int .i64 O.d) := ⟨hcell E6 rfl, hcell E6 rfl, hcell E7 rfl, hcell E7 rfl⟩)
            | fail)
        rename_i hH
        clear hH
        have hBA := hBz.grown (box2_grown (b := w.heap.size) (.int .i64 0) (.int .i64 1)) hBz.size (fun j hj => by cases hj; omega)
        have hBE := hBA.grown (box2_grown (b := w.heap.size + 1) (.int .i64 O.n) (.int .i64 O.d)) hBA.size (fun j hj => by cases hj; omega)
        go_wp2
        refine bodyPost_ret (results_cct1 rfl _ _ w.heap.size 41 #[.int .i64 0, .int .i64 1] (0, 0) _ (w.heap.size + 1) 41 #[.int .i64 O.n, .int .i64 O.d] (0, 0) _ rfl (E6) Try.underlying41 rfl (by kernel_rfl) rfl (E7) Try.underlying41 rfl (by kernel_rfl)) rfl ⟨?_, hBE⟩
        exact ret_axis (x := rt0) (y := O) HX.out
      · rw [if_neg h2] at HX
        have CF := Lib.hid (fun W => compare_any rt0 rt1 W rt0_small rt1_small)
        have d6a := hcell (k := 0) (v := .int .i64 0) h6 rfl
        have d6b := hcell (k := 1) (v := .int .i64 1) h6 rfl
        have f6a := hfroz (k := 0) h6
        have f6b := hfroz (k := 1) h6
        have d7a := hcell (k := 0) (v := .int .i64 1) h7 rfl
        have d7b := hcell (k := 1) (v := .int .i64 1) h7 rfl
        have f7a := hfroz (k := 0) h7
        have f7b := hfroz (k := 1) h7
        have d10a := hcell (k := 0) (v := .int .i64 O.n) h10 rfl
        have d10b := hcell (k := 1) (v := .int .i64 O.d) h10 rfl
        have f10a := hfroz (k := 0) h10
        have f10b := hfroz (k := 1) h10
        go_wp2_with fail
        clear d6a d6b d7a d7b f6a f6b f7a f7b d10a d10b f10a f10b
        clear h9 h10
        obtain ⟨W5, hW5⟩ : ∃ W5, W5 = w4 := ⟨_, rfl⟩
        rw [← hW5] at hB h6 h7 ⊢
        clear hW5
        have d6a := hcell (k := 0) (v := .int .i64 0) h6 rfl
        have d6b := hcell (k := 1) (v := .int .i64 1) h6 rfl
        have d7a := hcell (k := 0) (v := .int .i64 1) h7 rfl
        have d7b := hcell (k := 1) (v := .int .i64 1) h7 rfl
        have hs5 := hblt h7
        have hdr : Below W5.heap.size W5 W5.drew := ⟨rfl, rfl, rfl, Nat.le_refl _, fun _ _ => rfl⟩
        have S0 : W5.drew.cell? ⟨w.heap.size, 0, none⟩ = some (.int .i64 0) ∧ W5.drew.cell? ⟨w.heap.size, 1, none⟩ = some (.int .i64 1) ∧ W5.drew.cell? ⟨w.heap.size + 1, 0, none⟩ = some (.int .i64 1) ∧ W5.drew.cell? ⟨w.heap.size + 1, 1, none⟩ = some (.int .i64 1) := ⟨d6a, d6b, d7a, d7b⟩
        go_wp2_with fail
        go_region_held3 (fun WW => WW.cell? ⟨w.heap.size, 0, none⟩ = some (.int .i64 0) ∧ WW.cell? ⟨w.heap.size, 1, none⟩ = some (.int .i64 1) ∧ WW.cell? ⟨w.heap.size + 1, 0, none⟩ = some (.int .i64 1) ∧ WW.cell? ⟨w.heap.size + 1, 1, none⟩ = some (.int .i64 1))
          (first
            | with_reducible exact S0
            | with_reducible exact S1
            | with_reducible exact SA
            | with_reducible exact SE
            | fail)
          (first
            | (go_at_call 57; refine (CF.out _).mono ?_; rintro e wz ⟨rfl, hbz⟩; have z6 := hkeep (hdr.trans hbz) h6; have z7 := hkeep (hdr.trans hbz) h7; have hBz := hB.trans ((hdr.trans hbz).mono hB.size); have y6a := hcell (k := 0) (v := .int .i64 0) z6 rfl; have y6b := hcell (k := 1) (v := .int .i64 1) z6 rfl; have y7a := hcell (k := 0) (v := .int .i64 1) z7 rfl; have y7b := hcell (k := 1) (v := .int .i64 1) z7 rfl; have g6a := hfroz (k := 0) z6; have g6b := hfroz (k := 1) z6; have g7a := hfroz (k := 0) z7; have g7b := hfroz (k := 1) z7; have A6 := box2_set z6 (.int .i64 0) (.int .i64 1); have A7 := heap_set_far (heap_set_far z7 (show w.heap.size + 1 ≠ w.heap.size by omega) (i := 0) (v := .int .i64 0)) (show w.heap.size + 1 ≠ w.heap.size by omega) (i := 1) (v := .int .i64 1); have E7 := box2_set A7 (.int .i64 1) (.int .i64 1); have E6 := heap_set_far (heap_set_far A6 (show w.heap.size ≠ w.heap.size + 1 by omega) (i := 0) (v := .int .i64 1)) (show w.heap.size ≠ w.heap.size + 1 by omega) (i := 1) (v := .int .i64 1); have S1 : wz.cell? ⟨w.heap.size, 0, none⟩ = some (.int .i64 0) ∧ wz.cell? ⟨w.heap.size, 1, none⟩ = some (.int .i64 1) ∧ wz.cell? ⟨w.heap.size + 1, 0, none⟩ = some (.int .i64 1) ∧ wz.cell? ⟨w.heap.size + 1, 1, none⟩ = some (.int .i64 1) := ⟨y6a, y6b, y7a, y7b⟩; have SA : ((wz.setCell ⟨w.heap.size, 0, none⟩ (.int .i64 0)).setCell ⟨w.heap.size, 1, none⟩ (.int .i64 1)).cell? ⟨w.heap.size, 0, none⟩ = some (.int .i64 0) ∧ ((wz.setCell ⟨w.heap.size, 0, none⟩ (.int .i64 0)).setCell ⟨w.heap.size, 1, none⟩ (.int .i64 1)).cell? ⟨w.heap.size, 1, none⟩ = some (.int .i64 1) ∧ ((wz.setCell ⟨w.heap.size, 0, none⟩ (.int .i64 0)).setCell ⟨w.heap.size, 1, none⟩ (.int .i64 1)).cell? ⟨w.heap.size + 1, 0, none⟩ = some (.int .i64 1) ∧ ((wz.setCell ⟨w.heap.size, 0, none⟩ (.int .i64 0)).setCell ⟨w.heap.size, 1, none⟩ (.int .i64 1)).cell? ⟨w.heap.size + 1, 1, none⟩ = some (.int .i64 1) := ⟨hcell A6 rfl, hcell A6 rfl, hcell A7 rfl, hcell A7 rfl⟩; have SE : ((((wz.setCell ⟨w.heap.size, 0, none⟩ (.int .i64 0)).setCell ⟨w.heap.size, 1, none⟩ (.int .i64 1)).setCell ⟨w.heap.size + 1, 0, none⟩ (.int .i64 1)).setCell ⟨w.heap.size + 1, 1, none⟩ (.int .i64 1)).cell? ⟨w.heap.size, 0, none⟩ = some (.int .i64 0) ∧ ((((wz.setCell ⟨w.heap.size, 0, none⟩ (.int .i64 0)).setCell ⟨w.heap.size, 1, none⟩ (.int .i64 1)).setCell ⟨w.heap.size + 1, 0, none⟩ (.int .i64 1)).setCell ⟨w.heap.size + 1, 1, none⟩ (.int .i64 1)).cell? ⟨w.heap.size, 1, none⟩ = some (.int .i64 1) ∧ ((((wz.setCell ⟨w.heap.size, 0, none⟩ (.int .i64 0)).setCell ⟨w.heap.size, 1, none⟩ (.int .i64 1)).setCell ⟨w.heap.size + 1, 0, none⟩ (.int .i64 1)).setCell ⟨w.heap.size + 1, 1, none⟩ (.int .i64 1)).cell? ⟨w.heap.size + 1, 0, none⟩ = some (.int .i64 1) ∧ ((((wz.setCell ⟨w.heap.size, 0, none⟩ (.int .i64 0)).setCell ⟨w.heap.size, 1, none⟩ (.int .i64 1)).setCell ⟨w.heap.size + 1, 0, none⟩ (.int .i64 1)).setCell ⟨w.heap.size + 1, 1, none⟩ (.int .i64 1)).cell? ⟨w.heap.size + 1, 1, none⟩ = some (.int .i64 1) := ⟨hcell E6 rfl, hcell E6 rfl, hcell E7 rfl, hcell E7 rfl⟩)
            | fail)
        rename_i hH
        clear hH
        have hBA := hBz.grown (box2_grown (b := w.heap.size) (.int .i64 0) (.int .i64 1)) hBz.size (fun j hj => by cases hj; omega)
        have hBE := hBA.grown (box2_grown (b := w.heap.size + 1) (.int .i64 1) (.int .i64 1)) hBA.size (fun j hj => by cases hj; omega)
        go_wp2
        refine bodyPost_ret (results_cct1 rfl _ _ w.heap.size 41 #[.int .i64 0, .int .i64 1] (0, 0) _ (w.heap.size + 1) 41 #[.int .i64 1, .int .i64 1] (0, 0) _ rfl (E6) Try.underlying41 rfl (by kernel_rfl) rfl (E7) Try.underlying41 rfl (by kernel_rfl)) rfl ⟨?_, hBE⟩
        exact ret_axis (x := rt0) (y := rt1) HX.out
  · subst hab
    have HX : Hid (axisS a a lo = (rt0, rt1, decide (lo ≤ a) && decide (a ≤ lo + 2))) := by show _ = _; simp [axisS]
    go_enter Try.func104, Try.ntmps104
    go_wp2_with fail
    generalize ((w.alloc (.cells #[.int .i64 0, .int .i64 1] 41)).alloc (.cells #[.int .i64 1, .int .i64 1] 41)) = W at hB h6 h7 ⊢
    by_cases h1 : lo ≤ a
    · have h1d : decide (lo ≤ a) = true := by simpa using h1
      have HX2 : Hid (axisS a a lo = (rt0, rt1, decide (a ≤ lo + 2))) := by show _ = _; rw [HX.out]; simp [h1]
      have d6a := hcell (k := 0) (v := .int .i64 0) h6 rfl
      have d6b := hcell (k := 1) (v := .int .i64 1) h6 rfl
      have f6a := hfroz (k := 0) h6
      have f6b := hfroz (k := 1) h6
      have d7a := hcell (k := 0) (v := .int .i64 1) h7 rfl
      have d7b := hcell (k := 1) (v := .int .i64 1) h7 rfl
      have f7a := hfroz (k := 0) h7
      have f7b := hfroz (k := 1) h7
      have hs := hblt h7
      go_wp2_with fail
      go_region
      all_goals
        clear d6a d6b d7a d7b f6a f6b f7a f7b
        have h6' := box2_set h6 (.int .i64 0) (.int .i64 1)
        have h7' := heap_set_far (heap_set_far h7 (show _ ≠ w.heap.size by omega) (i := 0) (v := .int .i64 0)) (show _ ≠ w.heap.size by omega) (i := 1) (v := .int .i64 1)
        have hB' := hB.grown (box2_grown (b := w.heap.size) (.int .i64 0) (.int .i64 1)) hB.size (fun j hj => by cases hj; omega)
        clear hB
        have hB := hB'
        clear hB'
        clear h6
        have h6 := h6'
        clear h6'
        clear h7
        have h7 := h7'
        clear h7'
        have h6' := heap_set_far (heap_set_far h6 (show _ ≠ (w.heap.size + 1) by omega) (i := 0) (v := .int .i64 1)) (show _ ≠ (w.heap.size + 1) by omega) (i := 1) (v := .int .i64 1)
        have h7' := box2_set h7 (.int .i64 1) (.int .i64 1)
        have hB' := hB.grown (box2_grown (b := (w.heap.size + 1)) (.int .i64 1) (.int .i64 1)) hB.size (fun j hj => by cases hj; omega)
        clear hB
        have hB := hB'
        clear hB'
        clear h6
        have h6 := h6'
        clear h6'
        clear h7
        have h7 := h7'
        clear h7'
        go_wp2
        refine bodyPost_ret (results_cct1 rfl _ _ w.heap.size 41 #[.int .i64 0, .int .i64 1] (0, 0) _ (w.heap.size + 1) 41 #[.int .i64 1, .int .i64 1] (0, 0) _ rfl (dr_heap h6) Try.underlying41 rfl (by kernel_rfl) rfl (dr_heap h7) Try.underlying41 rfl (by kernel_rfl)) rfl ⟨?_, hB.drew⟩
        exact ret_axis (x := rt0) (y := rt1) HX2.out
    · have h1d : decide (lo ≤ a) = false := by simpa using h1
      have HX2 : Hid (axisS a a lo = (rt0, rt1, false)) := by show _ = _; rw [HX.out]; simp [h1]
      have d6a := hcell (k := 0) (v := .int .i64 0) h6 rfl
      have d6b := hcell (k := 1) (v := .int .i64 1) h6 rfl
      have f6a := hfroz (k := 0) h6
      have f6b := hfroz (k := 1) h6
      have d7a := hcell (k := 0) (v := .int .i64 1) h7 rfl
      have d7b := hcell (k := 1) (v := .int .i64 1) h7 rfl
      have f7a := hfroz (k := 0) h7
      have f7b := hfroz (k := 1) h7
      have hs := hblt h7
      go_wp2_with fail
      go_region
      all_goals
        clear d6a d6b d7a d7b f6a f6b f7a f7b
        have h6' := box2_set h6 (.int .i64 0) (.int .i64 1)
        have h7' := heap_set_far (heap_set_far h7 (show _ ≠ w.heap.size by omega) (i := 0) (v := .int .i64 0)) (show _ ≠ w.heap.size by omega) (i := 1) (v := .int .i64 1)
        have hB' := hB.grown (box2_grown (b := w.heap.size) (.int .i64 0) (.int .i64 1)) hB.size (fun j hj => by cases hj; omega)
        clear hB
        have hB := hB'
        clear hB'
        clear h6
        have h6 := h6'
        clear h6'
        clear h7
        have h7 := h7'
        clear h7'
        have h6' := heap_set_far (heap_set_far h6 (show _ ≠ (w.heap.size + 1) by omega) (i := 0) (v := .int .i64 1)) (show _ ≠ (w.heap.size + 1) by omega) (i := 1) (v := .int .i64 1)
        have h7' := box2_set h7 (.int .i64 1) (.int .i64 1)
        have hB' := hB.grown (box2_grown (b := (w.heap.size + 1)) (.int .i64 1) (.int .i64 1)) hB.size (fun j hj => by cases hj; omega)
        clear hB
        have hB := hB'
        clear hB'
        clear h6
        have h6 := h6'
        clear h6'
        clear h7
        have h7 := h7'
        clear h7'
        go_wp2
        refine bodyPost_ret (results_cct1 rfl _ _ w.heap.size 41 #[.int .i64 0, .int .i64 1] (0, 0) _ (w.heap.size + 1) 41 #[.int .i64 1, .int .i64 1] (0, 0) _ rfl (dr_heap h6) Try.underlying41 rfl (by kernel_rfl) rfl (dr_heap h7) Try.underlying41 rfl (by kernel_rfl)) rfl ⟨?_, hB.drew⟩
        exact ret_axis (x := rt0) (y := rt1) HX2.out
  · have hne : ¬ a = b := by omega
    have hlt : b < a := by omega
    obtain ⟨O, hO⟩ : ∃ O, Hid (O = ratioS (lo - a) (b - a)) := ⟨_, rfl⟩
    obtain ⟨I, hI⟩ : ∃ I, Hid (I = ratioS (lo + 2 - a) (b - a)) := ⟨_, rfl⟩
    have HI : Hid (ins a b lo = (I, O)) := by show _ = _; rw [hI.out, hO.out]; exact if_pos hlt
    have sI : RtSmall 1000 I := by rw [hI.out]; exact ratioS_small (by omega) (by omega) (by omega) (by omega) (by omega)
    have sO : RtSmall 1000 O := by rw [hO.out]; exact ratioS_small (by omega) (by omega) (by omega) (by omega) (by omega)
    have RA := Lib.hid (fun W => ratio_any (lo - a) (b - a) W (by omega) (by omega) (by omega))
    have RB := Lib.hid (fun W => ratio_any (lo + 2 - a) (b - a) W (by omega) (by omega) (by omega))
    rw [← hO.out] at RA
    rw [← hI.out] at RB
    have CI := Lib.hid (fun W => compare_any I rt0 W sI.big rt0_small)
    have CO := Lib.hid (fun W => compare_any O rt1 W sO.big rt1_small)
    have HX : Hid (axisS a b lo = (if 0 < cmpR I rt0 then I else rt0, if cmpR O rt1 < 0 then O else rt1, decide (cmpR (if 0 < cmpR I rt0 then I else rt0) (if cmpR O rt1 < 0 then O else rt1) ≤ 0))) := by show _ = _; simp only [axisS, hne, if_false, HI.out]
    clear hI hO HI
    go_enter Try.func104, Try.ntmps104
    go_wp2_with fail
    generalize ((w.alloc (.cells #[.int .i64 0, .int .i64 1] 41)).alloc (.cells #[.int .i64 1, .int .i64 1] 41)) = W at hB h6 h7 ⊢
    refine (RA.out _).mono ?_
    rintro e w1 ⟨rfl, hb1⟩
    have hB1 := hB.trans (hb1.mono hB.size)
    clear hB
    have hB := hB1
    clear hB1
    have h6' := hkeep hb1 h6
    have h7' := hkeep hb1 h7
    clear h6
    have h6 := h6'
    clear h6'
    clear h7
    have h7 := h7'
    clear h7'
    clear hb1
    go_wp2_with fail
    refine (RB.out _).mono ?_
    rintro e w2 ⟨rfl, hb2⟩
    have hB1 := hB.trans (hb2.mono hB.size)
    clear hB
    have hB := hB1
    clear hB1
    have h6' := hkeep hb2 h6
    have h7' := hkeep hb2 h7
    clear h6
    have h6 := h6'
    clear h6'
    clear h7
    have h7 := h7'
    clear h7'
    clear hb2
    have hs2 := hblt h7
    have h9 : ((w2.alloc (.cells #[.int .i64 I.n, .int .i64 I.d] 41)).alloc (.cells #[.int .i64 O.n, .int .i64 O.d] 41)).heap[w2.heap.size]? = some (.cells #[.int .i64 I.n, .int .i64 I.d] 41 (0, 0)) := halloc (World.alloc_heap_new _ _) _
    have h10 : ((w2.alloc (.cells #[.int .i64 I.n, .int .i64 I.d] 41)).alloc (.cells #[.int .i64 O.n, .int .i64 O.d] 41)).heap[w2.heap.size + 1]? = some (.cells #[.int .i64 O.n, .int .i64 O.d] 41 (0, 0)) := by
      have := World.alloc_heap_new (w2.alloc (.cells #[.int .i64 I.n, .int .i64 I.d] 41)) (.cells #[.int .i64 O.n, .int .i64 O.d] 41)
      simpa using this
    have h6' := halloc (halloc h6 (.cells #[.int .i64 I.n, .int .i64 I.d] 41)) (.cells #[.int .i64 O.n, .int .i64 O.d] 41)
    have h7' := halloc (halloc h7 (.cells #[.int .i64 I.n, .int .i64 I.d] 41)) (.cells #[.int .i64 O.n, .int .i64 O.d] 41)
    clear h6 h7
    have h6 := h6'
    have h7 := h7'
    clear h6' h7'
    have hB1 : Below w.heap.size w ((w2.alloc (.cells #[.int .i64 I.n, .int .i64 I.d] 41)).alloc (.cells #[.int .i64 O.n, .int .i64 O.d] 41)) := (hB.alloc hB.size _).alloc (by simp; have := hB.size; omega) _
    clear hB
    have hB := hB1
    clear hB1
    have hsz : ((w2.alloc (.cells #[.int .i64 I.n, .int .i64 I.d] 41)).alloc (.cells #[.int .i64 O.n, .int .i64 O.d] 41)).heap.size = w2.heap.size + 2 := by simp
    have d6a := hcell (k := 0) (v := .int .i64 0) h6 rfl
    have d6b := hcell (k := 1) (v := .int .i64 1) h6 rfl
    have d7a := hcell (k := 0) (v := .int .i64 1) h7 rfl
    have d7b := hcell (k := 1) (v := .int .i64 1) h7 rfl
    have d9a := hcell (k := 0) (v := .int .i64 I.n) h9 rfl
    have d9b := hcell (k := 1) (v := .int .i64 I.d) h9 rfl
    have d10a := hcell (k := 0) (v := .int .i64 O.n) h10 rfl
    have d10b := hcell (k := 1) (v := .int .i64 O.d) h10 rfl
    go_wp2_with fail
    clear d6a d6b d7a d7b d9a d9b d10a d10b
    generalize ((w2.alloc (.cells #[.int .i64 I.n, .int .i64 I.d] 41)).alloc (.cells #[.int .i64 O.n, .int .i64 O.d] 41)) = W2 at hB h6 h7 h9 h10 hsz ⊢
    refine (CI.out _).mono ?_
    rintro e w3 ⟨rfl, hb3⟩
    have hB1 := hB.trans (hb3.mono hB.size)
    clear hB
    have hB := hB1
    clear hB1
    have h6' := hkeep hb3 h6
    have h7' := hkeep hb3 h7
    have h9' := hkeep hb3 h9
    have h10' := hkeep hb3 h10
    clear h6
    have h6 := h6'
    clear h6'
    clear h7
    have h7 := h7'
    clear h7'
    clear h9
    have h9 := h9'
    clear h9'
    clear h10
    have h10 := h10'
    clear h10'
    clear hb3
    by_cases h1 : 0 < cmpR I rt0
    · rw [if_pos h1] at HX
      have d6a := hcell (k := 0) (v := .int .i64 0) h6 rfl
      have d6b := hcell (k := 1) (v := .int .i64 1) h6 rfl
      have f6a := hfroz (k := 0) h6
      have f6b := hfroz (k := 1) h6
      have d9a := hcell (k := 0) (v := .int .i64 I.n) h9 rfl
      have d9b := hcell (k := 1) (v := .int .i64 I.d) h9 rfl
      have f9a := hfroz (k := 0) h9
      have f9b := hfroz (k := 1) h9
      have d10a := hcell (k := 0) (v := .int .i64 O.n) h10 rfl
      have d10b := hcell (k := 1) (v := .int .i64 O.d) h10 rfl
      have f10a := hfroz (k := 0) h10
      have f10b := hfroz (k := 1) h10
      have d7a := hcell (k := 0) (v := .int .i64 1) h7 rfl
      have d7b := hcell (k := 1) (v := .int .i64 1) h7 rfl
      have f7a := hfroz (k := 0) h7
      have f7b := hfroz (k := 1) h7
      go_wp2_with fail
      clear d6a d6b d7a d7b f6a f6b f7a f7b d9a d9b f9a f9b d10a d10b f10a f10b
      have h6' := box2_set h6 (.int .i64 I.n) (.int .i64 I.d)
      have h7' := heap_set_far (heap_set_far h7 (show _ ≠ w.heap.size by omega) (i := 0) (v := .int .i64 I.n)) (show _ ≠ w.heap.size by omega) (i := 1) (v := .int .i64 I.d)
      have h9' := heap_set_far (heap_set_far h9 (show _ ≠ w.heap.size by omega) (i := 0) (v := .int .i64 I.n)) (show _ ≠ w.heap.size by omega) (i := 1) (v := .int .i64 I.d)
      have h10' := heap_set_far (heap_set_far h10 (show _ ≠ w.heap.size by omega) (i := 0) (v := .int .i64 I.n)) (show _ ≠ w.heap.size by omega) (i := 1) (v := .int .i64 I.d)
      have hB' := hB.grown (box2_grown (b := w.heap.size) (.int .i64 I.n) (.int .i64 I.d)) hB.size (fun j hj => by cases hj; omega)
      clear hB
      have hB := hB'
      clear hB'
      clear h6
      have h6 := h6'
      clear h6'
      clear h7
      have h7 := h7'
      clear h7'
      clear h9
      have h9 := h9'
      clear h9'
      clear h10
      have h10 := h10'
      clear h10'
      refine (CO.out _).mono ?_
      rintro e w4 ⟨rfl, hb4⟩
      have hB1 := hB.trans (hb4.mono hB.size)
      clear hB
      have hB := hB1
      clear hB1
      have h6' := hkeep hb4 h6
      have h7' := hkeep hb4 h7
      have h9' := hkeep hb4 h9
      have h10' := hkeep hb4 h10
      clear h6
      have h6 := h6'
      clear h6'
      clear h7
      have h7 := h7'
      clear h7'
      clear h9
      have h9 := h9'
      clear h9'
      clear h10
      have h10 := h10'
      clear h10'
      clear hb4
      by_cases h2 : cmpR O rt1 < 0
      · rw [if_pos h2] at HX
        have CF := Lib.hid (fun W => compare_any I O W sI.big sO.big)
        have d6a := hcell (k := 0) (v := .int .i64 I.n) h6 rfl
        have d6b := hcell (k := 1) (v := .int .i64 I.d) h6 rfl
        have f6a := hfroz (k := 0) h6
        have f6b := hfroz (k := 1) h6
        have d7a := hcell (k := 0) (v := .int .i64 1) h7 rfl
        have d7b := hcell (k := 1) (v := .int .i64 1) h7 rfl
        have f7a := hfroz (k := 0) h7
        have f7b := hfroz (k := 1) h7
        have d10a := hcell (k := 0) (v := .int .i64 O.n) h10 rfl
        have d10b := hcell (k := 1) (v := .int .i64 O.d) h10 rfl
        have f10a := hfroz (k := 0) h10
        have f10b := hfroz (k := 1) h10
        go_wp2_with fail
        clear d6a d6b d7a d7b f6a f6b f7a f7b d10a d10b f10a f10b
        have h6' := heap_set_far (heap_set_far h6 (show _ ≠ (w.heap.size + 1) by omega) (i := 0) (v := .int .i64 O.n)) (show _ ≠ (w.heap.size + 1) by omega) (i := 1) (v := .int .i64 O.d)
        have h7' := box2_set h7 (.int .i64 O.n) (.int .i64 O.d)
        have h9' := heap_set_far (heap_set_far h9 (show _ ≠ (w.heap.size + 1) by omega) (i := 0) (v := .int .i64 O.n)) (show _ ≠ (w.heap.size + 1) by omega) (i := 1) (v := .int .i64 O.d)
        have h10' := heap_set_far (heap_set_far h10 (show _ ≠ (w.heap.size + 1) by omega) (i := 0) (v := .int .i64 O.n)) (show _ ≠ (w.heap.size + 1) by omega) (i := 1) (v := .int .i64 O.d)
        have hB' := hB.grown (box2_grown (b := (w.heap.size + 1)) (.int .i64 O.n) (.int .i64 O.d)) hB.size (fun j hj => by cases hj; omega)
        clear hB
        have hB := hB'
        clear hB'
        clear h6
        have h6 := h6'
        clear h6'
        clear h7
        have h7 := h7'
        clear h7'
        clear h9
        have h9 := h9'
        clear h9'
        clear h10
        have h10 := h10'
        clear h10'
        clear h9 h10
        obtain ⟨W5, hW5⟩ : ∃ W5, W5 = (w4.setCell ⟨w.heap.size + 1, 0, none⟩ (.int .i64 O.n)).setCell ⟨w.heap.size + 1, 1, none⟩ (.int .i64 O.d) := ⟨_, rfl⟩
        rw [← hW5] at hB h6 h7 ⊢
        clear hW5
        have d6a := hcell (k := 0) (v := .int .i64 I.n) h6 rfl
        have d6b := hcell (k := 1) (v := .int .i64 I.d) h6 rfl
        have d7a := hcell (k := 0) (v := .int .i64 O.n) h7 rfl
        have d7b := hcell (k := 1) (v := .int .i64 O.d) h7 rfl
        have hs5 := hblt h7
        have hdr : Below W5.heap.size W5 W5.drew := ⟨rfl, rfl, rfl, Nat.le_refl _, fun _ _ => rfl⟩
        have S0 : W5.drew.cell? ⟨w.heap.size, 0, none⟩ = some (.int .i64 I.n) ∧ W5.drew.cell? ⟨w.heap.size, 1, none⟩ = some (.int .i64 I.d) ∧ W5.drew.cell? ⟨w.heap.size + 1, 0, none⟩ = some (.int .i64 O.n) ∧ W5.drew.cell? ⟨w.heap.size + 1, 1, none⟩ = some (.int .i64 O.d) := ⟨d6a, d6b, d7a, d7b⟩
        go_wp2_with fail
        go_region_held3 (fun WW => WW.cell? ⟨w.heap.size, 0, none⟩ = some (.int .i64 I.n) ∧ WW.cell? ⟨w.heap.size, 1, none⟩ = some (.int .i64 I.d) ∧ WW.cell? ⟨w.heap.size + 1, 0, none⟩ = some (.int .i64 O.n) ∧ WW.cell? ⟨w.heap.size + 1, 1, none⟩ = some (.int .i64 O.d))
          (first
            | with_reducible exact S0
            | with_reducible exact S1
            | with_reducible exact SA
            | with_reducible exact SE
            | fail)
          (first
            | (go_at_call 57; refine (CF.out _).mono ?_; rintro e wz ⟨rfl, hbz⟩; have z6 := hkeep (hdr.trans hbz) h6; have z7 := hkeep (hdr.trans hbz) h7; have hBz := hB.trans ((hdr.trans hbz).mono hB.size); have y6a := hcell (k := 0) (v := .int .i64 I.n) z6 rfl; have y6b := hcell (k := 1) (v := .int .i64 I.d) z6 rfl; have y7a := hcell (k := 0) (v := .int .i64 O.n) z7 rfl; have y7b := hcell (k := 1) (v := .int .i64 O.d) z7 rfl; have g6a := hfroz (k := 0) z6; have g6b := hfroz (k := 1) z6; have g7a := hfroz (k := 0) z7; have g7b := hfroz (k := 1) z7; have A6 := box2_set z6 (.int .i64 I.n) (.int .i64 I.d); have A7 := heap_set_far (heap_set_far z7 (show w.heap.size + 1 ≠ w.heap.size by omega) (i := 0) (v := .int .i64 I.n)) (show w.heap.size + 1 ≠ w.heap.size by omega) (i := 1) (v := .int .i64 I.d); have E7 := box2_set A7 (.int .i64 O.n) (.int .i64 O.d); have E6 := heap_set_far (heap_set_far A6 (show w.heap.size ≠ w.heap.size + 1 by omega) (i := 0) (v := .int .i64 O.n)) (show w.heap.size ≠ w.heap.size + 1 by omega) (i := 1) (v := .int .i64 O.d); have S1 : wz.cell? ⟨w.heap.size, 0, none⟩ = some (.int .i64 I.n) ∧ wz.cell? ⟨w.heap.size, 1, none⟩ = some (.int .i64 I.d) ∧ wz.cell? ⟨w.heap.size + 1, 0, none⟩ = some (.int .i64 O.n) ∧ wz.cell? ⟨w.heap.size + 1, 1, none⟩ = some (.int .i64 O.d) := ⟨y6a, y6b, y7a, y7b⟩; have SA : ((wz.setCell ⟨w.heap.size, 0, none⟩ (.int .i64 I.n)).setCell ⟨w.heap.size, 1, none⟩ (.int .i64 I.d)).cell? ⟨w.heap.size, 0, none⟩ = some (.int .i64 I.n) ∧ ((wz.setCell ⟨w.heap.size, 0, none⟩ (.int .i64 I.n)).setCell ⟨w.heap.size, 1, none⟩ (.int .i64 I.d)).cell? ⟨w.heap.size, 1, none⟩ = some (.int .i64 I.d) ∧ ((wz.setCell ⟨w.heap.size, 0, none⟩ (.int .i64 I.n)).setCell ⟨w.heap.size, 1, none⟩ (.int .i64 I.d)).cell? ⟨w.heap.size + 1, 0, none⟩ = some (.int .i64 O.n) ∧ ((wz.setCell ⟨w.heap.size, 0, none⟩ (.int .i64 I.n)).setCell ⟨w.heap.size, 1, none⟩ (.int .i64 I.d)).cell? ⟨w.heap.size + 1, 1, none⟩ = some (.int .i64 O.d) := ⟨hcell A6 rfl, hcell A6 rfl, hcell A7 rfl, hcell A7 rfl⟩; have SE : ((((wz.setCell ⟨w.heap.size, 0, none⟩ (.int .i64 I.n)).setCell ⟨w.heap.size, 1, none⟩ (.int .i64 I.d)).setCell ⟨w.heap.size + 1, 0, none⟩ (.int .i64 O.n)).setCell ⟨w.heap.size + 1, 1, none⟩ (.int .i64 O.d)).cell? ⟨w.heap.size, 0, none⟩ = some (.int .i64 I.n) ∧ ((((wz.setCell ⟨w.heap.size, 0, none⟩ (.int .i64 I.n)).setCell ⟨w.heap.size, 1, none⟩ (.int .i64 I.d)).setCell ⟨w.heap.size + 1, 0, none⟩ (.int .i64 O.n)).setCell ⟨w.heap.size + 1, 1, none⟩ (.int .i64 O.d)).cell? ⟨w.heap.size, 1, none⟩ = some (.int .i64 I.d) ∧ ((((wz.setCell ⟨w.heap.size, 0, none⟩ (.int .i64 I.n)).setCell ⟨w.heap.size, 1, none⟩ (.int .i64 I.d)).setCell ⟨w.heap.size + 1, 0, none⟩ (.int .i64 O.n)).setCell ⟨w.heap.size + 1, 1, none⟩ (.int .i64 O.d)).cell? ⟨w.heap.size + 1, 0, none⟩ = some (.int .i64 O.n) ∧ ((((wz.setCell ⟨w.heap.size, 0, none⟩ (.int .i64 I.n)).setCell ⟨w.heap.size, 1, none⟩ (.int .i64 I.d)).setCell ⟨w.heap.size + 1, 0, none⟩ (.int .i64 O.n)).setCell ⟨w.heap.size + 1, 1, none⟩ (.int .i64 O.d)).cell? ⟨w.heap.size + 1, 1, none⟩ = some (.int .i64 O.d) := ⟨hcell E6 rfl, hcell E6 rfl, hcell E7 rfl, hcell E7 rfl⟩)
            | fail)
        rename_i hH
        clear hH
        have hBA := hBz.grown (box2_grown (b := w.heap.size) (.int .i64 I.n) (.int .i64 I.d)) hBz.size (fun j hj => by cases hj; omega)
        have hBE := hBA.grown (box2_grown (b := w.heap.size + 1) (.int .i64 O.n) (.int .i64 O.d)) hBA.size (fun j hj => by cases hj; omega)
        go_wp2
        refine bodyPost_ret (results_cct1 rfl _ _ w.heap.size 41 #[.int .i64 I.n, .int .i64 I.d] (0, 0) _ (w.heap.size + 1) 41 #[.int .i64 O.n, .int .i64 O.d] (0, 0) _ rfl (E6) Try.underlying41 rfl (by kernel_rfl) rfl (E7) Try.underlying41 rfl (by kernel_rfl)) rfl ⟨?_, hBE⟩
        exact ret_axis (x := I) (y := O) HX.out
      · rw [if_neg h2] at HX
        have CF := Lib.hid (fun W => compare_any I rt1 W sI.big rt1_small)
        have d6a := hcell (k := 0) (v := .int .i64 I.n) h6 rfl
        have d6b := hcell (k := 1) (v := .int .i64 I.d) h6 rfl
        have f6a := hfroz (k := 0) h6
        have f6b := hfroz (k := 1) h6
        have d7a := hcell (k := 0) (v := .int .i64 1) h7 rfl
        have d7b := hcell (k := 1) (v := .int .i64 1) h7 rfl
        have f7a := hfroz (k := 0) h7
        have f7b := hfroz (k := 1) h7
        have d10a := hcell (k := 0) (v := .int .i64 O.n) h10 rfl
        have d10b := hcell (k := 1) (v := .int .i64 O.d) h10 rfl
        have f10a := hfroz (k := 0) h10
        have f10b := hfroz (k := 1) h10
        go_wp2_with fail
        clear d6a d6b d7a d7b f6a f6b f7a f7b d10a d10b f10a f10b
        clear h9 h10
        obtain ⟨W5, hW5⟩ : ∃ W5, W5 = w4 := ⟨_, rfl⟩
        rw [← hW5] at hB h6 h7 ⊢
        clear hW5
        have d6a := hcell (k := 0) (v := .int .i64 I.n) h6 rfl
        have d6b := hcell (k := 1) (v := .int .i64 I.d) h6 rfl
        have d7a := hcell (k := 0) (v := .int .i64 1) h7 rfl
        have d7b := hcell (k := 1) (v := .int .i64 1) h7 rfl
        have hs5 := hblt h7
        have hdr : Below W5.heap.size W5 W5.drew := ⟨rfl, rfl, rfl, Nat.le_refl _, fun _ _ => rfl⟩
        have S0 : W5.drew.cell? ⟨w.heap.size, 0, none⟩ = some (.int .i64 I.n) ∧ W5.drew.cell? ⟨w.heap.size, 1, none⟩ = some (.int .i64 I.d) ∧ W5.drew.cell? ⟨w.heap.size + 1, 0, none⟩ = some (.int .i64 1) ∧ W5.drew.cell? ⟨w.heap.size + 1, 1, none⟩ = some (.int .i64 1) := ⟨d6a, d6b, d7a, d7b⟩
        go_wp2_with fail
        go_region_held3 (fun WW => WW.cell? ⟨w.heap.size, 0, none⟩ = some (.int .i64 I.n) ∧ WW.cell? ⟨w.heap.size, 1, none⟩ = some (.int .i64 I.d) ∧ WW.cell? ⟨w.heap.size + 1, 0, none⟩ = some (.int .i64 1) ∧ WW.cell? ⟨w.heap.size + 1, 1, none⟩ = some (.int .i64 1))
          (first
            | with_reducible exact S0
            | with_reducible exact S1
            | with_reducible exact SA
            | with_reducible exact SE
            | fail)
          (first
            | (go_at_call 57; refine (CF.out _).mono ?_; rintro e wz ⟨rfl, hbz⟩; have z6 := hkeep (hdr.trans hbz) h6; have z7 := hkeep (hdr.trans hbz) h7; have hBz := hB.trans ((hdr.trans hbz).mono hB.size); have y6a := hcell (k := 0) (v := .int .i64 I.n) z6 rfl; have y6b := hcell (k := 1) (v := .int .i64 I.d) z6 rfl; have y7a := hcell (k := 0) (v := .int .i64 1) z7 rfl; have y7b := hcell (k := 1) (v := .int .i64 1) z7 rfl; have g6a := hfroz (k := 0) z6; have g6b := hfroz (k := 1) z6; have g7a := hfroz (k := 0) z7; have g7b := hfroz (k := 1) z7; have A6 := box2_set z6 (.int .i64 I.n) (.int .i64 I.d); have A7 := heap_set_far (heap_set_far z7 (show w.heap.size + 1 ≠ w.heap.size by omega) (i := 0) (v := .int .i64 I.n)) (show w.heap.size + 1 ≠ w.heap.size by omega) (i := 1) (v := .int .i64 I.d); have E7 := box2_set A7 (.int .i64 1) (.int .i64 1); have E6 := heap_set_far (heap_set_far A6 (show w.heap.size ≠ w.heap.size + 1 by omega) (i := 0) (v := .int .i64 1)) (show w.heap.size ≠ w.heap.size + 1 by omega) (i := 1) (v := .int .i64 1); have S1 : wz.cell? ⟨w.heap.size, 0, none⟩ = some (.int .i64 I.n) ∧ wz.cell? ⟨w.heap.size, 1, none⟩ = some (.int .i64 I.d) ∧ wz.cell? ⟨w.heap.size + 1, 0, none⟩ = some (.int .i64 1) ∧ wz.cell? ⟨w.heap.size + 1, 1, none⟩ = some (.int .i64 1) := ⟨y6a, y6b, y7a, y7b⟩; have SA : ((wz.setCell ⟨w.heap.size, 0, none⟩ (.int .i64 I.n)).setCell ⟨w.heap.size, 1, none⟩ (.int .i64 I.d)).cell? ⟨w.heap.size, 0, none⟩ = some (.int .i64 I.n) ∧ ((wz.setCell ⟨w.heap.size, 0, none⟩ (.int .i64 I.n)).setCell ⟨w.heap.size, 1, none⟩ (.int .i64 I.d)).cell? ⟨w.heap.size, 1, none⟩ = some (.int .i64 I.d) ∧ ((wz.setCell ⟨w.heap.size, 0, none⟩ (.int .i64 I.n)).setCell ⟨w.heap.size, 1, none⟩ (.int .i64 I.d)).cell? ⟨w.heap.size + 1, 0, none⟩ = some (.int .i64 1) ∧ ((wz.setCell ⟨w.heap.size, 0, none⟩ (.int .i64 I.n)).setCell ⟨w.heap.size, 1, none⟩ (.int .i64 I.d)).cell? ⟨w.heap.size + 1, 1, none⟩ = some (.int .i64 1) := ⟨hcell A6 rfl, hcell A6 rfl, hcell A7 rfl, hcell A7 rfl⟩; have SE : ((((wz.setCell ⟨w.heap.size, 0, none⟩ (.int .i64 I.n)).setCell ⟨w.heap.size, 1, none⟩ (.int .i64 I.d)).setCell ⟨w.heap.size + 1, 0, none⟩ (.int .i64 1)).setCell ⟨w.heap.size + 1, 1, none⟩ (.int .i64 1)).cell? ⟨w.heap.size, 0, none⟩ = some (.int .i64 I.n) ∧ ((((wz.setCell ⟨w.heap.size, 0, none⟩ (.int .i64 I.n)).setCell ⟨w.heap.size, 1, none⟩ (.int .i64 I.d)).setCell ⟨w.heap.size + 1, 0, none⟩ (.int .i64 1)).setCell ⟨w.heap.size + 1, 1, none⟩ (.int .i64 1)).cell? ⟨w.heap.size, 1, none⟩ = some (.int .i64 I.d) ∧ ((((wz.setCell ⟨w.heap.size, 0, none⟩ (.int .i64 I.n)).setCell ⟨w.heap.size, 1, none⟩ (.int .i64 I.d)).setCell ⟨w.heap.size + 1, 0, none⟩ (.int .i64 1)).setCell ⟨w.heap.size + 1, 1, none⟩ (.int .i64 1)).cell? ⟨w.heap.size + 1, 0, none⟩ = some (.int .i64 1) ∧ ((((wz.setCell ⟨w.heap.size, 0, none⟩ (.int .i64 I.n)).setCell ⟨w.heap.size, 1, none⟩ (.int .i64 I.d)).setCell ⟨w.heap.size + 1, 0, none⟩ (.int .i64 1)).setCell ⟨w.heap.size + 1, 1, none⟩ (.int .i64 1)).cell? ⟨w.heap.size + 1, 1, none⟩ = some (.int .i64 1) := ⟨hcell E6 rfl, hcell E6 rfl, hcell E7 rfl, hcell E7 rfl⟩)
            | fail)
        rename_i hH
        clear hH
        have hBA := hBz.grown (box2_grown (b := w.heap.size) (.int .i64 I.n) (.int .i64 I.d)) hBz.size (fun j hj => by cases hj; omega)
        have hBE := hBA.grown (box2_grown (b := w.heap.size + 1) (.int .i64 1) (.int .i64 1)) hBA.size (fun j hj => by cases hj; omega)
        go_wp2
        refine bodyPost_ret (results_cct1 rfl _ _ w.heap.size 41 #[.int .i64 I.n, .int .i64 I.d] (0, 0) _ (w.heap.size + 1) 41 #[.int .i64 1, .int .i64 1] (0, 0) _ rfl (E6) Try.underlying41 rfl (by kernel_rfl) rfl (E7) Try.underlying41 rfl (by kernel_rfl)) rfl ⟨?_, hBE⟩
        exact ret_axis (x := I) (y := rt1) HX.out
    · rw [if_neg h1] at HX
      have d6a := hcell (k := 0) (v := .int .i64 0) h6 rfl
      have d6b := hcell (k := 1) (v := .int .i64 1) h6 rfl
      have f6a := hfroz (k := 0) h6
      have f6b := hfroz (k := 1) h6
      have d9a := hcell (k := 0) (v := .int .i64 I.n) h9 rfl
      have d9b := hcell (k := 1) (v := .int .i64 I.d) h9 rfl
      have f9a := hfroz (k := 0) h9
      have f9b := hfroz (k := 1) h9
      have d10a := hcell (k := 0) (v := .int .i64 O.n) h10 rfl
      have d10b := hcell (k := 1) (v := .int .i64 O.d) h10 rfl
      have f10a := hfroz (k := 0) h10
      have f10b := hfroz (k := 1) h10
      have d7a := hcell (k := 0) (v := .int .i64 1) h7 rfl
      have d7b := hcell (k := 1) (v := .int .i64 1) h7 rfl
      have f7a := hfroz (k := 0) h7
      have f7b := hfroz (k := 1) h7
      go_wp2_with fail
      clear d6a d6b d7a d7b f6a f6b f7a f7b d9a d9b f9a f9b d10a d10b f10a f10b
      refine (CO.out _).mono ?_
      rintro e w4 ⟨rfl, hb4⟩
      have hB1 := hB.trans (hb4.mono hB.size)
      clear hB
      have hB := hB1
      clear hB1
      have h6' := hkeep hb4 h6
      have h7' := hkeep hb4 h7
      have h9' := hkeep hb4 h9
      have h10' := hkeep hb4 h10
      clear h6
      have h6 := h6'
      clear h6'
      clear h7
      have h7 := h7'
      clear h7'
      clear h9
      have h9 := h9'
      clear h9'
      clear h10
      have h10 := h10'
      clear h10'
      clear hb4
      by_cases h2 : cmpR O rt1 < 0
      · rw [if_pos h2] at HX
        have CF := Lib.hid (fun W => compare_any rt0 O W rt0_small sO.big)
        have d6a := hcell (k := 0) (v := .int .i64 0) h6 rfl
        have d6b := hcell (k := 1) (v := .int .i64 1) h6 rfl
        have f6a := hfroz (k := 0) h6
        have f6b := hfroz (k := 1) h6
        have d7a := hcell (k := 0) (v := .int .i64 1) h7 rfl
        have d7b := hcell (k := 1) (v := .int .i64 1) h7 rfl
        have f7a := hfroz (k := 0) h7
        have f7b := hfroz (k := 1) h7
        have d10a := hcell (k := 0) (v := .int .i64 O.n) h10 rfl
        have d10b := hcell (k := 1) (v := .int .i64 O.d) h10 rfl
        have f10a := hfroz (k := 0) h10
        have f10b := hfroz (k := 1) h10
        go_wp2_with fail
        clear d6a d6b d7a d7b f6a f6b f7a f7b d10a d10b f10a f10b
        have h6' := heap_set_far (heap_set_far h6 (show _ ≠ (w.heap.size + 1) by omega) (i := 0) (v := .int .i64 O.n)) (show _ ≠ (w.heap.size + 1) by omega) (i := 1) (v := .int .i64 O.d)
        have h7' := box2_set h7 (.int .i64 O.n) (.int .i64 O.d)
        have h9' := heap_set_far (heap_set_far h9 (show _ ≠ (w.heap.size + 1) by omega) (i := 0) (v := .int .i64 O.n)) (show _ ≠ (w.heap.size + 1) by omega) (i := 1) (v := .int .i64 O.d)
        have h10' := heap_set_far (heap_set_far h10 (show _ ≠ (w.heap.size + 1) by omega) (i := 0) (v := .int .i64 O.n)) (show _ ≠ (w.heap.size + 1) by omega) (i := 1) (v := .int .i64 O.d)
        have hB' := hB.grown (box2_grown (b := (w.heap.size + 1)) (.int .i64 O.n) (.int .i64 O.d)) hB.size (fun j hj => by cases hj; omega)
        clear hB
        have hB := hB'
        clear hB'
        clear h6
        have h6 := h6'
        clear h6'
        clear h7
        have h7 := h7'
        clear h7'
        clear h9
        have h9 := h9'
        clear h9'
        clear h10
        have h10 := h10'
        clear h10'
        clear h9 h10
        obtain ⟨W5, hW5⟩ : ∃ W5, W5 = (w4.setCell ⟨w.heap.size + 1, 0, none⟩ (.int .i64 O.n)).setCell ⟨w.heap.size + 1, 1, none⟩ (.int .i64 O.d) := ⟨_, rfl⟩
        rw [← hW5] at hB h6 h7 ⊢
        clear hW5
        have d6a := hcell (k := 0) (v := .int .i64 0) h6 rfl
        have d6b := hcell (k := 1) (v := .int .i64 1) h6 rfl
        have d7a := hcell (k := 0) (v := .int .i64 O.n) h7 rfl
        have d7b := hcell (k := 1) (v := .int .i64 O.d) h7 rfl
        have hs5 := hblt h7
        have hdr : Below W5.heap.size W5 W5.drew := ⟨rfl, rfl, rfl, Nat.le_refl _, fun _ _ => rfl⟩
        have S0 : W5.drew.cell? ⟨w.heap.size, 0, none⟩ = some (.int .i64 0) ∧ W5.drew.cell? ⟨w.heap.size, 1, none⟩ = some (.int .i64 1) ∧ W5.drew.cell? ⟨w.heap.size + 1, 0, none⟩ = some (.int .i64 O.n) ∧ W5.drew.cell? ⟨w.heap.size + 1, 1, none⟩ = some (.int .i64 O.d) := ⟨d6a, d6b, d7a, d7b⟩
        go_wp2_with fail
        go_region_held3 (fun WW => WW.cell? ⟨w.heap.size, 0, none⟩ = some (.int .i64 0) ∧ WW.cell? ⟨w.heap.size, 1, none⟩ = some (.int .i64 1) ∧ WW.cell? ⟨w.heap.size + 1, 0, none⟩ = some (.int .i64 O.n) ∧ WW.cell? ⟨w.heap.size + 1, 1, none⟩ = some (.int .i64 O.d))
          (first
            | with_reducible exact S0
            | with_reducible exact S1
            | with_reducible exact SA
            | with_reducible exact SE
            | fail)
          (first
            | (go_at_call 57; refine (CF.out _).mono ?_; rintro e wz ⟨rfl, hbz⟩; have z6 := hkeep (hdr.trans hbz) h6; have z7 := hkeep (hdr.trans hbz) h7; have hBz := hB.trans ((hdr.trans hbz).mono hB.size); have y6a := hcell (k := 0) (v := .int .i64 0) z6 rfl; have y6b := hcell (k := 1) (v := .int .i64 1) z6 rfl; have y7a := hcell (k := 0) (v := .int .i64 O.n) z7 rfl; have y7b := hcell (k := 1) (v := .int .i64 O.d) z7 rfl; have g6a := hfroz (k := 0) z6; have g6b := hfroz (k := 1) z6; have g7a := hfroz (k := 0) z7; have g7b := hfroz (k := 1) z7; have A6 := box2_set z6 (.int .i64 0) (.int .i64 1); have A7 := heap_set_far (heap_set_far z7 (show w.heap.size + 1 ≠ w.heap.size by omega) (i := 0) (v := .int .i64 0)) (show w.heap.size + 1 ≠ w.heap.size by omega) (i := 1) (v := .int .i64 1); have E7 := box2_set A7 (.int .i64 O.n) (.int .i64 O.d); have E6 := heap_set_far (heap_set_far A6 (show w.heap.size ≠ w.heap.size + 1 by omega) (i := 0) (v := .int .i64 O.n)) (show w.heap.size ≠ w.heap.size + 1 by omega) (i := 1) (v := .int .i64 O.d); have S1 : wz.cell? ⟨w.heap.size, 0, none⟩ = some (.int .i64 0) ∧ wz.cell? ⟨w.heap.size, 1, none⟩ = some (.int .i64 1) ∧ wz.cell? ⟨w.heap.size + 1, 0, none⟩ = some (.int .i64 O.n) ∧ wz.cell? ⟨w.heap.size + 1, 1, none⟩ = some (.int .i64 O.d) := ⟨y6a, y6b, y7a, y7b⟩; have SA : ((wz.setCell ⟨w.heap.size, 0, none⟩ (.int .i64 0)).setCell ⟨w.heap.size, 1, none⟩ (.int .i64 1)).cell? ⟨w.heap.size, 0, none⟩ = some (.int .i64 0) ∧ ((wz.setCell ⟨w.heap.size, 0, none⟩ (.int .i64 0)).setCell ⟨w.heap.size, 1, none⟩ (.int .i64 1)).cell? ⟨w.heap.size, 1, none⟩ = some (.int .i64 1) ∧ ((wz.setCell ⟨w.heap.size, 0, none⟩ (.int .i64 0)).setCell ⟨w.heap.size, 1, none⟩ (.int .i64 1)).cell? ⟨w.heap.size + 1, 0, none⟩ = some (.int .i64 O.n) ∧ ((wz.setCell ⟨w.heap.size, 0, none⟩ (.int .i64 0)).setCell ⟨w.heap.size, 1, none⟩ (.int .i64 1)).cell? ⟨w.heap.size + 1, 1, none⟩ = some (.int .i64 O.d) := ⟨hcell A6 rfl, hcell A6 rfl, hcell A7 rfl, hcell A7 rfl⟩; have SE : ((((wz.setCell ⟨w.heap.size, 0, none⟩ (.int .i64 0)).setCell ⟨w.heap.size, 1, none⟩ (.int .i64 1)).setCell ⟨w.heap.size + 1, 0, none⟩ (.int .i64 O.n)).setCell ⟨w.heap.size + 1, 1, none⟩ (.int .i64 O.d)).cell? ⟨w.heap.size, 0, none⟩ = some (.int .i64 0) ∧ ((((wz.setCell ⟨w.heap.size, 0, none⟩ (.int .i64 0)).setCell ⟨w.heap.size, 1, none⟩ (.int .i64 1)).setCell ⟨w.heap.size + 1, 0, none⟩ (.int .i64 O.n)).setCell ⟨w.heap.size + 1, 1, none⟩ (.int .i64 O.d)).cell? ⟨w.heap.size, 1, none⟩ = some (.int .i64 1) ∧ ((((wz.setCell ⟨w.heap.size, 0, none⟩ (.int .i64 0)).setCell ⟨w.heap.size, 1, none⟩ (.int .i64 1)).setCell ⟨w.heap.size + 1, 0, none⟩ (.int .i64 O.n)).setCell ⟨w.heap.size + 1, 1, none⟩ (.int .i64 O.d)).cell? ⟨w.heap.size + 1, 0, none⟩ = some (.int .i64 O.n) ∧ ((((wz.setCell ⟨w.heap.size, 0, none⟩ (.int .i64 0)).setCell ⟨w.heap.size, 1, none⟩ (.int .i64 1)).setCell ⟨w.heap.size + 1, 0, none⟩ (.int .i64 O.n)).setCell ⟨w.heap.size + 1, 1, none⟩ (.int .i64 O.d)).cell? ⟨w.heap.size + 1, 1, none⟩ = some (.int .i64 O.d) := ⟨hcell E6 rfl, hcell E6 rfl, hcell E7 rfl, hcell E7 rfl⟩)
            | fail)
        rename_i hH
        clear hH
        have hBA := hBz.grown (box2_grown (b := w.heap.size) (.int .i64 0) (.int .i64 1)) hBz.size (fun j hj => by cases hj; omega)
        have hBE := hBA.grown (box2_grown (b := w.heap.size + 1) (.int .i64 O.n) (.int .i64 O.d)) hBA.size (fun j hj => by cases hj; omega)
        go_wp2
        refine bodyPost_ret (results_cct1 rfl _ _ w.heap.size 41 #[.int .i64 0, .int .i64 1] (0, 0) _ (w.heap.size + 1) 41 #[.int .i64 O.n, .int .i64 O.d] (0, 0) _ rfl (E6) Try.underlying41 rfl (by kernel_rfl) rfl (E7) Try.underlying41 rfl (by kernel_rfl)) rfl ⟨?_, hBE⟩
        exact ret_axis (x := rt0) (y := O) HX.out
      · rw [if_neg h2] at HX
        have CF := Lib.hid (fun W => compare_any rt0 rt1 W rt0_small rt1_small)
        have d6a := hcell (k := 0) (v := .int .i64 0) h6 rfl
        have d6b := hcell (k := 1) (v := .int .i64 1) h6 rfl
        have f6a := hfroz (k := 0) h6
        have f6b := hfroz (k := 1) h6
        have d7a := hcell (k := 0) (v := .int .i64 1) h7 rfl
        have d7b := hcell (k := 1) (v := .int .i64 1) h7 rfl
        have f7a := hfroz (k := 0) h7
        have f7b := hfroz (k := 1) h7
        have d10a := hcell (k := 0) (v := .int .i64 O.n) h10 rfl
        have d10b := hcell (k := 1) (v := .int .i64 O.d) h10 rfl
        have f10a := hfroz (k := 0) h10
        have f10b := hfroz (k := 1) h10
        go_wp2_with fail
        clear d6a d6b d7a d7b f6a f6b f7a f7b d10a d10b f10a f10b
        clear h9 h10
        obtain ⟨W5, hW5⟩ : ∃ W5, W5 = w4 := ⟨_, rfl⟩
        rw [← hW5] at hB h6 h7 ⊢
        clear hW5
        have d6a := hcell (k := 0) (v := .int .i64 0) h6 rfl
        have d6b := hcell (k := 1) (v := .int .i64 1) h6 rfl
        have d7a := hcell (k := 0) (v := .int .i64 1) h7 rfl
        have d7b := hcell (k := 1) (v := .int .i64 1) h7 rfl
        have hs5 := hblt h7
        have hdr : Below W5.heap.size W5 W5.drew := ⟨rfl, rfl, rfl, Nat.le_refl _, fun _ _ => rfl⟩
        have S0 : W5.drew.cell? ⟨w.heap.size, 0, none⟩ = some (.int .i64 0) ∧ W5.drew.cell? ⟨w.heap.size, 1, none⟩ = some (.int .i64 1) ∧ W5.drew.cell? ⟨w.heap.size + 1, 0, none⟩ = some (.int .i64 1) ∧ W5.drew.cell? ⟨w.heap.size + 1, 1, none⟩ = some (.int .i64 1) := ⟨d6a, d6b, d7a, d7b⟩
        go_wp2_with fail
        go_region_held3 (fun WW => WW.cell? ⟨w.heap.size, 0, none⟩ = some (.int .i64 0) ∧ WW.cell? ⟨w.heap.size, 1, none⟩ = some (.int .i64 1) ∧ WW.cell? ⟨w.heap.size + 1, 0, none⟩ = some (.int .i64 1) ∧ WW.cell? ⟨w.heap.size + 1, 1, none⟩ = some (.int .i64 1))
          (first
            | with_reducible exact S0
            | with_reducible exact S1
            | with_reducible exact SA
            | with_reducible exact SE
            | fail)
          (first
            | (go_at_call 57; refine (CF.out _).mono ?_; rintro e wz ⟨rfl, hbz⟩; have z6 := hkeep (hdr.trans hbz) h6; have z7 := hkeep (hdr.trans hbz) h7; have hBz := hB.trans ((hdr.trans hbz).mono hB.size); have y6a := hcell (k := 0) (v := .int .i64 0) z6 rfl; have y6b := hcell (k := 1) (v := .int .i64 1) z6 rfl; have y7a := hcell (k := 0) (v := .int .i64 1) z7 rfl; have y7b := hcell (k := 1) (v := .int .i64 1) z7 rfl; have g6a := hfroz (k := 0) z6; have g6b := hfroz (k := 1) z6; have g7a := hfroz (k := 0) z7; have g7b := hfroz (k := 1) z7; have A6 := box2_set z6 (.int .i64 0) (.int .i64 1); have A7 := heap_set_far (heap_set_far z7 (show w.heap.size + 1 ≠ w.heap.size by omega) (i := 0) (v := .int .i64 0)) (show w.heap.size + 1 ≠ w.heap.size by omega) (i := 1) (v := .int .i64 1); have E7 := box2_set A7 (.int .i64 1) (.int .i64 1); have E6 := heap_set_far (heap_set_far A6 (show w.heap.size ≠ w.heap.size + 1 by omega) (i := 0) (v := .int .i64 1)) (show w.heap.size ≠ w.heap.size + 1 by omega) (i := 1) (v := .int .i64 1); have S1 : wz.cell? ⟨w.heap.size, 0, none⟩ = some (.int .i64 0) ∧ wz.cell? ⟨w.heap.size, 1, none⟩ = some (.int .i64 1) ∧ wz.cell? ⟨w.heap.size + 1, 0, none⟩ = some (.int .i64 1) ∧ wz.cell? ⟨w.heap.size + 1, 1, none⟩ = some (.int .i64 1) := ⟨y6a, y6b, y7a, y7b⟩; have SA : ((wz.setCell ⟨w.heap.size, 0, none⟩ (.int .i64 0)).setCell ⟨w.heap.size, 1, none⟩ (.int .i64 1)).cell? ⟨w.heap.size, 0, none⟩ = some (.int .i64 0) ∧ ((wz.setCell ⟨w.heap.size, 0, none⟩ (.int .i64 0)).setCell ⟨w.heap.size, 1, none⟩ (.int .i64 1)).cell? ⟨w.heap.size, 1, none⟩ = some (.int .i64 1) ∧ ((wz.setCell ⟨w.heap.size, 0, none⟩ (.int .i64 0)).setCell ⟨w.heap.size, 1, none⟩ (.int .i64 1)).cell? ⟨w.heap.size + 1, 0, none⟩ = some (.int .i64 1) ∧ ((wz.setCell ⟨w.heap.size, 0, none⟩ (.int .i64 0)).setCell ⟨w.heap.size, 1, none⟩ (.int .i64 1)).cell? ⟨w.heap.size + 1, 1, none⟩ = some (.int .i64 1) := ⟨hcell A6 rfl, hcell A6 rfl, hcell A7 rfl, hcell A7 rfl⟩; have SE : ((((wz.setCell ⟨w.heap.size, 0, none⟩ (.int .i64 0)).setCell ⟨w.heap.size, 1, none⟩ (.int .i64 1)).setCell ⟨w.heap.size + 1, 0, none⟩ (.int .i64 1)).setCell ⟨w.heap.size + 1, 1, none⟩ (.int .i64 1)).cell? ⟨w.heap.size, 0, none⟩ = some (.int .i64 0) ∧ ((((wz.setCell ⟨w.heap.size, 0, none⟩ (.int .i64 0)).setCell ⟨w.heap.size, 1, none⟩ (.int .i64 1)).setCell ⟨w.heap.size + 1, 0, none⟩ (.int .i64 1)).setCell ⟨w.heap.size + 1, 1, none⟩ (.int .i64 1)).cell? ⟨w.heap.size, 1, none⟩ = some (.int .i64 1) ∧ ((((wz.setCell ⟨w.heap.size, 0, none⟩ (.int .i64 0)).setCell ⟨w.heap.size, 1, none⟩ (.int .i64 1)).setCell ⟨w.heap.size + 1, 0, none⟩ (.int .i64 1)).setCell ⟨w.heap.size + 1, 1, none⟩ (.int .i64 1)).cell? ⟨w.heap.size + 1, 0, none⟩ = some (.int .i64 1) ∧ ((((wz.setCell ⟨w.heap.size, 0, none⟩ (.int .i64 0)).setCell ⟨w.heap.size, 1, none⟩ (.int .i64 1)).setCell ⟨w.heap.size + 1, 0, none⟩ (.int .i64 1)).setCell ⟨w.heap.size + 1, 1, none⟩ (.int .i64 1)).cell? ⟨w.heap.size + 1, 1, none⟩ = some (.int .i64 1) := ⟨hcell E6 rfl, hcell E6 rfl, hcell E7 rfl, hcell E7 rfl⟩)
            | fail)
        rename_i hH
        clear hH
        have hBA := hBz.grown (box2_grown (b := w.heap.size) (.int .i64 0) (.int .i64 1)) hBz.size (fun j hj => by cases hj; omega)
        have hBE := hBA.grown (box2_grown (b := w.heap.size + 1) (.int .i64 1) (.int .i64 1)) hBA.size (fun j hj => by cases hj; omega)
        go_wp2
        refine bodyPost_ret (results_cct1 rfl _ _ w.heap.size 41 #[.int .i64 0, .int .i64 1] (0, 0) _ (w.heap.size + 1) 41 #[.int .i64 1, .int .i64 1] (0, 0) _ rfl (E6) Try.underlying41 rfl (by kernel_rfl) rfl (E7) Try.underlying41 rfl (by kernel_rfl)) rfl ⟨?_, hBE⟩
        exact ret_axis (x := rt0) (y := rt1) HX.out
end Go.Proofs.Ytndjljefppbmcaa
