/- Walk: how a segment meets a column. -/
import Derived.Test.YtndjljefppbmcaaCelX
namespace Go.Proofs.Ytndjljefppbmcaa
open Go.RowKit

theorem axisS_small (a b lo : Int) (ha : 0 ≤ a ∧ a ≤ 64) (hb : 0 ≤ b ∧ b ≤ 64) (hlo : -100 ≤ lo ∧ lo ≤ 100) : RtSmall 1000 (axisS a b lo).1 ∧ RtSmall 1000 (axisS a b lo).2.1 := by
  have h0 : RtSmall 1000 rt0 := by unfold RtSmall rt0; simp
  have h1 : RtSmall 1000 rt1 := by unfold RtSmall rt1; simp
  unfold axisS
  split
  · exact ⟨h0, h1⟩
  · have s1 : RtSmall 1000 (ratioS (lo - a) (b - a)) := ratioS_small (by omega) (by omega) (by omega) (by omega) (by omega)
    have s2 : RtSmall 1000 (ratioS (lo + 2 - a) (b - a)) := ratioS_small (by omega) (by omega) (by omega) (by omega) (by omega)
    have s3 : RtSmall 1000 (ins a b lo).1 ∧ RtSmall 1000 (ins a b lo).2 := by
      unfold ins
      split
      · exact ⟨s2, s1⟩
      · exact ⟨s1, s2⟩
    constructor
    · show RtSmall 1000 (if _ then _ else _)
      split
      · exact s3.1
      · exact h0
    · show RtSmall 1000 (if _ then _ else _)
      split
      · exact s3.2
      · exact h1
section
variable {w : World} {b : Nat} {t : TypeId}
theorem box6_set {u0 u1 u2 u3 u4 u5 : Value} (h : w.heap[b]? = some (.cells #[u0, u1, u2, u3, u4, u5] t (0, 0))) (v0 v1 v2 v3 v4 v5 : Value) : ((((((w.setCell ⟨b, 0, none⟩ v0).setCell ⟨b, 1, none⟩ v1).setCell ⟨b, 2, none⟩ v2).setCell ⟨b, 3, none⟩ v3).setCell ⟨b, 4, none⟩ v4).setCell ⟨b, 5, none⟩ v5).heap[b]? = some (.cells #[v0, v1, v2, v3, v4, v5] t (0, 0)) :=
  heap_setCell_same _ b 5 _ _ _ (heap_setCell_same _ b 4 _ _ _ (heap_setCell_same _ b 3 _ _ _ (heap_setCell_same _ b 2 _ _ _ (heap_setCell_same _ b 1 _ _ _ (heap_setCell_same _ b 0 _ _ _ h)))))
theorem box6_far {g : Nat} {u : Obj} (h : w.heap[g]? = some u) (hne : g ≠ b) (v0 v1 v2 v3 v4 v5 : Value) : ((((((w.setCell ⟨b, 0, none⟩ v0).setCell ⟨b, 1, none⟩ v1).setCell ⟨b, 2, none⟩ v2).setCell ⟨b, 3, none⟩ v3).setCell ⟨b, 4, none⟩ v4).setCell ⟨b, 5, none⟩ v5).heap[g]? = some u :=
  heap_set_far (heap_set_far (heap_set_far (heap_set_far (heap_set_far (heap_set_far h hne) hne) hne) hne) hne) hne
theorem box6_grown (v0 v1 v2 v3 v4 v5 : Value) : w.grownBy ((((((w.setCell ⟨b, 0, none⟩ v0).setCell ⟨b, 1, none⟩ v1).setCell ⟨b, 2, none⟩ v2).setCell ⟨b, 3, none⟩ v3).setCell ⟨b, 4, none⟩ v4).setCell ⟨b, 5, none⟩ v5) (some b) :=
  (((((grown_set w b 0 v0).trans (grown_set _ b 1 v1)).trans (grown_set _ b 2 v2)).trans (grown_set _ b 3 v3)).trans (grown_set _ b 4 v4)).trans (grown_set _ b 5 v5)
theorem box2_far {g : Nat} {u : Obj} (h : w.heap[g]? = some u) (hne : g ≠ b) (v0 v1 : Value) : ((w.setCell ⟨b, 0, none⟩ v0).setCell ⟨b, 1, none⟩ v1).heap[g]? = some u := heap_set_far (heap_set_far h hne) hne
end
theorem ret_meet {c : Cel} {k : Bool} {X : Cel × Bool} (h : X = (c, k)) : Ending.returned (.tuple #[.agg #[.int .i64 c.x, .int .i64 c.z, .int .i64 c.p.n, .int .i64 c.p.d, .int .i64 c.q.n, .int .i64 c.q.d], .bool k]) = Ending.returned (.tuple #[ceA X.1, .bool X.2]) := by rw [h]

set_option maxRecDepth 100000 in
set_option maxHeartbeats 8000000 in
theorem meet_any (a b : Pt) (x z : Int) (w : World) (ha : pointOk a = true) (hb : pointOk b = true) (hx : -50 ≤ x ∧ x ≤ 50) (hz : -50 ≤ z ∧ z ≤ 50) :
    Calls Try.prog 53 #[ptA a, ptA b, .int .i64 x, .int .i64 z] w fun e w' => e = .returned (.tuple #[ceA (meetC a b x z).1, .bool (meetC a b x z).2]) ∧ Below w.heap.size w w' := by
  simp only [pointOk, Bool.and_eq_true, decide_eq_true_eq] at ha hb
  have AX := Lib.hid (fun W => axis_any a.x b.x (2 * x) W (by omega) (by omega) (by omega))
  have AZ := Lib.hid (fun W => axis_any a.z b.z (2 * z) W (by omega) (by omega) (by omega))
  have sx := axisS_small a.x b.x (2 * x) (by omega) (by omega) (by omega)
  have sz := axisS_small a.z b.z (2 * z) (by omega) (by omega) (by omega)
  have HM : Hid (meetC a b x z = (⟨x, z, if 0 < cmpR (axisS a.z b.z (2 * z)).1 (axisS a.x b.x (2 * x)).1 then (axisS a.z b.z (2 * z)).1 else (axisS a.x b.x (2 * x)).1, if cmpR (axisS a.z b.z (2 * z)).2.1 (axisS a.x b.x (2 * x)).2.1 < 0 then (axisS a.z b.z (2 * z)).2.1 else (axisS a.x b.x (2 * x)).2.1⟩, (axisS a.x b.x (2 * x)).2.2 && (axisS a.z b.z (2 * z)).2.2 && decide (cmpR (if 0 < cmpR (axisS a.z b.z (2 * z)).1 (axisS a.x b.x (2 * x)).1 then (axisS a.z b.z (2 * z)).1 else (axisS a.x b.x (2 * x)).1) (if cmpR (axisS a.z b.z (2 * z)).2.1 (axisS a.x b.x (2 * x)).2.1 < 0 then (axisS a.z b.z (2 * z)).2.1 else (axisS a.x b.x (2 * x)).2.1) ≤ 0))) := rfl
  generalize axisS a.x b.x (2 * x) = U at AX sx HM
  generalize axisS a.z b.z (2 * z) = V at AZ sz HM
  obtain ⟨P, Q, one⟩ := U
  obtain ⟨R, S, two⟩ := V
  simp only at AX AZ sx sz HM
  obtain ⟨sP, sQ⟩ := sx
  obtain ⟨sR, sS⟩ := sz
  obtain ⟨ax, az⟩ := a
  obtain ⟨bx, bz⟩ := b
  simp only at ha hb AX AZ
  have CRP := Lib.hid (fun W => compare_any R P W sR.big sP.big)
  have CSQ := Lib.hid (fun W => compare_any S Q W sS.big sQ.big)
  have hB : Below w.heap.size w (((w.alloc (.cells #[.int .i64 ax, .int .i64 az] 36)).alloc (.cells #[.int .i64 bx, .int .i64 bz] 36)).alloc (.cells #[.int .i64 0, .int .i64 0, .int .i64 0, .int .i64 0, .int .i64 0, .int .i64 0] 43)) := (((Below.refl _ _).alloc (Nat.le_refl _) _).alloc (by simp) _).alloc (by simp; omega) _
  have h4 : (((w.alloc (.cells #[.int .i64 ax, .int .i64 az] 36)).alloc (.cells #[.int .i64 bx, .int .i64 bz] 36)).alloc (.cells #[.int .i64 0, .int .i64 0, .int .i64 0, .int .i64 0, .int .i64 0, .int .i64 0] 43)).heap[w.heap.size]? = some (.cells #[.int .i64 ax, .int .i64 az] 36 (0, 0)) := halloc (halloc (World.alloc_heap_new _ _) _) _
  have h5 : (((w.alloc (.cells #[.int .i64 ax, .int .i64 az] 36)).alloc (.cells #[.int .i64 bx, .int .i64 bz] 36)).alloc (.cells #[.int .i64 0, .int .i64 0, .int .i64 0, .int .i64 0, .int .i64 0, .int .i64 0] 43)).heap[w.heap.size + 1]? = some (.cells #[.int .i64 bx, .int .i64 bz] 36 (0, 0)) := by
    have := halloc (World.alloc_heap_new (w.alloc (.cells #[.int .i64 ax, .int .i64 az] 36)) (.cells #[.int .i64 bx, .int .i64 bz] 36)) (.cells #[.int .i64 0, .int .i64 0, .int .i64 0, .int .i64 0, .int .i64 0, .int .i64 0] 43)
    simpa using this
  have h8 : (((w.alloc (.cells #[.int .i64 ax, .int .i64 az] 36)).alloc (.cells #[.int .i64 bx, .int .i64 bz] 36)).alloc (.cells #[.int .i64 0, .int .i64 0, .int .i64 0, .int .i64 0, .int .i64 0, .int .i64 0] 43)).heap[w.heap.size + 1 + 1]? = some (.cells #[.int .i64 0, .int .i64 0, .int .i64 0, .int .i64 0, .int .i64 0, .int .i64 0] 43 (0, 0)) := by
    have := World.alloc_heap_new ((w.alloc (.cells #[.int .i64 ax, .int .i64 az] 36)).alloc (.cells #[.int .i64 bx, .int .i64 bz] 36)) (.cells #[.int .i64 0, .int .i64 0, .int .i64 0, .int .i64 0, .int .i64 0, .int .i64 0] 43)
    simpa using this
  go_enter Try.func53, Try.ntmps53
  go_wp2_with fail
  generalize (((w.alloc (.cells #[.int .i64 ax, .int .i64 az] 36)).alloc (.cells #[.int .i64 bx, .int .i64 bz] 36)).alloc (.cells #[.int .i64 0, .int .i64 0, .int .i64 0, .int .i64 0, .int .i64 0, .int .i64 0] 43)) = W at hB h4 h5 h8 ⊢
  refine (AX.out _).mono ?_
  rintro e w1 ⟨rfl, hb1⟩
  have hB1 := hB.trans (hb1.mono hB.size)
  clear hB
  have hB := hB1
  clear hB1
  have h4' := hkeep hb1 h4
  have h5' := hkeep hb1 h5
  have h8' := hkeep hb1 h8
  clear h4
  have h4 := h4'
  clear h4'
  clear h5
  have h5 := h5'
  clear h5'
  clear h8
  have h8 := h8'
  clear h8'
  clear hb1
  have hs_w1 := hblt h8
  have h4' : ((w1.alloc (.cells #[.int .i64 P.n, .int .i64 P.d] 41)).alloc (.cells #[.int .i64 Q.n, .int .i64 Q.d] 41)).heap[w.heap.size]? = _ := halloc (halloc h4 (.cells #[.int .i64 P.n, .int .i64 P.d] 41)) (.cells #[.int .i64 Q.n, .int .i64 Q.d] 41)
  have h5' : ((w1.alloc (.cells #[.int .i64 P.n, .int .i64 P.d] 41)).alloc (.cells #[.int .i64 Q.n, .int .i64 Q.d] 41)).heap[w.heap.size + 1]? = _ := halloc (halloc h5 (.cells #[.int .i64 P.n, .int .i64 P.d] 41)) (.cells #[.int .i64 Q.n, .int .i64 Q.d] 41)
  have h8' : ((w1.alloc (.cells #[.int .i64 P.n, .int .i64 P.d] 41)).alloc (.cells #[.int .i64 Q.n, .int .i64 Q.d] 41)).heap[w.heap.size + 1 + 1]? = _ := halloc (halloc h8 (.cells #[.int .i64 P.n, .int .i64 P.d] 41)) (.cells #[.int .i64 Q.n, .int .i64 Q.d] 41)
  clear h4
  have h4 := h4'
  clear h4'
  clear h5
  have h5 := h5'
  clear h5'
  clear h8
  have h8 := h8'
  clear h8'
  have h10 : ((w1.alloc (.cells #[.int .i64 P.n, .int .i64 P.d] 41)).alloc (.cells #[.int .i64 Q.n, .int .i64 Q.d] 41)).heap[w1.heap.size]? = some (.cells #[.int .i64 P.n, .int .i64 P.d] 41 (0, 0)) := halloc (World.alloc_heap_new _ _) _
  have h11 : ((w1.alloc (.cells #[.int .i64 P.n, .int .i64 P.d] 41)).alloc (.cells #[.int .i64 Q.n, .int .i64 Q.d] 41)).heap[w1.heap.size + 1]? = some (.cells #[.int .i64 Q.n, .int .i64 Q.d] 41 (0, 0)) := by
    have := World.alloc_heap_new (w1.alloc (.cells #[.int .i64 P.n, .int .i64 P.d] 41)) (.cells #[.int .i64 Q.n, .int .i64 Q.d] 41)
    simpa using this
  have hB1 : Below w.heap.size w ((w1.alloc (.cells #[.int .i64 P.n, .int .i64 P.d] 41)).alloc (.cells #[.int .i64 Q.n, .int .i64 Q.d] 41)) := (hB.alloc hB.size _).alloc (by simp; have := hB.size; omega) _
  clear hB
  have hB := hB1
  clear hB1
  have hsz_w1 : ((w1.alloc (.cells #[.int .i64 P.n, .int .i64 P.d] 41)).alloc (.cells #[.int .i64 Q.n, .int .i64 Q.d] 41)).heap.size = w1.heap.size + 2 := by simp
  have d4_0 := hcell (k := 0) (v := (.int .i64 ax)) h4 rfl
  have f4_0 := hfroz (k := 0) h4
  have d4_1 := hcell (k := 1) (v := (.int .i64 az)) h4 rfl
  have f4_1 := hfroz (k := 1) h4
  have d5_0 := hcell (k := 0) (v := (.int .i64 bx)) h5 rfl
  have f5_0 := hfroz (k := 0) h5
  have d5_1 := hcell (k := 1) (v := (.int .i64 bz)) h5 rfl
  have f5_1 := hfroz (k := 1) h5
  go_wp2_with fail
  clear d4_0 f4_0 d4_1 f4_1 d5_0 f5_0 d5_1 f5_1
  generalize ((w1.alloc (.cells #[.int .i64 P.n, .int .i64 P.d] 41)).alloc (.cells #[.int .i64 Q.n, .int .i64 Q.d] 41)) = W1 at hB hsz_w1 h4 h5 h8 h10 h11 ⊢
  refine (AZ.out _).mono ?_
  rintro e w2 ⟨rfl, hb2⟩
  have hB1 := hB.trans (hb2.mono hB.size)
  clear hB
  have hB := hB1
  clear hB1
  have h4' := hkeep hb2 h4
  have h5' := hkeep hb2 h5
  have h8' := hkeep hb2 h8
  have h10' := hkeep hb2 h10
  have h11' := hkeep hb2 h11
  clear h4
  have h4 := h4'
  clear h4'
  clear h5
  have h5 := h5'
  clear h5'
  clear h8
  have h8 := h8'
  clear h8'
  clear h10
  have h10 := h10'
  clear h10'
  clear h11
  have h11 := h11'
  clear h11'
  clear hb2
  have hs_w2 := hblt h8
  have hs_w2b := hblt h11
  have h4' : ((w2.alloc (.cells #[.int .i64 R.n, .int .i64 R.d] 41)).alloc (.cells #[.int .i64 S.n, .int .i64 S.d] 41)).heap[w.heap.size]? = _ := halloc (halloc h4 (.cells #[.int .i64 R.n, .int .i64 R.d] 41)) (.cells #[.int .i64 S.n, .int .i64 S.d] 41)
  have h5' : ((w2.alloc (.cells #[.int .i64 R.n, .int .i64 R.d] 41)).alloc (.cells #[.int .i64 S.n, .int .i64 S.d] 41)).heap[w.heap.size + 1]? = _ := halloc (halloc h5 (.cells #[.int .i64 R.n, .int .i64 R.d] 41)) (.cells #[.int .i64 S.n, .int .i64 S.d] 41)
  have h8' : ((w2.alloc (.cells #[.int .i64 R.n, .int .i64 R.d] 41)).alloc (.cells #[.int .i64 S.n, .int .i64 S.d] 41)).heap[w.heap.size + 1 + 1]? = _ := halloc (halloc h8 (.cells #[.int .i64 R.n, .int .i64 R.d] 41)) (.cells #[.int .i64 S.n, .int .i64 S.d] 41)
  have h10' : ((w2.alloc (.cells #[.int .i64 R.n, .int .i64 R.d] 41)).alloc (.cells #[.int .i64 S.n, .int .i64 S.d] 41)).heap[w1.heap.size]? = _ := halloc (halloc h10 (.cells #[.int .i64 R.n, .int .i64 R.d] 41)) (.cells #[.int .i64 S.n, .int .i64 S.d] 41)
  have h11' : ((w2.alloc (.cells #[.int .i64 R.n, .int .i64 R.d] 41)).alloc (.cells #[.int .i64 S.n, .int .i64 S.d] 41)).heap[w1.heap.size + 1]? = _ := halloc (halloc h11 (.cells #[.int .i64 R.n, .int .i64 R.d] 41)) (.cells #[.int .i64 S.n, .int .i64 S.d] 41)
  clear h4
  have h4 := h4'
  clear h4'
  clear h5
  have h5 := h5'
  clear h5'
  clear h8
  have h8 := h8'
  clear h8'
  clear h10
  have h10 := h10'
  clear h10'
  clear h11
  have h11 := h11'
  clear h11'
  have h13 : ((w2.alloc (.cells #[.int .i64 R.n, .int .i64 R.d] 41)).alloc (.cells #[.int .i64 S.n, .int .i64 S.d] 41)).heap[w2.heap.size]? = some (.cells #[.int .i64 R.n, .int .i64 R.d] 41 (0, 0)) := halloc (World.alloc_heap_new _ _) _
  have h14 : ((w2.alloc (.cells #[.int .i64 R.n, .int .i64 R.d] 41)).alloc (.cells #[.int .i64 S.n, .int .i64 S.d] 41)).heap[w2.heap.size + 1]? = some (.cells #[.int .i64 S.n, .int .i64 S.d] 41 (0, 0)) := by
    have := World.alloc_heap_new (w2.alloc (.cells #[.int .i64 R.n, .int .i64 R.d] 41)) (.cells #[.int .i64 S.n, .int .i64 S.d] 41)
    simpa using this
  have hB1 : Below w.heap.size w ((w2.alloc (.cells #[.int .i64 R.n, .int .i64 R.d] 41)).alloc (.cells #[.int .i64 S.n, .int .i64 S.d] 41)) := (hB.alloc hB.size _).alloc (by simp; have := hB.size; omega) _
  clear hB
  have hB := hB1
  clear hB1
  have hsz_w2 : ((w2.alloc (.cells #[.int .i64 R.n, .int .i64 R.d] 41)).alloc (.cells #[.int .i64 S.n, .int .i64 S.d] 41)).heap.size = w2.heap.size + 2 := by simp
  have d10_0 := hcell (k := 0) (v := (.int .i64 P.n)) h10 rfl
  have d10_1 := hcell (k := 1) (v := (.int .i64 P.d)) h10 rfl
  have d11_0 := hcell (k := 0) (v := (.int .i64 Q.n)) h11 rfl
  have d11_1 := hcell (k := 1) (v := (.int .i64 Q.d)) h11 rfl
  have d13_0 := hcell (k := 0) (v := (.int .i64 R.n)) h13 rfl
  have d13_1 := hcell (k := 1) (v := (.int .i64 R.d)) h13 rfl
  have d14_0 := hcell (k := 0) (v := (.int .i64 S.n)) h14 rfl
  have d14_1 := hcell (k := 1) (v := (.int .i64 S.d)) h14 rfl
  go_wp2_with fail
  clear d10_0 d10_1 d11_0 d11_1 d13_0 d13_1 d14_0 d14_1
  generalize ((w2.alloc (.cells #[.int .i64 R.n, .int .i64 R.d] 41)).alloc (.cells #[.int .i64 S.n, .int .i64 S.d] 41)) = W2 at hB hsz_w2 h4 h5 h8 h10 h11 h13 h14 ⊢
  refine (CRP.out _).mono ?_
  rintro e w3 ⟨rfl, hb3⟩
  have hB1 := hB.trans (hb3.mono hB.size)
  clear hB
  have hB := hB1
  clear hB1
  have h4' := hkeep hb3 h4
  have h5' := hkeep hb3 h5
  have h8' := hkeep hb3 h8
  have h10' := hkeep hb3 h10
  have h11' := hkeep hb3 h11
  have h13' := hkeep hb3 h13
  have h14' := hkeep hb3 h14
  clear h4
  have h4 := h4'
  clear h4'
  clear h5
  have h5 := h5'
  clear h5'
  clear h8
  have h8 := h8'
  clear h8'
  clear h10
  have h10 := h10'
  clear h10'
  clear h11
  have h11 := h11'
  clear h11'
  clear h13
  have h13 := h13'
  clear h13'
  clear h14
  have h14 := h14'
  clear h14'
  clear hb3
  have hs_w3 := hblt h14
  by_cases h1 : 0 < cmpR R P
  · rw [if_pos h1] at HM
    have d10_0 := hcell (k := 0) (v := (.int .i64 P.n)) h10 rfl
    have f10_0 := hfroz (k := 0) h10
    have d10_1 := hcell (k := 1) (v := (.int .i64 P.d)) h10 rfl
    have f10_1 := hfroz (k := 1) h10
    have d13_0 := hcell (k := 0) (v := (.int .i64 R.n)) h13 rfl
    have f13_0 := hfroz (k := 0) h13
    have d13_1 := hcell (k := 1) (v := (.int .i64 R.d)) h13 rfl
    have f13_1 := hfroz (k := 1) h13
    have d11_0 := hcell (k := 0) (v := (.int .i64 Q.n)) h11 rfl
    have f11_0 := hfroz (k := 0) h11
    have d11_1 := hcell (k := 1) (v := (.int .i64 Q.d)) h11 rfl
    have f11_1 := hfroz (k := 1) h11
    have d14_0 := hcell (k := 0) (v := (.int .i64 S.n)) h14 rfl
    have f14_0 := hfroz (k := 0) h14
    have d14_1 := hcell (k := 1) (v := (.int .i64 S.d)) h14 rfl
    have f14_1 := hfroz (k := 1) h14
    go_wp2_with fail
    clear d10_0 f10_0 d10_1 f10_1 d13_0 f13_0 d13_1 f13_1 d11_0 f11_0 d11_1 f11_1 d14_0 f14_0 d14_1 f14_1
    have h4' := box2_far h4 (show _ ≠ w1.heap.size by omega) (.int .i64 R.n) (.int .i64 R.d)
    have h5' := box2_far h5 (show _ ≠ w1.heap.size by omega) (.int .i64 R.n) (.int .i64 R.d)
    have h8' := box2_far h8 (show _ ≠ w1.heap.size by omega) (.int .i64 R.n) (.int .i64 R.d)
    have h10' := box2_set h10 (.int .i64 R.n) (.int .i64 R.d)
    have h11' := box2_far h11 (show _ ≠ w1.heap.size by omega) (.int .i64 R.n) (.int .i64 R.d)
    have h13' := box2_far h13 (show _ ≠ w1.heap.size by omega) (.int .i64 R.n) (.int .i64 R.d)
    have h14' := box2_far h14 (show _ ≠ w1.heap.size by omega) (.int .i64 R.n) (.int .i64 R.d)
    have hB' := hB.grown (box2_grown (b := w1.heap.size) (.int .i64 R.n) (.int .i64 R.d)) hB.size (fun j hj => by cases hj; omega)
    clear hB
    have hB := hB'
    clear hB'
    clear h4
    have h4 := h4'
    clear h4'
    clear h5
    have h5 := h5'
    clear h5'
    clear h8
    have h8 := h8'
    clear h8'
    clear h10
    have h10 := h10'
    clear h10'
    clear h11
    have h11 := h11'
    clear h11'
    clear h13
    have h13 := h13'
    clear h13'
    clear h14
    have h14 := h14'
    clear h14'
    refine (CSQ.out _).mono ?_
    rintro e w4 ⟨rfl, hb4⟩
    have hB1 := hB.trans (hb4.mono hB.size)
    clear hB
    have hB := hB1
    clear hB1
    have h4' := hkeep hb4 h4
    have h5' := hkeep hb4 h5
    have h8' := hkeep hb4 h8
    have h10' := hkeep hb4 h10
    have h11' := hkeep hb4 h11
    have h13' := hkeep hb4 h13
    have h14' := hkeep hb4 h14
    clear h4
    have h4 := h4'
    clear h4'
    clear h5
    have h5 := h5'
    clear h5'
    clear h8
    have h8 := h8'
    clear h8'
    clear h10
    have h10 := h10'
    clear h10'
    clear h11
    have h11 := h11'
    clear h11'
    clear h13
    have h13 := h13'
    clear h13'
    clear h14
    have h14 := h14'
    clear h14'
    clear hb4
    by_cases h2 : cmpR S Q < 0
    · rw [if_pos h2] at HM
      have CF := Lib.hid (fun W => compare_any R S W sR.big sS.big)
      have d11_0 := hcell (k := 0) (v := (.int .i64 Q.n)) h11 rfl
      have f11_0 := hfroz (k := 0) h11
      have d11_1 := hcell (k := 1) (v := (.int .i64 Q.d)) h11 rfl
      have f11_1 := hfroz (k := 1) h11
      have d14_0 := hcell (k := 0) (v := (.int .i64 S.n)) h14 rfl
      have f14_0 := hfroz (k := 0) h14
      have d14_1 := hcell (k := 1) (v := (.int .i64 S.d)) h14 rfl
      have f14_1 := hfroz (k := 1) h14
      have d10_0 := hcell (k := 0) (v := (.int .i64 R.n)) h10 rfl
      have f10_0 := hfroz (k := 0) h10
      have d10_1 := hcell (k := 1) (v := (.int .i64 R.d)) h10 rfl
      have f10_1 := hfroz (k := 1) h10
      cases one with
      | true =>
        cases two with
        | true =>
          go_wp2_with fail
          clear d11_0 f11_0 d11_1 f11_1 d14_0 f14_0 d14_1 f14_1 d10_0 f10_0 d10_1 f10_1
          have h4' := box2_far h4 (show _ ≠ w1.heap.size + 1 by omega) (.int .i64 S.n) (.int .i64 S.d)
          have h5' := box2_far h5 (show _ ≠ w1.heap.size + 1 by omega) (.int .i64 S.n) (.int .i64 S.d)
          have h8' := box2_far h8 (show _ ≠ w1.heap.size + 1 by omega) (.int .i64 S.n) (.int .i64 S.d)
          have h10' := box2_far h10 (show _ ≠ w1.heap.size + 1 by omega) (.int .i64 S.n) (.int .i64 S.d)
          have h11' := box2_set h11 (.int .i64 S.n) (.int .i64 S.d)
          have h13' := box2_far h13 (show _ ≠ w1.heap.size + 1 by omega) (.int .i64 S.n) (.int .i64 S.d)
          have h14' := box2_far h14 (show _ ≠ w1.heap.size + 1 by omega) (.int .i64 S.n) (.int .i64 S.d)
          have hB' := hB.grown (box2_grown (b := w1.heap.size + 1) (.int .i64 S.n) (.int .i64 S.d)) hB.size (fun j hj => by cases hj; omega)
          clear hB
          have hB := hB'
          clear hB'
          clear h4
          have h4 := h4'
          clear h4'
          clear h5
          have h5 := h5'
          clear h5'
          clear h8
          have h8 := h8'
          clear h8'
          clear h10
          have h10 := h10'
          clear h10'
          clear h11
          have h11 := h11'
          clear h11'
          clear h13
          have h13 := h13'
          clear h13'
          clear h14
          have h14 := h14'
          clear h14'
          clear h4
          clear h5
          clear h13
          clear h14
          obtain ⟨W5, hW5⟩ : ∃ W5, W5 = ((w4.setCell ⟨w1.heap.size + 1, 0, none⟩ (.int .i64 S.n)).setCell ⟨w1.heap.size + 1, 1, none⟩ (.int .i64 S.d)) := ⟨_, rfl⟩
          rw [← hW5] at hB h8 h10 h11 ⊢
          clear hW5
          have d10_0 := hcell (k := 0) (v := (.int .i64 R.n)) h10 rfl
          have d10_1 := hcell (k := 1) (v := (.int .i64 R.d)) h10 rfl
          have d11_0 := hcell (k := 0) (v := (.int .i64 S.n)) h11 rfl
          have d11_1 := hcell (k := 1) (v := (.int .i64 S.d)) h11 rfl
          have hs5 := hblt h8
          have hs5' := hblt h11
          have hdr : Below W5.heap.size W5 W5.drew := ⟨rfl, rfl, rfl, Nat.le_refl _, fun _ _ => rfl⟩
          have S0 : W5.drew.cell? ⟨w1.heap.size, 0, none⟩ = some (.int .i64 R.n) ∧ W5.drew.cell? ⟨w1.heap.size, 1, none⟩ = some (.int .i64 R.d) ∧ W5.drew.cell? ⟨w1.heap.size + 1, 0, none⟩ = some (.int .i64 S.n) ∧ W5.drew.cell? ⟨w1.heap.size + 1, 1, none⟩ = some (.int .i64 S.d) := ⟨d10_0, d10_1, d11_0, d11_1⟩
          go_region_held3 (fun WW => WW.cell? ⟨w1.heap.size, 0, none⟩ = some (.int .i64 R.n) ∧ WW.cell? ⟨w1.heap.size, 1, none⟩ = some (.int .i64 R.d) ∧ WW.cell? ⟨w1.heap.size + 1, 0, none⟩ = some (.int .i64 S.n) ∧ WW.cell? ⟨w1.heap.size + 1, 1, none⟩ = some (.int .i64 S.d))
            (first
              | with_reducible exact S0
              | with_reducible exact S1
              | with_reducible exact SA
              | fail)
            (first
              | (go_at_call 57; refine (CF.out _).mono ?_; rintro e wz ⟨rfl, hbz⟩; have z8 := hkeep (hdr.trans hbz) h8; have z10 := hkeep (hdr.trans hbz) h10; have z11 := hkeep (hdr.trans hbz) h11; have hBz := hB.trans ((hdr.trans hbz).mono hB.size); have S1 : wz.cell? ⟨w1.heap.size, 0, none⟩ = some (.int .i64 R.n) ∧ wz.cell? ⟨w1.heap.size, 1, none⟩ = some (.int .i64 R.d) ∧ wz.cell? ⟨w1.heap.size + 1, 0, none⟩ = some (.int .i64 S.n) ∧ wz.cell? ⟨w1.heap.size + 1, 1, none⟩ = some (.int .i64 S.d) := ⟨hcell z10 rfl, hcell z10 rfl, hcell z11 rfl, hcell z11 rfl⟩; have y0 := hcell (k := 0) (v := .int .i64 0) z8 rfl; have g0 := hfroz (k := 0) z8; have y1 := hcell (k := 1) (v := .int .i64 0) z8 rfl; have g1 := hfroz (k := 1) z8; have y2 := hcell (k := 2) (v := .int .i64 0) z8 rfl; have g2 := hfroz (k := 2) z8; have y3 := hcell (k := 3) (v := .int .i64 0) z8 rfl; have g3 := hfroz (k := 3) z8; have y4 := hcell (k := 4) (v := .int .i64 0) z8 rfl; have g4 := hfroz (k := 4) z8; have y5 := hcell (k := 5) (v := .int .i64 0) z8 rfl; have g5 := hfroz (k := 5) z8; have A8 := box6_set z8 (.int .i64 x) (.int .i64 z) (.int .i64 R.n) (.int .i64 R.d) (.int .i64 S.n) (.int .i64 S.d); have A10 := box6_far z10 (show _ ≠ w.heap.size + 1 + 1 by omega) (.int .i64 x) (.int .i64 z) (.int .i64 R.n) (.int .i64 R.d) (.int .i64 S.n) (.int .i64 S.d); have A11 := box6_far z11 (show _ ≠ w.heap.size + 1 + 1 by omega) (.int .i64 x) (.int .i64 z) (.int .i64 R.n) (.int .i64 R.d) (.int .i64 S.n) (.int .i64 S.d); have SA : ((((((wz.setCell ⟨w.heap.size + 1 + 1, 0, none⟩ (.int .i64 x)).setCell ⟨w.heap.size + 1 + 1, 1, none⟩ (.int .i64 z)).setCell ⟨w.heap.size + 1 + 1, 2, none⟩ (.int .i64 R.n)).setCell ⟨w.heap.size + 1 + 1, 3, none⟩ (.int .i64 R.d)).setCell ⟨w.heap.size + 1 + 1, 4, none⟩ (.int .i64 S.n)).setCell ⟨w.heap.size + 1 + 1, 5, none⟩ (.int .i64 S.d)).cell? ⟨w1.heap.size, 0, none⟩ = some (.int .i64 R.n) ∧ ((((((wz.setCell ⟨w.heap.size + 1 + 1, 0, none⟩ (.int .i64 x)).setCell ⟨w.heap.size + 1 + 1, 1, none⟩ (.int .i64 z)).setCell ⟨w.heap.size + 1 + 1, 2, none⟩ (.int .i64 R.n)).setCell ⟨w.heap.size + 1 + 1, 3, none⟩ (.int .i64 R.d)).setCell ⟨w.heap.size + 1 + 1, 4, none⟩ (.int .i64 S.n)).setCell ⟨w.heap.size + 1 + 1, 5, none⟩ (.int .i64 S.d)).cell? ⟨w1.heap.size, 1, none⟩ = some (.int .i64 R.d) ∧ ((((((wz.setCell ⟨w.heap.size + 1 + 1, 0, none⟩ (.int .i64 x)).setCell ⟨w.heap.size + 1 + 1, 1, none⟩ (.int .i64 z)).setCell ⟨w.heap.size + 1 + 1, 2, none⟩ (.int .i64 R.n)).setCell ⟨w.heap.size + 1 + 1, 3, none⟩ (.int .i64 R.d)).setCell ⟨w.heap.size + 1 + 1, 4, none⟩ (.int .i64 S.n)).setCell ⟨w.heap.size + 1 + 1, 5, none⟩ (.int .i64 S.d)).cell? ⟨w1.heap.size + 1, 0, none⟩ = some (.int .i64 S.n) ∧ ((((((wz.setCell ⟨w.heap.size + 1 + 1, 0, none⟩ (.int .i64 x)).setCell ⟨w.heap.size + 1 + 1, 1, none⟩ (.int .i64 z)).setCell ⟨w.heap.size + 1 + 1, 2, none⟩ (.int .i64 R.n)).setCell ⟨w.heap.size + 1 + 1, 3, none⟩ (.int .i64 R.d)).setCell ⟨w.heap.size + 1 + 1, 4, none⟩ (.int .i64 S.n)).setCell ⟨w.heap.size + 1 + 1, 5, none⟩ (.int .i64 S.d)).cell? ⟨w1.heap.size + 1, 1, none⟩ = some (.int .i64 S.d) := ⟨hcell A10 rfl, hcell A10 rfl, hcell A11 rfl, hcell A11 rfl⟩)
              | fail)
          rename_i hH
          clear hH
          have hBA := hBz.grown (box6_grown (b := w.heap.size + 1 + 1) (.int .i64 x) (.int .i64 z) (.int .i64 R.n) (.int .i64 R.d) (.int .i64 S.n) (.int .i64 S.d)) hBz.size (fun j hj => by cases hj; omega)
          go_wp2
          refine bodyPost_ret (results_ct1 rfl _ _ (w.heap.size + 1 + 1) 43 #[.int .i64 x, .int .i64 z, .int .i64 R.n, .int .i64 R.d, .int .i64 S.n, .int .i64 S.d] (0, 0) _ rfl (A8) Try.underlying43 rfl (by kernel_rfl)) rfl ⟨?_, hBA⟩
          exact ret_meet (c := ⟨x, z, R, S⟩) (by rw [HM.out]; rfl)
        | false =>
          go_wp2_with fail
          clear d11_0 f11_0 d11_1 f11_1 d14_0 f14_0 d14_1 f14_1 d10_0 f10_0 d10_1 f10_1
          have h4' := box2_far h4 (show _ ≠ w1.heap.size + 1 by omega) (.int .i64 S.n) (.int .i64 S.d)
          have h5' := box2_far h5 (show _ ≠ w1.heap.size + 1 by omega) (.int .i64 S.n) (.int .i64 S.d)
          have h8' := box2_far h8 (show _ ≠ w1.heap.size + 1 by omega) (.int .i64 S.n) (.int .i64 S.d)
          have h10' := box2_far h10 (show _ ≠ w1.heap.size + 1 by omega) (.int .i64 S.n) (.int .i64 S.d)
          have h11' := box2_set h11 (.int .i64 S.n) (.int .i64 S.d)
          have h13' := box2_far h13 (show _ ≠ w1.heap.size + 1 by omega) (.int .i64 S.n) (.int .i64 S.d)
          have h14' := box2_far h14 (show _ ≠ w1.heap.size + 1 by omega) (.int .i64 S.n) (.int .i64 S.d)
          have hB' := hB.grown (box2_grown (b := w1.heap.size + 1) (.int .i64 S.n) (.int .i64 S.d)) hB.size (fun j hj => by cases hj; omega)
          clear hB
          have hB := hB'
          clear hB'
          clear h4
          have h4 := h4'
          clear h4'
          clear h5
          have h5 := h5'
          clear h5'
          clear h8
          have h8 := h8'
          clear h8'
          clear h10
          have h10 := h10'
          clear h10'
          clear h11
          have h11 := h11'
          clear h11'
          clear h13
          have h13 := h13'
          clear h13'
          clear h14
          have h14 := h14'
          clear h14'
          clear h4
          clear h5
          clear h13
          clear h14
          obtain ⟨W5, hW5⟩ : ∃ W5, W5 = ((w4.setCell ⟨w1.heap.size + 1, 0, none⟩ (.int .i64 S.n)).setCell ⟨w1.heap.size + 1, 1, none⟩ (.int .i64 S.d)) := ⟨_, rfl⟩
          rw [← hW5] at hB h8 h10 h11 ⊢
          clear hW5
          have d10_0 := hcell (k := 0) (v := (.int .i64 R.n)) h10 rfl
          have f10_0 := hfroz (k := 0) h10
          have d10_1 := hcell (k := 1) (v := (.int .i64 R.d)) h10 rfl
          have f10_1 := hfroz (k := 1) h10
          have d11_0 := hcell (k := 0) (v := (.int .i64 S.n)) h11 rfl
          have f11_0 := hfroz (k := 0) h11
          have d11_1 := hcell (k := 1) (v := (.int .i64 S.d)) h11 rfl
          have f11_1 := hfroz (k := 1) h11
          have d8_0 := hcell (k := 0) (v := (.int .i64 0)) h8 rfl
          have f8_0 := hfroz (k := 0) h8
          have d8_1 := hcell (k := 1) (v := (.int .i64 0)) h8 rfl
          have f8_1 := hfroz (k := 1) h8
          have d8_2 := hcell (k := 2) (v := (.int .i64 0)) h8 rfl
          have f8_2 := hfroz (k := 2) h8
          have d8_3 := hcell (k := 3) (v := (.int .i64 0)) h8 rfl
          have f8_3 := hfroz (k := 3) h8
          have d8_4 := hcell (k := 4) (v := (.int .i64 0)) h8 rfl
          have f8_4 := hfroz (k := 4) h8
          have d8_5 := hcell (k := 5) (v := (.int .i64 0)) h8 rfl
          have f8_5 := hfroz (k := 5) h8
          have hs5 := hblt h8
          have hs5' := hblt h11
          go_region
          all_goals
            have A8 := box6_set h8 (.int .i64 x) (.int .i64 z) (.int .i64 R.n) (.int .i64 R.d) (.int .i64 S.n) (.int .i64 S.d)
            have hBA := hB.grown (box6_grown (b := w.heap.size + 1 + 1) (.int .i64 x) (.int .i64 z) (.int .i64 R.n) (.int .i64 R.d) (.int .i64 S.n) (.int .i64 S.d)) hB.size (fun j hj => by cases hj; omega)
            go_wp2
            refine bodyPost_ret (results_ct1 rfl _ _ (w.heap.size + 1 + 1) 43 #[.int .i64 x, .int .i64 z, .int .i64 R.n, .int .i64 R.d, .int .i64 S.n, .int .i64 S.d] (0, 0) _ rfl (dr_heap A8) Try.underlying43 rfl (by kernel_rfl)) rfl ⟨?_, hBA.drew⟩
            exact ret_meet (c := ⟨x, z, R, S⟩) (by rw [HM.out]; rfl)
      | false =>
        go_wp2_with fail
        clear d11_0 f11_0 d11_1 f11_1 d14_0 f14_0 d14_1 f14_1 d10_0 f10_0 d10_1 f10_1
        have h4' := box2_far h4 (show _ ≠ w1.heap.size + 1 by omega) (.int .i64 S.n) (.int .i64 S.d)
        have h5' := box2_far h5 (show _ ≠ w1.heap.size + 1 by omega) (.int .i64 S.n) (.int .i64 S.d)
        have h8' := box2_far h8 (show _ ≠ w1.heap.size + 1 by omega) (.int .i64 S.n) (.int .i64 S.d)
        have h10' := box2_far h10 (show _ ≠ w1.heap.size + 1 by omega) (.int .i64 S.n) (.int .i64 S.d)
        have h11' := box2_set h11 (.int .i64 S.n) (.int .i64 S.d)
        have h13' := box2_far h13 (show _ ≠ w1.heap.size + 1 by omega) (.int .i64 S.n) (.int .i64 S.d)
        have h14' := box2_far h14 (show _ ≠ w1.heap.size + 1 by omega) (.int .i64 S.n) (.int .i64 S.d)
        have hB' := hB.grown (box2_grown (b := w1.heap.size + 1) (.int .i64 S.n) (.int .i64 S.d)) hB.size (fun j hj => by cases hj; omega)
        clear hB
        have hB := hB'
        clear hB'
        clear h4
        have h4 := h4'
        clear h4'
        clear h5
        have h5 := h5'
        clear h5'
        clear h8
        have h8 := h8'
        clear h8'
        clear h10
        have h10 := h10'
        clear h10'
        clear h11
        have h11 := h11'
        clear h11'
        clear h13
        have h13 := h13'
        clear h13'
        clear h14
        have h14 := h14'
        clear h14'
        clear h4
        clear h5
        clear h13
        clear h14
        obtain ⟨W5, hW5⟩ : ∃ W5, W5 = ((w4.setCell ⟨w1.heap.size + 1, 0, none⟩ (.int .i64 S.n)).setCell ⟨w1.heap.size + 1, 1, none⟩ (.int .i64 S.d)) := ⟨_, rfl⟩
        rw [← hW5] at hB h8 h10 h11 ⊢
        clear hW5
        have d10_0 := hcell (k := 0) (v := (.int .i64 R.n)) h10 rfl
        have f10_0 := hfroz (k := 0) h10
        have d10_1 := hcell (k := 1) (v := (.int .i64 R.d)) h10 rfl
        have f10_1 := hfroz (k := 1) h10
        have d11_0 := hcell (k := 0) (v := (.int .i64 S.n)) h11 rfl
        have f11_0 := hfroz (k := 0) h11
        have d11_1 := hcell (k := 1) (v := (.int .i64 S.d)) h11 rfl
        have f11_1 := hfroz (k := 1) h11
        have d8_0 := hcell (k := 0) (v := (.int .i64 0)) h8 rfl
        have f8_0 := hfroz (k := 0) h8
        have d8_1 := hcell (k := 1) (v := (.int .i64 0)) h8 rfl
        have f8_1 := hfroz (k := 1) h8
        have d8_2 := hcell (k := 2) (v := (.int .i64 0)) h8 rfl
        have f8_2 := hfroz (k := 2) h8
        have d8_3 := hcell (k := 3) (v := (.int .i64 0)) h8 rfl
        have f8_3 := hfroz (k := 3) h8
        have d8_4 := hcell (k := 4) (v := (.int .i64 0)) h8 rfl
        have f8_4 := hfroz (k := 4) h8
        have d8_5 := hcell (k := 5) (v := (.int .i64 0)) h8 rfl
        have f8_5 := hfroz (k := 5) h8
        have hs5 := hblt h8
        have hs5' := hblt h11
        go_region
        all_goals
          have A8 := box6_set h8 (.int .i64 x) (.int .i64 z) (.int .i64 R.n) (.int .i64 R.d) (.int .i64 S.n) (.int .i64 S.d)
          have hBA := hB.grown (box6_grown (b := w.heap.size + 1 + 1) (.int .i64 x) (.int .i64 z) (.int .i64 R.n) (.int .i64 R.d) (.int .i64 S.n) (.int .i64 S.d)) hB.size (fun j hj => by cases hj; omega)
          go_wp2
          refine bodyPost_ret (results_ct1 rfl _ _ (w.heap.size + 1 + 1) 43 #[.int .i64 x, .int .i64 z, .int .i64 R.n, .int .i64 R.d, .int .i64 S.n, .int .i64 S.d] (0, 0) _ rfl (dr_heap A8) Try.underlying43 rfl (by kernel_rfl)) rfl ⟨?_, hBA.drew⟩
          exact ret_meet (c := ⟨x, z, R, S⟩) (by rw [HM.out]; rfl)
    · rw [if_neg h2] at HM
      have CF := Lib.hid (fun W => compare_any R Q W sR.big sQ.big)
      have d11_0 := hcell (k := 0) (v := (.int .i64 Q.n)) h11 rfl
      have f11_0 := hfroz (k := 0) h11
      have d11_1 := hcell (k := 1) (v := (.int .i64 Q.d)) h11 rfl
      have f11_1 := hfroz (k := 1) h11
      have d14_0 := hcell (k := 0) (v := (.int .i64 S.n)) h14 rfl
      have f14_0 := hfroz (k := 0) h14
      have d14_1 := hcell (k := 1) (v := (.int .i64 S.d)) h14 rfl
      have f14_1 := hfroz (k := 1) h14
      have d10_0 := hcell (k := 0) (v := (.int .i64 R.n)) h10 rfl
      have f10_0 := hfroz (k := 0) h10
      have d10_1 := hcell (k := 1) (v := (.int .i64 R.d)) h10 rfl
      have f10_1 := hfroz (k := 1) h10
      cases one with
      | true =>
        cases two with
        | true =>
          go_wp2_with fail
          clear d11_0 f11_0 d11_1 f11_1 d14_0 f14_0 d14_1 f14_1 d10_0 f10_0 d10_1 f10_1
          clear h4
          clear h5
          clear h13
          clear h14
          obtain ⟨W5, hW5⟩ : ∃ W5, W5 = w4 := ⟨_, rfl⟩
          rw [← hW5] at hB h8 h10 h11 ⊢
          clear hW5
          have d10_0 := hcell (k := 0) (v := (.int .i64 R.n)) h10 rfl
          have d10_1 := hcell (k := 1) (v := (.int .i64 R.d)) h10 rfl
          have d11_0 := hcell (k := 0) (v := (.int .i64 Q.n)) h11 rfl
          have d11_1 := hcell (k := 1) (v := (.int .i64 Q.d)) h11 rfl
          have hs5 := hblt h8
          have hs5' := hblt h11
          have hdr : Below W5.heap.size W5 W5.drew := ⟨rfl, rfl, rfl, Nat.le_refl _, fun _ _ => rfl⟩
          have S0 : W5.drew.cell? ⟨w1.heap.size, 0, none⟩ = some (.int .i64 R.n) ∧ W5.drew.cell? ⟨w1.heap.size, 1, none⟩ = some (.int .i64 R.d) ∧ W5.drew.cell? ⟨w1.heap.size + 1, 0, none⟩ = some (.int .i64 Q.n) ∧ W5.drew.cell? ⟨w1.heap.size + 1, 1, none⟩ = some (.int .i64 Q.d) := ⟨d10_0, d10_1, d11_0, d11_1⟩
          go_region_held3 (fun WW => WW.cell? ⟨w1.heap.size, 0, none⟩ = some (.int .i64 R.n) ∧ WW.cell? ⟨w1.heap.size, 1, none⟩ = some (.int .i64 R.d) ∧ WW.cell? ⟨w1.heap.size + 1, 0, none⟩ = some (.int .i64 Q.n) ∧ WW.cell? ⟨w1.heap.size + 1, 1, none⟩ = some (.int .i64 Q.d))
            (first
              | with_reducible exact S0
              | with_reducible exact S1
              | with_reducible exact SA
              | fail)
            (first
              | (go_at_call 57; refine (CF.out _).mono ?_; rintro e wz ⟨rfl, hbz⟩; have z8 := hkeep (hdr.trans hbz) h8; have z10 := hkeep (hdr.trans hbz) h10; have z11 := hkeep (hdr.trans hbz) h11; have hBz := hB.trans ((hdr.trans hbz).mono hB.size); have S1 : wz.cell? ⟨w1.heap.size, 0, none⟩ = some (.int .i64 R.n) ∧ wz.cell? ⟨w1.heap.size, 1, none⟩ = some (.int .i64 R.d) ∧ wz.cell? ⟨w1.heap.size + 1, 0, none⟩ = some (.int .i64 Q.n) ∧ wz.cell? ⟨w1.heap.size + 1, 1, none⟩ = some (.int .i64 Q.d) := ⟨hcell z10 rfl, hcell z10 rfl, hcell z11 rfl, hcell z11 rfl⟩; have y0 := hcell (k := 0) (v := .int .i64 0) z8 rfl; have g0 := hfroz (k := 0) z8; have y1 := hcell (k := 1) (v := .int .i64 0) z8 rfl; have g1 := hfroz (k := 1) z8; have y2 := hcell (k := 2) (v := .int .i64 0) z8 rfl; have g2 := hfroz (k := 2) z8; have y3 := hcell (k := 3) (v := .int .i64 0) z8 rfl; have g3 := hfroz (k := 3) z8; have y4 := hcell (k := 4) (v := .int .i64 0) z8 rfl; have g4 := hfroz (k := 4) z8; have y5 := hcell (k := 5) (v := .int .i64 0) z8 rfl; have g5 := hfroz (k := 5) z8; have A8 := box6_set z8 (.int .i64 x) (.int .i64 z) (.int .i64 R.n) (.int .i64 R.d) (.int .i64 Q.n) (.int .i64 Q.d); have A10 := box6_far z10 (show _ ≠ w.heap.size + 1 + 1 by omega) (.int .i64 x) (.int .i64 z) (.int .i64 R.n) (.int .i64 R.d) (.int .i64 Q.n) (.int .i64 Q.d); have A11 := box6_far z11 (show _ ≠ w.heap.size + 1 + 1 by omega) (.int .i64 x) (.int .i64 z) (.int .i64 R.n) (.int .i64 R.d) (.int .i64 Q.n) (.int .i64 Q.d); have SA : ((((((wz.setCell ⟨w.heap.size + 1 + 1, 0, none⟩ (.int .i64 x)).setCell ⟨w.heap.size + 1 + 1, 1, none⟩ (.int .i64 z)).setCell ⟨w.heap.size + 1 + 1, 2, none⟩ (.int .i64 R.n)).setCell ⟨w.heap.size + 1 + 1, 3, none⟩ (.int .i64 R.d)).setCell ⟨w.heap.size + 1 + 1, 4, none⟩ (.int .i64 Q.n)).setCell ⟨w.heap.size + 1 + 1, 5, none⟩ (.int .i64 Q.d)).cell? ⟨w1.heap.size, 0, none⟩ = some (.int .i64 R.n) ∧ ((((((wz.setCell ⟨w.heap.size + 1 + 1, 0, none⟩ (.int .i64 x)).setCell ⟨w.heap.size + 1 + 1, 1, none⟩ (.int .i64 z)).setCell ⟨w.heap.size + 1 + 1, 2, none⟩ (.int .i64 R.n)).setCell ⟨w.heap.size + 1 + 1, 3, none⟩ (.int .i64 R.d)).setCell ⟨w.heap.size + 1 + 1, 4, none⟩ (.int .i64 Q.n)).setCell ⟨w.heap.size + 1 + 1, 5, none⟩ (.int .i64 Q.d)).cell? ⟨w1.heap.size, 1, none⟩ = some (.int .i64 R.d) ∧ ((((((wz.setCell ⟨w.heap.size + 1 + 1, 0, none⟩ (.int .i64 x)).setCell ⟨w.heap.size + 1 + 1, 1, none⟩ (.int .i64 z)).setCell ⟨w.heap.size + 1 + 1, 2, none⟩ (.int .i64 R.n)).setCell ⟨w.heap.size + 1 + 1, 3, none⟩ (.int .i64 R.d)).setCell ⟨w.heap.size + 1 + 1, 4, none⟩ (.int .i64 Q.n)).setCell ⟨w.heap.size + 1 + 1, 5, none⟩ (.int .i64 Q.d)).cell? ⟨w1.heap.size + 1, 0, none⟩ = some (.int .i64 Q.n) ∧ ((((((wz.setCell ⟨w.heap.size + 1 + 1, 0, none⟩ (.int .i64 x)).setCell ⟨w.heap.size + 1 + 1, 1, none⟩ (.int .i64 z)).setCell ⟨w.heap.size + 1 + 1, 2, none⟩ (.int .i64 R.n)).setCell ⟨w.heap.size + 1 + 1, 3, none⟩ (.int .i64 R.d)).setCell ⟨w.heap.size + 1 + 1, 4, none⟩ (.int .i64 Q.n)).setCell ⟨w.heap.size + 1 + 1, 5, none⟩ (.int .i64 Q.d)).cell? ⟨w1.heap.size + 1, 1, none⟩ = some (.int .i64 Q.d) := ⟨hcell A10 rfl, hcell A10 rfl, hcell A11 rfl, hcell A11 rfl⟩)
              | fail)
          rename_i hH
          clear hH
          have hBA := hBz.grown (box6_grown (b := w.heap.size + 1 + 1) (.int .i64 x) (.int .i64 z) (.int .i64 R.n) (.int .i64 R.d) (.int .i64 Q.n) (.int .i64 Q.d)) hBz.size (fun j hj => by cases hj; omega)
          go_wp2
          refine bodyPost_ret (results_ct1 rfl _ _ (w.heap.size + 1 + 1) 43 #[.int .i64 x, .int .i64 z, .int .i64 R.n, .int .i64 R.d, .int .i64 Q.n, .int .i64 Q.d] (0, 0) _ rfl (A8) Try.underlying43 rfl (by kernel_rfl)) rfl ⟨?_, hBA⟩
          exact ret_meet (c := ⟨x, z, R, Q⟩) (by rw [HM.out]; rfl)
        | false =>
          go_wp2_with fail
          clear d11_0 f11_0 d11_1 f11_1 d14_0 f14_0 d14_1 f14_1 d10_0 f10_0 d10_1 f10_1
          clear h4
          clear h5
          clear h13
          clear h14
          obtain ⟨W5, hW5⟩ : ∃ W5, W5 = w4 := ⟨_, rfl⟩
          rw [← hW5] at hB h8 h10 h11 ⊢
          clear hW5
          have d10_0 := hcell (k := 0) (v := (.int .i64 R.n)) h10 rfl
          have f10_0 := hfroz (k := 0) h10
          have d10_1 := hcell (k := 1) (v := (.int .i64 R.d)) h10 rfl
          have f10_1 := hfroz (k := 1) h10
          have d11_0 := hcell (k := 0) (v := (.int .i64 Q.n)) h11 rfl
          have f11_0 := hfroz (k := 0) h11
          have d11_1 := hcell (k := 1) (v := (.int .i64 Q.d)) h11 rfl
          have f11_1 := hfroz (k := 1) h11
          have d8_0 := hcell (k := 0) (v := (.int .i64 0)) h8 rfl
          have f8_0 := hfroz (k := 0) h8
          have d8_1 := hcell (k := 1) (v := (.int .i64 0)) h8 rfl
          have f8_1 := hfroz (k := 1) h8
          have d8_2 := hcell (k := 2) (v := (.int .i64 0)) h8 rfl
          have f8_2 := hfroz (k := 2) h8
          have d8_3 := hcell (k := 3) (v := (.int .i64 0)) h8 rfl
          have f8_3 := hfroz (k := 3) h8
          have d8_4 := hcell (k := 4) (v := (.int .i64 0)) h8 rfl
          have f8_4 := hfroz (k := 4) h8
          have d8_5 := hcell (k := 5) (v := (.int .i64 0)) h8 rfl
          have f8_5 := hfroz (k := 5) h8
          have hs5 := hblt h8
          have hs5' := hblt h11
          go_region
          all_goals
            have A8 := box6_set h8 (.int .i64 x) (.int .i64 z) (.int .i64 R.n) (.int .i64 R.d) (.int .i64 Q.n) (.int .i64 Q.d)
            have hBA := hB.grown (box6_grown (b := w.heap.size + 1 + 1) (.int .i64 x) (.int .i64 z) (.int .i64 R.n) (.int .i64 R.d) (.int .i64 Q.n) (.int .i64 Q.d)) hB.size (fun j hj => by cases hj; omega)
            go_wp2
            refine bodyPost_ret (results_ct1 rfl _ _ (w.heap.size + 1 + 1) 43 #[.int .i64 x, .int .i64 z, .int .i64 R.n, .int .i64 R.d, .int .i64 Q.n, .int .i64 Q.d] (0, 0) _ rfl (dr_heap A8) Try.underlying43 rfl (by kernel_rfl)) rfl ⟨?_, hBA.drew⟩
            exact ret_meet (c := ⟨x, z, R, Q⟩) (by rw [HM.out]; rfl)
      | false =>
        go_wp2_with fail
        clear d11_0 f11_0 d11_1 f11_1 d14_0 f14_0 d14_1 f14_1 d10_0 f10_0 d10_1 f10_1
        clear h4
        clear h5
        clear h13
        clear h14
        obtain ⟨W5, hW5⟩ : ∃ W5, W5 = w4 := ⟨_, rfl⟩
        rw [← hW5] at hB h8 h10 h11 ⊢
        clear hW5
        have d10_0 := hcell (k := 0) (v := (.int .i64 R.n)) h10 rfl
        have f10_0 := hfroz (k := 0) h10
        have d10_1 := hcell (k := 1) (v := (.int .i64 R.d)) h10 rfl
        have f10_1 := hfroz (k := 1) h10
        have d11_0 := hcell (k := 0) (v := (.int .i64 Q.n)) h11 rfl
        have f11_0 := hfroz (k := 0) h11
        have d11_1 := hcell (k := 1) (v := (.int .i64 Q.d)) h11 rfl
        have f11_1 := hfroz (k := 1) h11
        have d8_0 := hcell (k := 0) (v := (.int .i64 0)) h8 rfl
        have f8_0 := hfroz (k := 0) h8
        have d8_1 := hcell (k := 1) (v := (.int .i64 0)) h8 rfl
        have f8_1 := hfroz (k := 1) h8
        have d8_2 := hcell (k := 2) (v := (.int .i64 0)) h8 rfl
        have f8_2 := hfroz (k := 2) h8
        have d8_3 := hcell (k := 3) (v := (.int .i64 0)) h8 rfl
        have f8_3 := hfroz (k := 3) h8
        have d8_4 := hcell (k := 4) (v := (.int .i64 0)) h8 rfl
        have f8_4 := hfroz (k := 4) h8
        have d8_5 := hcell (k := 5) (v := (.int .i64 0)) h8 rfl
        have f8_5 := hfroz (k := 5) h8
        have hs5 := hblt h8
        have hs5' := hblt h11
        go_region
        all_goals
          have A8 := box6_set h8 (.int .i64 x) (.int .i64 z) (.int .i64 R.n) (.int .i64 R.d) (.int .i64 Q.n) (.int .i64 Q.d)
          have hBA := hB.grown (box6_grown (b := w.heap.size + 1 + 1) (.int .i64 x) (.int .i64 z) (.int .i64 R.n) (.int .i64 R.d) (.int .i64 Q.n) (.int .i64 Q.d)) hB.size (fun j hj => by cases hj; omega)
          go_wp2
          refine bodyPost_ret (results_ct1 rfl _ _ (w.heap.size + 1 + 1) 43 #[.int .i64 x, .int .i64 z, .int .i64 R.n, .int .i64 R.d, .int .i64 Q.n, .int .i64 Q.d] (0, 0) _ rfl (dr_heap A8) Try.underlying43 rfl (by kernel_rfl)) rfl ⟨?_, hBA.drew⟩
          exact ret_meet (c := ⟨x, z, R, Q⟩) (by rw [HM.out]; rfl)
  · rw [if_neg h1] at HM
    have d10_0 := hcell (k := 0) (v := (.int .i64 P.n)) h10 rfl
    have f10_0 := hfroz (k := 0) h10
    have d10_1 := hcell (k := 1) (v := (.int .i64 P.d)) h10 rfl
    have f10_1 := hfroz (k := 1) h10
    have d13_0 := hcell (k := 0) (v := (.int .i64 R.n)) h13 rfl
    have f13_0 := hfroz (k := 0) h13
    have d13_1 := hcell (k := 1) (v := (.int .i64 R.d)) h13 rfl
    have f13_1 := hfroz (k := 1) h13
    have d11_0 := hcell (k := 0) (v := (.int .i64 Q.n)) h11 rfl
    have f11_0 := hfroz (k := 0) h11
    have d11_1 := hcell (k := 1) (v := (.int .i64 Q.d)) h11 rfl
    have f11_1 := hfroz (k := 1) h11
    have d14_0 := hcell (k := 0) (v := (.int .i64 S.n)) h14 rfl
    have f14_0 := hfroz (k := 0) h14
    have d14_1 := hcell (k := 1) (v := (.int .i64 S.d)) h14 rfl
    have f14_1 := hfroz (k := 1) h14
    go_wp2_with fail
    clear d10_0 f10_0 d10_1 f10_1 d13_0 f13_0 d13_1 f13_1 d11_0 f11_0 d11_1 f11_1 d14_0 f14_0 d14_1 f14_1
    refine (CSQ.out _).mono ?_
    rintro e w4 ⟨rfl, hb4⟩
    have hB1 := hB.trans (hb4.mono hB.size)
    clear hB
    have hB := hB1
    clear hB1
    have h4' := hkeep hb4 h4
    have h5' := hkeep hb4 h5
    have h8' := hkeep hb4 h8
    have h10' := hkeep hb4 h10
    have h11' := hkeep hb4 h11
    have h13' := hkeep hb4 h13
    have h14' := hkeep hb4 h14
    clear h4
    have h4 := h4'
    clear h4'
    clear h5
    have h5 := h5'
    clear h5'
    clear h8
    have h8 := h8'
    clear h8'
    clear h10
    have h10 := h10'
    clear h10'
    clear h11
    have h11 := h11'
    clear h11'
    clear h13
    have h13 := h13'
    clear h13'
    clear h14
    have h14 := h14'
    clear h14'
    clear hb4
    by_cases h2 : cmpR S Q < 0
    · rw [if_pos h2] at HM
      have CF := Lib.hid (fun W => compare_any P S W sP.big sS.big)
      have d11_0 := hcell (k := 0) (v := (.int .i64 Q.n)) h11 rfl
      have f11_0 := hfroz (k := 0) h11
      have d11_1 := hcell (k := 1) (v := (.int .i64 Q.d)) h11 rfl
      have f11_1 := hfroz (k := 1) h11
      have d14_0 := hcell (k := 0) (v := (.int .i64 S.n)) h14 rfl
      have f14_0 := hfroz (k := 0) h14
      have d14_1 := hcell (k := 1) (v := (.int .i64 S.d)) h14 rfl
      have f14_1 := hfroz (k := 1) h14
      have d10_0 := hcell (k := 0) (v := (.int .i64 P.n)) h10 rfl
      have f10_0 := hfroz (k := 0) h10
      have d10_1 := hcell (k := 1) (v := (.int .i64 P.d)) h10 rfl
      have f10_1 := hfroz (k := 1) h10
      cases one with
      | true =>
        cases two with
        | true =>
          go_wp2_with fail
          clear d11_0 f11_0 d11_1 f11_1 d14_0 f14_0 d14_1 f14_1 d10_0 f10_0 d10_1 f10_1
          have h4' := box2_far h4 (show _ ≠ w1.heap.size + 1 by omega) (.int .i64 S.n) (.int .i64 S.d)
          have h5' := box2_far h5 (show _ ≠ w1.heap.size + 1 by omega) (.int .i64 S.n) (.int .i64 S.d)
          have h8' := box2_far h8 (show _ ≠ w1.heap.size + 1 by omega) (.int .i64 S.n) (.int .i64 S.d)
          have h10' := box2_far h10 (show _ ≠ w1.heap.size + 1 by omega) (.int .i64 S.n) (.int .i64 S.d)
          have h11' := box2_set h11 (.int .i64 S.n) (.int .i64 S.d)
          have h13' := box2_far h13 (show _ ≠ w1.heap.size + 1 by omega) (.int .i64 S.n) (.int .i64 S.d)
          have h14' := box2_far h14 (show _ ≠ w1.heap.size + 1 by omega) (.int .i64 S.n) (.int .i64 S.d)
          have hB' := hB.grown (box2_grown (b := w1.heap.size + 1) (.int .i64 S.n) (.int .i64 S.d)) hB.size (fun j hj => by cases hj; omega)
          clear hB
          have hB := hB'
          clear hB'
          clear h4
          have h4 := h4'
          clear h4'
          clear h5
          have h5 := h5'
          clear h5'
          clear h8
          have h8 := h8'
          clear h8'
          clear h10
          have h10 := h10'
          clear h10'
          clear h11
          have h11 := h11'
          clear h11'
          clear h13
          have h13 := h13'
          clear h13'
          clear h14
          have h14 := h14'
          clear h14'
          clear h4
          clear h5
          clear h13
          clear h14
          obtain ⟨W5, hW5⟩ : ∃ W5, W5 = ((w4.setCell ⟨w1.heap.size + 1, 0, none⟩ (.int .i64 S.n)).setCell ⟨w1.heap.size + 1, 1, none⟩ (.int .i64 S.d)) := ⟨_, rfl⟩
          rw [← hW5] at hB h8 h10 h11 ⊢
          clear hW5
          have d10_0 := hcell (k := 0) (v := (.int .i64 P.n)) h10 rfl
          have d10_1 := hcell (k := 1) (v := (.int .i64 P.d)) h10 rfl
          have d11_0 := hcell (k := 0) (v := (.int .i64 S.n)) h11 rfl
          have d11_1 := hcell (k := 1) (v := (.int .i64 S.d)) h11 rfl
          have hs5 := hblt h8
          have hs5' := hblt h11
          have hdr : Below W5.heap.size W5 W5.drew := ⟨rfl, rfl, rfl, Nat.le_refl _, fun _ _ => rfl⟩
          have S0 : W5.drew.cell? ⟨w1.heap.size, 0, none⟩ = some (.int .i64 P.n) ∧ W5.drew.cell? ⟨w1.heap.size, 1, none⟩ = some (.int .i64 P.d) ∧ W5.drew.cell? ⟨w1.heap.size + 1, 0, none⟩ = some (.int .i64 S.n) ∧ W5.drew.cell? ⟨w1.heap.size + 1, 1, none⟩ = some (.int .i64 S.d) := ⟨d10_0, d10_1, d11_0, d11_1⟩
          go_region_held3 (fun WW => WW.cell? ⟨w1.heap.size, 0, none⟩ = some (.int .i64 P.n) ∧ WW.cell? ⟨w1.heap.size, 1, none⟩ = some (.int .i64 P.d) ∧ WW.cell? ⟨w1.heap.size + 1, 0, none⟩ = some (.int .i64 S.n) ∧ WW.cell? ⟨w1.heap.size + 1, 1, none⟩ = some (.int .i64 S.d))
            (first
              | with_reducible exact S0
              | with_reducible exact S1
              | with_reducible exact SA
              | fail)
            (first
              | (go_at_call 57; refine (CF.out _).mono ?_; rintro e wz ⟨rfl, hbz⟩; have z8 := hkeep (hdr.trans hbz) h8; have z10 := hkeep (hdr.trans hbz) h10; have z11 := hkeep (hdr.trans hbz) h11; have hBz := hB.trans ((hdr.trans hbz).mono hB.size); have S1 : wz.cell? ⟨w1.heap.size, 0, none⟩ = some (.int .i64 P.n) ∧ wz.cell? ⟨w1.heap.size, 1, none⟩ = some (.int .i64 P.d) ∧ wz.cell? ⟨w1.heap.size + 1, 0, none⟩ = some (.int .i64 S.n) ∧ wz.cell? ⟨w1.heap.size + 1, 1, none⟩ = some (.int .i64 S.d) := ⟨hcell z10 rfl, hcell z10 rfl, hcell z11 rfl, hcell z11 rfl⟩; have y0 := hcell (k := 0) (v := .int .i64 0) z8 rfl; have g0 := hfroz (k := 0) z8; have y1 := hcell (k := 1) (v := .int .i64 0) z8 rfl; have g1 := hfroz (k := 1) z8; have y2 := hcell (k := 2) (v := .int .i64 0) z8 rfl; have g2 := hfroz (k := 2) z8; have y3 := hcell (k := 3) (v := .int .i64 0) z8 rfl; have g3 := hfroz (k := 3) z8; have y4 := hcell (k := 4) (v := .int .i64 0) z8 rfl; have g4 := hfroz (k := 4) z8; have y5 := hcell (k := 5) (v := .int .i64 0) z8 rfl; have g5 := hfroz (k := 5) z8; have A8 := box6_set z8 (.int .i64 x) (.int .i64 z) (.int .i64 P.n) (.int .i64 P.d) (.int .i64 S.n) (.int .i64 S.d); have A10 := box6_far z10 (show _ ≠ w.heap.size + 1 + 1 by omega) (.int .i64 x) (.int .i64 z) (.int .i64 P.n) (.int .i64 P.d) (.int .i64 S.n) (.int .i64 S.d); have A11 := box6_far z11 (show _ ≠ w.heap.size + 1 + 1 by omega) (.int .i64 x) (.int .i64 z) (.int .i64 P.n) (.int .i64 P.d) (.int .i64 S.n) (.int .i64 S.d); have SA : ((((((wz.setCell ⟨w.heap.size + 1 + 1, 0, none⟩ (.int .i64 x)).setCell ⟨w.heap.size + 1 + 1, 1, none⟩ (.int .i64 z)).setCell ⟨w.heap.size + 1 + 1, 2, none⟩ (.int .i64 P.n)).setCell ⟨w.heap.size + 1 + 1, 3, none⟩ (.int .i64 P.d)).setCell ⟨w.heap.size + 1 + 1, 4, none⟩ (.int .i64 S.n)).setCell ⟨w.heap.size + 1 + 1, 5, none⟩ (.int .i64 S.d)).cell? ⟨w1.heap.size, 0, none⟩ = some (.int .i64 P.n) ∧ ((((((wz.setCell ⟨w.heap.size + 1 + 1, 0, none⟩ (.int .i64 x)).setCell ⟨w.heap.size + 1 + 1, 1, none⟩ (.int .i64 z)).setCell ⟨w.heap.size + 1 + 1, 2, none⟩ (.int .i64 P.n)).setCell ⟨w.heap.size + 1 + 1, 3, none⟩ (.int .i64 P.d)).setCell ⟨w.heap.size + 1 + 1, 4, none⟩ (.int .i64 S.n)).setCell ⟨w.heap.size + 1 + 1, 5, none⟩ (.int .i64 S.d)).cell? ⟨w1.heap.size, 1, none⟩ = some (.int .i64 P.d) ∧ ((((((wz.setCell ⟨w.heap.size + 1 + 1, 0, none⟩ (.int .i64 x)).setCell ⟨w.heap.size + 1 + 1, 1, none⟩ (.int .i64 z)).setCell ⟨w.heap.size + 1 + 1, 2, none⟩ (.int .i64 P.n)).setCell ⟨w.heap.size + 1 + 1, 3, none⟩ (.int .i64 P.d)).setCell ⟨w.heap.size + 1 + 1, 4, none⟩ (.int .i64 S.n)).setCell ⟨w.heap.size + 1 + 1, 5, none⟩ (.int .i64 S.d)).cell? ⟨w1.heap.size + 1, 0, none⟩ = some (.int .i64 S.n) ∧ ((((((wz.setCell ⟨w.heap.size + 1 + 1, 0, none⟩ (.int .i64 x)).setCell ⟨w.heap.size + 1 + 1, 1, none⟩ (.int .i64 z)).setCell ⟨w.heap.size + 1 + 1, 2, none⟩ (.int .i64 P.n)).setCell ⟨w.heap.size + 1 + 1, 3, none⟩ (.int .i64 P.d)).setCell ⟨w.heap.size + 1 + 1, 4, none⟩ (.int .i64 S.n)).setCell ⟨w.heap.size + 1 + 1, 5, none⟩ (.int .i64 S.d)).cell? ⟨w1.heap.size + 1, 1, none⟩ = some (.int .i64 S.d) := ⟨hcell A10 rfl, hcell A10 rfl, hcell A11 rfl, hcell A11 rfl⟩)
              | fail)
          rename_i hH
          clear hH
          have hBA := hBz.grown (box6_grown (b := w.heap.size + 1 + 1) (.int .i64 x) (.int .i64 z) (.int .i64 P.n) (.int .i64 P.d) (.int .i64 S.n) (.int .i64 S.d)) hBz.size (fun j hj => by cases hj; omega)
          go_wp2
          refine bodyPost_ret (results_ct1 rfl _ _ (w.heap.size + 1 + 1) 43 #[.int .i64 x, .int .i64 z, .int .i64 P.n, .int .i64 P.d, .int .i64 S.n, .int .i64 S.d] (0, 0) _ rfl (A8) Try.underlying43 rfl (by kernel_rfl)) rfl ⟨?_, hBA⟩
          exact ret_meet (c := ⟨x, z, P, S⟩) (by rw [HM.out]; rfl)
        | false =>
          go_wp2_with fail
          clear d11_0 f11_0 d11_1 f11_1 d14_0 f14_0 d14_1 f14_1 d10_0 f10_0 d10_1 f10_1
          have h4' := box2_far h4 (show _ ≠ w1.heap.size + 1 by omega) (.int .i64 S.n) (.int .i64 S.d)
          have h5' := box2_far h5 (show _ ≠ w1.heap.size + 1 by omega) (.int .i64 S.n) (.int .i64 S.d)
          have h8' := box2_far h8 (show _ ≠ w1.heap.size + 1 by omega) (.int .i64 S.n) (.int .i64 S.d)
          have h10' := box2_far h10 (show _ ≠ w1.heap.size + 1 by omega) (.int .i64 S.n) (.int .i64 S.d)
          have h11' := box2_set h11 (.int .i64 S.n) (.int .i64 S.d)
          have h13' := box2_far h13 (show _ ≠ w1.heap.size + 1 by omega) (.int .i64 S.n) (.int .i64 S.d)
          have h14' := box2_far h14 (show _ ≠ w1.heap.size + 1 by omega) (.int .i64 S.n) (.int .i64 S.d)
          have hB' := hB.grown (box2_grown (b := w1.heap.size + 1) (.int .i64 S.n) (.int .i64 S.d)) hB.size (fun j hj => by cases hj; omega)
          clear hB
          have hB := hB'
          clear hB'
          clear h4
          have h4 := h4'
          clear h4'
          clear h5
          have h5 := h5'
          clear h5'
          clear h8
          have h8 := h8'
          clear h8'
          clear h10
          have h10 := h10'
          clear h10'
          clear h11
          have h11 := h11'
          clear h11'
          clear h13
          have h13 := h13'
          clear h13'
          clear h14
          have h14 := h14'
          clear h14'
          clear h4
          clear h5
          clear h13
          clear h14
          obtain ⟨W5, hW5⟩ : ∃ W5, W5 = ((w4.setCell ⟨w1.heap.size + 1, 0, none⟩ (.int .i64 S.n)).setCell ⟨w1.heap.size + 1, 1, none⟩ (.int .i64 S.d)) := ⟨_, rfl⟩
          rw [← hW5] at hB h8 h10 h11 ⊢
          clear hW5
          have d10_0 := hcell (k := 0) (v := (.int .i64 P.n)) h10 rfl
          have f10_0 := hfroz (k := 0) h10
          have d10_1 := hcell (k := 1) (v := (.int .i64 P.d)) h10 rfl
          have f10_1 := hfroz (k := 1) h10
          have d11_0 := hcell (k := 0) (v := (.int .i64 S.n)) h11 rfl
          have f11_0 := hfroz (k := 0) h11
          have d11_1 := hcell (k := 1) (v := (.int .i64 S.d)) h11 rfl
          have f11_1 := hfroz (k := 1) h11
          have d8_0 := hcell (k := 0) (v := (.int .i64 0)) h8 rfl
          have f8_0 := hfroz (k := 0) h8
          have d8_1 := hcell (k := 1) (v := (.int .i64 0)) h8 rfl
          have f8_1 := hfroz (k := 1) h8
          have d8_2 := hcell (k := 2) (v := (.int .i64 0)) h8 rfl
          have f8_2 := hfroz (k := 2) h8
          have d8_3 := hcell (k := 3) (v := (.int .i64 0)) h8 rfl
          have f8_3 := hfroz (k := 3) h8
          have d8_4 := hcell (k := 4) (v := (.int .i64 0)) h8 rfl
          have f8_4 := hfroz (k := 4) h8
          have d8_5 := hcell (k := 5) (v := (.int .i64 0)) h8 rfl
          have f8_5 := hfroz (k := 5) h8
          have hs5 := hblt h8
          have hs5' := hblt h11
          go_region
          all_goals
            have A8 := box6_set h8 (.int .i64 x) (.int .i64 z) (.int .i64 P.n) (.int .i64 P.d) (.int .i64 S.n) (.int .i64 S.d)
            have hBA := hB.grown (box6_grown (b := w.heap.size + 1 + 1) (.int .i64 x) (.int .i64 z) (.int .i64 P.n) (.int .i64 P.d) (.int .i64 S.n) (.int .i64 S.d)) hB.size (fun j hj => by cases hj; omega)
            go_wp2
            refine bodyPost_ret (results_ct1 rfl _ _ (w.heap.size + 1 + 1) 43 #[.int .i64 x, .int .i64 z, .int .i64 P.n, .int .i64 P.d, .int .i64 S.n, .int .i64 S.d] (0, 0) _ rfl (dr_heap A8) Try.underlying43 rfl (by kernel_rfl)) rfl ⟨?_, hBA.drew⟩
            exact ret_meet (c := ⟨x, z, P, S⟩) (by rw [HM.out]; rfl)
      | false =>
        go_wp2_with fail
        clear d11_0 f11_0 d11_1 f11_1 d14_0 f14_0 d14_1 f14_1 d10_0 f10_0 d10_1 f10_1
        have h4' := box2_far h4 (show _ ≠ w1.heap.size + 1 by omega) (.int .i64 S.n) (.int .i64 S.d)
        have h5' := box2_far h5 (show _ ≠ w1.heap.size + 1 by omega) (.int .i64 S.n) (.int .i64 S.d)
        have h8' := box2_far h8 (show _ ≠ w1.heap.size + 1 by omega) (.int .i64 S.n) (.int .i64 S.d)
        have h10' := box2_far h10 (show _ ≠ w1.heap.size + 1 by omega) (.int .i64 S.n) (.int .i64 S.d)
        have h11' := box2_set h11 (.int .i64 S.n) (.int .i64 S.d)
        have h13' := box2_far h13 (show _ ≠ w1.heap.size + 1 by omega) (.int .i64 S.n) (.int .i64 S.d)
        have h14' := box2_far h14 (show _ ≠ w1.heap.size + 1 by omega) (.int .i64 S.n) (.int .i64 S.d)
        have hB' := hB.grown (box2_grown (b := w1.heap.size + 1) (.int .i64 S.n) (.int .i64 S.d)) hB.size (fun j hj => by cases hj; omega)
        clear hB
        have hB := hB'
        clear hB'
        clear h4
        have h4 := h4'
        clear h4'
        clear h5
        have h5 := h5'
        clear h5'
        clear h8
        have h8 := h8'
        clear h8'
        clear h10
        have h10 := h10'
        clear h10'
        clear h11
        have h11 := h11'
        clear h11'
        clear h13
        have h13 := h13'
        clear h13'
        clear h14
        have h14 := h14'
        clear h14'
        clear h4
        clear h5
        clear h13
        clear h14
        obtain ⟨W5, hW5⟩ : ∃ W5, W5 = ((w4.setCell ⟨w1.heap.size + 1, 0, none⟩ (.int .i64 S.n)).setCell ⟨w1.heap.size + 1, 1, none⟩ (.int .i64 S.d)) := ⟨_, rfl⟩
        rw [← hW5] at hB h8 h10 h11 ⊢
        clear hW5
        have d10_0 := hcell (k := 0) (v := (.int .i64 P.n)) h10 rfl
        have f10_0 := hfroz (k := 0) h10
        have d10_1 := hcell (k := 1) (v := (.int .i64 P.d)) h10 rfl
        have f10_1 := hfroz (k := 1) h10
        have d11_0 := hcell (k := 0) (v := (.int .i64 S.n)) h11 rfl
        have f11_0 := hfroz (k := 0) h11
        have d11_1 := hcell (k := 1) (v := (.int .i64 S.d)) h11 rfl
        have f11_1 := hfroz (k := 1) h11
        have d8_0 := hcell (k := 0) (v := (.int .i64 0)) h8 rfl
        have f8_0 := hfroz (k := 0) h8
        have d8_1 := hcell (k := 1) (v := (.int .i64 0)) h8 rfl
        have f8_1 := hfroz (k := 1) h8
        have d8_2 := hcell (k := 2) (v := (.int .i64 0)) h8 rfl
        have f8_2 := hfroz (k := 2) h8
        have d8_3 := hcell (k := 3) (v := (.int .i64 0)) h8 rfl
        have f8_3 := hfroz (k := 3) h8
        have d8_4 := hcell (k := 4) (v := (.int .i64 0)) h8 rfl
        have f8_4 := hfroz (k := 4) h8
        have d8_5 := hcell (k := 5) (v := (.int .i64 0)) h8 rfl
        have f8_5 := hfroz (k := 5) h8
        have hs5 := hblt h8
        have hs5' := hblt h11
        go_region
        all_goals
          have A8 := box6_set h8 (.int .i64 x) (.int .i64 z) (.int .i64 P.n) (.int .i64 P.d) (.int .i64 S.n) (.int .i64 S.d)
          have hBA := hB.grown (box6_grown (b := w.heap.size + 1 + 1) (.int .i64 x) (.int .i64 z) (.int .i64 P.n) (.int .i64 P.d) (.int .i64 S.n) (.int .i64 S.d)) hB.size (fun j hj => by cases hj; omega)
          go_wp2
          refine bodyPost_ret (results_ct1 rfl _ _ (w.heap.size + 1 + 1) 43 #[.int .i64 x, .int .i64 z, .int .i64 P.n, .int .i64 P.d, .int .i64 S.n, .int .i64 S.d] (0, 0) _ rfl (dr_heap A8) Try.underlying43 rfl (by kernel_rfl)) rfl ⟨?_, hBA.drew⟩
          exact ret_meet (c := ⟨x, z, P, S⟩) (by rw [HM.out]; rfl)
    · rw [if_neg h2] at HM
      have CF := Lib.hid (fun W => compare_any P Q W sP.big sQ.big)
      have d11_0 := hcell (k := 0) (v := (.int .i64 Q.n)) h11 rfl
      have f11_0 := hfroz (k := 0) h11
      have d11_1 := hcell (k := 1) (v := (.int .i64 Q.d)) h11 rfl
      have f11_1 := hfroz (k := 1) h11
      have d14_0 := hcell (k := 0) (v := (.int .i64 S.n)) h14 rfl
      have f14_0 := hfroz (k := 0) h14
      have d14_1 := hcell (k := 1) (v := (.int .i64 S.d)) h14 rfl
      have f14_1 := hfroz (k := 1) h14
      have d10_0 := hcell (k := 0) (v := (.int .i64 P.n)) h10 rfl
      have f10_0 := hfroz (k := 0) h10
      have d10_1 := hcell (k := 1) (v := (.int .i64 P.d)) h10 rfl
      have f10_1 := hfroz (k := 1) h10
      cases one with
      | true =>
        cases two with
        | true =>
          go_wp2_with fail
          clear d11_0 f11_0 d11_1 f11_1 d14_0 f14_0 d14_1 f14_1 d10_0 f10_0 d10_1 f10_1
          clear h4
          clear h5
          clear h13
          clear h14
          obtain ⟨W5, hW5⟩ : ∃ W5, W5 = w4 := ⟨_, rfl⟩
          rw [← hW5] at hB h8 h10 h11 ⊢
          clear hW5
          have d10_0 := hcell (k := 0) (v := (.int .i64 P.n)) h10 rfl
          have d10_1 := hcell (k := 1) (v := (.int .i64 P.d)) h10 rfl
          have d11_0 := hcell (k := 0) (v := (.int .i64 Q.n)) h11 rfl
          have d11_1 := hcell (k := 1) (v := (.int .i64 Q.d)) h11 rfl
          have hs5 := hblt h8
          have hs5' := hblt h11
          have hdr : Below W5.heap.size W5 W5.drew := ⟨rfl, rfl, rfl, Nat.le_refl _, fun _ _ => rfl⟩
          have S0 : W5.drew.cell? ⟨w1.heap.size, 0, none⟩ = some (.int .i64 P.n) ∧ W5.drew.cell? ⟨w1.heap.size, 1, none⟩ = some (.int .i64 P.d) ∧ W5.drew.cell? ⟨w1.heap.size + 1, 0, none⟩ = some (.int .i64 Q.n) ∧ W5.drew.cell? ⟨w1.heap.size + 1, 1, none⟩ = some (.int .i64 Q.d) := ⟨d10_0, d10_1, d11_0, d11_1⟩
          go_region_held3 (fun WW => WW.cell? ⟨w1.heap.size, 0, none⟩ = some (.int .i64 P.n) ∧ WW.cell? ⟨w1.heap.size, 1, none⟩ = some (.int .i64 P.d) ∧ WW.cell? ⟨w1.heap.size + 1, 0, none⟩ = some (.int .i64 Q.n) ∧ WW.cell? ⟨w1.heap.size + 1, 1, none⟩ = some (.int .i64 Q.d))
            (first
              | with_reducible exact S0
              | with_reducible exact S1
              | with_reducible exact SA
              | fail)
            (first
              | (go_at_call 57; refine (CF.out _).mono ?_; rintro e wz ⟨rfl, hbz⟩; have z8 := hkeep (hdr.trans hbz) h8; have z10 := hkeep (hdr.trans hbz) h10; have z11 := hkeep (hdr.trans hbz) h11; have hBz := hB.trans ((hdr.trans hbz).mono hB.size); have S1 : wz.cell? ⟨w1.heap.size, 0, none⟩ = some (.int .i64 P.n) ∧ wz.cell? ⟨w1.heap.size, 1, none⟩ = some (.int .i64 P.d) ∧ wz.cell? ⟨w1.heap.size + 1, 0, none⟩ = some (.int .i64 Q.n) ∧ wz.cell? ⟨w1.heap.size + 1, 1, none⟩ = some (.int .i64 Q.d) := ⟨hcell z10 rfl, hcell z10 rfl, hcell z11 rfl, hcell z11 rfl⟩; have y0 := hcell (k := 0) (v := .int .i64 0) z8 rfl; have g0 := hfroz (k := 0) z8; have y1 := hcell (k := 1) (v := .int .i64 0) z8 rfl; have g1 := hfroz (k := 1) z8; have y2 := hcell (k := 2) (v := .int .i64 0) z8 rfl; have g2 := hfroz (k := 2) z8; have y3 := hcell (k := 3) (v := .int .i64 0) z8 rfl; have g3 := hfroz (k := 3) z8; have y4 := hcell (k := 4) (v := .int .i64 0) z8 rfl; have g4 := hfroz (k := 4) z8; have y5 := hcell (k := 5) (v := .int .i64 0) z8 rfl; have g5 := hfroz (k := 5) z8; have A8 := box6_set z8 (.int .i64 x) (.int .i64 z) (.int .i64 P.n) (.int .i64 P.d) (.int .i64 Q.n) (.int .i64 Q.d); have A10 := box6_far z10 (show _ ≠ w.heap.size + 1 + 1 by omega) (.int .i64 x) (.int .i64 z) (.int .i64 P.n) (.int .i64 P.d) (.int .i64 Q.n) (.int .i64 Q.d); have A11 := box6_far z11 (show _ ≠ w.heap.size + 1 + 1 by omega) (.int .i64 x) (.int .i64 z) (.int .i64 P.n) (.int .i64 P.d) (.int .i64 Q.n) (.int .i64 Q.d); have SA : ((((((wz.setCell ⟨w.heap.size + 1 + 1, 0, none⟩ (.int .i64 x)).setCell ⟨w.heap.size + 1 + 1, 1, none⟩ (.int .i64 z)).setCell ⟨w.heap.size + 1 + 1, 2, none⟩ (.int .i64 P.n)).setCell ⟨w.heap.size + 1 + 1, 3, none⟩ (.int .i64 P.d)).setCell ⟨w.heap.size + 1 + 1, 4, none⟩ (.int .i64 Q.n)).setCell ⟨w.heap.size + 1 + 1, 5, none⟩ (.int .i64 Q.d)).cell? ⟨w1.heap.size, 0, none⟩ = some (.int .i64 P.n) ∧ ((((((wz.setCell ⟨w.heap.size + 1 + 1, 0, none⟩ (.int .i64 x)).setCell ⟨w.heap.size + 1 + 1, 1, none⟩ (.int .i64 z)).setCell ⟨w.heap.size + 1 + 1, 2, none⟩ (.int .i64 P.n)).setCell ⟨w.heap.size + 1 + 1, 3, none⟩ (.int .i64 P.d)).setCell ⟨w.heap.size + 1 + 1, 4, none⟩ (.int .i64 Q.n)).setCell ⟨w.heap.size + 1 + 1, 5, none⟩ (.int .i64 Q.d)).cell? ⟨w1.heap.size, 1, none⟩ = some (.int .i64 P.d) ∧ ((((((wz.setCell ⟨w.heap.size + 1 + 1, 0, none⟩ (.int .i64 x)).setCell ⟨w.heap.size + 1 + 1, 1, none⟩ (.int .i64 z)).setCell ⟨w.heap.size + 1 + 1, 2, none⟩ (.int .i64 P.n)).setCell ⟨w.heap.size + 1 + 1, 3, none⟩ (.int .i64 P.d)).setCell ⟨w.heap.size + 1 + 1, 4, none⟩ (.int .i64 Q.n)).setCell ⟨w.heap.size + 1 + 1, 5, none⟩ (.int .i64 Q.d)).cell? ⟨w1.heap.size + 1, 0, none⟩ = some (.int .i64 Q.n) ∧ ((((((wz.setCell ⟨w.heap.size + 1 + 1, 0, none⟩ (.int .i64 x)).setCell ⟨w.heap.size + 1 + 1, 1, none⟩ (.int .i64 z)).setCell ⟨w.heap.size + 1 + 1, 2, none⟩ (.int .i64 P.n)).setCell ⟨w.heap.size + 1 + 1, 3, none⟩ (.int .i64 P.d)).setCell ⟨w.heap.size + 1 + 1, 4, none⟩ (.int .i64 Q.n)).setCell ⟨w.heap.size + 1 + 1, 5, none⟩ (.int .i64 Q.d)).cell? ⟨w1.heap.size + 1, 1, none⟩ = some (.int .i64 Q.d) := ⟨hcell A10 rfl, hcell A10 rfl, hcell A11 rfl, hcell A11 rfl⟩)
              | fail)
          rename_i hH
          clear hH
          have hBA := hBz.grown (box6_grown (b := w.heap.size + 1 + 1) (.int .i64 x) (.int .i64 z) (.int .i64 P.n) (.int .i64 P.d) (.int .i64 Q.n) (.int .i64 Q.d)) hBz.size (fun j hj => by cases hj; omega)
          go_wp2
          refine bodyPost_ret (results_ct1 rfl _ _ (w.heap.size + 1 + 1) 43 #[.int .i64 x, .int .i64 z, .int .i64 P.n, .int .i64 P.d, .int .i64 Q.n, .int .i64 Q.d] (0, 0) _ rfl (A8) Try.underlying43 rfl (by kernel_rfl)) rfl ⟨?_, hBA⟩
          exact ret_meet (c := ⟨x, z, P, Q⟩) (by rw [HM.out]; rfl)
        | false =>
          go_wp2_with fail
          clear d11_0 f11_0 d11_1 f11_1 d14_0 f14_0 d14_1 f14_1 d10_0 f10_0 d10_1 f10_1
          clear h4
          clear h5
          clear h13
          clear h14
          obtain ⟨W5, hW5⟩ : ∃ W5, W5 = w4 := ⟨_, rfl⟩
          rw [← hW5] at hB h8 h10 h11 ⊢
          clear hW5
          have d10_0 := hcell (k := 0) (v := (.int .i64 P.n)) h10 rfl
          have f10_0 := hfroz (k := 0) h10
          have d10_1 := hcell (k := 1) (v := (.int .i64 P.d)) h10 rfl
          have f10_1 := hfroz (k := 1) h10
          have d11_0 := hcell (k := 0) (v := (.int .i64 Q.n)) h11 rfl
          have f11_0 := hfroz (k := 0) h11
          have d11_1 := hcell (k := 1) (v := (.int .i64 Q.d)) h11 rfl
          have f11_1 := hfroz (k := 1) h11
          have d8_0 := hcell (k := 0) (v := (.int .i64 0)) h8 rfl
          have f8_0 := hfroz (k := 0) h8
          have d8_1 := hcell (k := 1) (v := (.int .i64 0)) h8 rfl
          have f8_1 := hfroz (k := 1) h8
          have d8_2 := hcell (k := 2) (v := (.int .i64 0)) h8 rfl
          have f8_2 := hfroz (k := 2) h8
          have d8_3 := hcell (k := 3) (v := (.int .i64 0)) h8 rfl
          have f8_3 := hfroz (k := 3) h8
          have d8_4 := hcell (k := 4) (v := (.int .i64 0)) h8 rfl
          have f8_4 := hfroz (k := 4) h8
          have d8_5 := hcell (k := 5) (v := (.int .i64 0)) h8 rfl
          have f8_5 := hfroz (k := 5) h8
          have hs5 := hblt h8
          have hs5' := hblt h11
          go_region
          all_goals
            have A8 := box6_set h8 (.int .i64 x) (.int .i64 z) (.int .i64 P.n) (.int .i64 P.d) (.int .i64 Q.n) (.int .i64 Q.d)
            have hBA := hB.grown (box6_grown (b := w.heap.size + 1 + 1) (.int .i64 x) (.int .i64 z) (.int .i64 P.n) (.int .i64 P.d) (.int .i64 Q.n) (.int .i64 Q.d)) hB.size (fun j hj => by cases hj; omega)
            go_wp2
            refine bodyPost_ret (results_ct1 rfl _ _ (w.heap.size + 1 + 1) 43 #[.int .i64 x, .int .i64 z, .int .i64 P.n, .int .i64 P.d, .int .i64 Q.n, .int .i64 Q.d] (0, 0) _ rfl (dr_heap A8) Try.underlying43 rfl (by kernel_rfl)) rfl ⟨?_, hBA.drew⟩
            exact ret_meet (c := ⟨x, z, P, Q⟩) (by rw [HM.out]; rfl)
      | false =>
        go_wp2_with fail
        clear d11_0 f11_0 d11_1 f11_1 d14_0 f14_0 d14_1 f14_1 d10_0 f10_0 d10_1 f10_1
        clear h4
        clear h5
        clear h13
        clear h14
        obtain ⟨W5, hW5⟩ : ∃ W5, W5 = w4 := ⟨_, rfl⟩
        rw [← hW5] at hB h8 h10 h11 ⊢
        clear hW5
        have d10_0 := hcell (k := 0) (v := (.int .i64 P.n)) h10 rfl
        have f10_0 := hfroz (k := 0) h10
        have d10_1 := hcell (k := 1) (v := (.int .i64 P.d)) h10 rfl
        have f10_1 := hfroz (k := 1) h10
        have d11_0 := hcell (k := 0) (v := (.int .i64 Q.n)) h11 rfl
        have f11_0 := hfroz (k := 0) h11
        have d11_1 := hcell (k := 1) (v := (.int .i64 Q.d)) h11 rfl
        have f11_1 := hfroz (k := 1) h11
        have d8_0 := hcell (k := 0) (v := (.int .i64 0)) h8 rfl
        have f8_0 := hfroz (k := 0) h8
        have d8_1 := hcell (k := 1) (v := (.int .i64 0)) h8 rfl
        have f8_1 := hfroz (k := 1) h8
        have d8_2 := hcell (k := 2) (v := (.int .i64 0)) h8 rfl
        have f8_2 := hfroz (k := 2) h8
        have d8_3 := hcell (k := 3) (v := (.int .i64 0)) h8 rfl
        have f8_3 := hfroz (k := 3) h8
        have d8_4 := hcell (k := 4) (v := (.int .i64 0)) h8 rfl
        have f8_4 := hfroz (k := 4) h8
        have d8_5 := hcell (k := 5) (v := (.int .i64 0)) h8 rfl
        have f8_5 := hfroz (k := 5) h8
        have hs5 := hblt h8
        have hs5' := hblt h11
        go_region
        all_goals
          have A8 := box6_set h8 (.int .i64 x) (.int .i64 z) (.int .i64 P.n) (.int .i64 P.d) (.int .i64 Q.n) (.int .i64 Q.d)
          have hBA := hB.grown (box6_grown (b := w.heap.size + 1 + 1) (.int .i64 x) (.int .i64 z) (.int .i64 P.n) (.int .i64 P.d) (.int .i64 Q.n) (.int .i64 Q.d)) hB.size (fun j hj => by cases hj; omega)
          go_wp2
          refine bodyPost_ret (results_ct1 rfl _ _ (w.heap.size + 1 + 1) 43 #[.int .i64 x, .int .i64 z, .int .i64 P.n, .int .i64 P.d, .int .i64 Q.n, .int .i64 Q.d] (0, 0) _ rfl (dr_heap A8) Try.underlying43 rfl (by kernel_rfl)) rfl ⟨?_, hBA.drew⟩
          exact ret_meet (c := ⟨x, z, P, Q⟩) (by rw [HM.out]; rfl)
end Go.Proofs.Ytndjljefppbmcaa
