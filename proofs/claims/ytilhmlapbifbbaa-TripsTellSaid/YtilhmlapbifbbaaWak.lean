/- Walks: what the document says of a table of three places. -/
import Derived.Test.YtilhmlapbifbbaaGrpN
import Derived.Test.YtilhmlapbifbbaaRws
namespace Go.Proofs.Ytilhmlapbifbbaa
open Go.RowKit Go.Sort

def wakeT : List (List Int) := [[0, 5, 1], [-1, 0, -1], [-1, 2, 0]]
theorem wake_may : mayT wakeT = true := by kernel_rfl
theorem wake_short : shT wakeT = [[0, 3, 1], [-1, 0, -1], [-1, 2, 0]] := by kernel_rfl
theorem wake_groups : groP wakeT = [[0], [1], [2]] := by kernel_rfl
theorem wake_round : rouP wakeT 0 = ([0, 2, 1], 3) := by kernel_rfl
theorem wake_e : trE wakeT = 0 ∧ groE wakeT = 0 ∧ rouE wakeT 0 = 0 := ⟨by kernel_rfl, by kernel_rfl, by kernel_rfl⟩

theorem Mat.tab {B : Nat} {w : World} {v : Value} {ms : List MRow} (h : Mat B w v ms) {t : List (List Int)} (ht : mTab ms = t) : ∃ a c rs, v = .slice a t.length c ∧ SlT w a t.length c rs ∧ tabOf rs = t := by
  obtain ⟨a, c, e, hs⟩ := h.reads
  have hl : t.length = ms.length := by rw [← ht]; simp [mTab]
  rw [hl]
  exact ⟨a, c, _, e, hs, by rw [← ht]; simp [tabOf, mTab]⟩

/-- A literal table of three rows of three, as the model builds it. -/
theorem SlT.lits3 (w : World) (x0 x1 x2 y0 y1 y2 z0 z1 z2 : Int) :
    SlT ((((w.alloc (.cells #[.int .i64 x0, .int .i64 x1, .int .i64 x2] 3)).alloc (.cells #[.int .i64 y0, .int .i64 y1, .int .i64 y2] 3)).alloc (.cells #[.int .i64 z0, .int .i64 z1, .int .i64 z2] 3)).alloc
      (.cells #[.slice (some ⟨w.heap.size, 0, none⟩) 3 3, .slice (some ⟨w.heap.size + 1, 0, none⟩) 3 3, .slice (some ⟨w.heap.size + 1 + 1, 0, none⟩) 3 3] 36)) (some ⟨w.heap.size + 1 + 1 + 1, 0, none⟩) 3 3
      [⟨some ⟨w.heap.size, 0, none⟩, 3, 3, [x0, x1, x2]⟩, ⟨some ⟨w.heap.size + 1, 0, none⟩, 3, 3, [y0, y1, y2]⟩, ⟨some ⟨w.heap.size + 1 + 1, 0, none⟩, 3, 3, [z0, z1, z2]⟩] := by
  have h0 := ((((SlI.lits (k := .i64) w [x0, x1, x2] 3 (by simp)).alloc (.cells #[.int .i64 y0, .int .i64 y1, .int .i64 y2] 3)).alloc (.cells #[.int .i64 z0, .int .i64 z1, .int .i64 z2] 3)).alloc (.cells #[.slice (some ⟨w.heap.size, 0, none⟩) 3 3, .slice (some ⟨w.heap.size + 1, 0, none⟩) 3 3, .slice (some ⟨w.heap.size + 1 + 1, 0, none⟩) 3 3] 36))
  have h1 := (((SlI.lits (k := .i64) (w.alloc (.cells #[.int .i64 x0, .int .i64 x1, .int .i64 x2] 3)) [y0, y1, y2] 3 (by simp)).alloc (.cells #[.int .i64 z0, .int .i64 z1, .int .i64 z2] 3)).alloc (.cells #[.slice (some ⟨w.heap.size, 0, none⟩) 3 3, .slice (some ⟨w.heap.size + 1, 0, none⟩) 3 3, .slice (some ⟨w.heap.size + 1 + 1, 0, none⟩) 3 3] 36))
  have h2 := ((SlI.lits (k := .i64) ((w.alloc (.cells #[.int .i64 x0, .int .i64 x1, .int .i64 x2] 3)).alloc (.cells #[.int .i64 y0, .int .i64 y1, .int .i64 y2] 3)) [z0, z1, z2] 3 (by simp)).alloc (.cells #[.slice (some ⟨w.heap.size, 0, none⟩) 3 3, .slice (some ⟨w.heap.size + 1, 0, none⟩) 3 3, .slice (some ⟨w.heap.size + 1 + 1, 0, none⟩) 3 3] 36))
  rw [World.size_alloc] at h1
  rw [World.size_alloc, World.size_alloc] at h2
  refine ⟨⟨rfl, Nat.le_refl _, by decide, .inr ⟨_, 0, rfl, by simp, fun i x hx j v hv => ?_⟩⟩, fun r hr => ?_⟩
  · rw [World.cell?_alloc_at _ _ _ _ (by simp)]
    have hi := (List.getElem?_eq_some_iff.1 hx).1
    simp only [List.length_cons, List.length_nil] at hi
    have hj : j = 0 := by have := (List.getElem?_eq_some_iff.1 hv).1; simp [trC] at this; exact this
    subst hj
    rcases i with _ | _ | _ | i
    · cases hx; cases hv; rfl
    · cases hx; cases hv; rfl
    · cases hx; cases hv; rfl
    · omega
  · rcases List.mem_cons.1 hr with rfl | hr
    · exact h0
    · rcases List.mem_cons.1 hr with rfl | hr
      · exact h1
      · rcases List.mem_cons.1 hr with rfl | hr
        · exact h2
        · cases hr

set_option maxRecDepth 100000 in
set_option maxHeartbeats 2000000 in
theorem wakes32_any (w : World) :
    Calls Try.prog 36 #[] w fun e w' => e = .returned (.bool true) ∧ Below w.heap.size w w' := by
  have Hs := Lib.hid wake_short
  have Hg := Lib.hid wake_groups
  have Hr := Lib.hid wake_round
  have He := Lib.hid wake_e
  go_enter Try.func36, Try.ntmps36
  go_wp2_with fail
  obtain ⟨W, hW⟩ : ∃ W, W = ((((w.alloc (.cells #[.int .i64 0, .int .i64 5, .int .i64 1] 3)).alloc (.cells #[.int .i64 (-1), .int .i64 0, .int .i64 (-1)] 3)).alloc (.cells #[.int .i64 (-1), .int .i64 2, .int .i64 0] 3)).alloc
      (.cells #[.slice (some ⟨w.heap.size, 0, none⟩) 3 3, .slice (some ⟨w.heap.size + 1, 0, none⟩) 3 3, .slice (some ⟨w.heap.size + 1 + 1, 0, none⟩) 3 3] 36)) := ⟨_, rfl⟩
  obtain ⟨rs, hx, ht⟩ : ∃ rs, SlT W (some ⟨w.heap.size + 1 + 1 + 1, 0, none⟩) 3 3 rs ∧ tabOf rs = wakeT := ⟨_, by rw [hW]; exact SlT.lits3 w 0 5 1 (-1) 0 (-1) (-1) 2 0, rfl⟩
  rw [← hW]
  have hB : Below w.heap.size w W := by rw [hW]; exact ((((Below.refl _ _).alloc (Nat.le_refl _) _).alloc (by simp) _).alloc (by simp; omega) _).alloc (by simp; omega) _
  have hS : W.heap.size = w.heap.size + 1 + 1 + 1 + 1 := by rw [hW]; simp
  clear hW
  obtain ⟨T, hT⟩ : ∃ T, T = w.heap.size + 1 + 1 + 1 := ⟨_, rfl⟩
  rw [← hT] at hx hS ⊢
  clear hT
  refine (short_any _ 3 3 _ _ hx).mono ?_
  rintro e w1 ⟨v1, ms1, rfl, hmat1, hT1, hb1⟩
  rw [ht, He.out.1]
  have hT1' : mTab ms1 = [[0, 3, 1], [-1, 0, -1], [-1, 2, 0]] := by rw [hT1, ht, Hs.out]
  obtain ⟨a1, c1, rs1, rfl, hx1, ht1⟩ := hmat1.tab hT1'
  have hxg := hx.below hb1 (Nat.le_refl _)
  have Hx := Lib.hid hx
  clear hmat1 hT1 hT1' hx
  go_wp2_with fail
  refine (groups_any _ 3 3 _ _ hxg).mono ?_
  rintro e w2 ⟨v2, ms2, rfl, hmat2, hT2, hb2⟩
  rw [ht, He.out.2.1]
  have hT2' : mTab ms2 = [[0], [1], [2]] := by rw [hT2, ht, Hg.out]; rfl
  obtain ⟨a2, c2, rs2, rfl, hx2, ht2⟩ := hmat2.tab hT2'
  have hl2 := hx2.sl.le
  have hm2 := hx2.sl.max
  have hxr := hxg.below hb2 (Nat.le_refl _)
  have hx1' := hx1.below hb2 (Nat.le_refl _)
  clear hmat2 hT2 hT2' hx2 ht2 hxg hx1
  go_wp2_with fail
  refine (round_any _ 3 3 _ 0 _ hxr).mono ?_
  rintro e w3 ⟨v3, he, hown, hb3⟩
  rw [ht, Hr.out] at hown
  rw [ht, Hr.out, He.out.2.2] at he
  subst he
  obtain ⟨a3, c3, rfl, hx3⟩ := hown.reads
  have hx1 := hx1'.below hb3 (Nat.le_refl _)
  have hB3 : Below w.heap.size w w3 := ((hB.trans (hb1.mono hB.size)).trans (hb2.mono (by have := hB.size; have := hb1.size; omega))).trans (hb3.mono (by have := hB.size; have := hb1.size; have := hb2.size; omega))
  clear hown hx1' hxr hb1 hb2 hb3 hB Hx
  go_wp2_with fail
  obtain ⟨ss, hy, hsT, W3, hW3, hb3, hsz3⟩ : ∃ ss, SlT ((((w3.alloc (.cells #[.int .i64 0, .int .i64 3, .int .i64 1] 3)).alloc (.cells #[.int .i64 (-1), .int .i64 0, .int .i64 (-1)] 3)).alloc (.cells #[.int .i64 (-1), .int .i64 2, .int .i64 0] 3)).alloc
      (.cells #[.slice (some ⟨w3.heap.size, 0, none⟩) 3 3, .slice (some ⟨w3.heap.size + 1, 0, none⟩) 3 3, .slice (some ⟨w3.heap.size + 1 + 1, 0, none⟩) 3 3] 36)) (some ⟨w3.heap.size + 1 + 1 + 1, 0, none⟩) 3 3 ss ∧ tabOf ss = [[0, 3, 1], [-1, 0, -1], [-1, 2, 0]] ∧
      ∃ W3, W3 = ((((w3.alloc (.cells #[.int .i64 0, .int .i64 3, .int .i64 1] 3)).alloc (.cells #[.int .i64 (-1), .int .i64 0, .int .i64 (-1)] 3)).alloc (.cells #[.int .i64 (-1), .int .i64 2, .int .i64 0] 3)).alloc
      (.cells #[.slice (some ⟨w3.heap.size, 0, none⟩) 3 3, .slice (some ⟨w3.heap.size + 1, 0, none⟩) 3 3, .slice (some ⟨w3.heap.size + 1 + 1, 0, none⟩) 3 3] 36)) ∧ Below w3.heap.size w3 W3 ∧ w3.heap.size ≤ W3.heap.size := by
    refine ⟨_, SlT.lits3 w3 0 3 1 (-1) 0 (-1) (-1) 2 0, rfl, _, rfl, ?_, by simp; omega⟩
    exact ((((Below.refl _ _).alloc (Nat.le_refl _) _).alloc (by simp) _).alloc (by simp; omega) _).alloc (by simp; omega) _
  rw [← hW3] at hy ⊢
  clear hW3
  have hx3' := hx3.below hb3 (Nat.le_refl _)
  have hB4 := hB3.trans (hb3.mono hB3.size)
  refine (rows_any _ _ 3 _ 3 _ _ _ _ (hx1.below hb3 (Nat.le_refl _)) hy).mono ?_
  rintro e w4 ⟨rfl, hb4⟩
  rw [show decide (tabOf rs1 = tabOf ss) = true by rw [ht1, hsT]; rfl]
  have hx4 := hx3'.below hb4 (Nat.le_refl _)
  have hB5 := hB4.trans (hb4.mono hB4.size)
  clear hx1 hx3 hx3' hb3 hb4 hy hsT ht1 hB3 hB4 hsz3
  go_wp2_with fail
  have hy5 := SlI.lits (k := .i64) w4 [0, 2, 1] 3 (by decide)
  refine (ints32_any _ _ 3 _ 3 _ (natI [0, 2, 1]) [0, 2, 1] _ (hx4.alloc _) hy5).mono ?_
  rintro e w6 ⟨rfl, j, rfl⟩
  have hB6 := hB5.alloc hB5.size (.cells #[.int .i64 0, .int .i64 2, .int .i64 1] 3)
  rw [show decide (natI [0, 2, 1] = [0, 2, 1]) = true from rfl]
  clear hy5 hx4
  go_wp2
  go_ret
  exact ⟨rfl, below_drewN hB6 _⟩

end Go.Proofs.Ytilhmlapbifbbaa
