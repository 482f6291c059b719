/- Walk: whether a hop that leads somewhere may be: mesh.stands. -/
import Derived.Test.YtgfmdgiepomkiaaMsP
import Derived.Test.YtgfmdgiepomkiaaSmG
namespace Go.Proofs.Ytgfmdgiepomkiaa
open Go.RowKit Go.Sort
attribute [local go_sem] Instr.index

set_option maxRecDepth 100000 in
set_option maxHeartbeats 16000000 in
theorem msstands_any (m : Msh) (h : Ac) (w : World) (hm : MshAt w m) :
    Calls Try.prog 85 #[mshV m, .agg #[.int .i64 h.id, .int .i64 h.f.tile, .int .i64 h.f.rect, .int .i64 h.f.x, .int .i64 h.f.z, .int .i64 h.f.y, .int .i64 h.t.tile, .int .i64 h.t.rect, .int .i64 h.t.x, .int .i64 h.t.z, .int .i64 h.t.y, .bool h.both, .int .i64 h.area, .int .i64 h.cost]] w (BoPost w) := by
  have hB : Below w.heap.size w ((w.alloc (.cells #[.int .i64 m.cf.clear, .int .i64 m.cf.climb, .int .i64 m.cf.height, .int .i64 m.cf.rise, .int .i64 m.cf.run, .int .i64 m.cf.w, .int .i64 m.cf.d, .slice m.ta m.tn m.tc, .slice m.ra m.rn m.rc, .slice m.da m.dn m.dc, .slice m.ha m.hn m.hc] 43 (0, 0))).alloc (.cells #[.int .i64 h.id, .int .i64 h.f.tile, .int .i64 h.f.rect, .int .i64 h.f.x, .int .i64 h.f.z, .int .i64 h.f.y, .int .i64 h.t.tile, .int .i64 h.t.rect, .int .i64 h.t.x, .int .i64 h.t.z, .int .i64 h.t.y, .bool h.both, .int .i64 h.area, .int .i64 h.cost] 123 (0, 0))) := ((Below.refl _ _).alloc (Nat.le_refl _) _).alloc (by simp) _
  have hM := halloc (World.alloc_heap_new w (.cells #[.int .i64 m.cf.clear, .int .i64 m.cf.climb, .int .i64 m.cf.height, .int .i64 m.cf.rise, .int .i64 m.cf.run, .int .i64 m.cf.w, .int .i64 m.cf.d, .slice m.ta m.tn m.tc, .slice m.ra m.rn m.rc, .slice m.da m.dn m.dc, .slice m.ha m.hn m.hc] 43 (0, 0))) (.cells #[.int .i64 h.id, .int .i64 h.f.tile, .int .i64 h.f.rect, .int .i64 h.f.x, .int .i64 h.f.z, .int .i64 h.f.y, .int .i64 h.t.tile, .int .i64 h.t.rect, .int .i64 h.t.x, .int .i64 h.t.z, .int .i64 h.t.y, .bool h.both, .int .i64 h.area, .int .i64 h.cost] 123 (0, 0))
  have hH := World.alloc_heap_new (w.alloc (.cells #[.int .i64 m.cf.clear, .int .i64 m.cf.climb, .int .i64 m.cf.height, .int .i64 m.cf.rise, .int .i64 m.cf.run, .int .i64 m.cf.w, .int .i64 m.cf.d, .slice m.ta m.tn m.tc, .slice m.ra m.rn m.rc, .slice m.da m.dn m.dc, .slice m.ha m.hn m.hc] 43 (0, 0))) (.cells #[.int .i64 h.id, .int .i64 h.f.tile, .int .i64 h.f.rect, .int .i64 h.f.x, .int .i64 h.f.z, .int .i64 h.f.y, .int .i64 h.t.tile, .int .i64 h.t.rect, .int .i64 h.t.x, .int .i64 h.t.z, .int .i64 h.t.y, .bool h.both, .int .i64 h.area, .int .i64 h.cost] 123 (0, 0))
  simp only [World.size_alloc] at hH
  obtain ⟨W1, hW1⟩ : ∃ W, W = (w.alloc (.cells #[.int .i64 m.cf.clear, .int .i64 m.cf.climb, .int .i64 m.cf.height, .int .i64 m.cf.rise, .int .i64 m.cf.run, .int .i64 m.cf.w, .int .i64 m.cf.d, .slice m.ta m.tn m.tc, .slice m.ra m.rn m.rc, .slice m.da m.dn m.dc, .slice m.ha m.hn m.hc] 43 (0, 0))).alloc (.cells #[.int .i64 h.id, .int .i64 h.f.tile, .int .i64 h.f.rect, .int .i64 h.f.x, .int .i64 h.f.z, .int .i64 h.f.y, .int .i64 h.t.tile, .int .i64 h.t.rect, .int .i64 h.t.x, .int .i64 h.t.z, .int .i64 h.t.y, .bool h.both, .int .i64 h.area, .int .i64 h.cost] 123 (0, 0)) := ⟨_, rfl⟩
  rw [← hW1] at hB hM hH
  have PL := Lib.hid (fun e W (hb : Below w.heap.size w W) => msplace_any m e W (hm.below hb))
  unfold PlPost at PL
  dsimp only [mshV, mshA] at PL ⊢
  clear hm
  obtain ⟨S0, hS0⟩ : ∃ S, S = w.heap.size := ⟨_, rfl⟩
  obtain ⟨S1, hS1⟩ : ∃ S, S = S0 + 1 := ⟨_, rfl⟩
  rw [← hS0] at hM hH
  rw [← hS1] at hH
  have HM := Lib.hid hM
  have HH := Lib.hid hH
  go_enter Try.func85, Try.ntmps85
  go_upto_region 1 with fail
  rw [← hW1, ← hS0, ← hS1]
  clear hW1 hS0 hS1
  have c0 := hcell (k := 0) (v := .int .i64 m.cf.clear) hM rfl
  have c1 := hcell (k := 1) (v := .int .i64 m.cf.climb) hM rfl
  have c2 := hcell (k := 2) (v := .int .i64 m.cf.height) hM rfl
  have c3 := hcell (k := 3) (v := .int .i64 m.cf.rise) hM rfl
  have c4 := hcell (k := 4) (v := .int .i64 m.cf.run) hM rfl
  have c5 := hcell (k := 5) (v := .int .i64 m.cf.w) hM rfl
  have c6 := hcell (k := 6) (v := .int .i64 m.cf.d) hM rfl
  have c7 := hcell (k := 7) (v := .slice m.ta m.tn m.tc) hM rfl
  have c8 := hcell (k := 8) (v := .slice m.ra m.rn m.rc) hM rfl
  have c9 := hcell (k := 9) (v := .slice m.da m.dn m.dc) hM rfl
  have c10 := hcell (k := 10) (v := .slice m.ha m.hn m.hc) hM rfl
  have d1 := hcell (k := 1) (v := .int .i64 h.f.tile) hH rfl
  have d2 := hcell (k := 2) (v := .int .i64 h.f.rect) hH rfl
  have d3 := hcell (k := 3) (v := .int .i64 h.f.x) hH rfl
  have d4 := hcell (k := 4) (v := .int .i64 h.f.z) hH rfl
  have d5 := hcell (k := 5) (v := .int .i64 h.f.y) hH rfl
  clear hM hH
  go_wp2_with fail
  refine (PL.out h.f _ hB).mono ?_
  rintro e w2 ⟨⟨x1, y1, z1, u1, q1, rfl⟩, hb2⟩
  clear c0 c1 c2 c3 c4 c5 c6 c7 c8 c9 c10
  clear d1 d2 d3 d4 d5
  have hA3 : Below w2.heap.size w2 (w2.alloc (.cells #[.int .i64 y1, .int .i64 z1, .int .i64 u1] 102 (0, 0))) := (Below.refl _ _).alloc (Nat.le_refl _) _
  have hR3 := hb2.trans (hA3.mono hb2.size)
  have hB3 := hB.trans (hR3.mono hB.size)
  obtain ⟨W3, hW3⟩ : ∃ W, W = w2.alloc (.cells #[.int .i64 y1, .int .i64 z1, .int .i64 u1] 102 (0, 0)) := ⟨_, rfl⟩
  rw [← hW3] at hA3 hR3 hB3
  go_upto_region 2 with fail
  rw [← hW3]
  clear hW3 hA3 hb2
  have hM3 := hkeep hR3 HM.out
  have hH3 := hkeep hR3 HH.out
  have c0 := hcell (k := 0) (v := .int .i64 m.cf.clear) hM3 rfl
  have c1 := hcell (k := 1) (v := .int .i64 m.cf.climb) hM3 rfl
  have c2 := hcell (k := 2) (v := .int .i64 m.cf.height) hM3 rfl
  have c3 := hcell (k := 3) (v := .int .i64 m.cf.rise) hM3 rfl
  have c4 := hcell (k := 4) (v := .int .i64 m.cf.run) hM3 rfl
  have c5 := hcell (k := 5) (v := .int .i64 m.cf.w) hM3 rfl
  have c6 := hcell (k := 6) (v := .int .i64 m.cf.d) hM3 rfl
  have c7 := hcell (k := 7) (v := .slice m.ta m.tn m.tc) hM3 rfl
  have c8 := hcell (k := 8) (v := .slice m.ra m.rn m.rc) hM3 rfl
  have c9 := hcell (k := 9) (v := .slice m.da m.dn m.dc) hM3 rfl
  have c10 := hcell (k := 10) (v := .slice m.ha m.hn m.hc) hM3 rfl
  have d6 := hcell (k := 6) (v := .int .i64 h.t.tile) hH3 rfl
  have d7 := hcell (k := 7) (v := .int .i64 h.t.rect) hH3 rfl
  have d8 := hcell (k := 8) (v := .int .i64 h.t.x) hH3 rfl
  have d9 := hcell (k := 9) (v := .int .i64 h.t.z) hH3 rfl
  have d10 := hcell (k := 10) (v := .int .i64 h.t.y) hH3 rfl
  clear hM3 hH3
  go_wp2_with fail
  refine (PL.out h.t _ hB3).mono ?_
  rintro e w4 ⟨⟨x2, y2, z2, u2, q2, rfl⟩, hb4⟩
  clear c0 c1 c2 c3 c4 c5 c6 c7 c8 c9 c10
  clear d6 d7 d8 d9 d10
  have hA5 : Below w4.heap.size w4 (w4.alloc (.cells #[.int .i64 y2, .int .i64 z2, .int .i64 u2] 102 (0, 0))) := (Below.refl _ _).alloc (Nat.le_refl _) _
  have hR5 := hR3.trans ((hb4.trans (hA5.mono hb4.size)).mono hR3.size)
  have hB5 := hB.trans (hR5.mono hB.size)
  obtain ⟨W5, hW5⟩ : ∃ W, W = w4.alloc (.cells #[.int .i64 y2, .int .i64 z2, .int .i64 u2] 102 (0, 0)) := ⟨_, rfl⟩
  rw [← hW5] at hA5 hR5 hB5
  go_upto_region 3 with fail
  rw [← hW5]
  clear hW5 hA5 hb4 hR3 hB3
  have hH5 := hkeep hR5 HH.out
  have d0 := hcell (k := 0) (v := .int .i64 h.id) hH5 rfl
  have d12 := hcell (k := 12) (v := .int .i64 h.area) hH5 rfl
  have d13 := hcell (k := 13) (v := .int .i64 h.cost) hH5 rfl
  clear hH5 hR5 hB PL HM HH
  cases q1 with
  | false =>
    go_wp2
    go_ret
    exact BoPost.mk _ hB5
  | true =>
  cases q2 with
  | false =>
    go_wp2
    go_ret
    exact BoPost.mk _ hB5
  | true =>
  by_cases k0 : 1 ≤ h.id
  case neg =>
    go_wp2
    go_ret
    exact BoPost.mk _ hB5
  by_cases k1 : h.id ≤ 1073741824
  case neg =>
    go_wp2
    go_ret
    exact BoPost.mk _ hB5
  by_cases k2 : 1 ≤ h.area
  case neg =>
    go_wp2
    go_ret
    exact BoPost.mk _ hB5
  by_cases k3 : h.area ≤ 7
  case neg =>
    go_wp2
    go_ret
    exact BoPost.mk _ hB5
  by_cases k4 : 0 ≤ h.cost
  case neg =>
    go_wp2
    go_ret
    exact BoPost.mk _ hB5
  go_wp2
  go_ret
  exact BoPost.mk _ hB5
end Go.Proofs.Ytgfmdgiepomkiaa
