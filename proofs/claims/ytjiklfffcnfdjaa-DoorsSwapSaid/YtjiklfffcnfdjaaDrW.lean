/- Walks: the law's config, a rectangle moved, a door's middle. -/
import Derived.Test.YtjiklfffcnfdjaaSmD
import Derived.Test.YtjiklfffcnfdjaaInv2
import Derived.Test.YtjiklfffcnfdjaaLnk
namespace Go.Proofs.Ytjiklfffcnfdjaa
open Go.RowKit Go.Sort

def wkC : Cfg := ⟨0, 1, 3, 1, 1, 8, 8⟩
set_option maxHeartbeats 800000 in
theorem config18_any (w : World) : Calls Try.prog 43 #[] w fun e w' => e = .returned (cfgV wkC) ∧ Below w.heap.size w w' := by
  have hR := World.alloc_heap_new w (.cells #[.int .i64 0, .int .i64 0, .int .i64 0, .int .i64 0, .int .i64 0, .int .i64 0, .int .i64 0] 23 (0, 0))
  have hB1 : Below w.heap.size w (w.alloc (.cells #[.int .i64 0, .int .i64 0, .int .i64 0, .int .i64 0, .int .i64 0, .int .i64 0, .int .i64 0] 23 (0, 0))) := (Below.refl _ _).alloc (Nat.le_refl _) _
  obtain ⟨W, hW⟩ : ∃ W, W = w.alloc (.cells #[.int .i64 0, .int .i64 0, .int .i64 0, .int .i64 0, .int .i64 0, .int .i64 0, .int .i64 0] 23 (0, 0)) := ⟨_, rfl⟩
  rw [← hW] at hR hB1
  have z0 := hcell (k := 0) (v := .int .i64 0) hR rfl
  have f0 := hfroz (k := 0) hR
  have z1 := hcell (k := 1) (v := .int .i64 0) hR rfl
  have f1 := hfroz (k := 1) hR
  have z2 := hcell (k := 2) (v := .int .i64 0) hR rfl
  have f2 := hfroz (k := 2) hR
  have z3 := hcell (k := 3) (v := .int .i64 0) hR rfl
  have f3 := hfroz (k := 3) hR
  have z4 := hcell (k := 4) (v := .int .i64 0) hR rfl
  have f4 := hfroz (k := 4) hR
  have z5 := hcell (k := 5) (v := .int .i64 0) hR rfl
  have f5 := hfroz (k := 5) hR
  have z6 := hcell (k := 6) (v := .int .i64 0) hR rfl
  have f6 := hfroz (k := 6) hR
  have HN := Lib.hid (bx7_set hR (.int .i64 0) (.int .i64 1) (.int .i64 3) (.int .i64 1) (.int .i64 1) (.int .i64 8) (.int .i64 8))
  have hB9 := hB1.grown (bx7_grown (w := W) (b := w.heap.size) (.int .i64 0) (.int .i64 1) (.int .i64 3) (.int .i64 1) (.int .i64 1) (.int .i64 8) (.int .i64 8)) hB1.size (fun j hj => by cases hj; omega)
  clear hR
  go_enter Try.func43, Try.ntmps43
  go_upto_region 1 with fail
  rw [← hW]
  clear hW
  go_wp2
  refine bodyPost_ret (results_c1 rfl _ _ w.heap.size 23 _ (0, 0) _ rfl HN.out Try.underlying23 rfl (by kernel_rfl)) rfl ⟨rfl, hB9⟩

set_option maxHeartbeats 1600000 in
theorem moved_any (h : RHd) (r : Rc) (x z : Int) (w : World) (hx : -20 ≤ x ∧ x ≤ 20) (hz : -20 ≤ z ∧ z ≤ 20) (hb : rcBd r = true) :
    Calls Try.prog 11 #[rcV h r, .int .i64 x, .int .i64 z] w fun e w' => e = .returned (rcV h (mvR r x z)) ∧ Below w.heap.size w w' := by
  obtain ⟨u1, u2, u3, u4, u5, u6, _, _⟩ := rcBd_iff.1 hb
  have w1 : IntKind.i64.wrap (r.x0 + x) = r.x0 + x := by rw [IntKind.wrap_i64]; omega
  have w2 : IntKind.i64.wrap (r.z0 + z) = r.z0 + z := by rw [IntKind.wrap_i64]; omega
  have w3 : IntKind.i64.wrap (r.x1 + x) = r.x1 + x := by rw [IntKind.wrap_i64]; omega
  have w4 : IntKind.i64.wrap (r.z1 + z) = r.z1 + z := by rw [IntKind.wrap_i64]; omega
  clear u1 u2 u3 u4 u5 u6 hx hz hb
  have hA := halloc (World.alloc_heap_new w (rcO h r)) (.cells #[.int .i64 0, .int .i64 0, .int .i64 0, .int .i64 0, .int .i64 0, .slice none 0 0, .slice none 0 0] 26 (0, 0))
  have hR := World.alloc_heap_new (w.alloc (rcO h r)) (.cells #[.int .i64 0, .int .i64 0, .int .i64 0, .int .i64 0, .int .i64 0, .slice none 0 0, .slice none 0 0] 26 (0, 0))
  have hB1 : Below w.heap.size w ((w.alloc (rcO h r)).alloc (.cells #[.int .i64 0, .int .i64 0, .int .i64 0, .int .i64 0, .int .i64 0, .slice none 0 0, .slice none 0 0] 26 (0, 0))) := ((Below.refl _ _).alloc (Nat.le_refl _) _).alloc (by simp) _
  rw [World.size_alloc] at hR
  obtain ⟨W, hW⟩ : ∃ W, W = (w.alloc (rcO h r)).alloc (.cells #[.int .i64 0, .int .i64 0, .int .i64 0, .int .i64 0, .int .i64 0, .slice none 0 0, .slice none 0 0] 26 (0, 0)) := ⟨_, rfl⟩
  rw [← hW] at hA hR hB1
  unfold mvR
  dsimp only [rcO, rcV] at hA hR hW ⊢
  have c0 := hcell (k := 0) (v := .int .i64 r.x0) hA rfl
  have c1 := hcell (k := 1) (v := .int .i64 r.z0) hA rfl
  have c2 := hcell (k := 2) (v := .int .i64 r.x1) hA rfl
  have c3 := hcell (k := 3) (v := .int .i64 r.z1) hA rfl
  have c4 := hcell (k := 4) (v := .int .i64 r.area) hA rfl
  have c5 := hcell (k := 5) (v := .slice h.ya r.ys.length h.yc) hA rfl
  have c6 := hcell (k := 6) (v := .slice h.ta r.ts.length h.tc) hA rfl
  have z0 := hcell (k := 0) (v := .int .i64 0) hR rfl
  have z1 := hcell (k := 1) (v := .int .i64 0) hR rfl
  have z2 := hcell (k := 2) (v := .int .i64 0) hR rfl
  have z3 := hcell (k := 3) (v := .int .i64 0) hR rfl
  have z4 := hcell (k := 4) (v := .int .i64 0) hR rfl
  have z5 := hcell (k := 5) (v := .slice none 0 0) hR rfl
  have z6 := hcell (k := 6) (v := .slice none 0 0) hR rfl
  have f0 := hfroz (k := 0) hR
  have f1 := hfroz (k := 1) hR
  have f2 := hfroz (k := 2) hR
  have f3 := hfroz (k := 3) hR
  have f4 := hfroz (k := 4) hR
  have f5 := hfroz (k := 5) hR
  have f6 := hfroz (k := 6) hR
  have HN := Lib.hid (bx7_set hR (.int .i64 (r.x0 + x)) (.int .i64 (r.z0 + z)) (.int .i64 (r.x1 + x)) (.int .i64 (r.z1 + z)) (.int .i64 r.area) (.slice h.ya r.ys.length h.yc) (.slice h.ta r.ts.length h.tc))
  have hB9 := hB1.grown (bx7_grown (w := W) (b := w.heap.size + 1) (.int .i64 (r.x0 + x)) (.int .i64 (r.z0 + z)) (.int .i64 (r.x1 + x)) (.int .i64 (r.z1 + z)) (.int .i64 r.area) (.slice h.ya r.ys.length h.yc) (.slice h.ta r.ts.length h.tc)) hB1.size (fun j hj => by cases hj; omega)
  clear hA hR
  go_enter Try.func11, Try.ntmps11
  go_upto_region 1 with fail
  rw [← hW]
  clear hW
  go_wp2
  refine bodyPost_ret (results_c1 rfl _ _ (w.heap.size + 1) 26 _ (0, 0) _ rfl HN.out Try.underlying26 rfl (by kernel_rfl)) rfl ⟨rfl, hB9⟩
end Go.Proofs.Ytjiklfffcnfdjaa
