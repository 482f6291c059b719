/- Walk: a door's middle. -/
import Derived.Test.YtjiklfffcnfdjaaDrW
import Derived.Test.YtjiklfffcnfdjaaFlt
import Derived.Test.YtjiklfffcnfdjaaDrB
namespace Go.Proofs.Ytjiklfffcnfdjaa
open Go.RowKit Go.Sort

set_option maxHeartbeats 800000 in
theorem middle_any (w : World) (d : Dr) (m n : Int) (h1 : IntKind.i64.wrap (d.x0 + d.x1) = m) (h2 : IntKind.i64.wrap (d.z0 + d.z1) = n) :
    Calls Try.prog 45 #[.agg #[.int .i64 d.a, .int .i64 d.b, .int .i64 d.x0, .int .i64 d.z0, .int .i64 d.x1, .int .i64 d.z1]] w fun e w' => e = .returned (.agg #[.int .i64 m, .int .i64 n]) ∧ Below w.heap.size w w' := by
  have hA := halloc (World.alloc_heap_new w (.cells #[.int .i64 d.a, .int .i64 d.b, .int .i64 d.x0, .int .i64 d.z0, .int .i64 d.x1, .int .i64 d.z1] 35 (0, 0))) (.cells #[.int .i64 0, .int .i64 0] 61 (0, 0))
  have hR := World.alloc_heap_new (w.alloc (.cells #[.int .i64 d.a, .int .i64 d.b, .int .i64 d.x0, .int .i64 d.z0, .int .i64 d.x1, .int .i64 d.z1] 35 (0, 0))) (.cells #[.int .i64 0, .int .i64 0] 61 (0, 0))
  have hB1 : Below w.heap.size w ((w.alloc (.cells #[.int .i64 d.a, .int .i64 d.b, .int .i64 d.x0, .int .i64 d.z0, .int .i64 d.x1, .int .i64 d.z1] 35 (0, 0))).alloc (.cells #[.int .i64 0, .int .i64 0] 61 (0, 0))) := ((Below.refl _ _).alloc (Nat.le_refl _) _).alloc (by simp) _
  rw [World.size_alloc] at hR
  obtain ⟨W, hW⟩ : ∃ W, W = (w.alloc (.cells #[.int .i64 d.a, .int .i64 d.b, .int .i64 d.x0, .int .i64 d.z0, .int .i64 d.x1, .int .i64 d.z1] 35 (0, 0))).alloc (.cells #[.int .i64 0, .int .i64 0] 61 (0, 0)) := ⟨_, rfl⟩
  rw [← hW] at hA hR hB1
  have c2 := hcell (k := 2) (v := .int .i64 d.x0) hA rfl
  have c3 := hcell (k := 3) (v := .int .i64 d.z0) hA rfl
  have c4 := hcell (k := 4) (v := .int .i64 d.x1) hA rfl
  have c5 := hcell (k := 5) (v := .int .i64 d.z1) hA rfl
  have z0 := hcell (k := 0) (v := .int .i64 0) hR rfl
  have z1 := hcell (k := 1) (v := .int .i64 0) hR rfl
  have f0 := hfroz (k := 0) hR
  have f1 := hfroz (k := 1) hR
  have HN := Lib.hid (bx2_set hR (.int .i64 m) (.int .i64 n))
  have hB9 := hB1.grown (bx2_grown (w := W) (b := w.heap.size + 1) (.int .i64 m) (.int .i64 n)) hB1.size (fun j hj => by cases hj; omega)
  clear hA hR
  go_enter Try.func45, Try.ntmps45
  go_upto_region 1 with fail
  rw [← hW]
  clear hW
  go_wp2
  refine bodyPost_ret (results_c1 rfl _ _ (w.heap.size + 1) 61 _ (0, 0) _ rfl HN.out Try.underlying61 rfl (by kernel_rfl)) rfl ⟨rfl, hB9⟩
/-! ### The document's two pairs -/
def wkA : Rc := flR 0 0 1 3 0 8
def wkB1 : Rc := flR 2 1 4 2 1 6
def wkB2 : Rc := flR 2 1 4 2 2 6
theorem wk_cfg : cfgE wkC = 0 := by decide
theorem wk_a : rcE wkC wkA = 0 := by decide
theorem wk_b1 : rcE wkC wkB1 = 0 := by decide
theorem wk_b2 : rcE wkC wkB2 = 0 := by decide
theorem wk_one : betw wkC wkA wkB1 = [⟨0, 1, 2, 1, 2, 3⟩] := by decide
theorem wk_none : betw wkC wkA wkB2 = [] := by decide
end Go.Proofs.Ytjiklfffcnfdjaa
