/- Walks: the clip's closures, and what gathers by them. -/
import Derived.Test.YtdkikecjlbgmdaaGreatClpL
import Derived.Test.YtdkikecjlbgmdaaGreatGg
namespace Go.Proofs.YtdkikecjlbgmdaaGreat
open Go.RowKit

def spC (p : Sp) : List Value := [.int .i64 p.x, .int .i64 p.z, .int .i64 p.d]
def crC (c : Cr) : List Value := [.int .i64 c.x, .int .i64 c.z, .int .i64 c.y, .int .i64 c.d]
def vxC (v : V3) : List Value := [.int .i64 v.x, .int .i64 v.y, .int .i64 v.z]
theorem spC_len (x : Sp) : (spC x).length = 3 := rfl
theorem crC_len (x : Cr) : (crC x).length = 4 := rfl
theorem spC_one (x : Sp) : ∀ u ∈ spC x, u.oneCell' = true := by intro u hu; simp [spC] at hu; rcases hu with rfl | rfl | rfl <;> rfl
theorem crC_one (x : Cr) : ∀ u ∈ crC x, u.oneCell' = true := by intro u hu; simp [crC] at hu; rcases hu with rfl | rfl | rfl | rfl <;> rfl
theorem info_spot : (Tryz.prog.info? 141).map (fun i => (i.zero, i.size, i.bytes)) = some (some (.agg #[.int .i64 0, .int .i64 0, .int .i64 0]), 3, 24) := by kernel_rfl
theorem info_corner : (Tryz.prog.info? 70).map (fun i => (i.zero, i.size, i.bytes)) = some (some (.agg #[.int .i64 0, .int .i64 0, .int .i64 0, .int .i64 0]), 4, 32) := by kernel_rfl

set_option maxRecDepth 100000 in
set_option maxHeartbeats 4000000 in
theorem cl2_any (t : T3) (p : Sp) (T : Nat) (w : World) (hT : w.heap[T]? = some (.cells (t3C t) 137 (0, 0))) (ht : tOk t) (hp : SpSmall p) :
    Calls Tryz.prog 101 #[spA p, .pointer (some ⟨T, 0, none⟩)] w fun e w' => e = .returned (.tuple #[spA p, .bool (holdsT t p)]) ∧ Below w.heap.size w w' := by
  have hT1 := halloc (halloc hT (.cells #[.int .i64 p.x, .int .i64 p.z, .int .i64 p.d] 141)) (.cells #[.int .i64 0, .int .i64 0, .int .i64 0] 141)
  have hP := halloc (World.alloc_heap_new w (.cells #[.int .i64 p.x, .int .i64 p.z, .int .i64 p.d] 141)) (.cells #[.int .i64 0, .int .i64 0, .int .i64 0] 141)
  have hQ := World.alloc_heap_new (w.alloc (.cells #[.int .i64 p.x, .int .i64 p.z, .int .i64 p.d] 141)) (.cells #[.int .i64 0, .int .i64 0, .int .i64 0] 141)
  have hB : Below w.heap.size w ((w.alloc (.cells #[.int .i64 p.x, .int .i64 p.z, .int .i64 p.d] 141)).alloc (.cells #[.int .i64 0, .int .i64 0, .int .i64 0] 141)) := ((Below.refl _ _).alloc (Nat.le_refl _) _).alloc (by simp) _
  simp only [World.size_alloc] at hQ
  obtain ⟨r, hr⟩ : ∃ r, r = holdsT t p := ⟨_, rfl⟩
  have HH := Lib.hid (fun W hW => holdst_any t p T W hW ht hp)
  rw [← hr] at HH ⊢
  clear hr
  obtain ⟨px, pz, pd⟩ := p
  simp only at hT1 hP hQ hB
  go_enter Tryz.func101, Tryz.ntmps101
  go_upto_region 1 with fail
  generalize ((w.alloc (.cells #[.int .i64 px, .int .i64 pz, .int .i64 pd] 141)).alloc (.cells #[.int .i64 0, .int .i64 0, .int .i64 0] 141)) = W at hT1 hP hQ hB ⊢
  have HH2 := Lib.hid (fun d os => HH.out _ (hkeep (below_regrown W d os) hT1))
  have k0 := hcell (k := 0) (v := .int .i64 px) hP rfl
  have k1 := hcell (k := 1) (v := .int .i64 pz) hP rfl
  have k2 := hcell (k := 2) (v := .int .i64 pd) hP rfl
  have e_k0 := fun d os => cell_regrown k0 d os
  have e_k1 := fun d os => cell_regrown k1 d os
  have e_k2 := fun d os => cell_regrown k2 d os
  clear k0 k1 k2
  refine wp_region_below_tail 3 (by kernel_rfl) (by kernel_rfl) ?_
  simp only [List.take_succ_cons, List.take_zero, List.drop_succ_cons, List.drop_zero]
  repeat (go_big_quiet_step (exact Calls.regrown_of (HH2.out _ _)))
  refine wpQuiet_nil ?_
  rintro w8 ⟨⟨dq, osq⟩, hw8⟩
  have hstep : Below W.heap.size W w8 := by rw [hw8]; exact below_regrown W dq osq
  clear hw8 e_k0 e_k1 e_k2
  have hQ8 := hkeep hstep hQ
  have hB8 := hB.trans (hstep.mono hB.size)
  have f0 := hfroz (k := 0) hQ8
  have f1 := hfroz (k := 1) hQ8
  have f2 := hfroz (k := 2) hQ8
  have z0 := hcell (k := 0) (v := .int .i64 0) hQ8 rfl
  have z1 := hcell (k := 1) (v := .int .i64 0) hQ8 rfl
  have z2 := hcell (k := 2) (v := .int .i64 0) hQ8 rfl
  have hQ9 := box3_set hQ8 (.int .i64 px) (.int .i64 pz) (.int .i64 pd)
  have hB9 := hB8.grown (box3_grown (b := w.heap.size + 1) (.int .i64 px) (.int .i64 pz) (.int .i64 pd)) hB8.size (fun j hj => by cases hj; omega)
  clear hstep
  go_wp2
  refine bodyPost_ret (results_ct1 rfl _ _ (w.heap.size + 1) 141 #[.int .i64 px, .int .i64 pz, .int .i64 pd] (0, 0) _ rfl hQ9 Tryz.underlying141 rfl (by kernel_rfl)) rfl ⟨?_, hB9⟩
  rfl

/-- The box of the test 'over'. -/
structure OverAt (O X Z : Nat) (x z : Int) (w : World) : Prop where
  fn : w.heap[O]? = some (.cells #[.func (.func 99) #[] #[.pointer (some ⟨X, 0, none⟩), .pointer (some ⟨Z, 0, none⟩)]] 142 (0, 0))
  x : Boxed w X 3 (.int .i64 x)
  z : Boxed w Z 3 (.int .i64 z)
theorem OverAt.below {O X Z : Nat} {x z : Int} {w w' : World} (h : OverAt O X Z x z w) (hb : Below w.heap.size w w') : OverAt O X Z x z w' :=
  ⟨hkeep hb h.fn, (hb.block _ h.x.lt).trans h.x, (hb.block _ h.z.lt).trans h.z⟩
theorem OverAt.call {O X Z : Nat} {x z : Int} {w : World} (h : OverAt O X Z x z w) {p : Sp} (hx : -1 ≤ x ∧ x ≤ 32) (hz : -1 ≤ z ∧ z ≤ 32) (hp : SpSmall p) : Calls Tryz.prog 99 #[spA p, .pointer (some ⟨X, 0, none⟩), .pointer (some ⟨Z, 0, none⟩)] w fun e w' => e = .returned (.bool (overS x z p)) ∧ Below w.heap.size w w' :=
  over_any x z p X Z w h.x h.z hx hz hp

set_option maxRecDepth 100000 in
set_option maxHeartbeats 4000000 in
theorem cl3_any (x z : Int) (v : V3) (O X Z : Nat) (w : World) (hO : OverAt O X Z x z w) (hx : -1 ≤ x ∧ x ≤ 32) (hz : -1 ≤ z ∧ z ≤ 32) (hv : vOk v = true) :
    Calls Tryz.prog 104 #[v3A v, .pointer (some ⟨O, 0, none⟩)] w fun e w' => e = .returned (.tuple #[spA ⟨v.x, v.z, 1⟩, .bool (overS x z ⟨v.x, v.z, 1⟩)]) ∧ Below w.heap.size w w' := by
  have hp : SpSmall ⟨v.x, v.z, 1⟩ := by rw [vOk_iff] at hv; unfold SpSmall; simp only; omega
  obtain ⟨r, hr⟩ : ∃ r, r = overS x z ⟨v.x, v.z, 1⟩ := ⟨_, rfl⟩
  have HH : Hid (∀ W, OverAt O X Z x z W → Calls Tryz.prog 99 #[spA ⟨v.x, v.z, 1⟩, .pointer (some ⟨X, 0, none⟩), .pointer (some ⟨Z, 0, none⟩)] W fun e w' => e = .returned (.bool r) ∧ Below W.heap.size W w') := fun W hW => by rw [hr]; exact hW.call hx hz hp
  rw [← hr]
  clear hr hp hv
  obtain ⟨vx, vy, vz⟩ := v
  simp only at HH ⊢
  have hb3 : Below w.heap.size w (((w.alloc (.cells #[.int .i64 vx, .int .i64 vy, .int .i64 vz] 32)).alloc (.cells #[.int .i64 0, .int .i64 0, .int .i64 0] 141)).alloc (.cells #[.int .i64 vx, .int .i64 vz, .int .i64 1] 141)) := (((Below.refl _ _).alloc (Nat.le_refl _) _).alloc (by simp) _).alloc (by simp; omega) _
  have hO3 := hO.below hb3
  have hP := World.alloc_heap_new ((w.alloc (.cells #[.int .i64 vx, .int .i64 vy, .int .i64 vz] 32)).alloc (.cells #[.int .i64 0, .int .i64 0, .int .i64 0] 141)) (.cells #[.int .i64 vx, .int .i64 vz, .int .i64 1] 141)
  have hQ := halloc (World.alloc_heap_new (w.alloc (.cells #[.int .i64 vx, .int .i64 vy, .int .i64 vz] 32)) (.cells #[.int .i64 0, .int .i64 0, .int .i64 0] 141)) (.cells #[.int .i64 vx, .int .i64 vz, .int .i64 1] 141)
  simp only [World.size_alloc] at hP hQ
  go_enter Tryz.func104, Tryz.ntmps104
  go_upto_region 2 with fail
  generalize (((w.alloc (.cells #[.int .i64 vx, .int .i64 vy, .int .i64 vz] 32)).alloc (.cells #[.int .i64 0, .int .i64 0, .int .i64 0] 141)).alloc (.cells #[.int .i64 vx, .int .i64 vz, .int .i64 1] 141)) = W at hb3 hO3 hP hQ ⊢
  have HH2 := Lib.hid (fun d os => HH.out _ (hO3.below (below_regrown W d os)))
  have k0 := hcell (k := 0) (v := .int .i64 vx) hP rfl
  have k1 := hcell (k := 1) (v := .int .i64 vz) hP rfl
  have k2 := hcell (k := 2) (v := .int .i64 1) hP rfl
  have k3 := hcell (k := 0) (v := .func (.func 99) #[] #[.pointer (some ⟨X, 0, none⟩), .pointer (some ⟨Z, 0, none⟩)]) hO3.fn rfl
  have e_k0 := fun d os => cell_regrown k0 d os
  have e_k1 := fun d os => cell_regrown k1 d os
  have e_k2 := fun d os => cell_regrown k2 d os
  have e_k3 := fun d os => cell_regrown k3 d os
  clear k0 k1 k2 k3
  refine wp_region_below_tail 4 (by kernel_rfl) (by kernel_rfl) ?_
  simp only [List.take_succ_cons, List.take_zero, List.drop_succ_cons, List.drop_zero]
  repeat (go_big_quiet_step (exact Calls.regrown_of (HH2.out _ _)))
  refine wpQuiet_nil ?_
  rintro w8 ⟨⟨dq, osq⟩, hw8⟩
  have hstep : Below W.heap.size W w8 := by rw [hw8]; exact below_regrown W dq osq
  clear hw8 e_k0 e_k1 e_k2 e_k3
  have hQ8 := hkeep hstep hQ
  have hB8 := hb3.trans (hstep.mono hb3.size)
  have f0 := hfroz (k := 0) hQ8
  have f1 := hfroz (k := 1) hQ8
  have f2 := hfroz (k := 2) hQ8
  have z0 := hcell (k := 0) (v := .int .i64 0) hQ8 rfl
  have z1 := hcell (k := 1) (v := .int .i64 0) hQ8 rfl
  have z2 := hcell (k := 2) (v := .int .i64 0) hQ8 rfl
  have hQ9 := box3_set hQ8 (.int .i64 vx) (.int .i64 vz) (.int .i64 1)
  have hB9 := hB8.grown (box3_grown (b := w.heap.size + 1) (.int .i64 vx) (.int .i64 vz) (.int .i64 1)) hB8.size (fun j hj => by cases hj; omega)
  clear hstep
  go_wp2
  refine bodyPost_ret (results_ct1 rfl _ _ (w.heap.size + 1) 141 #[.int .i64 vx, .int .i64 vz, .int .i64 1] (0, 0) _ rfl hQ9 Tryz.underlying141 rfl (by kernel_rfl)) rfl ⟨?_, hB9⟩
  rfl

set_option maxRecDepth 100000 in
set_option maxHeartbeats 4000000 in
theorem cl4_any (t : T3) (p : Sp) (T : Nat) (w : World) (hT : w.heap[T]? = some (.cells (t3C t) 137 (0, 0))) (ht : tOk t) (hp : SpSmall p) (hpd : 0 < p.d) :
    Calls Tryz.prog 108 #[spA p, .pointer (some ⟨T, 0, none⟩)] w fun e w' => e = .returned (.tuple #[crA (liftT t p), .bool true]) ∧ Below w.heap.size w w' := by
  have hT1 := halloc (halloc hT (.cells #[.int .i64 p.x, .int .i64 p.z, .int .i64 p.d] 141)) (.cells #[.int .i64 0, .int .i64 0, .int .i64 0, .int .i64 0] 70)
  have hP := halloc (World.alloc_heap_new w (.cells #[.int .i64 p.x, .int .i64 p.z, .int .i64 p.d] 141)) (.cells #[.int .i64 0, .int .i64 0, .int .i64 0, .int .i64 0] 70)
  have hQ := World.alloc_heap_new (w.alloc (.cells #[.int .i64 p.x, .int .i64 p.z, .int .i64 p.d] 141)) (.cells #[.int .i64 0, .int .i64 0, .int .i64 0, .int .i64 0] 70)
  have hB : Below w.heap.size w ((w.alloc (.cells #[.int .i64 p.x, .int .i64 p.z, .int .i64 p.d] 141)).alloc (.cells #[.int .i64 0, .int .i64 0, .int .i64 0, .int .i64 0] 70)) := ((Below.refl _ _).alloc (Nat.le_refl _) _).alloc (by simp) _
  simp only [World.size_alloc] at hQ
  obtain ⟨r, hr⟩ : ∃ r, r = liftT t p := ⟨_, rfl⟩
  have HH := Lib.hid (fun W hW => lift_any t p T W hW ht hp hpd)
  rw [← hr] at HH ⊢
  clear hr
  obtain ⟨px, pz, pd⟩ := p
  obtain ⟨rx, rz, ry, rd⟩ := r
  simp only at hT1 hP hQ hB
  have k0 := hcell (k := 0) (v := .int .i64 px) hP rfl
  have k1 := hcell (k := 1) (v := .int .i64 pz) hP rfl
  have k2 := hcell (k := 2) (v := .int .i64 pd) hP rfl
  go_enter Tryz.func108, Tryz.ntmps108
  go_wp2_with fail
  refine (HH.out _ hT1).mono ?_
  rintro e w8 ⟨rfl, hstep⟩
  have hQ8 := hkeep hstep hQ
  have hB8 := hB.trans (hstep.mono hB.size)
  have f0 := hfroz (k := 0) hQ8
  have f1 := hfroz (k := 1) hQ8
  have f2 := hfroz (k := 2) hQ8
  have f3 := hfroz (k := 3) hQ8
  have z0 := hcell (k := 0) (v := .int .i64 0) hQ8 rfl
  have z1 := hcell (k := 1) (v := .int .i64 0) hQ8 rfl
  have z2 := hcell (k := 2) (v := .int .i64 0) hQ8 rfl
  have z3 := hcell (k := 3) (v := .int .i64 0) hQ8 rfl
  have hQ9 := box4_set hQ8 (.int .i64 rx) (.int .i64 rz) (.int .i64 ry) (.int .i64 rd)
  have hB9 := hB8.grown (box4_grown (b := w.heap.size + 1) (.int .i64 rx) (.int .i64 rz) (.int .i64 ry) (.int .i64 rd)) hB8.size (fun j hj => by cases hj; omega)
  clear hstep k0 k1 k2 hB8 hQ8 hQ hT1 hP hB
  go_wp2
  refine bodyPost_ret (results_ct1 rfl _ _ (w.heap.size + 1) 70 #[.int .i64 rx, .int .i64 rz, .int .i64 ry, .int .i64 rd] (0, 0) _ rfl hQ9 Tryz.underlying70 rfl (by kernel_rfl)) rfl ⟨?_, hB9⟩
  rfl
end Go.Proofs.YtdkikecjlbgmdaaGreat
