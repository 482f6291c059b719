/- Walks: package tri: bounds, corners, normals, whether it may be walked, whether it may be. -/
import Derived.Test.YtjiklfffcnfdjaaGreatClpP
import Derived.Test.YtjiklfffcnfdjaaGreatGp
import Derived.Test.YtjiklfffcnfdjaaGreatCfg
import Derived.Test.YtjiklfffcnfdjaaGreatGo
import Derived.Deep.RegionHeld3
import Derived.Deep.DeepCutAuto
namespace Go.Proofs.YtjiklfffcnfdjaaGreat
open Go.RowKit
attribute [local go_sem] Instr.index

abbrev vtA (v : V3) : Value := .agg #[.int .i64 v.x, .int .i64 v.y, .int .i64 v.z]
theorem results_c2 {P : Program} {fn : Func} {p q : Tmp} {ty ty' : TypeId} (h : fn.results = #[.cell p ty, .cell q ty']) (tmps : Array Value) (w : World) (g : Nat) (t : TypeId) (cs : Array Value) (fr : Nat × Nat) (d : TypeDesc)
    (g' : Nat) (t' : TypeId) (cs' : Array Value) (fr' : Nat × Nat) (d' : TypeDesc)
    (hp : tmps.getD p undef = .pointer (some ⟨g, 0, none⟩)) (hg : w.heap[g]? = some (.cells cs t fr))
    (hu : P.underlying ty = some d) (hd : (match d with | .struct _ | .array _ _ => true | _ => false) = true) (hi : (P.info? ty).map (·.size) = some cs.size)
    (hp' : tmps.getD q undef = .pointer (some ⟨g', 0, none⟩)) (hg' : w.heap[g']? = some (.cells cs' t' fr'))
    (hu' : P.underlying ty' = some d') (hd' : (match d' with | .struct _ | .array _ _ => true | _ => false) = true) (hi' : (P.info? ty').map (·.size) = some cs'.size) :
    (results fn tmps).run P w = .ok (.tuple #[.agg cs, .agg cs']) w := by
  have e1 : tmps[p]?.getD undef = .pointer (some ⟨g, 0, none⟩) := by simpa using hp
  have e2 : tmps[q]?.getD undef = .pointer (some ⟨g', 0, none⟩) := by simpa using hp'
  simp [results, h, e1, e2, asAddr, run_loadVar_row w g t ty cs fr d hg hu hd hi, run_loadVar_row w g' t' ty' cs' fr' d' hg' hu' hd' hi', Sem.run_bind, Result.andThen]

theorem mn_ite (x y : Int) : (if y < x then y else x) = min x y := by split <;> omega
theorem mx_ite (x y : Int) : (if x < y then y else x) = max x y := by split <;> omega
theorem bmin_any (x y : Int) (w : World) : Calls Tryz.prog 83 #[.int .i64 x, .int .i64 y] w fun e w' => e = .returned (.int .i64 (min x y)) ∧ Below w.heap.size w w' := by
  go_enter Tryz.func83, Tryz.ntmps83
  go_wp2
  all_goals
    go_ret
    refine ⟨ret_int ?_, Below.refl _ _⟩
    omega
theorem bmax_any (x y : Int) (w : World) : Calls Tryz.prog 84 #[.int .i64 x, .int .i64 y] w fun e w' => e = .returned (.int .i64 (max x y)) ∧ Below w.heap.size w w' := by
  go_enter Tryz.func84, Tryz.ntmps84
  go_wp2
  all_goals
    go_ret
    refine ⟨ret_int ?_, Below.refl _ _⟩
    omega
set_option maxRecDepth 100000 in
set_option maxHeartbeats 2000000 in
theorem trless_any (u v : V3) (w : World) (hu : (-100000 ≤ u.x ∧ u.x ≤ 100000) ∧ (-100000 ≤ u.y ∧ u.y ≤ 100000) ∧ (-100000 ≤ u.z ∧ u.z ≤ 100000)) (hv : (-100000 ≤ v.x ∧ v.x ≤ 100000) ∧ (-100000 ≤ v.y ∧ v.y ≤ 100000) ∧ (-100000 ≤ v.z ∧ v.z ≤ 100000)) :
    Calls Tryz.prog 62 #[vtA u, vtA v] w fun e w' => e = .returned (vtA ⟨u.x - v.x, u.y - v.y, u.z - v.z⟩) ∧ Below w.heap.size w w' := by
  obtain ⟨ux, uy, uz⟩ := u
  obtain ⟨vx, vy, vz⟩ := v
  simp only at hu hv
  have e1 : IntKind.i64.wrap (ux - vx) = ux - vx := by rw [IntKind.wrap_i64]; omega
  have e2 : IntKind.i64.wrap (uy - vy) = uy - vy := by rw [IntKind.wrap_i64]; omega
  have e3 : IntKind.i64.wrap (uz - vz) = uz - vz := by rw [IntKind.wrap_i64]; omega
  clear hu hv
  have hQ := World.alloc_heap_new ((w.alloc (.cells #[.int .i64 ux, .int .i64 uy, .int .i64 uz] 74)).alloc (.cells #[.int .i64 vx, .int .i64 vy, .int .i64 vz] 74)) (.cells #[.int .i64 (ux - vx), .int .i64 (uy - vy), .int .i64 (uz - vz)] 74)
  have hB : Below w.heap.size w (((w.alloc (.cells #[.int .i64 ux, .int .i64 uy, .int .i64 uz] 74)).alloc (.cells #[.int .i64 vx, .int .i64 vy, .int .i64 vz] 74)).alloc (.cells #[.int .i64 (ux - vx), .int .i64 (uy - vy), .int .i64 (uz - vz)] 74)) := (((Below.refl _ _).alloc (Nat.le_refl _) _).alloc (by simp) _).alloc (by simp; omega) _
  simp only [World.size_alloc] at hQ
  go_enter Tryz.func62, Tryz.ntmps62
  go_wp2
  refine bodyPost_ret (results_cell_row rfl _ _ (w.heap.size + 1 + 1) 74 #[.int .i64 (ux - vx), .int .i64 (uy - vy), .int .i64 (uz - vz)] (0, 0) _ rfl hQ Tryz.underlying74 rfl (by kernel_rfl)) rfl ⟨rfl, hB⟩
end Go.Proofs.YtjiklfffcnfdjaaGreat

namespace Go.Proofs.YtjiklfffcnfdjaaGreat
open Go.RowKit
attribute [local go_sem] Instr.index

abbrev trO (i : Int) (a b c : V3) : Obj := .cells #[.int .i64 i, .int .i64 a.x, .int .i64 a.y, .int .i64 a.z, .int .i64 b.x, .int .i64 b.y, .int .i64 b.z, .int .i64 c.x, .int .i64 c.y, .int .i64 c.z] 77 (0, 0)
set_option maxRecDepth 100000 in
set_option maxHeartbeats 4000000 in
theorem bndmin_any (i : Int) (a b c : V3) (T : Nat) (w : World) (hT : w.heap[T]? = some (trO i a b c)) :
    Calls Tryz.prog 82 #[.func (.func 83) #[] #[], .pointer (some ⟨T, 0, none⟩)] w fun e w' => e = .returned (vtA ⟨min a.x (min b.x c.x), min a.y (min b.y c.y), min a.z (min b.z c.z)⟩) ∧ Below w.heap.size w w' := by
  obtain ⟨ax, ay, az⟩ := a
  obtain ⟨bx, by_, bz⟩ := b
  obtain ⟨cx, cy, cz⟩ := c
  dsimp only [trO] at hT
  have F := Lib.hid (fun x y W => bmin_any x y W)
  have hQ := World.alloc_heap_new w (.cells #[.int .i64 0, .int .i64 0, .int .i64 0] 74)
  have hB : Below w.heap.size w (w.alloc (.cells #[.int .i64 0, .int .i64 0, .int .i64 0] 74)) := (Below.refl _ _).alloc (Nat.le_refl _) _
  have hTl := hblt hT
  have hT := halloc hT (.cells #[.int .i64 0, .int .i64 0, .int .i64 0] 74)
  go_enter Tryz.func82, Tryz.ntmps82
  go_upto_region 1 with fail
  generalize hW0 : w.alloc (.cells #[.int .i64 0, .int .i64 0, .int .i64 0] 74) = W0 at hT hQ hB ⊢
  clear hW0
  have q1 := hcell (k := 1) (v := .int .i64 ax) hT rfl
  have q2 := hcell (k := 2) (v := .int .i64 ay) hT rfl
  have q3 := hcell (k := 3) (v := .int .i64 az) hT rfl
  have f0 := hfroz (k := 0) hQ
  have f1 := hfroz (k := 1) hQ
  have f2 := hfroz (k := 2) hQ
  have z0 := hcell (k := 0) (v := .int .i64 0) hQ rfl
  have z1 := hcell (k := 1) (v := .int .i64 0) hQ rfl
  have z2 := hcell (k := 2) (v := .int .i64 0) hQ rfl
  have hQ1 := box3_set hQ (.int .i64 ax) (.int .i64 ay) (.int .i64 az)
  have hG1 := box3_grown (w := W0) (b := w.heap.size) (.int .i64 ax) (.int .i64 ay) (.int .i64 az)
  have hB1 := hB.grown hG1 hB.size (fun j hj => by cases hj; omega)
  have hT1 := hgrown hG1 hT (by simp; omega)
  go_upto_region 2 with fail
  generalize (((W0.setCell ⟨w.heap.size, 0, none⟩ (.int .i64 ax)).setCell ⟨w.heap.size, 1, none⟩ (.int .i64 ay)).setCell ⟨w.heap.size, 2, none⟩ (.int .i64 az)) = W1 at hQ1 hB1 hT1 ⊢
  clear q1 q2 q3 f0 f1 f2 z0 z1 z2 hG1 hB hT hQ
  go_wp2
  refine wp_loop_rounds 4 ?_
  rw [rounds_succ]
  have q1 := hcell (k := 1) (v := .int .i64 ax) hT1 rfl
  have q2 := hcell (k := 2) (v := .int .i64 ay) hT1 rfl
  have q3 := hcell (k := 3) (v := .int .i64 az) hT1 rfl
  go_upto_region 6 with fail
  have hV := World.alloc_heap_new W1 (.cells #[.int .i64 ax, .int .i64 ay, .int .i64 az] 74)
  have hQ' := halloc hQ1 (.cells #[.int .i64 ax, .int .i64 ay, .int .i64 az] 74)
  have hT' := halloc hT1 (.cells #[.int .i64 ax, .int .i64 ay, .int .i64 az] 74)
  have hB' := hB1.alloc hB1.size (.cells #[.int .i64 ax, .int .i64 ay, .int .i64 az] 74)
  generalize W1.alloc (.cells #[.int .i64 ax, .int .i64 ay, .int .i64 az] 74) = W2 at hV hQ' hT' hB' ⊢
  have k0 := hcell (k := 0) (v := .int .i64 ax) hQ' rfl
  have k1 := hcell (k := 1) (v := .int .i64 ay) hQ' rfl
  have k2 := hcell (k := 2) (v := .int .i64 az) hQ' rfl
  have k3 := hcell (k := 0) (v := .int .i64 ax) hV rfl
  have k4 := hcell (k := 1) (v := .int .i64 ay) hV rfl
  have k5 := hcell (k := 2) (v := .int .i64 az) hV rfl
  have e_k0 := fun d os => cell_regrown k0 d os
  have e_k1 := fun d os => cell_regrown k1 d os
  have e_k2 := fun d os => cell_regrown k2 d os
  have e_k3 := fun d os => cell_regrown k3 d os
  have e_k4 := fun d os => cell_regrown k4 d os
  have e_k5 := fun d os => cell_regrown k5 d os
  clear k0 k1 k2 k3 k4 k5 q1 q2 q3 hV
  refine wp_region_below_tail 19 (by kernel_rfl) (by kernel_rfl) ?_
  simp only [List.take_succ_cons, List.take_zero, List.drop_succ_cons, List.drop_zero]
  repeat (go_big_quiet_step (exact Calls.regrown_of (F.out _ _ _)))
  refine wpQuiet_nil ?_
  rintro w8 ⟨⟨dq, osq⟩, hw8⟩
  have hstep : Below W2.heap.size W2 w8 := by rw [hw8]; exact below_regrown W2 dq osq
  clear hw8 e_k0 e_k1 e_k2 e_k3 e_k4 e_k5
  have hQ8 := hkeep hstep hQ'
  have hT8 := hkeep hstep hT'
  have hB8 := hB'.trans (hstep.mono hB'.size)
  clear hstep hQ1 hT1 hB1 hQ' hT' hB'
  have f0 := hfroz (k := 0) hQ8
  have f1 := hfroz (k := 1) hQ8
  have f2 := hfroz (k := 2) hQ8
  have z0 := hcell (k := 0) (v := .int .i64 ax) hQ8 rfl
  have z1 := hcell (k := 1) (v := .int .i64 ay) hQ8 rfl
  have z2 := hcell (k := 2) (v := .int .i64 az) hQ8 rfl
  have hQ2 := box3_set hQ8 (.int .i64 ax) (.int .i64 ay) (.int .i64 az)
  have hG := box3_grown (w := w8) (b := w.heap.size) (.int .i64 ax) (.int .i64 ay) (.int .i64 az)
  have hB2 := hB8.grown hG hB8.size (fun j hj => by cases hj; omega)
  have hT2 := hgrown hG hT8 (by simp; omega)
  go_upto_region 7 with fail
  generalize (((w8.setCell ⟨w.heap.size, 0, none⟩ (.int .i64 ax)).setCell ⟨w.heap.size, 1, none⟩ (.int .i64 ay)).setCell ⟨w.heap.size, 2, none⟩ (.int .i64 az)) = W3 at hQ2 hB2 hT2 ⊢
  clear f0 f1 f2 z0 z1 z2 hG hQ8 hT8 hB8
  go_wp2
  rw [rounds_succ]
  have q1 := hcell (k := 4) (v := .int .i64 bx) hT2 rfl
  have q2 := hcell (k := 5) (v := .int .i64 by_) hT2 rfl
  have q3 := hcell (k := 6) (v := .int .i64 bz) hT2 rfl
  go_upto_region 6 with fail
  have hV := World.alloc_heap_new W3 (.cells #[.int .i64 bx, .int .i64 by_, .int .i64 bz] 74)
  have hQ' := halloc hQ2 (.cells #[.int .i64 bx, .int .i64 by_, .int .i64 bz] 74)
  have hT' := halloc hT2 (.cells #[.int .i64 bx, .int .i64 by_, .int .i64 bz] 74)
  have hB' := hB2.alloc hB2.size (.cells #[.int .i64 bx, .int .i64 by_, .int .i64 bz] 74)
  generalize W3.alloc (.cells #[.int .i64 bx, .int .i64 by_, .int .i64 bz] 74) = W4 at hV hQ' hT' hB' ⊢
  have k0 := hcell (k := 0) (v := .int .i64 ax) hQ' rfl
  have k1 := hcell (k := 1) (v := .int .i64 ay) hQ' rfl
  have k2 := hcell (k := 2) (v := .int .i64 az) hQ' rfl
  have k3 := hcell (k := 0) (v := .int .i64 bx) hV rfl
  have k4 := hcell (k := 1) (v := .int .i64 by_) hV rfl
  have k5 := hcell (k := 2) (v := .int .i64 bz) hV rfl
  have e_k0 := fun d os => cell_regrown k0 d os
  have e_k1 := fun d os => cell_regrown k1 d os
  have e_k2 := fun d os => cell_regrown k2 d os
  have e_k3 := fun d os => cell_regrown k3 d os
  have e_k4 := fun d os => cell_regrown k4 d os
  have e_k5 := fun d os => cell_regrown k5 d os
  clear k0 k1 k2 k3 k4 k5 q1 q2 q3 hV
  refine wp_region_below_tail 19 (by kernel_rfl) (by kernel_rfl) ?_
  simp only [List.take_succ_cons, List.take_zero, List.drop_succ_cons, List.drop_zero]
  repeat (go_big_quiet_step (exact Calls.regrown_of (F.out _ _ _)))
  refine wpQuiet_nil ?_
  rintro w8 ⟨⟨dq, osq⟩, hw8⟩
  have hstep : Below W4.heap.size W4 w8 := by rw [hw8]; exact below_regrown W4 dq osq
  clear hw8 e_k0 e_k1 e_k2 e_k3 e_k4 e_k5
  have hQ8 := hkeep hstep hQ'
  have hT8 := hkeep hstep hT'
  have hB8 := hB'.trans (hstep.mono hB'.size)
  clear hstep hQ2 hT2 hB2 hQ' hT' hB'
  have f0 := hfroz (k := 0) hQ8
  have f1 := hfroz (k := 1) hQ8
  have f2 := hfroz (k := 2) hQ8
  have z0 := hcell (k := 0) (v := .int .i64 ax) hQ8 rfl
  have z1 := hcell (k := 1) (v := .int .i64 ay) hQ8 rfl
  have z2 := hcell (k := 2) (v := .int .i64 az) hQ8 rfl
  have hQ3 := box3_set hQ8 (.int .i64 (min ax bx)) (.int .i64 (min ay by_)) (.int .i64 (min az bz))
  have hG := box3_grown (w := w8) (b := w.heap.size) (.int .i64 (min ax bx)) (.int .i64 (min ay by_)) (.int .i64 (min az bz))
  have hB3 := hB8.grown hG hB8.size (fun j hj => by cases hj; omega)
  have hT3 := hgrown hG hT8 (by simp; omega)
  go_upto_region 7 with fail
  generalize (((w8.setCell ⟨w.heap.size, 0, none⟩ (.int .i64 (min ax bx))).setCell ⟨w.heap.size, 1, none⟩ (.int .i64 (min ay by_))).setCell ⟨w.heap.size, 2, none⟩ (.int .i64 (min az bz))) = W5 at hQ3 hB3 hT3 ⊢
  clear f0 f1 f2 z0 z1 z2 hG hQ8 hT8 hB8
  go_wp2
  rw [rounds_succ]
  have q1 := hcell (k := 7) (v := .int .i64 cx) hT3 rfl
  have q2 := hcell (k := 8) (v := .int .i64 cy) hT3 rfl
  have q3 := hcell (k := 9) (v := .int .i64 cz) hT3 rfl
  go_upto_region 6 with fail
  have hV := World.alloc_heap_new W5 (.cells #[.int .i64 cx, .int .i64 cy, .int .i64 cz] 74)
  have hQ' := halloc hQ3 (.cells #[.int .i64 cx, .int .i64 cy, .int .i64 cz] 74)
  have hT' := halloc hT3 (.cells #[.int .i64 cx, .int .i64 cy, .int .i64 cz] 74)
  have hB' := hB3.alloc hB3.size (.cells #[.int .i64 cx, .int .i64 cy, .int .i64 cz] 74)
  generalize W5.alloc (.cells #[.int .i64 cx, .int .i64 cy, .int .i64 cz] 74) = W6 at hV hQ' hT' hB' ⊢
  have k0 := hcell (k := 0) (v := .int .i64 (min ax bx)) hQ' rfl
  have k1 := hcell (k := 1) (v := .int .i64 (min ay by_)) hQ' rfl
  have k2 := hcell (k := 2) (v := .int .i64 (min az bz)) hQ' rfl
  have k3 := hcell (k := 0) (v := .int .i64 cx) hV rfl
  have k4 := hcell (k := 1) (v := .int .i64 cy) hV rfl
  have k5 := hcell (k := 2) (v := .int .i64 cz) hV rfl
  have e_k0 := fun d os => cell_regrown k0 d os
  have e_k1 := fun d os => cell_regrown k1 d os
  have e_k2 := fun d os => cell_regrown k2 d os
  have e_k3 := fun d os => cell_regrown k3 d os
  have e_k4 := fun d os => cell_regrown k4 d os
  have e_k5 := fun d os => cell_regrown k5 d os
  clear k0 k1 k2 k3 k4 k5 q1 q2 q3 hV
  refine wp_region_below_tail 19 (by kernel_rfl) (by kernel_rfl) ?_
  simp only [List.take_succ_cons, List.take_zero, List.drop_succ_cons, List.drop_zero]
  repeat (go_big_quiet_step (exact Calls.regrown_of (F.out _ _ _)))
  refine wpQuiet_nil ?_
  rintro w8 ⟨⟨dq, osq⟩, hw8⟩
  have hstep : Below W6.heap.size W6 w8 := by rw [hw8]; exact below_regrown W6 dq osq
  clear hw8 e_k0 e_k1 e_k2 e_k3 e_k4 e_k5
  have hQ8 := hkeep hstep hQ'
  have hT8 := hkeep hstep hT'
  have hB8 := hB'.trans (hstep.mono hB'.size)
  clear hstep hQ3 hT3 hB3 hQ' hT' hB'
  have f0 := hfroz (k := 0) hQ8
  have f1 := hfroz (k := 1) hQ8
  have f2 := hfroz (k := 2) hQ8
  have z0 := hcell (k := 0) (v := .int .i64 (min ax bx)) hQ8 rfl
  have z1 := hcell (k := 1) (v := .int .i64 (min ay by_)) hQ8 rfl
  have z2 := hcell (k := 2) (v := .int .i64 (min az bz)) hQ8 rfl
  have hQ4 := box3_set hQ8 (.int .i64 (min ax (min bx cx))) (.int .i64 (min ay (min by_ cy))) (.int .i64 (min az (min bz cz)))
  have hG := box3_grown (w := w8) (b := w.heap.size) (.int .i64 (min ax (min bx cx))) (.int .i64 (min ay (min by_ cy))) (.int .i64 (min az (min bz cz)))
  have hB4 := hB8.grown hG hB8.size (fun j hj => by cases hj; omega)
  have hT4 := hgrown hG hT8 (by simp; omega)
  go_upto_region 7 with fail
  generalize (((w8.setCell ⟨w.heap.size, 0, none⟩ (.int .i64 (min ax (min bx cx)))).setCell ⟨w.heap.size, 1, none⟩ (.int .i64 (min ay (min by_ cy)))).setCell ⟨w.heap.size, 2, none⟩ (.int .i64 (min az (min bz cz)))) = W7 at hQ4 hB4 hT4 ⊢
  clear f0 f1 f2 z0 z1 z2 hG hQ8 hT8 hB8
  go_wp2
  rw [rounds_succ]
  have f0 := hfroz (k := 0) hQ4
  have f1 := hfroz (k := 1) hQ4
  have f2 := hfroz (k := 2) hQ4
  have z0 := hcell (k := 0) (v := .int .i64 (min ax (min bx cx))) hQ4 rfl
  have z1 := hcell (k := 1) (v := .int .i64 (min ay (min by_ cy))) hQ4 rfl
  have z2 := hcell (k := 2) (v := .int .i64 (min az (min bz cz))) hQ4 rfl
  have hQ9 := box3_set hQ4 (.int .i64 (min ax (min bx cx))) (.int .i64 (min ay (min by_ cy))) (.int .i64 (min az (min bz cz)))
  have hB9 := hB4.grown (box3_grown (w := W7) (b := w.heap.size) (.int .i64 (min ax (min bx cx))) (.int .i64 (min ay (min by_ cy))) (.int .i64 (min az (min bz cz)))) hB4.size (fun j hj => by cases hj; omega)
  go_wp2
  (try simp only [Exit.inBlock, Exit.then])
  refine bodyPost_ret (results_cell_row rfl _ _ w.heap.size 74 #[.int .i64 (min ax (min bx cx)), .int .i64 (min ay (min by_ cy)), .int .i64 (min az (min bz cz))] (0, 0) _ rfl hQ9 Tryz.underlying74 rfl (by kernel_rfl)) rfl ⟨rfl, hB9⟩
set_option maxRecDepth 100000 in
set_option maxHeartbeats 4000000 in
theorem bndmax_any (i : Int) (a b c : V3) (T : Nat) (w : World) (hT : w.heap[T]? = some (trO i a b c)) :
    Calls Tryz.prog 82 #[.func (.func 84) #[] #[], .pointer (some ⟨T, 0, none⟩)] w fun e w' => e = .returned (vtA ⟨max a.x (max b.x c.x), max a.y (max b.y c.y), max a.z (max b.z c.z)⟩) ∧ Below w.heap.size w w' := by
  obtain ⟨ax, ay, az⟩ := a
  obtain ⟨bx, by_, bz⟩ := b
  obtain ⟨cx, cy, cz⟩ := c
  dsimp only [trO] at hT
  have F := Lib.hid (fun x y W => bmax_any x y W)
  have hQ := World.alloc_heap_new w (.cells #[.int .i64 0, .int .i64 0, .int .i64 0] 74)
  have hB : Below w.heap.size w (w.alloc (.cells #[.int .i64 0, .int .i64 0, .int .i64 0] 74)) := (Below.refl _ _).alloc (Nat.le_refl _) _
  have hTl := hblt hT
  have hT := halloc hT (.cells #[.int .i64 0, .int .i64 0, .int .i64 0] 74)
  go_enter Tryz.func82, Tryz.ntmps82
  go_upto_region 1 with fail
  generalize hW0 : w.alloc (.cells #[.int .i64 0, .int .i64 0, .int .i64 0] 74) = W0 at hT hQ hB ⊢
  clear hW0
  have q1 := hcell (k := 1) (v := .int .i64 ax) hT rfl
  have q2 := hcell (k := 2) (v := .int .i64 ay) hT rfl
  have q3 := hcell (k := 3) (v := .int .i64 az) hT rfl
  have f0 := hfroz (k := 0) hQ
  have f1 := hfroz (k := 1) hQ
  have f2 := hfroz (k := 2) hQ
  have z0 := hcell (k := 0) (v := .int .i64 0) hQ rfl
  have z1 := hcell (k := 1) (v := .int .i64 0) hQ rfl
  have z2 := hcell (k := 2) (v := .int .i64 0) hQ rfl
  have hQ1 := box3_set hQ (.int .i64 ax) (.int .i64 ay) (.int .i64 az)
  have hG1 := box3_grown (w := W0) (b := w.heap.size) (.int .i64 ax) (.int .i64 ay) (.int .i64 az)
  have hB1 := hB.grown hG1 hB.size (fun j hj => by cases hj; omega)
  have hT1 := hgrown hG1 hT (by simp; omega)
  go_upto_region 2 with fail
  generalize (((W0.setCell ⟨w.heap.size, 0, none⟩ (.int .i64 ax)).setCell ⟨w.heap.size, 1, none⟩ (.int .i64 ay)).setCell ⟨w.heap.size, 2, none⟩ (.int .i64 az)) = W1 at hQ1 hB1 hT1 ⊢
  clear q1 q2 q3 f0 f1 f2 z0 z1 z2 hG1 hB hT hQ
  go_wp2
  refine wp_loop_rounds 4 ?_
  rw [rounds_succ]
  have q1 := hcell (k := 1) (v := .int .i64 ax) hT1 rfl
  have q2 := hcell (k := 2) (v := .int .i64 ay) hT1 rfl
  have q3 := hcell (k := 3) (v := .int .i64 az) hT1 rfl
  go_upto_region 6 with fail
  have hV := World.alloc_heap_new W1 (.cells #[.int .i64 ax, .int .i64 ay, .int .i64 az] 74)
  have hQ' := halloc hQ1 (.cells #[.int .i64 ax, .int .i64 ay, .int .i64 az] 74)
  have hT' := halloc hT1 (.cells #[.int .i64 ax, .int .i64 ay, .int .i64 az] 74)
  have hB' := hB1.alloc hB1.size (.cells #[.int .i64 ax, .int .i64 ay, .int .i64 az] 74)
  generalize W1.alloc (.cells #[.int .i64 ax, .int .i64 ay, .int .i64 az] 74) = W2 at hV hQ' hT' hB' ⊢
  have k0 := hcell (k := 0) (v := .int .i64 ax) hQ' rfl
  have k1 := hcell (k := 1) (v := .int .i64 ay) hQ' rfl
  have k2 := hcell (k := 2) (v := .int .i64 az) hQ' rfl
  have k3 := hcell (k := 0) (v := .int .i64 ax) hV rfl
  have k4 := hcell (k := 1) (v := .int .i64 ay) hV rfl
  have k5 := hcell (k := 2) (v := .int .i64 az) hV rfl
  have e_k0 := fun d os => cell_regrown k0 d os
  have e_k1 := fun d os => cell_regrown k1 d os
  have e_k2 := fun d os => cell_regrown k2 d os
  have e_k3 := fun d os => cell_regrown k3 d os
  have e_k4 := fun d os => cell_regrown k4 d os
  have e_k5 := fun d os => cell_regrown k5 d os
  clear k0 k1 k2 k3 k4 k5 q1 q2 q3 hV
  refine wp_region_below_tail 19 (by kernel_rfl) (by kernel_rfl) ?_
  simp only [List.take_succ_cons, List.take_zero, List.drop_succ_cons, List.drop_zero]
  repeat (go_big_quiet_step (exact Calls.regrown_of (F.out _ _ _)))
  refine wpQuiet_nil ?_
  rintro w8 ⟨⟨dq, osq⟩, hw8⟩
  have hstep : Below W2.heap.size W2 w8 := by rw [hw8]; exact below_regrown W2 dq osq
  clear hw8 e_k0 e_k1 e_k2 e_k3 e_k4 e_k5
  have hQ8 := hkeep hstep hQ'
  have hT8 := hkeep hstep hT'
  have hB8 := hB'.trans (hstep.mono hB'.size)
  clear hstep hQ1 hT1 hB1 hQ' hT' hB'
  have f0 := hfroz (k := 0) hQ8
  have f1 := hfroz (k := 1) hQ8
  have f2 := hfroz (k := 2) hQ8
  have z0 := hcell (k := 0) (v := .int .i64 ax) hQ8 rfl
  have z1 := hcell (k := 1) (v := .int .i64 ay) hQ8 rfl
  have z2 := hcell (k := 2) (v := .int .i64 az) hQ8 rfl
  have hQ2 := box3_set hQ8 (.int .i64 ax) (.int .i64 ay) (.int .i64 az)
  have hG := box3_grown (w := w8) (b := w.heap.size) (.int .i64 ax) (.int .i64 ay) (.int .i64 az)
  have hB2 := hB8.grown hG hB8.size (fun j hj => by cases hj; omega)
  have hT2 := hgrown hG hT8 (by simp; omega)
  go_upto_region 7 with fail
  generalize (((w8.setCell ⟨w.heap.size, 0, none⟩ (.int .i64 ax)).setCell ⟨w.heap.size, 1, none⟩ (.int .i64 ay)).setCell ⟨w.heap.size, 2, none⟩ (.int .i64 az)) = W3 at hQ2 hB2 hT2 ⊢
  clear f0 f1 f2 z0 z1 z2 hG hQ8 hT8 hB8
  go_wp2
  rw [rounds_succ]
  have q1 := hcell (k := 4) (v := .int .i64 bx) hT2 rfl
  have q2 := hcell (k := 5) (v := .int .i64 by_) hT2 rfl
  have q3 := hcell (k := 6) (v := .int .i64 bz) hT2 rfl
  go_upto_region 6 with fail
  have hV := World.alloc_heap_new W3 (.cells #[.int .i64 bx, .int .i64 by_, .int .i64 bz] 74)
  have hQ' := halloc hQ2 (.cells #[.int .i64 bx, .int .i64 by_, .int .i64 bz] 74)
  have hT' := halloc hT2 (.cells #[.int .i64 bx, .int .i64 by_, .int .i64 bz] 74)
  have hB' := hB2.alloc hB2.size (.cells #[.int .i64 bx, .int .i64 by_, .int .i64 bz] 74)
  generalize W3.alloc (.cells #[.int .i64 bx, .int .i64 by_, .int .i64 bz] 74) = W4 at hV hQ' hT' hB' ⊢
  have k0 := hcell (k := 0) (v := .int .i64 ax) hQ' rfl
  have k1 := hcell (k := 1) (v := .int .i64 ay) hQ' rfl
  have k2 := hcell (k := 2) (v := .int .i64 az) hQ' rfl
  have k3 := hcell (k := 0) (v := .int .i64 bx) hV rfl
  have k4 := hcell (k := 1) (v := .int .i64 by_) hV rfl
  have k5 := hcell (k := 2) (v := .int .i64 bz) hV rfl
  have e_k0 := fun d os => cell_regrown k0 d os
  have e_k1 := fun d os => cell_regrown k1 d os
  have e_k2 := fun d os => cell_regrown k2 d os
  have e_k3 := fun d os => cell_regrown k3 d os
  have e_k4 := fun d os => cell_regrown k4 d os
  have e_k5 := fun d os => cell_regrown k5 d os
  clear k0 k1 k2 k3 k4 k5 q1 q2 q3 hV
  refine wp_region_below_tail 19 (by kernel_rfl) (by kernel_rfl) ?_
  simp only [List.take_succ_cons, List.take_zero, List.drop_succ_cons, List.drop_zero]
  repeat (go_big_quiet_step (exact Calls.regrown_of (F.out _ _ _)))
  refine wpQuiet_nil ?_
  rintro w8 ⟨⟨dq, osq⟩, hw8⟩
  have hstep : Below W4.heap.size W4 w8 := by rw [hw8]; exact below_regrown W4 dq osq
  clear hw8 e_k0 e_k1 e_k2 e_k3 e_k4 e_k5
  have hQ8 := hkeep hstep hQ'
  have hT8 := hkeep hstep hT'
  have hB8 := hB'.trans (hstep.mono hB'.size)
  clear hstep hQ2 hT2 hB2 hQ' hT' hB'
  have f0 := hfroz (k := 0) hQ8
  have f1 := hfroz (k := 1) hQ8
  have f2 := hfroz (k := 2) hQ8
  have z0 := hcell (k := 0) (v := .int .i64 ax) hQ8 rfl
  have z1 := hcell (k := 1) (v := .int .i64 ay) hQ8 rfl
  have z2 := hcell (k := 2) (v := .int .i64 az) hQ8 rfl
  have hQ3 := box3_set hQ8 (.int .i64 (max ax bx)) (.int .i64 (max ay by_)) (.int .i64 (max az bz))
  have hG := box3_grown (w := w8) (b := w.heap.size) (.int .i64 (max ax bx)) (.int .i64 (max ay by_)) (.int .i64 (max az bz))
  have hB3 := hB8.grown hG hB8.size (fun j hj => by cases hj; omega)
  have hT3 := hgrown hG hT8 (by simp; omega)
  go_upto_region 7 with fail
  generalize (((w8.setCell ⟨w.heap.size, 0, none⟩ (.int .i64 (max ax bx))).setCell ⟨w.heap.size, 1, none⟩ (.int .i64 (max ay by_))).setCell ⟨w.heap.size, 2, none⟩ (.int .i64 (max az bz))) = W5 at hQ3 hB3 hT3 ⊢
  clear f0 f1 f2 z0 z1 z2 hG hQ8 hT8 hB8
  go_wp2
  rw [rounds_succ]
  have q1 := hcell (k := 7) (v := .int .i64 cx) hT3 rfl
  have q2 := hcell (k := 8) (v := .int .i64 cy) hT3 rfl
  have q3 := hcell (k := 9) (v := .int .i64 cz) hT3 rfl
  go_upto_region 6 with fail
  have hV := World.alloc_heap_new W5 (.cells #[.int .i64 cx, .int .i64 cy, .int .i64 cz] 74)
  have hQ' := halloc hQ3 (.cells #[.int .i64 cx, .int .i64 cy, .int .i64 cz] 74)
  have hT' := halloc hT3 (.cells #[.int .i64 cx, .int .i64 cy, .int .i64 cz] 74)
  have hB' := hB3.alloc hB3.size (.cells #[.int .i64 cx, .int .i64 cy, .int .i64 cz] 74)
  generalize W5.alloc (.cells #[.int .i64 cx, .int .i64 cy, .int .i64 cz] 74) = W6 at hV hQ' hT' hB' ⊢
  have k0 := hcell (k := 0) (v := .int .i64 (max ax bx)) hQ' rfl
  have k1 := hcell (k := 1) (v := .int .i64 (max ay by_)) hQ' rfl
  have k2 := hcell (k := 2) (v := .int .i64 (max az bz)) hQ' rfl
  have k3 := hcell (k := 0) (v := .int .i64 cx) hV rfl
  have k4 := hcell (k := 1) (v := .int .i64 cy) hV rfl
  have k5 := hcell (k := 2) (v := .int .i64 cz) hV rfl
  have e_k0 := fun d os => cell_regrown k0 d os
  have e_k1 := fun d os => cell_regrown k1 d os
  have e_k2 := fun d os => cell_regrown k2 d os
  have e_k3 := fun d os => cell_regrown k3 d os
  have e_k4 := fun d os => cell_regrown k4 d os
  have e_k5 := fun d os => cell_regrown k5 d os
  clear k0 k1 k2 k3 k4 k5 q1 q2 q3 hV
  refine wp_region_below_tail 19 (by kernel_rfl) (by kernel_rfl) ?_
  simp only [List.take_succ_cons, List.take_zero, List.drop_succ_cons, List.drop_zero]
  repeat (go_big_quiet_step (exact Calls.regrown_of (F.out _ _ _)))
  refine wpQuiet_nil ?_
  rintro w8 ⟨⟨dq, osq⟩, hw8⟩
  have hstep : Below W6.heap.size W6 w8 := by rw [hw8]; exact below_regrown W6 dq osq
  clear hw8 e_k0 e_k1 e_k2 e_k3 e_k4 e_k5
  have hQ8 := hkeep hstep hQ'
  have hT8 := hkeep hstep hT'
  have hB8 := hB'.trans (hstep.mono hB'.size)
  clear hstep hQ3 hT3 hB3 hQ' hT' hB'
  have f0 := hfroz (k := 0) hQ8
  have f1 := hfroz (k := 1) hQ8
  have f2 := hfroz (k := 2) hQ8
  have z0 := hcell (k := 0) (v := .int .i64 (max ax bx)) hQ8 rfl
  have z1 := hcell (k := 1) (v := .int .i64 (max ay by_)) hQ8 rfl
  have z2 := hcell (k := 2) (v := .int .i64 (max az bz)) hQ8 rfl
  have hQ4 := box3_set hQ8 (.int .i64 (max ax (max bx cx))) (.int .i64 (max ay (max by_ cy))) (.int .i64 (max az (max bz cz)))
  have hG := box3_grown (w := w8) (b := w.heap.size) (.int .i64 (max ax (max bx cx))) (.int .i64 (max ay (max by_ cy))) (.int .i64 (max az (max bz cz)))
  have hB4 := hB8.grown hG hB8.size (fun j hj => by cases hj; omega)
  have hT4 := hgrown hG hT8 (by simp; omega)
  go_upto_region 7 with fail
  generalize (((w8.setCell ⟨w.heap.size, 0, none⟩ (.int .i64 (max ax (max bx cx)))).setCell ⟨w.heap.size, 1, none⟩ (.int .i64 (max ay (max by_ cy)))).setCell ⟨w.heap.size, 2, none⟩ (.int .i64 (max az (max bz cz)))) = W7 at hQ4 hB4 hT4 ⊢
  clear f0 f1 f2 z0 z1 z2 hG hQ8 hT8 hB8
  go_wp2
  rw [rounds_succ]
  have f0 := hfroz (k := 0) hQ4
  have f1 := hfroz (k := 1) hQ4
  have f2 := hfroz (k := 2) hQ4
  have z0 := hcell (k := 0) (v := .int .i64 (max ax (max bx cx))) hQ4 rfl
  have z1 := hcell (k := 1) (v := .int .i64 (max ay (max by_ cy))) hQ4 rfl
  have z2 := hcell (k := 2) (v := .int .i64 (max az (max bz cz))) hQ4 rfl
  have hQ9 := box3_set hQ4 (.int .i64 (max ax (max bx cx))) (.int .i64 (max ay (max by_ cy))) (.int .i64 (max az (max bz cz)))
  have hB9 := hB4.grown (box3_grown (w := W7) (b := w.heap.size) (.int .i64 (max ax (max bx cx))) (.int .i64 (max ay (max by_ cy))) (.int .i64 (max az (max bz cz)))) hB4.size (fun j hj => by cases hj; omega)
  go_wp2
  (try simp only [Exit.inBlock, Exit.then])
  refine bodyPost_ret (results_cell_row rfl _ _ w.heap.size 74 #[.int .i64 (max ax (max bx cx)), .int .i64 (max ay (max by_ cy)), .int .i64 (max az (max bz cz))] (0, 0) _ rfl hQ9 Tryz.underlying74 rfl (by kernel_rfl)) rfl ⟨rfl, hB9⟩
set_option maxRecDepth 100000 in
set_option maxHeartbeats 4000000 in
theorem bounds_any (i : Int) (a b c : V3) (w : World) :
    Calls Tryz.prog 63 #[.agg #[.int .i64 i, .int .i64 a.x, .int .i64 a.y, .int .i64 a.z, .int .i64 b.x, .int .i64 b.y, .int .i64 b.z, .int .i64 c.x, .int .i64 c.y, .int .i64 c.z]] w fun e w' => e = .returned (.tuple #[vtA ⟨min a.x (min b.x c.x), min a.y (min b.y c.y), min a.z (min b.z c.z)⟩, vtA ⟨max a.x (max b.x c.x), max a.y (max b.y c.y), max a.z (max b.z c.z)⟩]) ∧ Below w.heap.size w w' := by
  have hT := World.alloc_heap_new w (trO i a b c)
  have F1 := Lib.hid (fun T W hT => bndmin_any i a b c T W hT)
  have F2 := Lib.hid (fun T W hT => bndmax_any i a b c T W hT)
  generalize (min a.x (min b.x c.x)) = lx at F1 ⊢
  generalize (min a.y (min b.y c.y)) = ly at F1 ⊢
  generalize (min a.z (min b.z c.z)) = lz at F1 ⊢
  generalize (max a.x (max b.x c.x)) = ux at F2 ⊢
  generalize (max a.y (max b.y c.y)) = uy at F2 ⊢
  generalize (max a.z (max b.z c.z)) = uz at F2 ⊢
  obtain ⟨ax, ay, az⟩ := a
  obtain ⟨bx, by_, bz⟩ := b
  obtain ⟨cx, cy, cz⟩ := c
  dsimp only [trO] at hT F1 F2
  have hT := halloc (halloc hT (.cells #[.int .i64 0, .int .i64 0, .int .i64 0] 74)) (.cells #[.int .i64 0, .int .i64 0, .int .i64 0] 74)
  have hP := halloc (World.alloc_heap_new (w.alloc (.cells #[.int .i64 i, .int .i64 ax, .int .i64 ay, .int .i64 az, .int .i64 bx, .int .i64 by_, .int .i64 bz, .int .i64 cx, .int .i64 cy, .int .i64 cz] 77)) (.cells #[.int .i64 0, .int .i64 0, .int .i64 0] 74)) (.cells #[.int .i64 0, .int .i64 0, .int .i64 0] 74)
  have hQ := World.alloc_heap_new ((w.alloc (.cells #[.int .i64 i, .int .i64 ax, .int .i64 ay, .int .i64 az, .int .i64 bx, .int .i64 by_, .int .i64 bz, .int .i64 cx, .int .i64 cy, .int .i64 cz] 77)).alloc (.cells #[.int .i64 0, .int .i64 0, .int .i64 0] 74)) (.cells #[.int .i64 0, .int .i64 0, .int .i64 0] 74)
  have hB : Below w.heap.size w (((w.alloc (.cells #[.int .i64 i, .int .i64 ax, .int .i64 ay, .int .i64 az, .int .i64 bx, .int .i64 by_, .int .i64 bz, .int .i64 cx, .int .i64 cy, .int .i64 cz] 77)).alloc (.cells #[.int .i64 0, .int .i64 0, .int .i64 0] 74)).alloc (.cells #[.int .i64 0, .int .i64 0, .int .i64 0] 74)) := (((Below.refl _ _).alloc (Nat.le_refl _) _).alloc (by simp) _).alloc (by simp; omega) _
  simp only [World.size_alloc] at hP hQ
  go_enter Tryz.func63, Tryz.ntmps63
  go_upto_region 1 with fail
  generalize ((w.alloc (.cells #[.int .i64 i, .int .i64 ax, .int .i64 ay, .int .i64 az, .int .i64 bx, .int .i64 by_, .int .i64 bz, .int .i64 cx, .int .i64 cy, .int .i64 cz] 77)).alloc (.cells #[.int .i64 0, .int .i64 0, .int .i64 0] 74)).alloc (.cells #[.int .i64 0, .int .i64 0, .int .i64 0] 74) = W0 at hT hP hQ hB ⊢
  go_wp2_with fail
  refine (F1.out _ _ hT).mono ?_
  rintro e w1 ⟨rfl, hb1⟩
  have hT1 := hkeep hb1 hT
  have hP1 := hkeep hb1 hP
  have hQ1 := hkeep hb1 hQ
  have hB1 := hB.trans (hb1.mono hB.size)
  clear hT hP hQ hB hb1 F1
  go_wp2_with fail
  refine (F2.out _ _ hT1).mono ?_
  rintro e w2 ⟨rfl, hb2⟩
  have hP2 := hkeep hb2 hP1
  have hQ2 := hkeep hb2 hQ1
  have hB2 := hB1.trans (hb2.mono hB1.size)
  clear hT1 hP1 hQ1 hB1 hb2 F2
  have f0 := hfroz (k := 0) hP2
  have f1 := hfroz (k := 1) hP2
  have f2 := hfroz (k := 2) hP2
  have z0 := hcell (k := 0) (v := .int .i64 0) hP2 rfl
  have z1 := hcell (k := 1) (v := .int .i64 0) hP2 rfl
  have z2 := hcell (k := 2) (v := .int .i64 0) hP2 rfl
  have hG := box3_grown (w := w2) (b := w.heap.size + 1) (.int .i64 lx) (.int .i64 ly) (.int .i64 lz)
  have hP3 := box3_set hP2 (.int .i64 lx) (.int .i64 ly) (.int .i64 lz)
  have hQ3 := hgrown hG hQ2 (by simp)
  have hB3 := hB2.grown hG hB2.size (fun j hj => by cases hj; omega)
  have g0 := hfroz (k := 0) hQ3
  have g1 := hfroz (k := 1) hQ3
  have g2 := hfroz (k := 2) hQ3
  have y0 := hcell (k := 0) (v := .int .i64 0) hQ3 rfl
  have y1 := hcell (k := 1) (v := .int .i64 0) hQ3 rfl
  have y2 := hcell (k := 2) (v := .int .i64 0) hQ3 rfl
  have hG2 := box3_grown (w := ((w2.setCell ⟨w.heap.size + 1, 0, none⟩ (.int .i64 lx)).setCell ⟨w.heap.size + 1, 1, none⟩ (.int .i64 ly)).setCell ⟨w.heap.size + 1, 2, none⟩ (.int .i64 lz)) (b := w.heap.size + 1 + 1) (.int .i64 ux) (.int .i64 uy) (.int .i64 uz)
  have hQ4 := box3_set hQ3 (.int .i64 ux) (.int .i64 uy) (.int .i64 uz)
  have hP4 := hgrown hG2 hP3 (by simp)
  have hB4 := hB3.grown hG2 hB3.size (fun j hj => by cases hj; omega)
  clear hG hG2 hP2 hQ2 hB2 hP3 hQ3 hB3
  go_wp2
  (try simp only [Exit.inBlock, Exit.then])
  refine bodyPost_ret (results_c2 rfl _ _ (w.heap.size + 1) 74 #[.int .i64 lx, .int .i64 ly, .int .i64 lz] (0, 0) _ (w.heap.size + 1 + 1) 74 #[.int .i64 ux, .int .i64 uy, .int .i64 uz] (0, 0) _ rfl hP4 Tryz.underlying74 rfl (by kernel_rfl) rfl hQ4 Tryz.underlying74 rfl (by kernel_rfl)) rfl ⟨rfl, hB4⟩
end Go.Proofs.YtjiklfffcnfdjaaGreat
