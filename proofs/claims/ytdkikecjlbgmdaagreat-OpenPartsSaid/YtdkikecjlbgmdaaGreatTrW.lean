/- Walks: package tri: bounds, corners, normals, whether it may be walked, whether it may be. -/
import Derived.Test.YtdkikecjlbgmdaaGreatClpP
import Derived.Test.YtdkikecjlbgmdaaGreatGp
import Derived.Test.YtdkikecjlbgmdaaGreatCfg
import Derived.Test.YtdkikecjlbgmdaaGreatGo
import Derived.Deep.RegionHeld3
namespace Go.Proofs.YtdkikecjlbgmdaaGreat
open Go.RowKit
attribute [local go_sem] Instr.index

abbrev vtA (v : V3) : Value := .agg #[.int .i64 v.x, .int .i64 v.y, .int .i64 v.z]
theorem results_c2 {P : Program} {fn : Func} {p q : Tmp} {ty ty' : TypeId} (h : fn.results = #[.cell p ty, .cell q ty']) (tmps : Array Value) (w : World) (g : Nat) (t : TypeId) (cs : Array Value) (fr : Nat × Nat) (d : TypeDesc)
    (g' : Nat) (t' : TypeId) (cs' : Array Value) (fr' : Nat × Nat) (d' : TypeDesc)
    (hp : tmps.getD p undef = .pointer (some ⟨g, 0, none⟩)) (hg : w.heap[g]? = some (.cells cs t fr))
    (hu : P.underlying ty = some d) (hd : (match d with | .struct _ | .array _ _ => true | _ => false) = true) (hi : (P.info? ty).map (·.size) = some cs.size)
    (hp' : tmps.getD q undef = .pointer (some ⟨g', 0, none⟩)) (hg' : w.heap[g']? = some (.cells cs' t' fr'))
    (hu' : P.underlying ty' = some d') (hd' : (match d' with | .struct _ | .array _ _ => true | _ => false) = true) (hi' : (P.info? ty').map (·.size) = some cs'.size) :
    (results fn tmps).run P w = .ok (.tuple #[.agg cs, .agg cs']) w := by
  have e1 : tmps[p]?.getD undef = .pointer (some ⟨g, 0, none⟩) := by simpa using hp
  have e2 : tmps[q]?.getD undef = .pointer (some ⟨g', 0, none⟩) := by simpa using hp'
  simp [results, h, e1, e2, asAddr, run_loadVar_row w g t ty cs fr d hg hu hd hi, run_loadVar_row w g' t' ty' cs' fr' d' hg' hu' hd' hi', Sem.run_bind, Result.andThen]

theorem mn_ite (x y : Int) : (if y < x then y else x) = min x y := by split <;> omega
theorem mx_ite (x y : Int) : (if x < y then y else x) = max x y := by split <;> omega
theorem bmin_any (x y : Int) (w : World) : Calls Tryz.prog 96 #[.int .i64 x, .int .i64 y] w fun e w' => e = .returned (.int .i64 (min x y)) ∧ Below w.heap.size w w' := by
  go_enter Tryz.func96, Tryz.ntmps96
  go_wp2
  all_goals
    go_ret
    refine ⟨ret_int ?_, Below.refl _ _⟩
    omega
theorem bmax_any (x y : Int) (w : World) : Calls Tryz.prog 97 #[.int .i64 x, .int .i64 y] w fun e w' => e = .returned (.int .i64 (max x y)) ∧ Below w.heap.size w w' := by
  go_enter Tryz.func97, Tryz.ntmps97
  go_wp2
  all_goals
    go_ret
    refine ⟨ret_int ?_, Below.refl _ _⟩
    omega
set_option maxRecDepth 100000 in
set_option maxHeartbeats 2000000 in
theorem trless_any (u v : V3) (w : World) (hu : (-100000 ≤ u.x ∧ u.x ≤ 100000) ∧ (-100000 ≤ u.y ∧ u.y ≤ 100000) ∧ (-100000 ≤ u.z ∧ u.z ≤ 100000)) (hv : (-100000 ≤ v.x ∧ v.x ≤ 100000) ∧ (-100000 ≤ v.y ∧ v.y ≤ 100000) ∧ (-100000 ≤ v.z ∧ v.z ≤ 100000)) :
    Calls Tryz.prog 82 #[vtA u, vtA v] w fun e w' => e = .returned (vtA ⟨u.x - v.x, u.y - v.y, u.z - v.z⟩) ∧ Below w.heap.size w w' := by
  obtain ⟨ux, uy, uz⟩ := u
  obtain ⟨vx, vy, vz⟩ := v
  simp only at hu hv
  have e1 : IntKind.i64.wrap (ux - vx) = ux - vx := by rw [IntKind.wrap_i64]; omega
  have e2 : IntKind.i64.wrap (uy - vy) = uy - vy := by rw [IntKind.wrap_i64]; omega
  have e3 : IntKind.i64.wrap (uz - vz) = uz - vz := by rw [IntKind.wrap_i64]; omega
  clear hu hv
  have hQ := World.alloc_heap_new ((w.alloc (.cells #[.int .i64 ux, .int .i64 uy, .int .i64 uz] 32)).alloc (.cells #[.int .i64 vx, .int .i64 vy, .int .i64 vz] 32)) (.cells #[.int .i64 (ux - vx), .int .i64 (uy - vy), .int .i64 (uz - vz)] 32)
  have hB : Below w.heap.size w (((w.alloc (.cells #[.int .i64 ux, .int .i64 uy, .int .i64 uz] 32)).alloc (.cells #[.int .i64 vx, .int .i64 vy, .int .i64 vz] 32)).alloc (.cells #[.int .i64 (ux - vx), .int .i64 (uy - vy), .int .i64 (uz - vz)] 32)) := (((Below.refl _ _).alloc (Nat.le_refl _) _).alloc (by simp) _).alloc (by simp; omega) _
  simp only [World.size_alloc] at hQ
  go_enter Tryz.func82, Tryz.ntmps82
  go_wp2
  refine bodyPost_ret (results_cell_row rfl _ _ (w.heap.size + 1 + 1) 32 #[.int .i64 (ux - vx), .int .i64 (uy - vy), .int .i64 (uz - vz)] (0, 0) _ rfl hQ Tryz.underlying32 rfl (by kernel_rfl)) rfl ⟨rfl, hB⟩
end Go.Proofs.YtdkikecjlbgmdaaGreat
