/- Walk: the clip looks a triangle over. -/
import Derived.Test.YtjiklfffcnfdjaaGreatClpX
namespace Go.Proofs.YtjiklfffcnfdjaaGreat
open Go.RowKit
attribute [local go_sem] Instr.index

theorem vOk_iff {v : V3} : vOk v = true ↔ 0 ≤ v.x ∧ v.x ≤ 32 ∧ 0 ≤ v.z ∧ v.z ≤ 32 ∧ -2048 ≤ v.y ∧ v.y ≤ 2048 := by simp [vOk, and_assoc]
abbrev t3V (t : T3) : Value := .agg (t3C t)
theorem ret_t3 {t : T3} {k : Bool} {X : T3 × Bool} (h : X = (t, k)) : Ending.returned (.tuple #[.agg (t3C t), .bool k]) = Ending.returned (.tuple #[t3V X.1, .bool X.2]) := by rw [h]
theorem flat_small {a b c : V3} (ha : vOk a = true) (hb : vOk b = true) (hc : vOk c = true) : -2048 ≤ flatS a b c ∧ flatS a b c ≤ 2048 := by
  rw [vOk_iff] at ha hb hc
  have m1 := mulB (x := b.x - a.x) (y := c.z - a.z) (K := 32) (L := 32) (by omega) (by omega)
  have m2 := mulB (x := b.z - a.z) (y := c.x - a.x) (K := 32) (L := 32) (by omega) (by omega)
  unfold flatS crossI
  omega

set_option maxRecDepth 100000 in
set_option maxHeartbeats 8000000 in
theorem open_bad (i : Int) (a b c : V3) (w : World) (h : (vOk a && vOk b && vOk c) = false) :
    Calls Tryz.prog 85 #[tiA i a b c] w fun e w' => e = .returned (.tuple #[t3V (openT a b c).1, .bool (openT a b c).2]) ∧ Below w.heap.size w w' := by
  have HR : Hid (openT a b c = (zT, false)) := by show _ = _; unfold openT; rw [h]; rfl
  obtain ⟨r, hr⟩ : ∃ r, r = openT a b c := ⟨_, rfl⟩
  rw [← hr] at HR ⊢
  clear hr
  have hv : vOk a = false ∨ (vOk a = true ∧ vOk b = false) ∨ (vOk a = true ∧ vOk b = true ∧ vOk c = false) := by
    cases h1 : vOk a <;> cases h2 : vOk b <;> simp_all
  clear h
  obtain ⟨ax, ay, az⟩ := a
  obtain ⟨bx, by_, bz⟩ := b
  obtain ⟨cx, cy, cz⟩ := c
  have hP0 := World.alloc_heap_new (w.alloc (.cells #[.int .i64 i, .int .i64 ax, .int .i64 ay, .int .i64 az, .int .i64 bx, .int .i64 by_, .int .i64 bz, .int .i64 cx, .int .i64 cy, .int .i64 cz] 77)) (.cells (t3C zT) 124)
  simp only [World.size_alloc] at hP0
  have HEnd : Hid (∀ W, Below (w.heap.size + 1 + 1) ((w.alloc (.cells #[.int .i64 i, .int .i64 ax, .int .i64 ay, .int .i64 az, .int .i64 bx, .int .i64 by_, .int .i64 bz, .int .i64 cx, .int .i64 cy, .int .i64 cz] 77)).alloc (.cells (t3C zT) 124)) W → W.heap[w.heap.size + 1]? = some (.cells (t3C zT) 124 (0, 0)) ∧ Below w.heap.size w W) := fun W hW =>
    ⟨(hW.block _ (by omega)).trans hP0, (((Below.refl _ _).alloc (Nat.le_refl _) _).alloc (by simp) _).trans (hW.mono (by omega))⟩
  clear hP0
  rcases hv with hv | ⟨va, hv⟩ | ⟨va, vb, hv⟩
  · have hn : ¬ (0 ≤ ax ∧ ax ≤ 32 ∧ 0 ≤ az ∧ az ≤ 32 ∧ -2048 ≤ ay ∧ ay ≤ 2048) := fun hh => by rw [vOk_iff.2 hh] at hv; cases hv
    clear hv
    go_enter Tryz.func85, Tryz.ntmps85
    go_wp2
    refine wp_loop_rounds 4 ?_
    rw [rounds_succ]
    go_wp2
    all_goals first
      | (exfalso; omega)
      | (refine bodyPost_ret (results_ct1 rfl _ _ (w.heap.size + 1) 124 (t3C zT) (0, 0) _ rfl (HEnd.out _ ?hw).1 Tryz.underlying124 rfl (by kernel_rfl)) rfl ⟨?hr, (HEnd.out _ ?hv).2⟩
         case hr => exact ret_t3 HR.out
         case hw => repeat (first | exact Below.refl _ _ | (refine Below.alloc ?_ (by simp) _))
         case hv => repeat (first | exact Below.refl _ _ | (refine Below.alloc ?_ (by simp) _)))
  · have ha := vOk_iff.1 va
    simp only at ha
    have hn : ¬ (0 ≤ bx ∧ bx ≤ 32 ∧ 0 ≤ bz ∧ bz ≤ 32 ∧ -2048 ≤ by_ ∧ by_ ≤ 2048) := fun hh => by rw [vOk_iff.2 hh] at hv; cases hv
    have u1 : ¬ ax < 0 := by omega
    have u2 : ¬ 32 < ax := by omega
    have u3 : ¬ az < 0 := by omega
    have u4 : ¬ 32 < az := by omega
    have u5 : ¬ ay < -2048 := by omega
    have u6 : ¬ 2048 < ay := by omega
    clear hv va ha
    go_enter Tryz.func85, Tryz.ntmps85
    go_wp2
    refine wp_loop_rounds 4 ?_
    rw [rounds_succ]
    go_wp2
    rw [rounds_succ]
    go_wp2
    all_goals first
      | (exfalso; omega)
      | (refine bodyPost_ret (results_ct1 rfl _ _ (w.heap.size + 1) 124 (t3C zT) (0, 0) _ rfl (HEnd.out _ ?hw).1 Tryz.underlying124 rfl (by kernel_rfl)) rfl ⟨?hr, (HEnd.out _ ?hv).2⟩
         case hr => exact ret_t3 HR.out
         case hw => repeat (first | exact Below.refl _ _ | (refine Below.alloc ?_ (by simp) _))
         case hv => repeat (first | exact Below.refl _ _ | (refine Below.alloc ?_ (by simp) _)))
  · have ha := vOk_iff.1 va
    have hb := vOk_iff.1 vb
    simp only at ha hb
    have hn : ¬ (0 ≤ cx ∧ cx ≤ 32 ∧ 0 ≤ cz ∧ cz ≤ 32 ∧ -2048 ≤ cy ∧ cy ≤ 2048) := fun hh => by rw [vOk_iff.2 hh] at hv; cases hv
    have u1 : ¬ ax < 0 := by omega
    have u2 : ¬ 32 < ax := by omega
    have u3 : ¬ az < 0 := by omega
    have u4 : ¬ 32 < az := by omega
    have u5 : ¬ ay < -2048 := by omega
    have u6 : ¬ 2048 < ay := by omega
    have v1 : ¬ bx < 0 := by omega
    have v2 : ¬ 32 < bx := by omega
    have v3 : ¬ bz < 0 := by omega
    have v4 : ¬ 32 < bz := by omega
    have v5 : ¬ by_ < -2048 := by omega
    have v6 : ¬ 2048 < by_ := by omega
    clear hv va vb ha hb
    go_enter Tryz.func85, Tryz.ntmps85
    go_wp2
    refine wp_loop_rounds 4 ?_
    rw [rounds_succ]
    go_wp2
    rw [rounds_succ]
    go_wp2
    rw [rounds_succ]
    go_wp2
    all_goals first
      | (exfalso; omega)
      | (refine bodyPost_ret (results_ct1 rfl _ _ (w.heap.size + 1) 124 (t3C zT) (0, 0) _ rfl (HEnd.out _ ?hw).1 Tryz.underlying124 rfl (by kernel_rfl)) rfl ⟨?hr, (HEnd.out _ ?hv).2⟩
         case hr => exact ret_t3 HR.out
         case hw => repeat (first | exact Below.refl _ _ | (refine Below.alloc ?_ (by simp) _))
         case hv => repeat (first | exact Below.refl _ _ | (refine Below.alloc ?_ (by simp) _)))
end Go.Proofs.YtjiklfffcnfdjaaGreat

namespace Go.Proofs.YtjiklfffcnfdjaaGreat
open Go.RowKit
attribute [local go_sem] Instr.index

set_option maxRecDepth 100000 in
set_option maxHeartbeats 8000000 in
theorem open_good (i : Int) (a b c : V3) (w : World) (va : vOk a = true) (vb : vOk b = true) (vc : vOk c = true) :
    Calls Tryz.prog 85 #[tiA i a b c] w fun e w' => e = .returned (.tuple #[t3V (openT a b c).1, .bool (openT a b c).2]) ∧ Below w.heap.size w w' := by
  have HR : Hid (openT a b c = if flatS a b c < 0 then (⟨a, c, b, -flatS a b c⟩, true) else (⟨a, b, c, flatS a b c⟩, decide (flatS a b c ≠ 0))) := by show _ = _; unfold openT; rw [va, vb, vc]; rfl
  obtain ⟨r, hr⟩ : ∃ r, r = openT a b c := ⟨_, rfl⟩
  rw [← hr] at HR ⊢
  clear hr
  have fs := flat_small va vb vc
  have ha := vOk_iff.1 va
  have hb := vOk_iff.1 vb
  have hc := vOk_iff.1 vc
  have CC := Lib.hid (fun W => ccross_any (b.x - a.x) (b.z - a.z) (c.x - a.x) (c.z - a.z) W (by unfold Sm30; omega) (by unfold Sm30; omega) (by unfold Sm30; omega) (by unfold Sm30; omega))
  have CC2 : Hid (∀ W, Calls Tryz.prog 115 #[.int .i64 (b.x - a.x), .int .i64 (b.z - a.z), .int .i64 (c.x - a.x), .int .i64 (c.z - a.z)] W fun e w' => e = .returned (.int .i64 (flatS a b c)) ∧ w' = W) := CC.out
  clear CC
  generalize flatS a b c = s at CC2 HR fs
  clear va vb vc
  obtain ⟨ax, ay, az⟩ := a
  obtain ⟨bx, by_, bz⟩ := b
  obtain ⟨cx, cy, cz⟩ := c
  simp only at ha hb hc CC2
  have u1 : ¬ ax < 0 := by omega
  have u2 : ¬ 32 < ax := by omega
  have u3 : ¬ az < 0 := by omega
  have u4 : ¬ 32 < az := by omega
  have u5 : ¬ ay < -2048 := by omega
  have u6 : ¬ 2048 < ay := by omega
  have v1 : ¬ bx < 0 := by omega
  have v2 : ¬ 32 < bx := by omega
  have v3 : ¬ bz < 0 := by omega
  have v4 : ¬ 32 < bz := by omega
  have v5 : ¬ by_ < -2048 := by omega
  have v6 : ¬ 2048 < by_ := by omega
  have x1 : ¬ cx < 0 := by omega
  have x2 : ¬ 32 < cx := by omega
  have x3 : ¬ cz < 0 := by omega
  have x4 : ¬ 32 < cz := by omega
  have x5 : ¬ cy < -2048 := by omega
  have x6 : ¬ 2048 < cy := by omega
  have HEnd : Hid (∀ (t : T3) W, Below (w.heap.size + 1 + 1) ((w.alloc (.cells #[.int .i64 i, .int .i64 ax, .int .i64 ay, .int .i64 az, .int .i64 bx, .int .i64 by_, .int .i64 bz, .int .i64 cx, .int .i64 cy, .int .i64 cz] 77)).alloc (.cells (t3C t) 124)) W → W.heap[w.heap.size + 1]? = some (.cells (t3C t) 124 (0, 0)) ∧ Below w.heap.size w W) := fun t W hW =>
    ⟨(hW.block _ (by omega)).trans (by
      have := World.alloc_heap_new (w.alloc (.cells #[.int .i64 i, .int .i64 ax, .int .i64 ay, .int .i64 az, .int .i64 bx, .int .i64 by_, .int .i64 bz, .int .i64 cx, .int .i64 cy, .int .i64 cz] 77)) (.cells (t3C t) 124)
      simpa using this), (((Below.refl _ _).alloc (Nat.le_refl _) _).alloc (by simp) _).trans (hW.mono (by omega))⟩
  go_enter Tryz.func85, Tryz.ntmps85
  go_wp2
  refine wp_loop_rounds 4 ?_
  rw [rounds_succ]
  go_wp2
  rw [rounds_succ]
  go_wp2
  rw [rounds_succ]
  go_wp2
  rw [rounds_succ]
  go_wp2_with fail
  refine (CC2.out _).mono ?_
  rintro e w1 ⟨rfl, rfl⟩
  clear u1 u2 u3 u4 u5 u6 v1 v2 v3 v4 v5 v6 x1 x2 x3 x4 x5 x6 ha hb hc
  by_cases hs : s < 0
  · have HR2 : Hid (r = (⟨⟨ax, ay, az⟩, ⟨cx, cy, cz⟩, ⟨bx, by_, bz⟩, -s⟩, true)) := by show _ = _; rw [HR.out, if_pos hs]
    have e1 : (-s != 0) = true := by simp; omega
    clear HR
    go_wp2
    go_region
    all_goals
      go_wp2
      refine bodyPost_ret (results_ct1 rfl _ _ (w.heap.size + 1) 124 (t3C ⟨⟨ax, ay, az⟩, ⟨cx, cy, cz⟩, ⟨bx, by_, bz⟩, -s⟩) (0, 0) _ rfl (HEnd.out _ _ ?hw).1 Tryz.underlying124 rfl (by kernel_rfl)) rfl ⟨?hr, (HEnd.out ⟨⟨ax, ay, az⟩, ⟨cx, cy, cz⟩, ⟨bx, by_, bz⟩, -s⟩ _ ?hv).2⟩
      case hr => exact ret_t3 HR2.out
      case hw => repeat (first | exact Below.refl _ _ | (refine Below.alloc ?_ (by simp) _) | refine Below.drew ?_)
      case hv => repeat (first | exact Below.refl _ _ | (refine Below.alloc ?_ (by simp) _) | refine Below.drew ?_)
  · have HR2 : Hid (r = (⟨⟨ax, ay, az⟩, ⟨bx, by_, bz⟩, ⟨cx, cy, cz⟩, s⟩, (s != 0))) := by show _ = _; rw [HR.out, if_neg hs, show decide (s ≠ 0) = (s != 0) by by_cases h : s = 0 <;> simp [h]]
    clear HR
    go_wp2
    go_region
    all_goals
      go_wp2
      refine bodyPost_ret (results_ct1 rfl _ _ (w.heap.size + 1) 124 (t3C ⟨⟨ax, ay, az⟩, ⟨bx, by_, bz⟩, ⟨cx, cy, cz⟩, s⟩) (0, 0) _ rfl (HEnd.out _ _ ?hw).1 Tryz.underlying124 rfl (by kernel_rfl)) rfl ⟨?hr, (HEnd.out ⟨⟨ax, ay, az⟩, ⟨bx, by_, bz⟩, ⟨cx, cy, cz⟩, s⟩ _ ?hv).2⟩
      case hr => exact ret_t3 HR2.out
      case hw => repeat (first | exact Below.refl _ _ | (refine Below.alloc ?_ (by simp) _) | refine Below.drew ?_)
      case hv => repeat (first | exact Below.refl _ _ | (refine Below.alloc ?_ (by simp) _) | refine Below.drew ?_)
theorem open_any (i : Int) (a b c : V3) (w : World) :
    Calls Tryz.prog 85 #[tiA i a b c] w fun e w' => e = .returned (.tuple #[t3V (openT a b c).1, .bool (openT a b c).2]) ∧ Below w.heap.size w w' := by
  by_cases h : (vOk a && vOk b && vOk c) = true
  · rw [Bool.and_eq_true, Bool.and_eq_true] at h
    exact open_good i a b c w h.1.1 h.1.2 h.2
  · exact open_bad i a b c w (by simpa using h)
end Go.Proofs.YtjiklfffcnfdjaaGreat
