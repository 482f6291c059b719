/- Walks: the clip's closures, and what gathers by them. -/
import Derived.Test.YtjiklfffcnfdjaaGreatHs
import Derived.Test.YtjiklfffcnfdjaaGreatGg
namespace Go.Proofs.YtjiklfffcnfdjaaGreat
open Go.RowKit

def spC (p : Sp) : List Value := [.int .i64 p.x, .int .i64 p.z, .int .i64 p.d]
def crC (c : Cr) : List Value := [.int .i64 c.x, .int .i64 c.z, .int .i64 c.y, .int .i64 c.d]
def vxC (v : V3) : List Value := [.int .i64 v.x, .int .i64 v.y, .int .i64 v.z]
theorem spC_len (x : Sp) : (spC x).length = 3 := rfl
theorem crC_len (x : Cr) : (crC x).length = 4 := rfl
theorem spC_one (x : Sp) : ∀ u ∈ spC x, u.oneCell' = true := by intro u hu; simp [spC] at hu; rcases hu with rfl | rfl | rfl <;> rfl
theorem crC_one (x : Cr) : ∀ u ∈ crC x, u.oneCell' = true := by intro u hu; simp [crC] at hu; rcases hu with rfl | rfl | rfl | rfl <;> rfl
theorem info_spot : (Tryz.prog.info? 128).map (fun i => (i.zero, i.size, i.bytes)) = some (some (.agg #[.int .i64 0, .int .i64 0, .int .i64 0]), 3, 24) := by kernel_rfl
theorem info_corner : (Tryz.prog.info? 105).map (fun i => (i.zero, i.size, i.bytes)) = some (some (.agg #[.int .i64 0, .int .i64 0, .int .i64 0, .int .i64 0]), 4, 32) := by kernel_rfl

set_option maxRecDepth 100000 in
set_option maxHeartbeats 4000000 in
theorem cl2_any (t : T3) (p : Sp) (T : Nat) (w : World) (hT : w.heap[T]? = some (.cells (t3C t) 124 (0, 0))) (ht : tOk t) (hp : SpSmall p) :
    Calls Tryz.prog 88 #[spA p, .pointer (some ⟨T, 0, none⟩)] w fun e w' => e = .returned (.tuple #[spA p, .bool (holdsT t p)]) ∧ Below w.heap.size w w' := by
  have hT1 := halloc (halloc hT (.cells #[.int .i64 p.x, .int .i64 p.z, .int .i64 p.d] 128)) (.cells #[.int .i64 0, .int .i64 0, .int .i64 0] 128)
  have hP := halloc (World.alloc_heap_new w (.cells #[.int .i64 p.x, .int .i64 p.z, .int .i64 p.d] 128)) (.cells #[.int .i64 0, .int .i64 0, .int .i64 0] 128)
  have hQ := World.alloc_heap_new (w.alloc (.cells #[.int .i64 p.x, .int .i64 p.z, .int .i64 p.d] 128)) (.cells #[.int .i64 0, .int .i64 0, .int .i64 0] 128)
  have hB : Below w.heap.size w ((w.alloc (.cells #[.int .i64 p.x, .int .i64 p.z, .int .i64 p.d] 128)).alloc (.cells #[.int .i64 0, .int .i64 0, .int .i64 0] 128)) := ((Below.refl _ _).alloc (Nat.le_refl _) _).alloc (by simp) _
  simp only [World.size_alloc] at hQ
  obtain ⟨r, hr⟩ : ∃ r, r = holdsT t p := ⟨_, rfl⟩
  have HH := Lib.hid (fun W hW => holdst_any t p T W hW ht hp)
  rw [← hr] at HH ⊢
  clear hr
  obtain ⟨px, pz, pd⟩ := p
  simp only at hT1 hP hQ hB
  go_enter Tryz.func88, Tryz.ntmps88
  go_upto_region 1 with fail
  generalize ((w.alloc (.cells #[.int .i64 px, .int .i64 pz, .int .i64 pd] 128)).alloc (.cells #[.int .i64 0, .int .i64 0, .int .i64 0] 128)) = W at hT1 hP hQ hB ⊢
  have HH2 := Lib.hid (fun d os => HH.out _ (hkeep (below_regrown W d os) hT1))
  have k0 := hcell (k := 0) (v := .int .i64 px) hP rfl
  have k1 := hcell (k := 1) (v := .int .i64 pz) hP rfl
  have k2 := hcell (k := 2) (v := .int .i64 pd) hP rfl
  have e_k0 := fun d os => cell_regrown k0 d os
  have e_k1 := fun d os => cell_regrown k1 d os
  have e_k2 := fun d os => cell_regrown k2 d os
  clear k0 k1 k2
  refine wp_region_below_tail 3 (by kernel_rfl) (by kernel_rfl) ?_
  simp only [List.take_succ_cons, List.take_zero, List.drop_succ_cons, List.drop_zero]
  repeat (go_big_quiet_step (exact Calls.regrown_of (HH2.out _ _)))
  refine wpQuiet_nil ?_
  rintro w8 ⟨⟨dq, osq⟩, hw8⟩
  have hstep : Below W.heap.size W w8 := by rw [hw8]; exact below_regrown W dq osq
  clear hw8 e_k0 e_k1 e_k2
  have hQ8 := hkeep hstep hQ
  have hB8 := hB.trans (hstep.mono hB.size)
  have f0 := hfroz (k := 0) hQ8
  have f1 := hfroz (k := 1) hQ8
  have f2 := hfroz (k := 2) hQ8
  have z0 := hcell (k := 0) (v := .int .i64 0) hQ8 rfl
  have z1 := hcell (k := 1) (v := .int .i64 0) hQ8 rfl
  have z2 := hcell (k := 2) (v := .int .i64 0) hQ8 rfl
  have hQ9 := box3_set hQ8 (.int .i64 px) (.int .i64 pz) (.int .i64 pd)
  have hB9 := hB8.grown (box3_grown (b := w.heap.size + 1) (.int .i64 px) (.int .i64 pz) (.int .i64 pd)) hB8.size (fun j hj => by cases hj; omega)
  clear hstep
  go_wp2
  refine bodyPost_ret (results_ct1 rfl _ _ (w.heap.size + 1) 128 #[.int .i64 px, .int .i64 pz, .int .i64 pd] (0, 0) _ rfl hQ9 Tryz.underlying128 rfl (by kernel_rfl)) rfl ⟨?_, hB9⟩
  rfl

/-- The box of the test 'over'. -/
structure OverAt (O X Z : Nat) (x z : Int) (w : World) : Prop where
  fn : w.heap[O]? = some (.cells #[.func (.func 86) #[] #[.pointer (some ⟨X, 0, none⟩), .pointer (some ⟨Z, 0, none⟩)]] 129 (0, 0))
  x : Boxed w X 3 (.int .i64 x)
  z : Boxed w Z 3 (.int .i64 z)
theorem OverAt.below {O X Z : Nat} {x z : Int} {w w' : World} (h : OverAt O X Z x z w) (hb : Below w.heap.size w w') : OverAt O X Z x z w' :=
  ⟨hkeep hb h.fn, (hb.block _ h.x.lt).trans h.x, (hb.block _ h.z.lt).trans h.z⟩
theorem OverAt.call {O X Z : Nat} {x z : Int} {w : World} (h : OverAt O X Z x z w) {p : Sp} (hx : -1 ≤ x ∧ x ≤ 32) (hz : -1 ≤ z ∧ z ≤ 32) (hp : SpSmall p) : Calls Tryz.prog 86 #[spA p, .pointer (some ⟨X, 0, none⟩), .pointer (some ⟨Z, 0, none⟩)] w fun e w' => e = .returned (.bool (overS x z p)) ∧ Below w.heap.size w w' :=
  over_any x z p X Z w h.x h.z hx hz hp

set_option maxRecDepth 100000 in
set_option maxHeartbeats 4000000 in
theorem cl3_any (x z : Int) (v : V3) (O X Z : Nat) (w : World) (hO : OverAt O X Z x z w) (hx : -1 ≤ x ∧ x ≤ 32) (hz : -1 ≤ z ∧ z ≤ 32) (hv : vOk v = true) :
    Calls Tryz.prog 91 #[v3A v, .pointer (some ⟨O, 0, none⟩)] w fun e w' => e = .returned (.tuple #[spA ⟨v.x, v.z, 1⟩, .bool (overS x z ⟨v.x, v.z, 1⟩)]) ∧ Below w.heap.size w w' := by
  have hp : SpSmall ⟨v.x, v.z, 1⟩ := by rw [vOk_iff] at hv; unfold SpSmall; simp only; omega
  obtain ⟨r, hr⟩ : ∃ r, r = overS x z ⟨v.x, v.z, 1⟩ := ⟨_, rfl⟩
  have HH : Hid (∀ W, OverAt O X Z x z W → Calls Tryz.prog 86 #[spA ⟨v.x, v.z, 1⟩, .pointer (some ⟨X, 0, none⟩), .pointer (some ⟨Z, 0, none⟩)] W fun e w' => e = .returned (.bool r) ∧ Below W.heap.size W w') := fun W hW => by rw [hr]; exact hW.call hx hz hp
  rw [← hr]
  clear hr hp hv
  obtain ⟨vx, vy, vz⟩ := v
  simp only at HH ⊢
  have hb3 : Below w.heap.size w (((w.alloc (.cells #[.int .i64 vx, .int .i64 vy, .int .i64 vz] 74)).alloc (.cells #[.int .i64 0, .int .i64 0, .int .i64 0] 128)).alloc (.cells #[.int .i64 vx, .int .i64 vz, .int .i64 1] 128)) := (((Below.refl _ _).alloc (Nat.le_refl _) _).alloc (by simp) _).alloc (by simp; omega) _
  have hO3 := hO.below hb3
  have hP := World.alloc_heap_new ((w.alloc (.cells #[.int .i64 vx, .int .i64 vy, .int .i64 vz] 74)).alloc (.cells #[.int .i64 0, .int .i64 0, .int .i64 0] 128)) (.cells #[.int .i64 vx, .int .i64 vz, .int .i64 1] 128)
  have hQ := halloc (World.alloc_heap_new (w.alloc (.cells #[.int .i64 vx, .int .i64 vy, .int .i64 vz] 74)) (.cells #[.int .i64 0, .int .i64 0, .int .i64 0] 128)) (.cells #[.int .i64 vx, .int .i64 vz, .int .i64 1] 128)
  simp only [World.size_alloc] at hP hQ
  go_enter Tryz.func91, Tryz.ntmps91
  go_upto_region 2 with fail
  generalize (((w.alloc (.cells #[.int .i64 vx, .int .i64 vy, .int .i64 vz] 74)).alloc (.cells #[.int .i64 0, .int .i64 0, .int .i64 0] 128)).alloc (.cells #[.int .i64 vx, .int .i64 vz, .int .i64 1] 128)) = W at hb3 hO3 hP hQ ⊢
  have HH2 := Lib.hid (fun d os => HH.out _ (hO3.below (below_regrown W d os)))
  have k0 := hcell (k := 0) (v := .int .i64 vx) hP rfl
  have k1 := hcell (k := 1) (v := .int .i64 vz) hP rfl
  have k2 := hcell (k := 2) (v := .int .i64 1) hP rfl
  have k3 := hcell (k := 0) (v := .func (.func 86) #[] #[.pointer (some ⟨X, 0, none⟩), .pointer (some ⟨Z, 0, none⟩)]) hO3.fn rfl
  have e_k0 := fun d os => cell_regrown k0 d os
  have e_k1 := fun d os => cell_regrown k1 d os
  have e_k2 := fun d os => cell_regrown k2 d os
  have e_k3 := fun d os => cell_regrown k3 d os
  clear k0 k1 k2 k3
  refine wp_region_below_tail 4 (by kernel_rfl) (by kernel_rfl) ?_
  simp only [List.take_succ_cons, List.take_zero, List.drop_succ_cons, List.drop_zero]
  repeat (go_big_quiet_step (exact Calls.regrown_of (HH2.out _ _)))
  refine wpQuiet_nil ?_
  rintro w8 ⟨⟨dq, osq⟩, hw8⟩
  have hstep : Below W.heap.size W w8 := by rw [hw8]; exact below_regrown W dq osq
  clear hw8 e_k0 e_k1 e_k2 e_k3
  have hQ8 := hkeep hstep hQ
  have hB8 := hb3.trans (hstep.mono hb3.size)
  have f0 := hfroz (k := 0) hQ8
  have f1 := hfroz (k := 1) hQ8
  have f2 := hfroz (k := 2) hQ8
  have z0 := hcell (k := 0) (v := .int .i64 0) hQ8 rfl
  have z1 := hcell (k := 1) (v := .int .i64 0) hQ8 rfl
  have z2 := hcell (k := 2) (v := .int .i64 0) hQ8 rfl
  have hQ9 := box3_set hQ8 (.int .i64 vx) (.int .i64 vz) (.int .i64 1)
  have hB9 := hB8.grown (box3_grown (b := w.heap.size + 1) (.int .i64 vx) (.int .i64 vz) (.int .i64 1)) hB8.size (fun j hj => by cases hj; omega)
  clear hstep
  go_wp2
  refine bodyPost_ret (results_ct1 rfl _ _ (w.heap.size + 1) 128 #[.int .i64 vx, .int .i64 vz, .int .i64 1] (0, 0) _ rfl hQ9 Tryz.underlying128 rfl (by kernel_rfl)) rfl ⟨?_, hB9⟩
  rfl

set_option maxRecDepth 100000 in
set_option maxHeartbeats 4000000 in
theorem cl4_any (t : T3) (p : Sp) (T : Nat) (w : World) (hT : w.heap[T]? = some (.cells (t3C t) 124 (0, 0))) (ht : tOk t) (hp : SpSmall p) (hpd : 0 < p.d) :
    Calls Tryz.prog 95 #[spA p, .pointer (some ⟨T, 0, none⟩)] w fun e w' => e = .returned (.tuple #[crA (liftT t p), .bool true]) ∧ Below w.heap.size w w' := by
  have hT1 := halloc (halloc hT (.cells #[.int .i64 p.x, .int .i64 p.z, .int .i64 p.d] 128)) (.cells #[.int .i64 0, .int .i64 0, .int .i64 0, .int .i64 0] 105)
  have hP := halloc (World.alloc_heap_new w (.cells #[.int .i64 p.x, .int .i64 p.z, .int .i64 p.d] 128)) (.cells #[.int .i64 0, .int .i64 0, .int .i64 0, .int .i64 0] 105)
  have hQ := World.alloc_heap_new (w.alloc (.cells #[.int .i64 p.x, .int .i64 p.z, .int .i64 p.d] 128)) (.cells #[.int .i64 0, .int .i64 0, .int .i64 0, .int .i64 0] 105)
  have hB : Below w.heap.size w ((w.alloc (.cells #[.int .i64 p.x, .int .i64 p.z, .int .i64 p.d] 128)).alloc (.cells #[.int .i64 0, .int .i64 0, .int .i64 0, .int .i64 0] 105)) := ((Below.refl _ _).alloc (Nat.le_refl _) _).alloc (by simp) _
  simp only [World.size_alloc] at hQ
  obtain ⟨r, hr⟩ : ∃ r, r = liftT t p := ⟨_, rfl⟩
  have HH := Lib.hid (fun W hW => lift_any t p T W hW ht hp hpd)
  rw [← hr] at HH ⊢
  clear hr
  obtain ⟨px, pz, pd⟩ := p
  obtain ⟨rx, rz, ry, rd⟩ := r
  simp only at hT1 hP hQ hB
  have k0 := hcell (k := 0) (v := .int .i64 px) hP rfl
  have k1 := hcell (k := 1) (v := .int .i64 pz) hP rfl
  have k2 := hcell (k := 2) (v := .int .i64 pd) hP rfl
  go_enter Tryz.func95, Tryz.ntmps95
  go_wp2_with fail
  refine (HH.out _ hT1).mono ?_
  rintro e w8 ⟨rfl, hstep⟩
  have hQ8 := hkeep hstep hQ
  have hB8 := hB.trans (hstep.mono hB.size)
  have f0 := hfroz (k := 0) hQ8
  have f1 := hfroz (k := 1) hQ8
  have f2 := hfroz (k := 2) hQ8
  have f3 := hfroz (k := 3) hQ8
  have z0 := hcell (k := 0) (v := .int .i64 0) hQ8 rfl
  have z1 := hcell (k := 1) (v := .int .i64 0) hQ8 rfl
  have z2 := hcell (k := 2) (v := .int .i64 0) hQ8 rfl
  have z3 := hcell (k := 3) (v := .int .i64 0) hQ8 rfl
  have hQ9 := box4_set hQ8 (.int .i64 rx) (.int .i64 rz) (.int .i64 ry) (.int .i64 rd)
  have hB9 := hB8.grown (box4_grown (b := w.heap.size + 1) (.int .i64 rx) (.int .i64 rz) (.int .i64 ry) (.int .i64 rd)) hB8.size (fun j hj => by cases hj; omega)
  clear hstep k0 k1 k2 hB8 hQ8 hQ hT1 hP hB
  go_wp2
  refine bodyPost_ret (results_ct1 rfl _ _ (w.heap.size + 1) 105 #[.int .i64 rx, .int .i64 rz, .int .i64 ry, .int .i64 rd] (0, 0) _ rfl hQ9 Tryz.underlying105 rfl (by kernel_rfl)) rfl ⟨?_, hB9⟩
  rfl
end Go.Proofs.YtjiklfffcnfdjaaGreat

namespace Go.Proofs.YtjiklfffcnfdjaaGreat
open Go.RowKit
theorem filter_take_le {α : Type} (f : α → Bool) (xs : List α) (k : Nat) : ((xs.take k).filter f).length ≤ k := by
  have h1 := List.length_filter_le f (xs.take k)
  have h2 := List.length_take_le k xs
  omega
theorem filter_step {α : Type} (f : α → Bool) (l : List α) (x : α) : (l ++ (some x).toList).filter f = l.filter f ++ if f x then [x] else [] := by
  rw [List.filter_append]
  congr 1
  cases h : f x <;> simp [h]
theorem map_step {α β : Type} (f : α → β) (l : List α) (x : α) : (l ++ (some x).toList).map f = l.map f ++ [f x] := by simp

set_option maxRecDepth 100000 in
set_option maxHeartbeats 8000000 in
theorem gather_holds (t : T3) (T : Nat) (a : Option Addr) (n c : Nat) (xs : List Sp) (w : World) (hs : SlR spC 3 w a n c xs) (hT : w.heap[T]? = some (.cells (t3C t) 124 (0, 0))) (ht : tOk t) (hsm : ∀ p ∈ xs, SpSmall p) (hn : n ≤ 1000) :
    Calls Tryz.prog 87 #[.slice a n c, .func (.func 88) #[] #[.pointer (some ⟨T, 0, none⟩)]] w fun e w' => ∃ v, e = .returned v ∧ OwnR spC 3 128 w.heap.size w' v ((xs).filter (holdsT t)).length ((xs).filter (holdsT t)) ∧ Below w.heap.size w w' := by
  have Hl := Lib.hid hs.len
  have hle := hs.le
  have hmax := hs.max
  have Hs := Lib.hid hs
  have Hh := Lib.hid (And.intro hT (And.intro ht hsm))
  clear hs hT ht hsm
  obtain ⟨g, hg⟩ : ∃ g : Nat → List _, g = fun k => (xs.take k).filter (holdsT t) := ⟨_, rfl⟩
  have HF : Hid ((xs).filter (holdsT t) = g n) := by show _ = _; rw [hg]; simp only; rw [List.take_of_length_le (by rw [Hl.out]; exact Nat.le_refl _)]
  have Hg := Lib.hid hg
  have hgl : ∀ k, (g k).length ≤ k := fun k => by rw [Hg.out]; simp only; exact filter_take_le _ _ _
  rw [HF.out]
  clear hg HF
  go_enter Tryz.func87, Tryz.ntmps87
  go_wp2_with fail
  go_loopw [5, 12] (fun v i wr => ∃ k : Nat, i = .int .i64 k ∧ k ≤ n ∧ OwnR spC 3 128 w.heap.size wr v (g k).length (g k) ∧ Below w.heap.size w wr) (fun _ i _ => n - (intOf i).toNat)
  case atStart => exact ⟨0, rfl, Nat.zero_le _, by rw [Hg.out]; exact OwnR.nil _ _ _ _ _, Below.refl _ _⟩
  case round =>
    obtain ⟨k, rfl, hk, hown, hb⟩ := hrel
    by_cases hlt : k < n
    · obtain ⟨x, hxk⟩ : ∃ x, xs[k]? = some x := ⟨_, List.getElem?_eq_getElem (by rw [Hl.out]; exact hlt)⟩
      have hxm : x ∈ xs := List.mem_of_getElem? hxk
      have hltI : (k : Int) < (n : Int) := by omega
      obtain ⟨b, off, rfl, hbl, hc⟩ := (Hs.out.below hb (Nat.le_refl _)).at0 (by omega)
      have c0 : wr.cell? ⟨b, off + k * 3, none⟩ = some _ := hc k x hxk 0 _ rfl
      have c1 : wr.cell? ⟨b, off + k * 3 + 1, none⟩ = some _ := hc k x hxk 1 _ rfl
      have c2 : wr.cell? ⟨b, off + k * 3 + 2, none⟩ = some _ := hc k x hxk 2 _ rfl
      have hstep : g (k + 1) = g k ++ (if holdsT t x then [x] else []) := by
        rw [Hg.out]; simp only; rw [List.take_add_one, hxk]; rw [filter_step]
      have CL := Lib.hid (fun W (hW : Below w.heap.size w W) => cl2_any t x T W (hkeep hW Hh.out.1) Hh.out.2.1 (Hh.out.2.2 x hxm))
      have Hstep := Lib.hid hstep
      have hgk := hgl k
      generalize hgv : g k = gk at hown Hstep hgk
      generalize hgv2 : g (k + 1) = gk2 at Hstep
      clear hc hstep
      generalize holdsT t x = hf at CL Hstep
      obtain ⟨x0, x1, x2⟩ := x
      simp only at c0 c1 c2
      have hbX := hb.alloc hb.size (.cells #[.int .i64 x0, .int .i64 x1, .int .i64 x2] 128)
      have CL2 := Lib.hid (CL.out _ hbX)
      clear CL hxk hxm
      go_wp2_with fail
      refine CL2.out.mono ?_
      rintro e w3 ⟨rfl, hb3⟩
      have hB3 := hbX.trans (hb3.mono hbX.size)
      have hown1 := (hown.alloc (.cells #[.int .i64 x0, .int .i64 x1, .int .i64 x2] 128)).below hb3 (Nat.le_refl _)
      have hs3 := hB3.size
      clear hown hbX hb hb3 CL2 c0 c1 c2
      have hown3 := hown1.alloc (.cells #[.int .i64 x0, .int .i64 x1, .int .i64 x2] 128)
      have hB4 : Below w.heap.size w (w3.alloc (.cells #[.int .i64 x0, .int .i64 x1, .int .i64 x2] 128)) := hB3.alloc hs3 (.cells #[.int .i64 x0, .int .i64 x1, .int .i64 x2] 128)
      clear hown1
      cases hf with
      | true =>
        go_wp2_with (at_builtin; refine wpList_appRj (f := spC) (sz := 3) (e := 128) (B := w.heap.size) (n := gk.length) (xs := gk) _ spC_len spC_one rfl _ _ 130 rfl (.agg #[.int .i64 0, .int .i64 0, .int .i64 0]) 24 Tryz.underlying130 info_spot rfl (by decide) ⟨x0, x1, x2⟩ 128 hown3 rfl _ rfl (by simp) (by omega) (by omega) (by simp; omega) ?_; intro v' w' hown' happ)
        have hne := hown3.le
        have hB5 := hB4.trans (happ.below (B := w.heap.size) hB4.size (fun j hj => by have := hne j hj; omega))
        clear happ hown3 hB4 hB3
        go_wp2
        go_roundw
        case rel => exact ⟨k + 1, by go_num, by omega, by rw [hgv2, Hstep.out]; exact own_len hown', hB5⟩
        case measure => simp [intOf]; omega
      | false =>
        go_wp2
        go_roundw
        case rel => exact ⟨k + 1, by go_num, by omega, by rw [hgv2, Hstep.out]; simpa using own_len hown3, hB4⟩
        case measure => simp [intOf]; omega
    · obtain rfl : k = n := by omega
      have HL := own_len hown
      go_wp2
      go_ret
      exact ⟨_, rfl, HL, hb⟩

set_option maxRecDepth 100000 in
set_option maxHeartbeats 8000000 in
theorem gather_over (x0 z0 : Int) (O X Z : Nat) (a : Option Addr) (n c : Nat) (xs : List V3) (w : World) (hs : SlR vxC 3 w a n c xs) (hO : OverAt O X Z x0 z0 w) (hx0 : -1 ≤ x0 ∧ x0 ≤ 32) (hz0 : -1 ≤ z0 ∧ z0 ≤ 32) (hsm : ∀ p ∈ xs, vOk p = true) (hn : n ≤ 1000) :
    Calls Tryz.prog 90 #[.slice a n c, .func (.func 91) #[] #[.pointer (some ⟨O, 0, none⟩)]] w fun e w' => ∃ v, e = .returned v ∧ OwnR spC 3 128 w.heap.size w' v (((xs).filter (fun v : V3 => overS x0 z0 ⟨v.x, v.z, 1⟩)).map (fun v : V3 => (⟨v.x, v.z, 1⟩ : Sp))).length (((xs).filter (fun v : V3 => overS x0 z0 ⟨v.x, v.z, 1⟩)).map (fun v : V3 => (⟨v.x, v.z, 1⟩ : Sp))) ∧ Below w.heap.size w w' := by
  have Hl := Lib.hid hs.len
  have hle := hs.le
  have hmax := hs.max
  have Hs := Lib.hid hs
  have Hh := Lib.hid (And.intro hO (And.intro hx0 (And.intro hz0 hsm)))
  clear hs hO hx0 hz0 hsm
  obtain ⟨g, hg⟩ : ∃ g : Nat → List _, g = fun k => ((xs.take k).filter (fun v : V3 => overS x0 z0 ⟨v.x, v.z, 1⟩)).map (fun v : V3 => (⟨v.x, v.z, 1⟩ : Sp)) := ⟨_, rfl⟩
  have HF : Hid (((xs).filter (fun v : V3 => overS x0 z0 ⟨v.x, v.z, 1⟩)).map (fun v : V3 => (⟨v.x, v.z, 1⟩ : Sp)) = g n) := by show _ = _; rw [hg]; simp only; rw [List.take_of_length_le (by rw [Hl.out]; exact Nat.le_refl _)]
  have Hg := Lib.hid hg
  have hgl : ∀ k, (g k).length ≤ k := fun k => by rw [Hg.out]; simp only; exact by have := filter_take_le (fun v : V3 => overS x0 z0 ⟨v.x, v.z, 1⟩) xs k; rwa [List.length_map]
  rw [HF.out]
  clear hg HF
  go_enter Tryz.func90, Tryz.ntmps90
  go_wp2_with fail
  go_loopw [5, 12] (fun v i wr => ∃ k : Nat, i = .int .i64 k ∧ k ≤ n ∧ OwnR spC 3 128 w.heap.size wr v (g k).length (g k) ∧ Below w.heap.size w wr) (fun _ i _ => n - (intOf i).toNat)
  case atStart => exact ⟨0, rfl, Nat.zero_le _, by rw [Hg.out]; exact OwnR.nil _ _ _ _ _, Below.refl _ _⟩
  case round =>
    obtain ⟨k, rfl, hk, hown, hb⟩ := hrel
    by_cases hlt : k < n
    · obtain ⟨x, hxk⟩ : ∃ x, xs[k]? = some x := ⟨_, List.getElem?_eq_getElem (by rw [Hl.out]; exact hlt)⟩
      have hxm : x ∈ xs := List.mem_of_getElem? hxk
      have hltI : (k : Int) < (n : Int) := by omega
      obtain ⟨b, off, rfl, hbl, hc⟩ := (Hs.out.below hb (Nat.le_refl _)).at0 (by omega)
      have c0 : wr.cell? ⟨b, off + k * 3, none⟩ = some _ := hc k x hxk 0 _ rfl
      have c1 : wr.cell? ⟨b, off + k * 3 + 1, none⟩ = some _ := hc k x hxk 1 _ rfl
      have c2 : wr.cell? ⟨b, off + k * 3 + 2, none⟩ = some _ := hc k x hxk 2 _ rfl
      have hstep : g (k + 1) = g k ++ (if overS x0 z0 ⟨x.x, x.z, 1⟩ then [⟨x.x, x.z, 1⟩] else []) := by
        rw [Hg.out]; simp only; rw [List.take_add_one, hxk]; rw [filter_step, List.map_append]; congr 1; split <;> rfl
      have CL := Lib.hid (fun W (hW : Below w.heap.size w W) => cl3_any x0 z0 x O X Z W (Hh.out.1.below hW) Hh.out.2.1 Hh.out.2.2.1 (Hh.out.2.2.2 x hxm))
      have Hstep := Lib.hid hstep
      have hgk := hgl k
      generalize hgv : g k = gk at hown Hstep hgk
      generalize hgv2 : g (k + 1) = gk2 at Hstep
      clear hc hstep
      generalize overS x0 z0 ⟨x.x, x.z, 1⟩ = hf at CL Hstep
      obtain ⟨y0, y1, y2⟩ := x
      simp only at c0 c1 c2
      have hbX := hb.alloc hb.size (.cells #[.int .i64 y0, .int .i64 y1, .int .i64 y2] 74)
      have CL2 := Lib.hid (CL.out _ hbX)
      clear CL hxk hxm
      go_wp2_with fail
      refine CL2.out.mono ?_
      rintro e w3 ⟨rfl, hb3⟩
      have hB3 := hbX.trans (hb3.mono hbX.size)
      have hown1 := (hown.alloc (.cells #[.int .i64 y0, .int .i64 y1, .int .i64 y2] 74)).below hb3 (Nat.le_refl _)
      have hs3 := hB3.size
      clear hown hbX hb hb3 CL2 c0 c1 c2
      have hown3 := hown1.alloc (.cells #[.int .i64 y0, .int .i64 y2, .int .i64 1] 128)
      have hB4 : Below w.heap.size w (w3.alloc (.cells #[.int .i64 y0, .int .i64 y2, .int .i64 1] 128)) := hB3.alloc hs3 (.cells #[.int .i64 y0, .int .i64 y2, .int .i64 1] 128)
      clear hown1
      cases hf with
      | true =>
        go_wp2_with (at_builtin; refine wpList_appRj (f := spC) (sz := 3) (e := 128) (B := w.heap.size) (n := gk.length) (xs := gk) _ spC_len spC_one rfl _ _ 130 rfl (.agg #[.int .i64 0, .int .i64 0, .int .i64 0]) 24 Tryz.underlying130 info_spot rfl (by decide) ⟨y0, y2, 1⟩ 128 hown3 rfl _ rfl (by simp) (by omega) (by omega) (by simp; omega) ?_; intro v' w' hown' happ)
        have hne := hown3.le
        have hB5 := hB4.trans (happ.below (B := w.heap.size) hB4.size (fun j hj => by have := hne j hj; omega))
        clear happ hown3 hB4 hB3
        go_wp2
        go_roundw
        case rel => exact ⟨k + 1, by go_num, by omega, by rw [hgv2, Hstep.out]; exact own_len hown', hB5⟩
        case measure => simp [intOf]; omega
      | false =>
        go_wp2
        go_roundw
        case rel => exact ⟨k + 1, by go_num, by omega, by rw [hgv2, Hstep.out]; simpa using own_len hown3, hB4⟩
        case measure => simp [intOf]; omega
    · obtain rfl : k = n := by omega
      have HL := own_len hown
      go_wp2
      go_ret
      exact ⟨_, rfl, HL, hb⟩

set_option maxRecDepth 100000 in
set_option maxHeartbeats 8000000 in
theorem gather_lift (t : T3) (T : Nat) (a : Option Addr) (n c : Nat) (xs : List Sp) (w : World) (hs : SlR spC 3 w a n c xs) (hT : w.heap[T]? = some (.cells (t3C t) 124 (0, 0))) (ht : tOk t) (hsm : ∀ p ∈ xs, SpSmall p ∧ 0 < p.d) (hn : n ≤ 1000) :
    Calls Tryz.prog 94 #[.slice a n c, .func (.func 95) #[] #[.pointer (some ⟨T, 0, none⟩)]] w fun e w' => ∃ v, e = .returned v ∧ OwnR crC 4 105 w.heap.size w' v ((xs).map (liftT t)).length ((xs).map (liftT t)) ∧ Below w.heap.size w w' := by
  have Hl := Lib.hid hs.len
  have hle := hs.le
  have hmax := hs.max
  have Hs := Lib.hid hs
  have Hh := Lib.hid (And.intro hT (And.intro ht hsm))
  clear hs hT ht hsm
  obtain ⟨g, hg⟩ : ∃ g : Nat → List _, g = fun k => (xs.take k).map (liftT t) := ⟨_, rfl⟩
  have HF : Hid ((xs).map (liftT t) = g n) := by show _ = _; rw [hg]; simp only; rw [List.take_of_length_le (by rw [Hl.out]; exact Nat.le_refl _)]
  have Hg := Lib.hid hg
  have hgl : ∀ k, (g k).length ≤ k := fun k => by rw [Hg.out]; simp only; exact by rw [List.length_map]; exact List.length_take_le _ _
  rw [HF.out]
  clear hg HF
  go_enter Tryz.func94, Tryz.ntmps94
  go_wp2_with fail
  go_loopw [5, 12] (fun v i wr => ∃ k : Nat, i = .int .i64 k ∧ k ≤ n ∧ OwnR crC 4 105 w.heap.size wr v (g k).length (g k) ∧ Below w.heap.size w wr) (fun _ i _ => n - (intOf i).toNat)
  case atStart => exact ⟨0, rfl, Nat.zero_le _, by rw [Hg.out]; exact OwnR.nil _ _ _ _ _, Below.refl _ _⟩
  case round =>
    obtain ⟨k, rfl, hk, hown, hb⟩ := hrel
    by_cases hlt : k < n
    · obtain ⟨x, hxk⟩ : ∃ x, xs[k]? = some x := ⟨_, List.getElem?_eq_getElem (by rw [Hl.out]; exact hlt)⟩
      have hxm : x ∈ xs := List.mem_of_getElem? hxk
      have hltI : (k : Int) < (n : Int) := by omega
      obtain ⟨b, off, rfl, hbl, hc⟩ := (Hs.out.below hb (Nat.le_refl _)).at0 (by omega)
      have c0 : wr.cell? ⟨b, off + k * 3, none⟩ = some _ := hc k x hxk 0 _ rfl
      have c1 : wr.cell? ⟨b, off + k * 3 + 1, none⟩ = some _ := hc k x hxk 1 _ rfl
      have c2 : wr.cell? ⟨b, off + k * 3 + 2, none⟩ = some _ := hc k x hxk 2 _ rfl
      have hstep : g (k + 1) = g k ++ [liftT t x] := by
        rw [Hg.out]; simp only; rw [List.take_add_one, hxk]; rw [map_step]
      have CL := Lib.hid (fun W (hW : Below w.heap.size w W) => cl4_any t x T W (hkeep hW Hh.out.1) Hh.out.2.1 (Hh.out.2.2 x hxm).1 (Hh.out.2.2 x hxm).2)
      have Hstep := Lib.hid hstep
      have hgk := hgl k
      generalize hgv : g k = gk at hown Hstep hgk
      generalize hgv2 : g (k + 1) = gk2 at Hstep
      clear hc hstep
      generalize liftT t x = lf at CL Hstep
      obtain ⟨l0, l1, l2, l3⟩ := lf
      obtain ⟨x0, x1, x2⟩ := x
      simp only at c0 c1 c2
      have hbX := hb.alloc hb.size (.cells #[.int .i64 x0, .int .i64 x1, .int .i64 x2] 128)
      have CL2 := Lib.hid (CL.out _ hbX)
      clear CL hxk hxm
      go_wp2_with fail
      refine CL2.out.mono ?_
      rintro e w3 ⟨rfl, hb3⟩
      have hB3 := hbX.trans (hb3.mono hbX.size)
      have hown1 := (hown.alloc (.cells #[.int .i64 x0, .int .i64 x1, .int .i64 x2] 128)).below hb3 (Nat.le_refl _)
      have hs3 := hB3.size
      clear hown hbX hb hb3 CL2 c0 c1 c2
      have hown3 := hown1.alloc (.cells #[.int .i64 l0, .int .i64 l1, .int .i64 l2, .int .i64 l3] 105)
      have hB4 : Below w.heap.size w (w3.alloc (.cells #[.int .i64 l0, .int .i64 l1, .int .i64 l2, .int .i64 l3] 105)) := hB3.alloc hs3 (.cells #[.int .i64 l0, .int .i64 l1, .int .i64 l2, .int .i64 l3] 105)
      clear hown1
      go_wp2_with (at_builtin; refine wpList_appRj (f := crC) (sz := 4) (e := 105) (B := w.heap.size) (n := gk.length) (xs := gk) _ crC_len crC_one rfl _ _ 99 rfl (.agg #[.int .i64 0, .int .i64 0, .int .i64 0, .int .i64 0]) 32 Tryz.underlying99 info_corner rfl (by decide) ⟨l0, l1, l2, l3⟩ 105 hown3 rfl _ rfl (by simp) (by omega) (by omega) (by simp; omega) ?_; intro v' w' hown' happ)
      have hne := hown3.le
      have hB5 := hB4.trans (happ.below (B := w.heap.size) hB4.size (fun j hj => by have := hne j hj; omega))
      clear happ hown3 hB4 hB3
      go_wp2
      go_roundw
      case rel => exact ⟨k + 1, by go_num, by omega, by rw [hgv2, Hstep.out]; exact own_len hown', hB5⟩
      case measure => simp [intOf]; omega
    · obtain rfl : k = n := by omega
      have HL := own_len hown
      go_wp2
      go_ret
      exact ⟨_, rfl, HL, hb⟩
end Go.Proofs.YtjiklfffcnfdjaaGreat
