/- Walk: the spots of a triangle over a column: plain steps, the loop over a side's crossings. -/
import Derived.Test.YtjiklfffcnfdjaaGreatHt
import Derived.Test.YtjiklfffcnfdjaaGreatAppS
import Derived.Test.YtjiklfffcnfdjaaGreatGd
import Derived.Test.YtjiklfffcnfdjaaGreatGg
namespace Go.Proofs.YtjiklfffcnfdjaaGreat
open Go.RowKit

theorem open_ok {a b c : V3} {t : T3} (h : openT a b c = (t, true)) : tOk t := by
  unfold openT at h
  by_cases hv : (vOk a && vOk b && vOk c) = true
  · rw [if_pos hv] at h
    rw [Bool.and_eq_true, Bool.and_eq_true] at hv
    have hf := flat_small hv.1.1 hv.1.2 hv.2
    split at h
    · cases h; exact ⟨hv.1.1, hv.2, hv.1.2, by simp only; omega, by simp only; omega⟩
    · rw [Prod.mk.injEq, decide_eq_true_eq] at h
      obtain ⟨rfl, h2⟩ := h
      exact ⟨hv.1.1, hv.1.2, hv.2, by simp only; omega, by simp only; omega⟩
  · rw [if_neg hv] at h
    cases h

def nsL (x z : Int) : List Int := [x, x + 1, z, z + 1]
def nsAt (x z : Int) : Nat → Int
  | 0 => x
  | 1 => x + 1
  | 2 => z
  | _ => z + 1
theorem ns_step (x z : Int) {j : Nat} (h : j < 4) : (nsL x z).take (j + 1) = (nsL x z).take j ++ [nsAt x z j] := by
  have : j = 0 ∨ j = 1 ∨ j = 2 ∨ j = 3 := by omega
  rcases this with rfl | rfl | rfl | rfl <;> rfl
def wayF (m : Nat) (u v : V3) (n : Int) : Sp × Bool := if m = 0 then alongP u v n else alongQ u v n
def wayL (x z : Int) (u v : V3) (m j : Nat) : List Sp := ((nsL x z).take j).flatMap fun n => keepS x z (wayF m u v n)
theorem way_step (x z : Int) (u v : V3) (m : Nat) {j : Nat} (h : j < 4) : wayL x z u v m (j + 1) = wayL x z u v m j ++ keepS x z (wayF m u v (nsAt x z j)) := by
  unfold wayL
  rw [ns_step x z h, List.flatMap_append]
  simp
theorem keep_len (x z : Int) (r : Sp × Bool) : (keepS x z r).length ≤ 1 := by
  unfold keepS
  split <;> simp
theorem way_len (x z : Int) (u v : V3) (m j : Nat) : (wayL x z u v m j).length ≤ 4 := by
  unfold wayL
  have h : ∀ l : List Int, (l.flatMap fun n => keepS x z (wayF m u v n)).length ≤ l.length := by
    intro l
    induction l with
    | nil => simp
    | cons y l ih =>
      rw [List.flatMap_cons, List.length_append, List.length_cons]
      have := keep_len x z (wayF m u v y)
      omega
  have h1 := h ((nsL x z).take j)
  have h2 : ((nsL x z).take j).length ≤ 4 := by rw [List.length_take]; exact Nat.min_le_right _ _
  omega
def waysL (x z : Int) (u v : V3) (m : Nat) : List Sp := (List.range m).flatMap fun i => wayL x z u v i 4
theorem ways_succ (x z : Int) (u v : V3) (m : Nat) : waysL x z u v (m + 1) = waysL x z u v m ++ wayL x z u v m 4 := by
  unfold waysL
  rw [List.range_succ, List.flatMap_append]
  simp
theorem ways_two (x z : Int) (u v : V3) : waysL x z u v 2 = sideS x z u v := by
  rw [ways_succ, ways_succ]
  rfl
def sideAt (t : T3) : Nat → V3 × V3
  | 0 => (t.a, t.b)
  | 1 => (t.b, t.c)
  | _ => (t.c, t.a)
def sidesL (t : T3) (x z : Int) (k : Nat) : List Sp := (List.range k).flatMap fun i => waysL x z (sideAt t i).1 (sideAt t i).2 2
theorem sides_succ (t : T3) (x z : Int) (k : Nat) : sidesL t x z (k + 1) = sidesL t x z k ++ waysL x z (sideAt t k).1 (sideAt t k).2 2 := by
  unfold sidesL
  rw [List.range_succ, List.flatMap_append]
  simp
theorem ways_len (x z : Int) (u v : V3) (m : Nat) : (waysL x z u v m).length ≤ 4 * m := by
  induction m with
  | zero => simp [waysL]
  | succ m ih =>
    rw [ways_succ, List.length_append]
    have := way_len x z u v m 4
    omega
theorem sides_len (t : T3) (x z : Int) (k : Nat) : (sidesL t x z k).length ≤ 8 * k := by
  induction k with
  | zero => simp [sidesL]
  | succ k ih =>
    rw [sides_succ, List.length_append]
    have := ways_len x z (sideAt t k).1 (sideAt t k).2 2
    omega
theorem sides_three (t : T3) (x z : Int) : sidesL t x z 3 = sideS x z t.a t.b ++ sideS x z t.b t.c ++ sideS x z t.c t.a := by
  rw [sides_succ, sides_succ, sides_succ, ways_two, ways_two, ways_two]
  rfl

/-! ### The spots are small -/
theorem along_small {u v : V3} {n : Int} (h : sideOk u v n) : SpSmall (alongP u v n).1 ∧ ((alongP u v n).2 = true → 0 < (alongP u v n).1.d) := by
  obtain ⟨h1, h2, h3, h4, h5, h6, h7, h8, h9, h10⟩ := h
  unfold alongP
  simp only
  split
  · exact ⟨by unfold SpSmall zSp; simp, fun h => by cases h⟩
  · rename_i hn
    split
    · have m1 := mulB (x := n) (y := -(v.x - u.x)) (K := 40) (L := 32) (by omega) (by omega)
      have m2 := mulB (x := v.z) (y := -(v.x - u.x)) (K := 32) (L := 32) (by omega) (by omega)
      have m3 := mulB (x := u.z - v.z) (y := n - v.x) (K := 32) (L := 40) (by omega) (by omega)
      exact ⟨by unfold SpSmall; simp only; omega, fun _ => by simp only; omega⟩
    · have m1 := mulB (x := n) (y := v.x - u.x) (K := 40) (L := 32) (by omega) (by omega)
      have m2 := mulB (x := u.z) (y := v.x - u.x) (K := 32) (L := 32) (by omega) (by omega)
      have m3 := mulB (x := v.z - u.z) (y := n - u.x) (K := 32) (L := 40) (by omega) (by omega)
      have hd : v.x - u.x ≠ 0 := fun h => hn (.inl h)
      exact ⟨by unfold SpSmall; simp only; omega, fun _ => by simp only; omega⟩
theorem wayF_small {u v : V3} {n : Int} (h : sideOk u v n) (m : Nat) : SpSmall (wayF m u v n).1 ∧ ((wayF m u v n).2 = true → 0 < (wayF m u v n).1.d) := by
  unfold wayF
  split
  · exact along_small h
  · have h' : sideOk (turnV u) (turnV v) n := by unfold sideOk turnV at *; simp only; omega
    have := along_small h'
    unfold alongQ
    obtain ⟨⟨a1, a2, a3, a4, a5, a6⟩, hd⟩ := this
    exact ⟨⟨a3, a4, a1, a2, a5, a6⟩, hd⟩
def SpGood (p : Sp) : Prop := SpSmall p ∧ 0 < p.d
theorem sideOk_of {u v : V3} {x z : Int} (hu : vOk u = true) (hv : vOk v = true) (hx : -1 ≤ x ∧ x ≤ 32) (hz : -1 ≤ z ∧ z ≤ 32) (j : Nat) : sideOk u v (nsAt x z j) := by
  rw [vOk_iff] at hu hv
  have : -1 ≤ nsAt x z j ∧ nsAt x z j ≤ 33 := by unfold nsAt; split <;> omega
  unfold sideOk
  omega
end Go.Proofs.YtjiklfffcnfdjaaGreat

namespace Go.Proofs.YtjiklfffcnfdjaaGreat
open Go.RowKit Go.Sort

set_option maxHeartbeats 1000000 in
theorem or2_any (u v : Int) (b : Nat) (W : World) (h0 : W.cell? ⟨b, 0, none⟩ = some (.int .i64 u)) (h1 : W.cell? ⟨b, 1, none⟩ = some (.int .i64 v)) :
    Calls Tryz.prog 99 #[.slice (some ⟨b, 0, none⟩) 2 2] W fun e w' => e = .returned (.int .i64 (orD u v)) ∧ w' = W := by
  obtain ⟨r, hr⟩ : ∃ r, Hid (r = orD u v) := ⟨_, rfl⟩
  rw [← hr.out]
  by_cases hu : u = 0
  · have hu' : (u != 0) = false := by simpa using hu
    by_cases hv : v = 0
    · have hv' : (v != 0) = false := by simpa using hv
      have HR : Hid (r = 0) := by show _ = _; rw [hr.out]; simp [orD, hu, hv]
      clear hr
      subst hu hv
      go_enter Tryz.func99, Tryz.ntmps99
      go_wp2
      refine wp_loop_rounds 3 ?_
      rw [rounds_succ]
      go_wp2
      rw [rounds_succ]
      go_wp2
      rw [rounds_succ]
      go_wp2
      go_ret
      exact ⟨ret_int HR.out.symm, rfl⟩
    · have hv' : (v != 0) = true := by simpa using hv
      have HR : Hid (r = v) := by show _ = _; rw [hr.out]; simp [orD, hu]
      clear hr
      subst hu
      go_enter Tryz.func99, Tryz.ntmps99
      go_wp2
      refine wp_loop_rounds 3 ?_
      rw [rounds_succ]
      go_wp2
      rw [rounds_succ]
      go_wp2
      go_ret
      exact ⟨ret_int HR.out.symm, rfl⟩
  · have hu' : (u != 0) = true := by simpa using hu
    have HR : Hid (r = u) := by show _ = _; rw [hr.out]; simp [orD, hu]
    clear hr
    go_enter Tryz.func99, Tryz.ntmps99
    go_wp2
    refine wp_loop_rounds 3 ?_
    rw [rounds_succ]
    go_wp2
    go_ret
    exact ⟨ret_int HR.out.symm, rfl⟩

set_option maxRecDepth 100000 in
set_option maxHeartbeats 8000000 in
/-- The comparison of corners. -/
theorem cmpcr_any (c d : Cr) (W : World) (hc : CrSmall c) (hd : CrSmall d) :
    Calls Tryz.prog 98 #[crA c, crA d] W fun e w' => e = .returned (.int .i64 (cmpCr c d)) ∧ ∃ q os', w' = grow (W.drewN q) os' := by
  obtain ⟨c1, c2, c3, c4, c5, c6⟩ := hc
  obtain ⟨d1, d2, d3, d4, d5, d6⟩ := hd
  have wm : ∀ a b : Int, (-12000000 ≤ a ∧ a ≤ 12000000) → (0 < b ∧ b ≤ 70000) → IntKind.i64.wrap (a * b) = a * b := by
    intro a b ha hb
    have := mulB (x := a) (y := b) (K := 12000000) (L := 70000) ha (by omega)
    rw [IntKind.wrap_i64]
    omega
  have m1 := wm c.x d.d ⟨c1, c2⟩ ⟨d5, d6⟩
  have m2 := wm d.x c.d ⟨d1, d2⟩ ⟨c5, c6⟩
  have m3 := wm c.z d.d ⟨c3, c4⟩ ⟨d5, d6⟩
  have m4 := wm d.z c.d ⟨d3, d4⟩ ⟨c5, c6⟩
  have CX := Lib.hid (fun W' => show Calls Tryz.prog 53 _ _ _ from AnyG.cmp_Compare_int Tryz.lCmpInt (c.x * d.d) (d.x * c.d) W')
  have CZ := Lib.hid (fun W' => show Calls Tryz.prog 53 _ _ _ from AnyG.cmp_Compare_int Tryz.lCmpInt (c.z * d.d) (d.z * c.d) W')
  obtain ⟨r, hr⟩ : ∃ r, Hid (r = cmpCr c d) := ⟨_, rfl⟩
  rw [← hr.out]
  have HR : Hid (r = orD (Lib.compareInt (c.x * d.d) (d.x * c.d)) (Lib.compareInt (c.z * d.d) (d.z * c.d))) := hr.out
  clear hr
  generalize Lib.compareInt (c.x * d.d) (d.x * c.d) = U at CX HR
  generalize Lib.compareInt (c.z * d.d) (d.z * c.d) = V at CZ HR
  have OR := Lib.hid (fun b W h0 h1 => or2_any U V b W h0 h1)
  obtain ⟨cx, cz, cy, cd⟩ := c
  obtain ⟨dx, dz, dy, dd⟩ := d
  simp only at CX CZ m1 m2 m3 m4
  clear c1 c2 c3 c4 c5 c6 d1 d2 d3 d4 d5 d6 wm
  unfold crA
  go_enter Tryz.func98, Tryz.ntmps98
  go_wp2_with fail
  go_region_held3 (fun WW => WW.cell? ⟨W.heap.size, 0, none⟩ = some (.int .i64 cx) ∧ WW.cell? ⟨W.heap.size, 1, none⟩ = some (.int .i64 cz) ∧ WW.cell? ⟨W.heap.size, 3, none⟩ = some (.int .i64 cd) ∧ WW.cell? ⟨W.heap.size + 1, 0, none⟩ = some (.int .i64 dx) ∧ WW.cell? ⟨W.heap.size + 1, 1, none⟩ = some (.int .i64 dz) ∧ WW.cell? ⟨W.heap.size + 1, 3, none⟩ = some (.int .i64 dd))
    (first
      | (go_simp; done)
      | fail)
    (first
      | (go_at_call 53; with_reducible refine (CX.out _).mono ?_; rintro e wz ⟨rfl, rfl⟩)
      | (go_at_call 53; with_reducible refine (CZ.out _).mono ?_; rintro e wz ⟨rfl, rfl⟩)
      | (go_at_call 99; refine (OR.out _ _ (by go_simp) (by go_simp)).mono ?_; rintro e wz ⟨rfl, rfl⟩)
      | fail)
  all_goals
    rename_i hH
    clear hH
    go_wp2
    go_ret
    refine ⟨ret_int HR.out.symm, ?_⟩
    exact ⟨1, _, by simp only [alloc_eq_grow, grow_grow]; rfl⟩

end Go.Proofs.YtjiklfffcnfdjaaGreat
