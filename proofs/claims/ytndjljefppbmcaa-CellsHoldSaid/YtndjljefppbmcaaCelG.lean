/- Walks: do two columns share a point; does a column hold a point; the wake. -/
import Derived.Test.YtndjljefppbmcaaCelF
namespace Go.Proofs.Ytndjljefppbmcaa
open Go.RowKit

theorem ret_b {a b : Bool} (h : a = b) : Ending.returned (.bool a) = .returned (.bool b) := by rw [h]
def shareC (c d : Cel) : Bool := decide (leR d.p c.q) && decide (leR c.p d.q)

set_option maxRecDepth 100000 in
set_option maxHeartbeats 8000000 in
theorem share_any (a b : Pt) (l : List Cel) (c d : Cel) (w : World) (ha : pointOk a = true) (hb : pointOk b = true) (hl : CelAt a b l) (hc : c ∈ l) (hd : d ∈ l) :
    Calls Try.prog 25 #[ptA a, ptA b, ceA c, ceA d] w fun e w' => e = .returned (.bool (shareC c d)) ∧ Below w.heap.size w w' := by
  obtain ⟨c1, c2, c3, c4, c5, c6, c7, c8, c9, c10, c11⟩ := cel_facts ha hb hl hc
  obtain ⟨d1, d2, d3, d4, d5, d6, d7, d8, d9, d10, d11⟩ := cel_facts ha hb hl hd
  have Mc := (cel_iff ha hb hl).1 hc
  have Md := (cel_iff ha hb hl).1 hd
  have M1 := Lib.hid (fun W => meets_any a b c.x c.z W ha hb)
  have M2 := Lib.hid (fun W => meets_any a b d.x d.z W ha hb)
  rw [hasC_mem hl hc] at M1
  rw [hasC_mem hl hd] at M2
  have N1 := Lib.hid (fun W => meet_any a b c.x c.z W ha hb ⟨c8, c9⟩ ⟨c10, c11⟩)
  have N2 := Lib.hid (fun W => meet_any a b d.x d.z W ha hb ⟨d8, d9⟩ ⟨d10, d11⟩)
  rw [Mc.1, ← Mc.2] at N1
  rw [Md.1, ← Md.2] at N2
  have P1 := Lib.hid (fun W => compare_any c.q d.p W c7.big d6.big)
  have P2 := Lib.hid (fun W => compare_any d.q c.p W d7.big c6.big)
  obtain ⟨u, hu⟩ : ∃ u, u = cmpR c.q d.p := ⟨_, rfl⟩
  obtain ⟨v, hv⟩ : ∃ v, v = cmpR d.q c.p := ⟨_, rfl⟩
  obtain ⟨r, hr⟩ : ∃ r, Hid (r = shareC c d) := ⟨_, rfl⟩
  rw [← hr.out]
  have HR : Hid (r = (decide (0 ≤ u) && decide (0 ≤ v))) := by
    show _ = _
    rw [hr.out, shareC, hu, hv]
    congr 1
    · exact decide_eq_decide.2 cmpR_ge.symm
    · exact decide_eq_decide.2 cmpR_ge.symm
  rw [← hu] at P1
  rw [← hv] at P2
  have hB : Below w.heap.size w ((((w.alloc (.cells #[.int .i64 a.x, .int .i64 a.z] 36)).alloc (.cells #[.int .i64 b.x, .int .i64 b.z] 36)).alloc (.cells #[.int .i64 c.x, .int .i64 c.z, .int .i64 c.p.n, .int .i64 c.p.d, .int .i64 c.q.n, .int .i64 c.q.d] 43)).alloc (.cells #[.int .i64 d.x, .int .i64 d.z, .int .i64 d.p.n, .int .i64 d.p.d, .int .i64 d.q.n, .int .i64 d.q.d] 43)) := ((((Below.refl _ _).alloc (Nat.le_refl _) _).alloc (by simp) _).alloc (by simp; omega) _).alloc (by simp; omega) _
  have hA := halloc (halloc (halloc (World.alloc_heap_new w (.cells #[.int .i64 a.x, .int .i64 a.z] 36)) (.cells #[.int .i64 b.x, .int .i64 b.z] 36)) (.cells #[.int .i64 c.x, .int .i64 c.z, .int .i64 c.p.n, .int .i64 c.p.d, .int .i64 c.q.n, .int .i64 c.q.d] 43)) (.cells #[.int .i64 d.x, .int .i64 d.z, .int .i64 d.p.n, .int .i64 d.p.d, .int .i64 d.q.n, .int .i64 d.q.d] 43)
  have hBb := halloc (halloc (World.alloc_heap_new (w.alloc (.cells #[.int .i64 a.x, .int .i64 a.z] 36)) (.cells #[.int .i64 b.x, .int .i64 b.z] 36)) (.cells #[.int .i64 c.x, .int .i64 c.z, .int .i64 c.p.n, .int .i64 c.p.d, .int .i64 c.q.n, .int .i64 c.q.d] 43)) (.cells #[.int .i64 d.x, .int .i64 d.z, .int .i64 d.p.n, .int .i64 d.p.d, .int .i64 d.q.n, .int .i64 d.q.d] 43)
  have hC := halloc (World.alloc_heap_new ((w.alloc (.cells #[.int .i64 a.x, .int .i64 a.z] 36)).alloc (.cells #[.int .i64 b.x, .int .i64 b.z] 36)) (.cells #[.int .i64 c.x, .int .i64 c.z, .int .i64 c.p.n, .int .i64 c.p.d, .int .i64 c.q.n, .int .i64 c.q.d] 43)) (.cells #[.int .i64 d.x, .int .i64 d.z, .int .i64 d.p.n, .int .i64 d.p.d, .int .i64 d.q.n, .int .i64 d.q.d] 43)
  have hD := World.alloc_heap_new (((w.alloc (.cells #[.int .i64 a.x, .int .i64 a.z] 36)).alloc (.cells #[.int .i64 b.x, .int .i64 b.z] 36)).alloc (.cells #[.int .i64 c.x, .int .i64 c.z, .int .i64 c.p.n, .int .i64 c.p.d, .int .i64 c.q.n, .int .i64 c.q.d] 43)) (.cells #[.int .i64 d.x, .int .i64 d.z, .int .i64 d.p.n, .int .i64 d.p.d, .int .i64 d.q.n, .int .i64 d.q.d] 43)
  simp only [World.size_alloc] at hA hBb hC hD
  clear hr hu hv c1 c2 c3 c4 c5 c6 c7 c8 c9 c10 c11 d1 d2 d3 d4 d5 d6 d7 d8 d9 d10 d11 Mc Md hc hd hl ha hb
  obtain ⟨ax, az⟩ := a
  obtain ⟨bx, bz⟩ := b
  obtain ⟨cx, cz, ⟨cpn, cpd⟩, ⟨cqn, cqd⟩⟩ := c
  obtain ⟨dx, dz, ⟨dpn, dpd⟩, ⟨dqn, dqd⟩⟩ := d
  simp only at M1 M2 N1 N2 P1 P2 hB hA hBb hC hD
  have k1 := hcell (k := 0) (v := .int .i64 ax) hA rfl
  have k2 := hcell (k := 1) (v := .int .i64 az) hA rfl
  have k3 := hcell (k := 0) (v := .int .i64 bx) hBb rfl
  have k4 := hcell (k := 1) (v := .int .i64 bz) hBb rfl
  have k5 := hcell (k := 0) (v := .int .i64 cx) hC rfl
  have k6 := hcell (k := 1) (v := .int .i64 cz) hC rfl
  go_enter Try.func25, Try.ntmps25
  go_wp2_with fail
  generalize ((((w.alloc (.cells #[.int .i64 ax, .int .i64 az] 36)).alloc (.cells #[.int .i64 bx, .int .i64 bz] 36)).alloc (.cells #[.int .i64 cx, .int .i64 cz, .int .i64 cpn, .int .i64 cpd, .int .i64 cqn, .int .i64 cqd] 43)).alloc (.cells #[.int .i64 dx, .int .i64 dz, .int .i64 dpn, .int .i64 dpd, .int .i64 dqn, .int .i64 dqd] 43)) = W at hB hA hBb hC hD k1 k2 k3 k4 k5 k6 ⊢
  clear k1 k2 k3 k4 k5 k6
  refine (M1.out _).mono ?_
  rintro e w1 ⟨rfl, hb1⟩
  have hA1 := hkeep hb1 hA
  have hBb1 := hkeep hb1 hBb
  have hC1 := hkeep hb1 hC
  have hD1 := hkeep hb1 hD
  have hB1 := hB.trans (hb1.mono hB.size)
  clear hA hBb hC hD hB hb1 M1
  have k1 := hcell (k := 0) (v := .int .i64 ax) hA1 rfl
  have k2 := hcell (k := 1) (v := .int .i64 az) hA1 rfl
  have k3 := hcell (k := 0) (v := .int .i64 bx) hBb1 rfl
  have k4 := hcell (k := 1) (v := .int .i64 bz) hBb1 rfl
  have k5 := hcell (k := 0) (v := .int .i64 dx) hD1 rfl
  have k6 := hcell (k := 1) (v := .int .i64 dz) hD1 rfl
  go_wp2_with fail
  refine (M2.out _).mono ?_
  rintro e w2 ⟨rfl, hb2⟩
  clear k1 k2 k3 k4 k5 k6
  have hA2 := hkeep hb2 hA1
  have hBb2 := hkeep hb2 hBb1
  have hC2 := hkeep hb2 hC1
  have hD2 := hkeep hb2 hD1
  have hB2 := hB1.trans (hb2.mono hB1.size)
  clear hA1 hBb1 hC1 hD1 hB1 hb2 M2
  have k1 := hcell (k := 0) (v := .int .i64 ax) hA2 rfl
  have k2 := hcell (k := 1) (v := .int .i64 az) hA2 rfl
  have k3 := hcell (k := 0) (v := .int .i64 bx) hBb2 rfl
  have k4 := hcell (k := 1) (v := .int .i64 bz) hBb2 rfl
  have k5 := hcell (k := 0) (v := .int .i64 cx) hC2 rfl
  have k6 := hcell (k := 1) (v := .int .i64 cz) hC2 rfl
  go_wp2_with fail
  refine (N1.out _).mono ?_
  rintro e w3 ⟨rfl, hb3⟩
  clear k1 k2 k3 k4 k5 k6
  have hA3 := halloc (hkeep hb3 hA2) (.cells #[.int .i64 cx, .int .i64 cz, .int .i64 cpn, .int .i64 cpd, .int .i64 cqn, .int .i64 cqd] 43)
  have hBb3 := halloc (hkeep hb3 hBb2) (.cells #[.int .i64 cx, .int .i64 cz, .int .i64 cpn, .int .i64 cpd, .int .i64 cqn, .int .i64 cqd] 43)
  have hD3 := halloc (hkeep hb3 hD2) (.cells #[.int .i64 cx, .int .i64 cz, .int .i64 cpn, .int .i64 cpd, .int .i64 cqn, .int .i64 cqd] 43)
  have hX3 := World.alloc_heap_new w3 (.cells #[.int .i64 cx, .int .i64 cz, .int .i64 cpn, .int .i64 cpd, .int .i64 cqn, .int .i64 cqd] 43)
  have hB3 := (hB2.trans (hb3.mono hB2.size)).alloc (hB2.trans (hb3.mono hB2.size)).size (.cells #[.int .i64 cx, .int .i64 cz, .int .i64 cpn, .int .i64 cpd, .int .i64 cqn, .int .i64 cqd] 43)
  clear hA2 hBb2 hC2 hD2 hB2 hb3 N1
  have k1 := hcell (k := 0) (v := .int .i64 ax) hA3 rfl
  have k2 := hcell (k := 1) (v := .int .i64 az) hA3 rfl
  have k3 := hcell (k := 0) (v := .int .i64 bx) hBb3 rfl
  have k4 := hcell (k := 1) (v := .int .i64 bz) hBb3 rfl
  have k5 := hcell (k := 0) (v := .int .i64 dx) hD3 rfl
  have k6 := hcell (k := 1) (v := .int .i64 dz) hD3 rfl
  go_wp2_with fail
  refine (N2.out _).mono ?_
  rintro e w4 ⟨rfl, hb4⟩
  clear k1 k2 k3 k4 k5 k6
  have hX4 := halloc (hkeep hb4 hX3) (.cells #[.int .i64 dx, .int .i64 dz, .int .i64 dpn, .int .i64 dpd, .int .i64 dqn, .int .i64 dqd] 43)
  have hY4 := World.alloc_heap_new w4 (.cells #[.int .i64 dx, .int .i64 dz, .int .i64 dpn, .int .i64 dpd, .int .i64 dqn, .int .i64 dqd] 43)
  have hB4 := (hB3.trans (hb4.mono hB3.size)).alloc (hB3.trans (hb4.mono hB3.size)).size (.cells #[.int .i64 dx, .int .i64 dz, .int .i64 dpn, .int .i64 dpd, .int .i64 dqn, .int .i64 dqd] 43)
  clear hA3 hBb3 hD3 hX3 hB3 hb4 N2
  have k1 := hcell (k := 4) (v := .int .i64 cqn) hX4 rfl
  have k2 := hcell (k := 5) (v := .int .i64 cqd) hX4 rfl
  go_wp2_with fail
  refine (P1.out _).mono ?_
  rintro e w5 ⟨rfl, hb5⟩
  clear k1 k2
  have hX5 := hkeep hb5 hX4
  have hY5 := hkeep hb5 hY4
  have hB5 := hB4.trans (hb5.mono hB4.size)
  clear hX4 hY4 hB4 hb5 P1
  by_cases hu : 0 ≤ u
  · have k1 := hcell (k := 4) (v := .int .i64 dqn) hY5 rfl
    have k2 := hcell (k := 5) (v := .int .i64 dqd) hY5 rfl
    have k3 := hcell (k := 2) (v := .int .i64 cpn) hX5 rfl
    have k4 := hcell (k := 3) (v := .int .i64 cpd) hX5 rfl
    go_wp2_with fail
    refine (P2.out _).mono ?_
    rintro e w6 ⟨rfl, hb6⟩
    have hB6 := hB5.trans (hb6.mono hB5.size)
    clear k1 k2 k3 k4 hX5 hY5 hB5 hb6 P2
    go_wp2
    go_ret
    exact ⟨ret_b (by rw [HR.out]; simp [hu]), hB6⟩
  · go_wp2
    go_ret
    exact ⟨ret_b (by rw [HR.out]; simp; omega), hB5⟩

set_option maxHeartbeats 1000000 in
theorem holds_any (c : Cel) (p : Pt) (w : World) (hx : -50 ≤ c.x ∧ c.x ≤ 50) (hz : -50 ≤ c.z ∧ c.z ≤ 50) :
    Calls Try.prog 24 #[ceA c, ptA p] w fun e w' => e = .returned (.bool (decide (holdsC c p))) ∧ Below w.heap.size w w' := by
  have hB : Below w.heap.size w ((w.alloc (.cells #[.int .i64 c.x, .int .i64 c.z, .int .i64 c.p.n, .int .i64 c.p.d, .int .i64 c.q.n, .int .i64 c.q.d] 43)).alloc (.cells #[.int .i64 p.x, .int .i64 p.z] 36)) := ((Below.refl _ _).alloc (Nat.le_refl _) _).alloc (by simp) _
  obtain ⟨r, hr⟩ : ∃ r, Hid (r = decide (holdsC c p)) := ⟨_, rfl⟩
  rw [← hr.out]
  obtain ⟨cx, cz, ⟨cpn, cpd⟩, ⟨cqn, cqd⟩⟩ := c
  obtain ⟨px, pz⟩ := p
  simp only at hB hx hz
  go_enter Try.func24, Try.ntmps24
  go_wp2
  all_goals
    go_ret
    refine ⟨ret_b ?_, hB⟩
    rw [hr.out]
    clear hr
    simp only [holdsC]
    grind

/-! ### The wake -/
theorem cel_uniq {a b : Pt} {l L : List Cel} (hl : CelAt a b l) (hL : L.Perm (rawC a b)) (h1 : L.Pairwise (fun p q => ¬ cltC q p)) (h2 : ∀ p ∈ L, ∀ q ∈ L, ¬ cltC q p → ¬ cltC p q → p = q) : l = L := by
  refine List.Perm.eq_of_pairwise (le := fun p q => ¬ cltC q p) ?_ hl.2 h1 (hl.1.trans hL.symm)
  intro p q hp hq
  exact h2 p (hL.mem_iff.2 (hl.1.mem_iff.1 hp)) q hq
instance (c d : Cel) : Decidable (cltC c d) := by unfold cltC; infer_instance
def wL1 : List Cel := [⟨0, 0, ⟨0, 1⟩, ⟨1, 2⟩⟩, ⟨1, 0, ⟨1, 2⟩, ⟨1, 2⟩⟩, ⟨0, 1, ⟨1, 2⟩, ⟨1, 2⟩⟩, ⟨1, 1, ⟨1, 2⟩, ⟨1, 1⟩⟩]
def wL2 : List Cel := [⟨0, 0, ⟨0, 1⟩, ⟨1, 1⟩⟩, ⟨1, 0, ⟨0, 1⟩, ⟨1, 1⟩⟩, ⟨0, 1, ⟨0, 1⟩, ⟨1, 1⟩⟩, ⟨1, 1, ⟨0, 1⟩, ⟨1, 1⟩⟩]
theorem wake1 {l : List Cel} (hl : CelAt ⟨1, 1⟩ ⟨3, 3⟩ l) : l = wL1 :=
  cel_uniq hl (List.isPerm_iff.1 (by decide +kernel)) (by decide +kernel) (by decide +kernel)
theorem wake2 {l : List Cel} (hl : CelAt ⟨2, 2⟩ ⟨2, 2⟩ l) : l = wL2 :=
  cel_uniq hl (List.isPerm_iff.1 (by decide +kernel)) (by decide +kernel) (by decide +kernel)

set_option maxRecDepth 100000 in
set_option maxHeartbeats 4000000 in
theorem wakes03_any (w : World) : Calls Try.prog 22 #[] w fun e w' => e = .returned (.bool true) ∧ Below w.heap.size w w' := by
  have C1 := Lib.hid (fun W => cells_ok ⟨1, 1⟩ ⟨3, 3⟩ W (by decide) (by decide))
  have C2 := Lib.hid (fun W => cells_ok ⟨2, 2⟩ ⟨2, 2⟩ W (by decide) (by decide))
  go_enter Try.func22, Try.ntmps22
  go_wp2_with fail
  refine (C1.out _).mono ?_
  rintro e w1 ⟨ad, n, c, l, rfl, hsl, _, hat, hb1⟩
  obtain rfl := wake1 hat
  obtain rfl : 4 = n := hsl.len
  have hS := Lib.hid hsl
  clear hsl hat
  go_wp2_with fail
  refine (C2.out _).mono ?_
  rintro e w2 ⟨ad2, n2, c2, l2, rfl, hsl2, _, hat2, hb2⟩
  obtain rfl := wake2 hat2
  obtain rfl : 4 = n2 := hsl2.len
  have hB := hb1.trans (hb2.mono hb1.size)
  have hs := hS.out.below hb2 (Nat.le_refl _)
  have hle := hs.le
  have hmax := hs.max
  obtain ⟨b, off, rfl, hlt, hcell⟩ := hs.at0 (by omega)
  have a00 := hcell 0 _ rfl 0 _ rfl
  have a01 := hcell 0 _ rfl 1 _ rfl
  have a10 := hcell 1 _ rfl 0 _ rfl
  have a11 := hcell 1 _ rfl 1 _ rfl
  have a12 := hcell 1 _ rfl 2 _ rfl
  have a13 := hcell 1 _ rfl 3 _ rfl
  have a21 := hcell 2 _ rfl 1 _ rfl
  have a30 := hcell 3 _ rfl 0 _ rfl
  simp only [Nat.zero_mul, Nat.add_zero, Nat.one_mul] at a00 a01 a10 a11 a12 a13 a21 a30
  clear hsl2 hat2 hb1 hb2 hs hcell hS
  go_wp2
  go_ret
  exact ⟨rfl, hB⟩

end Go.Proofs.Ytndjljefppbmcaa
