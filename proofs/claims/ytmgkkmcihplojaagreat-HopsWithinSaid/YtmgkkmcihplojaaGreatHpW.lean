/- Walks: hops.Active at one hop; the law's wakes. -/
import Derived.Test.YtmgkkmcihplojaaGreatHpL
import Derived.Test.YtmgkkmcihplojaaGreatHpV
import Derived.Test.YtmgkkmcihplojaaGreatHsB
import Derived.Test.YtmgkkmcihplojaaGreatLcH
namespace Go.Proofs.YtmgkkmcihplojaaGreat
open Go.RowKit Go.Sort
attribute [local go_sem] Instr.index

theorem SlR.ofBlock {α : Type} {f : α → List Value} {sz : Nat} (hf : ∀ x, (f x).length = sz) {w : World} {b : Nat} {t : TypeId} {xs : List α} {n : Nat} (hb : w.heap[b]? = some (.cells (xs.flatMap f).toArray t (0, 0))) (hn : xs.length = n) (hm : n ≤ 9223372036854775807) : SlR f sz w (some ⟨b, 0, none⟩) n n xs := by
  refine ⟨hn, Nat.le_refl _, hm, .inr ⟨b, 0, rfl, hblt hb, fun i x hx j v hv => ?_⟩⟩
  rw [Nat.zero_add]
  exact hcell (k := i * sz + j) hb (by simpa using flatMap_at hf xs i x j v hx hv)
theorem SlI.ofBlock1 {w : World} {b : Nat} {t : TypeId} {v : Int} (hb : w.heap[b]? = some (.cells #[.int .i64 v] t (0, 0))) : SlI .i64 w (some ⟨b, 0, none⟩) 1 1 [v] := by
  refine ⟨rfl, Nat.le_refl _, by omega, .inr ⟨b, 0, rfl, fun i hi => ?_⟩⟩
  obtain rfl : i = 0 := by omega
  exact hcell (k := 0) hb rfl
set_option maxHeartbeats 800000 in
theorem config23_any (w : World) : Calls Tryz.prog 8 #[] w fun e w' => e = .returned (cfgV hcfg) ∧ Below w.heap.size w w' := by
  have hR := World.alloc_heap_new w (.cells #[.int .i64 0, .int .i64 0, .int .i64 0, .int .i64 0, .int .i64 0, .int .i64 0, .int .i64 0] 23 (0, 0))
  have hB1 : Below w.heap.size w (w.alloc (.cells #[.int .i64 0, .int .i64 0, .int .i64 0, .int .i64 0, .int .i64 0, .int .i64 0, .int .i64 0] 23 (0, 0))) := (Below.refl _ _).alloc (Nat.le_refl _) _
  obtain ⟨W, hW⟩ : ∃ W, W = w.alloc (.cells #[.int .i64 0, .int .i64 0, .int .i64 0, .int .i64 0, .int .i64 0, .int .i64 0, .int .i64 0] 23 (0, 0)) := ⟨_, rfl⟩
  rw [← hW] at hR hB1
  have z0 := hcell (k := 0) (v := .int .i64 0) hR rfl
  have f0 := hfroz (k := 0) hR
  have z1 := hcell (k := 1) (v := .int .i64 0) hR rfl
  have f1 := hfroz (k := 1) hR
  have z2 := hcell (k := 2) (v := .int .i64 0) hR rfl
  have f2 := hfroz (k := 2) hR
  have z3 := hcell (k := 3) (v := .int .i64 0) hR rfl
  have f3 := hfroz (k := 3) hR
  have z4 := hcell (k := 4) (v := .int .i64 0) hR rfl
  have f4 := hfroz (k := 4) hR
  have z5 := hcell (k := 5) (v := .int .i64 0) hR rfl
  have f5 := hfroz (k := 5) hR
  have z6 := hcell (k := 6) (v := .int .i64 0) hR rfl
  have f6 := hfroz (k := 6) hR
  have HN := Lib.hid (bx7_set hR (.int .i64 0) (.int .i64 1) (.int .i64 3) (.int .i64 1) (.int .i64 1) (.int .i64 8) (.int .i64 8))
  have hB9 := hB1.grown (bx7_grown (w := W) (b := w.heap.size) (.int .i64 0) (.int .i64 1) (.int .i64 3) (.int .i64 1) (.int .i64 1) (.int .i64 8) (.int .i64 8)) hB1.size (fun j hj => by cases hj; omega)
  clear hR
  go_enter Tryz.func8, Tryz.ntmps8
  go_upto_region 1 with fail
  rw [← hW]
  clear hW
  go_wp2
  refine bodyPost_ret (results_c1 rfl _ _ w.heap.size 23 _ (0, 0) _ rfl HN.out Tryz.underlying23 rfl (by kernel_rfl)) rfl ⟨rfl, hB9⟩
/-- The document's tile. -/
def ColT (t : Tl) : Prop := t.x = 0 ∧ t.z = 0 ∧ t.rs.map Prod.snd = [hr1, hr2] ∧ t.ds = [] ∧ t.rn ≤ 60
def CoPost (w : World) (e : Ending) (w' : World) : Prop := (∃ a t, e = .returned (.slice a 1 1) ∧ SlTl w' a 1 1 [t] ∧ ColT t) ∧ Below w.heap.size w w'
set_option maxRecDepth 100000 in
set_option maxHeartbeats 8000000 in
theorem column23_any (w : World) : Calls Tryz.prog 9 #[] w (CoPost w) := by
  obtain ⟨B0, hB0⟩ : ∃ B, B = w.heap.size := ⟨_, rfl⟩
  obtain ⟨B1, hB1⟩ : ∃ B, B = B0 + 1 := ⟨_, rfl⟩
  obtain ⟨B2, hB2⟩ : ∃ B, B = B1 + 1 := ⟨_, rfl⟩
  obtain ⟨B3, hB3⟩ : ∃ B, B = B2 + 1 := ⟨_, rfl⟩
  obtain ⟨B4, hB4⟩ : ∃ B, B = B3 + 1 := ⟨_, rfl⟩
  obtain ⟨B5, hB5⟩ : ∃ B, B = B4 + 1 := ⟨_, rfl⟩
  obtain ⟨W0, hW0⟩ : ∃ W, W = w.alloc (.cells #[.int .i64 3] 3 (0, 0)) := ⟨_, rfl⟩
  have s0 : W0.heap.size = B0 + 1 := by rw [hW0, World.size_alloc, ← hB0]
  have b0 : W0.heap[B0]? = some (.cells #[.int .i64 3] 3 (0, 0)) := by rw [hW0, hB0]; exact World.alloc_heap_new _ _
  have l0 : Below w.heap.size w W0 := by rw [hW0]; exact (Below.refl _ _).alloc (Nat.le_refl _) _
  obtain ⟨W1, hW1⟩ : ∃ W, W = W0.alloc (.cells #[.int .i64 7] 3 (0, 0)) := ⟨_, rfl⟩
  have s1 : W1.heap.size = B1 + 1 := by rw [hW1, World.size_alloc, s0, ← hB1]
  have b1 : W1.heap[B1]? = some (.cells #[.int .i64 7] 3 (0, 0)) := by rw [hW1, hB1, ← s0]; exact World.alloc_heap_new _ _
  have l1 : Below W0.heap.size W0 W1 := by rw [hW1]; exact (Below.refl _ _).alloc (Nat.le_refl _) _
  obtain ⟨W2, hW2⟩ : ∃ W, W = W1.alloc (.cells #[.int .i64 7] 3 (0, 0)) := ⟨_, rfl⟩
  have s2 : W2.heap.size = B2 + 1 := by rw [hW2, World.size_alloc, s1, ← hB2]
  have b2 : W2.heap[B2]? = some (.cells #[.int .i64 7] 3 (0, 0)) := by rw [hW2, hB2, ← s1]; exact World.alloc_heap_new _ _
  have l2 : Below W1.heap.size W1 W2 := by rw [hW2]; exact (Below.refl _ _).alloc (Nat.le_refl _) _
  obtain ⟨W3, hW3⟩ : ∃ W, W = W2.alloc (.cells #[.int .i64 20] 3 (0, 0)) := ⟨_, rfl⟩
  have s3 : W3.heap.size = B3 + 1 := by rw [hW3, World.size_alloc, s2, ← hB3]
  have b3 : W3.heap[B3]? = some (.cells #[.int .i64 20] 3 (0, 0)) := by rw [hW3, hB3, ← s2]; exact World.alloc_heap_new _ _
  have l3 : Below W2.heap.size W2 W3 := by rw [hW3]; exact (Below.refl _ _).alloc (Nat.le_refl _) _
  obtain ⟨W4, hW4⟩ : ∃ W, W = W3.alloc (.cells #[.int .i64 2, .int .i64 2, .int .i64 2, .int .i64 2, .int .i64 1, .slice (some ⟨B0, 0, none⟩) 1 1, .slice (some ⟨B1, 0, none⟩) 1 1, .int .i64 2, .int .i64 2, .int .i64 2, .int .i64 2, .int .i64 1, .slice (some ⟨B2, 0, none⟩) 1 1, .slice (some ⟨B3, 0, none⟩) 1 1] 55 (0, 0)) := ⟨_, rfl⟩
  have s4 : W4.heap.size = B4 + 1 := by rw [hW4, World.size_alloc, s3, ← hB4]
  have b4 : W4.heap[B4]? = some (.cells #[.int .i64 2, .int .i64 2, .int .i64 2, .int .i64 2, .int .i64 1, .slice (some ⟨B0, 0, none⟩) 1 1, .slice (some ⟨B1, 0, none⟩) 1 1, .int .i64 2, .int .i64 2, .int .i64 2, .int .i64 2, .int .i64 1, .slice (some ⟨B2, 0, none⟩) 1 1, .slice (some ⟨B3, 0, none⟩) 1 1] 55 (0, 0)) := by rw [hW4, hB4, ← s3]; exact World.alloc_heap_new _ _
  have l4 : Below W3.heap.size W3 W4 := by rw [hW4]; exact (Below.refl _ _).alloc (Nat.le_refl _) _
  obtain ⟨W5, hW5⟩ : ∃ W, W = W4.alloc (.cells #[.int .i64 0, .int .i64 0, .slice (some ⟨B4, 0, none⟩) 2 2, .slice none 0 0] 38 (0, 0)) := ⟨_, rfl⟩
  have s5 : W5.heap.size = B5 + 1 := by rw [hW5, World.size_alloc, s4, ← hB5]
  have b5 : W5.heap[B5]? = some (.cells #[.int .i64 0, .int .i64 0, .slice (some ⟨B4, 0, none⟩) 2 2, .slice none 0 0] 38 (0, 0)) := by rw [hW5, hB5, ← s4]; exact World.alloc_heap_new _ _
  have l5 : Below W4.heap.size W4 W5 := by rw [hW5]; exact (Below.refl _ _).alloc (Nat.le_refl _) _
  have hB : Below w.heap.size w W5 := by
    have q1 := l0.trans (l1.mono l0.size)
    have q2 := q1.trans (l2.mono q1.size)
    have q3 := q2.trans (l3.mono q2.size)
    have q4 := q3.trans (l4.mono q3.size)
    exact q4.trans (l5.mono q4.size)
  have k4 := hkeep l5 b4
  have k3 := hkeep l5 (hkeep l4 b3)
  have k2 := hkeep l5 (hkeep l4 (hkeep l3 b2))
  have k1 := hkeep l5 (hkeep l4 (hkeep l3 (hkeep l2 b1)))
  have k0 := hkeep l5 (hkeep l4 (hkeep l3 (hkeep l2 (hkeep l1 b0))))
  have HF : Hid (CoPost w (.returned (.slice (some ⟨B5, 0, none⟩) 1 1)) W5) := by
    refine ⟨⟨_, ⟨0, 0, some ⟨B4, 0, none⟩, 2, 2, [(⟨some ⟨B0, 0, none⟩, 1, some ⟨B1, 0, none⟩, 1⟩, hr1), (⟨some ⟨B2, 0, none⟩, 1, some ⟨B3, 0, none⟩, 1⟩, hr2)], none, 0, 0, []⟩, rfl, ⟨SlR.ofBlock tlC_len b5 rfl (show (1:Nat) ≤ _ by omega), ?_⟩, rfl, rfl, rfl, rfl, (show (2:Nat) ≤ 60 by omega)⟩, hB⟩
    intro t ht
    obtain rfl := List.mem_singleton.1 ht
    refine ⟨⟨SlR.ofBlock rcF7_len k4 rfl (show (2:Nat) ≤ _ by omega), ?_⟩, SlR.nil _ _ _⟩
    intro x hx
    rcases List.mem_cons.1 hx with rfl | hx
    · exact ⟨SlI.ofBlock1 k0, SlI.ofBlock1 k1⟩
    · obtain rfl := List.mem_singleton.1 hx
      exact ⟨SlI.ofBlock1 k2, SlI.ofBlock1 k3⟩
  clear k0 k1 k2 k3 k4 b0 b1 b2 b3 b4 b5 l0 l1 l2 l3 l4 l5 hB s0 s1 s2 s3 s4 s5
  subst hW5
  subst hW4
  subst hW3
  subst hW2
  subst hW1
  subst hW0
  subst hB5
  subst hB4
  subst hB3
  subst hB2
  subst hB1
  subst hB0
  go_enter Tryz.func9, Tryz.ntmps9
  go_wp2
  go_ret
  exact HF.out
theorem acC_lenH (h : Ac) : (acC h).length = 14 := rfl
theorem acC_oneH (h : Ac) : ∀ u ∈ acC h, u.oneCell' = true := by
  intro u hu
  simp only [acC, List.mem_cons, List.not_mem_nil, or_false] at hu
  rcases hu with rfl | rfl | rfl | rfl | rfl | rfl | rfl | rfl | rfl | rfl | rfl | rfl | rfl | rfl <;> rfl
theorem info_acH : (Tryz.prog.info? 49).map (fun i => (i.zero, i.size, i.bytes)) = some (some (.agg #[.int .i64 0, .int .i64 0, .int .i64 0, .int .i64 0, .int .i64 0, .int .i64 0, .int .i64 0, .int .i64 0, .int .i64 0, .int .i64 0, .int .i64 0, .bool false, .int .i64 0, .int .i64 0]), 14, 112) := by kernel_rfl
/-- One hop that leads from one floor to another one is told. -/
def AcPost (h : Hp) (d1 d2 : Fd) (w : World) (e : Ending) (w' : World) : Prop := (∃ a c, e = .returned (.tuple #[.slice a 1 c, .int .i64 0]) ∧ SlR acC 14 w' a 1 c [(⟨h.id, ⟨d1.i, d1.k, h.a.x, h.a.z, d1.y⟩, ⟨d2.i, d2.k, h.b.x, h.b.z, d2.y⟩, h.both, h.area, h.cost⟩ : Ac)]) ∧ Below w.heap.size w w'
set_option maxRecDepth 100000 in
set_option maxHeartbeats 16000000 in
theorem hpactive_any (cf : Cfg) (a : Option Addr) (n c : Nat) (ts : List Tl) (h : Hp) (hb hc : Nat) (d1 d2 : Fd) (w : World) (hx : SlTl w a n c ts) (hn9 : n ≤ 9) (hr : ∀ t ∈ ts, t.rn ≤ 60) (hs : SlR hpC 10 w (some ⟨hb, 0, none⟩) 1 hc [h])
    (hE : smE cf ts = 0) (hok : (idOk h.id && hpOk cf.w cf.d h) = true) (h1 : locD h.a.x h.a.z (clY h.a.y) 4 (tlRs ts) = some d1) (h2 : locD h.b.x h.b.z (clY h.b.y) 4 (tlRs ts) = some d2) :
    Calls Tryz.prog 10 #[cfgV cf, .slice a n c, .slice (some ⟨hb, 0, none⟩) 1 hc] w (AcPost h d1 d2 w) := by
  have hcf := (smE_zero hE).1
  have HG := Lib.hid (fun (x z : Int) t (ht : t ∈ ts) p (hp : p ∈ t.rs) f hf => rcAt_hgt (x := x) (z := z) (f := f) (smE_rc hE ht hp) hf)
  have CK := Lib.hid (fun W (hb : Below w.heap.size w W) => hpcheck_any cf a n c ts W (hx.below hb (Nat.le_refl _)))
  have L1 := Lib.hid (fun W (hb : Below w.heap.size w W) => hploc_any a n c ts h.a.x h.a.z h.a.y 4 W (hx.below hb (Nat.le_refl _)) hn9 hr (HG.out h.a.x h.a.z))
  have L2 := Lib.hid (fun W (hb : Below w.heap.size w W) => hploc_any a n c ts h.b.x h.b.z h.b.y 4 W (hx.below hb (Nat.le_refl _)) hn9 hr (HG.out h.b.x h.b.z))
  have AH := Lib.hid (fun W => addhop_any cf h W hcf hok)
  have HX := Lib.hid (fun W (hb : Below w.heap.size w W) => hs.below hb (Nat.le_refl _))
  have hid : 1 ≤ h.id := by
    rw [Bool.and_eq_true] at hok
    have := hok.1
    unfold idOk at this
    simp only [Bool.and_eq_true, decide_eq_true_eq] at this
    exact this.1
  rw [hE] at CK
  rw [h1] at L1
  rw [h2] at L2
  unfold LoPost at L1 L2
  unfold SpPost at AH
  dsimp only [enA, Option.isSome] at L1 L2
  clear hx hn9 hr hs hE hok h1 h2 HG hcf
  have hB : Below w.heap.size w (w.alloc (cfO cf)) := (Below.refl _ _).alloc (Nat.le_refl _) _
  have hC := World.alloc_heap_new w (cfO cf)
  obtain ⟨W1, hW1⟩ : ∃ W, W = w.alloc (cfO cf) := ⟨_, rfl⟩
  obtain ⟨S0, hS0⟩ : ∃ S, S = w.heap.size := ⟨_, rfl⟩
  rw [← hW1] at hB hC
  rw [← hS0] at hC
  have hS0w : w.heap.size ≤ S0 := by omega
  dsimp only [cfO, cfgV, hpC] at hC hW1 CK AH ⊢
  have c0 := hcell (k := 0) (v := .int .i64 cf.clear) hC rfl
  have c1 := hcell (k := 1) (v := .int .i64 cf.climb) hC rfl
  have c2 := hcell (k := 2) (v := .int .i64 cf.height) hC rfl
  have c3 := hcell (k := 3) (v := .int .i64 cf.rise) hC rfl
  have c4 := hcell (k := 4) (v := .int .i64 cf.run) hC rfl
  have c5 := hcell (k := 5) (v := .int .i64 cf.w) hC rfl
  have c6 := hcell (k := 6) (v := .int .i64 cf.d) hC rfl
  go_enter Tryz.func10, Tryz.ntmps10
  go_upto_region 1 with fail
  rw [← hW1, ← hS0]
  clear hW1 hS0
  go_wp2_with fail
  refine (CK.out _ hB).mono ?_
  rintro e w2 ⟨rfl, hb2⟩
  have hC2 := hkeep hb2 hC
  have hB2 := hB.trans (hb2.mono hB.size)
  clear c0 c1 c2 c3 c4 c5 c6 hC hB hb2 CK
  have HSI : Hid (S0 < w2.heap.size) := hblt hC2
  go_wp2_with fail
  go_loopw [9, 32] (fun s9 s32 wr => ∃ k : Nat, s32 = .int .i64 k ∧ k ≤ 1 ∧ (k = 0 → s9 = .int .i64 0) ∧ (k = 1 → s9 = .int .i64 h.id) ∧ Below w.heap.size w wr ∧ Below w2.heap.size w2 wr) (fun _ s32 _ => 1 - (intOf s32).toNat)
  case atStart => exact ⟨0, rfl, Nat.zero_le _, fun _ => rfl, (fun e => by cases e), hB2, Below.refl _ _⟩
  case round =>
    obtain ⟨k, rfl, hk, h9, h9b, hbw, hb⟩ := hrel
    by_cases hk0 : k = 0
    case pos =>
      subst hk0
      obtain rfl := h9 rfl
      clear h9 h9b
      have hK : ((0 : Nat) : Int) < 1 := by decide
      have hX := HX.out _ hbw
      have r0 := fun j u (hu : (hpC h)[j]? = some u) => SlR.cells hX (k := 0) (x := h) rfl j u hu
      have r1 := r0 0 _ rfl
      have r2 := r0 1 _ rfl
      have r3 := r0 2 _ rfl
      have r4 := r0 3 _ rfl
      have r5 := r0 4 _ rfl
      have r6 := r0 5 _ rfl
      have r7 := r0 6 _ rfl
      have r8 := r0 7 _ rfl
      have r9 := r0 8 _ rfl
      have r10 := r0 9 _ rfl
      simp only [Nat.zero_mul, Nat.zero_add, Nat.add_zero] at r1 r2 r3 r4 r5 r6 r7 r8 r9 r10
      clear r0 hX
      have hA : Below wr.heap.size wr (wr.alloc (.cells #[.int .i64 h.id, .int .i64 h.a.x, .int .i64 h.a.z, .int .i64 h.a.y, .int .i64 h.b.x, .int .i64 h.b.z, .int .i64 h.b.y, .bool h.both, .int .i64 h.area, .int .i64 h.cost] 46 (0, 0))) := (Below.refl _ _).alloc (Nat.le_refl _) _
      have hN := World.alloc_heap_new wr (.cells #[.int .i64 h.id, .int .i64 h.a.x, .int .i64 h.a.z, .int .i64 h.a.y, .int .i64 h.b.x, .int .i64 h.b.z, .int .i64 h.b.y, .bool h.both, .int .i64 h.area, .int .i64 h.cost] 46 (0, 0))
      have hbw3 := hbw.trans (hA.mono hbw.size)
      have hb3 := hb.trans (hA.mono hb.size)
      have hC3 := hkeep hb3 hC2
      obtain ⟨W3, hW3⟩ : ∃ W, W = wr.alloc (.cells #[.int .i64 h.id, .int .i64 h.a.x, .int .i64 h.a.z, .int .i64 h.a.y, .int .i64 h.b.x, .int .i64 h.b.z, .int .i64 h.b.y, .bool h.both, .int .i64 h.area, .int .i64 h.cost] 46 (0, 0)) := ⟨_, rfl⟩
      obtain ⟨T3, hT3⟩ : ∃ T, T = wr.heap.size := ⟨_, rfl⟩
      rw [← hW3] at hN hbw3 hb3 hC3
      rw [← hT3] at hN
      clear hA hb hbw
      go_upto_region 10 with fail
      rw [← hW3, ← hT3]
      clear hW3 hT3 r1 r2 r3 r4 r5 r6 r7 r8 r9 r10
      have n0 := hcell (k := 0) (v := .int .i64 h.id) hN rfl
      have n1 := hcell (k := 1) (v := .int .i64 h.a.x) hN rfl
      have n2 := hcell (k := 2) (v := .int .i64 h.a.z) hN rfl
      have n3 := hcell (k := 3) (v := .int .i64 h.a.y) hN rfl
      have n4 := hcell (k := 4) (v := .int .i64 h.b.x) hN rfl
      have n5 := hcell (k := 5) (v := .int .i64 h.b.z) hN rfl
      have n6 := hcell (k := 6) (v := .int .i64 h.b.y) hN rfl
      have n7 := hcell (k := 7) (v := .bool h.both) hN rfl
      have n8 := hcell (k := 8) (v := .int .i64 h.area) hN rfl
      have n9 := hcell (k := 9) (v := .int .i64 h.cost) hN rfl
      have c0 := hcell (k := 0) (v := .int .i64 cf.clear) hC3 rfl
      have c1 := hcell (k := 1) (v := .int .i64 cf.climb) hC3 rfl
      have c2 := hcell (k := 2) (v := .int .i64 cf.height) hC3 rfl
      have c3 := hcell (k := 3) (v := .int .i64 cf.rise) hC3 rfl
      have c4 := hcell (k := 4) (v := .int .i64 cf.run) hC3 rfl
      have c5 := hcell (k := 5) (v := .int .i64 cf.w) hC3 rfl
      have c6 := hcell (k := 6) (v := .int .i64 cf.d) hC3 rfl
      go_wp2_with fail
      refine (AH.out _).mono ?_
      rintro e w4 ⟨⟨xa, xn, xc, rfl⟩, hb4⟩
      have hN4 := hkeep hb4 hN
      have hbw4 := hbw3.trans (hb4.mono hbw3.size)
      have hb5 := hb3.trans (hb4.mono hb3.size)
      clear n0 n1 n2 n3 n4 n5 n6 n7 n8 n9 c0 c1 c2 c3 c4 c5 c6 hN hC3 hbw3 hb3 hb4
      have hA : Below w4.heap.size w4 (w4.alloc (.cells #[.slice none 0 0, .slice none 0 0, .slice xa xn xc] 59 (0, 0))) := (Below.refl _ _).alloc (Nat.le_refl _) _
      have hN5 := hkeep hA hN4
      have hbw5 := hbw4.trans (hA.mono hbw4.size)
      have hb6 := hb5.trans (hA.mono hb5.size)
      obtain ⟨W5, hW5⟩ : ∃ W, W = w4.alloc (.cells #[.slice none 0 0, .slice none 0 0, .slice xa xn xc] 59 (0, 0)) := ⟨_, rfl⟩
      rw [← hW5] at hN5 hbw5 hb6
      clear hA hN4 hbw4 hb5
      go_upto_region 11 with fail
      rw [← hW5]
      clear hW5
      have n0 := hcell (k := 0) (v := .int .i64 h.id) hN5 rfl
      have hle : ¬ h.id ≤ 0 := by omega
      clear hN5
      go_wp2
      go_roundw
      case rel => exact ⟨1, rfl, by omega, (fun e => by cases e), (fun _ => rfl), hbw5, hb6⟩
      case measure => simp [intOf]
    obtain rfl : k = 1 := by omega
    clear h9 h9b hk0 HSI hC2
    have hK : ¬ ((1 : Nat) : Int) < 1 := by decide
    have hB6 := hbw
    have hC6 : True := trivial
    clear hB2
    go_wp2_with fail
    clear hb hC6
    obtain ⟨L, hL⟩ : ∃ L, L = wr.heap.size := ⟨_, rfl⟩
    have hLw : w.heap.size ≤ L := by have := hbw.size; omega
    have hLL : L ≤ wr.heap.size := by omega
    clear hL
    go_loopw [14, 56] (fun s14 s56 wq => ∃ (k : Nat) (va : Option Addr) (vc : Nat), s56 = .int .i64 k ∧ ((k = 0 ∧ s14 = .slice none 0 0) ∨ (k = 1 ∧ s14 = .slice va 1 vc ∧ SlR acC 14 wq va 1 vc [(⟨h.id, ⟨d1.i, d1.k, h.a.x, h.a.z, d1.y⟩, ⟨d2.i, d2.k, h.b.x, h.b.z, d2.y⟩, h.both, h.area, h.cost⟩ : Ac)])) ∧ Below w.heap.size w wq ∧ L ≤ wq.heap.size) (fun _ s56 _ => 1 - (intOf s56).toNat)
    case atStart => exact ⟨0, none, 0, rfl, .inl ⟨rfl, rfl⟩, hB6, hLL⟩
    case round =>
      clear hbw hB6 hLL
      obtain ⟨k, va, vc, rfl, hor, hbw, hLL⟩ := hrel
      rcases hor with ⟨rfl, rfl⟩ | ⟨rfl, rfl, hsl⟩
      case inr =>
        have hK2 : ¬ ((1 : Nat) : Int) < 1 := by decide
        go_wp2
        go_ret2
        exact And.intro ⟨_, _, rfl, hsl⟩ hbw
      have hK2 : ((0 : Nat) : Int) < 1 := by decide
      have hX := HX.out _ hbw
      have r0 := fun j u (hu : (hpC h)[j]? = some u) => SlR.cells hX (k := 0) (x := h) rfl j u hu
      have r1 := r0 0 _ rfl
      have r2 := r0 1 _ rfl
      have r3 := r0 2 _ rfl
      have r4 := r0 3 _ rfl
      have r5 := r0 4 _ rfl
      have r6 := r0 5 _ rfl
      have r7 := r0 6 _ rfl
      have r8 := r0 7 _ rfl
      have r9 := r0 8 _ rfl
      have r10 := r0 9 _ rfl
      simp only [Nat.zero_mul, Nat.zero_add, Nat.add_zero] at r1 r2 r3 r4 r5 r6 r7 r8 r9 r10
      clear r0 hX
      have hA : Below wr.heap.size wr (wr.alloc (.cells #[.int .i64 h.id, .int .i64 h.a.x, .int .i64 h.a.z, .int .i64 h.a.y, .int .i64 h.b.x, .int .i64 h.b.z, .int .i64 h.b.y, .bool h.both, .int .i64 h.area, .int .i64 h.cost] 46 (0, 0))) := (Below.refl _ _).alloc (Nat.le_refl _) _
      have hN := World.alloc_heap_new wr (.cells #[.int .i64 h.id, .int .i64 h.a.x, .int .i64 h.a.z, .int .i64 h.a.y, .int .i64 h.b.x, .int .i64 h.b.z, .int .i64 h.b.y, .bool h.both, .int .i64 h.area, .int .i64 h.cost] 46 (0, 0))
      have hbw3 := hbw.trans (hA.mono hbw.size)
      have hL3 := Nat.le_trans hLL hA.size
      obtain ⟨W3, hW3⟩ : ∃ W, W = wr.alloc (.cells #[.int .i64 h.id, .int .i64 h.a.x, .int .i64 h.a.z, .int .i64 h.a.y, .int .i64 h.b.x, .int .i64 h.b.z, .int .i64 h.b.y, .bool h.both, .int .i64 h.area, .int .i64 h.cost] 46 (0, 0)) := ⟨_, rfl⟩
      obtain ⟨T3, hT3⟩ : ∃ T, T = wr.heap.size := ⟨_, rfl⟩
      rw [← hW3] at hN hbw3 hL3
      rw [← hT3] at hN
      clear hA hbw hLL
      go_upto_region 19 with fail
      rw [← hW3, ← hT3]
      clear hW3 hT3 r1 r2 r3 r4 r5 r6 r7 r8 r9 r10
      have n1 := hcell (k := 1) (v := .int .i64 h.a.x) hN rfl
      have n2 := hcell (k := 2) (v := .int .i64 h.a.z) hN rfl
      have n3 := hcell (k := 3) (v := .int .i64 h.a.y) hN rfl
      go_wp2_with fail
      refine (L1.out _ hbw3).mono ?_
      rintro e w4 ⟨rfl, hb4⟩
      have hN4 := hkeep hb4 hN
      have hbw4 := hbw3.trans (hb4.mono hbw3.size)
      have hL4 := Nat.le_trans hL3 hb4.size
      clear n1 n2 n3 hN hbw3 hL3 hb4
      have hA : Below w4.heap.size w4 (w4.alloc (.cells #[.int .i64 (d1.i : Int), .int .i64 (d1.k : Int), .int .i64 h.a.x, .int .i64 h.a.z, .int .i64 d1.y] 30 (0, 0))) := (Below.refl _ _).alloc (Nat.le_refl _) _
      have hE1 := World.alloc_heap_new w4 (.cells #[.int .i64 (d1.i : Int), .int .i64 (d1.k : Int), .int .i64 h.a.x, .int .i64 h.a.z, .int .i64 d1.y] 30 (0, 0))
      have hN5 := hkeep hA hN4
      have hbw5 := hbw4.trans (hA.mono hbw4.size)
      have hL5 := Nat.le_trans hL4 hA.size
      obtain ⟨W5, hW5⟩ : ∃ W, W = w4.alloc (.cells #[.int .i64 (d1.i : Int), .int .i64 (d1.k : Int), .int .i64 h.a.x, .int .i64 h.a.z, .int .i64 d1.y] 30 (0, 0)) := ⟨_, rfl⟩
      obtain ⟨T5, hT5⟩ : ∃ T, T = w4.heap.size := ⟨_, rfl⟩
      rw [← hW5] at hN5 hE1 hbw5 hL5
      rw [← hT5] at hE1
      clear hA hbw4 hL4 hN4
      go_upto_region 20 with fail
      rw [← hW5, ← hT5]
      clear hW5 hT5
      have n1 := hcell (k := 4) (v := .int .i64 h.b.x) hN5 rfl
      have n2 := hcell (k := 5) (v := .int .i64 h.b.z) hN5 rfl
      have n3 := hcell (k := 6) (v := .int .i64 h.b.y) hN5 rfl
      go_wp2_with fail
      refine (L2.out _ hbw5).mono ?_
      rintro e w6 ⟨rfl, hb6⟩
      have hN6 := hkeep hb6 hN5
      have hE6 := hkeep hb6 hE1
      have hbw6 := hbw5.trans (hb6.mono hbw5.size)
      have hL6 := Nat.le_trans hL5 hb6.size
      clear n1 n2 n3 hN5 hE1 hbw5 hL5 hb6
      have hA : Below w6.heap.size w6 (w6.alloc (.cells #[.int .i64 (d2.i : Int), .int .i64 (d2.k : Int), .int .i64 h.b.x, .int .i64 h.b.z, .int .i64 d2.y] 30 (0, 0))) := (Below.refl _ _).alloc (Nat.le_refl _) _
      have hE2 := World.alloc_heap_new w6 (.cells #[.int .i64 (d2.i : Int), .int .i64 (d2.k : Int), .int .i64 h.b.x, .int .i64 h.b.z, .int .i64 d2.y] 30 (0, 0))
      have hN7 := hkeep hA hN6
      have hE7 := hkeep hA hE6
      have hbw7 := hbw6.trans (hA.mono hbw6.size)
      have hL7 := Nat.le_trans hL6 hA.size
      obtain ⟨W7, hW7⟩ : ∃ W, W = w6.alloc (.cells #[.int .i64 (d2.i : Int), .int .i64 (d2.k : Int), .int .i64 h.b.x, .int .i64 h.b.z, .int .i64 d2.y] 30 (0, 0)) := ⟨_, rfl⟩
      obtain ⟨T7, hT7⟩ : ∃ T, T = w6.heap.size := ⟨_, rfl⟩
      rw [← hW7] at hN7 hE7 hE2 hbw7 hL7
      rw [← hT7] at hE2
      clear hA hbw6 hL6 hN6 hE6
      go_upto_region 21 with fail
      rw [← hW7, ← hT7]
      clear hW7 hT7
      have n0 := hcell (k := 0) (v := .int .i64 h.id) hN7 rfl
      have n7 := hcell (k := 7) (v := .bool h.both) hN7 rfl
      have n8 := hcell (k := 8) (v := .int .i64 h.area) hN7 rfl
      have n9 := hcell (k := 9) (v := .int .i64 h.cost) hN7 rfl
      have e1c0 := hcell (k := 0) (v := .int .i64 (d1.i : Int)) hE7 rfl
      have e1c1 := hcell (k := 1) (v := .int .i64 (d1.k : Int)) hE7 rfl
      have e1c2 := hcell (k := 2) (v := .int .i64 h.a.x) hE7 rfl
      have e1c3 := hcell (k := 3) (v := .int .i64 h.a.z) hE7 rfl
      have e1c4 := hcell (k := 4) (v := .int .i64 d1.y) hE7 rfl
      have e2c0 := hcell (k := 0) (v := .int .i64 (d2.i : Int)) hE2 rfl
      have e2c1 := hcell (k := 1) (v := .int .i64 (d2.k : Int)) hE2 rfl
      have e2c2 := hcell (k := 2) (v := .int .i64 h.b.x) hE2 rfl
      have e2c3 := hcell (k := 3) (v := .int .i64 h.b.z) hE2 rfl
      have e2c4 := hcell (k := 4) (v := .int .i64 d2.y) hE2 rfl
      have HBW7 := Lib.hid hbw7
      clear hN7 hE7 hE2 hbw7
      go_wp2_with (at_builtin; refine wpList_appR (f := acC) (sz := 14) (e := 49) (B := L) (n := 0) (xs := []) _ acC_lenH acC_oneH rfl _ _ 41 rfl (.agg #[.int .i64 0, .int .i64 0, .int .i64 0, .int .i64 0, .int .i64 0, .int .i64 0, .int .i64 0, .int .i64 0, .int .i64 0, .int .i64 0, .int .i64 0, .bool false, .int .i64 0, .int .i64 0]) 112 Tryz.underlying41 info_acH rfl (by decide) ⟨h.id, ⟨d1.i, d1.k, h.a.x, h.a.z, d1.y⟩, ⟨d2.i, d2.k, h.b.x, h.b.z, d2.y⟩, h.both, h.area, h.cost⟩ 49 (OwnR.nil _ _ _ _ _) rfl rfl (by omega) (by omega) hL7 ?_; intro v' w' hown' happ; obtain ⟨xa, xc, rfl, hsl⟩ := OwnR.reads acC_lenH hown')
      have hB9 : Below w.heap.size w w' := HBW7.out.trans (happ.below (B := w.heap.size) HBW7.out.size (fun i hi => by cases hi))
      have hL9 := Nat.le_trans hL7 happ.grown.size
      have HSL := Lib.hid hsl
      clear hown' happ n0 n7 n8 n9 e1c0 e1c1 e1c2 e1c3 e1c4 e2c0 e2c1 e2c2 e2c3 e2c4 hsl hL7
      go_wp2
      go_roundw
      case rel => exact ⟨1, xa, xc, rfl, .inr ⟨rfl, rfl, HSL.out⟩, hB9, hL9⟩
      case measure => simp [intOf]
end Go.Proofs.YtmgkkmcihplojaaGreat
