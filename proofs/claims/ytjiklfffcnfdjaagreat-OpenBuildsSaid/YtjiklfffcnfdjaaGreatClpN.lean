/- Walk: the corners of a triangle over a column. -/
import Derived.Test.YtjiklfffcnfdjaaGreatGm
import Derived.Test.YtjiklfffcnfdjaaGreatClpC
import Derived.Test.YtjiklfffcnfdjaaGreatClpD
import Derived.Test.YtjiklfffcnfdjaaGreatGd
import Derived.Deep.DeepCutAuto
import Derived.Deep.CutRange
namespace Go.Proofs.YtjiklfffcnfdjaaGreat
open Go.RowKit
attribute [local go_sem] Instr.index
@[local go_sem] theorem run_store_func' (P : Program) (w : World) (a : Addr) (f : Fn) (x y : Array Value) (m : Mode) :
    (store a (.func f x y) m).run P w = match w.cell? a with
      | some _ => if w.frozen? a then .halt (.unsupported (.unsafePointer "a write to bytes that a string shares")) w else .ok () (w.setCell a (.func f x y))
      | none => match w.farStore P a (.func f x y) (m == .atomic) with
        | .ok (w', _) => .ok () w'
        | .error h => .halt h w := run_store P w a _ m rfl
theorem SlR.litS {α : Type} {f : α → List Value} {sz : Nat} (hf : ∀ x, (f x).length = sz) (w : World) (xs : List α) (e : TypeId) (h : xs.length ≤ 9223372036854775807) : SlR f sz (w.alloc (.cells (xs.flatMap f).toArray e)) (some ⟨w.heap.size, 0, none⟩) xs.length xs.length xs := by
  refine ⟨rfl, Nat.le_refl _, h, .inr ⟨w.heap.size, 0, rfl, by simp, fun i x hx j v hv => ?_⟩⟩
  rw [World.cell?_alloc_at _ _ _ _ rfl, Nat.zero_add]
  have := flatMap_at hf xs i x j v hx hv
  simpa using this
theorem SlR.ofTri {w : World} {T : Nat} {t : T3} (h : w.heap[T]? = some (.cells (t3C t) 124 (0, 0))) : SlR vxC 3 w (some ⟨T, 0, none⟩) 3 3 [t.a, t.b, t.c] := by
  refine ⟨rfl, Nat.le_refl _, by omega, .inr ⟨T, 0, rfl, hblt h, fun i x hx j v hv => ?_⟩⟩
  have hi : i < 3 := by have := (List.getElem?_eq_some_iff.1 hx).1; simpa using this
  have hj : j < 3 := by have := (List.getElem?_eq_some_iff.1 hv).1; simpa [vxC] using this
  have h3 : i = 0 ∨ i = 1 ∨ i = 2 := by omega
  have h4 : j = 0 ∨ j = 1 ∨ j = 2 := by omega
  rcases h3 with rfl | rfl | rfl <;> rcases h4 with rfl | rfl | rfl <;> (simp only [List.getElem?_cons_zero, List.getElem?_cons_succ, Option.some.injEq] at hx; subst hx; simp only [vxC, List.getElem?_cons_zero, List.getElem?_cons_succ, Option.some.injEq] at hv; subst hv; exact hcell h rfl)

theorem ver_filter (x z : Int) (ta tb tc : V3) : ([ta, tb, tc].filter (fun v : V3 => overS x z ⟨v.x, v.z, 1⟩)).map (fun v : V3 => (⟨v.x, v.z, 1⟩ : Sp)) = [(⟨ta.x, ta.z, 1⟩ : Sp), ⟨tb.x, tb.z, 1⟩, ⟨tc.x, tc.z, 1⟩].filter (overS x z) := by
  have h := List.filter_map (f := fun v : V3 => (⟨v.x, v.z, 1⟩ : Sp)) (p := overS x z) (l := [ta, tb, tc])
  exact h.symm
/-- What Corners leaves where it may answer. -/
def cornPost (t : T3) (x z : Int) (w : World) : Ending → World → Prop := fun e w' => ∃ ad cp l, e = .returned (.tuple #[.slice ad l.length cp, .int .i64 0]) ∧ CornAt t x z l ∧ SlR crC 4 w' ad l.length cp l ∧ Below w.heap.size w w'

set_option maxRecDepth 100000 in
set_option maxHeartbeats 40000000 in
theorem corners_good (i : Int) (a b c : V3) (x z : Int) (w : World) (t : T3) (ho : openT a b c = (t, true)) (hx : -1 ≤ x ∧ x ≤ 32) (hz : -1 ≤ z ∧ z ≤ 32) :
    Calls Tryz.prog 64 #[tiA i a b c, .int .i64 x, .int .i64 z] w (cornPost t x z w) := by
  have hto := open_ok ho
  have hflat := Lib.hid (open_flat ho)
  have OP := Lib.hid (fun W => open_any i a b c W)
  rw [ho] at OP
  have Hto := Lib.hid hto
  clear ho
  have u1 : ¬ x < -1 := by omega
  have u2 : ¬ 32 < x := by omega
  have u3 : ¬ z < -1 := by omega
  have u4 : ¬ 32 < z := by omega
  obtain ⟨ax, ay, az⟩ := a
  obtain ⟨bx, by_, bz⟩ := b
  obtain ⟨cx, cy, cz⟩ := c
  obtain ⟨ta, tb, tc, ts⟩ := t
  simp only at OP
  have hX := (Boxed.new (w.alloc (.cells #[.int .i64 i, .int .i64 ax, .int .i64 ay, .int .i64 az, .int .i64 bx, .int .i64 by_, .int .i64 bz, .int .i64 cx, .int .i64 cy, .int .i64 cz] 77)) 3 (.int .i64 x)).alloc (.cells #[.int .i64 z] 3)
  have hZ := Boxed.new ((w.alloc (.cells #[.int .i64 i, .int .i64 ax, .int .i64 ay, .int .i64 az, .int .i64 bx, .int .i64 by_, .int .i64 bz, .int .i64 cx, .int .i64 cy, .int .i64 cz] 77)).alloc (.cells #[.int .i64 x] 3)) 3 (.int .i64 z)
  have hB : Below w.heap.size w (((w.alloc (.cells #[.int .i64 i, .int .i64 ax, .int .i64 ay, .int .i64 az, .int .i64 bx, .int .i64 by_, .int .i64 bz, .int .i64 cx, .int .i64 cy, .int .i64 cz] 77)).alloc (.cells #[.int .i64 x] 3)).alloc (.cells #[.int .i64 z] 3)) := (((Below.refl _ _).alloc (Nat.le_refl _) _).alloc (by simp) _).alloc (by simp; omega) _
  have hI := halloc (halloc (World.alloc_heap_new w (.cells #[.int .i64 i, .int .i64 ax, .int .i64 ay, .int .i64 az, .int .i64 bx, .int .i64 by_, .int .i64 bz, .int .i64 cx, .int .i64 cy, .int .i64 cz] 77)) (.cells #[.int .i64 x] 3)) (.cells #[.int .i64 z] 3)
  simp only [World.size_alloc] at hX hZ
  have k0 := hcell (k := 0) (v := .int .i64 i) hI rfl
  have k1 := hcell (k := 1) (v := .int .i64 ax) hI rfl
  have k2 := hcell (k := 2) (v := .int .i64 ay) hI rfl
  have k3 := hcell (k := 3) (v := .int .i64 az) hI rfl
  have k4 := hcell (k := 4) (v := .int .i64 bx) hI rfl
  have k5 := hcell (k := 5) (v := .int .i64 by_) hI rfl
  have k6 := hcell (k := 6) (v := .int .i64 bz) hI rfl
  have k7 := hcell (k := 7) (v := .int .i64 cx) hI rfl
  have k8 := hcell (k := 8) (v := .int .i64 cy) hI rfl
  have k9 := hcell (k := 9) (v := .int .i64 cz) hI rfl
  go_enter Tryz.func64, Tryz.ntmps64
  go_upto_region 1 with fail
  generalize (((w.alloc (.cells #[.int .i64 i, .int .i64 ax, .int .i64 ay, .int .i64 az, .int .i64 bx, .int .i64 by_, .int .i64 bz, .int .i64 cx, .int .i64 cy, .int .i64 cz] 77)).alloc (.cells #[.int .i64 x] 3)).alloc (.cells #[.int .i64 z] 3)) = W0 at hX hZ hB hI k0 k1 k2 k3 k4 k5 k6 k7 k8 k9 ⊢
  obtain ⟨X, hXe⟩ : ∃ X, X = w.heap.size + 1 := ⟨_, rfl⟩
  rw [← hXe] at hX hZ ⊢
  obtain ⟨Z, hZe⟩ : ∃ Z, Z = X + 1 := ⟨_, rfl⟩
  rw [← hZe] at hZ ⊢
  clear hXe hZe
  go_wp2_with fail
  refine (OP.out _).mono ?_
  rintro e w1 ⟨rfl, hb1⟩
  clear k0 k1 k2 k3 k4 k5 k6 k7 k8 k9 hI OP
  have hX1 : Boxed w1 X 3 (.int .i64 x) := (hb1.block _ hX.lt).trans hX
  have hZ1 : Boxed w1 Z 3 (.int .i64 z) := (hb1.block _ hZ.lt).trans hZ
  have hB1 := hB.trans (hb1.mono hB.size)
  clear hX hZ hB hb1
  have hT2 := World.alloc_heap_new w1 (.cells (t3C ⟨ta, tb, tc, ts⟩) 124)
  have hX2 := Boxed.alloc hX1 (.cells (t3C ⟨ta, tb, tc, ts⟩) 124)
  have hZ2 := Boxed.alloc hZ1 (.cells (t3C ⟨ta, tb, tc, ts⟩) 124)
  have hB2 := hB1.alloc hB1.size (.cells (t3C ⟨ta, tb, tc, ts⟩) 124)
  clear hX1 hZ1
  have x2 := hX2.cell
  have z2 := hZ2.cell
  go_upto_region 10 with fail
  clear x2 z2
  have hB3 := hB2.alloc hB2.size (.cells #[.func (.func 86) #[] #[.pointer (some ⟨X, 0, none⟩), .pointer (some ⟨Z, 0, none⟩)]] 129)
  have hT3 := halloc hT2 (.cells #[.func (.func 86) #[] #[.pointer (some ⟨X, 0, none⟩), .pointer (some ⟨Z, 0, none⟩)]] 129)
  have hOv : OverAt (w1.heap.size + 1) X Z x z ((w1.alloc (.cells (t3C ⟨ta, tb, tc, ts⟩) 124)).alloc (.cells #[.func (.func 86) #[] #[.pointer (some ⟨X, 0, none⟩), .pointer (some ⟨Z, 0, none⟩)]] 129)) :=
    ⟨by have := World.alloc_heap_new (w1.alloc (.cells (t3C ⟨ta, tb, tc, ts⟩) 124)) (.cells #[.func (.func 86) #[] #[.pointer (some ⟨X, 0, none⟩), .pointer (some ⟨Z, 0, none⟩)]] 129); simpa using this, hX2.alloc _, hZ2.alloc _⟩
  clear hX2 hZ2 hT2 hB2
  generalize ((w1.alloc (.cells (t3C ⟨ta, tb, tc, ts⟩) 124)).alloc (.cells #[.func (.func 86) #[] #[.pointer (some ⟨X, 0, none⟩), .pointer (some ⟨Z, 0, none⟩)]] 129)) = W3 at hB3 hT3 hOv ⊢
  obtain ⟨T, hTe⟩ : ∃ T, T = w1.heap.size := ⟨_, rfl⟩
  rw [← hTe] at hT3 hOv ⊢
  obtain ⟨O, hOe⟩ : ∃ O, O = T + 1 := ⟨_, rfl⟩
  rw [← hOe] at hOv ⊢
  clear hTe hOe hB1
  have x2 := hOv.x.cell
  have z2 := hOv.z.cell
  have hcol : SlR spC 3 (W3.alloc (.cells #[.int .i64 x, .int .i64 z, .int .i64 1, .int .i64 (x + 1), .int .i64 z, .int .i64 1, .int .i64 x, .int .i64 (z + 1), .int .i64 1, .int .i64 (x + 1), .int .i64 (z + 1), .int .i64 1] 128)) (some ⟨W3.heap.size, 0, none⟩) 4 4 (colS x z) := SlR.litS spC_len W3 (colS x z) 128 (by simp [colS])
  have hT4 := halloc hT3 (.cells #[.int .i64 x, .int .i64 z, .int .i64 1, .int .i64 (x + 1), .int .i64 z, .int .i64 1, .int .i64 x, .int .i64 (z + 1), .int .i64 1, .int .i64 (x + 1), .int .i64 (z + 1), .int .i64 1] 128)
  have GH := Lib.hid (gather_holds ⟨ta, tb, tc, ts⟩ T _ 4 4 (colS x z) (W3.alloc (.cells #[.int .i64 x, .int .i64 z, .int .i64 1, .int .i64 (x + 1), .int .i64 z, .int .i64 1, .int .i64 x, .int .i64 (z + 1), .int .i64 1, .int .i64 (x + 1), .int .i64 (z + 1), .int .i64 1] 128)) hcol hT4 Hto.out (by
    intro p hp
    simp only [colS, List.mem_cons, List.not_mem_nil, or_false] at hp
    rcases hp with rfl | rfl | rfl | rfl <;> (unfold SpSmall; simp only; omega)) (by omega))
  clear hcol
  go_wp2_with fail
  refine GH.out.mono ?_
  rintro e w4 ⟨v1, rfl, hown1, hb4⟩
  have hB4 : Below W3.heap.size W3 w4 := ((Below.refl _ _).alloc (Nat.le_refl _) (.cells #[.int .i64 x, .int .i64 z, .int .i64 1, .int .i64 (x + 1), .int .i64 z, .int .i64 1, .int .i64 x, .int .i64 (z + 1), .int .i64 1, .int .i64 (x + 1), .int .i64 (z + 1), .int .i64 1] 128)).trans (hb4.mono (by simp))
  have hown1 := hown1.mono (B' := W3.heap.size) (by simp)
  clear hb4 GH hT4 x2 z2
  have hT5 := hkeepB hB4 hT3 (hblt hT3)
  have hOv5 := hOv.below hB4
  have GO := Lib.hid (gather_over x z O X Z (some ⟨T, 0, none⟩) 3 3 [ta, tb, tc] w4 (SlR.ofTri hT5) hOv5 ⟨u1, u2⟩ ⟨u3, u4⟩ (by
    intro p hp
    simp only [List.mem_cons, List.not_mem_nil, or_false] at hp
    rcases hp with rfl | rfl | rfl
    · exact Hto.out.1
    · exact Hto.out.2.1
    · exact Hto.out.2.2.1) (by omega))
  have kt : w4.heap[T]? = _ := hT5
  clear hOv5
  obtain ⟨L1, hL1⟩ : ∃ L1, L1 = (colS x z).filter (holdsT ⟨ta, tb, tc, ts⟩) := ⟨_, rfl⟩
  obtain ⟨L2, hL2⟩ : ∃ L2, L2 = ([ta, tb, tc].filter (fun v : V3 => overS x z ⟨v.x, v.z, 1⟩)).map (fun v : V3 => (⟨v.x, v.z, 1⟩ : Sp)) := ⟨_, rfl⟩
  have l1 : L1.length ≤ 4 := by rw [hL1]; exact List.length_filter_le _ _
  have l2 : L2.length ≤ 3 := by rw [hL2, List.length_map]; exact List.length_filter_le _ _
  rw [← hL2] at GO
  rw [← hL1] at hown1
  have HL1 := Lib.hid hL1
  have HL2 := Lib.hid hL2
  clear hL1 hL2 kt
  have hs34 := hB4.size
  go_wp2_with (first
    | (go_at_call 90; refine GO.out.mono ?_; rintro e w5 ⟨v2, rfl, hown2, hb5⟩; have hown1' := hown1.below hb5 (Nat.le_refl _); have hB5 := hB4.trans (hb5.mono hB4.size); obtain ⟨a2, c2, rfl, hrd2⟩ := OwnR.reads spC_len hown2; have hs5 := hB5.size; clear hown1 hown2 hb5)
    | (at_builtin; refine wpList_appSA (f := spC) (sz := 3) (e := 128) _ spC_len spC_one rfl _ _ 130 rfl (.agg #[.int .i64 0, .int .i64 0, .int .i64 0]) 24 Tryz.underlying130 info_spot rfl (by decide) W3.heap.size _ _ _ hown1' rfl _ _ _ _ hrd2 rfl (by omega) (by omega) hs5 ?_; intro v6 w6 hown6 hb6)
    | fail)
  have hB6 := hB5.trans hb6
  obtain ⟨L0, hL0⟩ : ∃ L0, L0 = L1 ++ L2 := ⟨_, rfl⟩
  have l0 : L0.length ≤ 7 := by rw [hL0, List.length_append]; omega
  have hown7 : OwnR spC 3 128 W3.heap.size w6 v6 L0.length L0 := by rw [hL0]; exact own_len hown6
  clear hown6 hown1' hrd2 hB5 hb6 hT5 hB4 GO l1 l2
  obtain ⟨t3, ht3⟩ : ∃ t3 : T3, t3 = ⟨ta, tb, tc, ts⟩ := ⟨_, rfl⟩
  have HT3 := Lib.hid ht3
  clear ht3
  have HSides : Hid (∀ k : Nat, k < 3 → vOk (sideAt t3 k).1 = true ∧ vOk (sideAt t3 k).2 = true) := by
    intro k hk
    rw [HT3.out]
    have h3 : k = 0 ∨ k = 1 ∨ k = 2 := by omega
    obtain ⟨h1, h2, h4, _⟩ := Hto.out
    rcases h3 with rfl | rfl | rfl
    · exact ⟨h1, h2⟩
    · exact ⟨h2, h4⟩
    · exact ⟨h4, h1⟩
  go_loopw [11, 64] (fun l i wr => ∃ k : Nat, i = .int .i64 k ∧ k ≤ 3 ∧ OwnR spC 3 128 W3.heap.size wr l (L0 ++ sidesL t3 x z k).length (L0 ++ sidesL t3 x z k) ∧ Below W3.heap.size W3 wr) (fun _ i _ => 3 - (intOf i).toNat)
  case atStart => exact ⟨0, rfl, by omega, by simpa [sidesL] using hown7, hB6⟩
  case round =>
    clear hown7 hB6
    obtain ⟨k, rfl, hk, hown, hB7⟩ := hrel
    by_cases hk3 : k = 3
    · subst hk3
      have HS : Hid (L0 ++ sidesL t3 x z 3 = spotsS t3 x z) := by
        show _ = _
        rw [sides_three, show L0 = L1 ++ L2 from hL0, HL1.out, HL2.out, HT3.out]
        unfold spotsS verS
        rw [ver_filter]
      obtain ⟨SP, hSP⟩ : ∃ SP, SP = L0 ++ sidesL t3 x z 3 := ⟨_, rfl⟩
      have hSl : SP.length ≤ 40 := by rw [hSP, List.length_append]; have := sides_len t3 x z 3; omega
      rw [← hSP] at hown
      have hSP2 : SP = spotsS t3 x z := hSP.trans HS.out
      have hT7 := hkeep hB7 hT3
      have hoA : vOk t3.a = true := by rw [HT3.out]; exact Hto.out.1
      have hoB : vOk t3.b = true := by rw [HT3.out]; exact Hto.out.2.1
      have hoC : vOk t3.c = true := by rw [HT3.out]; exact Hto.out.2.2.1
      have hfl : t3.s = flatS t3.a t3.b t3.c ∧ 0 < t3.s := by rw [HT3.out]; exact hflat.out
      have hs2 : t3.s ≤ 2048 := by rw [HT3.out]; exact Hto.out.2.2.2.2
      have hsm : ∀ p ∈ SP, SpSmall p ∧ 0 < p.d := by
        intro p hp
        rw [hSP2] at hp
        exact ⟨spots_small hoA hoB hoC ⟨by omega, by omega, by omega, by omega⟩ p hp, (spots_in hfl.1 hfl.2 hp).1⟩
      have hcs : ∀ c ∈ SP.map (liftT t3), CrSmall c := by
        intro c hc
        obtain ⟨p, hp, rfl⟩ := List.mem_map.1 hc
        exact lift_small ⟨hfl.2, hs2⟩ (hsm p hp).1 (hsm p hp).2
      obtain ⟨a9, c9, rfl, hrd⟩ := OwnR.reads spC_len hown
      have GL := Lib.hid (gather_lift t3 T a9 _ c9 SP wr hrd (by rw [HT3.out]; exact hT7) (by rw [HT3.out]; exact Hto.out) hsm (by rw [hown.1]; omega))
      have HF : Hid (∀ ys : List Cr, ys.Perm (SP.map (liftT t3)) → ys.Pairwise (fun p q => ¬ crLt q p) → CornAt t3 x z (compC ys)) := fun ys hp hsrt => corn_of hfl.1 hfl.2 (by rw [← hSP2]; exact hp) hsrt
      have hBt : Below w.heap.size w wr := hB3.trans (hB7.mono hB3.size)
      have hml : (SP.map (liftT t3)).length ≤ 40 := by rw [List.length_map]; exact hSl
      generalize SP.map (liftT t3) = CL at GL HF hcs hml
      clear hoA hoB hoC hfl hs2 hsm hrd hown hSP hSP2 HS hT7
      go_wp2_with fail
      refine GL.out.mono ?_
      rintro e w9 ⟨v9, rfl, hown9, hb9⟩
      have SC := Lib.hid (sortcr_any v9 _ _ wr.heap.size w9 hcs hown9 (by omega))
      have hs9 := hb9.size
      clear hown9 hcs GL
      go_wp2_with fail
      refine SC.out.mono ?_
      rintro e w10 ⟨rfl, ys, hp, hsrt, hown10, hb10⟩
      have hs10 := hb10.size
      have CC := Lib.hid (compactcr_any v9 _ ys wr.heap.size w10 hown10 (by omega) (by omega))
      clear hown10 SC
      go_wp2_with fail
      refine CC.out.mono ?_
      rintro e w11 ⟨ad, cp, rfl, hrd11, hb11⟩
      have hCA := HF.out ys hp hsrt
      have hB9 := hBt.trans (hb9.mono hBt.size)
      have hB10 := hB9.trans (hb10.mono hBt.size)
      have hB11 := hB10.trans (hb11.mono hBt.size)
      have HCA := Lib.hid hCA
      have HRD := Lib.hid hrd11
      clear hCA hrd11 CC HF hp hsrt
      go_wp2
      go_ret2
      exact ⟨ad, cp, compC ys, rfl, by rw [← HT3.out]; exact HCA.out, HRD.out, hB11⟩
    · have hkI : (k : Int) < 3 := by omega
      obtain ⟨hu, hv⟩ := HSides.out k (by omega)
      have hu := Lib.hid hu
      have hv := Lib.hid hv
      have hT7 := hkeep hB7 hT3
      obtain ⟨WR, rfl⟩ : ∃ WR : World, WR = wr := ⟨_, rfl⟩
      go_upto_region 15 with fail
      go_cut [13] from 67 to 77 (fun s13 wx => s13 = .pointer (some ⟨WR.heap.size, 0, none⟩) ∧ wx.heap[WR.heap.size]? = some (.cells #[.int .i64 (sideAt t3 k).1.x, .int .i64 (sideAt t3 k).1.y, .int .i64 (sideAt t3 k).1.z, .int .i64 (sideAt t3 k).2.x, .int .i64 (sideAt t3 k).2.y, .int .i64 (sideAt t3 k).2.z] 137 (0, 0)) ∧ Below WR.heap.size WR wx)
      case first =>
          have hk' : k = 0 ∨ k = 1 ∨ k = 2 := by omega
          have c0 := hcell (k := 0) (v := .int .i64 ta.x) hT7 rfl
          have c1 := hcell (k := 1) (v := .int .i64 ta.y) hT7 rfl
          have c2 := hcell (k := 2) (v := .int .i64 ta.z) hT7 rfl
          have c3 := hcell (k := 3) (v := .int .i64 tb.x) hT7 rfl
          have c4 := hcell (k := 4) (v := .int .i64 tb.y) hT7 rfl
          have c5 := hcell (k := 5) (v := .int .i64 tb.z) hT7 rfl
          have c6 := hcell (k := 6) (v := .int .i64 tc.x) hT7 rfl
          have c7 := hcell (k := 7) (v := .int .i64 tc.y) hT7 rfl
          have c8 := hcell (k := 8) (v := .int .i64 tc.z) hT7 rfl
          have hC : ∃ k2 : Nat, (k2 : Int) < 3 ∧ ((k : Int) + 1).tmod 3 = (k2 : Int) ∧ ((k : Int) + 1) % 3 = (k2 : Int) ∧ WR.cell? ⟨T, k * 3, none⟩ = some (.int .i64 (sideAt t3 k).1.x) ∧ WR.cell? ⟨T, k * 3 + 1, none⟩ = some (.int .i64 (sideAt t3 k).1.y) ∧ WR.cell? ⟨T, k * 3 + 2, none⟩ = some (.int .i64 (sideAt t3 k).1.z) ∧ WR.cell? ⟨T, k2 * 3, none⟩ = some (.int .i64 (sideAt t3 k).2.x) ∧ WR.cell? ⟨T, k2 * 3 + 1, none⟩ = some (.int .i64 (sideAt t3 k).2.y) ∧ WR.cell? ⟨T, k2 * 3 + 2, none⟩ = some (.int .i64 (sideAt t3 k).2.z) := by
            rw [HT3.out]
            rcases hk' with rfl | rfl | rfl
            · exact ⟨1, by decide, by decide, by decide, c0, c1, c2, c3, c4, c5⟩
            · exact ⟨2, by decide, by decide, by decide, c3, c4, c5, c6, c7, c8⟩
            · exact ⟨0, by decide, by decide, by decide, c6, c7, c8, c0, c1, c2⟩
          obtain ⟨k2, hk2, hm, hm2, d0, d1, d2, d3, d4, d5⟩ := hC
          have n1 := World.new_ne WR _ d0
          have hw1 : IntKind.i64.wrap ((k : Int) + 1) = (k : Int) + 1 := by rw [IntKind.wrap_i64]; omega
          have hk0 : (0 : Int) ≤ (k : Int) := by omega
          have hk1 : (0 : Int) ≤ (k2 : Int) := by omega
          clear hm2 hk' hk hk3 hx hz u1 u2 u3 u4 c0 c1 c2 c3 c4 c5 c6 c7 c8 hto hu hv hown hB7 hT7 hT3 hB3 hOv hown1 hs34 hs5 l0
          obtain ⟨s0, h0⟩ : ∃ s0, s0 = (sideAt t3 k).1.x := ⟨_, rfl⟩
          rw [← h0] at d0
          have E0 := Lib.hid h0
          clear h0
          obtain ⟨s1, h1⟩ : ∃ s1, s1 = (sideAt t3 k).1.y := ⟨_, rfl⟩
          rw [← h1] at d1
          have E1 := Lib.hid h1
          clear h1
          obtain ⟨s2, h2⟩ : ∃ s2, s2 = (sideAt t3 k).1.z := ⟨_, rfl⟩
          rw [← h2] at d2
          have E2 := Lib.hid h2
          clear h2
          obtain ⟨s3, h3⟩ : ∃ s3, s3 = (sideAt t3 k).2.x := ⟨_, rfl⟩
          rw [← h3] at d3
          have E3 := Lib.hid h3
          clear h3
          obtain ⟨s4, h4⟩ : ∃ s4, s4 = (sideAt t3 k).2.y := ⟨_, rfl⟩
          rw [← h4] at d4
          have E4 := Lib.hid h4
          clear h4
          obtain ⟨s5, h5⟩ : ∃ s5, s5 = (sideAt t3 k).2.z := ⟨_, rfl⟩
          rw [← h5] at d5
          have E5 := Lib.hid h5
          clear h5
          go_wp2_with fail
          go_region_held3 (fun WW => WW.cell? ⟨T, k * 3, none⟩ = some (.int .i64 s0) ∧ WW.cell? ⟨T, k * 3 + 1, none⟩ = some (.int .i64 s1) ∧ WW.cell? ⟨T, k * 3 + 2, none⟩ = some (.int .i64 s2) ∧ WW.cell? ⟨T, k2 * 3, none⟩ = some (.int .i64 s3) ∧ WW.cell? ⟨T, k2 * 3 + 1, none⟩ = some (.int .i64 s4) ∧ WW.cell? ⟨T, k2 * 3 + 2, none⟩ = some (.int .i64 s5)) (first | go_keep | fail) (fail)
          all_goals
            rename_i hH
            clear hH
            go_wp2
            go_meet
            have hal := World.alloc_heap_new WR (.cells #[.int .i64 s0, .int .i64 s1, .int .i64 s2, .int .i64 s3, .int .i64 s4, .int .i64 s5] 137)
            exact ⟨rfl, by rw [← E0.out, ← E1.out, ← E2.out, ← E3.out, ← E4.out, ← E5.out]; exact hal, ((Below.refl _ _).alloc (Nat.le_refl _) _).drew⟩
      case rest =>
      obtain ⟨rfl, hS, hbW⟩ := hcut
      obtain ⟨W8, rfl⟩ : ∃ W8 : World, W8 = wc := ⟨_, rfl⟩
      obtain ⟨S, hSe⟩ : ∃ S, S = WR.heap.size := ⟨_, rfl⟩
      have hS3 : W3.heap.size ≤ S := by rw [hSe]; exact hB7.size
      rw [← hSe] at hS ⊢
      have hSides := sides_succ t3 x z k
      have hown8 := hown.below hbW (Nat.le_refl _)
      have hSne : ∀ (w' : World) (v' : Value) n' (ys : List Sp), OwnR spC 3 128 W3.heap.size w' v' n' ys → w'.heap[S]? = some (.cells #[.int .i64 (sideAt t3 k).1.x, .int .i64 (sideAt t3 k).1.y, .int .i64 (sideAt t3 k).1.z, .int .i64 (sideAt t3 k).2.x, .int .i64 (sideAt t3 k).2.y, .int .i64 (sideAt t3 k).2.z] 137 (0, 0)) → v'.ownBlock ≠ some S := by
        intro w' v' n' ys ho hh e
        rcases ho.2.2 with ⟨rfl, _⟩ | ⟨g, cap, cur, rfl, _, hg, _⟩
        · cases e
        · have e2 : g = S := by simpa [Value.ownBlock] using e
          rw [e2, hh] at hg
          cases hg
      have hB8 := hB7.trans (hbW.mono hB7.size)
      generalize hsa : sideAt t3 k = sd at hu hv hS hSides hSne
      obtain ⟨u, v⟩ := sd
      simp only at hu hv hS hSides hSne
      have HSides2 := Lib.hid hSides
      have HSne := Lib.hid hSne
      clear hown hB7 hbW hT7 hsa hSides hSne hSe
      have e0 := hcell (k := 0) (v := .int .i64 u.x) hS rfl
      have e1 := hcell (k := 1) (v := .int .i64 u.y) hS rfl
      have e2 := hcell (k := 2) (v := .int .i64 u.z) hS rfl
      have e3 := hcell (k := 3) (v := .int .i64 v.x) hS rfl
      have e4 := hcell (k := 4) (v := .int .i64 v.y) hS rfl
      have e5 := hcell (k := 5) (v := .int .i64 v.z) hS rfl
      go_wp2_with fail
      clear e0 e1 e2 e3 e4 e5
      go_loopw [11, 83] (fun l i wr => ∃ m : Nat, i = .int .i64 m ∧ m ≤ 2 ∧ OwnR spC 3 128 W3.heap.size wr l (L0 ++ sidesL t3 x z k ++ waysL x z u v m).length (L0 ++ sidesL t3 x z k ++ waysL x z u v m) ∧ Below W3.heap.size W3 wr ∧ wr.heap[S]? = some (.cells #[.int .i64 u.x, .int .i64 u.y, .int .i64 u.z, .int .i64 v.x, .int .i64 v.y, .int .i64 v.z] 137 (0, 0))) (fun _ i _ => 2 - (intOf i).toNat)
      case atStart => exact ⟨0, rfl, by omega, by simpa [waysL] using hown8, hB8, hS⟩
      case round =>
        clear hown8 hB8 hS
        obtain ⟨m, rfl, hm, hown, hB8, hS8⟩ := hrel
        have hOv8 := hOv.below hB8
        have x3 := hOv8.x.cell
        have z3 := hOv8.z.cell
        clear hOv8
        by_cases hm2 : m = 2
        · subst hm2
          have HE : Hid (L0 ++ sidesL t3 x z (k + 1) = L0 ++ sidesL t3 x z k ++ waysL x z u v 2) := by show _ = _; rw [HSides2.out, List.append_assoc]
          clear x3 z3 hS8
          go_wp2
          go_roundw
          case rel => exact ⟨k + 1, by go_num, by omega, by rw [HE.out]; exact hown, hB8⟩
          case measure => simp [intOf]; omega
        · have hm' : m = 0 ∨ m = 1 := by omega
          obtain ⟨M, hM⟩ : ∃ M : Int, M = (m : Int) := ⟨_, rfl⟩
          rw [← hM]
          rcases hm' with rfl | rfl
          · obtain rfl : M = 0 := hM
            as_aux_lemma =>
              obtain ⟨BL, hBL⟩ : ∃ BL, BL = L0 ++ sidesL t3 x z k ++ waysL x z u v 0 := ⟨_, rfl⟩
              have hbl : BL.length ≤ 40 := by rw [hBL, List.length_append, List.length_append]; have := sides_len t3 x z k; have := ways_len x z u v 0; omega
              rw [← hBL] at hown
              have HBL := Lib.hid hBL
              clear hBL
              go_wp2_with fail
              go_loopw [11, 93] (fun l i wr => ∃ j : Nat, i = .int .i64 j ∧ j ≤ 4 ∧ OwnR spC 3 128 W3.heap.size wr l (BL ++ wayL x z u v 0 j).length (BL ++ wayL x z u v 0 j) ∧ Below W3.heap.size W3 wr ∧ wr.heap[S]? = some (.cells #[.int .i64 u.x, .int .i64 u.y, .int .i64 u.z, .int .i64 v.x, .int .i64 v.y, .int .i64 v.z] 137 (0, 0))) (fun _ i _ => 4 - (intOf i).toNat)
              case atStart => exact ⟨0, rfl, by omega, by simpa [wayL] using hown, hB8, hS8⟩
              case round =>
                clear hown hB8 hS8 x3 z3
                obtain ⟨j, rfl, hj, hown, hB9, hS9⟩ := hrel
                by_cases hj4 : j = 4
                · subst hj4
                  have HE : Hid (L0 ++ sidesL t3 x z k ++ waysL x z u v (0 + 1) = BL ++ wayL x z u v 0 4) := by show _ = _; rw [HBL.out, ways_succ, List.append_assoc, List.append_assoc, List.append_assoc]
                  have HE2 : Hid (L0 ++ sidesL t3 x z k ++ waysL x z u v 1 = BL ++ wayL x z u v 0 4) := HE.out
                  clear HE
                  go_wp2
                  go_roundw
                  case rel => exact ⟨1, rfl, by omega, by rw [HE2.out]; exact hown, hB9, hS9⟩
                  case measure => simp [intOf]
                · have hjI : (j : Int) < 4 := by omega
                  have hOv9 := hOv.below hB9
                  have c3 := hcell (k := 0) (v := .func (.func 86) #[] #[.pointer (some ⟨X, 0, none⟩), .pointer (some ⟨Z, 0, none⟩)]) hOv9.fn rfl
                  obtain ⟨nn, hnn⟩ : ∃ nn, nn = nsAt x z j := ⟨_, rfl⟩
                  go_upto_region 21 with fail
                  go_cut [17] from 95 to 95 (fun s17 wx => s17 = .int .i64 nn ∧ wx = wr)
                  case first =>
                    have hj' : j = 0 ∨ j = 1 ∨ j = 2 ∨ j = 3 := by omega
                    rcases hj' with rfl | rfl | rfl | rfl
                    all_goals
                      simp only [nsAt] at hnn
                      subst hnn
                      go_wp2
                      go_meet
                      exact ⟨rfl, rfl⟩
                  case rest =>
                  obtain ⟨rfl, hwc⟩ := hcut
                  subst hwc
                  have hso : sideOk u v nn := by rw [hnn]; exact sideOk_of hu.out hv.out ⟨u1, u2⟩ ⟨u3, u4⟩ j
                  have HA := Lib.hid (fun W => along_any u v nn W hso)
                  have hsm : SpSmall (alongP u v nn).1 := (wayF_small hso 0).1
                  have HS : Hid (wayL x z u v 0 (j + 1) = wayL x z u v 0 j ++ keepS x z (alongP u v nn)) := by show _ = _; rw [way_step x z u v 0 (by omega), ← hnn]; rfl
                  have hwl := way_len x z u v 0 j
                  generalize alongP u v nn = r at HA hsm HS
                  generalize hwl1 : wayL x z u v 0 j = WL at hown HS hwl
                  generalize hwl2 : wayL x z u v 0 (j + 1) = WL2 at HS
                  have hll : (BL ++ WL).length ≤ 44 := by rw [List.length_append]; omega
                  obtain ⟨⟨r0, r1, r2⟩, rk⟩ := r
                  clear hnn hso
                  go_wp2_with fail
                  refine (HA.out _).mono ?_
                  rintro e w10 ⟨rfl, hb10⟩
                  have hown2 := (hown.below hb10 (Nat.le_refl _)).alloc (.cells #[.int .i64 r0, .int .i64 r1, .int .i64 r2] 128)
                  have hB10 := (hB9.trans (hb10.mono hB9.size)).alloc (hB9.trans (hb10.mono hB9.size)).size (.cells #[.int .i64 r0, .int .i64 r1, .int .i64 r2] 128)
                  have hS10 := halloc (hkeep hb10 hS9) (.cells #[.int .i64 r0, .int .i64 r1, .int .i64 r2] 128)
                  have hOv10 := (hOv9.below hb10).below ((Below.refl _ _).alloc (Nat.le_refl _) (.cells #[.int .i64 r0, .int .i64 r1, .int .i64 r2] 128))
                  have hs10 := hb10.size
                  have hs9 := hB9.size
                  clear hown hB9 hS9 hOv9 hb10 HA c3
                  cases rk with
                  | false =>
                    have HS2 : Hid (WL2 = WL) := by show _ = _; rw [HS.out]; simp [keepS]
                    go_wp2
                    go_roundw
                    case rel => exact ⟨j + 1, by go_num, by omega, by rw [hwl2, HS2.out]; exact hown2, hB10, hS10⟩
                    case measure => simp [intOf]; omega
                  | true =>
                    have OV := Lib.hid (hOv10.call ⟨u1, u2⟩ ⟨u3, u4⟩ hsm)
                    have c3 := hcell (k := 0) (v := .func (.func 86) #[] #[.pointer (some ⟨X, 0, none⟩), .pointer (some ⟨Z, 0, none⟩)]) hOv10.fn rfl
                    generalize hov : overS x z ⟨r0, r1, r2⟩ = ov at OV
                    go_wp2_with fail
                    refine OV.out.mono ?_
                    rintro e w11 ⟨rfl, hb11⟩
                    have hown3 := hown2.below hb11 (Nat.le_refl _)
                    have hB11 := hB10.trans (hb11.mono hB10.size)
                    have hS11 := hkeep hb11 hS10
                    have hR11 := hkeep hb11 (World.alloc_heap_new w10 (.cells #[.int .i64 r0, .int .i64 r1, .int .i64 r2] 128))
                    have hs11 := hb11.size
                    simp only [World.size_alloc] at hs11
                    clear hown2 hB10 hS10 hb11 OV c3 hOv10
                    cases ov with
                    | false =>
                      have HS2 : Hid (WL2 = WL) := by show _ = _; rw [HS.out]; simp [keepS, hov]
                      clear hov hR11
                      go_wp2
                      go_roundw
                      case rel => exact ⟨j + 1, by go_num, by omega, by rw [hwl2, HS2.out]; exact hown3, hB11, hS11⟩
                      case measure => simp [intOf]; omega
                    | true =>
                      have HS2 : Hid (BL ++ WL2 = BL ++ WL ++ [⟨r0, r1, r2⟩]) := by show _ = _; rw [HS.out, ← List.append_assoc]; simp [keepS, hov]
                      have q0 := hcell (k := 0) (v := .int .i64 r0) hR11 rfl
                      have q1 := hcell (k := 1) (v := .int .i64 r1) hR11 rfl
                      have q2 := hcell (k := 2) (v := .int .i64 r2) hR11 rfl
                      clear hov
                      go_wp2_with (at_builtin; refine wpList_appR (f := spC) (sz := 3) (e := 128) (B := W3.heap.size) (n := (BL ++ WL).length) (xs := BL ++ WL) _ spC_len spC_one rfl _ _ 130 rfl (.agg #[.int .i64 0, .int .i64 0, .int .i64 0]) 24 Tryz.underlying130 info_spot rfl (by decide) ⟨r0, r1, r2⟩ 128 hown3 rfl rfl (by omega) (by omega) (by omega) ?_; intro v' w' hown' happ)
                      have hne := hown3.le
                      have hB12 := hB11.trans (happ.below (B := W3.heap.size) (by omega) (fun j hj => hne j hj))
                      have hS12 := hgrown happ.grown hS11 (HSne.out _ _ _ _ hown3 hS11)
                      clear happ hown3 hB11 hS11 q0 q1 q2 hR11
                      go_wp2
                      go_roundw
                      case rel => exact ⟨j + 1, by go_num, by omega, by rw [hwl2, HS2.out]; exact own_len hown', hB12, hS12⟩
                      case measure => simp [intOf]; omega
          · obtain rfl : M = 1 := hM
            as_aux_lemma =>
              obtain ⟨BL, hBL⟩ : ∃ BL, BL = L0 ++ sidesL t3 x z k ++ waysL x z u v 1 := ⟨_, rfl⟩
              have hbl : BL.length ≤ 40 := by rw [hBL, List.length_append, List.length_append]; have := sides_len t3 x z k; have := ways_len x z u v 1; omega
              rw [← hBL] at hown
              have HBL := Lib.hid hBL
              clear hBL
              go_wp2_with fail
              go_loopw [11, 93] (fun l i wr => ∃ j : Nat, i = .int .i64 j ∧ j ≤ 4 ∧ OwnR spC 3 128 W3.heap.size wr l (BL ++ wayL x z u v 1 j).length (BL ++ wayL x z u v 1 j) ∧ Below W3.heap.size W3 wr ∧ wr.heap[S]? = some (.cells #[.int .i64 u.x, .int .i64 u.y, .int .i64 u.z, .int .i64 v.x, .int .i64 v.y, .int .i64 v.z] 137 (0, 0))) (fun _ i _ => 4 - (intOf i).toNat)
              case atStart => exact ⟨0, rfl, by omega, by simpa [wayL] using hown, hB8, hS8⟩
              case round =>
                clear hown hB8 hS8 x3 z3
                obtain ⟨j, rfl, hj, hown, hB9, hS9⟩ := hrel
                by_cases hj4 : j = 4
                · subst hj4
                  have HE : Hid (L0 ++ sidesL t3 x z k ++ waysL x z u v (1 + 1) = BL ++ wayL x z u v 1 4) := by show _ = _; rw [HBL.out, ways_succ, List.append_assoc, List.append_assoc, List.append_assoc]
                  have HE2 : Hid (L0 ++ sidesL t3 x z k ++ waysL x z u v 2 = BL ++ wayL x z u v 1 4) := HE.out
                  clear HE
                  go_wp2
                  go_roundw
                  case rel => exact ⟨2, rfl, by omega, by rw [HE2.out]; exact hown, hB9, hS9⟩
                  case measure => simp [intOf]
                · have hjI : (j : Int) < 4 := by omega
                  have hOv9 := hOv.below hB9
                  have c3 := hcell (k := 0) (v := .func (.func 86) #[] #[.pointer (some ⟨X, 0, none⟩), .pointer (some ⟨Z, 0, none⟩)]) hOv9.fn rfl
                  obtain ⟨nn, hnn⟩ : ∃ nn, nn = nsAt x z j := ⟨_, rfl⟩
                  go_upto_region 21 with fail
                  go_cut [17] from 95 to 95 (fun s17 wx => s17 = .int .i64 nn ∧ wx = wr)
                  case first =>
                    have hj' : j = 0 ∨ j = 1 ∨ j = 2 ∨ j = 3 := by omega
                    rcases hj' with rfl | rfl | rfl | rfl
                    all_goals
                      simp only [nsAt] at hnn
                      subst hnn
                      go_wp2
                      go_meet
                      exact ⟨rfl, rfl⟩
                  case rest =>
                  obtain ⟨rfl, hwc⟩ := hcut
                  subst hwc
                  have hso : sideOk u v nn := by rw [hnn]; exact sideOk_of hu.out hv.out ⟨u1, u2⟩ ⟨u3, u4⟩ j
                  have HA := Lib.hid (fun W => alongz_any u v nn W hso)
                  have hsm : SpSmall (alongQ u v nn).1 := (wayF_small hso 1).1
                  have HS : Hid (wayL x z u v 1 (j + 1) = wayL x z u v 1 j ++ keepS x z (alongQ u v nn)) := by show _ = _; rw [way_step x z u v 1 (by omega), ← hnn]; rfl
                  have hwl := way_len x z u v 1 j
                  generalize alongQ u v nn = r at HA hsm HS
                  generalize hwl1 : wayL x z u v 1 j = WL at hown HS hwl
                  generalize hwl2 : wayL x z u v 1 (j + 1) = WL2 at HS
                  have hll : (BL ++ WL).length ≤ 44 := by rw [List.length_append]; omega
                  obtain ⟨⟨r0, r1, r2⟩, rk⟩ := r
                  clear hnn hso
                  go_wp2_with fail
                  refine (HA.out _).mono ?_
                  rintro e w10 ⟨rfl, hb10⟩
                  have hown2 := (hown.below hb10 (Nat.le_refl _)).alloc (.cells #[.int .i64 r0, .int .i64 r1, .int .i64 r2] 128)
                  have hB10 := (hB9.trans (hb10.mono hB9.size)).alloc (hB9.trans (hb10.mono hB9.size)).size (.cells #[.int .i64 r0, .int .i64 r1, .int .i64 r2] 128)
                  have hS10 := halloc (hkeep hb10 hS9) (.cells #[.int .i64 r0, .int .i64 r1, .int .i64 r2] 128)
                  have hOv10 := (hOv9.below hb10).below ((Below.refl _ _).alloc (Nat.le_refl _) (.cells #[.int .i64 r0, .int .i64 r1, .int .i64 r2] 128))
                  have hs10 := hb10.size
                  have hs9 := hB9.size
                  clear hown hB9 hS9 hOv9 hb10 HA c3
                  cases rk with
                  | false =>
                    have HS2 : Hid (WL2 = WL) := by show _ = _; rw [HS.out]; simp [keepS]
                    go_wp2
                    go_roundw
                    case rel => exact ⟨j + 1, by go_num, by omega, by rw [hwl2, HS2.out]; exact hown2, hB10, hS10⟩
                    case measure => simp [intOf]; omega
                  | true =>
                    have OV := Lib.hid (hOv10.call ⟨u1, u2⟩ ⟨u3, u4⟩ hsm)
                    have c3 := hcell (k := 0) (v := .func (.func 86) #[] #[.pointer (some ⟨X, 0, none⟩), .pointer (some ⟨Z, 0, none⟩)]) hOv10.fn rfl
                    generalize hov : overS x z ⟨r0, r1, r2⟩ = ov at OV
                    go_wp2_with fail
                    refine OV.out.mono ?_
                    rintro e w11 ⟨rfl, hb11⟩
                    have hown3 := hown2.below hb11 (Nat.le_refl _)
                    have hB11 := hB10.trans (hb11.mono hB10.size)
                    have hS11 := hkeep hb11 hS10
                    have hR11 := hkeep hb11 (World.alloc_heap_new w10 (.cells #[.int .i64 r0, .int .i64 r1, .int .i64 r2] 128))
                    have hs11 := hb11.size
                    simp only [World.size_alloc] at hs11
                    clear hown2 hB10 hS10 hb11 OV c3 hOv10
                    cases ov with
                    | false =>
                      have HS2 : Hid (WL2 = WL) := by show _ = _; rw [HS.out]; simp [keepS, hov]
                      clear hov hR11
                      go_wp2
                      go_roundw
                      case rel => exact ⟨j + 1, by go_num, by omega, by rw [hwl2, HS2.out]; exact hown3, hB11, hS11⟩
                      case measure => simp [intOf]; omega
                    | true =>
                      have HS2 : Hid (BL ++ WL2 = BL ++ WL ++ [⟨r0, r1, r2⟩]) := by show _ = _; rw [HS.out, ← List.append_assoc]; simp [keepS, hov]
                      have q0 := hcell (k := 0) (v := .int .i64 r0) hR11 rfl
                      have q1 := hcell (k := 1) (v := .int .i64 r1) hR11 rfl
                      have q2 := hcell (k := 2) (v := .int .i64 r2) hR11 rfl
                      clear hov
                      go_wp2_with (at_builtin; refine wpList_appR (f := spC) (sz := 3) (e := 128) (B := W3.heap.size) (n := (BL ++ WL).length) (xs := BL ++ WL) _ spC_len spC_one rfl _ _ 130 rfl (.agg #[.int .i64 0, .int .i64 0, .int .i64 0]) 24 Tryz.underlying130 info_spot rfl (by decide) ⟨r0, r1, r2⟩ 128 hown3 rfl rfl (by omega) (by omega) (by omega) ?_; intro v' w' hown' happ)
                      have hne := hown3.le
                      have hB12 := hB11.trans (happ.below (B := W3.heap.size) (by omega) (fun j hj => hne j hj))
                      have hS12 := hgrown happ.grown hS11 (HSne.out _ _ _ _ hown3 hS11)
                      clear happ hown3 hB11 hS11 q0 q1 q2 hR11
                      go_wp2
                      go_roundw
                      case rel => exact ⟨j + 1, by go_num, by omega, by rw [hwl2, HS2.out]; exact own_len hown', hB12, hS12⟩
                      case measure => simp [intOf]; omega
end Go.Proofs.YtjiklfffcnfdjaaGreat
