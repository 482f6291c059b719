/- Walks: what pairs asks of each place. -/
import Derived.Test.YtmgkkmcihplojaaGreatPrs
import Derived.Test.YtmgkkmcihplojaaGreatGh
namespace Go.Proofs.YtmgkkmcihplojaaGreat
open Go.RowKit
attribute [local go_sem] Instr.index

abbrev drV (d : Dr) : Value := .agg #[.int .i64 d.a, .int .i64 d.b, .int .i64 d.x0, .int .i64 d.z0, .int .i64 d.x1, .int .i64 d.z1]
theorem results_c3 {P : Program} {fn : Func} {p q r : Tmp} {t1 t2 t3 : TypeId} (h : fn.results = #[.cell p t1, .cell q t2, .cell r t3]) (tmps : Array Value) (w : World) (g1 g2 g3 : Nat) (u1 u2 u3 : TypeId) (cs1 cs2 cs3 : Array Value) (fr1 fr2 fr3 : Nat × Nat) (d1 d2 d3 : TypeDesc)
    (hp : tmps.getD p undef = .pointer (some ⟨g1, 0, none⟩)) (hq : tmps.getD q undef = .pointer (some ⟨g2, 0, none⟩)) (hr : tmps.getD r undef = .pointer (some ⟨g3, 0, none⟩))
    (hg1 : w.heap[g1]? = some (.cells cs1 u1 fr1)) (hg2 : w.heap[g2]? = some (.cells cs2 u2 fr2)) (hg3 : w.heap[g3]? = some (.cells cs3 u3 fr3))
    (hu1 : P.underlying t1 = some d1) (hu2 : P.underlying t2 = some d2) (hu3 : P.underlying t3 = some d3)
    (hd1 : (match d1 with | .struct _ | .array _ _ => true | _ => false) = true) (hd2 : (match d2 with | .struct _ | .array _ _ => true | _ => false) = true) (hd3 : (match d3 with | .struct _ | .array _ _ => true | _ => false) = true)
    (hi1 : (P.info? t1).map (·.size) = some cs1.size) (hi2 : (P.info? t2).map (·.size) = some cs2.size) (hi3 : (P.info? t3).map (·.size) = some cs3.size) :
    (results fn tmps).run P w = .ok (.tuple #[.agg cs1, .agg cs2, .agg cs3]) w := by
  have e1 : tmps[p]?.getD undef = .pointer (some ⟨g1, 0, none⟩) := by simpa using hp
  have e2 : tmps[q]?.getD undef = .pointer (some ⟨g2, 0, none⟩) := by simpa using hq
  have e3 : tmps[r]?.getD undef = .pointer (some ⟨g3, 0, none⟩) := by simpa using hr
  simp [results, h, e1, e2, e3, asAddr, run_loadVar_row w g1 u1 t1 cs1 fr1 d1 hg1 hu1 hd1 hi1, run_loadVar_row w g2 u2 t2 cs2 fr2 d2 hg2 hu2 hd2 hi2, run_loadVar_row w g3 u3 t3 cs3 fr3 d3 hg3 hu3 hd3 hi3, Result.andThen]
def SdF (T p6 : Nat) (n fy ft fa gy gt ga bx0 bz0 bx1 bz1 bar : Int) (bya bta : Option Addr) (byn byc btn btc : Nat) (H : Nat) (w1 : World) (F : Value → Value → Value → Value → Value → Value → Value → Value → Value → Value → Array Value) (D : List Deferred) (L : Array Bool) (a : Act) (w : World) : Prop :=
  ∃ (s0 s1 s2 s3 s4 s5 s6 s7 s8 s9 : Value), a = { tmps := F s0 s1 s2 s3 s4 s5 s6 s7 s8 s9, defers := D } ∧
    Below H w1 w ∧
    w.heap[p6]? = some (.cells #[.int .i64 bx0, .int .i64 bz0, .int .i64 bx1, .int .i64 bz1, .int .i64 bar, .slice bya byn byc, .slice bta btn btc] 55 (0, 0)) ∧
    w.heap[T]? = some (.cells (if L.getD 10 false = true then #[.int .i64 fy, .int .i64 ft, .int .i64 fa] else #[.int .i64 fy, .int .i64 ft, .int .i64 fa]) 84 (0, 0)) ∧
    w.heap[T + 1]? = some (.cells (if L.getD 11 false = true then #[.int .i64 gy, .int .i64 gt, .int .i64 ga] else #[.int .i64 gy, .int .i64 gt, .int .i64 ga]) 84 (0, 0)) ∧
    w.heap[T + 2]? = some (.cells (if L.getD 12 false = true then #[.int .i64 0, .int .i64 1, .int .i64 n, .int .i64 bz0, .int .i64 (n + 1), .int .i64 bz0] else #[.int .i64 0, .int .i64 0, .int .i64 0, .int .i64 0, .int .i64 0, .int .i64 0]) 110 (0, 0)) ∧
    (L.getD 0 false = true → s0 = .agg #[.int .i64 fy, .int .i64 ft, .int .i64 fa]) ∧
    (L.getD 1 false = true → s1 = .agg #[.int .i64 gy, .int .i64 gt, .int .i64 ga]) ∧
    (L.getD 2 false = true → s2 = .int .i64 n) ∧
    (L.getD 3 false = true → s3 = .pointer (some ⟨p6, 1, none⟩)) ∧
    (L.getD 4 false = true → s4 = .int .i64 bz0) ∧
    (L.getD 5 false = true → s5 = .int .i64 n) ∧
    (L.getD 6 false = true → s6 = .int .i64 (n + 1)) ∧
    (L.getD 7 false = true → s7 = .pointer (some ⟨p6, 1, none⟩)) ∧
    (L.getD 8 false = true → s8 = .int .i64 bz0) ∧
    (L.getD 9 false = true → s9 = .agg #[.int .i64 0, .int .i64 1, .int .i64 n, .int .i64 bz0, .int .i64 (n + 1), .int .i64 bz0])
set_option maxRecDepth 100000 in
set_option maxHeartbeats 8000000 in
theorem side1_any (ha : RHd) (a : Rc) (hb : RHd) (b : Rc) (p5 p6 : Nat) (n : Int) (w : World) (h5 : w.heap[p5]? = some (rcO ha a)) (h6 : w.heap[p6]? = some (rcO hb b)) (hs : RcSl w ha a) (ht : RcSl w hb b) (hn : -100000 ≤ n ∧ n ≤ 100000) :
    Calls Tryz.prog 91 #[.int .i64 n, .pointer (some ⟨p5, 0, none⟩), .pointer (some ⟨p6, 0, none⟩)] w fun e w' => e = .returned (.tuple #[flrV (prF a false n), flrV (prG b false n), drV (prD b false n)]) ∧ Below w.heap.size w w' := by
  obtain ⟨W1, hW1⟩ : ∃ W, W = ((w.alloc (.cells #[.int .i64 0, .int .i64 0, .int .i64 0] 84)).alloc (.cells #[.int .i64 0, .int .i64 0, .int .i64 0] 84)).alloc (.cells #[.int .i64 0, .int .i64 0, .int .i64 0, .int .i64 0, .int .i64 0, .int .i64 0] 110) := ⟨_, rfl⟩
  have hF := halloc (halloc (World.alloc_heap_new w (.cells #[.int .i64 0, .int .i64 0, .int .i64 0] 84)) (.cells #[.int .i64 0, .int .i64 0, .int .i64 0] 84)) (.cells #[.int .i64 0, .int .i64 0, .int .i64 0, .int .i64 0, .int .i64 0, .int .i64 0] 110)
  have hG := halloc (World.alloc_heap_new (w.alloc (.cells #[.int .i64 0, .int .i64 0, .int .i64 0] 84)) (.cells #[.int .i64 0, .int .i64 0, .int .i64 0] 84)) (.cells #[.int .i64 0, .int .i64 0, .int .i64 0, .int .i64 0, .int .i64 0, .int .i64 0] 110)
  have hD := World.alloc_heap_new ((w.alloc (.cells #[.int .i64 0, .int .i64 0, .int .i64 0] 84)).alloc (.cells #[.int .i64 0, .int .i64 0, .int .i64 0] 84)) (.cells #[.int .i64 0, .int .i64 0, .int .i64 0, .int .i64 0, .int .i64 0, .int .i64 0] 110)
  have hB : Below w.heap.size w (((w.alloc (.cells #[.int .i64 0, .int .i64 0, .int .i64 0] 84)).alloc (.cells #[.int .i64 0, .int .i64 0, .int .i64 0] 84)).alloc (.cells #[.int .i64 0, .int .i64 0, .int .i64 0, .int .i64 0, .int .i64 0, .int .i64 0] 110)) := (((Below.refl _ _).alloc (Nat.le_refl _) _).alloc (by simp) _).alloc (by simp; omega) _
  simp only [World.size_alloc] at hG hD
  rw [← hW1] at hF hG hD hB
  have HS := Lib.hid (fun W' (hb' : Below w.heap.size w W') => And.intro (hs.below hb' (Nat.le_refl _)) (ht.below hb' (Nat.le_refl _)))
  have AT := Lib.hid (fun W' (hb' : Below w.heap.size w W') => rcat_any ha a (n) (a.z1) W' (HS.out W' hb').1)
  have AU := Lib.hid (fun W' (hb' : Below w.heap.size w W') => rcat_any hb b (n) (b.z0) W' (HS.out W' hb').2)
  have hl5 := hblt h5
  have hl6 := hblt h6
  have hA1 := hkeep hB h5
  have hb1 := hkeep hB h6
  clear hs ht h5 h6 HS
  obtain ⟨T, hTT⟩ : ∃ T, T = w.heap.size := ⟨_, rfl⟩
  rw [← hTT] at hF hG hD
  have hT0 : w.heap.size ≤ T := by omega
  have hT5 : p5 < T := by omega
  have hT6 : p6 < T := by omega
  have HTT := Lib.hid hTT
  clear hTT hl5 hl6
  have HPF : prF a false n = rcF a (n) (a.z1) := rfl
  have HPG : prG b false n = rcF b (n) (b.z0) := rfl
  have HPD := Lib.hid (show prD b false n = ⟨0, 1, n, b.z0, n + 1, b.z0⟩ from rfl)
  rw [HPF, HPG]
  clear HPF HPG
  generalize rcF a (n) (a.z1) = f at AT ⊢
  generalize rcF b (n) (b.z0) = g at AU ⊢
  generalize (rcAt a (n) (a.z1)).isSome = of at AT
  generalize (rcAt b (n) (b.z0)).isSome = og at AU
  generalize prD b false n = d at HPD ⊢
  have e := HPD.out
  subst e
  clear HPD
  obtain ⟨ax0, az0, ax1, az1, aar, ays, ats⟩ := a
  obtain ⟨bx0, bz0, bx1, bz1, bar, bys, bts⟩ := b
  obtain ⟨aya, ayc, ata, atc⟩ := ha
  obtain ⟨bya, byc, bta, btc⟩ := hb
  obtain ⟨fy, ft, fa⟩ := f
  obtain ⟨gy, gt, ga⟩ := g
  dsimp only [rcO, rcV, flrV, drV] at AT AU hA1 hb1 ⊢
  generalize ays.length = ayn at AT hA1
  generalize ats.length = atn at AT hA1
  generalize bys.length = byn at AU hb1
  generalize bts.length = btn at AU hb1
  have q1 : IntKind.i64.wrap (n + 1) = n + 1 := by rw [IntKind.wrap_i64]; omega
  have a0 := hcell (k := 0) (v := .int .i64 ax0) hA1 rfl
  have a1 := hcell (k := 1) (v := .int .i64 az0) hA1 rfl
  have a2 := hcell (k := 2) (v := .int .i64 ax1) hA1 rfl
  have a3 := hcell (k := 3) (v := .int .i64 az1) hA1 rfl
  have a4 := hcell (k := 4) (v := .int .i64 aar) hA1 rfl
  have a5 := hcell (k := 5) (v := .slice aya ayn ayc) hA1 rfl
  have a6 := hcell (k := 6) (v := .slice ata atn atc) hA1 rfl
  go_enter Tryz.func91, Tryz.ntmps91
  go_upto_region 1 with fail
  rw [← hW1, ← HTT.out]
  clear hW1
  go_wp2_with fail
  refine (AT.out _ hB).mono ?_
  rintro e w2 ⟨rfl, hb2⟩
  have hB2 := hB.trans (hb2.mono hB.size)
  have hF2 := hkeep hb2 hF
  have hG2 := hkeep hb2 hG
  have hD2 := hkeep hb2 hD
  have hb2' := hkeep hb2 hb1
  clear a0 a1 a2 a3 a4 a5 a6 hA1 hb1 hF hG hD hB hb2 AT
  have f0 := hfroz (k := 0) hF2
  have z0 := hcell (k := 0) (v := .int .i64 0) hF2 rfl
  have f1 := hfroz (k := 1) hF2
  have z1 := hcell (k := 1) (v := .int .i64 0) hF2 rfl
  have f2 := hfroz (k := 2) hF2
  have z2 := hcell (k := 2) (v := .int .i64 0) hF2 rfl
  have hGr := bx3_grown (w := w2) (b := T) (.int .i64 fy) (.int .i64 ft) (.int .i64 fa)
  have hF3 := bx3_set hF2 (.int .i64 fy) (.int .i64 ft) (.int .i64 fa)
  have hG3 := hgrown hGr hG2 (by simp only [ne_eq, Option.some.injEq]; omega)
  have hD3 := hgrown hGr hD2 (by simp only [ne_eq, Option.some.injEq]; omega)
  have hb3 := hgrown hGr hb2' (by simp only [ne_eq, Option.some.injEq]; omega)
  have hB3 := hB2.grown hGr hB2.size (fun j hj => by cases hj; omega)
  go_upto_region 2 with fail
  clear f0 f1 f2 z0 z1 z2 hGr hF2 hG2 hD2 hb2' hB2
  generalize ((w2.setCell ⟨T, 0, none⟩ (.int .i64 fy)).setCell ⟨T, 1, none⟩ (.int .i64 ft)).setCell ⟨T, 2, none⟩ (.int .i64 fa) = w3 at hF3 hG3 hD3 hb3 hB3 ⊢
  have a0 := hcell (k := 0) (v := .int .i64 bx0) hb3 rfl
  have a1 := hcell (k := 1) (v := .int .i64 bz0) hb3 rfl
  have a2 := hcell (k := 2) (v := .int .i64 bx1) hb3 rfl
  have a3 := hcell (k := 3) (v := .int .i64 bz1) hb3 rfl
  have a4 := hcell (k := 4) (v := .int .i64 bar) hb3 rfl
  have a5 := hcell (k := 5) (v := .slice bya byn byc) hb3 rfl
  have a6 := hcell (k := 6) (v := .slice bta btn btc) hb3 rfl
  go_wp2_with fail
  refine (AU.out _ hB3).mono ?_
  rintro e w4 ⟨rfl, hb4⟩
  have hB4 := hB3.trans (hb4.mono hB3.size)
  have hF4 := hkeep hb4 hF3
  have hG4 := hkeep hb4 hG3
  have hD4 := hkeep hb4 hD3
  have hb4' := hkeep hb4 hb3
  clear a0 a1 a2 a3 a4 a5 a6 hb3 hF3 hG3 hD3 hB3 hb4 AU
  have f0 := hfroz (k := 0) hG4
  have z0 := hcell (k := 0) (v := .int .i64 0) hG4 rfl
  have f1 := hfroz (k := 1) hG4
  have z1 := hcell (k := 1) (v := .int .i64 0) hG4 rfl
  have f2 := hfroz (k := 2) hG4
  have z2 := hcell (k := 2) (v := .int .i64 0) hG4 rfl
  have hGr := bx3_grown (w := w4) (b := T + 1) (.int .i64 gy) (.int .i64 gt) (.int .i64 ga)
  have hG5 := bx3_set hG4 (.int .i64 gy) (.int .i64 gt) (.int .i64 ga)
  have hF5 := hgrown hGr hF4 (by simp only [ne_eq, Option.some.injEq]; omega)
  have hD5 := hgrown hGr hD4 (by simp only [ne_eq, Option.some.injEq]; omega)
  have hb5 := hgrown hGr hb4' (by simp only [ne_eq, Option.some.injEq]; omega)
  have hB5 := hB4.grown hGr hB4.size (fun j hj => by cases hj; omega)
  go_upto_region 3 with fail
  clear f0 f1 f2 z0 z1 z2 hGr hF4 hG4 hD4 hb4' hB4
  generalize ((w4.setCell ⟨T + 1, 0, none⟩ (.int .i64 gy)).setCell ⟨T + 1, 1, none⟩ (.int .i64 gt)).setCell ⟨T + 1, 2, none⟩ (.int .i64 ga) = w5 at hF5 hG5 hD5 hb5 hB5 ⊢
  refine wp_region_inv (SdF T p6 n fy ft fa gy gt ga bx0 bz0 bx1 bz1 bar bya bta byn byc btn btc w.heap.size w5 (fun s0 s1 s2 s3 s4 s5 s6 s7 s8 s9 => #[Value.int IntKind.i64 n, Value.pointer (some { block := p5, off := 0 }), Value.pointer (some { block := p6, off := 0 }), undef, Value.pointer (some { block := T, off := 0 }), Value.pointer (some { block := T + 1, off := 0 }), Value.pointer (some { block := T + 1 + 1, off := 0 }), Value.tuple #[Value.agg #[Value.int IntKind.i64 fy, Value.int IntKind.i64 ft, Value.int IntKind.i64 fa], Value.bool of], Value.agg #[Value.int IntKind.i64 ax0, Value.int IntKind.i64 az0, Value.int IntKind.i64 ax1, Value.int IntKind.i64 az1, Value.int IntKind.i64 aar, Value.slice aya ayn ayc, Value.slice ata atn atc], Value.int IntKind.i64 n, Value.pointer (some { block := p5, off := 3 }), Value.int IntKind.i64 az1, Value.tuple #[Value.agg #[Value.int IntKind.i64 fy, Value.int IntKind.i64 ft, Value.int IntKind.i64 fa], Value.bool of], Value.agg #[Value.int IntKind.i64 fy, Value.int IntKind.i64 ft, Value.int IntKind.i64 fa], Value.bool of, Value.tuple #[Value.agg #[Value.int IntKind.i64 gy, Value.int IntKind.i64 gt, Value.int IntKind.i64 ga], Value.bool og], Value.agg #[Value.int IntKind.i64 bx0, Value.int IntKind.i64 bz0, Value.int IntKind.i64 bx1, Value.int IntKind.i64 bz1, Value.int IntKind.i64 bar, Value.slice bya byn byc, Value.slice bta btn btc], Value.int IntKind.i64 n, Value.pointer (some { block := p6, off := 1 }), Value.int IntKind.i64 bz0, Value.tuple #[Value.agg #[Value.int IntKind.i64 gy, Value.int IntKind.i64 gt, Value.int IntKind.i64 ga], Value.bool og], Value.agg #[Value.int IntKind.i64 gy, Value.int IntKind.i64 gt, Value.int IntKind.i64 ga], Value.bool og, s0, s1, s2, s3, s4, s5, s6, s7, s8, s9]) []) (by kernel_rfl) (by kernel_rfl) ?_ ?_ ?_
  · unfold SdF
    refine ⟨_, _, _, _, _, _, _, _, _, _, rfl, (Below.refl _ _).drew, hb5, hF5, hG5, hD5, (fun h => by cases (show false = true from h)), (fun h => by cases (show false = true from h)), (fun h => by cases (show false = true from h)), (fun h => by cases (show false = true from h)), (fun h => by cases (show false = true from h)), (fun h => by cases (show false = true from h)), (fun h => by cases (show false = true from h)), (fun h => by cases (show false = true from h)), (fun h => by cases (show false = true from h)), (fun h => by cases (show false = true from h))⟩
  · intro L a wi i hs hI hi
    have hsN : L.size = 13 := hs
    have hn := ready_elim hi
    have hlt : i < 13 := by
        obtain ⟨o, ho, _⟩ := hn.2
        exact (Array.getElem?_eq_some_iff.1 ho).1
    have hi' := ready_not hi false (by rw [hs]; exact hlt)
    clear hn
    unfold SdF at hI
    obtain ⟨s0, s1, s2, s3, s4, s5, s6, s7, s8, s9, rfl, hB, hF_B, hX_F, hX_G, hX_D, h0, h1, h2, h3, h4, h5, h6, h7, h8, h9⟩ := hI
    rcases (by omega : i = 0 ∨ i = 1 ∨ i = 2 ∨ i = 3 ∨ i = 4 ∨ i = 5 ∨ i = 6 ∨ i = 7 ∨ i = 8 ∨ i = 9 ∨ i = 10 ∨ i = 11 ∨ i = 12) with rfl | rfl | rfl | rfl | rfl | rfl | rfl | rfl | rfl | rfl | rfl | rfl | rfl
    · skip
      have eF : wi.heap[T]? = some (.cells #[.int .i64 fy, .int .i64 ft, .int .i64 fa] 84 (0, 0)) := by have := hX_F; rwa [ite_self] at this
      have z0 := hcell (k := 0) (v := .int .i64 fy) eF rfl
      have z1 := hcell (k := 1) (v := .int .i64 ft) eF rfl
      have z2 := hcell (k := 2) (v := .int .i64 fa) eF rfl
      refine wpOp_of rfl rfl ?_
      go_simp
      unfold SdF
      exact ⟨_, _, _, _, _, _, _, _, _, _, rfl, (hB), (hF_B), (by rw [getD_set_ne (by decide)]; exact hX_F), (by rw [getD_set_ne (by decide)]; exact hX_G), (by rw [getD_set_ne (by decide)]; exact hX_D), (fun _ => rfl), (fun h => h1 (by rwa [getD_set_ne (by decide)] at h)), (fun h => h2 (by rwa [getD_set_ne (by decide)] at h)), (fun h => h3 (by rwa [getD_set_ne (by decide)] at h)), (fun h => h4 (by rwa [getD_set_ne (by decide)] at h)), (fun h => h5 (by rwa [getD_set_ne (by decide)] at h)), (fun h => h6 (by rwa [getD_set_ne (by decide)] at h)), (fun h => h7 (by rwa [getD_set_ne (by decide)] at h)), (fun h => h8 (by rwa [getD_set_ne (by decide)] at h)), (fun h => h9 (by rwa [getD_set_ne (by decide)] at h))⟩
    · skip
      have eG : wi.heap[T + 1]? = some (.cells #[.int .i64 gy, .int .i64 gt, .int .i64 ga] 84 (0, 0)) := by have := hX_G; rwa [ite_self] at this
      have z0 := hcell (k := 0) (v := .int .i64 gy) eG rfl
      have z1 := hcell (k := 1) (v := .int .i64 gt) eG rfl
      have z2 := hcell (k := 2) (v := .int .i64 ga) eG rfl
      refine wpOp_of rfl rfl ?_
      go_simp
      unfold SdF
      exact ⟨_, _, _, _, _, _, _, _, _, _, rfl, (hB), (hF_B), (by rw [getD_set_ne (by decide)]; exact hX_F), (by rw [getD_set_ne (by decide)]; exact hX_G), (by rw [getD_set_ne (by decide)]; exact hX_D), (fun h => h0 (by rwa [getD_set_ne (by decide)] at h)), (fun _ => rfl), (fun h => h2 (by rwa [getD_set_ne (by decide)] at h)), (fun h => h3 (by rwa [getD_set_ne (by decide)] at h)), (fun h => h4 (by rwa [getD_set_ne (by decide)] at h)), (fun h => h5 (by rwa [getD_set_ne (by decide)] at h)), (fun h => h6 (by rwa [getD_set_ne (by decide)] at h)), (fun h => h7 (by rwa [getD_set_ne (by decide)] at h)), (fun h => h8 (by rwa [getD_set_ne (by decide)] at h)), (fun h => h9 (by rwa [getD_set_ne (by decide)] at h))⟩
    · skip
      refine wpOp_of rfl rfl ?_
      go_simp
      unfold SdF
      exact ⟨_, _, _, _, _, _, _, _, _, _, rfl, (hB), (hF_B), (by rw [getD_set_ne (by decide)]; exact hX_F), (by rw [getD_set_ne (by decide)]; exact hX_G), (by rw [getD_set_ne (by decide)]; exact hX_D), (fun h => h0 (by rwa [getD_set_ne (by decide)] at h)), (fun h => h1 (by rwa [getD_set_ne (by decide)] at h)), (fun _ => rfl), (fun h => h3 (by rwa [getD_set_ne (by decide)] at h)), (fun h => h4 (by rwa [getD_set_ne (by decide)] at h)), (fun h => h5 (by rwa [getD_set_ne (by decide)] at h)), (fun h => h6 (by rwa [getD_set_ne (by decide)] at h)), (fun h => h7 (by rwa [getD_set_ne (by decide)] at h)), (fun h => h8 (by rwa [getD_set_ne (by decide)] at h)), (fun h => h9 (by rwa [getD_set_ne (by decide)] at h))⟩
    · skip
      refine wpOp_of rfl rfl ?_
      go_simp
      unfold SdF
      exact ⟨_, _, _, _, _, _, _, _, _, _, rfl, (hB), (hF_B), (by rw [getD_set_ne (by decide)]; exact hX_F), (by rw [getD_set_ne (by decide)]; exact hX_G), (by rw [getD_set_ne (by decide)]; exact hX_D), (fun h => h0 (by rwa [getD_set_ne (by decide)] at h)), (fun h => h1 (by rwa [getD_set_ne (by decide)] at h)), (fun h => h2 (by rwa [getD_set_ne (by decide)] at h)), (fun _ => rfl), (fun h => h4 (by rwa [getD_set_ne (by decide)] at h)), (fun h => h5 (by rwa [getD_set_ne (by decide)] at h)), (fun h => h6 (by rwa [getD_set_ne (by decide)] at h)), (fun h => h7 (by rwa [getD_set_ne (by decide)] at h)), (fun h => h8 (by rwa [getD_set_ne (by decide)] at h)), (fun h => h9 (by rwa [getD_set_ne (by decide)] at h))⟩
    · skip
      have e3 := h3 (ready_dep hi (by kernel_rfl))
      subst e3
      have c := hcell (k := 1) (v := .int .i64 bz0) hF_B rfl
      refine wpOp_of rfl rfl ?_
      go_simp
      unfold SdF
      exact ⟨_, _, _, _, _, _, _, _, _, _, rfl, (hB), (hF_B), (by rw [getD_set_ne (by decide)]; exact hX_F), (by rw [getD_set_ne (by decide)]; exact hX_G), (by rw [getD_set_ne (by decide)]; exact hX_D), (fun h => h0 (by rwa [getD_set_ne (by decide)] at h)), (fun h => h1 (by rwa [getD_set_ne (by decide)] at h)), (fun h => h2 (by rwa [getD_set_ne (by decide)] at h)), (fun h => h3 (by rwa [getD_set_ne (by decide)] at h)), (fun _ => rfl), (fun h => h5 (by rwa [getD_set_ne (by decide)] at h)), (fun h => h6 (by rwa [getD_set_ne (by decide)] at h)), (fun h => h7 (by rwa [getD_set_ne (by decide)] at h)), (fun h => h8 (by rwa [getD_set_ne (by decide)] at h)), (fun h => h9 (by rwa [getD_set_ne (by decide)] at h))⟩
    · skip
      refine wpOp_of rfl rfl ?_
      go_simp
      unfold SdF
      exact ⟨_, _, _, _, _, _, _, _, _, _, rfl, (hB), (hF_B), (by rw [getD_set_ne (by decide)]; exact hX_F), (by rw [getD_set_ne (by decide)]; exact hX_G), (by rw [getD_set_ne (by decide)]; exact hX_D), (fun h => h0 (by rwa [getD_set_ne (by decide)] at h)), (fun h => h1 (by rwa [getD_set_ne (by decide)] at h)), (fun h => h2 (by rwa [getD_set_ne (by decide)] at h)), (fun h => h3 (by rwa [getD_set_ne (by decide)] at h)), (fun h => h4 (by rwa [getD_set_ne (by decide)] at h)), (fun _ => rfl), (fun h => h6 (by rwa [getD_set_ne (by decide)] at h)), (fun h => h7 (by rwa [getD_set_ne (by decide)] at h)), (fun h => h8 (by rwa [getD_set_ne (by decide)] at h)), (fun h => h9 (by rwa [getD_set_ne (by decide)] at h))⟩
    · skip
      have e5 := h5 (ready_dep hi (by kernel_rfl))
      subst e5
      refine wpOp_of rfl rfl ?_
      go_simp
      unfold SdF
      exact ⟨_, _, _, _, _, _, _, _, _, _, rfl, (hB), (hF_B), (by rw [getD_set_ne (by decide)]; exact hX_F), (by rw [getD_set_ne (by decide)]; exact hX_G), (by rw [getD_set_ne (by decide)]; exact hX_D), (fun h => h0 (by rwa [getD_set_ne (by decide)] at h)), (fun h => h1 (by rwa [getD_set_ne (by decide)] at h)), (fun h => h2 (by rwa [getD_set_ne (by decide)] at h)), (fun h => h3 (by rwa [getD_set_ne (by decide)] at h)), (fun h => h4 (by rwa [getD_set_ne (by decide)] at h)), (fun h => h5 (by rwa [getD_set_ne (by decide)] at h)), (fun _ => rfl), (fun h => h7 (by rwa [getD_set_ne (by decide)] at h)), (fun h => h8 (by rwa [getD_set_ne (by decide)] at h)), (fun h => h9 (by rwa [getD_set_ne (by decide)] at h))⟩
    · skip
      refine wpOp_of rfl rfl ?_
      go_simp
      unfold SdF
      exact ⟨_, _, _, _, _, _, _, _, _, _, rfl, (hB), (hF_B), (by rw [getD_set_ne (by decide)]; exact hX_F), (by rw [getD_set_ne (by decide)]; exact hX_G), (by rw [getD_set_ne (by decide)]; exact hX_D), (fun h => h0 (by rwa [getD_set_ne (by decide)] at h)), (fun h => h1 (by rwa [getD_set_ne (by decide)] at h)), (fun h => h2 (by rwa [getD_set_ne (by decide)] at h)), (fun h => h3 (by rwa [getD_set_ne (by decide)] at h)), (fun h => h4 (by rwa [getD_set_ne (by decide)] at h)), (fun h => h5 (by rwa [getD_set_ne (by decide)] at h)), (fun h => h6 (by rwa [getD_set_ne (by decide)] at h)), (fun _ => rfl), (fun h => h8 (by rwa [getD_set_ne (by decide)] at h)), (fun h => h9 (by rwa [getD_set_ne (by decide)] at h))⟩
    · skip
      have e7 := h7 (ready_dep hi (by kernel_rfl))
      subst e7
      have c := hcell (k := 1) (v := .int .i64 bz0) hF_B rfl
      refine wpOp_of rfl rfl ?_
      go_simp
      unfold SdF
      exact ⟨_, _, _, _, _, _, _, _, _, _, rfl, (hB), (hF_B), (by rw [getD_set_ne (by decide)]; exact hX_F), (by rw [getD_set_ne (by decide)]; exact hX_G), (by rw [getD_set_ne (by decide)]; exact hX_D), (fun h => h0 (by rwa [getD_set_ne (by decide)] at h)), (fun h => h1 (by rwa [getD_set_ne (by decide)] at h)), (fun h => h2 (by rwa [getD_set_ne (by decide)] at h)), (fun h => h3 (by rwa [getD_set_ne (by decide)] at h)), (fun h => h4 (by rwa [getD_set_ne (by decide)] at h)), (fun h => h5 (by rwa [getD_set_ne (by decide)] at h)), (fun h => h6 (by rwa [getD_set_ne (by decide)] at h)), (fun h => h7 (by rwa [getD_set_ne (by decide)] at h)), (fun _ => rfl), (fun h => h9 (by rwa [getD_set_ne (by decide)] at h))⟩
    · skip
      have e2 := h2 (ready_dep hi (by kernel_rfl))
      subst e2
      have e4 := h4 (ready_dep hi (by kernel_rfl))
      subst e4
      have e6 := h6 (ready_dep hi (by kernel_rfl))
      subst e6
      have e8 := h8 (ready_dep hi (by kernel_rfl))
      subst e8
      refine wpOp_of rfl rfl ?_
      go_simp
      unfold SdF
      exact ⟨_, _, _, _, _, _, _, _, _, _, rfl, (hB), (hF_B), (by rw [getD_set_ne (by decide)]; exact hX_F), (by rw [getD_set_ne (by decide)]; exact hX_G), (by rw [getD_set_ne (by decide)]; exact hX_D), (fun h => h0 (by rwa [getD_set_ne (by decide)] at h)), (fun h => h1 (by rwa [getD_set_ne (by decide)] at h)), (fun h => h2 (by rwa [getD_set_ne (by decide)] at h)), (fun h => h3 (by rwa [getD_set_ne (by decide)] at h)), (fun h => h4 (by rwa [getD_set_ne (by decide)] at h)), (fun h => h5 (by rwa [getD_set_ne (by decide)] at h)), (fun h => h6 (by rwa [getD_set_ne (by decide)] at h)), (fun h => h7 (by rwa [getD_set_ne (by decide)] at h)), (fun h => h8 (by rwa [getD_set_ne (by decide)] at h)), (fun _ => rfl)⟩
    · skip
      have e0 := h0 (ready_dep hi (by kernel_rfl))
      subst e0
      have e3 := hX_F
      rw [hi'] at e3
      have e3 : wi.heap[T]? = some (.cells #[.int .i64 fy, .int .i64 ft, .int .i64 fa] 84 (0, 0)) := e3
      have f0 := hfroz (k := 0) e3
      have z0 := hcell (k := 0) (v := .int .i64 fy) e3 rfl
      have f1 := hfroz (k := 1) e3
      have z1 := hcell (k := 1) (v := .int .i64 ft) e3 rfl
      have f2 := hfroz (k := 2) e3
      have z2 := hcell (k := 2) (v := .int .i64 fa) e3 rfl
      have hG := bx3_grown (w := wi) (b := T) (.int .i64 fy) (.int .i64 ft) (.int .i64 fa)
      have hN := bx3_set e3 (.int .i64 fy) (.int .i64 ft) (.int .i64 fa)
      refine wpOp_of rfl rfl ?_
      go_simp
      unfold SdF
      exact ⟨_, _, _, _, _, _, _, _, _, _, rfl, (hB.grown hG (Nat.le_trans (hB5.size) hB.size) (fun j hj => by cases hj; omega)), (hgrown hG hF_B (by simp only [ne_eq, Option.some.injEq]; omega)), (by rw [getD_set_eq (by omega)]; exact hN), (by rw [getD_set_ne (by decide)]; exact hgrown hG hX_G (by simp only [ne_eq, Option.some.injEq]; omega)), (by rw [getD_set_ne (by decide)]; exact hgrown hG hX_D (by simp only [ne_eq, Option.some.injEq]; omega)), (fun h => h0 (by rwa [getD_set_ne (by decide)] at h)), (fun h => h1 (by rwa [getD_set_ne (by decide)] at h)), (fun h => h2 (by rwa [getD_set_ne (by decide)] at h)), (fun h => h3 (by rwa [getD_set_ne (by decide)] at h)), (fun h => h4 (by rwa [getD_set_ne (by decide)] at h)), (fun h => h5 (by rwa [getD_set_ne (by decide)] at h)), (fun h => h6 (by rwa [getD_set_ne (by decide)] at h)), (fun h => h7 (by rwa [getD_set_ne (by decide)] at h)), (fun h => h8 (by rwa [getD_set_ne (by decide)] at h)), (fun h => h9 (by rwa [getD_set_ne (by decide)] at h))⟩
    · skip
      have e1 := h1 (ready_dep hi (by kernel_rfl))
      subst e1
      have e3 := hX_G
      rw [hi'] at e3
      have e3 : wi.heap[T + 1]? = some (.cells #[.int .i64 gy, .int .i64 gt, .int .i64 ga] 84 (0, 0)) := e3
      have f0 := hfroz (k := 0) e3
      have z0 := hcell (k := 0) (v := .int .i64 gy) e3 rfl
      have f1 := hfroz (k := 1) e3
      have z1 := hcell (k := 1) (v := .int .i64 gt) e3 rfl
      have f2 := hfroz (k := 2) e3
      have z2 := hcell (k := 2) (v := .int .i64 ga) e3 rfl
      have hG := bx3_grown (w := wi) (b := T + 1) (.int .i64 gy) (.int .i64 gt) (.int .i64 ga)
      have hN := bx3_set e3 (.int .i64 gy) (.int .i64 gt) (.int .i64 ga)
      refine wpOp_of rfl rfl ?_
      go_simp
      unfold SdF
      exact ⟨_, _, _, _, _, _, _, _, _, _, rfl, (hB.grown hG (Nat.le_trans (hB5.size) hB.size) (fun j hj => by cases hj; omega)), (hgrown hG hF_B (by simp only [ne_eq, Option.some.injEq]; omega)), (by rw [getD_set_ne (by decide)]; exact hgrown hG hX_F (by simp only [ne_eq, Option.some.injEq]; omega)), (by rw [getD_set_eq (by omega)]; exact hN), (by rw [getD_set_ne (by decide)]; exact hgrown hG hX_D (by simp only [ne_eq, Option.some.injEq]; omega)), (fun h => h0 (by rwa [getD_set_ne (by decide)] at h)), (fun h => h1 (by rwa [getD_set_ne (by decide)] at h)), (fun h => h2 (by rwa [getD_set_ne (by decide)] at h)), (fun h => h3 (by rwa [getD_set_ne (by decide)] at h)), (fun h => h4 (by rwa [getD_set_ne (by decide)] at h)), (fun h => h5 (by rwa [getD_set_ne (by decide)] at h)), (fun h => h6 (by rwa [getD_set_ne (by decide)] at h)), (fun h => h7 (by rwa [getD_set_ne (by decide)] at h)), (fun h => h8 (by rwa [getD_set_ne (by decide)] at h)), (fun h => h9 (by rwa [getD_set_ne (by decide)] at h))⟩
    · skip
      have e9 := h9 (ready_dep hi (by kernel_rfl))
      subst e9
      have e3 := hX_D
      rw [hi'] at e3
      have e3 : wi.heap[T + 2]? = some (.cells #[.int .i64 0, .int .i64 0, .int .i64 0, .int .i64 0, .int .i64 0, .int .i64 0] 110 (0, 0)) := e3
      have f0 := hfroz (k := 0) e3
      have z0 := hcell (k := 0) (v := .int .i64 0) e3 rfl
      have f1 := hfroz (k := 1) e3
      have z1 := hcell (k := 1) (v := .int .i64 0) e3 rfl
      have f2 := hfroz (k := 2) e3
      have z2 := hcell (k := 2) (v := .int .i64 0) e3 rfl
      have f3 := hfroz (k := 3) e3
      have z3 := hcell (k := 3) (v := .int .i64 0) e3 rfl
      have f4 := hfroz (k := 4) e3
      have z4 := hcell (k := 4) (v := .int .i64 0) e3 rfl
      have f5 := hfroz (k := 5) e3
      have z5 := hcell (k := 5) (v := .int .i64 0) e3 rfl
      have hG := bx6_grown (w := wi) (b := T + 2) (.int .i64 0) (.int .i64 1) (.int .i64 n) (.int .i64 bz0) (.int .i64 (n + 1)) (.int .i64 bz0)
      have hN := bx6_set e3 (.int .i64 0) (.int .i64 1) (.int .i64 n) (.int .i64 bz0) (.int .i64 (n + 1)) (.int .i64 bz0)
      refine wpOp_of rfl rfl ?_
      go_simp
      unfold SdF
      exact ⟨_, _, _, _, _, _, _, _, _, _, rfl, (hB.grown hG (Nat.le_trans (hB5.size) hB.size) (fun j hj => by cases hj; omega)), (hgrown hG hF_B (by simp only [ne_eq, Option.some.injEq]; omega)), (by rw [getD_set_ne (by decide)]; exact hgrown hG hX_F (by simp only [ne_eq, Option.some.injEq]; omega)), (by rw [getD_set_ne (by decide)]; exact hgrown hG hX_G (by simp only [ne_eq, Option.some.injEq]; omega)), (by rw [getD_set_eq (by omega)]; exact hN), (fun h => h0 (by rwa [getD_set_ne (by decide)] at h)), (fun h => h1 (by rwa [getD_set_ne (by decide)] at h)), (fun h => h2 (by rwa [getD_set_ne (by decide)] at h)), (fun h => h3 (by rwa [getD_set_ne (by decide)] at h)), (fun h => h4 (by rwa [getD_set_ne (by decide)] at h)), (fun h => h5 (by rwa [getD_set_ne (by decide)] at h)), (fun h => h6 (by rwa [getD_set_ne (by decide)] at h)), (fun h => h7 (by rwa [getD_set_ne (by decide)] at h)), (fun h => h8 (by rwa [getD_set_ne (by decide)] at h)), (fun h => h9 (by rwa [getD_set_ne (by decide)] at h))⟩
  · intro L a wi hI hall
    unfold SdF at hI
    obtain ⟨s0, s1, s2, s3, s4, s5, s6, s7, s8, s9, rfl, hB, hF_B, hX_F, hX_G, hX_D, h0, h1, h2, h3, h4, h5, h6, h7, h8, h9⟩ := hI
    have e0 := h0 (hall 0 (by decide))
    subst e0
    have e1 := h1 (hall 1 (by decide))
    subst e1
    have e2 := h2 (hall 2 (by decide))
    subst e2
    have e3 := h3 (hall 3 (by decide))
    subst e3
    have e4 := h4 (hall 4 (by decide))
    subst e4
    have e5 := h5 (hall 5 (by decide))
    subst e5
    have e6 := h6 (hall 6 (by decide))
    subst e6
    have e7 := h7 (hall 7 (by decide))
    subst e7
    have e8 := h8 (hall 8 (by decide))
    subst e8
    have e9 := h9 (hall 9 (by decide))
    subst e9
    rw [if_pos (hall 10 (by decide))] at hX_F
    rw [if_pos (hall 11 (by decide))] at hX_G
    rw [if_pos (hall 12 (by decide))] at hX_D
    clear hall 
    clear hF_B hb5 hF5 hG5 hD5 q1
    have hB6 := hB5.trans hB
    go_wp2
    refine bodyPost_ret (results_c3 rfl _ _ T (T + 1) (T + 2) 84 84 110 #[.int .i64 fy, .int .i64 ft, .int .i64 fa] #[.int .i64 gy, .int .i64 gt, .int .i64 ga] #[.int .i64 0, .int .i64 1, .int .i64 n, .int .i64 bz0, .int .i64 (n + 1), .int .i64 bz0] (0, 0) (0, 0) (0, 0) _ _ _ rfl rfl rfl hX_F hX_G hX_D Tryz.underlying84 Tryz.underlying84 Tryz.underlying110 rfl rfl rfl (by kernel_rfl) (by kernel_rfl) (by kernel_rfl)) rfl ⟨rfl, hB6⟩
def SdU (T p6 : Nat) (n fy ft fa gy gt ga bx0 bz0 bx1 bz1 bar : Int) (bya bta : Option Addr) (byn byc btn btc : Nat) (H : Nat) (w1 : World) (F : Value → Value → Value → Value → Value → Value → Value → Value → Value → Value → Array Value) (D : List Deferred) (L : Array Bool) (a : Act) (w : World) : Prop :=
  ∃ (s0 s1 s2 s3 s4 s5 s6 s7 s8 s9 : Value), a = { tmps := F s0 s1 s2 s3 s4 s5 s6 s7 s8 s9, defers := D } ∧
    Below H w1 w ∧
    w.heap[p6]? = some (.cells #[.int .i64 bx0, .int .i64 bz0, .int .i64 bx1, .int .i64 bz1, .int .i64 bar, .slice bya byn byc, .slice bta btn btc] 55 (0, 0)) ∧
    w.heap[T]? = some (.cells (if L.getD 10 false = true then #[.int .i64 fy, .int .i64 ft, .int .i64 fa] else #[.int .i64 fy, .int .i64 ft, .int .i64 fa]) 84 (0, 0)) ∧
    w.heap[T + 1]? = some (.cells (if L.getD 11 false = true then #[.int .i64 gy, .int .i64 gt, .int .i64 ga] else #[.int .i64 gy, .int .i64 gt, .int .i64 ga]) 84 (0, 0)) ∧
    w.heap[T + 2]? = some (.cells (if L.getD 12 false = true then #[.int .i64 0, .int .i64 1, .int .i64 bx0, .int .i64 n, .int .i64 bx0, .int .i64 (n + 1)] else #[.int .i64 0, .int .i64 0, .int .i64 0, .int .i64 0, .int .i64 0, .int .i64 0]) 110 (0, 0)) ∧
    (L.getD 0 false = true → s0 = .agg #[.int .i64 fy, .int .i64 ft, .int .i64 fa]) ∧
    (L.getD 1 false = true → s1 = .agg #[.int .i64 gy, .int .i64 gt, .int .i64 ga]) ∧
    (L.getD 2 false = true → s2 = .pointer (some ⟨p6, 0, none⟩)) ∧
    (L.getD 3 false = true → s3 = .int .i64 bx0) ∧
    (L.getD 4 false = true → s4 = .int .i64 n) ∧
    (L.getD 5 false = true → s5 = .pointer (some ⟨p6, 0, none⟩)) ∧
    (L.getD 6 false = true → s6 = .int .i64 bx0) ∧
    (L.getD 7 false = true → s7 = .int .i64 n) ∧
    (L.getD 8 false = true → s8 = .int .i64 (n + 1)) ∧
    (L.getD 9 false = true → s9 = .agg #[.int .i64 0, .int .i64 1, .int .i64 bx0, .int .i64 n, .int .i64 bx0, .int .i64 (n + 1)])
set_option maxRecDepth 100000 in
set_option maxHeartbeats 8000000 in
theorem side2_any (ha : RHd) (a : Rc) (hb : RHd) (b : Rc) (p5 p6 : Nat) (n : Int) (w : World) (h5 : w.heap[p5]? = some (rcO ha a)) (h6 : w.heap[p6]? = some (rcO hb b)) (hs : RcSl w ha a) (ht : RcSl w hb b) (hn : -100000 ≤ n ∧ n ≤ 100000) :
    Calls Tryz.prog 92 #[.int .i64 n, .pointer (some ⟨p5, 0, none⟩), .pointer (some ⟨p6, 0, none⟩)] w fun e w' => e = .returned (.tuple #[flrV (prF a true n), flrV (prG b true n), drV (prD b true n)]) ∧ Below w.heap.size w w' := by
  obtain ⟨W1, hW1⟩ : ∃ W, W = ((w.alloc (.cells #[.int .i64 0, .int .i64 0, .int .i64 0] 84)).alloc (.cells #[.int .i64 0, .int .i64 0, .int .i64 0] 84)).alloc (.cells #[.int .i64 0, .int .i64 0, .int .i64 0, .int .i64 0, .int .i64 0, .int .i64 0] 110) := ⟨_, rfl⟩
  have hF := halloc (halloc (World.alloc_heap_new w (.cells #[.int .i64 0, .int .i64 0, .int .i64 0] 84)) (.cells #[.int .i64 0, .int .i64 0, .int .i64 0] 84)) (.cells #[.int .i64 0, .int .i64 0, .int .i64 0, .int .i64 0, .int .i64 0, .int .i64 0] 110)
  have hG := halloc (World.alloc_heap_new (w.alloc (.cells #[.int .i64 0, .int .i64 0, .int .i64 0] 84)) (.cells #[.int .i64 0, .int .i64 0, .int .i64 0] 84)) (.cells #[.int .i64 0, .int .i64 0, .int .i64 0, .int .i64 0, .int .i64 0, .int .i64 0] 110)
  have hD := World.alloc_heap_new ((w.alloc (.cells #[.int .i64 0, .int .i64 0, .int .i64 0] 84)).alloc (.cells #[.int .i64 0, .int .i64 0, .int .i64 0] 84)) (.cells #[.int .i64 0, .int .i64 0, .int .i64 0, .int .i64 0, .int .i64 0, .int .i64 0] 110)
  have hB : Below w.heap.size w (((w.alloc (.cells #[.int .i64 0, .int .i64 0, .int .i64 0] 84)).alloc (.cells #[.int .i64 0, .int .i64 0, .int .i64 0] 84)).alloc (.cells #[.int .i64 0, .int .i64 0, .int .i64 0, .int .i64 0, .int .i64 0, .int .i64 0] 110)) := (((Below.refl _ _).alloc (Nat.le_refl _) _).alloc (by simp) _).alloc (by simp; omega) _
  simp only [World.size_alloc] at hG hD
  rw [← hW1] at hF hG hD hB
  have HS := Lib.hid (fun W' (hb' : Below w.heap.size w W') => And.intro (hs.below hb' (Nat.le_refl _)) (ht.below hb' (Nat.le_refl _)))
  have AT := Lib.hid (fun W' (hb' : Below w.heap.size w W') => rcat_any ha a (a.x1) (n) W' (HS.out W' hb').1)
  have AU := Lib.hid (fun W' (hb' : Below w.heap.size w W') => rcat_any hb b (b.x0) (n) W' (HS.out W' hb').2)
  have hl5 := hblt h5
  have hl6 := hblt h6
  have hA1 := hkeep hB h5
  have hb1 := hkeep hB h6
  clear hs ht h5 h6 HS
  obtain ⟨T, hTT⟩ : ∃ T, T = w.heap.size := ⟨_, rfl⟩
  rw [← hTT] at hF hG hD
  have hT0 : w.heap.size ≤ T := by omega
  have hT5 : p5 < T := by omega
  have hT6 : p6 < T := by omega
  have HTT := Lib.hid hTT
  clear hTT hl5 hl6
  have HPF : prF a true n = rcF a (a.x1) (n) := rfl
  have HPG : prG b true n = rcF b (b.x0) (n) := rfl
  have HPD := Lib.hid (show prD b true n = ⟨0, 1, b.x0, n, b.x0, n + 1⟩ from rfl)
  rw [HPF, HPG]
  clear HPF HPG
  generalize rcF a (a.x1) (n) = f at AT ⊢
  generalize rcF b (b.x0) (n) = g at AU ⊢
  generalize (rcAt a (a.x1) (n)).isSome = of at AT
  generalize (rcAt b (b.x0) (n)).isSome = og at AU
  generalize prD b true n = d at HPD ⊢
  have e := HPD.out
  subst e
  clear HPD
  obtain ⟨ax0, az0, ax1, az1, aar, ays, ats⟩ := a
  obtain ⟨bx0, bz0, bx1, bz1, bar, bys, bts⟩ := b
  obtain ⟨aya, ayc, ata, atc⟩ := ha
  obtain ⟨bya, byc, bta, btc⟩ := hb
  obtain ⟨fy, ft, fa⟩ := f
  obtain ⟨gy, gt, ga⟩ := g
  dsimp only [rcO, rcV, flrV, drV] at AT AU hA1 hb1 ⊢
  generalize ays.length = ayn at AT hA1
  generalize ats.length = atn at AT hA1
  generalize bys.length = byn at AU hb1
  generalize bts.length = btn at AU hb1
  have q1 : IntKind.i64.wrap (n + 1) = n + 1 := by rw [IntKind.wrap_i64]; omega
  have a0 := hcell (k := 0) (v := .int .i64 ax0) hA1 rfl
  have a1 := hcell (k := 1) (v := .int .i64 az0) hA1 rfl
  have a2 := hcell (k := 2) (v := .int .i64 ax1) hA1 rfl
  have a3 := hcell (k := 3) (v := .int .i64 az1) hA1 rfl
  have a4 := hcell (k := 4) (v := .int .i64 aar) hA1 rfl
  have a5 := hcell (k := 5) (v := .slice aya ayn ayc) hA1 rfl
  have a6 := hcell (k := 6) (v := .slice ata atn atc) hA1 rfl
  go_enter Tryz.func92, Tryz.ntmps92
  go_upto_region 1 with fail
  rw [← hW1, ← HTT.out]
  clear hW1
  go_wp2_with fail
  refine (AT.out _ hB).mono ?_
  rintro e w2 ⟨rfl, hb2⟩
  have hB2 := hB.trans (hb2.mono hB.size)
  have hF2 := hkeep hb2 hF
  have hG2 := hkeep hb2 hG
  have hD2 := hkeep hb2 hD
  have hb2' := hkeep hb2 hb1
  clear a0 a1 a2 a3 a4 a5 a6 hA1 hb1 hF hG hD hB hb2 AT
  have f0 := hfroz (k := 0) hF2
  have z0 := hcell (k := 0) (v := .int .i64 0) hF2 rfl
  have f1 := hfroz (k := 1) hF2
  have z1 := hcell (k := 1) (v := .int .i64 0) hF2 rfl
  have f2 := hfroz (k := 2) hF2
  have z2 := hcell (k := 2) (v := .int .i64 0) hF2 rfl
  have hGr := bx3_grown (w := w2) (b := T) (.int .i64 fy) (.int .i64 ft) (.int .i64 fa)
  have hF3 := bx3_set hF2 (.int .i64 fy) (.int .i64 ft) (.int .i64 fa)
  have hG3 := hgrown hGr hG2 (by simp only [ne_eq, Option.some.injEq]; omega)
  have hD3 := hgrown hGr hD2 (by simp only [ne_eq, Option.some.injEq]; omega)
  have hb3 := hgrown hGr hb2' (by simp only [ne_eq, Option.some.injEq]; omega)
  have hB3 := hB2.grown hGr hB2.size (fun j hj => by cases hj; omega)
  go_upto_region 2 with fail
  clear f0 f1 f2 z0 z1 z2 hGr hF2 hG2 hD2 hb2' hB2
  generalize ((w2.setCell ⟨T, 0, none⟩ (.int .i64 fy)).setCell ⟨T, 1, none⟩ (.int .i64 ft)).setCell ⟨T, 2, none⟩ (.int .i64 fa) = w3 at hF3 hG3 hD3 hb3 hB3 ⊢
  have a0 := hcell (k := 0) (v := .int .i64 bx0) hb3 rfl
  have a1 := hcell (k := 1) (v := .int .i64 bz0) hb3 rfl
  have a2 := hcell (k := 2) (v := .int .i64 bx1) hb3 rfl
  have a3 := hcell (k := 3) (v := .int .i64 bz1) hb3 rfl
  have a4 := hcell (k := 4) (v := .int .i64 bar) hb3 rfl
  have a5 := hcell (k := 5) (v := .slice bya byn byc) hb3 rfl
  have a6 := hcell (k := 6) (v := .slice bta btn btc) hb3 rfl
  go_wp2_with fail
  refine (AU.out _ hB3).mono ?_
  rintro e w4 ⟨rfl, hb4⟩
  have hB4 := hB3.trans (hb4.mono hB3.size)
  have hF4 := hkeep hb4 hF3
  have hG4 := hkeep hb4 hG3
  have hD4 := hkeep hb4 hD3
  have hb4' := hkeep hb4 hb3
  clear a0 a1 a2 a3 a4 a5 a6 hb3 hF3 hG3 hD3 hB3 hb4 AU
  have f0 := hfroz (k := 0) hG4
  have z0 := hcell (k := 0) (v := .int .i64 0) hG4 rfl
  have f1 := hfroz (k := 1) hG4
  have z1 := hcell (k := 1) (v := .int .i64 0) hG4 rfl
  have f2 := hfroz (k := 2) hG4
  have z2 := hcell (k := 2) (v := .int .i64 0) hG4 rfl
  have hGr := bx3_grown (w := w4) (b := T + 1) (.int .i64 gy) (.int .i64 gt) (.int .i64 ga)
  have hG5 := bx3_set hG4 (.int .i64 gy) (.int .i64 gt) (.int .i64 ga)
  have hF5 := hgrown hGr hF4 (by simp only [ne_eq, Option.some.injEq]; omega)
  have hD5 := hgrown hGr hD4 (by simp only [ne_eq, Option.some.injEq]; omega)
  have hb5 := hgrown hGr hb4' (by simp only [ne_eq, Option.some.injEq]; omega)
  have hB5 := hB4.grown hGr hB4.size (fun j hj => by cases hj; omega)
  go_upto_region 3 with fail
  clear f0 f1 f2 z0 z1 z2 hGr hF4 hG4 hD4 hb4' hB4
  generalize ((w4.setCell ⟨T + 1, 0, none⟩ (.int .i64 gy)).setCell ⟨T + 1, 1, none⟩ (.int .i64 gt)).setCell ⟨T + 1, 2, none⟩ (.int .i64 ga) = w5 at hF5 hG5 hD5 hb5 hB5 ⊢
  refine wp_region_inv (SdU T p6 n fy ft fa gy gt ga bx0 bz0 bx1 bz1 bar bya bta byn byc btn btc w.heap.size w5 (fun s0 s1 s2 s3 s4 s5 s6 s7 s8 s9 => #[Value.int IntKind.i64 n, Value.pointer (some { block := p5, off := 0 }), Value.pointer (some { block := p6, off := 0 }), undef, Value.pointer (some { block := T, off := 0 }), Value.pointer (some { block := T + 1, off := 0 }), Value.pointer (some { block := T + 1 + 1, off := 0 }), Value.tuple #[Value.agg #[Value.int IntKind.i64 fy, Value.int IntKind.i64 ft, Value.int IntKind.i64 fa], Value.bool of], Value.agg #[Value.int IntKind.i64 ax0, Value.int IntKind.i64 az0, Value.int IntKind.i64 ax1, Value.int IntKind.i64 az1, Value.int IntKind.i64 aar, Value.slice aya ayn ayc, Value.slice ata atn atc], Value.pointer (some { block := p5, off := 2 }), Value.int IntKind.i64 ax1, Value.int IntKind.i64 n, Value.tuple #[Value.agg #[Value.int IntKind.i64 fy, Value.int IntKind.i64 ft, Value.int IntKind.i64 fa], Value.bool of], Value.agg #[Value.int IntKind.i64 fy, Value.int IntKind.i64 ft, Value.int IntKind.i64 fa], Value.bool of, Value.tuple #[Value.agg #[Value.int IntKind.i64 gy, Value.int IntKind.i64 gt, Value.int IntKind.i64 ga], Value.bool og], Value.agg #[Value.int IntKind.i64 bx0, Value.int IntKind.i64 bz0, Value.int IntKind.i64 bx1, Value.int IntKind.i64 bz1, Value.int IntKind.i64 bar, Value.slice bya byn byc, Value.slice bta btn btc], Value.pointer (some { block := p6, off := 0 }), Value.int IntKind.i64 bx0, Value.int IntKind.i64 n, Value.tuple #[Value.agg #[Value.int IntKind.i64 gy, Value.int IntKind.i64 gt, Value.int IntKind.i64 ga], Value.bool og], Value.agg #[Value.int IntKind.i64 gy, Value.int IntKind.i64 gt, Value.int IntKind.i64 ga], Value.bool og, s0, s1, s2, s3, s4, s5, s6, s7, s8, s9]) []) (by kernel_rfl) (by kernel_rfl) ?_ ?_ ?_
  · unfold SdU
    refine ⟨_, _, _, _, _, _, _, _, _, _, rfl, (Below.refl _ _).drew, hb5, hF5, hG5, hD5, (fun h => by cases (show false = true from h)), (fun h => by cases (show false = true from h)), (fun h => by cases (show false = true from h)), (fun h => by cases (show false = true from h)), (fun h => by cases (show false = true from h)), (fun h => by cases (show false = true from h)), (fun h => by cases (show false = true from h)), (fun h => by cases (show false = true from h)), (fun h => by cases (show false = true from h)), (fun h => by cases (show false = true from h))⟩
  · intro L a wi i hs hI hi
    have hsN : L.size = 13 := hs
    have hn := ready_elim hi
    have hlt : i < 13 := by
        obtain ⟨o, ho, _⟩ := hn.2
        exact (Array.getElem?_eq_some_iff.1 ho).1
    have hi' := ready_not hi false (by rw [hs]; exact hlt)
    clear hn
    unfold SdU at hI
    obtain ⟨s0, s1, s2, s3, s4, s5, s6, s7, s8, s9, rfl, hB, hF_B, hX_F, hX_G, hX_D, h0, h1, h2, h3, h4, h5, h6, h7, h8, h9⟩ := hI
    rcases (by omega : i = 0 ∨ i = 1 ∨ i = 2 ∨ i = 3 ∨ i = 4 ∨ i = 5 ∨ i = 6 ∨ i = 7 ∨ i = 8 ∨ i = 9 ∨ i = 10 ∨ i = 11 ∨ i = 12) with rfl | rfl | rfl | rfl | rfl | rfl | rfl | rfl | rfl | rfl | rfl | rfl | rfl
    · skip
      have eF : wi.heap[T]? = some (.cells #[.int .i64 fy, .int .i64 ft, .int .i64 fa] 84 (0, 0)) := by have := hX_F; rwa [ite_self] at this
      have z0 := hcell (k := 0) (v := .int .i64 fy) eF rfl
      have z1 := hcell (k := 1) (v := .int .i64 ft) eF rfl
      have z2 := hcell (k := 2) (v := .int .i64 fa) eF rfl
      refine wpOp_of rfl rfl ?_
      go_simp
      unfold SdU
      exact ⟨_, _, _, _, _, _, _, _, _, _, rfl, (hB), (hF_B), (by rw [getD_set_ne (by decide)]; exact hX_F), (by rw [getD_set_ne (by decide)]; exact hX_G), (by rw [getD_set_ne (by decide)]; exact hX_D), (fun _ => rfl), (fun h => h1 (by rwa [getD_set_ne (by decide)] at h)), (fun h => h2 (by rwa [getD_set_ne (by decide)] at h)), (fun h => h3 (by rwa [getD_set_ne (by decide)] at h)), (fun h => h4 (by rwa [getD_set_ne (by decide)] at h)), (fun h => h5 (by rwa [getD_set_ne (by decide)] at h)), (fun h => h6 (by rwa [getD_set_ne (by decide)] at h)), (fun h => h7 (by rwa [getD_set_ne (by decide)] at h)), (fun h => h8 (by rwa [getD_set_ne (by decide)] at h)), (fun h => h9 (by rwa [getD_set_ne (by decide)] at h))⟩
    · skip
      have eG : wi.heap[T + 1]? = some (.cells #[.int .i64 gy, .int .i64 gt, .int .i64 ga] 84 (0, 0)) := by have := hX_G; rwa [ite_self] at this
      have z0 := hcell (k := 0) (v := .int .i64 gy) eG rfl
      have z1 := hcell (k := 1) (v := .int .i64 gt) eG rfl
      have z2 := hcell (k := 2) (v := .int .i64 ga) eG rfl
      refine wpOp_of rfl rfl ?_
      go_simp
      unfold SdU
      exact ⟨_, _, _, _, _, _, _, _, _, _, rfl, (hB), (hF_B), (by rw [getD_set_ne (by decide)]; exact hX_F), (by rw [getD_set_ne (by decide)]; exact hX_G), (by rw [getD_set_ne (by decide)]; exact hX_D), (fun h => h0 (by rwa [getD_set_ne (by decide)] at h)), (fun _ => rfl), (fun h => h2 (by rwa [getD_set_ne (by decide)] at h)), (fun h => h3 (by rwa [getD_set_ne (by decide)] at h)), (fun h => h4 (by rwa [getD_set_ne (by decide)] at h)), (fun h => h5 (by rwa [getD_set_ne (by decide)] at h)), (fun h => h6 (by rwa [getD_set_ne (by decide)] at h)), (fun h => h7 (by rwa [getD_set_ne (by decide)] at h)), (fun h => h8 (by rwa [getD_set_ne (by decide)] at h)), (fun h => h9 (by rwa [getD_set_ne (by decide)] at h))⟩
    · skip
      refine wpOp_of rfl rfl ?_
      go_simp
      unfold SdU
      exact ⟨_, _, _, _, _, _, _, _, _, _, rfl, (hB), (hF_B), (by rw [getD_set_ne (by decide)]; exact hX_F), (by rw [getD_set_ne (by decide)]; exact hX_G), (by rw [getD_set_ne (by decide)]; exact hX_D), (fun h => h0 (by rwa [getD_set_ne (by decide)] at h)), (fun h => h1 (by rwa [getD_set_ne (by decide)] at h)), (fun _ => rfl), (fun h => h3 (by rwa [getD_set_ne (by decide)] at h)), (fun h => h4 (by rwa [getD_set_ne (by decide)] at h)), (fun h => h5 (by rwa [getD_set_ne (by decide)] at h)), (fun h => h6 (by rwa [getD_set_ne (by decide)] at h)), (fun h => h7 (by rwa [getD_set_ne (by decide)] at h)), (fun h => h8 (by rwa [getD_set_ne (by decide)] at h)), (fun h => h9 (by rwa [getD_set_ne (by decide)] at h))⟩
    · skip
      have e2 := h2 (ready_dep hi (by kernel_rfl))
      subst e2
      have c := hcell (k := 0) (v := .int .i64 bx0) hF_B rfl
      refine wpOp_of rfl rfl ?_
      go_simp
      unfold SdU
      exact ⟨_, _, _, _, _, _, _, _, _, _, rfl, (hB), (hF_B), (by rw [getD_set_ne (by decide)]; exact hX_F), (by rw [getD_set_ne (by decide)]; exact hX_G), (by rw [getD_set_ne (by decide)]; exact hX_D), (fun h => h0 (by rwa [getD_set_ne (by decide)] at h)), (fun h => h1 (by rwa [getD_set_ne (by decide)] at h)), (fun h => h2 (by rwa [getD_set_ne (by decide)] at h)), (fun _ => rfl), (fun h => h4 (by rwa [getD_set_ne (by decide)] at h)), (fun h => h5 (by rwa [getD_set_ne (by decide)] at h)), (fun h => h6 (by rwa [getD_set_ne (by decide)] at h)), (fun h => h7 (by rwa [getD_set_ne (by decide)] at h)), (fun h => h8 (by rwa [getD_set_ne (by decide)] at h)), (fun h => h9 (by rwa [getD_set_ne (by decide)] at h))⟩
    · skip
      refine wpOp_of rfl rfl ?_
      go_simp
      unfold SdU
      exact ⟨_, _, _, _, _, _, _, _, _, _, rfl, (hB), (hF_B), (by rw [getD_set_ne (by decide)]; exact hX_F), (by rw [getD_set_ne (by decide)]; exact hX_G), (by rw [getD_set_ne (by decide)]; exact hX_D), (fun h => h0 (by rwa [getD_set_ne (by decide)] at h)), (fun h => h1 (by rwa [getD_set_ne (by decide)] at h)), (fun h => h2 (by rwa [getD_set_ne (by decide)] at h)), (fun h => h3 (by rwa [getD_set_ne (by decide)] at h)), (fun _ => rfl), (fun h => h5 (by rwa [getD_set_ne (by decide)] at h)), (fun h => h6 (by rwa [getD_set_ne (by decide)] at h)), (fun h => h7 (by rwa [getD_set_ne (by decide)] at h)), (fun h => h8 (by rwa [getD_set_ne (by decide)] at h)), (fun h => h9 (by rwa [getD_set_ne (by decide)] at h))⟩
    · skip
      refine wpOp_of rfl rfl ?_
      go_simp
      unfold SdU
      exact ⟨_, _, _, _, _, _, _, _, _, _, rfl, (hB), (hF_B), (by rw [getD_set_ne (by decide)]; exact hX_F), (by rw [getD_set_ne (by decide)]; exact hX_G), (by rw [getD_set_ne (by decide)]; exact hX_D), (fun h => h0 (by rwa [getD_set_ne (by decide)] at h)), (fun h => h1 (by rwa [getD_set_ne (by decide)] at h)), (fun h => h2 (by rwa [getD_set_ne (by decide)] at h)), (fun h => h3 (by rwa [getD_set_ne (by decide)] at h)), (fun h => h4 (by rwa [getD_set_ne (by decide)] at h)), (fun _ => rfl), (fun h => h6 (by rwa [getD_set_ne (by decide)] at h)), (fun h => h7 (by rwa [getD_set_ne (by decide)] at h)), (fun h => h8 (by rwa [getD_set_ne (by decide)] at h)), (fun h => h9 (by rwa [getD_set_ne (by decide)] at h))⟩
    · skip
      have e5 := h5 (ready_dep hi (by kernel_rfl))
      subst e5
      have c := hcell (k := 0) (v := .int .i64 bx0) hF_B rfl
      refine wpOp_of rfl rfl ?_
      go_simp
      unfold SdU
      exact ⟨_, _, _, _, _, _, _, _, _, _, rfl, (hB), (hF_B), (by rw [getD_set_ne (by decide)]; exact hX_F), (by rw [getD_set_ne (by decide)]; exact hX_G), (by rw [getD_set_ne (by decide)]; exact hX_D), (fun h => h0 (by rwa [getD_set_ne (by decide)] at h)), (fun h => h1 (by rwa [getD_set_ne (by decide)] at h)), (fun h => h2 (by rwa [getD_set_ne (by decide)] at h)), (fun h => h3 (by rwa [getD_set_ne (by decide)] at h)), (fun h => h4 (by rwa [getD_set_ne (by decide)] at h)), (fun h => h5 (by rwa [getD_set_ne (by decide)] at h)), (fun _ => rfl), (fun h => h7 (by rwa [getD_set_ne (by decide)] at h)), (fun h => h8 (by rwa [getD_set_ne (by decide)] at h)), (fun h => h9 (by rwa [getD_set_ne (by decide)] at h))⟩
    · skip
      refine wpOp_of rfl rfl ?_
      go_simp
      unfold SdU
      exact ⟨_, _, _, _, _, _, _, _, _, _, rfl, (hB), (hF_B), (by rw [getD_set_ne (by decide)]; exact hX_F), (by rw [getD_set_ne (by decide)]; exact hX_G), (by rw [getD_set_ne (by decide)]; exact hX_D), (fun h => h0 (by rwa [getD_set_ne (by decide)] at h)), (fun h => h1 (by rwa [getD_set_ne (by decide)] at h)), (fun h => h2 (by rwa [getD_set_ne (by decide)] at h)), (fun h => h3 (by rwa [getD_set_ne (by decide)] at h)), (fun h => h4 (by rwa [getD_set_ne (by decide)] at h)), (fun h => h5 (by rwa [getD_set_ne (by decide)] at h)), (fun h => h6 (by rwa [getD_set_ne (by decide)] at h)), (fun _ => rfl), (fun h => h8 (by rwa [getD_set_ne (by decide)] at h)), (fun h => h9 (by rwa [getD_set_ne (by decide)] at h))⟩
    · skip
      have e7 := h7 (ready_dep hi (by kernel_rfl))
      subst e7
      refine wpOp_of rfl rfl ?_
      go_simp
      unfold SdU
      exact ⟨_, _, _, _, _, _, _, _, _, _, rfl, (hB), (hF_B), (by rw [getD_set_ne (by decide)]; exact hX_F), (by rw [getD_set_ne (by decide)]; exact hX_G), (by rw [getD_set_ne (by decide)]; exact hX_D), (fun h => h0 (by rwa [getD_set_ne (by decide)] at h)), (fun h => h1 (by rwa [getD_set_ne (by decide)] at h)), (fun h => h2 (by rwa [getD_set_ne (by decide)] at h)), (fun h => h3 (by rwa [getD_set_ne (by decide)] at h)), (fun h => h4 (by rwa [getD_set_ne (by decide)] at h)), (fun h => h5 (by rwa [getD_set_ne (by decide)] at h)), (fun h => h6 (by rwa [getD_set_ne (by decide)] at h)), (fun h => h7 (by rwa [getD_set_ne (by decide)] at h)), (fun _ => rfl), (fun h => h9 (by rwa [getD_set_ne (by decide)] at h))⟩
    · skip
      have e3 := h3 (ready_dep hi (by kernel_rfl))
      subst e3
      have e4 := h4 (ready_dep hi (by kernel_rfl))
      subst e4
      have e6 := h6 (ready_dep hi (by kernel_rfl))
      subst e6
      have e8 := h8 (ready_dep hi (by kernel_rfl))
      subst e8
      refine wpOp_of rfl rfl ?_
      go_simp
      unfold SdU
      exact ⟨_, _, _, _, _, _, _, _, _, _, rfl, (hB), (hF_B), (by rw [getD_set_ne (by decide)]; exact hX_F), (by rw [getD_set_ne (by decide)]; exact hX_G), (by rw [getD_set_ne (by decide)]; exact hX_D), (fun h => h0 (by rwa [getD_set_ne (by decide)] at h)), (fun h => h1 (by rwa [getD_set_ne (by decide)] at h)), (fun h => h2 (by rwa [getD_set_ne (by decide)] at h)), (fun h => h3 (by rwa [getD_set_ne (by decide)] at h)), (fun h => h4 (by rwa [getD_set_ne (by decide)] at h)), (fun h => h5 (by rwa [getD_set_ne (by decide)] at h)), (fun h => h6 (by rwa [getD_set_ne (by decide)] at h)), (fun h => h7 (by rwa [getD_set_ne (by decide)] at h)), (fun h => h8 (by rwa [getD_set_ne (by decide)] at h)), (fun _ => rfl)⟩
    · skip
      have e0 := h0 (ready_dep hi (by kernel_rfl))
      subst e0
      have e3 := hX_F
      rw [hi'] at e3
      have e3 : wi.heap[T]? = some (.cells #[.int .i64 fy, .int .i64 ft, .int .i64 fa] 84 (0, 0)) := e3
      have f0 := hfroz (k := 0) e3
      have z0 := hcell (k := 0) (v := .int .i64 fy) e3 rfl
      have f1 := hfroz (k := 1) e3
      have z1 := hcell (k := 1) (v := .int .i64 ft) e3 rfl
      have f2 := hfroz (k := 2) e3
      have z2 := hcell (k := 2) (v := .int .i64 fa) e3 rfl
      have hG := bx3_grown (w := wi) (b := T) (.int .i64 fy) (.int .i64 ft) (.int .i64 fa)
      have hN := bx3_set e3 (.int .i64 fy) (.int .i64 ft) (.int .i64 fa)
      refine wpOp_of rfl rfl ?_
      go_simp
      unfold SdU
      exact ⟨_, _, _, _, _, _, _, _, _, _, rfl, (hB.grown hG (Nat.le_trans (hB5.size) hB.size) (fun j hj => by cases hj; omega)), (hgrown hG hF_B (by simp only [ne_eq, Option.some.injEq]; omega)), (by rw [getD_set_eq (by omega)]; exact hN), (by rw [getD_set_ne (by decide)]; exact hgrown hG hX_G (by simp only [ne_eq, Option.some.injEq]; omega)), (by rw [getD_set_ne (by decide)]; exact hgrown hG hX_D (by simp only [ne_eq, Option.some.injEq]; omega)), (fun h => h0 (by rwa [getD_set_ne (by decide)] at h)), (fun h => h1 (by rwa [getD_set_ne (by decide)] at h)), (fun h => h2 (by rwa [getD_set_ne (by decide)] at h)), (fun h => h3 (by rwa [getD_set_ne (by decide)] at h)), (fun h => h4 (by rwa [getD_set_ne (by decide)] at h)), (fun h => h5 (by rwa [getD_set_ne (by decide)] at h)), (fun h => h6 (by rwa [getD_set_ne (by decide)] at h)), (fun h => h7 (by rwa [getD_set_ne (by decide)] at h)), (fun h => h8 (by rwa [getD_set_ne (by decide)] at h)), (fun h => h9 (by rwa [getD_set_ne (by decide)] at h))⟩
    · skip
      have e1 := h1 (ready_dep hi (by kernel_rfl))
      subst e1
      have e3 := hX_G
      rw [hi'] at e3
      have e3 : wi.heap[T + 1]? = some (.cells #[.int .i64 gy, .int .i64 gt, .int .i64 ga] 84 (0, 0)) := e3
      have f0 := hfroz (k := 0) e3
      have z0 := hcell (k := 0) (v := .int .i64 gy) e3 rfl
      have f1 := hfroz (k := 1) e3
      have z1 := hcell (k := 1) (v := .int .i64 gt) e3 rfl
      have f2 := hfroz (k := 2) e3
      have z2 := hcell (k := 2) (v := .int .i64 ga) e3 rfl
      have hG := bx3_grown (w := wi) (b := T + 1) (.int .i64 gy) (.int .i64 gt) (.int .i64 ga)
      have hN := bx3_set e3 (.int .i64 gy) (.int .i64 gt) (.int .i64 ga)
      refine wpOp_of rfl rfl ?_
      go_simp
      unfold SdU
      exact ⟨_, _, _, _, _, _, _, _, _, _, rfl, (hB.grown hG (Nat.le_trans (hB5.size) hB.size) (fun j hj => by cases hj; omega)), (hgrown hG hF_B (by simp only [ne_eq, Option.some.injEq]; omega)), (by rw [getD_set_ne (by decide)]; exact hgrown hG hX_F (by simp only [ne_eq, Option.some.injEq]; omega)), (by rw [getD_set_eq (by omega)]; exact hN), (by rw [getD_set_ne (by decide)]; exact hgrown hG hX_D (by simp only [ne_eq, Option.some.injEq]; omega)), (fun h => h0 (by rwa [getD_set_ne (by decide)] at h)), (fun h => h1 (by rwa [getD_set_ne (by decide)] at h)), (fun h => h2 (by rwa [getD_set_ne (by decide)] at h)), (fun h => h3 (by rwa [getD_set_ne (by decide)] at h)), (fun h => h4 (by rwa [getD_set_ne (by decide)] at h)), (fun h => h5 (by rwa [getD_set_ne (by decide)] at h)), (fun h => h6 (by rwa [getD_set_ne (by decide)] at h)), (fun h => h7 (by rwa [getD_set_ne (by decide)] at h)), (fun h => h8 (by rwa [getD_set_ne (by decide)] at h)), (fun h => h9 (by rwa [getD_set_ne (by decide)] at h))⟩
    · skip
      have e9 := h9 (ready_dep hi (by kernel_rfl))
      subst e9
      have e3 := hX_D
      rw [hi'] at e3
      have e3 : wi.heap[T + 2]? = some (.cells #[.int .i64 0, .int .i64 0, .int .i64 0, .int .i64 0, .int .i64 0, .int .i64 0] 110 (0, 0)) := e3
      have f0 := hfroz (k := 0) e3
      have z0 := hcell (k := 0) (v := .int .i64 0) e3 rfl
      have f1 := hfroz (k := 1) e3
      have z1 := hcell (k := 1) (v := .int .i64 0) e3 rfl
      have f2 := hfroz (k := 2) e3
      have z2 := hcell (k := 2) (v := .int .i64 0) e3 rfl
      have f3 := hfroz (k := 3) e3
      have z3 := hcell (k := 3) (v := .int .i64 0) e3 rfl
      have f4 := hfroz (k := 4) e3
      have z4 := hcell (k := 4) (v := .int .i64 0) e3 rfl
      have f5 := hfroz (k := 5) e3
      have z5 := hcell (k := 5) (v := .int .i64 0) e3 rfl
      have hG := bx6_grown (w := wi) (b := T + 2) (.int .i64 0) (.int .i64 1) (.int .i64 bx0) (.int .i64 n) (.int .i64 bx0) (.int .i64 (n + 1))
      have hN := bx6_set e3 (.int .i64 0) (.int .i64 1) (.int .i64 bx0) (.int .i64 n) (.int .i64 bx0) (.int .i64 (n + 1))
      refine wpOp_of rfl rfl ?_
      go_simp
      unfold SdU
      exact ⟨_, _, _, _, _, _, _, _, _, _, rfl, (hB.grown hG (Nat.le_trans (hB5.size) hB.size) (fun j hj => by cases hj; omega)), (hgrown hG hF_B (by simp only [ne_eq, Option.some.injEq]; omega)), (by rw [getD_set_ne (by decide)]; exact hgrown hG hX_F (by simp only [ne_eq, Option.some.injEq]; omega)), (by rw [getD_set_ne (by decide)]; exact hgrown hG hX_G (by simp only [ne_eq, Option.some.injEq]; omega)), (by rw [getD_set_eq (by omega)]; exact hN), (fun h => h0 (by rwa [getD_set_ne (by decide)] at h)), (fun h => h1 (by rwa [getD_set_ne (by decide)] at h)), (fun h => h2 (by rwa [getD_set_ne (by decide)] at h)), (fun h => h3 (by rwa [getD_set_ne (by decide)] at h)), (fun h => h4 (by rwa [getD_set_ne (by decide)] at h)), (fun h => h5 (by rwa [getD_set_ne (by decide)] at h)), (fun h => h6 (by rwa [getD_set_ne (by decide)] at h)), (fun h => h7 (by rwa [getD_set_ne (by decide)] at h)), (fun h => h8 (by rwa [getD_set_ne (by decide)] at h)), (fun h => h9 (by rwa [getD_set_ne (by decide)] at h))⟩
  · intro L a wi hI hall
    unfold SdU at hI
    obtain ⟨s0, s1, s2, s3, s4, s5, s6, s7, s8, s9, rfl, hB, hF_B, hX_F, hX_G, hX_D, h0, h1, h2, h3, h4, h5, h6, h7, h8, h9⟩ := hI
    have e0 := h0 (hall 0 (by decide))
    subst e0
    have e1 := h1 (hall 1 (by decide))
    subst e1
    have e2 := h2 (hall 2 (by decide))
    subst e2
    have e3 := h3 (hall 3 (by decide))
    subst e3
    have e4 := h4 (hall 4 (by decide))
    subst e4
    have e5 := h5 (hall 5 (by decide))
    subst e5
    have e6 := h6 (hall 6 (by decide))
    subst e6
    have e7 := h7 (hall 7 (by decide))
    subst e7
    have e8 := h8 (hall 8 (by decide))
    subst e8
    have e9 := h9 (hall 9 (by decide))
    subst e9
    rw [if_pos (hall 10 (by decide))] at hX_F
    rw [if_pos (hall 11 (by decide))] at hX_G
    rw [if_pos (hall 12 (by decide))] at hX_D
    clear hall 
    clear hF_B hb5 hF5 hG5 hD5 q1
    have hB6 := hB5.trans hB
    go_wp2
    refine bodyPost_ret (results_c3 rfl _ _ T (T + 1) (T + 2) 84 84 110 #[.int .i64 fy, .int .i64 ft, .int .i64 fa] #[.int .i64 gy, .int .i64 gt, .int .i64 ga] #[.int .i64 0, .int .i64 1, .int .i64 bx0, .int .i64 n, .int .i64 bx0, .int .i64 (n + 1)] (0, 0) (0, 0) (0, 0) _ _ _ rfl rfl rfl hX_F hX_G hX_D Tryz.underlying84 Tryz.underlying84 Tryz.underlying110 rfl rfl rfl (by kernel_rfl) (by kernel_rfl) (by kernel_rfl)) rfl ⟨rfl, hB6⟩
end Go.Proofs.YtmgkkmcihplojaaGreat

namespace Go.Proofs.YtmgkkmcihplojaaGreat
open Go.RowKit Go.Shelf Go.Sort
attribute [local go_sem] Oper.semAt_some Instr.index

theorem RcSl.keepEx {w w' : World} {h : RHd} {r : Rc} (hs : RcSl w h r) {L : Nat} {S : Nat → Prop} (hk : KeepEx L S w w') (hy : ∀ ad, h.ya = some ad → r.ys.length = 0 ∨ (ad.block < L ∧ ¬ S ad.block)) (ht : ∀ ad, h.ta = some ad → r.ts.length = 0 ∨ (ad.block < L ∧ ¬ S ad.block)) : RcSl w' h r := ⟨hs.y.keepEx hk hy, hs.t.keepEx hk ht⟩
/-- All that pairs has laid lies below L and does not turn. -/
structure PrsLow (L : Nat) (S : Nat → Prop) (pf pt pa ps pc p5 p6 : Nat) (ha : RHd) (a : Rc) (hb : RHd) (b : Rc) : Prop where
  f : pf < L ∧ ¬ S pf
  t : pt < L ∧ ¬ S pt
  x : pa < L ∧ ¬ S pa
  s : ps < L ∧ ¬ S ps
  c : pc < L ∧ ¬ S pc
  ra : p5 < L ∧ ¬ S p5
  rb : p6 < L ∧ ¬ S p6
  ya : ∀ ad, ha.ya = some ad → a.ys.length = 0 ∨ (ad.block < L ∧ ¬ S ad.block)
  ta : ∀ ad, ha.ta = some ad → a.ts.length = 0 ∨ (ad.block < L ∧ ¬ S ad.block)
  yb : ∀ ad, hb.ya = some ad → b.ys.length = 0 ∨ (ad.block < L ∧ ¬ S ad.block)
  tb : ∀ ad, hb.ta = some ad → b.ts.length = 0 ∨ (ad.block < L ∧ ¬ S ad.block)
theorem PrsIn.keep {pf pt pa ps pc p5 p6 : Nat} {cf : Cfg} {ha : RHd} {a : Rc} {hb : RHd} {b : Rc} {up : Bool} {w w' : World} {L : Nat} {S : Nat → Prop} (h : PrsIn pf pt pa ps pc p5 p6 cf ha a hb b up w) (hk : KeepEx L S w w') (hl : PrsLow L S pf pt pa ps pc p5 p6 ha a hb b) : PrsIn pf pt pa ps pc p5 p6 cf ha a hb b up w' :=
  ⟨(hk.block _ hl.f.1 hl.f.2).trans h.f, (hk.block _ hl.t.1 hl.t.2).trans h.t, (hk.block _ hl.x.1 hl.x.2).trans h.x, (hk.block _ hl.s.1 hl.s.2).trans h.s, (hk.block _ hl.c.1 hl.c.2).trans h.c, (hk.block _ hl.ra.1 hl.ra.2).trans h.ra, (hk.block _ hl.rb.1 hl.rb.2).trans h.rb, h.sa.keepEx hk hl.ya hl.ta, h.sb.keepEx hk hl.yb hl.tb⟩
theorem prsTo_len (cf : Cfg) (a b : Rc) (up : Bool) (k : Nat) : (prsTo cf a b up k).length ≤ k := by
  induction k with
  | zero => exact Nat.le_refl _
  | succ k ih =>
    rw [prsTo_succ, List.length_append]
    have : (prOne cf a b up (prFrom a b up + (k : Int))).length ≤ 1 := by unfold prOne; split <;> simp
    omega
theorem prsTo_prefix (cf : Cfg) (a b : Rc) (up : Bool) {k m : Nat} (h : k ≤ m) : prsTo cf a b up k <+: prsTo cf a b up m := by
  obtain ⟨j, rfl⟩ := Nat.exists_eq_add_of_le h
  clear h
  induction j with
  | zero => exact List.prefix_refl _
  | succ j ih =>
    rw [← Nat.add_assoc, prsTo_succ]
    exact ih.trans (List.prefix_append _ _)
theorem prOne_yes {cf : Cfg} {a b : Rc} {up : Bool} {n : Int} (h : lnk cf (prF a up n) (prG b up n) = true) : prOne cf a b up n = [prD b up n] := by unfold prOne; rw [if_pos h]
theorem prOne_no {cf : Cfg} {a b : Rc} {up : Bool} {n : Int} (h : lnk cf (prF a up n) (prG b up n) = false) : prOne cf a b up n = [] := by unfold prOne; rw [h]; rfl
set_option maxRecDepth 100000 in
set_option maxHeartbeats 16000000 in
theorem prs_stops (m : Nat) (hm : 1 ≤ m) (pf pt pa ps pc p5 p6 L : Nat) (S : Nat → Prop) (cf : Cfg) (ha : RHd) (a : Rc) (hb : RHd) (b : Rc) (up : Bool) (w : World) (hda : rcBd a = true) (hdb : rcBd b = true) (he : PrsIn pf pt pa ps pc p5 p6 cf ha a hb b up w) (hl : PrsLow L S pf pt pa ps pc p5 p6 ha a hb b) :
    SeqStopsK Fence.wide m Tryz.prog 93 #[.pointer (some ⟨pf, 0, none⟩), .pointer (some ⟨pt, 0, none⟩), .pointer (some ⟨pa, 0, none⟩), .pointer (some ⟨ps, 0, none⟩), .pointer (some ⟨pc, 0, none⟩)] (fun d : Dr => #[drV d]) (KeepEx L S) (fun ys => ys = prs cf a b up) (fun pre => pre <+: prs cf a b up) (prLen a b up) w := fun l J Jx W hW hJ hJx hY h0' => by
  have he' := he.below hW
  have HJ := Lib.hid hJ; clear hJ hJx
  have HY := Lib.hid hY; clear hY
  have HLo := Lib.hid hl; clear hl
  obtain ⟨u1, u2, u3, u4, u5, u6, _, _⟩ := rcBd_iff.1 hda
  obtain ⟨v1, v2, v3, v4, v5, v6, _, _⟩ := rcBd_iff.1 hdb
  have hfb : 0 ≤ prFrom a b up ∧ prFrom a b up ≤ 31 := by unfold prFrom; cases up <;> simp <;> omega
  have htb : 0 ≤ prTo a b up ∧ prTo a b up ≤ 31 := by unfold prTo; cases up <;> simp <;> omega
  have HPL : Hid (prLen a b up = if prAcross a b up then (prTo a b up + 1 - prFrom a b up).toNat else 0) := rfl
  have PS := Lib.hid (fun k => prsTo_succ cf a b up k)
  have PL := Lib.hid (fun k => prsTo_len cf a b up k)
  have PX := Lib.hid (fun (k : Nat) (h : k ≤ prLen a b up) => show prsTo cf a b up k <+: prs cf a b up from prsTo_prefix cf a b up h)
  have PE : Hid (prs cf a b up = prsTo cf a b up (prLen a b up)) := rfl
  have P0 : Hid (prsTo cf a b up 0 = []) := rfl
  have OY := Lib.hid (fun n (h : lnk cf (prF a up n) (prG b up n) = true) => prOne_yes h)
  have ON := Lib.hid (fun n (h : lnk cf (prF a up n) (prG b up n) = false) => prOne_no h)
  have LK := Lib.hid (fun f g W => linked_any cf f g W)
  obtain ⟨N, hN⟩ : ∃ N, N = prLen a b up := ⟨_, rfl⟩
  rw [← hN] at HPL PX PE HY
  clear hN hda hdb u1 u2 u3 u4 u5 u6 v1 v2 v3 v4 v5 v6
  obtain ⟨fr, hfr⟩ : ∃ v, v = prFrom a b up := ⟨_, rfl⟩
  obtain ⟨to_, hto⟩ : ∃ v, v = prTo a b up := ⟨_, rfl⟩
  obtain ⟨ac, hac⟩ : ∃ v, v = prAcross a b up := ⟨_, rfl⟩
  have F1 := Lib.hid (fun W' (h' : PrsIn pf pt pa ps pc p5 p6 cf ha a hb b up W') => show W'.heap[pf]? = some (.cells #[.int .i64 fr] 3 (0, 0)) from by rw [hfr]; exact h'.f)
  have F2 := Lib.hid (fun W' (h' : PrsIn pf pt pa ps pc p5 p6 cf ha a hb b up W') => show W'.heap[pt]? = some (.cells #[.int .i64 to_] 3 (0, 0)) from by rw [hto]; exact h'.t)
  have F3 := Lib.hid (fun W' (h' : PrsIn pf pt pa ps pc p5 p6 cf ha a hb b up W') => show W'.heap[pa]? = some (.cells #[.bool ac] 4 (0, 0)) from by rw [hac]; exact h'.x)
  rw [← hfr] at hfb HPL PS
  rw [← hto] at htb HPL
  rw [← hac] at HPL
  clear hfr hto hac
  obtain ⟨PR, hPR⟩ : ∃ PR, PR = prs cf a b up := ⟨_, rfl⟩
  rw [← hPR] at PX PE ⊢
  clear hPR
  obtain ⟨PT, hPT⟩ : ∃ PT : Nat → List Dr, PT = prsTo cf a b up := ⟨_, rfl⟩
  rw [← hPT] at PS PL PX PE P0
  clear hPT
  obtain ⟨LN, hLN⟩ : ∃ LN : Flr → Flr → Bool, LN = lnk cf := ⟨_, rfl⟩
  have hLNx : ∀ f g, lnk cf f g = LN f g := fun f g => by rw [hLN]
  simp only [hLNx] at LK OY ON
  clear hLN hLNx
  obtain ⟨PO, hPO⟩ : ∃ PO : Int → List Dr, PO = prOne cf a b up := ⟨_, rfl⟩
  have hPOx : ∀ n, prOne cf a b up n = PO n := fun n => by rw [hPO]
  simp only [hPOx] at PS OY ON
  clear hPO hPOx
  refine callsIn_of_wp Tryz.func93 rfl trivial ?_ rfl
  simp only [Tryz.ntmps93, List.size_toArray, List.length_cons, List.length_nil, Nat.reduceAdd, Nat.reduceSub, Array.replicate_succ, Array.replicate_zero, List.push_toArray, List.append_toArray, List.nil_append, List.cons_append]
  have q1 := hcell (k := 0) (v := .int .i64 fr) (F1.out _ he') rfl
  gi_wp2
  clear q1
  gi_loopw [7] (fun s7 wr => ∃ (k : Nat) (n : Int) (pre : List Dr), s7 = .int .i64 n ∧ Hid (n = fr + (k : Int)) ∧ k ≤ N ∧ PrsIn pf pt pa ps pc p5 p6 cf ha a hb b up wr ∧ pre = PT k ∧ J pre wr) (fun s7 _ => (to_ + 1 - intOf s7).toNat)
  case atStart => exact ⟨0, fr, [], rfl, by show _ = _; simp, Nat.zero_le _, he', P0.out.symm, h0'⟩
  case round =>
    clear he' h0'
    obtain ⟨k, n, pre, rfl, Hn, hk, he2, hpre, hJs⟩ := hrel
    have Hpre := Lib.hid hpre; clear hpre
    have q2 := hcell (k := 0) (v := .int .i64 to_) (F2.out _ he2) rfl
    have q3 := hcell (k := 0) (v := .bool ac) (F3.out _ he2) rfl
    by_cases hlt : k < N
    · have hac : ac = true := by
        cases ac with
        | true => rfl
        | false => have := HPL.out; simp at this; omega
      subst hac
      have hNe : N = (to_ + 1 - fr).toNat := by have := HPL.out; simpa using this
      have hnto : n ≤ to_ := by have := Hn.out; omega
      have hnb : -100000 ≤ n ∧ n ≤ 100000 := by have := Hn.out; omega
      have hn1 : IntKind.i64.wrap (n + 1) = n + 1 := by rw [IntKind.wrap_i64]; omega
      have hkl : pre.length ≤ k := by rw [Hpre.out]; exact PL.out k
      have hq4 := he2.s
      have PSk := Lib.hid (PS.out k)
      have OYn := Lib.hid (OY.out n)
      have ONn := Lib.hid (ON.out n)
      rw [← Hn.out] at PSk
      have hmeas : (to_ + 1 - (n + 1)).toNat < (to_ + 1 - n).toNat := by omega
      cases up with
      | false =>
        have SD := Lib.hid (fun W' (h' : PrsIn pf pt pa ps pc p5 p6 cf ha a hb b false W') => side1_any ha a hb b p5 p6 n W' h'.ra h'.rb h'.sa h'.sb hnb)
        obtain ⟨f, hf⟩ : ∃ f, f = prF a false n := ⟨_, rfl⟩
        obtain ⟨g, hg⟩ : ∃ g, g = prG b false n := ⟨_, rfl⟩
        obtain ⟨d, hd⟩ : ∃ d, d = prD b false n := ⟨_, rfl⟩
        rw [← hf, ← hg, ← hd] at SD
        rw [← hf, ← hg] at OYn ONn
        rw [← hd] at OYn
        clear hf hg hd
        have q4 : wr.cell? ⟨ps, 0, none⟩ = some (.func (.func 91) #[] #[.pointer (some ⟨p5, 0, none⟩), .pointer (some ⟨p6, 0, none⟩)]) := hcell (k := 0) hq4 rfl
        clear hq4
        dsimp only [flrV, drV] at SD
        gi_wp2_with fail
        refine ⟨trivial, ?_⟩
        gi_at_call 91
        refine (callsIn_wide.2 (SD.out _ he2)).mono ?_
        rintro e w5 ⟨rfl, hb5⟩
        have he5 := he2.below hb5
        have hJ5 : J pre w5 := AbidesFrom.below HJ.out hJs hb5
        clear q2 q3 q4 SD he2 hJs hb5
        have hF8 := halloc (halloc (World.alloc_heap_new w5 (.cells #[.int .i64 f.y, .int .i64 f.top, .int .i64 f.area] 84 (0, 0))) (.cells #[.int .i64 g.y, .int .i64 g.top, .int .i64 g.area] 84 (0, 0))) (.cells #[.int .i64 d.a, .int .i64 d.b, .int .i64 d.x0, .int .i64 d.z0, .int .i64 d.x1, .int .i64 d.z1] 110 (0, 0))
        have hG8 := halloc (World.alloc_heap_new (w5.alloc (.cells #[.int .i64 f.y, .int .i64 f.top, .int .i64 f.area] 84 (0, 0))) (.cells #[.int .i64 g.y, .int .i64 g.top, .int .i64 g.area] 84 (0, 0))) (.cells #[.int .i64 d.a, .int .i64 d.b, .int .i64 d.x0, .int .i64 d.z0, .int .i64 d.x1, .int .i64 d.z1] 110 (0, 0))
        have hD8 := World.alloc_heap_new ((w5.alloc (.cells #[.int .i64 f.y, .int .i64 f.top, .int .i64 f.area] 84 (0, 0))).alloc (.cells #[.int .i64 g.y, .int .i64 g.top, .int .i64 g.area] 84 (0, 0))) (.cells #[.int .i64 d.a, .int .i64 d.b, .int .i64 d.x0, .int .i64 d.z0, .int .i64 d.x1, .int .i64 d.z1] 110 (0, 0))
        have hb8 : Below w5.heap.size w5 (((w5.alloc (.cells #[.int .i64 f.y, .int .i64 f.top, .int .i64 f.area] 84 (0, 0))).alloc (.cells #[.int .i64 g.y, .int .i64 g.top, .int .i64 g.area] 84 (0, 0))).alloc (.cells #[.int .i64 d.a, .int .i64 d.b, .int .i64 d.x0, .int .i64 d.z0, .int .i64 d.x1, .int .i64 d.z1] 110 (0, 0))) := (((Below.refl _ _).alloc (Nat.le_refl _) _).alloc (by simp) _).alloc (by simp; omega) _
        simp only [World.size_alloc] at hG8 hD8
        have he8 := he5.below hb8
        have hJ8 : J pre (((w5.alloc (.cells #[.int .i64 f.y, .int .i64 f.top, .int .i64 f.area] 84 (0, 0))).alloc (.cells #[.int .i64 g.y, .int .i64 g.top, .int .i64 g.area] 84 (0, 0))).alloc (.cells #[.int .i64 d.a, .int .i64 d.b, .int .i64 d.x0, .int .i64 d.z0, .int .i64 d.x1, .int .i64 d.z1] 110 (0, 0))) := AbidesFrom.below HJ.out hJ5 hb8
        have hC8 := he8.c
        obtain ⟨fy, ft, fa⟩ := f
        obtain ⟨gy, gt, ga⟩ := g
        obtain ⟨da, db, dx0, dz0, dx1, dz1⟩ := d
        obtain ⟨cl, climb, height, rise, run, cw, cd⟩ := cf
        dsimp only [cfO, cfgV, flrV, drV] at hF8 hG8 hD8 hC8 he8 hJ8 LK hb8 ⊢
        have c0 := hcell (k := 0) (v := .int .i64 cl) hC8 rfl
        have c1 := hcell (k := 1) (v := .int .i64 climb) hC8 rfl
        have c2 := hcell (k := 2) (v := .int .i64 height) hC8 rfl
        have c3 := hcell (k := 3) (v := .int .i64 rise) hC8 rfl
        have c4 := hcell (k := 4) (v := .int .i64 run) hC8 rfl
        have c5 := hcell (k := 5) (v := .int .i64 cw) hC8 rfl
        have c6 := hcell (k := 6) (v := .int .i64 cd) hC8 rfl
        have f0 := hcell (k := 0) (v := .int .i64 fy) hF8 rfl
        have f1 := hcell (k := 1) (v := .int .i64 ft) hF8 rfl
        have f2 := hcell (k := 2) (v := .int .i64 fa) hF8 rfl
        have g0 := hcell (k := 0) (v := .int .i64 gy) hG8 rfl
        have g1 := hcell (k := 1) (v := .int .i64 gt) hG8 rfl
        have g2 := hcell (k := 2) (v := .int .i64 ga) hG8 rfl
        have LK2 := Lib.hid (LK.out ⟨fy, ft, fa⟩ ⟨gy, gt, ga⟩)
        dsimp only at LK2
        generalize LN ⟨fy, ft, fa⟩ ⟨gy, gt, ga⟩ = bb at LK2 OYn ONn
        clear LK
        gi_wp2_with fail
        refine ⟨trivial, ?_⟩
        gi_at_call 58
        refine (callsIn_wide.2 (LK2.out _)).mono ?_
        rintro e w9 ⟨rfl, hb9⟩
        have he9 := he8.below hb9
        have hJ9 : J pre w9 := AbidesFrom.below HJ.out hJ8 hb9
        have hD9 := hkeep hb9 hD8
        have hP9 : w5.heap.size ≤ w9.heap.size := Nat.le_trans hb8.size hb9.size
        clear c0 c1 c2 c3 c4 c5 c6 f0 f1 f2 g0 g1 g2 hF8 hG8 hD8 hC8 he8 hJ8 hb8 hb9 he5 hJ5 LK2
        cases bb with
        | false =>
          have HNo := Lib.hid (ONn.out (by first | rfl | trivial))
          clear ONn OYn
          gi_wp2
          refine ⟨fun _ h => (by cases h), ?_⟩
          gi_wp2
          go_roundw
          case rel => exact ⟨k + 1, n + 1, pre, rfl, by show _ = _; have := Hn.out; push_cast; omega, by omega, he9, by rw [PSk.out, HNo.out, List.append_nil]; exact Hpre.out, hJ9⟩
          case measure => simp [intOf]; omega
        | true =>
          have HYs := Lib.hid (OYn.out (by first | rfl | trivial))
          clear ONn OYn
          have d0 := hcell (k := 0) (v := .int .i64 da) hD9 rfl
          have d1 := hcell (k := 1) (v := .int .i64 db) hD9 rfl
          have d2 := hcell (k := 2) (v := .int .i64 dx0) hD9 rfl
          have d3 := hcell (k := 3) (v := .int .i64 dz0) hD9 rfl
          have d4 := hcell (k := 4) (v := .int .i64 dx1) hD9 rfl
          have d5 := hcell (k := 5) (v := .int .i64 dz1) hD9 rfl
          obtain ⟨fn, tmps, assign, body, hy, hR⟩ := HY.out pre ⟨da, db, dx0, dz0, dx1, dz1⟩ w9 hJ9 (by omega)
          dsimp only [drV] at hy
          have HR := Lib.hid hR
          clear hR
          gi_wp2
          refine HR.out.mono ?_
          rintro e W3 (⟨rfl, hJ3, hk3⟩ | ⟨rfl, hJx3⟩)
          · clear hJ9 hy HR d0 d1 d2 d3 d4 d5 hD9
            gi_wp2
            go_roundw
            case rel => exact ⟨k + 1, n + 1, pre ++ [⟨da, db, dx0, dz0, dx1, dz1⟩], rfl, by show _ = _; have := Hn.out; push_cast; omega, by omega, he9.keep hk3 HLo.out, by rw [PSk.out, HYs.out, Hpre.out], hJ3⟩
            case measure => simp [intOf]; omega
          · clear hJ9 hy HR d0 d1 d2 d3 d4 d5 hD9
            gi_wp2
            refine bodyPost_ret (results_none rfl _ _ _) rfl ?_
            refine ⟨⟨_, rfl⟩, .inr ⟨_, ?_, hJx3⟩⟩
            rw [Hpre.out, ← HYs.out, ← PSk.out]
            exact PX.out _ (by omega)
      | true =>
        have SD := Lib.hid (fun W' (h' : PrsIn pf pt pa ps pc p5 p6 cf ha a hb b true W') => side2_any ha a hb b p5 p6 n W' h'.ra h'.rb h'.sa h'.sb hnb)
        obtain ⟨f, hf⟩ : ∃ f, f = prF a true n := ⟨_, rfl⟩
        obtain ⟨g, hg⟩ : ∃ g, g = prG b true n := ⟨_, rfl⟩
        obtain ⟨d, hd⟩ : ∃ d, d = prD b true n := ⟨_, rfl⟩
        rw [← hf, ← hg, ← hd] at SD
        rw [← hf, ← hg] at OYn ONn
        rw [← hd] at OYn
        clear hf hg hd
        have q4 : wr.cell? ⟨ps, 0, none⟩ = some (.func (.func 92) #[] #[.pointer (some ⟨p5, 0, none⟩), .pointer (some ⟨p6, 0, none⟩)]) := hcell (k := 0) hq4 rfl
        clear hq4
        dsimp only [flrV, drV] at SD
        gi_wp2_with fail
        refine ⟨trivial, ?_⟩
        gi_at_call 92
        refine (callsIn_wide.2 (SD.out _ he2)).mono ?_
        rintro e w5 ⟨rfl, hb5⟩
        have he5 := he2.below hb5
        have hJ5 : J pre w5 := AbidesFrom.below HJ.out hJs hb5
        clear q2 q3 q4 SD he2 hJs hb5
        have hF8 := halloc (halloc (World.alloc_heap_new w5 (.cells #[.int .i64 f.y, .int .i64 f.top, .int .i64 f.area] 84 (0, 0))) (.cells #[.int .i64 g.y, .int .i64 g.top, .int .i64 g.area] 84 (0, 0))) (.cells #[.int .i64 d.a, .int .i64 d.b, .int .i64 d.x0, .int .i64 d.z0, .int .i64 d.x1, .int .i64 d.z1] 110 (0, 0))
        have hG8 := halloc (World.alloc_heap_new (w5.alloc (.cells #[.int .i64 f.y, .int .i64 f.top, .int .i64 f.area] 84 (0, 0))) (.cells #[.int .i64 g.y, .int .i64 g.top, .int .i64 g.area] 84 (0, 0))) (.cells #[.int .i64 d.a, .int .i64 d.b, .int .i64 d.x0, .int .i64 d.z0, .int .i64 d.x1, .int .i64 d.z1] 110 (0, 0))
        have hD8 := World.alloc_heap_new ((w5.alloc (.cells #[.int .i64 f.y, .int .i64 f.top, .int .i64 f.area] 84 (0, 0))).alloc (.cells #[.int .i64 g.y, .int .i64 g.top, .int .i64 g.area] 84 (0, 0))) (.cells #[.int .i64 d.a, .int .i64 d.b, .int .i64 d.x0, .int .i64 d.z0, .int .i64 d.x1, .int .i64 d.z1] 110 (0, 0))
        have hb8 : Below w5.heap.size w5 (((w5.alloc (.cells #[.int .i64 f.y, .int .i64 f.top, .int .i64 f.area] 84 (0, 0))).alloc (.cells #[.int .i64 g.y, .int .i64 g.top, .int .i64 g.area] 84 (0, 0))).alloc (.cells #[.int .i64 d.a, .int .i64 d.b, .int .i64 d.x0, .int .i64 d.z0, .int .i64 d.x1, .int .i64 d.z1] 110 (0, 0))) := (((Below.refl _ _).alloc (Nat.le_refl _) _).alloc (by simp) _).alloc (by simp; omega) _
        simp only [World.size_alloc] at hG8 hD8
        have he8 := he5.below hb8
        have hJ8 : J pre (((w5.alloc (.cells #[.int .i64 f.y, .int .i64 f.top, .int .i64 f.area] 84 (0, 0))).alloc (.cells #[.int .i64 g.y, .int .i64 g.top, .int .i64 g.area] 84 (0, 0))).alloc (.cells #[.int .i64 d.a, .int .i64 d.b, .int .i64 d.x0, .int .i64 d.z0, .int .i64 d.x1, .int .i64 d.z1] 110 (0, 0))) := AbidesFrom.below HJ.out hJ5 hb8
        have hC8 := he8.c
        obtain ⟨fy, ft, fa⟩ := f
        obtain ⟨gy, gt, ga⟩ := g
        obtain ⟨da, db, dx0, dz0, dx1, dz1⟩ := d
        obtain ⟨cl, climb, height, rise, run, cw, cd⟩ := cf
        dsimp only [cfO, cfgV, flrV, drV] at hF8 hG8 hD8 hC8 he8 hJ8 LK hb8 ⊢
        have c0 := hcell (k := 0) (v := .int .i64 cl) hC8 rfl
        have c1 := hcell (k := 1) (v := .int .i64 climb) hC8 rfl
        have c2 := hcell (k := 2) (v := .int .i64 height) hC8 rfl
        have c3 := hcell (k := 3) (v := .int .i64 rise) hC8 rfl
        have c4 := hcell (k := 4) (v := .int .i64 run) hC8 rfl
        have c5 := hcell (k := 5) (v := .int .i64 cw) hC8 rfl
        have c6 := hcell (k := 6) (v := .int .i64 cd) hC8 rfl
        have f0 := hcell (k := 0) (v := .int .i64 fy) hF8 rfl
        have f1 := hcell (k := 1) (v := .int .i64 ft) hF8 rfl
        have f2 := hcell (k := 2) (v := .int .i64 fa) hF8 rfl
        have g0 := hcell (k := 0) (v := .int .i64 gy) hG8 rfl
        have g1 := hcell (k := 1) (v := .int .i64 gt) hG8 rfl
        have g2 := hcell (k := 2) (v := .int .i64 ga) hG8 rfl
        have LK2 := Lib.hid (LK.out ⟨fy, ft, fa⟩ ⟨gy, gt, ga⟩)
        dsimp only at LK2
        generalize LN ⟨fy, ft, fa⟩ ⟨gy, gt, ga⟩ = bb at LK2 OYn ONn
        clear LK
        gi_wp2_with fail
        refine ⟨trivial, ?_⟩
        gi_at_call 58
        refine (callsIn_wide.2 (LK2.out _)).mono ?_
        rintro e w9 ⟨rfl, hb9⟩
        have he9 := he8.below hb9
        have hJ9 : J pre w9 := AbidesFrom.below HJ.out hJ8 hb9
        have hD9 := hkeep hb9 hD8
        have hP9 : w5.heap.size ≤ w9.heap.size := Nat.le_trans hb8.size hb9.size
        clear c0 c1 c2 c3 c4 c5 c6 f0 f1 f2 g0 g1 g2 hF8 hG8 hD8 hC8 he8 hJ8 hb8 hb9 he5 hJ5 LK2
        cases bb with
        | false =>
          have HNo := Lib.hid (ONn.out (by first | rfl | trivial))
          clear ONn OYn
          gi_wp2
          refine ⟨fun _ h => (by cases h), ?_⟩
          gi_wp2
          go_roundw
          case rel => exact ⟨k + 1, n + 1, pre, rfl, by show _ = _; have := Hn.out; push_cast; omega, by omega, he9, by rw [PSk.out, HNo.out, List.append_nil]; exact Hpre.out, hJ9⟩
          case measure => simp [intOf]; omega
        | true =>
          have HYs := Lib.hid (OYn.out (by first | rfl | trivial))
          clear ONn OYn
          have d0 := hcell (k := 0) (v := .int .i64 da) hD9 rfl
          have d1 := hcell (k := 1) (v := .int .i64 db) hD9 rfl
          have d2 := hcell (k := 2) (v := .int .i64 dx0) hD9 rfl
          have d3 := hcell (k := 3) (v := .int .i64 dz0) hD9 rfl
          have d4 := hcell (k := 4) (v := .int .i64 dx1) hD9 rfl
          have d5 := hcell (k := 5) (v := .int .i64 dz1) hD9 rfl
          obtain ⟨fn, tmps, assign, body, hy, hR⟩ := HY.out pre ⟨da, db, dx0, dz0, dx1, dz1⟩ w9 hJ9 (by omega)
          dsimp only [drV] at hy
          have HR := Lib.hid hR
          clear hR
          gi_wp2
          refine HR.out.mono ?_
          rintro e W3 (⟨rfl, hJ3, hk3⟩ | ⟨rfl, hJx3⟩)
          · clear hJ9 hy HR d0 d1 d2 d3 d4 d5 hD9
            gi_wp2
            go_roundw
            case rel => exact ⟨k + 1, n + 1, pre ++ [⟨da, db, dx0, dz0, dx1, dz1⟩], rfl, by show _ = _; have := Hn.out; push_cast; omega, by omega, he9.keep hk3 HLo.out, by rw [PSk.out, HYs.out, Hpre.out], hJ3⟩
            case measure => simp [intOf]; omega
          · clear hJ9 hy HR d0 d1 d2 d3 d4 d5 hD9
            gi_wp2
            refine bodyPost_ret (results_none rfl _ _ _) rfl ?_
            refine ⟨⟨_, rfl⟩, .inr ⟨_, ?_, hJx3⟩⟩
            rw [Hpre.out, ← HYs.out, ← PSk.out]
            exact PX.out _ (by omega)
    · -- it ends
      have hex : ¬ n ≤ to_ ∨ ac = false := by
        have := HPL.out
        have := Hn.out
        cases ac with
        | false => exact .inr rfl
        | true => left; simp at *; omega
      have hkN : k = N := by omega
      have HEnd : Hid (pre = PR) := by show _ = _; rw [Hpre.out, PE.out, hkN]
      clear hkN
      by_cases hnt : n ≤ to_
      · have hac : ac = false := by rcases hex with h | h; exact absurd hnt h; exact h
        subst hac
        clear hex
        gi_wp2
        go_end0
        first | exact ⟨⟨_, rfl⟩, .inl ⟨pre, HEnd.out, hJs⟩⟩ | exact ⟨⟨_, rfl⟩, .inl (by rw [← HEnd.out]; exact hJs)⟩
      · clear hex
        gi_wp2
        go_end0
        first | exact ⟨⟨_, rfl⟩, .inl ⟨pre, HEnd.out, hJs⟩⟩ | exact ⟨⟨_, rfl⟩, .inl (by rw [← HEnd.out]; exact hJs)⟩
end Go.Proofs.YtmgkkmcihplojaaGreat
