/- Walks: the doors between two tiles: seams.Pair. -/
import Derived.Test.YtgfmdgiepomkiaaSmA
import Derived.Test.YtgfmdgiepomkiaaKo
import Derived.Test.YtgfmdgiepomkiaaBtw
import Derived.Test.YtgfmdgiepomkiaaDrH
namespace Go.Proofs.Ytgfmdgiepomkiaa
open Go.RowKit Go.Sort
attribute [local go_sem] Instr.index

theorem cas14 {P : (i : Nat) → i < 14 → Prop} (h0 : P 0 (by decide)) (h1 : P 1 (by decide)) (h2 : P 2 (by decide)) (h3 : P 3 (by decide)) (h4 : P 4 (by decide)) (h5 : P 5 (by decide)) (h6 : P 6 (by decide)) (h7 : P 7 (by decide)) (h8 : P 8 (by decide)) (h9 : P 9 (by decide)) (h10 : P 10 (by decide)) (h11 : P 11 (by decide)) (h12 : P 12 (by decide)) (h13 : P 13 (by decide)) (i : Nat) (h : i < 14) : P i h := by
  by_cases e : i < 7
  · rcases (by omega : i = 0 ∨ i = 1 ∨ i = 2 ∨ i = 3 ∨ i = 4 ∨ i = 5 ∨ i = 6) with rfl | rfl | rfl | rfl | rfl | rfl | rfl <;> assumption
  · rcases (by omega : i = 7 ∨ i = 8 ∨ i = 9 ∨ i = 10 ∨ i = 11 ∨ i = 12 ∨ i = 13) with rfl | rfl | rfl | rfl | rfl | rfl | rfl <;> assumption
theorem setCell_idP {w : World} {b i : Nat} {cs : Array Value} {t : TypeId} {fr : Nat × Nat} {v : Value} (h : w.heap[b]? = some (.cells cs t fr)) (hv : cs[i]? = some v) : w.setCell ⟨b, i, none⟩ v = w := by
  obtain ⟨hb, hbe⟩ := Array.getElem?_eq_some_iff.1 h
  obtain ⟨hi, hve⟩ := Array.getElem?_eq_some_iff.1 hv
  have e : w.heap.modify b (fun o => match o with | .cells c elem frozen => .cells (if (none : Option Nat).isSome then c else c.setIfInBounds i v) elem frozen | o => o) = w.heap := by
    apply Array.ext
    · simp
    · intro k h1 h2
      rw [Array.getElem_modify]
      split
      · rename_i hk
        subst hk
        rw [hbe]
        subst hve
        simp [Array.setIfInBounds, hi]
      · rfl
  unfold World.setCell
  exact congrArg (fun H => { w with heap := H }) e
abbrev tlO (t : Tl) : Obj := .cells #[.int .i64 t.x, .int .i64 t.z, .slice t.ra t.rn t.rc, .slice t.da t.dn t.dc] 27 (0, 0)
/-- While a pair's doors are gathered: C holds the config, A and B the tiles, O the row; what is one's own lies from L on. -/
structure PairR (w0 : World) (cf : Cfg) (t u : Tl) (C A B O L : Nat) (va : Option Addr) (m vc : Nat) (ds : List Dr) (W : World) : Prop where
  bel : Below w0.heap.size w0 W
  c : W.heap[C]? = some (cfO cf)
  a : W.heap[A]? = some (tlO t)
  b : W.heap[B]? = some (tlO u)
  o : W.heap[O]? = some (.cells #[.slice va m vc] 25 (0, 0))
  own : OwnR drC 6 96 L W (.slice va m vc) m ds
  cL : C < L
  aL : A < L
  bL : B < L
  oL : O < L
  cO : C ≠ O
  aO : A ≠ O
  bO : B ≠ O
  wO : w0.heap.size ≤ O
  lw : L ≤ W.heap.size
theorem PairR.below {w0 : World} {cf : Cfg} {t u : Tl} {C A B O L : Nat} {va : Option Addr} {m vc : Nat} {ds : List Dr} {W W' : World} (h : PairR w0 cf t u C A B O L va m vc ds W) (hb : Below W.heap.size W W') : PairR w0 cf t u C A B O L va m vc ds W' :=
  ⟨h.bel.trans (hb.mono h.bel.size), hkeep hb h.c, hkeep hb h.a, hkeep hb h.b, hkeep hb h.o, h.own.below hb (Nat.le_refl _), h.cL, h.aL, h.bL, h.oL, h.cO, h.aO, h.bO, h.wO, Nat.le_trans h.lw hb.size⟩
theorem PairR.app {w0 : World} {cf : Cfg} {t u : Tl} {C A B O L : Nat} {va va' : Option Addr} {m vc m' vc' : Nat} {ds ds' : List Dr} {W W' : World} (h : PairR w0 cf t u C A B O L va m vc ds W)
    (ho : OwnR drC 6 96 L W' (.slice va' m' vc') m' ds') (hp : Appd W W' (.slice va m vc) (.slice va' m' vc')) : PairR w0 cf t u C A B O L va' m' vc' ds' (W'.setCell ⟨O, 0, none⟩ (.slice va' m' vc')) := by
  have hg := hp.grown
  have hne : ∀ i, i < L → (Value.slice va m vc).ownBlock ≠ some i := fun i hi e => by have := h.own.le _ e; omega
  have hs := grown_set W' O 0 (.slice va' m' vc')
  have hO := hgrown hg h.o (hne O h.oL)
  have hb1 := h.bel.trans (hp.below (B := w0.heap.size) h.bel.size (fun i hi => by have := h.own.le i hi; have := h.wO; have := h.oL; omega))
  refine ⟨?_, hgrown hs (hgrown hg h.c (hne C h.cL)) (fun e => h.cO (Option.some.inj e).symm), hgrown hs (hgrown hg h.a (hne A h.aL)) (fun e => h.aO (Option.some.inj e).symm), hgrown hs (hgrown hg h.b (hne B h.bL)) (fun e => h.bO (Option.some.inj e).symm),
    heap_setCell_same W' O 0 _ _ (.slice va' m' vc') hO, ho.kept hs (.inr fun e => by have := ho.le O e; have := h.oL; omega), h.cL, h.aL, h.bL, h.oL, h.cO, h.aO, h.bO, h.wO, Nat.le_trans h.lw (Nat.le_trans hg.size hs.size)⟩
  exact ⟨hs.os.trans hb1.os, hs.tape.trans hb1.tape, hs.output.trans hb1.output, Nat.le_trans hb1.size hs.size, fun i hi => (hs.block i (Nat.lt_of_lt_of_le hi hb1.size) (fun e => by cases e; have := h.wO; omega)).trans (hb1.block i hi)⟩
def GaPost (w0 : World) (cf : Cfg) (tA tB : Tl) (C A B O L N : Nat) (e : Ending) (w' : World) : Prop := e = .returned (.tuple #[]) ∧ ∃ va m vc ds, PairR w0 cf tA tB C A B O L va m vc ds w' ∧ m ≤ N
set_option maxRecDepth 100000 in
set_option maxHeartbeats 16000000 in
theorem gather_any (w0 : World) (cf : Cfg) (tA tB : Tl) (C A B O L : Nat) (va : Option Addr) (m vc : Nat) (ds : List Dr) (i k : Nat) (w : World) (hP : PairR w0 cf tA tB C A B O L va m vc ds w) (hi : i < tA.rn) (hk : k < tB.rn) (hm : m ≤ 1000000000)
    (HX : ∀ W, Below w0.heap.size w0 W → SlRc W tA.ra tA.rn tA.rc tA.rs) (HY : ∀ W, Below w0.heap.size w0 W → SlRc W tB.ra tB.rn tB.rc tB.rs) :
    Calls Try.prog 132 #[.int .i64 i, .int .i64 k, .pointer (some ⟨C, 0, none⟩), .pointer (some ⟨A, 0, none⟩), .pointer (some ⟨B, 0, none⟩), .pointer (some ⟨O, 0, none⟩)] w (GaPost w0 cf tA tB C A B O L (m + 128)) := by
  have hX0 := HX w hP.bel
  have hY0 := HY w hP.bel
  obtain ⟨⟨h, r⟩, hxi⟩ : ∃ x, tA.rs[i]? = some x := ⟨_, List.getElem?_eq_getElem (by rw [hX0.sl.len]; exact hi)⟩
  obtain ⟨⟨g, s⟩, hyk⟩ : ∃ x, tB.rs[k]? = some x := ⟨_, List.getElem?_eq_getElem (by rw [hY0.sl.len]; exact hk)⟩
  have HTA := Lib.hid hP.a
  have HTB := Lib.hid hP.b
  have HCC := Lib.hid hP.c
  obtain ⟨X, xo, hra, _, _⟩ := hX0.sl.at0 (by omega)
  obtain ⟨Y, yo, hua, _, _⟩ := hY0.sl.at0 (by omega)
  have hrn : tA.rn ≤ 9223372036854775807 := Nat.le_trans hX0.sl.le hX0.sl.max
  have hqn : tB.rn ≤ 9223372036854775807 := Nat.le_trans hY0.sl.le hY0.sl.max
  have hiI : (i : Int) < (tA.rn : Int) := by omega
  have hkI : (k : Int) < (tB.rn : Int) := by omega
  rw [hra] at hX0
  rw [hua] at hY0
  have CB := Lib.hid (fun W (hW : Below w.heap.size w W) => betw_any cf h r g s W ((hX0.one hxi).below hW (Nat.le_refl _)) ((hY0.one hyk).below hW (Nat.le_refl _)))
  unfold BtwPost at CB
  have hDl := betw_len cf r s
  obtain ⟨D, hD⟩ : ∃ D, D = betw cf r s := ⟨_, rfl⟩
  rw [← hD] at CB hDl
  clear hD
  have HXi := Lib.hid (fun W (hW : Below w.heap.size w W) => (hX0.below hW (Nat.le_refl _)).at hxi)
  have HYk := Lib.hid (fun W (hW : Below w.heap.size w W) => (hY0.below hW (Nat.le_refl _)).at hyk)
  have HP := Lib.hid hP
  clear hX0 hY0 hxi hyk HX HY hP
  dsimp only [cfgV, tlO, cfO] at CB HTA HTB HCC
  rw [hra] at HTA
  rw [hua] at HTB
  clear hra hua
  go_enter Try.func132, Try.ntmps132
  go_upto_region 0 with fail
  refine wp_region_det ([none, none, none, none, none, none, none, none, none, none, some 0, some 1, some 2, some 3, some 4, some 5, some 6, some 7, some 8, some 9, some 10, some 11, some 12, some 13, none, none, none, none, none, none, none, none, none, none, none, none]) [fun v _ => v = .agg #[.int .i64 cf.clear, .int .i64 cf.climb, .int .i64 cf.height, .int .i64 cf.rise, .int .i64 cf.run, .int .i64 cf.w, .int .i64 cf.d],
        fun v _ => v = .pointer (some ⟨A, 2, none⟩),
        fun v _ => v = .slice (some ⟨X, xo, none⟩) tA.rn tA.rc,
        fun v _ => v = .int .i64 (i : Nat),
        fun v _ => v = .pointer (some ⟨X, xo + i * 7, none⟩),
        fun v _ => v = .agg #[.int .i64 r.x0, .int .i64 r.z0, .int .i64 r.x1, .int .i64 r.z1, .int .i64 r.area, .slice h.ya r.ys.length h.yc, .slice h.ta r.ts.length h.tc],
        fun v _ => v = .pointer (some ⟨B, 2, none⟩),
        fun v _ => v = .slice (some ⟨Y, yo, none⟩) tB.rn tB.rc,
        fun v _ => v = .int .i64 (k : Nat),
        fun v _ => v = .pointer (some ⟨Y, yo + k * 7, none⟩),
        fun v _ => v = .agg #[.int .i64 s.x0, .int .i64 s.z0, .int .i64 s.x1, .int .i64 s.z1, .int .i64 s.area, .slice g.ya s.ys.length g.yc, .slice g.ta s.ts.length g.tc],
        fun v W => ∃ qa qc, v = .slice qa D.length qc ∧ SlR drC 6 W qa D.length qc D ∧ (∀ ad, qa = some ad → w.heap.size ≤ ad.block),
        fun v _ => v = .int .i64 (D.length : Nat),
        fun v _ => v = .int .i64 0] (by kernel_rfl) (by kernel_rfl) (by kernel_rfl) (by kernel_rfl) ?_ ?_ ?_
  · refine List.forall_mem_cons.2 ⟨fun _ _ _ h _ => h, List.forall_mem_cons.2 ⟨fun _ _ _ h _ => h, List.forall_mem_cons.2 ⟨fun _ _ _ h _ => h, List.forall_mem_cons.2 ⟨fun _ _ _ h _ => h, List.forall_mem_cons.2 ⟨fun _ _ _ h _ => h, List.forall_mem_cons.2 ⟨fun _ _ _ h _ => h, List.forall_mem_cons.2 ⟨fun _ _ _ h _ => h, List.forall_mem_cons.2 ⟨fun _ _ _ h _ => h, List.forall_mem_cons.2 ⟨fun _ _ _ h _ => h, List.forall_mem_cons.2 ⟨fun _ _ _ h _ => h, List.forall_mem_cons.2 ⟨fun _ _ _ h _ => h, List.forall_mem_cons.2 ⟨fun v W W2 h hb => (by obtain ⟨qa, qc, e, h1, h2⟩ := h; exact ⟨qa, qc, e, h1.below hb (Nat.le_refl _), h2⟩), List.forall_mem_cons.2 ⟨fun _ _ _ h _ => h, List.forall_mem_cons.2 ⟨fun _ _ _ h _ => h, List.forall_mem_nil _⟩⟩⟩⟩⟩⟩⟩⟩⟩⟩⟩⟩⟩⟩
  · intro Q' K t vals wi hoff hon hB i hlt
    have hlt : i < 14 := hlt
    cases i, hlt using cas14
    · intro hS hK
      have g2 : t[(2 : Nat)]? = some (.pointer (some ⟨C, 0, none⟩)) := hoff 2 _ rfl rfl
      have hC := hkeep hB HCC.out
      have c0 := hcell (k := 0) (v := .int .i64 cf.clear) hC rfl
      have c1 := hcell (k := 1) (v := .int .i64 cf.climb) hC rfl
      have c2 := hcell (k := 2) (v := .int .i64 cf.height) hC rfl
      have c3 := hcell (k := 3) (v := .int .i64 cf.rise) hC rfl
      have c4 := hcell (k := 4) (v := .int .i64 cf.run) hC rfl
      have c5 := hcell (k := 5) (v := .int .i64 cf.w) hC rfl
      have c6 := hcell (k := 6) (v := .int .i64 cf.d) hC rfl
      clear hoff hon hS
      refine wpOp_of rfl rfl ?_
      go_simp
      exact hK.out _ _ rfl (Below.refl _ _)
    · intro hS hK
      have g3 : t[(3 : Nat)]? = some (.pointer (some ⟨A, 0, none⟩)) := hoff 3 _ rfl rfl
      clear hoff hon hS
      refine wpOp_of rfl rfl ?_
      go_simp
      exact hK.out _ _ rfl (Below.refl _ _)
    · intro hS hK
      have g11 : t[(11 : Nat)]? = some (.pointer (some ⟨A, 2, none⟩)) := (hon 1 11 rfl).trans (congrArg some (hS 1 (by kernel_rfl)))
      have c0 := hcell (k := 2) (v := .slice (some ⟨X, xo, none⟩) tA.rn tA.rc) (hkeep hB HTA.out) rfl
      clear hoff hon hS
      refine wpOp_of rfl rfl ?_
      go_simp
      exact hK.out _ _ rfl (Below.refl _ _)
    · intro hS hK
      have g0 : t[(0 : Nat)]? = some (.int .i64 (i : Nat)) := hoff 0 _ rfl rfl
      clear hoff hon hS
      refine wpOp_of rfl rfl ?_
      go_simp
      exact hK.out _ _ rfl (Below.refl _ _)
    · intro hS hK
      have g12 : t[(12 : Nat)]? = some (.slice (some ⟨X, xo, none⟩) tA.rn tA.rc) := (hon 2 12 rfl).trans (congrArg some (hS 2 (by kernel_rfl)))
      have g13 : t[(13 : Nat)]? = some (.int .i64 (i : Nat)) := (hon 3 13 rfl).trans (congrArg some (hS 3 (by kernel_rfl)))
      clear hoff hon hS
      refine wpOp_of rfl rfl ?_
      go_simp
      exact hK.out _ _ rfl (Below.refl _ _)
    · intro hS hK
      have g14 : t[(14 : Nat)]? = some (.pointer (some ⟨X, xo + i * 7, none⟩)) := (hon 4 14 rfl).trans (congrArg some (hS 4 (by kernel_rfl)))
      have hat := HXi.out _ hB
      have r0 := hat 0 _ rfl
      have r1 := hat 1 _ rfl
      have r2 := hat 2 _ rfl
      have r3 := hat 3 _ rfl
      have r4 := hat 4 _ rfl
      have r5 := hat 5 _ rfl
      have r6 := hat 6 _ rfl
      simp only [Nat.add_zero] at r0
      clear hoff hon hS
      refine wpOp_of rfl rfl ?_
      go_simp
      exact hK.out _ _ rfl (Below.refl _ _)
    · intro hS hK
      have g4 : t[(4 : Nat)]? = some (.pointer (some ⟨B, 0, none⟩)) := hoff 4 _ rfl rfl
      clear hoff hon hS
      refine wpOp_of rfl rfl ?_
      go_simp
      exact hK.out _ _ rfl (Below.refl _ _)
    · intro hS hK
      have g16 : t[(16 : Nat)]? = some (.pointer (some ⟨B, 2, none⟩)) := (hon 6 16 rfl).trans (congrArg some (hS 6 (by kernel_rfl)))
      have c0 := hcell (k := 2) (v := .slice (some ⟨Y, yo, none⟩) tB.rn tB.rc) (hkeep hB HTB.out) rfl
      clear hoff hon hS
      refine wpOp_of rfl rfl ?_
      go_simp
      exact hK.out _ _ rfl (Below.refl _ _)
    · intro hS hK
      have g1 : t[(1 : Nat)]? = some (.int .i64 (k : Nat)) := hoff 1 _ rfl rfl
      clear hoff hon hS
      refine wpOp_of rfl rfl ?_
      go_simp
      exact hK.out _ _ rfl (Below.refl _ _)
    · intro hS hK
      have g17 : t[(17 : Nat)]? = some (.slice (some ⟨Y, yo, none⟩) tB.rn tB.rc) := (hon 7 17 rfl).trans (congrArg some (hS 7 (by kernel_rfl)))
      have g18 : t[(18 : Nat)]? = some (.int .i64 (k : Nat)) := (hon 8 18 rfl).trans (congrArg some (hS 8 (by kernel_rfl)))
      clear hoff hon hS
      refine wpOp_of rfl rfl ?_
      go_simp
      exact hK.out _ _ rfl (Below.refl _ _)
    · intro hS hK
      have g19 : t[(19 : Nat)]? = some (.pointer (some ⟨Y, yo + k * 7, none⟩)) := (hon 9 19 rfl).trans (congrArg some (hS 9 (by kernel_rfl)))
      have hat := HYk.out _ hB
      have r0 := hat 0 _ rfl
      have r1 := hat 1 _ rfl
      have r2 := hat 2 _ rfl
      have r3 := hat 3 _ rfl
      have r4 := hat 4 _ rfl
      have r5 := hat 5 _ rfl
      have r6 := hat 6 _ rfl
      simp only [Nat.add_zero] at r0
      clear hoff hon hS
      refine wpOp_of rfl rfl ?_
      go_simp
      exact hK.out _ _ rfl (Below.refl _ _)
    · intro hS hK
      have g10 : t[(10 : Nat)]? = some (.agg #[.int .i64 cf.clear, .int .i64 cf.climb, .int .i64 cf.height, .int .i64 cf.rise, .int .i64 cf.run, .int .i64 cf.w, .int .i64 cf.d]) := (hon 0 10 rfl).trans (congrArg some (hS 0 (by kernel_rfl)))
      have g15 : t[(15 : Nat)]? = some (.agg #[.int .i64 r.x0, .int .i64 r.z0, .int .i64 r.x1, .int .i64 r.z1, .int .i64 r.area, .slice h.ya r.ys.length h.yc, .slice h.ta r.ts.length h.tc]) := (hon 5 15 rfl).trans (congrArg some (hS 5 (by kernel_rfl)))
      have g20 : t[(20 : Nat)]? = some (.agg #[.int .i64 s.x0, .int .i64 s.z0, .int .i64 s.x1, .int .i64 s.z1, .int .i64 s.area, .slice g.ya s.ys.length g.yc, .slice g.ta s.ts.length g.tc]) := (hon 10 20 rfl).trans (congrArg some (hS 10 (by kernel_rfl)))
      clear hoff hon hS
      refine wpOp_of rfl rfl ?_
      go_simp
      go_at_call 70
      refine (CB.out _ hB).mono ?_
      rintro e wz ⟨v, rfl, hown, hbz⟩
      (try go_simp)
      exact hK.out _ _ (by obtain ⟨qa, qc, rfl, hs⟩ := OwnR.reads drC_len hown; exact ⟨qa, qc, rfl, hs, fun ad had => by subst had; have := hown.le ad.block rfl; exact Nat.le_trans hB.size this⟩) hbz
    · intro hS hK
      have g21 : t[(21 : Nat)]? = some (vals 11) := hon 11 21 rfl
      have p21 : (fun v W => ∃ qa qc, v = .slice qa D.length qc ∧ SlR drC 6 W qa D.length qc D ∧ (∀ ad, qa = some ad → w.heap.size ≤ ad.block)) (vals 11) wi := hS 11 (by kernel_rfl)
      dsimp only at p21
      obtain ⟨qa, qc, eq, _, _⟩ := p21
      rw [eq] at g21
      clear hoff hon hS
      refine wpOp_of rfl rfl ?_
      go_simp
      exact hK.out _ _ rfl (Below.refl _ _)
    · intro hS hK
      clear hoff hon hS
      refine wpOp_of rfl rfl ?_
      go_simp
      exact hK.out _ _ rfl (Below.refl _ _)
  · intro vals wi hB hS
    have e0 : vals 0 = .agg #[.int .i64 cf.clear, .int .i64 cf.climb, .int .i64 cf.height, .int .i64 cf.rise, .int .i64 cf.run, .int .i64 cf.w, .int .i64 cf.d] := hS 0 (by decide)
    have e1 : vals 1 = .pointer (some ⟨A, 2, none⟩) := hS 1 (by decide)
    have e2 : vals 2 = .slice (some ⟨X, xo, none⟩) tA.rn tA.rc := hS 2 (by decide)
    have e3 : vals 3 = .int .i64 (i : Nat) := hS 3 (by decide)
    have e4 : vals 4 = .pointer (some ⟨X, xo + i * 7, none⟩) := hS 4 (by decide)
    have e5 : vals 5 = .agg #[.int .i64 r.x0, .int .i64 r.z0, .int .i64 r.x1, .int .i64 r.z1, .int .i64 r.area, .slice h.ya r.ys.length h.yc, .slice h.ta r.ts.length h.tc] := hS 5 (by decide)
    have e6 : vals 6 = .pointer (some ⟨B, 2, none⟩) := hS 6 (by decide)
    have e7 : vals 7 = .slice (some ⟨Y, yo, none⟩) tB.rn tB.rc := hS 7 (by decide)
    have e8 : vals 8 = .int .i64 (k : Nat) := hS 8 (by decide)
    have e9 : vals 9 = .pointer (some ⟨Y, yo + k * 7, none⟩) := hS 9 (by decide)
    have e10 : vals 10 = .agg #[.int .i64 s.x0, .int .i64 s.z0, .int .i64 s.x1, .int .i64 s.z1, .int .i64 s.area, .slice g.ya s.ys.length g.yc, .slice g.ta s.ts.length g.tc] := hS 10 (by decide)
    have p11 : (fun v W => ∃ qa qc, v = .slice qa D.length qc ∧ SlR drC 6 W qa D.length qc D ∧ (∀ ad, qa = some ad → w.heap.size ≤ ad.block)) (vals 11) wi := hS 11 (by decide)
    dsimp only at p11
    have e12 : vals 12 = .int .i64 (D.length : Nat) := hS 12 (by decide)
    have e13 : vals 13 = .int .i64 0 := hS 13 (by decide)
    clear hS
    dsimp only [over]
    obtain ⟨qa, qc, e11, hD, hfar⟩ := p11
    rw [e11, e12, e13]
    clear e0 e1 e2 e3 e4 e5 e6 e7 e8 e9 e10 e11 e12 e13 CB HXi HYk HTA HTB HCC
    have hPw := HP.out.below hB
    have hOw := HP.out.oL
    have hLw := HP.out.lw
    have hvD : ∀ ad, qa = some ad → (Value.slice va m vc).ownBlock ≠ some ad.block := fun ad had e => by have := (HP.out.own.lt _ e).2; have := hfar ad had; omega
    have hqO : ∀ ad, qa = some ad → ad.block ≠ O := fun ad had e => by have := hfar ad had; omega
    clear hfar hB HP hiI hkI hrn hqn
    go_wp2_with fail
    go_loopw [23] (fun i wr => ∃ j : Nat, i = .int .i64 j ∧ j ≤ D.length ∧ (∃ ua n uc es, PairR w0 cf tA tB C A B O L ua n uc es wr ∧ n ≤ m + j ∧ (∀ ad, qa = some ad → (Value.slice ua n uc).ownBlock ≠ some ad.block)) ∧ SlR drC 6 wr qa D.length qc D) (fun i _ => D.length - (intOf i).toNat)
    case atStart => exact ⟨0, rfl, Nat.zero_le _, ⟨va, m, vc, ds, hPw, Nat.le_refl _, hvD⟩, hD⟩
    case round =>
      clear hPw hvD hD hOw hLw
      obtain ⟨j, rfl, hj, ⟨ua, n, uc, es, hP, hn, hvD⟩, hD⟩ := hrel
      by_cases hjt : j < D.length
      case neg =>
        obtain rfl : j = D.length := by omega
        have hjI : ¬ (D.length : Int) < (D.length : Int) := by omega
        have HPP := Lib.hid hP
        clear hP
        go_wp2
        refine bodyPost_ret (results_none rfl _ _ _) rfl ?_
        exact And.intro rfl ⟨ua, n, uc, es, HPP.out, by omega⟩
      have hjI : (j : Int) < (D.length : Int) := by omega
      have wi1 : IntKind.i64.wrap ((j : Int) + 1) = ((j + 1 : Nat) : Int) := by rw [IntKind.wrap_i64]; omega
      obtain ⟨d, hdj⟩ : ∃ d, D[j]? = some d := ⟨_, List.getElem?_eq_getElem hjt⟩
      obtain ⟨bd, ofd, rfl, hbd, _⟩ := hD.at0 (by omega)
      have p0 := SlR.cells hD hdj 0 _ rfl
      have p1 := SlR.cells hD hdj 1 _ rfl
      have p2 := SlR.cells hD hdj 2 _ rfl
      have p3 := SlR.cells hD hdj 3 _ rfl
      have p4 := SlR.cells hD hdj 4 _ rfl
      have p5 := SlR.cells hD hdj 5 _ rfl
      simp only [Nat.add_zero] at p0
      have hvd := hvD _ rfl
      have hqo := hqO _ rfl
      clear hdj hvD
      obtain ⟨da_, db_, dx0, dz0, dx1, dz1⟩ := d
      dsimp only at p0 p1 p2 p3 p4 p5
      go_upto_region 3 with fail
      clear p0 p1 p2 p3 p4 p5
      go_upto_region 4 with fail
      have hA5 : Below wr.heap.size wr (wr.alloc (.cells #[.int .i64 (i : Nat), .int .i64 (k : Nat), .int .i64 dx0, .int .i64 dz0, .int .i64 dx1, .int .i64 dz1] 96 (0, 0))) := (Below.refl _ _).alloc (Nat.le_refl _) _
      have hd5 := World.alloc_heap_new wr (.cells #[.int .i64 (i : Nat), .int .i64 (k : Nat), .int .i64 dx0, .int .i64 dz0, .int .i64 dx1, .int .i64 dz1] 96 (0, 0))
      have hP5 := hP.below hA5
      have hD5 := hD.below hA5 (Nat.le_refl _)
      obtain ⟨W5, hW5⟩ : ∃ W, W = wr.alloc (.cells #[.int .i64 (i : Nat), .int .i64 (k : Nat), .int .i64 dx0, .int .i64 dz0, .int .i64 dx1, .int .i64 dz1] 96 (0, 0)) := ⟨_, rfl⟩
      rw [← hW5] at hA5 hd5 hP5 hD5
      rw [← hW5]
      have hbd5 : bd < W5.heap.size := Nat.lt_of_lt_of_le hbd hA5.size
      have hlw5 := hP5.lw
      have HP5 := Lib.hid hP5
      have z0 := hcell (k := 0) (v := .slice ua n uc) hP5.o rfl
      clear hW5 hP hD hA5 hbd hP5
      have n0 := hcell (k := 0) (v := .int .i64 (i : Nat)) hd5 rfl
      have n1 := hcell (k := 1) (v := .int .i64 (k : Nat)) hd5 rfl
      have n2 := hcell (k := 2) (v := .int .i64 dx0) hd5 rfl
      have n3 := hcell (k := 3) (v := .int .i64 dz0) hd5 rfl
      have n4 := hcell (k := 4) (v := .int .i64 dx1) hd5 rfl
      have n5 := hcell (k := 5) (v := .int .i64 dz1) hd5 rfl
      clear hd5
      go_wp2_with (at_builtin; refine wpList_appR (f := drC) (sz := 6) (e := 96) (B := L) (n := n) (xs := es) _ drC_len drC_one rfl _ _ 25 rfl (.agg #[.int .i64 0, .int .i64 0, .int .i64 0, .int .i64 0, .int .i64 0, .int .i64 0]) 48 Try.underlying25 info_dr rfl (by decide) ⟨(i : Nat), (k : Nat), dx0, dz0, dx1, dz1⟩ 96 HP5.out.own rfl rfl (by omega) (by omega) hlw5 ?_; intro v' w' hown' happ; obtain ⟨xa, xc, rfl, _⟩ := OwnR.reads drC_len hown'; have hO6 := hgrown happ.grown HP5.out.o (fun e => by have := HP5.out.own.le _ e; have := HP5.out.oL; omega); have y0 := hcell (k := 0) (v := .slice ua n uc) hO6 rfl; have f0 := hfroz (k := 0) hO6; clear hO6)
      have hP6 := HP5.out.app hown' happ
      have hD6 := (hD5.grown happ.grown (fun ad had e => by cases had; exact hvd e)).grown (grown_set w' O 0 (.slice xa (n + 1) xc)) (fun ad had e => by cases had; exact hqo (Option.some.inj e).symm)
      have hv6 : ∀ ad, some (⟨bd, ofd, none⟩ : Addr) = some ad → (Value.slice xa (n + 1) xc).ownBlock ≠ some ad.block := fun ad had e => by
        cases had
        rcases happ.own with h | h
        · rw [h] at e; exact hvd e
        · have := h _ e; dsimp only at this; omega
      clear n0 n1 n2 n3 n4 n5 z0 y0 f0 hD5 happ hown' HP5 hvd hqo
      go_wp2
      go_roundw
      case rel => exact ⟨j + 1, by go_num, by omega, ⟨xa, n + 1, xc, _, hP6, by omega, hv6⟩, hD6⟩
      case measure => simp [intOf]; omega
/-- What a pair's doors are: a row of one's own, of at most N. -/
def PaPost (N : Nat) (w : World) (e : Ending) (w' : World) : Prop := (∃ va m vc ds, e = .returned (.slice va m vc) ∧ OwnR drC 6 96 w.heap.size w' (.slice va m vc) m ds ∧ m ≤ N) ∧ Below w.heap.size w w'
set_option maxRecDepth 100000 in
set_option maxHeartbeats 16000000 in
theorem smpair_any (cf : Cfg) (tA tB : Tl) (w : World) (hX : SlRc w tA.ra tA.rn tA.rc tA.rs) (hY : SlRc w tB.ra tB.rn tB.rc tB.rs) (ha : tA.rn ≤ 60) (hb : tB.rn ≤ 60) :
    Calls Try.prog 123 #[cfgV cf, .agg #[.int .i64 tA.x, .int .i64 tA.z, .slice tA.ra tA.rn tA.rc, .slice tA.da tA.dn tA.dc], .agg #[.int .i64 tB.x, .int .i64 tB.z, .slice tB.ra tB.rn tB.rc, .slice tB.da tB.dn tB.dc]] w (PaPost 460800 w) := by
  have GA := Lib.hid (fun C A B O L va m vc ds i k W hP hi hk hm => gather_any w cf tA tB C A B O L va m vc ds i k W hP hi hk hm (fun W hW => hX.below hW (Nat.le_refl _)) (fun W hW => hY.below hW (Nat.le_refl _)))
  clear hX hY
  obtain ⟨W1, hW1⟩ : ∃ W, W = (((w.alloc (cfO cf)).alloc (tlO tA)).alloc (tlO tB)).alloc (.cells #[.slice none 0 0] 25 (0, 0)) := ⟨_, rfl⟩
  have hP : PairR w cf tA tB w.heap.size (w.heap.size + 1) (w.heap.size + 1 + 1) (w.heap.size + 1 + 1 + 1) (w.heap.size + 1 + 1 + 1 + 1) none 0 0 [] W1 := by
    have h1 := halloc (halloc (halloc (World.alloc_heap_new w (cfO cf)) (tlO tA)) (tlO tB)) (.cells #[.slice none 0 0] 25 (0, 0))
    have h2 := halloc (halloc (World.alloc_heap_new (w.alloc (cfO cf)) (tlO tA)) (tlO tB)) (.cells #[.slice none 0 0] 25 (0, 0))
    have h3 := halloc (World.alloc_heap_new ((w.alloc (cfO cf)).alloc (tlO tA)) (tlO tB)) (.cells #[.slice none 0 0] 25 (0, 0))
    have h4 := World.alloc_heap_new (((w.alloc (cfO cf)).alloc (tlO tA)).alloc (tlO tB)) (.cells #[.slice none 0 0] 25 (0, 0))
    simp only [World.size_alloc] at h2 h3 h4
    have hb0 : Below w.heap.size w ((((w.alloc (cfO cf)).alloc (tlO tA)).alloc (tlO tB)).alloc (.cells #[.slice none 0 0] 25 (0, 0))) := ((((Below.refl _ _).alloc (Nat.le_refl _) _).alloc (by simp) _).alloc (by simp; omega) _).alloc (by simp; omega) _
    have hs : (((((w.alloc (cfO cf)).alloc (tlO tA)).alloc (tlO tB)).alloc (.cells #[.slice none 0 0] 25 (0, 0)))).heap.size = w.heap.size + 1 + 1 + 1 + 1 := by simp
    rw [← hW1] at h1 h2 h3 h4 hb0 hs
    exact ⟨hb0, h1, h2, h3, h4, OwnR.nil _ _ _ _ _, by omega, by omega, by omega, by omega, by omega, by omega, by omega, by omega, by omega⟩
  obtain ⟨C, hC⟩ : ∃ C, C = w.heap.size := ⟨_, rfl⟩
  obtain ⟨A, hA⟩ : ∃ C, C = w.heap.size + 1 := ⟨_, rfl⟩
  obtain ⟨B, hB⟩ : ∃ C, C = w.heap.size + 1 + 1 := ⟨_, rfl⟩
  obtain ⟨O, hO⟩ : ∃ C, C = w.heap.size + 1 + 1 + 1 := ⟨_, rfl⟩
  obtain ⟨L, hL⟩ : ∃ C, C = w.heap.size + 1 + 1 + 1 + 1 := ⟨_, rfl⟩
  have hLs : w.heap.size ≤ L := by omega
  rw [← hL, ← hO, ← hB, ← hA, ← hC] at hP
  clear hL
  dsimp only [cfO, tlO, cfgV] at hW1 ⊢
  go_enter Try.func123, Try.ntmps123
  go_upto_region 1 with fail
  rw [← hW1, ← hO, ← hB, ← hA, ← hC]
  clear hW1 hO hB hA hC
  have p2 := hcell (k := 2) (v := .slice tA.ra tA.rn tA.rc) hP.a rfl
  go_wp2_with fail
  clear p2
  go_loopw [14] (fun s wr => ∃ i : Nat, s = .int .i64 i ∧ i ≤ tA.rn ∧ ∃ va m vc ds, PairR w cf tA tB C A B O L va m vc ds wr ∧ m ≤ 7680 * i) (fun s _ => tA.rn - (intOf s).toNat)
  case atStart => exact ⟨0, rfl, Nat.zero_le _, none, 0, 0, [], hP, Nat.zero_le _⟩
  case round =>
    clear hP
    obtain ⟨i, rfl, hi, va, m, vc, ds, hP, hm⟩ := hrel
    by_cases hin : i < tA.rn
    case neg =>
      obtain rfl : i = tA.rn := by omega
      have hI : ¬ (tA.rn : Int) < (tA.rn : Int) := by omega
      have z0 := hcell (k := 0) (v := .slice va m vc) hP.o rfl
      have f0 := hfroz (k := 0) hP.o
      have HPP := Lib.hid hP
      have hid0 := setCell_idP (v := .slice va m vc) (i := 0) hP.o rfl
      clear hP
      go_wp2

      clear hid0
      refine bodyPost_ret (results_c1s rfl _ _ O (.slice va m vc) rfl z0 Try.underlying25) rfl ?_
      exact And.intro ⟨va, m, vc, ds, rfl, HPP.out.own.mono hLs, by omega⟩ HPP.out.bel
    have hI : (i : Int) < (tA.rn : Int) := by omega
    have wi1 : IntKind.i64.wrap ((i : Int) + 1) = ((i + 1 : Nat) : Int) := by rw [IntKind.wrap_i64]; omega
    have q2 := hcell (k := 2) (v := .slice tB.ra tB.rn tB.rc) hP.b rfl
    go_wp2_with fail
    clear q2
    go_loopw [20] (fun s wr => ∃ k : Nat, s = .int .i64 k ∧ k ≤ tB.rn ∧ ∃ va m vc ds, PairR w cf tA tB C A B O L va m vc ds wr ∧ m ≤ 7680 * i + 128 * k) (fun s _ => tB.rn - (intOf s).toNat)
    case atStart => exact ⟨0, rfl, Nat.zero_le _, va, m, vc, ds, hP, by omega⟩
    case round =>
      clear hP
      obtain ⟨k, rfl, hk, va, m, vc, ds, hP, hm⟩ := hrel
      by_cases hkn : k < tB.rn
      case neg =>
        obtain rfl : k = tB.rn := by omega
        have hK : ¬ (tB.rn : Int) < (tB.rn : Int) := by omega
        have HPP := Lib.hid hP
        clear hP
        go_wp2
        go_roundw
        case rel => exact ⟨i + 1, by go_num, by omega, va, m, vc, ds, HPP.out, by omega⟩
        case measure => simp [intOf]; omega
      have hK : (k : Int) < (tB.rn : Int) := by omega
      have wk1 : IntKind.i64.wrap ((k : Int) + 1) = ((k + 1 : Nat) : Int) := by rw [IntKind.wrap_i64]; omega
      have G1 := Lib.hid (GA.out C A B O L va m vc ds i k wr hP hin hkn (by omega))
      clear hP
      go_wp2_with fail
      refine G1.out.mono ?_
      rintro e w1 ⟨rfl, va2, m2, vc2, ds2, hP2, hm2⟩
      clear G1
      have HPP := Lib.hid hP2
      clear hP2
      go_wp2
      go_roundw
      case rel => exact ⟨k + 1, by go_num, by omega, va2, m2, vc2, ds2, HPP.out, by omega⟩
      case measure => simp [intOf]; omega
end Go.Proofs.Ytgfmdgiepomkiaa
