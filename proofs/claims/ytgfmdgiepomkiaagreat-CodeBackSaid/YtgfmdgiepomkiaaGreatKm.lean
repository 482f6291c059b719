/- Walk: code.ReadTile. -/
import Derived.Test.YtgfmdgiepomkiaaGreatKn
import Derived.Test.YtgfmdgiepomkiaaGreatTck
namespace Go.Proofs.YtgfmdgiepomkiaaGreat
open Go.RowKit Go.Sort
attribute [local go_sem] Instr.index

theorem results_ctt {P : Program} {fn : Func} {p u v : Tmp} {ty : TypeId} (h : fn.results = #[.cell p ty, .tmp u, .tmp v]) (tmps : Array Value) (w : World) (g : Nat) (t : TypeId) (cs : Array Value) (fr : Nat × Nat) (d : TypeDesc)
  (hp : tmps.getD p undef = .pointer (some ⟨g, 0, none⟩)) (hg : w.heap[g]? = some (.cells cs t fr))
  (hu : P.underlying ty = some d) (hd : (match d with | .struct _ | .array _ _ => true | _ => false) = true) (hi : (P.info? ty).map (·.size) = some cs.size) :
  (results fn tmps).run P w = .ok (.tuple #[.agg cs, tmps.getD u undef, tmps.getD v undef]) w := by
 have e1 : tmps[p]?.getD undef = .pointer (some ⟨g, 0, none⟩) := by simpa using hp
 simp [results, h, e1, asAddr, run_loadVar_row w g t ty cs fr d hg hu hd hi, Result.andThen]
/-- What is there already is stored: nothing turns. -/
theorem setCell_id {w : World} {b i : Nat} {cs : Array Value} {t : TypeId} {fr : Nat × Nat} {v : Value} (h : w.heap[b]? = some (.cells cs t fr)) (hv : cs[i]? = some v) : w.setCell ⟨b, i, none⟩ v = w := by
 obtain ⟨hb, hbe⟩ := Array.getElem?_eq_some_iff.1 h
 obtain ⟨hi, hve⟩ := Array.getElem?_eq_some_iff.1 hv
 have e : w.heap.modify b (fun o => match o with | .cells c elem frozen => .cells (if (none : Option Nat).isSome then c else c.setIfInBounds i v) elem frozen | o => o) = w.heap := by
  apply Array.ext
  ·
   simp
  ·
   intro k h1 h2
   rw [Array.getElem_modify]
   split
   ·
    rename_i hk
    subst hk
    rw [hbe]
    subst hve
    simp [Array.setIfInBounds, hi]
   ·
    rfl
 unfold World.setCell
 exact congrArg (fun H => { w with heap := H }) e
/-- Rectangles in a row, all above B. -/
structure RsFar (B : Nat) (a : Option Addr) (k c : Nat) (ps : List (RHd × Rc)) (W : World) : Prop where
 sl : SlR rcF7 7 W a k c ps
 ad : ∀ d, a = some d → B ≤ d.block
 each : ∀ x ∈ ps, RcFar B (.slice none 0 0) W x
section
variable {B : Nat} {a : Option Addr} {k c : Nat} {ps : List (RHd × Rc)} {W W' : World}
theorem RsFar.kept (h : RsFar B a k c ps W) {row : Option Nat} (hg : W.grownBy W' row) (h1 : ∀ j, row = some j → j < B) : RsFar B a k c ps W' :=
 ⟨h.sl.grown hg (fun d hd e => by have := h1 _ e; have := h.ad d hd; omega), h.ad, fun x hx => (h.each x hx).kept hg h1⟩
theorem gb_of_below (hb : Below W.heap.size W W') : W.grownBy W' none := ⟨hb.os, hb.tape, hb.output, hb.size, fun i hi _ => hb.block i hi⟩
theorem RsFar.below (h : RsFar B a k c ps W) (hb : Below W.heap.size W W') : RsFar B a k c ps W' := h.kept (gb_of_below hb) (fun j hj => by cases hj)
theorem RsFar.mono {B' : Nat} (h : RsFar B a k c ps W) (hB : B' ≤ B) : RsFar B' a k c ps W :=
 ⟨h.sl, fun d hd => Nat.le_trans hB (h.ad d hd), fun x hx => ⟨(h.each x hx).sl, fun ad had => ⟨Nat.le_trans hB ((h.each x hx).y ad had).1, ((h.each x hx).y ad had).2⟩, fun ad had => ⟨Nat.le_trans hB ((h.each x hx).t ad had).1, ((h.each x hx).t ad had).2⟩⟩⟩
theorem RsFar.rc (h : RsFar B a k c ps W) : SlRc W a k c ps := ⟨h.sl, fun x hx => (h.each x hx).sl⟩
end
/-- While a tile is read. w: as it was at the beginning; S holds the config, T the tile, R the reader. -/
structure TlAt (w : World) (cf : Cfg) (S T R : Nat) (a : Option Addr) (n c : Nat) (xs : List Int) (x0 x1 x2 x3 : Value) (st : RS) (W : World) : Prop where
 gn : w.grownBy W none
 cS : W.heap[S]? = some (cfO cf)
 cT : W.heap[T]? = some (.cells #[x0, x1, x2, x3] 32 (0, 0))
 rd : RdAt 73 (fun b => b) W R a n c xs st
 wS : w.heap.size ≤ S
 ST : S < T
 TR : T < R
 far : n = 0 ∨ ∀ ad, a = some ad → ad.block < S
section
variable {w : World} {cf : Cfg} {S T R : Nat} {a : Option Addr} {n c : Nat} {xs : List Int} {x0 x1 x2 x3 : Value} {st : RS} {W W' : World}
theorem TlAt.below (h : TlAt w cf S T R a n c xs x0 x1 x2 x3 st W) (hb : Below W.heap.size W W') : TlAt w cf S T R a n c xs x0 x1 x2 x3 st W' :=
 ⟨h.gn.trans (gb_of_below hb), hkeep hb h.cS, hkeep hb h.cT, h.rd.grown (gb_of_below hb) (fun j hj => by cases hj), h.wS, h.ST, h.TR, h.far⟩
theorem TlAt.alloc (h : TlAt w cf S T R a n c xs x0 x1 x2 x3 st W) (o : Obj) : TlAt w cf S T R a n c xs x0 x1 x2 x3 st (W.alloc o) := h.below ((Below.refl _ _).alloc (Nat.le_refl _) o)
theorem TlAt.read (h : TlAt w cf S T R a n c xs x0 x1 x2 x3 st W) {st' : RS} (hr : RdAt 73 (fun b => b) W' R a n c xs st') (hg : W.grownBy W' (some R)) : TlAt w cf S T R a n c xs x0 x1 x2 x3 st' W' :=
 ⟨World.grownBy.andThen h.gn hg (fun j hj => by cases hj; exact .inl (by have := h.wS; have := h.ST; have := h.TR; omega)), hgrown hg h.cS (by have := h.ST; have := h.TR; intro e; cases e; omega), hgrown hg h.cT (by have := h.TR; intro e; cases e; omega), hr, h.wS, h.ST, h.TR, h.far⟩
theorem TlAt.set (h : TlAt w cf S T R a n c xs x0 x1 x2 x3 st W) (i : Nat) (v : Value) {y0 y1 y2 y3 : Value} (e : (#[x0, x1, x2, x3] : Array Value).setIfInBounds i v = #[y0, y1, y2, y3]) : TlAt w cf S T R a n c xs y0 y1 y2 y3 st (W.setCell ⟨T, i, none⟩ v) := by
 have hwT : w.heap.size ≤ T := by have := h.wS; have := h.ST; omega
 refine ⟨gb_set h.gn hwT i v, hgrown (grown_set W T i v) h.cS (by have := h.ST; intro e; cases e; omega), by rw [← e]; exact heap_setCell_same W T i _ _ v h.cT, ?_, h.wS, h.ST, h.TR, h.far⟩
 have hRT : (some T : Option Nat) ≠ some R := by have := h.TR; intro e; cases e; omega
 exact ⟨hgrown (grown_set W T i v) h.rd.blk hRT, h.rd.sl.grown' (grown_set W T i v) (h.far.imp id fun q ad ha e => by have := q ad ha; have := h.ST; cases e; omega), h.rd.le, h.rd.ne, h.rd.small, h.rd.byte⟩
theorem TlAt.bad (h : TlAt w cf S T R a n c xs x0 x1 x2 x3 st W) (b : Bool) : TlAt w cf S T R a n c xs x0 x1 x2 x3 (st.1, b) (W.setCell ⟨R, 2, none⟩ (.bool b)) := h.read (h.rd.setBad b) (grown_set W R 2 _)
end
/-- Doors that were read lie in no block of four cells. -/
theorem drs_ne {W : World} {b : Option Addr} {m d : Nat} {ds : List Dr} (h : SlR drC 6 W b m d ds) {T : Nat} {x0 x1 x2 x3 : Value} {t : TypeId} (hT : W.heap[T]? = some (.cells #[x0, x1, x2, x3] t (0, 0))) : m = 0 ∨ ∀ ad, b = some ad → ad.block ≠ T := by
 by_cases hm : m = 0
 ·
  exact .inl hm
 ·
  obtain ⟨g, off, rfl, _, hc⟩ := h.at0 (by omega)
  refine .inr fun ad had e => ?_
  cases had
  simp only at e
  subst e
  have hl := h.len
  obtain ⟨y, hy⟩ : ∃ y, ds[0]? = some y := ⟨_, List.getElem?_eq_getElem (by omega)⟩
  have h5 := hc 0 y hy 5 _ rfl
  simp [World.cell?, hT] at h5
theorem SlR.grown0 {α : Type} {f : α → List Value} {sz : Nat} {w w' : World} {a : Option Addr} {n c : Nat} {xs : List α} (h : SlR f sz w a n c xs) {row : Option Nat} (hg : w.grownBy w' row) (hne : n = 0 ∨ ∀ ad, a = some ad → row ≠ some ad.block) : SlR f sz w' a n c xs := by
 rcases hne with h0 | hne
 ·
  exact ⟨h.len, h.le, h.max, .inl h0⟩
 ·
  exact h.grown hg hne
/-- What ReadTile answers. -/
def RtPost (V : (Int × Int × List Rc × List Dr) × Int × Int) (w : World) (e : Ending) (w' : World) : Prop :=
 ∃ (a : Option Addr) (k c : Nat) (ps : List (RHd × Rc)) (b : Option Addr) (m d : Nat), e = .returned (.tuple #[.agg #[.int .i64 V.1.1, .int .i64 V.1.2.1, .slice a k c, .slice b m d], .int .i64 V.2.1, .int .i64 V.2.2]) ∧ RsFar w.heap.size a k c ps w' ∧ ps.map Prod.snd = V.1.2.2.1 ∧ SlR drC 6 w' b m d V.1.2.2.2 ∧ Below w.heap.size w w'
theorem rt_none {V : (Int × Int × List Rc × List Dr) × Int × Int} {E : Int} {w w' : World} (h : V = ((0, 0, [], []), 0, E)) (hg : w.grownBy w' none) : RtPost V w (.returned (.tuple #[.agg #[.int .i64 0, .int .i64 0, .slice none 0 0, .slice none 0 0], .int .i64 0, .int .i64 E])) w' := by
 subst h
 exact ⟨none, 0, 0, [], none, 0, 0, rfl, ⟨SlR.nil _ _ _, (fun d hd => by cases hd), (fun x hx => by cases hx)⟩, rfl, SlR.nil _ _ _, ⟨hg.os, hg.tape, hg.output, hg.size, fun i hi => hg.block i hi (by simp)⟩⟩
end Go.Proofs.YtgfmdgiepomkiaaGreat

namespace Go.Proofs.YtgfmdgiepomkiaaGreat
open Go.RowKit Go.Sort
attribute [local go_sem] Instr.index

theorem cas8 {P : (i : Nat) → i < 8 → Prop} (h0 : P 0 (by decide)) (h1 : P 1 (by decide)) (h2 : P 2 (by decide)) (h3 : P 3 (by decide)) (h4 : P 4 (by decide)) (h5 : P 5 (by decide)) (h6 : P 6 (by decide)) (h7 : P 7 (by decide)) (i : Nat) (h : i < 8) : P i h := by
 match i, h with
 | 0, _ => exact h0
 | 1, _ => exact h1
 | 2, _ => exact h2
 | 3, _ => exact h3
 | 4, _ => exact h4
 | 5, _ => exact h5
 | 6, _ => exact h6
 | 7, _ => exact h7
theorem rt_bad {cf : Cfg} {xs : List Int} {z : RS} (hc : cfgOk cf = true) (hn : ¬ 131072 < xs.length) (hz : z = (rdNum xs (rdNum xs (0, false)).2).2)
  (h : (rdList xs 96 (rdRct xs) z).2.2 = true ∨ bldE cf (rdList xs 96 (rdRct xs) z).1 ≠ 0 ∨ tlE cf (rdNum xs (0, false)).1 (rdNum xs (rdNum xs (0, false)).2).1 (rdList xs 96 (rdRct xs) z).1 (bldL cf (rdList xs 96 (rdRct xs) z).1) ≠ 0) : rdTile cf xs = ((0, 0, [], []), 0, 200) := by
 unfold rdTile
 rw [if_pos hc, if_neg hn]
 subst hz
 dsimp only
 rw [if_pos]
 by_cases hE : bldE cf (rdList xs 96 (rdRct xs) (rdNum xs (rdNum xs (0, false)).2).2).1 = 0
 ·
  rcases h with h | h | h
  ·
   exact .inl h
  ·
   exact .inr (.inl h)
  ·
   refine .inr (.inr ?_)
   unfold bldL at h
   rwa [if_pos hE] at h
 ·
  exact .inr (.inl hE)
theorem rt_good {cf : Cfg} {xs : List Int} {z : RS} (hc : cfgOk cf = true) (hn : ¬ 131072 < xs.length) (hz : z = (rdNum xs (rdNum xs (0, false)).2).2)
  (h1 : (rdList xs 96 (rdRct xs) z).2.2 = false) (h2 : bldE cf (rdList xs 96 (rdRct xs) z).1 = 0) (h3 : tlE cf (rdNum xs (0, false)).1 (rdNum xs (rdNum xs (0, false)).2).1 (rdList xs 96 (rdRct xs) z).1 (bldL cf (rdList xs 96 (rdRct xs) z).1) = 0) :
  rdTile cf xs = (((rdNum xs (0, false)).1, (rdNum xs (rdNum xs (0, false)).2).1, (rdList xs 96 (rdRct xs) z).1, bldL cf (rdList xs 96 (rdRct xs) z).1), ((rdList xs 96 (rdRct xs) z).2.1 : Int), 0) := by
 unfold bldL at h3 ⊢
 rw [if_pos h2] at h3 ⊢
 unfold rdTile
 rw [if_pos hc, if_neg hn]
 subst hz
 dsimp only
 rw [if_neg]
 rintro (h | h | h)
 ·
  rw [h1] at h; cases h
 ·
  exact h h2
 ·
  exact h h3
theorem bldE_any {cf : Cfg} {ps : List (RHd × Rc)} (hc : cfgOk cf = true) (h : (ps.any fun x => rcE cf x.2 != 0) = true) : bldE cf (ps.map Prod.snd) ≠ 0 := by
 rw [any_ok hc] at h
 unfold bldE
 rw [if_pos hc, if_neg (by simpa using h)]
 decide
set_option maxRecDepth 100000 in
set_option maxHeartbeats 16000000 in
theorem readtile_any (w : World) (cf : Cfg) (a : Option Addr) (n c : Nat) (xs : List Int) (hx : SlI .u8 w a n c xs) (hb : ∀ x ∈ xs, 0 ≤ x ∧ x ≤ 255) (hfar : n = 0 ∨ ∀ ad, a = some ad → ad.block < w.heap.size) :
  Calls Tryz.prog 12 #[cfgV cf, .slice a n c] w (RtPost (rdTile cf xs) w) := by
 have hlen := hx.len
 have hle := hx.le
 have hmax := hx.max
 have CF := Lib.hid (fun W => cfgcheck_any cf W)
 obtain ⟨V, HV⟩ : ∃ V, Hid (V = rdTile cf xs) := ⟨_, rfl⟩
 rw [← HV.out]
 have HF0 : Hid (cfgOk cf = false → V = ((0, 0, [], []), 0, 20)) := fun h => by rw [HV.out]; unfold rdTile; rw [if_neg (by simp [h])]
 have HF1 : Hid (cfgOk cf = true → 131072 < n → V = ((0, 0, [], []), 0, 3)) := fun h h2 => by rw [HV.out]; unfold rdTile; rw [if_pos h, if_pos (by omega)]
 obtain ⟨⟨X, s1⟩, hX⟩ : ∃ r, r = rdNum xs (0, false) := ⟨_, rfl⟩
 obtain ⟨⟨Z, s2⟩, hZ⟩ : ∃ r, r = rdNum xs s1 := ⟨_, rfl⟩
 obtain ⟨⟨rs, s3⟩, hL⟩ : ∃ r, r = rdList xs 96 (rdRct xs) s2 := ⟨_, rfl⟩
 have HF2 : Hid (cfgOk cf = true → ¬ 131072 < n → (s3.2 = true ∨ bldE cf rs ≠ 0 ∨ tlE cf X Z rs (bldL cf rs) ≠ 0) → V = ((0, 0, [], []), 0, 200)) := fun h h2 h3 => by
  rw [HV.out]
  refine rt_bad (z := s2) h (by omega) (by rw [← hX, ← hZ]) ?_
  rw [← hX]
  dsimp only
  rw [← hZ, ← hL]
  exact h3
 have HF3 : Hid (cfgOk cf = true → ¬ 131072 < n → s3.2 = false → bldE cf rs = 0 → tlE cf X Z rs (bldL cf rs) = 0 → V = ((X, Z, rs, bldL cf rs), (s3.1 : Int), 0)) := fun h h2 h3 h4 h5 => by
  rw [HV.out]
  have := rt_good (cf := cf) (xs := xs) (z := s2) h (by omega) (by rw [← hX, ← hZ]) (by rw [← hL]; exact h3) (by rw [← hL]; exact h4) (by rw [← hX]; dsimp only; rw [← hZ, ← hL]; exact h5)
  rw [← hX] at this
  dsimp only at this
  rw [← hZ, ← hL] at this
  exact this
 have C1 := Lib.hid (fun R W hW => rnumber_any W R a n c xs (0, false) hW)
 have C2 := Lib.hid (fun R W hW => rnumber_any W R a n c xs s1 hW)
 have C3 := Lib.hid (fun R W hW => rrows_rect 96 (by decide) W R a n c xs s2 hW)
 unfold RrPost at C3
 rw [← hX] at C1
 rw [← hZ] at C2
 rw [show ((96 : Nat) : Int) = 96 from rfl, ← hL] at C3
 dsimp only at C1 C2 C3
 clear HV hX hZ hL
 obtain ⟨S, hS⟩ : ∃ S, S = w.heap.size := ⟨_, rfl⟩
 have hG := gb_alloc (gb_alloc (World.grownBy.refl w none) (cfO cf)) (.cells #[.int .i64 0, .int .i64 0, .slice none 0 0, .slice none 0 0] 32)
 have hC := halloc (World.alloc_heap_new w (cfO cf)) (.cells #[.int .i64 0, .int .i64 0, .slice none 0 0, .slice none 0 0] 32)
 have hT := World.alloc_heap_new (w.alloc (cfO cf)) (.cells #[.int .i64 0, .int .i64 0, .slice none 0 0, .slice none 0 0] 32)
 rw [World.size_alloc] at hT
 have hX := (hx.alloc (cfO cf)).alloc (.cells #[.int .i64 0, .int .i64 0, .slice none 0 0, .slice none 0 0] 32)
 obtain ⟨W1, hW1⟩ : ∃ W, W = (w.alloc (cfO cf)).alloc (.cells #[.int .i64 0, .int .i64 0, .slice none 0 0, .slice none 0 0] 32) := ⟨_, rfl⟩
 rw [← hW1] at hG hC hT hX
 rw [← hS] at hC hT hfar
 obtain ⟨T, hST⟩ : ∃ T, T = S + 1 := ⟨_, rfl⟩
 rw [← hST] at hT
 have HSz := Lib.hid hS
 have HSt := Lib.hid hST
 dsimp only [cfO, cfgV] at hC hW1 ⊢
 dsimp only [cfgV] at CF
 have c0 := hcell (k := 0) (v := .int .i64 cf.clear) hC rfl
 have c1 := hcell (k := 1) (v := .int .i64 cf.climb) hC rfl
 have c2 := hcell (k := 2) (v := .int .i64 cf.height) hC rfl
 have c3 := hcell (k := 3) (v := .int .i64 cf.rise) hC rfl
 have c4 := hcell (k := 4) (v := .int .i64 cf.run) hC rfl
 have c5 := hcell (k := 5) (v := .int .i64 cf.w) hC rfl
 have c6 := hcell (k := 6) (v := .int .i64 cf.d) hC rfl
 clear hx
 go_enter Tryz.func12, Tryz.ntmps12
 go_upto_region 1 with fail
 rw [← hW1, ← hS, ← hST]
 clear hW1 hS hST
 go_wp2_with fail
 refine (CF.out _).mono ?_
 rintro e w2 ⟨rfl, hb2⟩
 have hG2 := hG.trans (gb_of_below hb2)
 have hC2 := hkeep hb2 hC
 have hT2 := hkeep hb2 hT
 have hX2 := hX.below hb2 (Nat.le_refl _)
 clear c0 c1 c2 c3 c4 c5 c6 hC hT hb2 hG CF hX
 by_cases hcf : cfgOk cf = true
 case neg =>
  simp only [Bool.not_eq_true] at hcf
  have HN := Lib.hid (HF0.out hcf)
  have hE : cfgE cf = 20 := by unfold cfgE; rw [hcf]; rfl
  have z0 := hcell (k := 0) (v := .int .i64 0) hT2 rfl
  have z1 := hcell (k := 1) (v := .int .i64 0) hT2 rfl
  have z2 := hcell (k := 2) (v := .slice none 0 0) hT2 rfl
  have z3 := hcell (k := 3) (v := .slice none 0 0) hT2 rfl
  have f0 := hfroz (k := 0) hT2
  have f1 := hfroz (k := 1) hT2
  have f2 := hfroz (k := 2) hT2
  have f3 := hfroz (k := 3) hT2
  have e0 := setCell_id (i := 0) (v := .int .i64 0) hT2 rfl
  have e1 := setCell_id (i := 1) (v := .int .i64 0) hT2 rfl
  have e2 := setCell_id (i := 2) (v := .slice none 0 0) hT2 rfl
  have e3 := setCell_id (i := 3) (v := .slice none 0 0) hT2 rfl
  rw [hE]
  go_wp2
  refine bodyPost_ret (results_ctt rfl _ _ T 32 #[.int .i64 0, .int .i64 0, .slice none 0 0, .slice none 0 0] (0, 0) _ rfl hT2 Tryz.underlying32 rfl (by kernel_rfl)) rfl ?_
  exact rt_none HN.out hG2
 have hE : cfgE cf = 0 := by unfold cfgE; rw [hcf]; rfl
 rw [hE]
 clear hE HF0
 by_cases hn : 131072 < n
 ·
  have HN := Lib.hid (HF1.out hcf hn)
  have hnI : (131072 : Int) < (n : Int) := by omega
  have z0 := hcell (k := 0) (v := .int .i64 0) hT2 rfl
  have z1 := hcell (k := 1) (v := .int .i64 0) hT2 rfl
  have z2 := hcell (k := 2) (v := .slice none 0 0) hT2 rfl
  have z3 := hcell (k := 3) (v := .slice none 0 0) hT2 rfl
  have f0 := hfroz (k := 0) hT2
  have f1 := hfroz (k := 1) hT2
  have f2 := hfroz (k := 2) hT2
  have f3 := hfroz (k := 3) hT2
  have e0 := setCell_id (i := 0) (v := .int .i64 0) hT2 rfl
  have e1 := setCell_id (i := 1) (v := .int .i64 0) hT2 rfl
  have e2 := setCell_id (i := 2) (v := .slice none 0 0) hT2 rfl
  have e3 := setCell_id (i := 3) (v := .slice none 0 0) hT2 rfl
  go_wp2
  refine bodyPost_ret (results_ctt rfl _ _ T 32 #[.int .i64 0, .int .i64 0, .slice none 0 0, .slice none 0 0] (0, 0) _ rfl hT2 Tryz.underlying32 rfl (by kernel_rfl)) rfl ?_
  exact rt_none HN.out hG2
 have hnI : ¬ (131072 : Int) < (n : Int) := by omega
 have hn' : ¬ n > 131072 := hn
 have HF2 := Lib.hid (HF2.out hcf hn)
 have HF3 := Lib.hid (HF3.out hcf hn)
 clear HF1
 have hR := World.alloc_heap_new w2 (.cells #[.slice a n c, .int .i64 0, .bool false] 73)
 have hM : TlAt w cf S T w2.heap.size a n c xs (.int .i64 0) (.int .i64 0) (.slice none 0 0) (.slice none 0 0) (0, false) (w2.alloc (.cells #[.slice a n c, .int .i64 0, .bool false] 73)) :=
  ⟨gb_alloc hG2 _, halloc hC2 _, halloc hT2 _, ⟨hR, hX2.alloc _, Nat.zero_le _, hfar.imp id fun q ad ha => by have := q ad ha; have := hblt hC2; omega, by omega, hb⟩, by have := HSz.out; omega, by have := HSt.out; omega, hblt hT2, hfar⟩
 obtain ⟨R, hRd⟩ : ∃ R, R = w2.heap.size := ⟨_, rfl⟩
 obtain ⟨W3, hW3⟩ : ∃ W, W = w2.alloc (.cells #[.slice a n c, .int .i64 0, .bool false] 73) := ⟨_, rfl⟩
 rw [← hRd, ← hW3] at hM
 clear hR hX2 hG2 hC2 hT2
 go_upto_region 6 with fail
 rw [← hRd, ← hW3]
 clear hRd hW3
 go_wp2_with fail
 refine (C1.out R _ hM.rd).mono ?_
 rintro e w4 ⟨rfl, hr4, hg4⟩
 have hM4 := hM.read hr4 hg4
 clear hM hr4 hg4 C1
 go_wp2_with fail
 refine (C2.out R _ hM4.rd).mono ?_
 rintro e w5 ⟨rfl, hr5, hg5⟩
 have hM5 := hM4.read hr5 hg5
 clear hM4 hr5 hg5 C2
 have hM6 := (hM5.set 0 (.int .i64 X) rfl).set 1 (.int .i64 Z) rfl
 have f0 := hfroz (k := 0) hM5.cT
 have f1 := hfroz (k := 1) (hM5.set 0 (.int .i64 X) rfl).cT
 have z0 := hcell (k := 0) hM5.cT rfl
 have z1 := hcell (k := 1) (hM5.set 0 (.int .i64 X) rfl).cT rfl
 obtain ⟨W6, hW6⟩ : ∃ W, W = (w5.setCell ⟨T, 0, none⟩ (.int .i64 X)).setCell ⟨T, 1, none⟩ (.int .i64 Z) := ⟨_, rfl⟩
 rw [← hW6] at hM6
 go_upto_region 7 with fail
 rw [← hW6]
 clear hW6 f0 f1 z0 z1 hM5
 go_wp2_with fail
 refine (C3.out R _ hM6.rd).mono ?_
 rintro e w7 ⟨v, ps, rfl, ho, hps, hr7, hg7, hp96, hpl⟩
 have hM7 := hM6.read hr7 hg7
 have hRB := hM6.rd.lt
 obtain ⟨B, hB⟩ : ∃ B, B = W6.heap.size := ⟨_, rfl⟩
 rw [← hB] at ho hps hRB
 clear hr7 hg7 C3 hM6 hB
 have hoB := ho.le
 obtain ⟨ra, rc, rfl, hsl⟩ := ho.reads rcF7_len
 have hF7 : RsFar B ra ps.length rc ps w7 := ⟨hsl, fun d hd => by subst hd; exact hoB _ rfl, fun x hx => ⟨(hps x hx).sl, fun ad had => ⟨((hps x hx).y ad had).1, ((hps x hx).y ad had).2.1, by simp [Value.ownBlock]⟩, fun ad had => ⟨((hps x hx).t ad had).1, ((hps x hx).t ad had).2.1, by simp [Value.ownBlock]⟩⟩⟩
 clear ho hps hoB hsl
 obtain ⟨k, hk⟩ : ∃ k, Hid (k = ps.length) := ⟨_, rfl⟩
 rw [← hk.out] at hF7 hp96 ⊢
 have hTB : T < B := by have := hM7.TR; omega
 have hM8 := hM7.set 2 (.slice ra k rc) rfl
 have hF8 := hF7.kept (grown_set w7 T 2 (.slice ra k rc)) (fun j hj => by cases hj; exact hTB)
 have f2 := hfroz (k := 2) hM7.cT
 have z2 := hcell (k := 2) hM7.cT rfl
 have z2' := hcell (k := 2) hM8.cT rfl
 obtain ⟨W8, hW8⟩ : ∃ W, W = w7.setCell ⟨T, 2, none⟩ (.slice ra k rc) := ⟨_, rfl⟩
 rw [← hW8] at hM8 hF8 z2'
 go_upto_region 8 with fail
 rw [← hW8]
 clear hW8 f2 z2 hM7 hF7
 go_wp2_with fail
 clear z2'
 go_loopw [37] (fun s wr => ∃ (i : Nat) (bad : Bool), s = .int .i64 i ∧ i ≤ k ∧ TlAt w cf S T R a n c xs (.int .i64 X) (.int .i64 Z) (.slice ra k rc) (.slice none 0 0) (s3.1, bad) wr ∧ RsFar B ra k rc ps wr ∧ Hid (bad = (s3.2 || (ps.take i).any fun x => rcE cf x.2 != 0))) (fun s _ => k - (intOf s).toNat)
 case atStart => exact ⟨0, s3.2, rfl, Nat.zero_le _, hM8, hF8, (by show _ = _; simp)⟩
 case round =>
  clear hM8 hF8
  obtain ⟨i, bad, rfl, hi, hM, hF, HB⟩ := hrel
  by_cases hin : i < k
  case neg =>
   obtain rfl : i = k := by omega
   have hinI : ¬ (i : Int) < (i : Int) := by omega
   have HB2 : Hid (bad = (s3.2 || ps.any fun x => rcE cf x.2 != 0)) := by show _ = _; rw [HB.out, List.take_of_length_le (Nat.le_of_eq hk.out.symm)]
   clear HB
   have b2 := hcell (k := 2) (v := .bool bad) hM.rd.blk rfl
   cases bad with
   | true =>
    have HN : Hid (V = ((0, 0, [], []), 0, 200)) := HF2.out (by
     by_cases h3 : s3.2 = true
     ·
      exact .inl h3
     ·
      have h4 := HB2.out
      simp only [Bool.not_eq_true] at h3
      rw [h3, Bool.false_or] at h4
      rw [← hpl h3]
      exact .inr (.inl (bldE_any hcf h4.symm)))
    have f0 := hfroz (k := 0) hM.cT
    have z0 := hcell (k := 0) hM.cT rfl
    have hZ0 := hM.set 0 (.int .i64 0) rfl
    have f1 := hfroz (k := 1) hZ0.cT
    have z1 := hcell (k := 1) hZ0.cT rfl
    have hZ1 := hZ0.set 1 (.int .i64 0) rfl
    have f2 := hfroz (k := 2) hZ1.cT
    have z2 := hcell (k := 2) hZ1.cT rfl
    have hZ2 := hZ1.set 2 (.slice none 0 0) rfl
    have f3 := hfroz (k := 3) hZ2.cT
    have z3 := hcell (k := 3) hZ2.cT rfl
    have hZ3 := hZ2.set 3 (.slice none 0 0) rfl
    have HG := Lib.hid hZ3
    clear hZ0 hZ1 hZ2 hZ3
    go_wp2
    refine bodyPost_ret (results_ctt rfl _ _ T 32 #[.int .i64 0, .int .i64 0, .slice none 0 0, .slice none 0 0] (0, 0) _ rfl HG.out.cT Tryz.underlying32 rfl (by kernel_rfl)) rfl ?_
    exact rt_none HN.out HG.out.gn
   | false =>
    have h3 : s3.2 = false := by
     have := HB2.out
     revert this
     cases s3.2 <;> simp
    have hps := hpl h3
    have HPS := Lib.hid hps
    have DB := Lib.hid (fun W (hW : RsFar B ra i rc ps W) => dbuild_any cf ra i rc ps W hW.rc (by omega))
    rw [hps] at DB
    unfold BnPost at DB
    have TC := Lib.hid (fun b m d W (hW : RsFar B ra i rc ps W) (hd : SlR drC 6 W b m d (bldL cf rs)) => tilecheck_any cf X Z ra i rc ps b m d (bldL cf rs) W hW.rc hd)
    rw [hps] at TC
    replace HF2 := Lib.hid (fun h => HF2.out (.inr h))
    replace HF3 := Lib.hid (HF3.out h3)
    clear HB2 hps hpl h3
    obtain ⟨E, hE⟩ : ∃ E, Hid (E = bldE cf rs) := ⟨_, rfl⟩
    obtain ⟨E2, hE2⟩ : ∃ E, Hid (E = tlE cf X Z rs (bldL cf rs)) := ⟨_, rfl⟩
    rw [← hE.out] at DB HF2 HF3
    rw [← hE2.out] at TC HF2 HF3
    have c0 := hcell (k := 0) (v := .int .i64 cf.clear) hM.cS rfl
    have c1 := hcell (k := 1) (v := .int .i64 cf.climb) hM.cS rfl
    have c2 := hcell (k := 2) (v := .int .i64 cf.height) hM.cS rfl
    have c3 := hcell (k := 3) (v := .int .i64 cf.rise) hM.cS rfl
    have c4 := hcell (k := 4) (v := .int .i64 cf.run) hM.cS rfl
    have c5 := hcell (k := 5) (v := .int .i64 cf.w) hM.cS rfl
    have c6 := hcell (k := 6) (v := .int .i64 cf.d) hM.cS rfl
    have t2 := hcell (k := 2) hM.cT rfl
    dsimp only [cfgV] at DB TC
    go_wp2_with fail
    refine (DB.out _ hF).mono ?_
    rintro e w9 ⟨da, dc, rfl, hd9, hb9⟩
    have hM9 := hM.below hb9
    have hF9 := hF.below hb9
    clear hM hF hb9 DB c0 c1 c2 c3 c4 c5 c6 t2 b2
    obtain ⟨dn, hdn⟩ : ∃ m, Hid (m = (bldL cf rs).length) := ⟨_, rfl⟩
    rw [← hdn.out] at hd9 ⊢
    have hMa := hM9.set 3 (.slice da dn dc) rfl
    have hFa := hF9.kept (grown_set w9 T 3 (.slice da dn dc)) (fun j hj => by cases hj; exact hTB)
    have hda := hd9.grown0 (grown_set w9 T 3 (.slice da dn dc)) ((drs_ne hd9 hM9.cT).imp id fun q ad had e => q ad had (Option.some.inj e).symm)
    have f3 := hfroz (k := 3) hM9.cT
    have z3 := hcell (k := 3) hM9.cT rfl
    obtain ⟨Wa, hWa⟩ : ∃ W, W = w9.setCell ⟨T, 3, none⟩ (.slice da dn dc) := ⟨_, rfl⟩
    rw [← hWa] at hMa hFa hda
    go_upto_region 15 with fail
    rw [← hWa]
    clear hWa f3 z3 hM9 hF9 hd9
    have b2 := hcell (k := 2) (v := .bool false) hMa.rd.blk rfl
    by_cases hE0 : E = 0
    case neg =>
     have hEB : (E != 0) = true := by simpa using hE0
     have HN := Lib.hid (HF2.out (.inl hE0))
     have f0 := hfroz (k := 0) hMa.cT
     have z0 := hcell (k := 0) hMa.cT rfl
     have hZ0 := hMa.set 0 (.int .i64 0) rfl
     have f1 := hfroz (k := 1) hZ0.cT
     have z1 := hcell (k := 1) hZ0.cT rfl
     have hZ1 := hZ0.set 1 (.int .i64 0) rfl
     have f2 := hfroz (k := 2) hZ1.cT
     have z2 := hcell (k := 2) hZ1.cT rfl
     have hZ2 := hZ1.set 2 (.slice none 0 0) rfl
     have f3 := hfroz (k := 3) hZ2.cT
     have z3 := hcell (k := 3) hZ2.cT rfl
     have hZ3 := hZ2.set 3 (.slice none 0 0) rfl
     have HG := Lib.hid hZ3
     clear hZ0 hZ1 hZ2 hZ3
     go_wp2
     refine bodyPost_ret (results_ctt rfl _ _ T 32 #[.int .i64 0, .int .i64 0, .slice none 0 0, .slice none 0 0] (0, 0) _ rfl HG.out.cT Tryz.underlying32 rfl (by kernel_rfl)) rfl ?_
     exact rt_none HN.out HG.out.gn
    have hEB : (E != 0) = false := by rw [hE0]; rfl
    have hEr : E = 0 := hE0
    clear hE0
    replace HF2 := Lib.hid (fun h => HF2.out (.inr h))
    replace HF3 := Lib.hid (HF3.out hEr)
    clear hE
    subst hEr
    have c0 := hcell (k := 0) (v := .int .i64 cf.clear) hMa.cS rfl
    have c1 := hcell (k := 1) (v := .int .i64 cf.climb) hMa.cS rfl
    have c2 := hcell (k := 2) (v := .int .i64 cf.height) hMa.cS rfl
    have c3 := hcell (k := 3) (v := .int .i64 cf.rise) hMa.cS rfl
    have c4 := hcell (k := 4) (v := .int .i64 cf.run) hMa.cS rfl
    have c5 := hcell (k := 5) (v := .int .i64 cf.w) hMa.cS rfl
    have c6 := hcell (k := 6) (v := .int .i64 cf.d) hMa.cS rfl
    have t0 := hcell (k := 0) hMa.cT rfl
    have t1 := hcell (k := 1) hMa.cT rfl
    have t2 := hcell (k := 2) hMa.cT rfl
    have t3 := hcell (k := 3) hMa.cT rfl
    go_wp2_with fail
    refine (TC.out _ _ _ _ hFa hda).mono ?_
    rintro e wb ⟨rfl, hbb⟩
    have hMb := hMa.below hbb
    have hFb := hFa.below hbb
    have hdb := hda.below hbb (Nat.le_refl _)
    clear hMa hFa hda hbb TC c0 c1 c2 c3 c4 c5 c6 t0 t1 t2 t3 b2
    by_cases hE0 : E2 = 0
    case neg =>
     have hEB : (E2 != 0) = true := by simpa using hE0
     have HN := Lib.hid (HF2.out hE0)
     have f0 := hfroz (k := 0) hMb.cT
     have z0 := hcell (k := 0) hMb.cT rfl
     have hZ0 := hMb.set 0 (.int .i64 0) rfl
     have f1 := hfroz (k := 1) hZ0.cT
     have z1 := hcell (k := 1) hZ0.cT rfl
     have hZ1 := hZ0.set 1 (.int .i64 0) rfl
     have f2 := hfroz (k := 2) hZ1.cT
     have z2 := hcell (k := 2) hZ1.cT rfl
     have hZ2 := hZ1.set 2 (.slice none 0 0) rfl
     have f3 := hfroz (k := 3) hZ2.cT
     have z3 := hcell (k := 3) hZ2.cT rfl
     have hZ3 := hZ2.set 3 (.slice none 0 0) rfl
     have HG := Lib.hid hZ3
     clear hZ0 hZ1 hZ2 hZ3
     go_wp2
     refine bodyPost_ret (results_ctt rfl _ _ T 32 #[.int .i64 0, .int .i64 0, .slice none 0 0, .slice none 0 0] (0, 0) _ rfl HG.out.cT Tryz.underlying32 rfl (by kernel_rfl)) rfl ?_
     exact rt_none HN.out HG.out.gn
    have hEB2 : (E2 != 0) = false := by rw [hE0]; rfl
    have HN := Lib.hid (HF3.out hE0)
    clear HF2 HF3
    go_wp2_with fail
    refine wp_region_det ([none, none, none, none, none, some 6, some 7, none, none, none, none, none, none, none, none, none, none, none, none, none, none, none, none, none, none, none, none, none, none, none, none, none, none, none, none, none, none, none, none, none, none, none, none, none, none, none, none, none, none, none, none, none, none, none, none, none, none, none, none, none, none, none, none, none, none, none, none, none, none, none, none, none, none, none, none, none, none, none, none, none, none, none, none, some 0, some 1, some 2, some 3, some 4]) [fun v _ => v = .agg #[.int .i64 X, .int .i64 Z, .slice ra i rc, .slice da dn dc],
       fun v _ => v = .pointer (some ⟨R, 0, none⟩),
       fun v _ => v = .pointer (some ⟨R, 0, none⟩),
       fun v _ => v = .pointer (some ⟨R, 1, none⟩),
       fun v _ => v = .int .i64 s3.1,
       fun _ _ => True,
       fun v _ => v = .int .i64 s3.1,
       fun v _ => v = .int .i64 0] (by kernel_rfl) (by kernel_rfl) (by kernel_rfl) (by kernel_rfl) ?_ ?_ ?_
    ·
     refine List.forall_mem_cons.2 ⟨fun _ _ _ h _ => h, List.forall_mem_cons.2 ⟨fun _ _ _ h _ => h, List.forall_mem_cons.2 ⟨fun _ _ _ h _ => h, List.forall_mem_cons.2 ⟨fun _ _ _ h _ => h, List.forall_mem_cons.2 ⟨fun _ _ _ h _ => h, List.forall_mem_cons.2 ⟨fun _ _ _ h _ => h, List.forall_mem_cons.2 ⟨fun _ _ _ h _ => h, List.forall_mem_cons.2 ⟨fun _ _ _ h _ => h, List.forall_mem_nil _⟩⟩⟩⟩⟩⟩⟩⟩
    ·
     intro Q' K t vals wi hoff hon hB i hlt
     have hlt : i < 8 := hlt
     cases i, hlt using cas8
     ·
      intro hS hK
      have g4 : t[(4 : Nat)]? = some (.pointer (some ⟨T, 0, none⟩)) := hoff 4 _ rfl rfl
      have hT := hkeep hB hMb.cT
      have q0 := hcell (k := 0) hT rfl
      have q1 := hcell (k := 1) hT rfl
      have q2 := hcell (k := 2) hT rfl
      have q3 := hcell (k := 3) hT rfl
      clear hoff hon hS
      refine wpOp_of rfl rfl ?_
      go_simp
      exact hK.out _ _ rfl (Below.refl _ _)
     ·
      intro hS hK
      have g7 : t[(7 : Nat)]? = some (.pointer (some ⟨R, 0, none⟩)) := hoff 7 _ rfl rfl
      clear hoff hon hS
      refine wpOp_of rfl rfl ?_
      go_simp
      exact hK.out _ _ rfl (Below.refl _ _)
     ·
      intro hS hK
      have g84 : t[(84 : Nat)]? = some (.pointer (some ⟨R, 0, none⟩)) := (hon 1 84 rfl).trans (congrArg some (hS 1 (by kernel_rfl)))
      clear hoff hon hS
      refine wpOp_of rfl rfl ?_
      go_simp
      exact hK.out _ _ rfl (Below.refl _ _)
     ·
      intro hS hK
      have g85 : t[(85 : Nat)]? = some (.pointer (some ⟨R, 0, none⟩)) := (hon 2 85 rfl).trans (congrArg some (hS 2 (by kernel_rfl)))
      clear hoff hon hS
      refine wpOp_of rfl rfl ?_
      go_simp
      exact hK.out _ _ rfl (Below.refl _ _)
     ·
      intro hS hK
      have g86 : t[(86 : Nat)]? = some (.pointer (some ⟨R, 1, none⟩)) := (hon 3 86 rfl).trans (congrArg some (hS 3 (by kernel_rfl)))
      have hR := hkeep hB hMb.rd.blk
      have q1 := hcell (k := 1) (v := .int .i64 s3.1) hR rfl
      clear hoff hon hS
      refine wpOp_of rfl rfl ?_
      go_simp
      exact hK.out _ _ rfl (Below.refl _ _)
     ·
      intro hS hK
      have g4 : t[(4 : Nat)]? = some (.pointer (some ⟨T, 0, none⟩)) := hoff 4 _ rfl rfl
      have g83 : t[(83 : Nat)]? = some (.agg #[.int .i64 X, .int .i64 Z, .slice ra i rc, .slice da dn dc]) := (hon 0 83 rfl).trans (congrArg some (hS 0 (by kernel_rfl)))
      have hT := hkeep hB hMb.cT
      have q0 := hcell (k := 0) hT rfl
      have q1 := hcell (k := 1) hT rfl
      have q2 := hcell (k := 2) hT rfl
      have q3 := hcell (k := 3) hT rfl
      have f0 := hfroz (k := 0) hT
      have f1 := hfroz (k := 1) hT
      have f2 := hfroz (k := 2) hT
      have f3 := hfroz (k := 3) hT
      have y0 := setCell_id (i := 0) (v := .int .i64 X) hT rfl
      have y1 := setCell_id (i := 1) (v := .int .i64 Z) hT rfl
      have y2 := setCell_id (i := 2) (v := .slice ra i rc) hT rfl
      have y3 := setCell_id (i := 3) (v := .slice da dn dc) hT rfl
      clear hoff hon hS
      refine wpOp_of rfl rfl ?_
      go_simp
      exact hK.out undef _ trivial (Below.refl _ _)
     ·
      intro hS hK
      have g87 : t[(87 : Nat)]? = some (.int .i64 s3.1) := (hon 4 87 rfl).trans (congrArg some (hS 4 (by kernel_rfl)))
      clear hoff hon hS
      refine wpOp_of rfl rfl ?_
      go_simp
      exact hK.out _ _ rfl (Below.refl _ _)
     ·
      intro hS hK
      clear hoff hon hS
      refine wpOp_of rfl rfl ?_
      go_simp
      exact hK.out _ _ rfl (Below.refl _ _)
    ·
     intro vals wi hB hS
     have e0 : vals 0 = .agg #[.int .i64 X, .int .i64 Z, .slice ra i rc, .slice da dn dc] := hS 0 (by decide)
     have e1 : vals 1 = .pointer (some ⟨R, 0, none⟩) := hS 1 (by decide)
     have e2 : vals 2 = .pointer (some ⟨R, 0, none⟩) := hS 2 (by decide)
     have e3 : vals 3 = .pointer (some ⟨R, 1, none⟩) := hS 3 (by decide)
     have e4 : vals 4 = .int .i64 s3.1 := hS 4 (by decide)
     have e6 : vals 6 = .int .i64 s3.1 := hS 6 (by decide)
     have e7 : vals 7 = .int .i64 0 := hS 7 (by decide)
     clear hS
     dsimp only [over]
     rw [e6, e7]
     have hMc := hMb.below hB
     have hFc := hFb.below hB
     have hdc := hdb.below hB (Nat.le_refl _)
     go_wp2
     refine bodyPost_ret (results_ctt rfl _ _ T 32 #[.int .i64 X, .int .i64 Z, .slice ra i rc, .slice da dn dc] (0, 0) _ rfl hMc.cT Tryz.underlying32 rfl (by kernel_rfl)) rfl ?_
     unfold RtPost
     rw [HN.out]
     exact ⟨ra, i, rc, ps, da, dn, dc, rfl, hFc.mono (by have := hMc.wS; have := hMc.ST; have := hMc.TR; omega), HPS.out, hdc, hMc.gn.os, hMc.gn.tape, hMc.gn.output, hMc.gn.size, fun j hj => hMc.gn.block j hj (by simp)⟩
  have hinI : (i : Int) < (k : Int) := by omega
  have wi1 : IntKind.i64.wrap ((i : Int) + 1) = ((i + 1 : Nat) : Int) := by rw [IntKind.wrap_i64]; omega
  obtain ⟨⟨hr, rr⟩, hxi⟩ : ∃ x, ps[i]? = some x := ⟨_, List.getElem?_eq_getElem (by rw [← hk.out]; exact hin)⟩
  have HB2 : Hid ((s3.2 || (ps.take (i + 1)).any fun x => rcE cf x.2 != 0) = (bad || rcE cf rr != 0)) := by show _ = _; rw [HB.out, List.take_add_one, hxi, List.any_append]; simp [Bool.or_assoc]
  clear HB
  have hone := hF.rc.one hxi
  have hat := hF.rc
  obtain ⟨G, off, rfl, _, _⟩ := hF.sl.at0 (by omega)
  have r0 := hat.at hxi 0 _ rfl
  have r1 := hat.at hxi 1 _ rfl
  have r2 := hat.at hxi 2 _ rfl
  have r3 := hat.at hxi 3 _ rfl
  have r4 := hat.at hxi 4 _ rfl
  have r5 := hat.at hxi 5 _ rfl
  have r6 := hat.at hxi 6 _ rfl
  simp only [Nat.add_zero] at r0
  clear hat
  have CO := Lib.hid (fun W (hb : Below wr.heap.size wr W) => rccheck_any cf hr rr W (hone.below hb (Nat.le_refl _)))
  dsimp only [cfgV, rcV] at CO
  clear hone
  have hRn := World.alloc_heap_new wr (.cells #[.int .i64 rr.x0, .int .i64 rr.z0, .int .i64 rr.x1, .int .i64 rr.z1, .int .i64 rr.area, .slice hr.ya rr.ys.length hr.yc, .slice hr.ta rr.ts.length hr.tc] 52 (0, 0))
  have p0 := hcell (k := 0) (v := .int .i64 rr.x0) hRn rfl
  have p1 := hcell (k := 1) (v := .int .i64 rr.z0) hRn rfl
  have p2 := hcell (k := 2) (v := .int .i64 rr.x1) hRn rfl
  have p3 := hcell (k := 3) (v := .int .i64 rr.z1) hRn rfl
  have p4 := hcell (k := 4) (v := .int .i64 rr.area) hRn rfl
  have p5 := hcell (k := 5) (v := .slice hr.ya rr.ys.length hr.yc) hRn rfl
  have p6 := hcell (k := 6) (v := .slice hr.ta rr.ts.length hr.tc) hRn rfl
  have hbA : Below wr.heap.size wr (wr.alloc (.cells #[.int .i64 rr.x0, .int .i64 rr.z0, .int .i64 rr.x1, .int .i64 rr.z1, .int .i64 rr.area, .slice hr.ya rr.ys.length hr.yc, .slice hr.ta rr.ts.length hr.tc] 52 (0, 0))) := (Below.refl _ _).alloc (Nat.le_refl _) _
  obtain ⟨P, hP⟩ : ∃ P, P = wr.heap.size := ⟨_, rfl⟩
  obtain ⟨W4, hW4⟩ : ∃ W, W = wr.alloc (.cells #[.int .i64 rr.x0, .int .i64 rr.z0, .int .i64 rr.x1, .int .i64 rr.z1, .int .i64 rr.area, .slice hr.ya rr.ys.length hr.yc, .slice hr.ta rr.ts.length hr.tc] 52 (0, 0)) := ⟨_, rfl⟩
  rw [← hW4] at hRn hbA p0 p1 p2 p3 p4 p5 p6
  rw [← hP] at p0 p1 p2 p3 p4 p5 p6
  have hM4 := hM.below hbA
  have hF4 := hF.below hbA
  have CO4 := Lib.hid (CO.out W4 hbA)
  clear CO hRn hbA hM hF
  go_upto_region 11 with fail
  rw [← hW4, ← hP]
  clear r0 r1 r2 r3 r4 r5 r6 hW4 hP
  have f2 := hfroz (k := 2) hM4.rd.blk
  have b2 := hcell (k := 2) (v := .bool bad) hM4.rd.blk rfl
  cases bad with
  | true =>
   have e2 := setCell_id (i := 2) (v := .bool true) hM4.rd.blk rfl
   have HB3 : Hid (true = (s3.2 || (ps.take (i + 1)).any fun x => rcE cf x.2 != 0)) := by show _ = _; rw [HB2.out]; rfl
   clear HB2 CO4 p0 p1 p2 p3 p4 p5 p6
   go_wp2_with fail
   go_roundw
   case rel => exact ⟨i + 1, true, by go_num, by omega, hM4, hF4, HB3⟩
   case measure => simp [intOf]; omega
  | false =>
   have c0 := hcell (k := 0) (v := .int .i64 cf.clear) hM4.cS rfl
   have c1 := hcell (k := 1) (v := .int .i64 cf.climb) hM4.cS rfl
   have c2 := hcell (k := 2) (v := .int .i64 cf.height) hM4.cS rfl
   have c3 := hcell (k := 3) (v := .int .i64 cf.rise) hM4.cS rfl
   have c4 := hcell (k := 4) (v := .int .i64 cf.run) hM4.cS rfl
   have c5 := hcell (k := 5) (v := .int .i64 cf.w) hM4.cS rfl
   have c6 := hcell (k := 6) (v := .int .i64 cf.d) hM4.cS rfl
   go_wp2_with fail
   refine CO4.out.mono ?_
   rintro e w5 ⟨rfl, hb5⟩
   have hM5 := hM4.below hb5
   have hF5 := hF4.below hb5
   clear hM4 hF4 CO4 p0 p1 p2 p3 p4 p5 p6 c0 c1 c2 c3 c4 c5 c6 b2 f2 hb5
   have HB3 : Hid ((rcE cf rr != 0) = (s3.2 || (ps.take (i + 1)).any fun x => rcE cf x.2 != 0)) := by show _ = _; rw [HB2.out]; rfl
   have hM6 := hM5.bad (rcE cf rr != 0)
   have hF6 := hF5.kept (grown_set w5 R 2 (.bool (rcE cf rr != 0))) (fun j hj => by cases hj; exact hRB)
   have f2 := hfroz (k := 2) hM5.rd.blk
   have b2 := hcell (k := 2) (v := .bool false) hM5.rd.blk rfl
   clear HB2
   go_wp2_with fail
   go_roundw
   case rel => exact ⟨i + 1, _, by go_num, by omega, hM6, hF6, HB3⟩
   case measure => simp [intOf]; omega
end Go.Proofs.YtgfmdgiepomkiaaGreat
