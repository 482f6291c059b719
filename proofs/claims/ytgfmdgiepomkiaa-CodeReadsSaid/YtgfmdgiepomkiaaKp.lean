/- Memory while the reference reads a rectangle, a tile. -/
import Derived.Test.YtgfmdgiepomkiaaKm
import Derived.Test.YtgfmdgiepomkiaaKq
import Derived.Test.YtgfmdgiepomkiaaQck
import Derived.Test.YtgfmdgiepomkiaaQbd
namespace Go.Proofs.Ytgfmdgiepomkiaa
open Go.RowKit Go.Sort

/-- While a rectangle is read. w: as it was at the beginning; P the rectangle's block, rb the reader's. -/
structure RctV (w : World) (B P rb : Nat) (a : Option Addr) (n c : Nat) (xs : List Int) (x0 z0 x1 z1 ar : Int) (v5 v6 : Value) (st : RS) (vY vT : Value) (ys ts : List Int) (W : World) : Prop where
  gb : w.grownBy W (some rb)
  bk : W.heap[P]? = some (.cells #[.int .i64 x0, .int .i64 z0, .int .i64 x1, .int .i64 z1, .int .i64 ar, v5, v6] 55 (0, 0))
  rd : RdAt 76 (fun b => !b) W rb a n c xs st
  y : OwnI .i64 3 B W vY ys.length ys
  t : OwnI .i64 3 B W vT ts.length ts
  ap : ∀ j, vY.ownBlock = some j → vT.ownBlock ≠ some j
  rP : rb < P
  wP : w.heap.size ≤ P
  PB : P < B
section
variable {w : World} {B P rb : Nat} {a : Option Addr} {n c : Nat} {xs : List Int} {x0 z0 x1 z1 ar : Int} {v5 v6 : Value} {st : RS} {vY vT : Value} {ys ts : List Int} {W W' : World}
theorem RctV.neP (h : RctV w B P rb a n c xs x0 z0 x1 z1 ar v5 v6 st vY vT ys ts W) : vY.ownBlock ≠ some P ∧ vT.ownBlock ≠ some P ∧ vY.ownBlock ≠ some rb ∧ vT.ownBlock ≠ some rb := by
  have h1 := h.y.le
  have h2 := h.t.le
  have h3 := h.PB
  have h4 := h.rP
  refine ⟨fun e => ?_, fun e => ?_, fun e => ?_, fun e => ?_⟩
  · have := h1 _ e; omega
  · have := h2 _ e; omega
  · have := h1 _ e; omega
  · have := h2 _ e; omega
theorem RctV.alloc (h : RctV w B P rb a n c xs x0 z0 x1 z1 ar v5 v6 st vY vT ys ts W) (o : Obj) : RctV w B P rb a n c xs x0 z0 x1 z1 ar v5 v6 st vY vT ys ts (W.alloc o) :=
  ⟨gb_alloc h.gb o, halloc h.bk o, h.rd.alloc o, h.y.alloc o, h.t.alloc o, h.ap, h.rP, h.wP, h.PB⟩
theorem RctV.drew (h : RctV w B P rb a n c xs x0 z0 x1 z1 ar v5 v6 st vY vT ys ts W) : RctV w B P rb a n c xs x0 z0 x1 z1 ar v5 v6 st vY vT ys ts W.drew :=
  ⟨h.gb.drew, h.bk, h.rd.drew, OwnI.drewN h.y 1, OwnI.drewN h.t 1, h.ap, h.rP, h.wP, h.PB⟩
theorem RctV.call (h : RctV w B P rb a n c xs x0 z0 x1 z1 ar v5 v6 st vY vT ys ts W) {st' : RS} (hr : RdAt 76 (fun b => !b) W' rb a n c xs st') (hg : W.grownBy W' (some rb)) : RctV w B P rb a n c xs x0 z0 x1 z1 ar v5 v6 st' vY vT ys ts W' :=
  ⟨h.gb.trans hg, blk_keep hg h.bk h.rP, hr, h.y.kept hg (.inr h.neP.2.2.1), h.t.kept hg (.inr h.neP.2.2.2), h.ap, h.rP, h.wP, h.PB⟩
theorem RctV.appY (h : RctV w B P rb a n c xs x0 z0 x1 z1 ar v5 v6 st vY vT ys ts W) {v' : Value} {y : Int} (ho : OwnI .i64 3 B W' v' (ys.length + 1) (ys ++ [y])) (hp : Appd W W' vY v') : RctV w B P rb a n c xs x0 z0 x1 z1 ar v5 v6 st v' vT (ys ++ [y]) ts W' := by
  obtain ⟨n1, n2, n3, n4⟩ := h.neP
  refine ⟨World.grownBy.andThen h.gb hp.grown (fun j hj => .inl (by have := h.y.le j hj; have := h.wP; have := h.PB; omega)), hgrown hp.grown h.bk n1, h.rd.grown hp.grown (fun j hj => by have := h.y.le j hj; have := h.rP; have := h.PB; omega), ?_, h.t.kept hp.grown ?_, ?_, h.rP, h.wP, h.PB⟩
  · rw [List.length_append]
    exact ho
  · by_cases e : vT.ownBlock = none
    · exact .inl e
    · refine .inr fun e2 => ?_
      obtain ⟨j, hj⟩ := Option.ne_none_iff_exists'.1 e
      exact h.ap j (e2.symm.trans hj) hj
  · intro j hj e
    rcases hp.own with h1 | h1
    · exact h.ap j (h1.symm.trans hj) e
    · have := h1 j hj
      have := (h.t.lt j e).2
      omega
theorem RctV.appT (h : RctV w B P rb a n c xs x0 z0 x1 z1 ar v5 v6 st vY vT ys ts W) {v' : Value} {y : Int} (ho : OwnI .i64 3 B W' v' (ts.length + 1) (ts ++ [y])) (hp : Appd W W' vT v') : RctV w B P rb a n c xs x0 z0 x1 z1 ar v5 v6 st vY v' ys (ts ++ [y]) W' := by
  obtain ⟨n1, n2, n3, n4⟩ := h.neP
  refine ⟨World.grownBy.andThen h.gb hp.grown (fun j hj => .inl (by have := h.t.le j hj; have := h.wP; have := h.PB; omega)), hgrown hp.grown h.bk n2, h.rd.grown hp.grown (fun j hj => by have := h.t.le j hj; have := h.rP; have := h.PB; omega), h.y.kept hp.grown ?_, ?_, ?_, h.rP, h.wP, h.PB⟩
  · by_cases e : vY.ownBlock = none
    · exact .inl e
    · refine .inr fun e2 => ?_
      obtain ⟨j, hj⟩ := Option.ne_none_iff_exists'.1 e
      exact h.ap j hj (e2.symm.trans hj)
  · rw [List.length_append]
    exact ho
  · intro j hj e
    rcases hp.own with h1 | h1
    · exact h.ap j hj (h1.symm.trans e)
    · have := h1 j e
      have := (h.y.lt j hj).2
      omega
theorem RctV.set0 (h : RctV w B P rb a n c xs x0 z0 x1 z1 ar v5 v6 st vY vT ys ts W) (u : Int) : RctV w B P rb a n c xs u z0 x1 z1 ar v5 v6 st vY vT ys ts (W.setCell ⟨P, 0, none⟩ (.int .i64 u)) :=
  ⟨gb_set h.gb h.wP 0 _, heap_setCell_same W P 0 _ _ (.int .i64 u) h.bk, h.rd.set h.rP 0 _, h.y.kept (grown_set W P 0 _) (.inr h.neP.1), h.t.kept (grown_set W P 0 _) (.inr h.neP.2.1), h.ap, h.rP, h.wP, h.PB⟩
theorem RctV.set1 (h : RctV w B P rb a n c xs x0 z0 x1 z1 ar v5 v6 st vY vT ys ts W) (u : Int) : RctV w B P rb a n c xs x0 u x1 z1 ar v5 v6 st vY vT ys ts (W.setCell ⟨P, 1, none⟩ (.int .i64 u)) :=
  ⟨gb_set h.gb h.wP 1 _, heap_setCell_same W P 1 _ _ (.int .i64 u) h.bk, h.rd.set h.rP 1 _, h.y.kept (grown_set W P 1 _) (.inr h.neP.1), h.t.kept (grown_set W P 1 _) (.inr h.neP.2.1), h.ap, h.rP, h.wP, h.PB⟩
theorem RctV.set2 (h : RctV w B P rb a n c xs x0 z0 x1 z1 ar v5 v6 st vY vT ys ts W) (u : Int) : RctV w B P rb a n c xs x0 z0 u z1 ar v5 v6 st vY vT ys ts (W.setCell ⟨P, 2, none⟩ (.int .i64 u)) :=
  ⟨gb_set h.gb h.wP 2 _, heap_setCell_same W P 2 _ _ (.int .i64 u) h.bk, h.rd.set h.rP 2 _, h.y.kept (grown_set W P 2 _) (.inr h.neP.1), h.t.kept (grown_set W P 2 _) (.inr h.neP.2.1), h.ap, h.rP, h.wP, h.PB⟩
theorem RctV.set3 (h : RctV w B P rb a n c xs x0 z0 x1 z1 ar v5 v6 st vY vT ys ts W) (u : Int) : RctV w B P rb a n c xs x0 z0 x1 u ar v5 v6 st vY vT ys ts (W.setCell ⟨P, 3, none⟩ (.int .i64 u)) :=
  ⟨gb_set h.gb h.wP 3 _, heap_setCell_same W P 3 _ _ (.int .i64 u) h.bk, h.rd.set h.rP 3 _, h.y.kept (grown_set W P 3 _) (.inr h.neP.1), h.t.kept (grown_set W P 3 _) (.inr h.neP.2.1), h.ap, h.rP, h.wP, h.PB⟩
theorem RctV.set4 (h : RctV w B P rb a n c xs x0 z0 x1 z1 ar v5 v6 st vY vT ys ts W) (u : Int) : RctV w B P rb a n c xs x0 z0 x1 z1 u v5 v6 st vY vT ys ts (W.setCell ⟨P, 4, none⟩ (.int .i64 u)) :=
  ⟨gb_set h.gb h.wP 4 _, heap_setCell_same W P 4 _ _ (.int .i64 u) h.bk, h.rd.set h.rP 4 _, h.y.kept (grown_set W P 4 _) (.inr h.neP.1), h.t.kept (grown_set W P 4 _) (.inr h.neP.2.1), h.ap, h.rP, h.wP, h.PB⟩
theorem RctV.set5 (h : RctV w B P rb a n c xs x0 z0 x1 z1 ar v5 v6 st vY vT ys ts W) (u : Value) : RctV w B P rb a n c xs x0 z0 x1 z1 ar u v6 st vY vT ys ts (W.setCell ⟨P, 5, none⟩ u) :=
  ⟨gb_set h.gb h.wP 5 u, heap_setCell_same W P 5 _ _ u h.bk, h.rd.set h.rP 5 u, h.y.kept (grown_set W P 5 u) (.inr h.neP.1), h.t.kept (grown_set W P 5 u) (.inr h.neP.2.1), h.ap, h.rP, h.wP, h.PB⟩
theorem RctV.set6 (h : RctV w B P rb a n c xs x0 z0 x1 z1 ar v5 v6 st vY vT ys ts W) (u : Value) : RctV w B P rb a n c xs x0 z0 x1 z1 ar v5 u st vY vT ys ts (W.setCell ⟨P, 6, none⟩ u) :=
  ⟨gb_set h.gb h.wP 6 u, heap_setCell_same W P 6 _ _ u h.bk, h.rd.set h.rP 6 u, h.y.kept (grown_set W P 6 u) (.inr h.neP.1), h.t.kept (grown_set W P 6 u) (.inr h.neP.2.1), h.ap, h.rP, h.wP, h.PB⟩
theorem Frq.newV (h : RctV w B P rb a n c xs x0 z0 x1 z1 ar v5 v6 st vY vT ys ts W) (y : Int) : Frq P rb y vY vT W.heap.size (W.alloc (.cells #[.int .i64 y] 3 (0, 0))) := by
  have h1 := hblt h.bk
  have h2 := h.rP
  refine ⟨World.alloc_heap_new _ _, by omega, by omega, fun e => ?_, fun e => ?_⟩
  · have := (h.y.lt _ e).2; omega
  · have := (h.t.lt _ e).2; omega
end
/-- While a tile is read. w: as it was at the beginning; S holds the config, T the answer's tile, R the reader, Q the tile that is read. -/
structure RfAt (w : World) (cf : Cfg) (S T R Q : Nat) (a : Option Addr) (n c : Nat) (xs : List Int) (vT vQ : Array Value) (st : RS) (W : World) : Prop where
  gn : w.grownBy W none
  cS : W.heap[S]? = some (cfO cf)
  cT : W.heap[T]? = some (.cells vT 27 (0, 0))
  rd : RdAt 76 (fun b => !b) W R a n c xs st
  cQ : W.heap[Q]? = some (.cells vQ 27 (0, 0))
  wS : w.heap.size ≤ S
  ST : S < T
  TR : T < R
  RQ : R < Q
  far : n = 0 ∨ ∀ ad, a = some ad → ad.block < S
section
variable {w : World} {cf : Cfg} {S T R Q : Nat} {a : Option Addr} {n c : Nat} {xs : List Int} {vT vQ : Array Value} {st : RS} {W W' : World}
theorem RfAt.kept (h : RfAt w cf S T R Q a n c xs vT vQ st W) {row : Option Nat} (hg : W.grownBy W' row) (hr : ∀ j, row = some j → Q < j) : RfAt w cf S T R Q a n c xs vT vQ st W' := by
  have h1 := h.wS
  have h2 := h.ST
  have h3 := h.TR
  have h4 := h.RQ
  have key : ∀ k, k ≤ Q → row ≠ some k := fun k hk e => by have := hr k e; omega
  exact ⟨World.grownBy.andThen h.gn hg (fun j hj => .inl (by have := hr j hj; omega)), hgrown hg h.cS (key _ (by omega)), hgrown hg h.cT (key _ (by omega)), h.rd.grown hg (fun j hj => by have := hr j hj; omega), hgrown hg h.cQ (key _ (by omega)), h.wS, h.ST, h.TR, h.RQ, h.far⟩
theorem RfAt.below (h : RfAt w cf S T R Q a n c xs vT vQ st W) (hb : Below W.heap.size W W') : RfAt w cf S T R Q a n c xs vT vQ st W' := h.kept (gb_of_below hb) (fun j hj => by cases hj)
theorem RfAt.alloc (h : RfAt w cf S T R Q a n c xs vT vQ st W) (o : Obj) : RfAt w cf S T R Q a n c xs vT vQ st (W.alloc o) := h.below ((Below.refl _ _).alloc (Nat.le_refl _) o)
theorem RfAt.drew (h : RfAt w cf S T R Q a n c xs vT vQ st W) : RfAt w cf S T R Q a n c xs vT vQ st W.drew := h.below (Below.refl _ _).drew
theorem RfAt.read (h : RfAt w cf S T R Q a n c xs vT vQ st W) {st' : RS} (hr : RdAt 76 (fun b => !b) W' R a n c xs st') (hg : W.grownBy W' (some R)) : RfAt w cf S T R Q a n c xs vT vQ st' W' := by
  have h1 := h.wS
  have h2 := h.ST
  have h3 := h.TR
  have h4 := h.RQ
  exact ⟨World.grownBy.andThen h.gn hg (fun j hj => by cases hj; exact .inl (by omega)), hgrown hg h.cS (by intro e; cases e; omega), hgrown hg h.cT (by intro e; cases e; omega), hr, hgrown hg h.cQ (by intro e; cases e; omega), h.wS, h.ST, h.TR, h.RQ, h.far⟩
theorem RfAt.setT (h : RfAt w cf S T R Q a n c xs vT vQ st W) (i : Nat) (v : Value) {u : Array Value} (e : vT.setIfInBounds i v = u) : RfAt w cf S T R Q a n c xs u vQ st (W.setCell ⟨T, i, none⟩ v) := by
  have h1 := h.wS
  have h2 := h.ST
  have h3 := h.TR
  have h4 := h.RQ
  have hg := grown_set W T i v
  refine ⟨gb_set h.gn (by omega) i v, hgrown hg h.cS (by intro e; cases e; omega), by rw [← e]; exact heap_setCell_same W T i _ _ v h.cT, ?_, hgrown hg h.cQ (by intro e; cases e; omega), h.wS, h.ST, h.TR, h.RQ, h.far⟩
  exact ⟨hgrown hg h.rd.blk (by intro e; cases e; omega), h.rd.sl.grown' hg (h.far.imp id fun q ad ha e => by have := q ad ha; cases e; omega), h.rd.le, h.rd.ne, h.rd.small, h.rd.byte⟩
theorem RfAt.setQ (h : RfAt w cf S T R Q a n c xs vT vQ st W) (i : Nat) (v : Value) {u : Array Value} (e : vQ.setIfInBounds i v = u) : RfAt w cf S T R Q a n c xs vT u st (W.setCell ⟨Q, i, none⟩ v) := by
  have h1 := h.wS
  have h2 := h.ST
  have h3 := h.TR
  have h4 := h.RQ
  have hg := grown_set W Q i v
  refine ⟨gb_set h.gn (by omega) i v, hgrown hg h.cS (by intro e; cases e; omega), hgrown hg h.cT (by intro e; cases e; omega), h.rd.set (by omega) i v, by rw [← e]; exact heap_setCell_same W Q i _ _ v h.cQ, h.wS, h.ST, h.TR, h.RQ, h.far⟩
theorem RfAt.bad (h : RfAt w cf S T R Q a n c xs vT vQ st W) (b : Bool) : RfAt w cf S T R Q a n c xs vT vQ (st.1, b) (W.setCell ⟨R, 2, none⟩ (.bool (!b))) := h.read (h.rd.setBad b) (grown_set W R 2 _)
end
end Go.Proofs.Ytgfmdgiepomkiaa

namespace Go.Proofs.Ytgfmdgiepomkiaa
open Go.RowKit Go.Sort
attribute [local go_sem] Instr.index

theorem cas10 {P : (i : Nat) → i < 10 → Prop} (h0 : P 0 (by decide)) (h1 : P 1 (by decide)) (h2 : P 2 (by decide)) (h3 : P 3 (by decide)) (h4 : P 4 (by decide)) (h5 : P 5 (by decide)) (h6 : P 6 (by decide)) (h7 : P 7 (by decide)) (h8 : P 8 (by decide)) (h9 : P 9 (by decide)) (i : Nat) (h : i < 10) : P i h := by
  by_cases e : i < 5
  · rcases (by omega : i = 0 ∨ i = 1 ∨ i = 2 ∨ i = 3 ∨ i = 4) with rfl | rfl | rfl | rfl | rfl <;> assumption
  · rcases (by omega : i = 5 ∨ i = 6 ∨ i = 7 ∨ i = 8 ∨ i = 9) with rfl | rfl | rfl | rfl | rfl <;> assumption
theorem cas12 {P : (i : Nat) → i < 12 → Prop} (h0 : P 0 (by decide)) (h1 : P 1 (by decide)) (h2 : P 2 (by decide)) (h3 : P 3 (by decide)) (h4 : P 4 (by decide)) (h5 : P 5 (by decide)) (h6 : P 6 (by decide)) (h7 : P 7 (by decide)) (h8 : P 8 (by decide)) (h9 : P 9 (by decide)) (h10 : P 10 (by decide)) (h11 : P 11 (by decide)) (i : Nat) (h : i < 12) : P i h := by
  by_cases e : i < 6
  · rcases (by omega : i = 0 ∨ i = 1 ∨ i = 2 ∨ i = 3 ∨ i = 4 ∨ i = 5) with rfl | rfl | rfl | rfl | rfl | rfl <;> assumption
  · rcases (by omega : i = 6 ∨ i = 7 ∨ i = 8 ∨ i = 9 ∨ i = 10 ∨ i = 11) with rfl | rfl | rfl | rfl | rfl | rfl <;> assumption
theorem info_intF : (Try.prog.info? 3).map (fun i => (i.zero, i.size, i.bytes)) = some (some (.int .i64 0), 1, 8) := info_intR
set_option maxRecDepth 100000 in
set_option maxHeartbeats 16000000 in
theorem refreadtile_any (w : World) (cf : Cfg) (a : Option Addr) (n c : Nat) (xs : List Int) (hx : SlI .u8 w a n c xs) (hb : ∀ x ∈ xs, 0 ≤ x ∧ x ≤ 255) (hfar : n = 0 ∨ ∀ ad, a = some ad → ad.block < w.heap.size) :
    Calls Try.prog 12 #[cfgV cf, .slice a n c] w (RtPost (rdTile cf xs) w) := by
  have hlen := hx.len
  have hle := hx.le
  have hmax := hx.max
  have CF := Lib.hid (fun W => refcfgcheck_any cf W)
  obtain ⟨V, HV⟩ : ∃ V, Hid (V = rdTile cf xs) := ⟨_, rfl⟩
  rw [← HV.out]
  have HF0 : Hid (cfgOk cf = false → V = ((0, 0, [], []), 0, 20)) := fun h => by rw [HV.out]; unfold rdTile; rw [if_neg (by simp [h])]
  have HF1 : Hid (cfgOk cf = true → 131072 < n → V = ((0, 0, [], []), 0, 3)) := fun h h2 => by rw [HV.out]; unfold rdTile; rw [if_pos h, if_pos (by omega)]
  obtain ⟨⟨X, s1⟩, hX⟩ : ∃ r, r = rdNum xs (0, false) := ⟨_, rfl⟩
  obtain ⟨⟨Z, s2⟩, hZ⟩ : ∃ r, r = rdNum xs s1 := ⟨_, rfl⟩
  obtain ⟨⟨rs, sL⟩, hL⟩ : ∃ r, r = rdList xs 96 (rdRct xs) s2 := ⟨_, rfl⟩
  obtain ⟨⟨Nv, s3⟩, hN⟩ : ∃ r, r = rdUp xs 96 s2 := ⟨_, rfl⟩
  have hNr := rdUp_range (m := 96) (st := s2) (by omega) hb
  rw [← hN] at hNr
  obtain ⟨N, rfl⟩ : ∃ k : Nat, Nv = (k : Int) := ⟨Nv.toNat, by simp only at hNr; omega⟩
  have hN96 : N ≤ 96 := by simp only at hNr; omega
  clear hNr
  have HV0 : Hid ((rs, sL) = rdRows (rdRct xs) N s3) := by show _ = _; rw [hL, rdList, ← hN]; rfl
  have HF2 : Hid (cfgOk cf = true → ¬ 131072 < n → (sL.2 = true ∨ bldE cf rs ≠ 0 ∨ tlE cf X Z rs (bldL cf rs) ≠ 0) → V = ((0, 0, [], []), 0, 200)) := fun h h2 h3 => by
    rw [HV.out]
    refine rt_bad (z := s2) h (by omega) (by rw [← hX, ← hZ]) ?_
    rw [← hX]
    dsimp only
    rw [← hZ, ← hL]
    exact h3
  have HF3 : Hid (cfgOk cf = true → ¬ 131072 < n → sL.2 = false → bldE cf rs = 0 → tlE cf X Z rs (bldL cf rs) = 0 → V = ((X, Z, rs, bldL cf rs), (sL.1 : Int), 0)) := fun h h2 h3 h4 h5 => by
    rw [HV.out]
    have := rt_good (cf := cf) (xs := xs) (z := s2) h (by omega) (by rw [← hX, ← hZ]) (by rw [← hL]; exact h3) (by rw [← hL]; exact h4) (by rw [← hX]; dsimp only; rw [← hZ, ← hL]; exact h5)
    rw [← hX] at this
    dsimp only at this
    rw [← hZ, ← hL] at this
    exact this
  have C1 := Lib.hid (fun R W hW => rfnext_any W R a n c xs (0, false) hW)
  have C2 := Lib.hid (fun R W hW => rfnext_any W R a n c xs s1 hW)
  have C3 := Lib.hid (fun R W hW => rfcount_any 96 W R a n c xs s2 hW)
  rw [← hX] at C1
  rw [← hZ] at C2
  rw [← hN] at C3
  dsimp only at C1 C2 C3
  clear HV hX hZ hL hN
  obtain ⟨S, hS⟩ : ∃ S, S = w.heap.size := ⟨_, rfl⟩
  have hG := gb_alloc (gb_alloc (World.grownBy.refl w none) (cfO cf)) (.cells #[.int .i64 0, .int .i64 0, .slice none 0 0, .slice none 0 0] 27)
  have hC := halloc (World.alloc_heap_new w (cfO cf)) (.cells #[.int .i64 0, .int .i64 0, .slice none 0 0, .slice none 0 0] 27)
  have hT := World.alloc_heap_new (w.alloc (cfO cf)) (.cells #[.int .i64 0, .int .i64 0, .slice none 0 0, .slice none 0 0] 27)
  rw [World.size_alloc] at hT
  have hX := (hx.alloc (cfO cf)).alloc (.cells #[.int .i64 0, .int .i64 0, .slice none 0 0, .slice none 0 0] 27)
  obtain ⟨W1, hW1⟩ : ∃ W, W = (w.alloc (cfO cf)).alloc (.cells #[.int .i64 0, .int .i64 0, .slice none 0 0, .slice none 0 0] 27) := ⟨_, rfl⟩
  rw [← hW1] at hG hC hT hX
  rw [← hS] at hC hT hfar
  obtain ⟨T, hST⟩ : ∃ T, T = S + 1 := ⟨_, rfl⟩
  rw [← hST] at hT
  have HSz := Lib.hid hS
  have HSt := Lib.hid hST
  dsimp only [cfO, cfgV] at hC hW1 ⊢
  dsimp only [cfgV] at CF
  have c0 := hcell (k := 0) (v := .int .i64 cf.clear) hC rfl
  have c1 := hcell (k := 1) (v := .int .i64 cf.climb) hC rfl
  have c2 := hcell (k := 2) (v := .int .i64 cf.height) hC rfl
  have c3 := hcell (k := 3) (v := .int .i64 cf.rise) hC rfl
  have c4 := hcell (k := 4) (v := .int .i64 cf.run) hC rfl
  have c5 := hcell (k := 5) (v := .int .i64 cf.w) hC rfl
  have c6 := hcell (k := 6) (v := .int .i64 cf.d) hC rfl
  clear hx
  go_enter Try.func12, Try.ntmps12
  go_upto_region 1 with fail
  rw [← hW1, ← hS, ← hST]
  clear hW1 hS hST
  go_wp2_with fail
  refine (CF.out _).mono ?_
  rintro e w2 ⟨rfl, hb2⟩
  have hG2 := hG.trans (gb_of_below hb2)
  have hC2 := hkeep hb2 hC
  have hT2 := hkeep hb2 hT
  have hX2 := hX.below hb2 (Nat.le_refl _)
  clear c0 c1 c2 c3 c4 c5 c6 hC hT hb2 hG CF hX
  by_cases hcf : cfgOk cf = true
  case neg =>
    simp only [Bool.not_eq_true] at hcf
    have HN := Lib.hid (HF0.out hcf)
    have hE : cfgE cf = 20 := by unfold cfgE; rw [hcf]; rfl
    have f0 := hfroz (k := 0) hT2
    have z0 := hcell (k := 0) (v := .int .i64 0) hT2 rfl
    have y0 := setCell_id (i := 0) (v := .int .i64 0) hT2 rfl
    have f1 := hfroz (k := 1) hT2
    have z1 := hcell (k := 1) (v := .int .i64 0) hT2 rfl
    have y1 := setCell_id (i := 1) (v := .int .i64 0) hT2 rfl
    have f2 := hfroz (k := 2) hT2
    have z2 := hcell (k := 2) (v := .slice none 0 0) hT2 rfl
    have y2 := setCell_id (i := 2) (v := .slice none 0 0) hT2 rfl
    have f3 := hfroz (k := 3) hT2
    have z3 := hcell (k := 3) (v := .slice none 0 0) hT2 rfl
    have y3 := setCell_id (i := 3) (v := .slice none 0 0) hT2 rfl
    rw [hE]
    go_wp2
    refine bodyPost_ret (results_ctt rfl _ _ T 27 #[.int .i64 0, .int .i64 0, .slice none 0 0, .slice none 0 0] (0, 0) _ rfl hT2 Try.underlying27 rfl (by kernel_rfl)) rfl ?_
    exact rt_none HN.out hG2
  have hE : cfgE cf = 0 := by unfold cfgE; rw [hcf]; rfl
  rw [hE]
  clear hE HF0
  by_cases hn : 131072 < n
  · have HN := Lib.hid (HF1.out hcf hn)
    have hnI : (131072 : Int) < (n : Int) := by omega
    have f0 := hfroz (k := 0) hT2
    have z0 := hcell (k := 0) (v := .int .i64 0) hT2 rfl
    have y0 := setCell_id (i := 0) (v := .int .i64 0) hT2 rfl
    have f1 := hfroz (k := 1) hT2
    have z1 := hcell (k := 1) (v := .int .i64 0) hT2 rfl
    have y1 := setCell_id (i := 1) (v := .int .i64 0) hT2 rfl
    have f2 := hfroz (k := 2) hT2
    have z2 := hcell (k := 2) (v := .slice none 0 0) hT2 rfl
    have y2 := setCell_id (i := 2) (v := .slice none 0 0) hT2 rfl
    have f3 := hfroz (k := 3) hT2
    have z3 := hcell (k := 3) (v := .slice none 0 0) hT2 rfl
    have y3 := setCell_id (i := 3) (v := .slice none 0 0) hT2 rfl
    go_wp2
    refine bodyPost_ret (results_ctt rfl _ _ T 27 #[.int .i64 0, .int .i64 0, .slice none 0 0, .slice none 0 0] (0, 0) _ rfl hT2 Try.underlying27 rfl (by kernel_rfl)) rfl ?_
    exact rt_none HN.out hG2
  have hnI : ¬ (131072 : Int) < (n : Int) := by omega
  have hn' : ¬ n > 131072 := hn
  have HF2 := Lib.hid (HF2.out hcf hn)
  have HF3 := Lib.hid (HF3.out hcf hn)
  clear HF1
  obtain ⟨R, hRd⟩ : ∃ R, R = w2.heap.size := ⟨_, rfl⟩
  have hr3 : RdAt 76 (fun b => !b) (w2.alloc (.cells #[.slice a n c, .int .i64 0, .bool true] 76)) R a n c xs (0, false) :=
    ⟨by rw [hRd]; exact World.alloc_heap_new _ _, hX2.alloc _, Nat.zero_le _, hfar.imp id fun q ad ha => by have := q ad ha; have := hblt hC2; omega, by omega, hb⟩
  have hG3 := gb_alloc hG2 (.cells #[.slice a n c, .int .i64 0, .bool true] 76)
  have hC3 := halloc hC2 (.cells #[.slice a n c, .int .i64 0, .bool true] 76)
  have hT3 := halloc hT2 (.cells #[.slice a n c, .int .i64 0, .bool true] 76)
  have hTR : T < R := by rw [hRd]; exact hblt hT2
  have hwR : w.heap.size ≤ R := by have := HSz.out; have := HSt.out; omega
  obtain ⟨W3, hW3⟩ : ∃ W, W = w2.alloc (.cells #[.slice a n c, .int .i64 0, .bool true] 76) := ⟨_, rfl⟩
  rw [← hW3] at hr3 hG3 hC3 hT3
  clear hX2 hG2 hC2 hT2
  go_upto_region 6 with fail
  rw [← hRd, ← hW3]
  clear hRd hW3
  go_wp2_with fail
  refine (C1.out R _ hr3).mono ?_
  rintro e w4 ⟨rfl, hr4, hg4⟩
  go_wp2_with fail
  refine (C2.out R _ hr4).mono ?_
  rintro e w5 ⟨rfl, hr5, hg5⟩
  have hG5 := World.grownBy.andThen hG3 (hg4.trans hg5) (fun j hj => by cases hj; exact .inl hwR)
  have hC5 := hgrown (hg4.trans hg5) hC3 (by have := HSt.out; intro e; cases e; omega)
  have hT5 := hgrown (hg4.trans hg5) hT3 (by intro e; cases e; omega)
  clear hr3 hr4 hg4 hg5 hG3 hC3 hT3 C1 C2
  have hM : RfAt w cf S T R w5.heap.size a n c xs #[.int .i64 0, .int .i64 0, .slice none 0 0, .slice none 0 0] #[.int .i64 X, .int .i64 Z, .slice none 0 0, (.slice none 0 0)] s2 (w5.alloc (.cells #[.int .i64 X, .int .i64 Z, .slice none 0 0, (.slice none 0 0)] 27 (0, 0))) :=
    ⟨gb_alloc hG5 _, halloc hC5 _, halloc hT5 _, hr5.alloc _, World.alloc_heap_new _ _, by have := HSz.out; omega, by have := HSt.out; omega, hTR, hr5.lt, hfar⟩
  obtain ⟨Q, hQd⟩ : ∃ Q, Q = w5.heap.size := ⟨_, rfl⟩
  obtain ⟨W6, hW6⟩ : ∃ W, W = w5.alloc (.cells #[.int .i64 X, .int .i64 Z, .slice none 0 0, (.slice none 0 0)] 27 (0, 0)) := ⟨_, rfl⟩
  rw [← hQd, ← hW6] at hM
  clear hG5 hC5 hT5 hr5
  go_upto_region 7 with fail
  rw [← hQd, ← hW6]
  clear hQd hW6
  go_wp2_with fail
  refine (C3.out R _ hM.rd).mono ?_
  rintro e w7 ⟨rfl, hr7, hg7⟩
  have hM7 := hM.read hr7 hg7
  clear hr7 hg7 C3 hM
  obtain ⟨B, hBd⟩ : ∃ B, B = Q + 1 := ⟨_, rfl⟩
  have HBd := Lib.hid hBd
  clear hBd
  go_wp2_with fail
  go_loopw [10] (fun s wr => ∃ (i j : Nat) (v : Value) (l : List (RHd × Rc)) (s' : RS), s = .int .i64 i ∧ i + j = N ∧ l.length = i ∧ RfAt w cf S T R Q a n c xs #[.int .i64 0, .int .i64 0, .slice none 0 0, .slice none 0 0] #[.int .i64 X, .int .i64 Z, v, (.slice none 0 0)] s' wr ∧ OwnR rcF7 7 55 B wr v l.length l ∧ (∀ x ∈ l, RcFar B v wr x) ∧ Hid (sL = (rdRows (rdRct xs) j s').2) ∧ Hid (rs = l.map Prod.snd ++ (rdRows (rdRct xs) j s').1)) (fun s _ => N - (intOf s).toNat)
  case atStart => exact ⟨0, N, _, [], s3, rfl, by omega, rfl, hM7, OwnR.nil _ _ _ _ _, by simp, by show _ = _; rw [← HV0.out], by show _ = _; rw [← HV0.out]; rfl⟩
  case round =>
  clear hM7 HV0
  obtain ⟨i, j, v, l, ⟨p, bad⟩, rfl, hij, hli, hM, ho, hfl, HE, HE2⟩ := hrel
  obtain ⟨la, lc, rfl, hsl⟩ := ho.reads rcF7_len
  have hTR := hM.TR
  have hRQ := hM.RQ
  have hBQ := HBd.out
  cases bad with
  | true =>
    replace HE : Hid (sL = (p, true)) := by show _ = _; rw [HE.out, rows_nil (.inr rfl)]
    clear HE2 HF3 ho hfl hsl
    by_cases hj : j = 0
    · have hiI : ¬ (i : Int) < (N : Int) := by omega
      have hiN : ¬ i < N := by omega
      have HN : Hid (V = ((0, 0, [], []), 0, 200)) := HF2.out (.inl (by rw [HE.out]))
      have c0 := hcell (k := 0) (v := .int .i64 cf.clear) hM.cS rfl
      have c1 := hcell (k := 1) (v := .int .i64 cf.climb) hM.cS rfl
      have c2 := hcell (k := 2) (v := .int .i64 cf.height) hM.cS rfl
      have c3 := hcell (k := 3) (v := .int .i64 cf.rise) hM.cS rfl
      have c4 := hcell (k := 4) (v := .int .i64 cf.run) hM.cS rfl
      have c5 := hcell (k := 5) (v := .int .i64 cf.w) hM.cS rfl
      have c6 := hcell (k := 6) (v := .int .i64 cf.d) hM.cS rfl
      have f0 := hfroz (k := 0) hM.cT
      have z0 := hcell (k := 0) (v := .int .i64 0) hM.cT rfl
      have y0 := setCell_id (i := 0) (v := .int .i64 0) hM.cT rfl
      have f1 := hfroz (k := 1) hM.cT
      have z1 := hcell (k := 1) (v := .int .i64 0) hM.cT rfl
      have y1 := setCell_id (i := 1) (v := .int .i64 0) hM.cT rfl
      have f2 := hfroz (k := 2) hM.cT
      have z2 := hcell (k := 2) (v := .slice none 0 0) hM.cT rfl
      have y2 := setCell_id (i := 2) (v := .slice none 0 0) hM.cT rfl
      have f3 := hfroz (k := 3) hM.cT
      have z3 := hcell (k := 3) (v := .slice none 0 0) hM.cT rfl
      have y3 := setCell_id (i := 3) (v := .slice none 0 0) hM.cT rfl
      have b2 := hcell (k := 2) (v := .bool false) hM.rd.blk rfl
      have t2 := hcell (k := 2) (v := .slice la l.length lc) hM.cQ rfl
      have hG := hM.gn
      have hTc := hM.cT
      go_wp2_with fail
      go_loopw [16] (fun s wx => s = .int .i64 0 ∧ wx = wr) (fun _ _ => 0)
      case atStart => exact ⟨rfl, rfl⟩
      case round =>
        obtain ⟨rfl, rfl⟩ := hrel
        by_cases hl0 : l.length = 0
        · have hl0I : ¬ (0 : Int) < (l.length : Int) := by omega
          have hl0N : ¬ 0 < l.length := by omega
          go_wp2
          refine bodyPost_ret (results_ctt rfl _ _ T 27 #[.int .i64 0, .int .i64 0, .slice none 0 0, .slice none 0 0] (0, 0) _ rfl hTc Try.underlying27 rfl (by kernel_rfl)) rfl ?_
          exact rt_none HN.out hG
        · have hl0I : (0 : Int) < (l.length : Int) := by omega
          have hl0N : 0 < l.length := by omega
          go_wp2
          refine bodyPost_ret (results_ctt rfl _ _ T 27 #[.int .i64 0, .int .i64 0, .slice none 0 0, .slice none 0 0] (0, 0) _ rfl hTc Try.underlying27 rfl (by kernel_rfl)) rfl ?_
          exact rt_none HN.out hG
    · have hiI : (i : Int) < (N : Int) := by omega
      have hiN : i < N := by omega
      have HN : Hid (V = ((0, 0, [], []), 0, 200)) := HF2.out (.inl (by rw [HE.out]))
      have c0 := hcell (k := 0) (v := .int .i64 cf.clear) hM.cS rfl
      have c1 := hcell (k := 1) (v := .int .i64 cf.climb) hM.cS rfl
      have c2 := hcell (k := 2) (v := .int .i64 cf.height) hM.cS rfl
      have c3 := hcell (k := 3) (v := .int .i64 cf.rise) hM.cS rfl
      have c4 := hcell (k := 4) (v := .int .i64 cf.run) hM.cS rfl
      have c5 := hcell (k := 5) (v := .int .i64 cf.w) hM.cS rfl
      have c6 := hcell (k := 6) (v := .int .i64 cf.d) hM.cS rfl
      have f0 := hfroz (k := 0) hM.cT
      have z0 := hcell (k := 0) (v := .int .i64 0) hM.cT rfl
      have y0 := setCell_id (i := 0) (v := .int .i64 0) hM.cT rfl
      have f1 := hfroz (k := 1) hM.cT
      have z1 := hcell (k := 1) (v := .int .i64 0) hM.cT rfl
      have y1 := setCell_id (i := 1) (v := .int .i64 0) hM.cT rfl
      have f2 := hfroz (k := 2) hM.cT
      have z2 := hcell (k := 2) (v := .slice none 0 0) hM.cT rfl
      have y2 := setCell_id (i := 2) (v := .slice none 0 0) hM.cT rfl
      have f3 := hfroz (k := 3) hM.cT
      have z3 := hcell (k := 3) (v := .slice none 0 0) hM.cT rfl
      have y3 := setCell_id (i := 3) (v := .slice none 0 0) hM.cT rfl
      have b2 := hcell (k := 2) (v := .bool false) hM.rd.blk rfl
      have t2 := hcell (k := 2) (v := .slice la l.length lc) hM.cQ rfl
      have hG := hM.gn
      have hTc := hM.cT
      go_wp2_with fail
      go_loopw [16] (fun s wx => s = .int .i64 0 ∧ wx = wr) (fun _ _ => 0)
      case atStart => exact ⟨rfl, rfl⟩
      case round =>
        obtain ⟨rfl, rfl⟩ := hrel
        by_cases hl0 : l.length = 0
        · have hl0I : ¬ (0 : Int) < (l.length : Int) := by omega
          have hl0N : ¬ 0 < l.length := by omega
          go_wp2
          refine bodyPost_ret (results_ctt rfl _ _ T 27 #[.int .i64 0, .int .i64 0, .slice none 0 0, .slice none 0 0] (0, 0) _ rfl hTc Try.underlying27 rfl (by kernel_rfl)) rfl ?_
          exact rt_none HN.out hG
        · have hl0I : (0 : Int) < (l.length : Int) := by omega
          have hl0N : 0 < l.length := by omega
          go_wp2
          refine bodyPost_ret (results_ctt rfl _ _ T 27 #[.int .i64 0, .int .i64 0, .slice none 0 0, .slice none 0 0] (0, 0) _ rfl hTc Try.underlying27 rfl (by kernel_rfl)) rfl ?_
          exact rt_none HN.out hG
  | false =>
  have b2 := hcell (k := 2) (v := .bool true) hM.rd.blk rfl
  by_cases hj : j = 0
  · subst hj
    have HE3 : Hid (sL = (p, false)) := by show _ = _; rw [HE.out, rows_nil (.inl rfl)]
    have HE4 : Hid (l.map Prod.snd = rs) := by show _ = _; rw [HE2.out, rows_nil (.inl rfl)]; simp
    clear HE HE2
    have hiI : ¬ (i : Int) < (N : Int) := by omega
    have hiN : ¬ i < N := by omega
    have hoB := ho.le
    have hF0 : RsFar B la l.length lc l wr := ⟨hsl, fun d hd => by subst hd; exact hoB _ rfl, fun x hx => ⟨(hfl x hx).sl, fun ad had => ⟨((hfl x hx).y ad had).1, ((hfl x hx).y ad had).2.1, by simp [Value.ownBlock]⟩, fun ad had => ⟨((hfl x hx).t ad had).1, ((hfl x hx).t ad had).2.1, by simp [Value.ownBlock]⟩⟩⟩
    obtain ⟨k, hk⟩ : ∃ k, k = l.length := ⟨_, rfl⟩
    have hk96 : k ≤ 96 := by omega
    rw [← hk] at hM hF0
    have HK := Lib.hid hk
    have HF2 := Lib.hid (fun h => HF2.out (.inr h))
    have HF3 := Lib.hid (HF3.out (by rw [HE3.out]))
    rw [show (sL.1 : Nat) = p from by rw [HE3.out]] at HF3
    have HRB : Hid (R < B) := by show _ < _; omega
    have HTB : Hid (T < B) := by show _ < _; omega
    clear hk hli ho hfl hsl hoB HE3 hij
    obtain ⟨wo, hwo⟩ : ∃ W : World, W = wr := ⟨_, rfl⟩
    subst hwo
    go_wp2_with fail
    clear b2
    go_loopw [16] (fun s wx => ∃ (m : Nat) (bad : Bool), s = .int .i64 m ∧ m ≤ k ∧ RfAt w cf S T R Q a n c xs #[.int .i64 0, .int .i64 0, .slice none 0 0, .slice none 0 0] #[.int .i64 X, .int .i64 Z, (.slice la k lc), (.slice none 0 0)] (p, bad) wx ∧ RsFar B la k lc l wx ∧ Hid (bad = (l.take m).any fun x => rcE cf x.2 != 0)) (fun s _ => k - (intOf s).toNat)
    case atStart => exact ⟨0, false, rfl, Nat.zero_le _, hM, hF0, (by show _ = _; simp)⟩
    case round =>
    clear hM hF0
    obtain ⟨m, bad, rfl, hm, hM, hF0, HB⟩ := hrel
    cases bad with
    | true =>
      have HN : Hid (V = ((0, 0, [], []), 0, 200)) := HF2.out (.inl (by
        rw [← HE4.out]
        refine bldE_any hcf (List.any_eq_true.2 ?_)
        obtain ⟨x, hx, h⟩ := List.any_eq_true.1 HB.out.symm
        exact ⟨x, List.mem_of_mem_take hx, h⟩))
      have b2 := hcell (k := 2) (v := .bool false) hM.rd.blk rfl
      have t2 := hcell (k := 2) (v := .slice la k lc) hM.cQ rfl
      by_cases hmk : m < k
      · have hmI : (m : Int) < (k : Int) := by omega
        have f0 := hfroz (k := 0) hM.cT
        have z0 := hcell (k := 0) (v := .int .i64 0) hM.cT rfl
        have y0 := setCell_id (i := 0) (v := .int .i64 0) hM.cT rfl
        have f1 := hfroz (k := 1) hM.cT
        have z1 := hcell (k := 1) (v := .int .i64 0) hM.cT rfl
        have y1 := setCell_id (i := 1) (v := .int .i64 0) hM.cT rfl
        have f2 := hfroz (k := 2) hM.cT
        have z2 := hcell (k := 2) (v := .slice none 0 0) hM.cT rfl
        have y2 := setCell_id (i := 2) (v := .slice none 0 0) hM.cT rfl
        have f3 := hfroz (k := 3) hM.cT
        have z3 := hcell (k := 3) (v := .slice none 0 0) hM.cT rfl
        have y3 := setCell_id (i := 3) (v := .slice none 0 0) hM.cT rfl
        have HG := Lib.hid hM.gn
        have HTc := Lib.hid hM.cT
        go_wp2
        refine bodyPost_ret (results_ctt rfl _ _ T 27 #[.int .i64 0, .int .i64 0, .slice none 0 0, .slice none 0 0] (0, 0) _ rfl HTc.out Try.underlying27 rfl (by kernel_rfl)) rfl ?_
        exact rt_none HN.out HG.out
      · have hmI : ¬ (m : Int) < (k : Int) := by omega
        have f0 := hfroz (k := 0) hM.cT
        have z0 := hcell (k := 0) (v := .int .i64 0) hM.cT rfl
        have y0 := setCell_id (i := 0) (v := .int .i64 0) hM.cT rfl
        have f1 := hfroz (k := 1) hM.cT
        have z1 := hcell (k := 1) (v := .int .i64 0) hM.cT rfl
        have y1 := setCell_id (i := 1) (v := .int .i64 0) hM.cT rfl
        have f2 := hfroz (k := 2) hM.cT
        have z2 := hcell (k := 2) (v := .slice none 0 0) hM.cT rfl
        have y2 := setCell_id (i := 2) (v := .slice none 0 0) hM.cT rfl
        have f3 := hfroz (k := 3) hM.cT
        have z3 := hcell (k := 3) (v := .slice none 0 0) hM.cT rfl
        have y3 := setCell_id (i := 3) (v := .slice none 0 0) hM.cT rfl
        have HG := Lib.hid hM.gn
        have HTc := Lib.hid hM.cT
        go_wp2
        refine bodyPost_ret (results_ctt rfl _ _ T 27 #[.int .i64 0, .int .i64 0, .slice none 0 0, .slice none 0 0] (0, 0) _ rfl HTc.out Try.underlying27 rfl (by kernel_rfl)) rfl ?_
        exact rt_none HN.out HG.out
    | false =>
    have b2 := hcell (k := 2) (v := .bool true) hM.rd.blk rfl
    have t2 := hcell (k := 2) (v := .slice la k lc) hM.cQ rfl
    by_cases hmk : m < k
    case pos =>
      have hmI : (m : Int) < (k : Int) := by omega
      have wi1 : IntKind.i64.wrap ((m : Int) + 1) = ((m + 1 : Nat) : Int) := by rw [IntKind.wrap_i64]; omega
      obtain ⟨⟨hr, rr⟩, hxi⟩ : ∃ x, l[m]? = some x := ⟨_, List.getElem?_eq_getElem (by rw [← HK.out]; exact hmk)⟩
      have HB3 : Hid ((rcE cf rr != 0) = (l.take (m + 1)).any fun x => rcE cf x.2 != 0) := by show _ = _; rw [List.take_add_one, hxi, List.any_append, ← HB.out]; simp
      obtain ⟨G, off, rfl, _, _⟩ := hF0.sl.at0 (by omega)
      clear HB HF2 HF3
      go_wp2_with fail
      clear b2 t2
      refine wp_region_fun ([none, none, none, none, none, none, none, none, none, none, none, none, none, none, none, none, none, none, none, none, none, none, none, none, none, none, none, none, none, none, none, none, none, none, none, none, none, none, none, none, none, none, none, none, none, none, none, none, none, none, none, none, none, none, none, none, none, none, none, none, none, none, none, none, none, none, none, none, none, none, none, none, none, none, none, none, none, none, none, none, none, none, none, none, none, none, none, none, none, none, none, none, none, none, none, none, none, none, none, none, none, none, none, none, none, none, none, none, none, none, none, none, none, none, none, none, none, none, none, none, none, some 0, some 1, some 2, some 3, some 4, some 5, some 6, some 7, some 8, some 9, some 10, none, none, none, none, none, none, none, none, none, none, none, none, none, none, none, none, none, none, none, none, none, none, none, none, none, none, none, none, none]) (fun (b : Nat → Bool) (vals : Nat → Value) (W : World) => RfAt w cf S T R Q a n c xs #[.int .i64 0, .int .i64 0, .slice none 0 0, .slice none 0 0] #[.int .i64 X, .int .i64 Z, (.slice (some ⟨G, off, none⟩) k lc), (.slice none 0 0)] (p, bif b 11 then rcE cf rr != 0 else false) W ∧ RsFar B (some ⟨G, off, none⟩) k lc l W ∧ (b 0 = true → vals 0 = .pointer (some ⟨R, 0, none⟩)) ∧ (b 1 = true → vals 1 = .agg #[.int .i64 cf.clear, .int .i64 cf.climb, .int .i64 cf.height, .int .i64 cf.rise, .int .i64 cf.run, .int .i64 cf.w, .int .i64 cf.d]) ∧ (b 2 = true → vals 2 = .pointer (some ⟨Q, 2, none⟩)) ∧ (b 3 = true → vals 3 = .slice (some ⟨G, off, none⟩) k lc) ∧ (b 4 = true → vals 4 = .int .i64 (m : Nat)) ∧ (b 5 = true → vals 5 = .pointer (some ⟨G, off + m * 7, none⟩)) ∧ (b 6 = true → vals 6 = .agg #[.int .i64 rr.x0, .int .i64 rr.z0, .int .i64 rr.x1, .int .i64 rr.z1, .int .i64 rr.area, .slice hr.ya rr.ys.length hr.yc, .slice hr.ta rr.ts.length hr.tc]) ∧ (b 7 = true → vals 7 = .int .i64 (rcE cf rr)) ∧ (b 8 = true → vals 8 = .bool (rcE cf rr == 0)) ∧ (b 9 = true → vals 9 = .pointer (some ⟨R, 0, none⟩)) ∧ (b 10 = true → vals 10 = .pointer (some ⟨R, 2, none⟩))) (by kernel_rfl) (by kernel_rfl) (by kernel_rfl) (by kernel_rfl) ?_ ?_ ?_
      · intro vals
        exact ⟨hM.drew, hF0.below (Below.refl _ _).drew, (fun h => by cases (show false = true from h)), (fun h => by cases (show false = true from h)), (fun h => by cases (show false = true from h)), (fun h => by cases (show false = true from h)), (fun h => by cases (show false = true from h)), (fun h => by cases (show false = true from h)), (fun h => by cases (show false = true from h)), (fun h => by cases (show false = true from h)), (fun h => by cases (show false = true from h)), (fun h => by cases (show false = true from h)), (fun h => by cases (show false = true from h))⟩
      · intro Q' K t b vals wi hoff hon i hlt hR hb hd hK
        have hlt : i < 12 := hlt
        obtain ⟨hC, hF, h0, h1, h2, h3, h4, h5, h6, h7, h8, h9, h10⟩ := hR
        revert hb hd hK
        cases i, hlt using cas12
        · intro hb hd hK
          have g7 : t[(7 : Nat)]? = some (.pointer (some ⟨R, 0, none⟩)) := hoff 7 _ rfl rfl
          clear hoff hon hd
          refine wpOp_of rfl rfl ?_
          go_simp
          exact hK.out _ _ ⟨(hC), (hF), (fun _ => rfl), (h1), (h2), (h3), (h4), (h5), (h6), (h7), (h8), (h9), (h10)⟩
        · intro hb hd hK
          have g2 : t[(2 : Nat)]? = some (.pointer (some ⟨S, 0, none⟩)) := hoff 2 _ rfl rfl
          have c0 := hcell (k := 0) (v := .int .i64 cf.clear) hC.cS rfl
          have c1 := hcell (k := 1) (v := .int .i64 cf.climb) hC.cS rfl
          have c2 := hcell (k := 2) (v := .int .i64 cf.height) hC.cS rfl
          have c3 := hcell (k := 3) (v := .int .i64 cf.rise) hC.cS rfl
          have c4 := hcell (k := 4) (v := .int .i64 cf.run) hC.cS rfl
          have c5 := hcell (k := 5) (v := .int .i64 cf.w) hC.cS rfl
          have c6 := hcell (k := 6) (v := .int .i64 cf.d) hC.cS rfl
          clear hoff hon hd
          refine wpOp_of rfl rfl ?_
          go_simp
          exact hK.out _ _ ⟨(hC), (hF), (h0), (fun _ => rfl), (h2), (h3), (h4), (h5), (h6), (h7), (h8), (h9), (h10)⟩
        · intro hb hd hK
          have g8 : t[(8 : Nat)]? = some (.pointer (some ⟨Q, 0, none⟩)) := hoff 8 _ rfl rfl
          clear hoff hon hd
          refine wpOp_of rfl rfl ?_
          go_simp
          exact hK.out _ _ ⟨(hC), (hF), (h0), (h1), (fun _ => rfl), (h3), (h4), (h5), (h6), (h7), (h8), (h9), (h10)⟩
        · intro hb hd hK
          have d2 := hd 2 (by kernel_rfl)
          have g123 : t[(123 : Nat)]? = some (.pointer (some ⟨Q, 2, none⟩)) := (hon 2 123 rfl).trans (congrArg some (h2 d2))
          have q2 := hcell (k := 2) (v := .slice (some ⟨G, off, none⟩) k lc) hC.cQ rfl
          clear hoff hon hd
          refine wpOp_of rfl rfl ?_
          go_simp
          exact hK.out _ _ ⟨(hC), (hF), (h0), (h1), (h2), (fun _ => rfl), (h4), (h5), (h6), (h7), (h8), (h9), (h10)⟩
        · intro hb hd hK
          have g16 : t[(16 : Nat)]? = some (.int .i64 (m : Nat)) := hoff 16 _ rfl rfl
          clear hoff hon hd
          refine wpOp_of rfl rfl ?_
          go_simp
          exact hK.out _ _ ⟨(hC), (hF), (h0), (h1), (h2), (h3), (fun _ => rfl), (h5), (h6), (h7), (h8), (h9), (h10)⟩
        · intro hb hd hK
          have d3 := hd 3 (by kernel_rfl)
          have g124 : t[(124 : Nat)]? = some (.slice (some ⟨G, off, none⟩) k lc) := (hon 3 124 rfl).trans (congrArg some (h3 d3))
          have d4 := hd 4 (by kernel_rfl)
          have g125 : t[(125 : Nat)]? = some (.int .i64 (m : Nat)) := (hon 4 125 rfl).trans (congrArg some (h4 d4))
          clear hoff hon hd
          refine wpOp_of rfl rfl ?_
          go_simp
          exact hK.out _ _ ⟨(hC), (hF), (h0), (h1), (h2), (h3), (h4), (fun _ => rfl), (h6), (h7), (h8), (h9), (h10)⟩
        · intro hb hd hK
          have d5 := hd 5 (by kernel_rfl)
          have g126 : t[(126 : Nat)]? = some (.pointer (some ⟨G, off + m * 7, none⟩)) := (hon 5 126 rfl).trans (congrArg some (h5 d5))
          have hat := hF.rc
          have r0 := hat.at hxi 0 _ rfl
          have r1 := hat.at hxi 1 _ rfl
          have r2 := hat.at hxi 2 _ rfl
          have r3 := hat.at hxi 3 _ rfl
          have r4 := hat.at hxi 4 _ rfl
          have r5 := hat.at hxi 5 _ rfl
          have r6 := hat.at hxi 6 _ rfl
          simp only [Nat.add_zero] at r0
          clear hoff hon hd
          refine wpOp_of rfl rfl ?_
          go_simp
          exact hK.out _ _ ⟨(hC), (hF), (h0), (h1), (h2), (h3), (h4), (h5), (fun _ => rfl), (h7), (h8), (h9), (h10)⟩
        · intro hb hd hK
          have d1 := hd 1 (by kernel_rfl)
          have g122 : t[(122 : Nat)]? = some (.agg #[.int .i64 cf.clear, .int .i64 cf.climb, .int .i64 cf.height, .int .i64 cf.rise, .int .i64 cf.run, .int .i64 cf.w, .int .i64 cf.d]) := (hon 1 122 rfl).trans (congrArg some (h1 d1))
          have d6 := hd 6 (by kernel_rfl)
          have g127 : t[(127 : Nat)]? = some (.agg #[.int .i64 rr.x0, .int .i64 rr.z0, .int .i64 rr.x1, .int .i64 rr.z1, .int .i64 rr.area, .slice hr.ya rr.ys.length hr.yc, .slice hr.ta rr.ts.length hr.tc]) := (hon 6 127 rfl).trans (congrArg some (h6 d6))
          clear hoff hon hd
          refine wpOp_of rfl rfl ?_
          go_simp
          go_at_call 37
          refine (refcheck17_any cf hr rr wi (hF.rc.one hxi)).mono ?_
          rintro e wz ⟨rfl, hbz⟩
          (try go_simp)
          exact hK.out _ _ ⟨(hC.below hbz), (hF.below hbz), (h0), (h1), (h2), (h3), (h4), (h5), (h6), (fun _ => rfl), (h8), (h9), (h10)⟩
        · intro hb hd hK
          have d7 := hd 7 (by kernel_rfl)
          have g128 : t[(128 : Nat)]? = some (.int .i64 (rcE cf rr)) := (hon 7 128 rfl).trans (congrArg some (h7 d7))
          clear hoff hon hd
          refine wpOp_of rfl rfl ?_
          go_simp
          exact hK.out _ _ ⟨(hC), (hF), (h0), (h1), (h2), (h3), (h4), (h5), (h6), (h7), (fun _ => rfl), (h9), (h10)⟩
        · intro hb hd hK
          have d0 := hd 0 (by kernel_rfl)
          have g121 : t[(121 : Nat)]? = some (.pointer (some ⟨R, 0, none⟩)) := (hon 0 121 rfl).trans (congrArg some (h0 d0))
          clear hoff hon hd
          refine wpOp_of rfl rfl ?_
          go_simp
          exact hK.out _ _ ⟨(hC), (hF), (h0), (h1), (h2), (h3), (h4), (h5), (h6), (h7), (h8), (fun _ => rfl), (h10)⟩
        · intro hb hd hK
          have d9 := hd 9 (by kernel_rfl)
          have g130 : t[(130 : Nat)]? = some (.pointer (some ⟨R, 0, none⟩)) := (hon 9 130 rfl).trans (congrArg some (h9 d9))
          clear hoff hon hd
          refine wpOp_of rfl rfl ?_
          go_simp
          exact hK.out _ _ ⟨(hC), (hF), (h0), (h1), (h2), (h3), (h4), (h5), (h6), (h7), (h8), (h9), (fun _ => rfl)⟩
        · intro hb hd hK
          have d10 := hd 10 (by kernel_rfl)
          have g131 : t[(131 : Nat)]? = some (.pointer (some ⟨R, 2, none⟩)) := (hon 10 131 rfl).trans (congrArg some (h10 d10))
          have d8 := hd 8 (by kernel_rfl)
          have g129 : t[(129 : Nat)]? = some (.bool (rcE cf rr == 0)) := (hon 8 129 rfl).trans (congrArg some (h8 d8))
          have hC2 := hC
          rw [hb] at hC2
          have cc := hcell (k := 2) (v := .bool true) hC2.rd.blk rfl
          have ff := hfroz (k := 2) hC2.rd.blk
          have hN : RfAt w cf S T R Q a n c xs #[.int .i64 0, .int .i64 0, .slice none 0 0, .slice none 0 0] #[.int .i64 X, .int .i64 Z, (.slice (some ⟨G, off, none⟩) k lc), (.slice none 0 0)] (p, rcE cf rr != 0) (wi.setCell ⟨R, 2, none⟩ (.bool (rcE cf rr == 0))) := by have := hC2.bad (rcE cf rr != 0); rwa [show (!(rcE cf rr != 0)) = (rcE cf rr == 0) from by unfold bne; exact Bool.not_not _] at this
          clear hoff hon hd hC hC2
          refine wpOp_of rfl rfl ?_
          go_simp
          exact hK.out undef _ ⟨(hN), (hF.kept (grown_set wi R 2 _) (fun j hj => by cases hj; omega)), (h0), (h1), (h2), (h3), (h4), (h5), (h6), (h7), (h8), (h9), (h10)⟩
      · intro b vals wi hR hall
        obtain ⟨hC, hF, h0, h1, h2, h3, h4, h5, h6, h7, h8, h9, h10⟩ := hR
        rw [hall 11 (by decide)] at hC
        replace hC : RfAt w cf S T R Q a n c xs #[.int .i64 0, .int .i64 0, .slice none 0 0, .slice none 0 0] #[.int .i64 X, .int .i64 Z, (.slice (some ⟨G, off, none⟩) k lc), (.slice none 0 0)] (p, rcE cf rr != 0) wi := hC
        clear h0 h1 h2 h3 h4 h5 h6 h7 h8 h9 h10 hall
        dsimp only [over]
        go_wp2_with fail
        go_roundw
        case rel => exact ⟨m + 1, _, by go_num, by omega, hC, hF, HB3⟩
        case measure => simp [intOf]; omega
    case neg =>
      obtain rfl : m = k := by omega
      obtain ⟨k, hk⟩ : ∃ k, k = m := ⟨_, rfl⟩
      subst hk
      have hmI : ¬ (k : Int) < (k : Int) := by omega
      have DB := Lib.hid (fun W (hW : RsFar B la k lc l W) => refbuild18_any cf la k lc l W hW.rc (by omega))
      rw [HE4.out] at DB
      unfold BnPost at DB
      have TC := Lib.hid (fun b m d W (hW : RsFar B la k lc l W) (hd : SlR drC 6 W b m d (bldL cf rs)) => refcheck19_any cf X Z la k lc l b m d (bldL cf rs) W hW.rc hd)
      rw [HE4.out] at TC
      obtain ⟨E, hE⟩ : ∃ E, Hid (E = bldE cf rs) := ⟨_, rfl⟩
      obtain ⟨E2, hE2⟩ : ∃ E, Hid (E = tlE cf X Z rs (bldL cf rs)) := ⟨_, rfl⟩
      rw [← hE.out] at DB HF2 HF3
      rw [← hE2.out] at TC HF2 HF3
      have c0 := hcell (k := 0) (v := .int .i64 cf.clear) hM.cS rfl
      have c1 := hcell (k := 1) (v := .int .i64 cf.climb) hM.cS rfl
      have c2 := hcell (k := 2) (v := .int .i64 cf.height) hM.cS rfl
      have c3 := hcell (k := 3) (v := .int .i64 cf.rise) hM.cS rfl
      have c4 := hcell (k := 4) (v := .int .i64 cf.run) hM.cS rfl
      have c5 := hcell (k := 5) (v := .int .i64 cf.w) hM.cS rfl
      have c6 := hcell (k := 6) (v := .int .i64 cf.d) hM.cS rfl
      dsimp only [cfgV] at DB TC
      go_wp2_with fail
      refine (DB.out _ hF0).mono ?_
      rintro e w9 ⟨da, dc, rfl, hd9, hb9⟩
      have hM9 := hM.below hb9
      have hF9 := hF0.below hb9
      clear hM hF0 hb9 DB c0 c1 c2 c3 c4 c5 c6 t2 b2 HB
      obtain ⟨dn, hdn⟩ : ∃ m, Hid (m = (bldL cf rs).length) := ⟨_, rfl⟩
      rw [← hdn.out] at hd9 ⊢
      have hMa := hM9.setQ 3 (.slice da dn dc) rfl
      have hFa := hF9.kept (grown_set w9 Q 3 (.slice da dn dc)) (fun j hj => by cases hj; omega)
      have hda := hd9.grown0 (grown_set w9 Q 3 (.slice da dn dc)) ((drs_ne hd9 hM9.cQ).imp id fun q ad had e => q ad had (Option.some.inj e).symm)
      have f3 := hfroz (k := 3) hM9.cQ
      have z3 := hcell (k := 3) (v := .slice none 0 0) hM9.cQ rfl
      obtain ⟨Wa, hWa⟩ : ∃ W, W = w9.setCell ⟨Q, 3, none⟩ (.slice da dn dc) := ⟨_, rfl⟩
      rw [← hWa] at hMa hFa hda
      go_upto_region 31 with fail
      rw [← hWa]
      clear hWa f3 z3 hM9 hF9 hd9
      by_cases hE0 : E = 0
      case neg =>
        have hEB : (E != 0) = true := by simpa using hE0
        have HN := Lib.hid (HF2.out (.inl hE0))
        have f0 := hfroz (k := 0) hMa.cT
        have z0 := hcell (k := 0) (v := .int .i64 0) hMa.cT rfl
        have y0 := setCell_id (i := 0) (v := .int .i64 0) hMa.cT rfl
        have f1 := hfroz (k := 1) hMa.cT
        have z1 := hcell (k := 1) (v := .int .i64 0) hMa.cT rfl
        have y1 := setCell_id (i := 1) (v := .int .i64 0) hMa.cT rfl
        have f2 := hfroz (k := 2) hMa.cT
        have z2 := hcell (k := 2) (v := .slice none 0 0) hMa.cT rfl
        have y2 := setCell_id (i := 2) (v := .slice none 0 0) hMa.cT rfl
        have f3 := hfroz (k := 3) hMa.cT
        have z3 := hcell (k := 3) (v := .slice none 0 0) hMa.cT rfl
        have y3 := setCell_id (i := 3) (v := .slice none 0 0) hMa.cT rfl
        have HG := Lib.hid hMa.gn
        have HTc := Lib.hid hMa.cT
        go_wp2
        refine bodyPost_ret (results_ctt rfl _ _ T 27 #[.int .i64 0, .int .i64 0, .slice none 0 0, .slice none 0 0] (0, 0) _ rfl HTc.out Try.underlying27 rfl (by kernel_rfl)) rfl ?_
        exact rt_none HN.out HG.out
      have hEr : E = 0 := hE0
      clear hE0
      replace HF2 := Lib.hid (fun h => HF2.out (.inr h))
      replace HF3 := Lib.hid (HF3.out hEr)
      clear hE
      subst hEr
      have c0 := hcell (k := 0) (v := .int .i64 cf.clear) hMa.cS rfl
      have c1 := hcell (k := 1) (v := .int .i64 cf.climb) hMa.cS rfl
      have c2 := hcell (k := 2) (v := .int .i64 cf.height) hMa.cS rfl
      have c3 := hcell (k := 3) (v := .int .i64 cf.rise) hMa.cS rfl
      have c4 := hcell (k := 4) (v := .int .i64 cf.run) hMa.cS rfl
      have c5 := hcell (k := 5) (v := .int .i64 cf.w) hMa.cS rfl
      have c6 := hcell (k := 6) (v := .int .i64 cf.d) hMa.cS rfl
      have t0 := hcell (k := 0) (v := .int .i64 X) hMa.cQ rfl
      have t1 := hcell (k := 1) (v := .int .i64 Z) hMa.cQ rfl
      have t2 := hcell (k := 2) (v := .slice la k lc) hMa.cQ rfl
      have t3 := hcell (k := 3) (v := .slice da dn dc) hMa.cQ rfl
      go_wp2_with fail
      refine (TC.out _ _ _ _ hFa hda).mono ?_
      rintro e wb ⟨rfl, hbb⟩
      have hMb := hMa.below hbb
      have hFb := hFa.below hbb
      have hdb := hda.below hbb (Nat.le_refl _)
      clear hMa hFa hda hbb TC c0 c1 c2 c3 c4 c5 c6 t0 t1 t2 t3
      by_cases hE0 : E2 = 0
      case neg =>
        have hEB : (E2 != 0) = true := by simpa using hE0
        have HN := Lib.hid (HF2.out hE0)
        have f0 := hfroz (k := 0) hMb.cT
        have z0 := hcell (k := 0) (v := .int .i64 0) hMb.cT rfl
        have y0 := setCell_id (i := 0) (v := .int .i64 0) hMb.cT rfl
        have f1 := hfroz (k := 1) hMb.cT
        have z1 := hcell (k := 1) (v := .int .i64 0) hMb.cT rfl
        have y1 := setCell_id (i := 1) (v := .int .i64 0) hMb.cT rfl
        have f2 := hfroz (k := 2) hMb.cT
        have z2 := hcell (k := 2) (v := .slice none 0 0) hMb.cT rfl
        have y2 := setCell_id (i := 2) (v := .slice none 0 0) hMb.cT rfl
        have f3 := hfroz (k := 3) hMb.cT
        have z3 := hcell (k := 3) (v := .slice none 0 0) hMb.cT rfl
        have y3 := setCell_id (i := 3) (v := .slice none 0 0) hMb.cT rfl
        have HG := Lib.hid hMb.gn
        have HTc := Lib.hid hMb.cT
        go_wp2
        refine bodyPost_ret (results_ctt rfl _ _ T 27 #[.int .i64 0, .int .i64 0, .slice none 0 0, .slice none 0 0] (0, 0) _ rfl HTc.out Try.underlying27 rfl (by kernel_rfl)) rfl ?_
        exact rt_none HN.out HG.out
      have hEB2 : (E2 != 0) = false := by rw [hE0]; rfl
      have HN := Lib.hid (HF3.out hE0)
      clear HF2 HF3
      have hTB := HTB.out
      go_wp2_with fail
      refine wp_region_fun ([none, none, none, none, none, some 6, some 7, none, none, none, none, none, none, none, none, none, none, none, none, none, none, none, none, none, none, none, none, none, none, none, none, none, none, none, none, none, none, none, none, none, none, none, none, none, none, none, none, none, none, none, none, none, none, none, none, none, none, none, none, none, none, none, none, none, none, none, none, none, none, none, none, none, none, none, none, none, none, none, none, none, none, none, none, none, none, none, none, none, none, none, none, none, none, none, none, none, none, none, none, none, none, none, none, none, none, none, none, none, none, none, none, none, none, none, none, none, none, none, none, none, none, none, none, none, none, none, none, none, none, none, none, none, none, none, none, none, none, none, none, none, none, none, none, none, none, none, none, none, none, none, none, none, none, none, none, none, some 0, some 1, some 2, some 3, some 4]) (fun (b : Nat → Bool) (vals : Nat → Value) (W : World) => RfAt w cf S T R Q a n c xs (bif b 5 then #[.int .i64 X, .int .i64 Z, .slice la k lc, .slice da dn dc] else #[.int .i64 0, .int .i64 0, .slice none 0 0, .slice none 0 0]) #[.int .i64 X, .int .i64 Z, .slice la k lc, .slice da dn dc] (p, false) W ∧ RsFar B la k lc l W ∧ SlR drC 6 W da dn dc (bldL cf rs) ∧ (b 0 = true → vals 0 = .agg #[.int .i64 X, .int .i64 Z, .slice la k lc, .slice da dn dc]) ∧ (b 1 = true → vals 1 = .pointer (some ⟨R, 0, none⟩)) ∧ (b 2 = true → vals 2 = .pointer (some ⟨R, 0, none⟩)) ∧ (b 3 = true → vals 3 = .pointer (some ⟨R, 1, none⟩)) ∧ (b 4 = true → vals 4 = .int .i64 p) ∧ (b 6 = true → vals 6 = .int .i64 p) ∧ (b 7 = true → vals 7 = .int .i64 0)) (by kernel_rfl) (by kernel_rfl) (by kernel_rfl) (by kernel_rfl) ?_ ?_ ?_
      · intro vals
        exact ⟨hMb.drew, hFb.below (Below.refl _ _).drew, hdb.below (Below.refl _ _).drew (Nat.le_refl _), (fun h => by cases (show false = true from h)), (fun h => by cases (show false = true from h)), (fun h => by cases (show false = true from h)), (fun h => by cases (show false = true from h)), (fun h => by cases (show false = true from h)), (fun h => by cases (show false = true from h)), (fun h => by cases (show false = true from h))⟩
      · intro Q' K t b vals wi hoff hon i hlt hR hb hd hK
        have hlt : i < 8 := hlt
        obtain ⟨hC, hF, hD, h0, h1, h2, h3, h4, h6, h7⟩ := hR
        revert hb hd hK
        cases i, hlt using cas8
        · intro hb hd hK
          have g8 : t[(8 : Nat)]? = some (.pointer (some ⟨Q, 0, none⟩)) := hoff 8 _ rfl rfl
          have q0 := hcell (k := 0) (v := .int .i64 X) hC.cQ rfl
          have q1 := hcell (k := 1) (v := .int .i64 Z) hC.cQ rfl
          have q2 := hcell (k := 2) (v := .slice la k lc) hC.cQ rfl
          have q3 := hcell (k := 3) (v := .slice da dn dc) hC.cQ rfl
          clear hoff hon hd
          refine wpOp_of rfl rfl ?_
          go_simp
          exact hK.out _ _ ⟨(hC), (hF), (hD), (fun _ => rfl), (h1), (h2), (h3), (h4), (h6), (h7)⟩
        · intro hb hd hK
          have g7 : t[(7 : Nat)]? = some (.pointer (some ⟨R, 0, none⟩)) := hoff 7 _ rfl rfl
          clear hoff hon hd
          refine wpOp_of rfl rfl ?_
          go_simp
          exact hK.out _ _ ⟨(hC), (hF), (hD), (h0), (fun _ => rfl), (h2), (h3), (h4), (h6), (h7)⟩
        · intro hb hd hK
          have d1 := hd 1 (by kernel_rfl)
          have g157 : t[(157 : Nat)]? = some (.pointer (some ⟨R, 0, none⟩)) := (hon 1 157 rfl).trans (congrArg some (h1 d1))
          clear hoff hon hd
          refine wpOp_of rfl rfl ?_
          go_simp
          exact hK.out _ _ ⟨(hC), (hF), (hD), (h0), (h1), (fun _ => rfl), (h3), (h4), (h6), (h7)⟩
        · intro hb hd hK
          have d2 := hd 2 (by kernel_rfl)
          have g158 : t[(158 : Nat)]? = some (.pointer (some ⟨R, 0, none⟩)) := (hon 2 158 rfl).trans (congrArg some (h2 d2))
          clear hoff hon hd
          refine wpOp_of rfl rfl ?_
          go_simp
          exact hK.out _ _ ⟨(hC), (hF), (hD), (h0), (h1), (h2), (fun _ => rfl), (h4), (h6), (h7)⟩
        · intro hb hd hK
          have d3 := hd 3 (by kernel_rfl)
          have g159 : t[(159 : Nat)]? = some (.pointer (some ⟨R, 1, none⟩)) := (hon 3 159 rfl).trans (congrArg some (h3 d3))
          have q1 := hcell (k := 1) (v := .int .i64 p) hC.rd.blk rfl
          clear hoff hon hd
          refine wpOp_of rfl rfl ?_
          go_simp
          exact hK.out _ _ ⟨(hC), (hF), (hD), (h0), (h1), (h2), (h3), (fun _ => rfl), (h6), (h7)⟩
        · intro hb hd hK
          have g4 : t[(4 : Nat)]? = some (.pointer (some ⟨T, 0, none⟩)) := hoff 4 _ rfl rfl
          have d0 := hd 0 (by kernel_rfl)
          have g156 : t[(156 : Nat)]? = some (.agg #[.int .i64 X, .int .i64 Z, .slice la k lc, .slice da dn dc]) := (hon 0 156 rfl).trans (congrArg some (h0 d0))
          have hC2 := hC
          rw [hb] at hC2
          replace hC2 : RfAt w cf S T R Q a n c xs #[.int .i64 0, .int .i64 0, .slice none 0 0, .slice none 0 0] #[.int .i64 X, .int .i64 Z, .slice la k lc, .slice da dn dc] (p, false) wi := hC2
          have f0 := hfroz (k := 0) hC2.cT
          have z0 := hcell (k := 0) (v := .int .i64 0) hC2.cT rfl
          have hN0 := hC2.setT 0 (.int .i64 X) rfl
          have f1 := hfroz (k := 1) hN0.cT
          have z1 := hcell (k := 1) (v := .int .i64 0) hN0.cT rfl
          have hN1 := hN0.setT 1 (.int .i64 Z) rfl
          have f2 := hfroz (k := 2) hN1.cT
          have z2 := hcell (k := 2) (v := .slice none 0 0) hN1.cT rfl
          have hN2 := hN1.setT 2 (.slice la k lc) rfl
          have f3 := hfroz (k := 3) hN2.cT
          have z3 := hcell (k := 3) (v := .slice none 0 0) hN2.cT rfl
          have hN3 := hN2.setT 3 (.slice da dn dc) rfl
          have hE1 := hF
          have hE2 := hD
          have hE1 := hE1.kept (grown_set _ T 0 (.int .i64 X)) (fun j hj => by cases hj; omega)
          have hE2 := hE2.grown0 (grown_set _ T 0 (.int .i64 X)) ((drs_ne hE2 hC2.cT).imp id fun q ad had e => q ad had (Option.some.inj e).symm)
          have hE1 := hE1.kept (grown_set _ T 1 (.int .i64 Z)) (fun j hj => by cases hj; omega)
          have hE2 := hE2.grown0 (grown_set _ T 1 (.int .i64 Z)) ((drs_ne hE2 hN0.cT).imp id fun q ad had e => q ad had (Option.some.inj e).symm)
          have hE1 := hE1.kept (grown_set _ T 2 (.slice la k lc)) (fun j hj => by cases hj; omega)
          have hE2 := hE2.grown0 (grown_set _ T 2 (.slice la k lc)) ((drs_ne hE2 hN1.cT).imp id fun q ad had e => q ad had (Option.some.inj e).symm)
          have hE1 := hE1.kept (grown_set _ T 3 (.slice da dn dc)) (fun j hj => by cases hj; omega)
          have hE2 := hE2.grown0 (grown_set _ T 3 (.slice da dn dc)) ((drs_ne hE2 hN2.cT).imp id fun q ad had e => q ad had (Option.some.inj e).symm)
          clear hoff hon hd hC hF hD hC2 hN0 hN1 hN2
          refine wpOp_of rfl rfl ?_
          go_simp
          exact hK.out undef _ ⟨(hN3), (hE1), (hE2), (h0), (h1), (h2), (h3), (h4), (h6), (h7)⟩
        · intro hb hd hK
          have d4 := hd 4 (by kernel_rfl)
          have g160 : t[(160 : Nat)]? = some (.int .i64 p) := (hon 4 160 rfl).trans (congrArg some (h4 d4))
          clear hoff hon hd
          refine wpOp_of rfl rfl ?_
          go_simp
          exact hK.out _ _ ⟨(hC), (hF), (hD), (h0), (h1), (h2), (h3), (h4), (fun _ => rfl), (h7)⟩
        · intro hb hd hK
          clear hoff hon hd
          refine wpOp_of rfl rfl ?_
          go_simp
          exact hK.out _ _ ⟨(hC), (hF), (hD), (h0), (h1), (h2), (h3), (h4), (h6), (fun _ => rfl)⟩
      · intro b vals wi hR hall
        obtain ⟨hC, hF, hD, h0, h1, h2, h3, h4, h6, h7⟩ := hR
        rw [hall 5 (by decide)] at hC
        replace hC : RfAt w cf S T R Q a n c xs #[.int .i64 X, .int .i64 Z, .slice la k lc, .slice da dn dc] #[.int .i64 X, .int .i64 Z, .slice la k lc, .slice da dn dc] (p, false) wi := hC
        dsimp only [over]
        rw [h6 (hall 6 (by decide)), h7 (hall 7 (by decide))]
        clear h0 h1 h2 h3 h4 h6 h7 hall
        go_wp2
        refine bodyPost_ret (results_ctt rfl _ _ T 27 #[.int .i64 X, .int .i64 Z, .slice la k lc, .slice da dn dc] (0, 0) _ rfl hC.cT Try.underlying27 rfl (by kernel_rfl)) rfl ?_
        unfold RtPost
        rw [HN.out]
        exact ⟨la, k, lc, l, da, dn, dc, rfl, hF.rc, HE4.out, hD, hC.gn.os, hC.gn.tape, hC.gn.output, hC.gn.size, fun j hj => hC.gn.block j hj (by simp)⟩
  have hiI : (i : Int) < (N : Int) := by omega
  obtain ⟨wo, hwo⟩ : ∃ W : World, W = wr := ⟨_, rfl⟩
  subst hwo
  have hiN : i < N := by omega
  have HLI := Lib.hid hli
  have hl96 : l.length ≤ 96 := by omega
  clear hli
  obtain ⟨jj, rfl⟩ : ∃ k, j = k + 1 := ⟨j - 1, by omega⟩
  clear hj HF2 HF3
  obtain ⟨⟨x0, t1⟩, hR1⟩ : ∃ r, r = rdNum xs (p, false) := ⟨_, rfl⟩
  obtain ⟨⟨z0, t2⟩, hR2⟩ : ∃ r, r = rdNum xs t1 := ⟨_, rfl⟩
  obtain ⟨⟨wv, t3⟩, hR3⟩ : ∃ r, r = rdUp xs 7 t2 := ⟨_, rfl⟩
  obtain ⟨⟨dv, t4⟩, hR4⟩ : ∃ r, r = rdUp xs 7 t3 := ⟨_, rfl⟩
  obtain ⟨⟨av, t5⟩, hR5⟩ : ∃ r, r = rdNum xs t4 := ⟨_, rfl⟩
  have hx := rdNum_range (st := (p, false)) hb
  have hz := rdNum_range (st := t1) hb
  have hw := rdUp_range (st := t2) (m := 7) (by decide) hb
  have hdd := rdUp_range (st := t3) (m := 7) (by decide) hb
  have hav := rdNum_range (st := t4) hb
  rw [← hR1] at hx
  rw [← hR2] at hz
  rw [← hR3] at hw
  rw [← hR4] at hdd
  rw [← hR5] at hav
  dsimp only at hx hz hw hdd hav
  have H6 : Hid (rd6 xs (p, false) = (⟨x0, z0, wv, dv, av⟩, t5)) := by show _ = _; unfold rd6; rw [← hR1]; dsimp only; rw [← hR2]; dsimp only; rw [← hR3]; dsimp only; rw [← hR4]; dsimp only; rw [← hR5]
  have HC1 := Lib.hid (fun W hW => rfnext_any W R a n c xs (p, false) hW)
  have HC2 := Lib.hid (fun W hW => rfnext_any W R a n c xs t1 hW)
  have HC3 := Lib.hid (fun W hW => rfcount_any 7 W R a n c xs t2 hW)
  have HC4 := Lib.hid (fun W hW => rfcount_any 7 W R a n c xs t3 hW)
  have HC5 := Lib.hid (fun W hW => rfnext_any W R a n c xs t4 hW)
  rw [← hR1] at HC1
  rw [← hR2] at HC2
  rw [← hR3] at HC3
  rw [← hR4] at HC4
  rw [← hR5] at HC5
  dsimp only at HC1 HC2 HC3 HC4 HC5
  clear hR1 hR2 hR3 hR4 hR5
  obtain ⟨M, hM0, hM1, hM2⟩ : ∃ M : Nat, (M : Int) = (wv + 1) * (dv + 1) ∧ 1 ≤ M ∧ M ≤ 64 := by
    have p1 : 1 * 1 ≤ (wv + 1) * (dv + 1) := Int.mul_le_mul (by omega) (by omega) (by omega) (by omega)
    have p2 : (wv + 1) * (dv + 1) ≤ 8 * 8 := Int.mul_le_mul (by omega) (by omega) (by omega) (by omega)
    exact ⟨((wv + 1) * (dv + 1)).toNat, by omega, by omega, by omega⟩
  have HCN : Hid (cnt6 ⟨x0, z0, wv, dv, av⟩ = M) := by show _ = _; unfold cnt6; dsimp only; rw [← hM0]; rfl
  have wm : IntKind.i64.wrap ((wv + 1) * (dv + 1)) = (M : Int) := by rw [← hM0, IntKind.wrap_i64]; omega
  have ww : IntKind.i64.wrap (wv + 1) = wv + 1 := by rw [IntKind.wrap_i64]; omega
  have wdd : IntKind.i64.wrap (dv + 1) = dv + 1 := by rw [IntKind.wrap_i64]; omega
  have wx : IntKind.i64.wrap (x0 + wv) = x0 + wv := by rw [IntKind.wrap_i64]; omega
  have wz : IntKind.i64.wrap (z0 + dv) = z0 + dv := by rw [IntKind.wrap_i64]; omega
  have HPO : Hid (∀ (ys ts : List Int) (s' : RS), rdFl xs M t5 = (ys, ts, s') → rdRct xs (p, false) = (⟨x0, z0, x0 + wv, z0 + dv, av, ys, ts⟩, s')) := fun ys ts s' h => by
    unfold rdRct
    rw [H6.out]
    dsimp only
    rw [HCN.out, h]
  clear hM0 H6 HCN
  go_wp2_with fail
  refine (HC1.out _ hM.rd).mono ?_
  rintro e v1 ⟨rfl, hr1, hg1⟩
  go_wp2_with fail
  refine (HC2.out _ hr1).mono ?_
  rintro e v2 ⟨rfl, hr2, hg2⟩
  have hg := hg1.trans hg2
  clear hr1 hg1 hg2 HC1 HC2 b2
  obtain ⟨P, hP⟩ : ∃ P, P = v2.heap.size := ⟨_, rfl⟩
  obtain ⟨BB, hBP⟩ : ∃ B, B = P + 1 := ⟨_, rfl⟩
  have hrlt := hr2.lt
  have hgsz := hg.size
  have hV0 : RctV wo BB P R a n c xs x0 z0 0 0 0 (.slice none 0 0) (.slice none 0 0) t2 (.slice none 0 0) (.slice none 0 0) [] [] (v2.alloc (.cells #[.int .i64 x0, .int .i64 z0, .int .i64 0, .int .i64 0, .int .i64 0, .slice none 0 0, .slice none 0 0] 55 (0, 0))) :=
    ⟨gb_alloc hg _, by rw [hP]; exact World.alloc_heap_new v2 _, hr2.alloc _, OwnI.nil _ _ _ _, OwnI.nil _ _ _ _, (fun j hj => nomatch hj), by omega, by omega, by omega⟩
  obtain ⟨v3, hv3⟩ : ∃ W, W = v2.alloc (.cells #[.int .i64 x0, .int .i64 z0, .int .i64 0, .int .i64 0, .int .i64 0, .slice none 0 0, .slice none 0 0] 55 (0, 0)) := ⟨_, rfl⟩
  rw [← hv3] at hV0
  have HBP := Lib.hid hBP
  clear hr2 hg hrlt hgsz hBP
  go_upto_region 12 with fail
  rw [← hv3, ← hP]
  clear hv3 hP
  go_wp2_with fail
  refine (HC3.out _ hV0.rd).mono ?_
  rintro e v4 ⟨rfl, hr4, hg4⟩
  have hV1 := hV0.call hr4 hg4
  clear hr4 hg4 hV0
  go_wp2_with fail
  refine (HC4.out _ hV1.rd).mono ?_
  rintro e v5 ⟨rfl, hr5, hg5⟩
  have hV2 := hV1.call hr5 hg5
  clear hr5 hg5 hV1
  have hV3 := hV2.set2 (x0 + wv)
  have hV4 := hV3.set3 (z0 + dv)
  have k0 := hcell (k := 0) (v := .int .i64 x0) hV2.bk rfl
  have k1 := hcell (k := 1) (v := .int .i64 z0) hV3.bk rfl
  have k2 := hcell (k := 2) (v := .int .i64 0) hV2.bk rfl
  have k3 := hcell (k := 3) (v := .int .i64 0) hV3.bk rfl
  have f2 := hfroz (k := 2) hV2.bk
  have f3 := hfroz (k := 3) hV3.bk
  obtain ⟨v6, hv6⟩ : ∃ W, W = (v5.setCell ⟨P, 2, none⟩ (.int .i64 (x0 + wv))).setCell ⟨P, 3, none⟩ (.int .i64 (z0 + dv)) := ⟨_, rfl⟩
  rw [← hv6] at hV4
  go_upto_region 15 with fail
  rw [← hv6]
  clear hv6 k0 k1 k2 k3 f2 f3 hV2 hV3
  go_wp2_with fail
  refine (HC5.out _ hV4.rd).mono ?_
  rintro e v7 ⟨rfl, hr7, hg7⟩
  have hV5 := hV4.call hr7 hg7
  clear hr7 hg7 hV4
  have hV6 := hV5.set4 av
  have k4 := hcell (k := 4) (v := .int .i64 0) hV5.bk rfl
  have f4 := hfroz (k := 4) hV5.bk
  obtain ⟨v8, hv8⟩ : ∃ W, W = v7.setCell ⟨P, 4, none⟩ (.int .i64 av) := ⟨_, rfl⟩
  rw [← hv8] at hV6
  go_upto_region 16 with fail
  rw [← hv8]
  clear hv8 k4 f4 hV5
  go_wp2_with fail
  go_loopw [14] (fun s wq => ∃ (k : Nat) (ys ts : List Int) (s' : RS) (vY vT : Value), s = .int .i64 (k : Nat) ∧ k ≤ M ∧ ys.length = k ∧ ts.length = k ∧ RctV wo BB P R a n c xs x0 z0 (x0 + wv) (z0 + dv) av vY vT s' vY vT ys ts wq ∧ Hid (rdFl xs M t5 = (ys ++ (rdFl xs (M - k) s').1, ts ++ (rdFl xs (M - k) s').2.1, (rdFl xs (M - k) s').2.2))) (fun s _ => M - (intOf s).toNat)
  case atStart => exact ⟨0, [], [], t5, _, _, rfl, Nat.zero_le _, rfl, rfl, hV6, rfl⟩
  case round =>
  clear hV6
  obtain ⟨wq, hwq⟩ : ∃ W : World, W = wr := ⟨_, rfl⟩
  subst hwq
  obtain ⟨k, ys, ts, s6, vY, vT, rfl, hk, hyl, htl, hC, HF⟩ := hrel
  have HYL := Lib.hid hyl
  have HTL := Lib.hid htl
  have hy64 : ys.length ≤ 64 := by omega
  have ht64 : ts.length ≤ 64 := by omega
  clear hyl htl
  by_cases hkn : k < M
  case neg =>
    obtain rfl : k = M := by omega
    have hknI : ¬ (k : Int) < (k : Int) := by omega
    have HR : Hid (rdRct xs (p, false) = (⟨x0, z0, x0 + wv, z0 + dv, av, ys, ts⟩, s6)) := HPO.out _ _ _ (by rw [HF.out, Nat.sub_self]; simp [rdFl])
    clear HPO HF hkn
    obtain ⟨ya, yc, rfl, hsy⟩ := hC.y.reads
    obtain ⟨ta, tc, rfl, hst⟩ := hC.t.reads
    have k0 := hcell (k := 0) (v := .int .i64 x0) hC.bk rfl
    have k1 := hcell (k := 1) (v := .int .i64 z0) hC.bk rfl
    have k2 := hcell (k := 2) (v := .int .i64 (x0 + wv)) hC.bk rfl
    have k3 := hcell (k := 3) (v := .int .i64 (z0 + dv)) hC.bk rfl
    have k4 := hcell (k := 4) (v := .int .i64 av) hC.bk rfl
    have k5 := hcell (k := 5) (v := .slice ya ys.length yc) hC.bk rfl
    have k6 := hcell (k := 6) (v := .slice ta ts.length tc) hC.bk rfl
    have hMq := hM.read hC.rd hC.gb
    have hoq := ho.kept hC.gb (.inr (by intro e; have := ho.le R e; omega))
    have hflq : ∀ x ∈ l, RcFar B (.slice la l.length lc) wq x := fun x hx => (hfl x hx).kept hC.gb (fun j hj => by cases hj; omega)
    have hnew : RcFar B (.slice la l.length lc) wq (⟨ya, yc, ta, tc⟩, ⟨x0, z0, x0 + wv, z0 + dv, av, ys, ts⟩) :=
      ⟨⟨hsy, hst⟩, fun ad had => ⟨by dsimp only at had; subst had; have h1 := hC.y.lt ad.block rfl; have := hC.PB; have := hC.wP; have := hblt hM.cQ; omega, by dsimp only at had; subst had; exact (hC.y.lt ad.block rfl).2, fun e => by dsimp only at had; subst had; have h1 := hC.y.lt ad.block rfl; have := hC.PB; have := hC.wP; have := (ho.lt ad.block e).2; omega⟩, fun ad had => ⟨by dsimp only at had; subst had; have h1 := hC.t.lt ad.block rfl; have := hC.PB; have := hC.wP; have := hblt hM.cQ; omega, by dsimp only at had; subst had; exact (hC.t.lt ad.block rfl).2, fun e => by dsimp only at had; subst had; have h1 := hC.t.lt ad.block rfl; have := hC.PB; have := hC.wP; have := (ho.lt ad.block e).2; omega⟩⟩
    have t2 := hcell (k := 2) (v := .slice la l.length lc) hMq.cQ rfl
    have hszq : B ≤ wq.heap.size := by have := hblt hMq.cQ; omega
    obtain ⟨s6p, s6b⟩ := s6
    clear hM ho hfl hC hsy hst HC3 HC4 HC5
    have wi1 : IntKind.i64.wrap ((i : Int) + 1) = ((i + 1 : Nat) : Int) := by rw [IntKind.wrap_i64]; omega
    go_wp2_with (at_builtin; refine wpList_appR (f := rcF7) (sz := 7) (e := 55) (B := B) (n := l.length) (xs := l) wq rcF7_len rcF7_one rfl _ _ 24 rfl (.agg #[.int .i64 0, .int .i64 0, .int .i64 0, .int .i64 0, .int .i64 0, .slice none 0 0, .slice none 0 0]) 88 Try.underlying24 info_rect rfl (by decide) (⟨ya, yc, ta, tc⟩, ⟨x0, z0, x0 + wv, z0 + dv, av, ys, ts⟩) 55 hoq rfl rfl (by omega) (by omega) (by omega) ?_; intro v' w' h1 h2; obtain ⟨va, vc, rfl, _⟩ := OwnR.reads rcF7_len h1; have hMr := hMq.kept h2.grown (fun j hj => by have := (hoq.lt j hj).1; omega); have t2 := hcell (k := 2) (v := .slice la l.length lc) hMr.cQ rfl; have f2 := hfroz (k := 2) hMr.cQ)
    have hflr : ∀ y ∈ l ++ [((⟨ya, yc, ta, tc⟩, ⟨x0, z0, x0 + wv, z0 + dv, av, ys, ts⟩) : RHd × Rc)], RcFar B (.slice va (l.length + 1) vc) w' y := fun y hy => by
      rcases List.mem_append.1 hy with hy | hy
      · exact (hflq y hy).app h2
      · rw [List.mem_singleton] at hy
        subst hy
        exact hnew.app h2
    have hlen : (l ++ [((⟨ya, yc, ta, tc⟩, ⟨x0, z0, x0 + wv, z0 + dv, av, ys, ts⟩) : RHd × Rc)]).length = l.length + 1 := by simp
    have hor : OwnR rcF7 7 55 B w' (.slice va (l.length + 1) vc) (l ++ [((⟨ya, yc, ta, tc⟩, ⟨x0, z0, x0 + wv, z0 + dv, av, ys, ts⟩) : RHd × Rc)]).length (l ++ [((⟨ya, yc, ta, tc⟩, ⟨x0, z0, x0 + wv, z0 + dv, av, ys, ts⟩) : RHd × Rc)]) := by rw [hlen]; exact h1
    have HEn : Hid (sL = (rdRows (rdRct xs) jj (s6p, s6b)).2) := by show _ = _; rw [HE.out, rows_cons rfl, HR.out]
    have HEm : Hid (rs = (l ++ [((⟨ya, yc, ta, tc⟩, ⟨x0, z0, x0 + wv, z0 + dv, av, ys, ts⟩) : RHd × Rc)]).map Prod.snd ++ (rdRows (rdRct xs) jj (s6p, s6b)).1) := by show _ = _; rw [HE2.out, rows_cons rfl, HR.out, List.map_append, List.append_assoc]; rfl
    obtain ⟨l2, hl2⟩ : ∃ l2, l2 = l ++ [((⟨ya, yc, ta, tc⟩, ⟨x0, z0, x0 + wv, z0 + dv, av, ys, ts⟩) : RHd × Rc)] := ⟨_, rfl⟩
    rw [← hl2] at hflr hlen hor HEm
    have hMs := hMr.setQ 2 (.slice va (l.length + 1) vc) rfl
    have hos := hor.kept (grown_set w' Q 2 (.slice va (l.length + 1) vc)) (.inr (by intro e; have := hor.le Q e; omega))
    have hfls : ∀ y ∈ l2, RcFar B (.slice va (l.length + 1) vc) (w'.setCell ⟨Q, 2, none⟩ (.slice va (l.length + 1) vc)) y := fun y hy => (hflr y hy).kept (grown_set w' Q 2 _) (fun j hj => by cases hj; omega)
    have hli2 : Hid (l2.length = i + 1) := by show _ = _; rw [hlen, HLI.out]
    clear hMr hor hflr hlen hl2 HE HE2 HR hMq hoq hflq hnew h1 h2
    go_roundw
    case rel => exact ⟨i + 1, jj, _, l2, (s6p, s6b), by go_num, by omega, hli2.out, hMs, hos, hfls, HEn, HEm⟩
    case measure => simp [intOf]; omega
  have hknI : (k : Int) < (M : Int) := by omega
  obtain ⟨s6p, bad⟩ := s6
  cases bad with
  | true =>
    have b2 := hcell (k := 2) (v := .bool false) hC.rd.blk rfl
    have HR : Hid (rdRct xs (p, false) = (⟨x0, z0, x0 + wv, z0 + dv, av, ys, ts⟩, (s6p, true))) := HPO.out _ _ _ (by rw [HF.out, rdFl_bad rfl]; simp)
    obtain ⟨s6, hs6⟩ : ∃ s6 : RS, s6 = (s6p, true) := ⟨_, rfl⟩
    rw [← hs6] at HR hC
    clear HPO HF hs6
    obtain ⟨ya, yc, rfl, hsy⟩ := hC.y.reads
    obtain ⟨ta, tc, rfl, hst⟩ := hC.t.reads
    have k0 := hcell (k := 0) (v := .int .i64 x0) hC.bk rfl
    have k1 := hcell (k := 1) (v := .int .i64 z0) hC.bk rfl
    have k2 := hcell (k := 2) (v := .int .i64 (x0 + wv)) hC.bk rfl
    have k3 := hcell (k := 3) (v := .int .i64 (z0 + dv)) hC.bk rfl
    have k4 := hcell (k := 4) (v := .int .i64 av) hC.bk rfl
    have k5 := hcell (k := 5) (v := .slice ya ys.length yc) hC.bk rfl
    have k6 := hcell (k := 6) (v := .slice ta ts.length tc) hC.bk rfl
    have hMq := hM.read hC.rd hC.gb
    have hoq := ho.kept hC.gb (.inr (by intro e; have := ho.le R e; omega))
    have hflq : ∀ x ∈ l, RcFar B (.slice la l.length lc) wq x := fun x hx => (hfl x hx).kept hC.gb (fun j hj => by cases hj; omega)
    have hnew : RcFar B (.slice la l.length lc) wq (⟨ya, yc, ta, tc⟩, ⟨x0, z0, x0 + wv, z0 + dv, av, ys, ts⟩) :=
      ⟨⟨hsy, hst⟩, fun ad had => ⟨by dsimp only at had; subst had; have h1 := hC.y.lt ad.block rfl; have := hC.PB; have := hC.wP; have := hblt hM.cQ; omega, by dsimp only at had; subst had; exact (hC.y.lt ad.block rfl).2, fun e => by dsimp only at had; subst had; have h1 := hC.y.lt ad.block rfl; have := hC.PB; have := hC.wP; have := (ho.lt ad.block e).2; omega⟩, fun ad had => ⟨by dsimp only at had; subst had; have h1 := hC.t.lt ad.block rfl; have := hC.PB; have := hC.wP; have := hblt hM.cQ; omega, by dsimp only at had; subst had; exact (hC.t.lt ad.block rfl).2, fun e => by dsimp only at had; subst had; have h1 := hC.t.lt ad.block rfl; have := hC.PB; have := hC.wP; have := (ho.lt ad.block e).2; omega⟩⟩
    have t2 := hcell (k := 2) (v := .slice la l.length lc) hMq.cQ rfl
    have hszq : B ≤ wq.heap.size := by have := hblt hMq.cQ; omega
    obtain ⟨s6p, s6b⟩ := s6
    clear hM ho hfl hC hsy hst HC3 HC4 HC5
    have wi1 : IntKind.i64.wrap ((i : Int) + 1) = ((i + 1 : Nat) : Int) := by rw [IntKind.wrap_i64]; omega
    go_wp2_with (at_builtin; refine wpList_appR (f := rcF7) (sz := 7) (e := 55) (B := B) (n := l.length) (xs := l) wq rcF7_len rcF7_one rfl _ _ 24 rfl (.agg #[.int .i64 0, .int .i64 0, .int .i64 0, .int .i64 0, .int .i64 0, .slice none 0 0, .slice none 0 0]) 88 Try.underlying24 info_rect rfl (by decide) (⟨ya, yc, ta, tc⟩, ⟨x0, z0, x0 + wv, z0 + dv, av, ys, ts⟩) 55 hoq rfl rfl (by omega) (by omega) (by omega) ?_; intro v' w' h1 h2; obtain ⟨va, vc, rfl, _⟩ := OwnR.reads rcF7_len h1; have hMr := hMq.kept h2.grown (fun j hj => by have := (hoq.lt j hj).1; omega); have t2 := hcell (k := 2) (v := .slice la l.length lc) hMr.cQ rfl; have f2 := hfroz (k := 2) hMr.cQ)
    have hflr : ∀ y ∈ l ++ [((⟨ya, yc, ta, tc⟩, ⟨x0, z0, x0 + wv, z0 + dv, av, ys, ts⟩) : RHd × Rc)], RcFar B (.slice va (l.length + 1) vc) w' y := fun y hy => by
      rcases List.mem_append.1 hy with hy | hy
      · exact (hflq y hy).app h2
      · rw [List.mem_singleton] at hy
        subst hy
        exact hnew.app h2
    have hlen : (l ++ [((⟨ya, yc, ta, tc⟩, ⟨x0, z0, x0 + wv, z0 + dv, av, ys, ts⟩) : RHd × Rc)]).length = l.length + 1 := by simp
    have hor : OwnR rcF7 7 55 B w' (.slice va (l.length + 1) vc) (l ++ [((⟨ya, yc, ta, tc⟩, ⟨x0, z0, x0 + wv, z0 + dv, av, ys, ts⟩) : RHd × Rc)]).length (l ++ [((⟨ya, yc, ta, tc⟩, ⟨x0, z0, x0 + wv, z0 + dv, av, ys, ts⟩) : RHd × Rc)]) := by rw [hlen]; exact h1
    have HEn : Hid (sL = (rdRows (rdRct xs) jj (s6p, s6b)).2) := by show _ = _; rw [HE.out, rows_cons rfl, HR.out]
    have HEm : Hid (rs = (l ++ [((⟨ya, yc, ta, tc⟩, ⟨x0, z0, x0 + wv, z0 + dv, av, ys, ts⟩) : RHd × Rc)]).map Prod.snd ++ (rdRows (rdRct xs) jj (s6p, s6b)).1) := by show _ = _; rw [HE2.out, rows_cons rfl, HR.out, List.map_append, List.append_assoc]; rfl
    obtain ⟨l2, hl2⟩ : ∃ l2, l2 = l ++ [((⟨ya, yc, ta, tc⟩, ⟨x0, z0, x0 + wv, z0 + dv, av, ys, ts⟩) : RHd × Rc)] := ⟨_, rfl⟩
    rw [← hl2] at hflr hlen hor HEm
    have hMs := hMr.setQ 2 (.slice va (l.length + 1) vc) rfl
    have hos := hor.kept (grown_set w' Q 2 (.slice va (l.length + 1) vc)) (.inr (by intro e; have := hor.le Q e; omega))
    have hfls : ∀ y ∈ l2, RcFar B (.slice va (l.length + 1) vc) (w'.setCell ⟨Q, 2, none⟩ (.slice va (l.length + 1) vc)) y := fun y hy => (hflr y hy).kept (grown_set w' Q 2 _) (fun j hj => by cases hj; omega)
    have hli2 : Hid (l2.length = i + 1) := by show _ = _; rw [hlen, HLI.out]
    clear hMr hor hflr hlen hl2 HE HE2 HR hMq hoq hflq hnew h1 h2
    go_roundw
    case rel => exact ⟨i + 1, jj, _, l2, (s6p, s6b), by go_num, by omega, hli2.out, hMs, hos, hfls, HEn, HEm⟩
    case measure => simp [intOf]; omega
  | false =>
  have b2 := hcell (k := 2) (v := .bool true) hC.rd.blk rfl
  have wk : IntKind.i64.wrap ((k : Int) + 1) = ((k + 1 : Nat) : Int) := by rw [IntKind.wrap_i64]; omega
  have hyr := zag_range (rdNum_range (xs := xs) (st := (s6p, false)) hb)
  obtain ⟨⟨yv, sA⟩, hS⟩ : ∃ r, r = rdSig xs (s6p, false) := ⟨_, rfl⟩
  obtain ⟨⟨tv, sB⟩, hT⟩ : ∃ r, r = rdNum xs sA := ⟨_, rfl⟩
  have hyv : -2199023255553 ≤ yv ∧ yv ≤ 2199023255552 := by
    have e : yv = zag (rdNum xs (s6p, false)).1 := congrArg Prod.fst hS
    rw [e]
    exact hyr
  have htv := rdNum_range (xs := xs) (st := sA) hb
  rw [← hT] at htv
  dsimp only at htv
  have wt : IntKind.i64.wrap (yv + tv) = yv + tv := by rw [IntKind.wrap_i64]; omega
  have CS := Lib.hid (rfsigned_any wq R a n c xs (s6p, false) hC.rd)
  rw [← hS] at CS
  have HF2 : Hid (rdFl xs M t5 = ((ys ++ [yv]) ++ (rdFl xs (M - (k + 1)) sB).1, (ts ++ [yv + tv]) ++ (rdFl xs (M - (k + 1)) sB).2.1, (rdFl xs (M - (k + 1)) sB).2.2)) := by
    show _ = _
    rw [HF.out, show M - k = (M - (k + 1)) + 1 by omega, rdFl_good rfl, ← hS]
    dsimp only
    rw [← hT]
    simp only [List.append_assoc, List.singleton_append]
  have HT := Lib.hid hT
  clear hyr hS hT HF
  go_wp2_with fail
  refine CS.out.mono ?_
  rintro e v9 ⟨rfl, hr, hg⟩
  have hD := hC.call hr hg
  clear hr hg hC CS b2
  obtain ⟨ya, yc, rfl, _⟩ := hD.y.reads
  have k5 := hcell (k := 5) (v := .slice ya ys.length yc) hD.bk rfl
  have hPBv : BB ≤ v9.heap.size := by have := hblt hD.bk; have := HBP.out; omega
  go_wp2_with (at_builtin; refine wpList_app1 _ rfl _ _ 53 rfl BB 3 .i64 8 Try.underlying53 info_intF _ _ _ yv _ hD.y rfl rfl (by omega) (by omega) hPBv ?_; intro v' w' h1 h2; obtain ⟨va, vc, rfl, _⟩ := OwnI.reads h1; have hE := hD.appY h1 h2; have k5 := hcell (k := 5) (v := .slice ya ys.length yc) hE.bk rfl; have f5 := hfroz (k := 5) hE.bk)
  have hF := hE.set5 (.slice va (ys.length + 1) vc)
  obtain ⟨va6, hva6⟩ : ∃ W : World, W = w'.setCell ⟨P, 5, none⟩ (.slice va (ys.length + 1) vc) := ⟨_, rfl⟩
  rw [← hva6] at hF ⊢
  obtain ⟨vY2, hvY⟩ : ∃ v, v = Value.slice va (ys.length + 1) vc := ⟨_, rfl⟩
  obtain ⟨v6, hv6⟩ : ∃ v, v = vT := ⟨_, rfl⟩
  obtain ⟨Y2, hY2⟩ : ∃ Z, Z = ys ++ [yv] := ⟨_, rfl⟩
  have hyl2 : Y2.length = k + 1 := by rw [hY2, List.length_append, HYL.out]; rfl
  have HYL2 := Lib.hid hyl2
  rw [← hvY, ← hv6, ← hY2] at hF
  rw [← hY2] at HF2
  have hMain := hF
  have hT := HT.out
  clear hF hE h1 h2 hD k5 f5 hva6 hvY hv6 hY2 hyl2 HT
  refine wp_region_fun ([none, none, none, none, none, none, none, none, none, none, none, none, none, none, none, none, none, none, none, none, none, none, none, none, none, none, none, none, none, none, none, none, none, none, none, none, none, none, none, none, none, none, none, none, none, none, none, none, none, none, none, none, none, none, none, none, none, none, none, none, none, none, none, none, none, none, none, none, none, none, none, none, none, none, none, none, none, none, none, none, none, none, none, none, none, none, none, none, none, none, none, none, none, some 0, some 1, some 2, some 3, some 4, some 5, some 6, some 7, some 8, none, none, none, none, none, none, none, none, none, none, none, none, none, none, none, none, none, none, none, none, none, none, none, none, none, none, none, none, none, none, none, none, none, none, none, none, none, none, none, none, none, none, none, none, none, none, none, none, none, none, none, none, none, none, none, none, none, none, none]) (fun (b : Nat → Bool) (vals : Nat → Value) (W : World) => RctV wo BB P R a n c xs x0 z0 (x0 + wv) (z0 + dv) av vY2 (bif b 9 then vals 7 else v6) (bif b 4 then sB else sA) vY2 (bif b 7 then vals 7 else v6) Y2 (bif b 7 then ts ++ [yv + tv] else ts) W ∧ (b 9 = true → b 7 = true) ∧ (b 7 = true → b 1 = true) ∧ (b 0 = true → vals 0 = .pointer (some ⟨P, 6, none⟩)) ∧ (b 1 = true → vals 1 = v6) ∧ (b 2 = true → vals 2 = .int .i64 yv) ∧ (b 3 = true → vals 3 = .pointer (some ⟨R, 0, none⟩)) ∧ (b 4 = true → vals 4 = .int .i64 tv) ∧ (b 5 = true → vals 5 = .int .i64 (yv + tv)) ∧ (b 6 = true → ∃ q, vals 6 = .slice (some ⟨q, 0, none⟩) 1 1 ∧ (b 7 = false → Frq P R (yv + tv) vY2 (bif b 7 then vals 7 else v6) q W)) ∧ (b 8 = true → vals 8 = .pointer (some ⟨P, 6, none⟩))) (by kernel_rfl) (by kernel_rfl) (by kernel_rfl) (by kernel_rfl) ?_ ?_ ?_
  · intro vals
    exact ⟨hMain.drew, (fun h => by cases (show false = true from h)), (fun h => by cases (show false = true from h)), (fun h => by cases (show false = true from h)), (fun h => by cases (show false = true from h)), (fun h => by cases (show false = true from h)), (fun h => by cases (show false = true from h)), (fun h => by cases (show false = true from h)), (fun h => by cases (show false = true from h)), (fun h => by cases (show false = true from h)), (fun h => by cases (show false = true from h))⟩
  · intro Q' K t b vals wi hoff hon i hlt hR hb hd hK
    have hlt : i < 10 := hlt
    obtain ⟨hC, i1, i2, h0, h1, h2, h3, h4, h5, h6, h8⟩ := hR
    revert hb hd hK
    cases i, hlt using cas10
    · intro hb hd hK
      have g11 : t[(11 : Nat)]? = some (.pointer (some ⟨P, 0, none⟩)) := hoff 11 _ rfl rfl
      clear hoff hon hd
      refine wpOp_of rfl rfl ?_
      go_simp
      exact hK.out _ _ ⟨(hC), (i1), (i2), (fun _ => rfl), (h1), (h2), (h3), (h4), (h5), (h6), (h8)⟩
    · intro hb hd hK
      have d0 := hd 0 (by kernel_rfl)
      have g93 : t[(93 : Nat)]? = some (.pointer (some ⟨P, 6, none⟩)) := (hon 0 93 rfl).trans (congrArg some (h0 d0))
      have n7 : b 7 = false := by cases h : b 7 with | false => rfl | true => exact absurd (i2 h) (by rw [hb]; decide)
      have n9 : b 9 = false := by cases h : b 9 with | false => rfl | true => exact absurd (i1 h) (by rw [n7]; decide)
      have hbk := hC.bk
      rw [n9] at hbk
      have cc := hcell (k := 6) (v := v6) hbk rfl
      clear hoff hon hd hbk
      refine wpOp_of rfl rfl ?_
      go_simp
      exact hK.out _ _ ⟨(hC), (i1), (fun _ => rfl), (h0), (fun _ => rfl), (h2), (h3), (h4), (h5), (h6), (h8)⟩
    · intro hb hd hK
      have g15 : t[(15 : Nat)]? = some (.int .i64 yv) := hoff 15 _ rfl rfl
      clear hoff hon hd
      refine wpOp_of rfl rfl ?_
      go_simp
      exact hK.out _ _ ⟨(hC), (i1), (i2), (h0), (h1), (fun _ => rfl), (h3), (h4), (h5), (h6), (h8)⟩
    · intro hb hd hK
      have g7 : t[(7 : Nat)]? = some (.pointer (some ⟨R, 0, none⟩)) := hoff 7 _ rfl rfl
      clear hoff hon hd
      refine wpOp_of rfl rfl ?_
      go_simp
      exact hK.out _ _ ⟨(hC), (i1), (i2), (h0), (h1), (h2), (fun _ => rfl), (h4), (h5), (h6), (h8)⟩
    · intro hb hd hK
      have d3 := hd 3 (by kernel_rfl)
      have g96 : t[(96 : Nat)]? = some (.pointer (some ⟨R, 0, none⟩)) := (hon 3 96 rfl).trans (congrArg some (h3 d3))
      have hC2 := hC
      rw [hb] at hC2
      clear hoff hon hd
      refine wpOp_of rfl rfl ?_
      go_simp
      go_at_call 34
      refine (rfnext_any wi R a n c xs sA hC2.rd).mono ?_
      rw [← hT]
      rintro e wz ⟨rfl, hr, hg⟩
      (try go_simp)
      exact hK.out _ _ ⟨(hC2.call hr hg), (i1), (i2), (h0), (h1), (h2), (h3), (fun _ => rfl), (h5), (fun h => by obtain ⟨q, e, f⟩ := h6 h; exact ⟨q, e, fun h4 => (f h4).call hg⟩), (h8)⟩
    · intro hb hd hK
      have d2 := hd 2 (by kernel_rfl)
      have d4 := hd 4 (by kernel_rfl)
      have g95 : t[(95 : Nat)]? = some (.int .i64 yv) := (hon 2 95 rfl).trans (congrArg some (h2 d2))
      have g97 : t[(97 : Nat)]? = some (.int .i64 tv) := (hon 4 97 rfl).trans (congrArg some (h4 d4))
      clear hoff hon hd
      refine wpOp_of rfl rfl ?_
      go_simp
      exact hK.out _ _ ⟨(hC), (i1), (i2), (h0), (h1), (h2), (h3), (h4), (fun _ => rfl), (h6), (h8)⟩
    · intro hb hd hK
      have d5 := hd 5 (by kernel_rfl)
      have g98 : t[(98 : Nat)]? = some (.int .i64 (yv + tv)) := (hon 5 98 rfl).trans (congrArg some (h5 d5))
      clear hoff hon hd
      refine wpOp_of rfl rfl ?_
      go_simp
      exact hK.out _ _ ⟨(hC.alloc _), (i1), (i2), (h0), (h1), (h2), (h3), (h4), (h5), (fun _ => ⟨_, rfl, fun _ => Frq.newV hC (yv + tv)⟩), (h8)⟩
    · intro hb hd hK
      have d1 := hd 1 (by kernel_rfl)
      have d6 := hd 6 (by kernel_rfl)
      have g94 : t[(94 : Nat)]? = some (v6) := (hon 1 94 rfl).trans (congrArg some (h1 d1))
      have g99 : t[(99 : Nat)]? = some (vals 6) := hon 6 99 rfl
      have n9 : b 9 = false := by cases h : b 9 with | false => rfl | true => exact absurd (i1 h) (by rw [hb]; decide)
      obtain ⟨q, eq, fq⟩ := h6 d6
      have fq := fq hb
      rw [eq] at g99
      have hC2 := hC
      rw [hb, n9] at hC2
      rw [hb] at fq
      refine wpOp_app1 rfl rfl (.tmp 94) (.tmp 99) rfl BB v6 ts.length ts (yv + tv) q hC2.t (by simp [Act.eval, g94]) (by simp [Act.eval, g99]) fq.cel (by omega) (by have := hblt hC2.bk; have := HBP.out; omega) ?_
      intro v' w' ho hp
      have hN := hC2.appT ho hp
      clear hoff hon hd
      exact hK.out v' w' ⟨((show RctV wo BB P R a n c xs x0 z0 (x0 + wv) (z0 + dv) av vY2 (bif b 9 then v' else v6) (bif b 4 then sB else sA) vY2 v' Y2 (ts ++ [yv + tv]) w' from by rw [n9]; exact hN)), (fun _ => rfl), (fun _ => d1), (h0), (h1), (h2), (h3), (h4), (h5), (fun h => by obtain ⟨q, e, _⟩ := h6 h; exact ⟨q, e, fun h4 => by cases (show true = false from h4)⟩), (h8)⟩
    · intro hb hd hK
      have g11 : t[(11 : Nat)]? = some (.pointer (some ⟨P, 0, none⟩)) := hoff 11 _ rfl rfl
      clear hoff hon hd
      refine wpOp_of rfl rfl ?_
      go_simp
      exact hK.out _ _ ⟨(hC), (i1), (i2), (h0), (h1), (h2), (h3), (h4), (h5), (h6), (fun _ => rfl)⟩
    · intro hb hd hK
      have d8 := hd 8 (by kernel_rfl)
      have d7 := hd 7 (by kernel_rfl)
      have g101 : t[(101 : Nat)]? = some (.pointer (some ⟨P, 6, none⟩)) := (hon 8 101 rfl).trans (congrArg some (h8 d8))
      have g100 : t[(100 : Nat)]? = some (vals 7) := hon 7 100 rfl
      have hbk := hC.bk
      rw [hb] at hbk
      have cc := hcell (k := 6) (v := v6) hbk rfl
      have ff := hfroz (k := 6) hbk
      have hN := hC.set6 (vals 7)
      clear hoff hon hd hbk
      refine wpOp_of rfl rfl ?_
      obtain ⟨sa, sn, sc, es⟩ : ∃ sa sn sc, vals 7 = .slice sa sn sc := by have hy := hC.t; rw [d7] at hy; obtain ⟨sa, sc, e, _⟩ := hy.reads; exact ⟨sa, _, sc, e⟩
      rw [es] at g100
      go_simp
      rw [← es]
      exact hK.out undef _ ⟨(hN), (fun _ => d7), (i2), (h0), (h1), (h2), (h3), (h4), (h5), (fun h => by obtain ⟨q, e, f⟩ := h6 h; exact ⟨q, e, fun h4 => (f h4).set _ _⟩), (h8)⟩
  · intro b vals wi hR hall
    obtain ⟨hC, i1, i2, h0, h1, h2, h3, h4, h5, h6, h8⟩ := hR
    rw [hall 4 (by decide), hall 7 (by decide), hall 9 (by decide)] at hC
    replace hC : RctV wo BB P R a n c xs x0 z0 (x0 + wv) (z0 + dv) av vY2 (vals 7) sB vY2 (vals 7) Y2 (ts ++ [yv + tv]) wi := hC
    clear i1 i2 h0 h1 h2 h3 h4 h5 h6 h8 hall
    dsimp only [over]
    clear hMain hT
    obtain ⟨w9, hw9⟩ : ∃ W : World, W = wi := ⟨_, rfl⟩
    subst hw9
    have htl2 : Hid ((ts ++ [yv + tv]).length = k + 1) := by show _ = _; rw [List.length_append, HTL.out]; rfl
    generalize vals 7 = vT2 at hC ⊢
    obtain ⟨T2, hT2⟩ : ∃ Z, Z = ts ++ [yv + tv] := ⟨_, rfl⟩
    rw [← hT2] at hC HF2 htl2
    clear hT2
    go_wp2_with fail
    go_roundw
    case rel => exact ⟨k + 1, Y2, T2, sB, vY2, vT2, by go_num, by omega, HYL2.out, htl2.out, hC, HF2⟩
    case measure => simp [intOf]; omega
end Go.Proofs.Ytgfmdgiepomkiaa
