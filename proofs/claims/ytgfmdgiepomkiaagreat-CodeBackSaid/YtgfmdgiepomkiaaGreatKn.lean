/- Plain: how a rectangle's floors, a rectangle, a tile are read. -/
import Derived.Test.YtgfmdgiepomkiaaGreatKq
import Derived.Test.YtgfmdgiepomkiaaGreatKa
import Derived.Test.YtgfmdgiepomkiaaGreatKo
import Derived.Test.YtgfmdgiepomkiaaGreatRctA
import Derived.Test.YtgfmdgiepomkiaaGreatLnk
import Derived.Test.YtgfmdgiepomkiaaGreatKe
namespace Go.Proofs.YtgfmdgiepomkiaaGreat
open Go.RowKit

/-- Floors, up to where something was wrong. -/
def rdFl (xs : List Int) : Nat → RS → List Int × List Int × RS
 | 0, st => ([], [], st)
 | k + 1, st => if st.2 = true then ([], [], st) else
  ((rdSig xs st).1 :: (rdFl xs k (rdNum xs (rdSig xs st).2).2).1, ((rdSig xs st).1 + (rdNum xs (rdSig xs st).2).1) :: (rdFl xs k (rdNum xs (rdSig xs st).2).2).2.1, (rdFl xs k (rdNum xs (rdSig xs st).2).2).2.2)
theorem rdFl_bad {xs : List Int} {k : Nat} {st : RS} (h : st.2 = true) : rdFl xs k st = ([], [], st) := by
 cases k with
 | zero => rfl
 | succ k => unfold rdFl; rw [if_pos h]
theorem rdFl_good {xs : List Int} {k : Nat} {st : RS} (h : st.2 = false) : rdFl xs (k + 1) st = ((rdSig xs st).1 :: (rdFl xs k (rdNum xs (rdSig xs st).2).2).1, ((rdSig xs st).1 + (rdNum xs (rdSig xs st).2).1) :: (rdFl xs k (rdNum xs (rdSig xs st).2).2).2.1, (rdFl xs k (rdNum xs (rdSig xs st).2).2).2.2) := by
 rw [rdFl, if_neg (by simp [h])]
theorem rdNum_stay {xs : List Int} {st : RS} (h : st.2 = true) : rdNum xs st = (0, st) := by unfold rdNum; rw [if_pos h]
theorem rdSig_stay {xs : List Int} {st : RS} (h : st.2 = true) : rdSig xs st = (0, st) := by unfold rdSig; rw [rdNum_stay h]; rfl
/-- A rectangle's numbers ahead of its floors. -/
structure Rc6 where
 x : Int
 z : Int
 w : Int
 d : Int
 a : Int
def rd6 (xs : List Int) (st : RS) : Rc6 × RS :=
 (⟨(rdNum xs st).1, (rdNum xs (rdNum xs st).2).1, (rdUp xs 7 (rdNum xs (rdNum xs st).2).2).1, (rdUp xs 7 (rdUp xs 7 (rdNum xs (rdNum xs st).2).2).2).1, (rdNum xs (rdUp xs 7 (rdUp xs 7 (rdNum xs (rdNum xs st).2).2).2).2).1⟩,
  (rdNum xs (rdUp xs 7 (rdUp xs 7 (rdNum xs (rdNum xs st).2).2).2).2).2)
def cnt6 (q : Rc6) : Nat := ((q.w + 1) * (q.d + 1)).toNat
def rdRct (xs : List Int) (st : RS) : Rc × RS :=
 (⟨(rd6 xs st).1.x, (rd6 xs st).1.z, (rd6 xs st).1.x + (rd6 xs st).1.w, (rd6 xs st).1.z + (rd6 xs st).1.d, (rd6 xs st).1.a, (rdFl xs (cnt6 (rd6 xs st).1) (rd6 xs st).2).1, (rdFl xs (cnt6 (rd6 xs st).1) (rd6 xs st).2).2.1⟩,
  (rdFl xs (cnt6 (rd6 xs st).1) (rd6 xs st).2).2.2)
theorem zag_range {n : Int} (h : 0 ≤ n ∧ n ≤ 4398046511104) : -2199023255553 ≤ zag n ∧ zag n ≤ 2199023255552 := by
 unfold zag
 split <;> omega
/-- A tile out of bytes: what it is, how many were used, what was wrong. -/
def rdTile (cf : Cfg) (xs : List Int) : (Int × Int × List Rc × List Dr) × Int × Int :=
 if cfgOk cf = true then
  if 131072 < xs.length then ((0, 0, [], []), 0, 3)
  else
   let x := rdNum xs (0, false)
   let z := rdNum xs x.2
   let l := rdList xs 96 (rdRct xs) z.2
   if l.2.2 = true ∨ bldE cf l.1 ≠ 0 ∨ tlE cf x.1 z.1 l.1 (allQ cf l.1 l.1.length) ≠ 0 then ((0, 0, [], []), 0, 200) else ((x.1, z.1, l.1, allQ cf l.1 l.1.length), (l.2.1 : Int), 0)
 else ((0, 0, [], []), 0, 20)
end Go.Proofs.YtgfmdgiepomkiaaGreat

namespace Go.Proofs.YtgfmdgiepomkiaaGreat
open Go.RowKit Go.Sort

section
variable {P : Program} {ops : Array Oper} {Q : Exit → Act → World → Prop}
/-- One operation of a drawn region, by the laws for lists. -/
theorem wpOp_list {i : Nat} {o : Oper} {K : Act → World → Prop} {a : Act} {w : World} (ho : ops[i]? = some o) (h : ∀ Q2 : Exit → Act → World → Prop, (∀ a' w', K a' w' → Q2 .normal a' w') → wpList P ops Q2 [o] a w) : wpOp P ops Q i K a w := by
 have h1 := h (fun e a w => match e with | .normal => K a w | e => Q e a w) (fun _ _ h => h)
 unfold wpList at h1
 unfold wpOp
 rw [ho]
 simp only
 split at h1
 ·
  rename_i hw
  rw [if_pos hw]
  rcases h1 with h1 | ⟨h1, a', w', h2⟩
  ·
   left
   unfold Oper.wp at *
   generalize (execOp a.eval o).run P w = r at *
   cases r with
   | ok n w' =>
    cases n <;> simp only [Oper.upon] at h1 ⊢
    all_goals first
     | exact h1
     | exact Calls.mono h1 (fun e w'' he => by
       cases e with
       | returned v => exact he
       | panicked c => exact he
       | outgrown => obtain ⟨a2, w2, q⟩ := he; exact ⟨a2, w2, q⟩)
     | exact Rows.mono h1 (fun _ _ he => he)
   | halt x w' => cases x <;> simp only [Oper.upon] at h1 ⊢ <;> exact h1
  ·
   exact .inr ⟨h1, a', w', h2⟩
 ·
  rename_i hw
  rw [if_neg hw]
  exact h1
end
theorem info_intR : (Tryz.prog.info? 3).map (fun i => (i.zero, i.size, i.bytes)) = some (some (.int .i64 0), 1, 8) := by kernel_rfl
/-- 'append(own, x)' as an operation of a drawn region; x lies in block q. -/
theorem wpOp_app1 {ops : Array Oper} {Q : Exit → Act → World → Prop} {i : Nat} {o : Oper} {K : Act → World → Prop} {a : Act} {w : World} (ho : ops[i]? = some o) (hgd : o.guard = none) (s x : Operand)
  (hop : o.op = Op.call { callee := Callee.builtin Builtin.append, args := #[s, x], argTypes := #[50, 50] })
  (B : Nat) (v : Value) (n : Nat) (xs : List Int) (y : Int) (q : Nat) (hown : OwnI .i64 3 B w v n xs) (hs : a.eval s = v) (hx : a.eval x = .slice (some ⟨q, 0, none⟩) 1 1)
  (hq : w.heap[q]? = some (.cells #[.int .i64 y] 3 (0, 0))) (hn : n ≤ 1000) (hB : B ≤ w.heap.size)
  (hK : ∀ v' w', OwnI .i64 3 B w' v' (n + 1) (xs ++ [y]) → Appd w w' v v' → K (a.put o.dst v') w') : wpOp Tryz.prog ops Q i K a w := by
 refine wpOp_list ho fun Q2 h2 => ?_
 obtain ⟨i', hi, hz0, hz1, hz2⟩ := info_parts info_intR
 refine wpList_app w hgd s x 50 hop B 3 i' (.int .i64 0) 1 8 Tryz.underlying50 hi hz0 hz1 hz2 rfl (by decide) v n (xs.map (Value.int .i64)) hs hown ⟨q, 0, none⟩ 1 1 [.int .i64 y] hx (by decide) rfl ?_ ?_ (by unfold maxLen; omega) (by omega) hB ?_
 ·
  intro j u hu
  rw [Addr.add_lit, Nat.zero_add]
  exact hcell hq (by simpa using hu)
 ·
  intro u hu
  simp at hu
  subst hu
  rfl
 ·
  intro v' w' r1 r2
  exact h2 _ _ (hK v' w' (by unfold OwnI; simpa using r1) r2)

/-- While a rectangle is read. w: as it was at the beginning; P the rectangle's block, rb the reader's. -/
structure RctW (w : World) (B P rb : Nat) (a : Option Addr) (n c : Nat) (xs : List Int) (x0 z0 x1 z1 ar : Int) (v5 v6 : Value) (st : RS) (vY vT : Value) (ys ts : List Int) (W : World) : Prop where
 gb : w.grownBy W (some rb)
 bk : W.heap[P]? = some (.cells #[.int .i64 x0, .int .i64 z0, .int .i64 x1, .int .i64 z1, .int .i64 ar, v5, v6] 52 (0, 0))
 rd : RdAt 73 (fun b => b) W rb a n c xs st
 y : OwnI .i64 3 B W vY ys.length ys
 t : OwnI .i64 3 B W vT ts.length ts
 ap : ∀ j, vY.ownBlock = some j → vT.ownBlock ≠ some j
 rP : rb < P
 wP : w.heap.size ≤ P
 PB : P < B
section
variable {w : World} {B P rb : Nat} {a : Option Addr} {n c : Nat} {xs : List Int} {x0 z0 x1 z1 ar : Int} {v5 v6 : Value} {st : RS} {vY vT : Value} {ys ts : List Int} {W W' : World}
theorem RctW.neP (h : RctW w B P rb a n c xs x0 z0 x1 z1 ar v5 v6 st vY vT ys ts W) : vY.ownBlock ≠ some P ∧ vT.ownBlock ≠ some P ∧ vY.ownBlock ≠ some rb ∧ vT.ownBlock ≠ some rb := by
 have h1 := h.y.le
 have h2 := h.t.le
 have h3 := h.PB
 have h4 := h.rP
 refine ⟨fun e => ?_, fun e => ?_, fun e => ?_, fun e => ?_⟩
 ·
  have := h1 _ e; omega
 ·
  have := h2 _ e; omega
 ·
  have := h1 _ e; omega
 ·
  have := h2 _ e; omega
theorem RctW.alloc (h : RctW w B P rb a n c xs x0 z0 x1 z1 ar v5 v6 st vY vT ys ts W) (o : Obj) : RctW w B P rb a n c xs x0 z0 x1 z1 ar v5 v6 st vY vT ys ts (W.alloc o) :=
 ⟨gb_alloc h.gb o, halloc h.bk o, h.rd.alloc o, h.y.alloc o, h.t.alloc o, h.ap, h.rP, h.wP, h.PB⟩
theorem RctW.drew (h : RctW w B P rb a n c xs x0 z0 x1 z1 ar v5 v6 st vY vT ys ts W) : RctW w B P rb a n c xs x0 z0 x1 z1 ar v5 v6 st vY vT ys ts W.drew :=
 ⟨h.gb.drew, h.bk, h.rd.drew, OwnI.drewN h.y 1, OwnI.drewN h.t 1, h.ap, h.rP, h.wP, h.PB⟩
theorem RctW.call (h : RctW w B P rb a n c xs x0 z0 x1 z1 ar v5 v6 st vY vT ys ts W) {st' : RS} (hr : RdAt 73 (fun b => b) W' rb a n c xs st') (hg : W.grownBy W' (some rb)) : RctW w B P rb a n c xs x0 z0 x1 z1 ar v5 v6 st' vY vT ys ts W' :=
 ⟨h.gb.trans hg, blk_keep hg h.bk h.rP, hr, h.y.kept hg (.inr h.neP.2.2.1), h.t.kept hg (.inr h.neP.2.2.2), h.ap, h.rP, h.wP, h.PB⟩
theorem RctW.appY (h : RctW w B P rb a n c xs x0 z0 x1 z1 ar v5 v6 st vY vT ys ts W) {v' : Value} {y : Int} (ho : OwnI .i64 3 B W' v' (ys.length + 1) (ys ++ [y])) (hp : Appd W W' vY v') : RctW w B P rb a n c xs x0 z0 x1 z1 ar v5 v6 st v' vT (ys ++ [y]) ts W' := by
 obtain ⟨n1, n2, n3, n4⟩ := h.neP
 refine ⟨World.grownBy.andThen h.gb hp.grown (fun j hj => .inl (by have := h.y.le j hj; have := h.wP; have := h.PB; omega)), hgrown hp.grown h.bk n1, h.rd.grown hp.grown (fun j hj => by have := h.y.le j hj; have := h.rP; have := h.PB; omega), ?_, h.t.kept hp.grown ?_, ?_, h.rP, h.wP, h.PB⟩
 ·
  rw [List.length_append]
  exact ho
 ·
  by_cases e : vT.ownBlock = none
  ·
   exact .inl e
  ·
   refine .inr fun e2 => ?_
   obtain ⟨j, hj⟩ := Option.ne_none_iff_exists'.1 e
   exact h.ap j (e2.symm.trans hj) hj
 ·
  intro j hj e
  rcases hp.own with h1 | h1
  ·
   exact h.ap j (h1.symm.trans hj) e
  ·
   have := h1 j hj
   have := (h.t.lt j e).2
   omega
theorem RctW.appT (h : RctW w B P rb a n c xs x0 z0 x1 z1 ar v5 v6 st vY vT ys ts W) {v' : Value} {y : Int} (ho : OwnI .i64 3 B W' v' (ts.length + 1) (ts ++ [y])) (hp : Appd W W' vT v') : RctW w B P rb a n c xs x0 z0 x1 z1 ar v5 v6 st vY v' ys (ts ++ [y]) W' := by
 obtain ⟨n1, n2, n3, n4⟩ := h.neP
 refine ⟨World.grownBy.andThen h.gb hp.grown (fun j hj => .inl (by have := h.t.le j hj; have := h.wP; have := h.PB; omega)), hgrown hp.grown h.bk n2, h.rd.grown hp.grown (fun j hj => by have := h.t.le j hj; have := h.rP; have := h.PB; omega), h.y.kept hp.grown ?_, ?_, ?_, h.rP, h.wP, h.PB⟩
 ·
  by_cases e : vY.ownBlock = none
  ·
   exact .inl e
  ·
   refine .inr fun e2 => ?_
   obtain ⟨j, hj⟩ := Option.ne_none_iff_exists'.1 e
   exact h.ap j hj (e2.symm.trans hj)
 ·
  rw [List.length_append]
  exact ho
 ·
  intro j hj e
  rcases hp.own with h1 | h1
  ·
   exact h.ap j hj (h1.symm.trans e)
  ·
   have := h1 j e
   have := (h.y.lt j hj).2
   omega
theorem RctW.set0 (h : RctW w B P rb a n c xs x0 z0 x1 z1 ar v5 v6 st vY vT ys ts W) (u : Int) : RctW w B P rb a n c xs u z0 x1 z1 ar v5 v6 st vY vT ys ts (W.setCell ⟨P, 0, none⟩ (.int .i64 u)) :=
 ⟨gb_set h.gb h.wP 0 _, heap_setCell_same W P 0 _ _ (.int .i64 u) h.bk, h.rd.set h.rP 0 _, h.y.kept (grown_set W P 0 _) (.inr h.neP.1), h.t.kept (grown_set W P 0 _) (.inr h.neP.2.1), h.ap, h.rP, h.wP, h.PB⟩
theorem RctW.set1 (h : RctW w B P rb a n c xs x0 z0 x1 z1 ar v5 v6 st vY vT ys ts W) (u : Int) : RctW w B P rb a n c xs x0 u x1 z1 ar v5 v6 st vY vT ys ts (W.setCell ⟨P, 1, none⟩ (.int .i64 u)) :=
 ⟨gb_set h.gb h.wP 1 _, heap_setCell_same W P 1 _ _ (.int .i64 u) h.bk, h.rd.set h.rP 1 _, h.y.kept (grown_set W P 1 _) (.inr h.neP.1), h.t.kept (grown_set W P 1 _) (.inr h.neP.2.1), h.ap, h.rP, h.wP, h.PB⟩
theorem RctW.set2 (h : RctW w B P rb a n c xs x0 z0 x1 z1 ar v5 v6 st vY vT ys ts W) (u : Int) : RctW w B P rb a n c xs x0 z0 u z1 ar v5 v6 st vY vT ys ts (W.setCell ⟨P, 2, none⟩ (.int .i64 u)) :=
 ⟨gb_set h.gb h.wP 2 _, heap_setCell_same W P 2 _ _ (.int .i64 u) h.bk, h.rd.set h.rP 2 _, h.y.kept (grown_set W P 2 _) (.inr h.neP.1), h.t.kept (grown_set W P 2 _) (.inr h.neP.2.1), h.ap, h.rP, h.wP, h.PB⟩
theorem RctW.set3 (h : RctW w B P rb a n c xs x0 z0 x1 z1 ar v5 v6 st vY vT ys ts W) (u : Int) : RctW w B P rb a n c xs x0 z0 x1 u ar v5 v6 st vY vT ys ts (W.setCell ⟨P, 3, none⟩ (.int .i64 u)) :=
 ⟨gb_set h.gb h.wP 3 _, heap_setCell_same W P 3 _ _ (.int .i64 u) h.bk, h.rd.set h.rP 3 _, h.y.kept (grown_set W P 3 _) (.inr h.neP.1), h.t.kept (grown_set W P 3 _) (.inr h.neP.2.1), h.ap, h.rP, h.wP, h.PB⟩
theorem RctW.set4 (h : RctW w B P rb a n c xs x0 z0 x1 z1 ar v5 v6 st vY vT ys ts W) (u : Int) : RctW w B P rb a n c xs x0 z0 x1 z1 u v5 v6 st vY vT ys ts (W.setCell ⟨P, 4, none⟩ (.int .i64 u)) :=
 ⟨gb_set h.gb h.wP 4 _, heap_setCell_same W P 4 _ _ (.int .i64 u) h.bk, h.rd.set h.rP 4 _, h.y.kept (grown_set W P 4 _) (.inr h.neP.1), h.t.kept (grown_set W P 4 _) (.inr h.neP.2.1), h.ap, h.rP, h.wP, h.PB⟩
theorem RctW.set5 (h : RctW w B P rb a n c xs x0 z0 x1 z1 ar v5 v6 st vY vT ys ts W) (u : Value) : RctW w B P rb a n c xs x0 z0 x1 z1 ar u v6 st vY vT ys ts (W.setCell ⟨P, 5, none⟩ u) :=
 ⟨gb_set h.gb h.wP 5 u, heap_setCell_same W P 5 _ _ u h.bk, h.rd.set h.rP 5 u, h.y.kept (grown_set W P 5 u) (.inr h.neP.1), h.t.kept (grown_set W P 5 u) (.inr h.neP.2.1), h.ap, h.rP, h.wP, h.PB⟩
theorem RctW.set6 (h : RctW w B P rb a n c xs x0 z0 x1 z1 ar v5 v6 st vY vT ys ts W) (u : Value) : RctW w B P rb a n c xs x0 z0 x1 z1 ar v5 u st vY vT ys ts (W.setCell ⟨P, 6, none⟩ u) :=
 ⟨gb_set h.gb h.wP 6 u, heap_setCell_same W P 6 _ _ u h.bk, h.rd.set h.rP 6 u, h.y.kept (grown_set W P 6 u) (.inr h.neP.1), h.t.kept (grown_set W P 6 u) (.inr h.neP.2.1), h.ap, h.rP, h.wP, h.PB⟩
/-- A number laid for an append: it lies apart from all that turns. -/
structure Frq (P rb : Nat) (y : Int) (vY vT : Value) (q : Nat) (W : World) : Prop where
 cel : W.heap[q]? = some (.cells #[.int .i64 y] 3 (0, 0))
 p : q ≠ P
 r : q ≠ rb
 y : vY.ownBlock ≠ some q
 t : vT.ownBlock ≠ some q
theorem Frq.new (h : RctW w B P rb a n c xs x0 z0 x1 z1 ar v5 v6 st vY vT ys ts W) (y : Int) : Frq P rb y vY vT W.heap.size (W.alloc (.cells #[.int .i64 y] 3 (0, 0))) := by
 have h1 := hblt h.bk
 have h2 := h.rP
 refine ⟨World.alloc_heap_new _ _, by omega, by omega, fun e => ?_, fun e => ?_⟩
 ·
  have := (h.y.lt _ e).2; omega
 ·
  have := (h.t.lt _ e).2; omega
variable {q : Nat} {y : Int}
theorem Frq.alloc (h : Frq P rb y vY vT q W) (o : Obj) : Frq P rb y vY vT q (W.alloc o) := ⟨halloc h.cel o, h.p, h.r, h.y, h.t⟩
theorem Frq.call (h : Frq P rb y vY vT q W) (hg : W.grownBy W' (some rb)) : Frq P rb y vY vT q W' := ⟨hgrown hg h.cel (fun e => h.r (Option.some.inj e).symm), h.p, h.r, h.y, h.t⟩
theorem Frq.set (h : Frq P rb y vY vT q W) (i : Nat) (u : Value) : Frq P rb y vY vT q (W.setCell ⟨P, i, none⟩ u) := ⟨hgrown (grown_set W P i u) h.cel (fun e => h.p (Option.some.inj e).symm), h.p, h.r, h.y, h.t⟩
theorem Frq.appY (h : Frq P rb y vY vT q W) {v' : Value} (hp : Appd W W' vY v') : Frq P rb y v' vT q W' := by
 refine ⟨hgrown hp.grown h.cel h.y, h.p, h.r, fun e => ?_, h.t⟩
 rcases hp.own with h1 | h1
 ·
  exact h.y (h1.symm.trans e)
 ·
  have := h1 q e
  have := hblt h.cel
  omega
theorem Frq.appT (h : Frq P rb y vY vT q W) {v' : Value} (hp : Appd W W' vT v') : Frq P rb y vY v' q W' := by
 refine ⟨hgrown hp.grown h.cel h.t, h.p, h.r, h.y, fun e => ?_⟩
 rcases hp.own with h1 | h1
 ·
  exact h.t (h1.symm.trans e)
 ·
  have := h1 q e
  have := hblt h.cel
  omega
end
end Go.Proofs.YtgfmdgiepomkiaaGreat

namespace Go.Proofs.YtgfmdgiepomkiaaGreat
open Go.RowKit Go.Sort
attribute [local go_sem] Instr.index

theorem cas16 {P : (i : Nat) → i < 16 → Prop} (h0 : P 0 (by decide)) (h1 : P 1 (by decide)) (h2 : P 2 (by decide)) (h3 : P 3 (by decide)) (h4 : P 4 (by decide)) (h5 : P 5 (by decide)) (h6 : P 6 (by decide)) (h7 : P 7 (by decide)) (h8 : P 8 (by decide)) (h9 : P 9 (by decide)) (h10 : P 10 (by decide)) (h11 : P 11 (by decide)) (h12 : P 12 (by decide)) (h13 : P 13 (by decide)) (h14 : P 14 (by decide)) (h15 : P 15 (by decide)) (i : Nat) (h : i < 16) : P i h := by
 by_cases e : i < 8
 ·
  rcases (by omega : i = 0 ∨ i = 1 ∨ i = 2 ∨ i = 3 ∨ i = 4 ∨ i = 5 ∨ i = 6 ∨ i = 7) with rfl | rfl | rfl | rfl | rfl | rfl | rfl | rfl <;> assumption
 ·
  rcases (by omega : i = 8 ∨ i = 9 ∨ i = 10 ∨ i = 11 ∨ i = 12 ∨ i = 13 ∨ i = 14 ∨ i = 15) with rfl | rfl | rfl | rfl | rfl | rfl | rfl | rfl <;> assumption
theorem cas17 {P : (i : Nat) → i < 17 → Prop} (h0 : P 0 (by decide)) (h1 : P 1 (by decide)) (h2 : P 2 (by decide)) (h3 : P 3 (by decide)) (h4 : P 4 (by decide)) (h5 : P 5 (by decide)) (h6 : P 6 (by decide)) (h7 : P 7 (by decide)) (h8 : P 8 (by decide)) (h9 : P 9 (by decide)) (h10 : P 10 (by decide)) (h11 : P 11 (by decide)) (h12 : P 12 (by decide)) (h13 : P 13 (by decide)) (h14 : P 14 (by decide)) (h15 : P 15 (by decide)) (h16 : P 16 (by decide)) (i : Nat) (h : i < 17) : P i h := by
 by_cases e : i < 8
 ·
  rcases (by omega : i = 0 ∨ i = 1 ∨ i = 2 ∨ i = 3 ∨ i = 4 ∨ i = 5 ∨ i = 6 ∨ i = 7) with rfl | rfl | rfl | rfl | rfl | rfl | rfl | rfl <;> assumption
 ·
  rcases (by omega : i = 8 ∨ i = 9 ∨ i = 10 ∨ i = 11 ∨ i = 12 ∨ i = 13 ∨ i = 14 ∨ i = 15 ∨ i = 16) with rfl | rfl | rfl | rfl | rfl | rfl | rfl | rfl | rfl <;> assumption

def RctPost (w : World) (rb : Nat) (a : Option Addr) (n c : Nat) (xs : List Int) (st : RS) (e : Ending) (w' : World) : Prop := ∃ (h' : RHd) (r : Rc), e = .returned (rcV h' r) ∧ RcSl w' h' r ∧ RdAt 73 (fun b => b) w' rb a n c xs (rdRct xs st).2 ∧ w.grownBy w' (some rb) ∧
 (∀ ad, h'.ya = some ad → w.heap.size < ad.block ∧ ad.block < w'.heap.size) ∧ (∀ ad, h'.ta = some ad → w.heap.size < ad.block ∧ ad.block < w'.heap.size) ∧ ((rdRct xs st).2.2 = false → r = (rdRct xs st).1)
set_option maxRecDepth 100000 in
set_option maxHeartbeats 16000000 in
theorem rrect_any (w : World) (rb : Nat) (a : Option Addr) (n c : Nat) (xs : List Int) (st : RS) (h : RdAt 73 (fun b => b) w rb a n c xs st) :
  Calls Tryz.prog 32 #[.pointer (some ⟨rb, 0, none⟩)] w (RctPost w rb a n c xs st) := by
 have hby := h.byte
 obtain ⟨⟨x0, s1⟩, hR1⟩ : ∃ r, r = rdNum xs st := ⟨_, rfl⟩
 obtain ⟨⟨z0, s2⟩, hR2⟩ : ∃ r, r = rdNum xs s1 := ⟨_, rfl⟩
 obtain ⟨⟨wv, s3⟩, hR3⟩ : ∃ r, r = rdUp xs 7 s2 := ⟨_, rfl⟩
 obtain ⟨⟨dv, s4⟩, hR4⟩ : ∃ r, r = rdUp xs 7 s3 := ⟨_, rfl⟩
 obtain ⟨⟨av, s5⟩, hR5⟩ : ∃ r, r = rdNum xs s4 := ⟨_, rfl⟩
 have hx := rdNum_range (st := st) hby
 have hz := rdNum_range (st := s1) hby
 have hw := rdUp_range (st := s2) (m := 7) (by decide) hby
 have hdd := rdUp_range (st := s3) (m := 7) (by decide) hby
 have hav := rdNum_range (st := s4) hby
 rw [← hR1] at hx
 rw [← hR2] at hz
 rw [← hR3] at hw
 rw [← hR4] at hdd
 rw [← hR5] at hav
 dsimp only at hx hz hw hdd hav
 have H6 : Hid (rd6 xs st = (⟨x0, z0, wv, dv, av⟩, s5)) := by show _ = _; unfold rd6; rw [← hR1]; dsimp only; rw [← hR2]; dsimp only; rw [← hR3]; dsimp only; rw [← hR4]; dsimp only; rw [← hR5]
 have C1 := Lib.hid (fun W hW => rnumber_any W rb a n c xs st hW)
 have C2 := Lib.hid (fun W hW => rnumber_any W rb a n c xs s1 hW)
 have C3 := Lib.hid (fun W hW => rup_any 7 W rb a n c xs s2 hW)
 have C4 := Lib.hid (fun W hW => rup_any 7 W rb a n c xs s3 hW)
 rw [← hR1] at C1
 rw [← hR2] at C2
 rw [← hR3] at C3
 rw [← hR4] at C4
 dsimp only at C1 C2 C3 C4
 have HR5 := Lib.hid hR5
 clear hR1 hR2 hR3 hR4 hR5
 obtain ⟨P, hP⟩ : ∃ P, P = w.heap.size := ⟨_, rfl⟩
 obtain ⟨B, hBP⟩ : ∃ B, B = P + 1 := ⟨_, rfl⟩
 have hrl := h.lt
 have hM0 : RctW w B P rb a n c xs 0 0 0 0 0 (.slice none 0 0) (.slice none 0 0) st (.slice none 0 0) (.slice none 0 0) [] [] (w.alloc (.cells #[.int .i64 0, .int .i64 0, .int .i64 0, .int .i64 0, .int .i64 0, .slice none 0 0, .slice none 0 0] 52 (0, 0))) :=
  ⟨gb_alloc (World.grownBy.refl w _) _, by rw [hP]; exact World.alloc_heap_new w _, h.alloc _, OwnI.nil _ _ _ _, OwnI.nil _ _ _ _, (fun j hj => nomatch hj), by omega, by omega, by omega⟩
 obtain ⟨W1, hW1⟩ : ∃ W, W = w.alloc (.cells #[.int .i64 0, .int .i64 0, .int .i64 0, .int .i64 0, .int .i64 0, .slice none 0 0, .slice none 0 0] 52 (0, 0)) := ⟨_, rfl⟩
 rw [← hW1] at hM0
 have HP := Lib.hid hP
 have HBP := Lib.hid hBP
 clear h hP hBP
 go_enter Tryz.func32, Tryz.ntmps32
 go_upto_region 1 with fail
 rw [← hW1, ← HP.out]
 clear hW1
 go_wp2_with fail
 refine (C1.out _ hM0.rd).mono ?_
 rintro e w2 ⟨rfl, hr, hg⟩
 have hM1 := hM0.call hr hg
 clear hr hg hM0 C1
 go_wp2_with fail
 refine (C2.out _ hM1.rd).mono ?_
 rintro e w3 ⟨rfl, hr, hg⟩
 have hM2 := hM1.call hr hg
 clear hr hg hM1 C2
 have k0 := hcell (k := 0) (v := .int .i64 0) hM2.bk rfl
 have k1 := hcell (k := 1) (v := .int .i64 0) hM2.bk rfl
 have f0 := hfroz (k := 0) hM2.bk
 have f1 := hfroz (k := 1) hM2.bk
 have hM3 := (hM2.set0 x0).set1 z0
 go_upto_region 2 with fail
 obtain ⟨W4, hW4⟩ : ∃ W, W = (w3.setCell ⟨P, 0, none⟩ (.int .i64 x0)).setCell ⟨P, 1, none⟩ (.int .i64 z0) := ⟨_, rfl⟩
 rw [← hW4] at hM3 ⊢
 clear hW4 k0 k1 f0 f1 hM2
 go_wp2_with fail
 refine (C3.out _ hM3.rd).mono ?_
 rintro e w5 ⟨rfl, hr, hg⟩
 have hM4 := hM3.call hr hg
 clear hr hg hM3 C3
 go_wp2_with fail
 refine (C4.out _ hM4.rd).mono ?_
 rintro e w6 ⟨rfl, hr, hg⟩
 have hMain := hM4.call hr hg
 clear hr hg hM4 C4
 have wx : IntKind.i64.wrap (x0 + wv) = x0 + wv := by rw [IntKind.wrap_i64]; omega
 have wz : IntKind.i64.wrap (z0 + dv) = z0 + dv := by rw [IntKind.wrap_i64]; omega
 go_upto_region 3 with fail
 have hR5 := HR5.out
 refine wp_region_fun ([none, none, none, none, none, none, none, none, none, none, none, none, none, none, none, none, some 0, some 1, some 2, some 3, some 4, some 5, some 6, some 7, some 8, some 9, some 10, some 12, some 14, none, none, none, none, none, none, none, none, none, none, none, none, none, none, none, none, none, none, none, none, none, none, none, none, none, none, none, none, none, none]) (fun (b : Nat → Bool) (vals : Nat → Value) (W : World) => RctW w B P rb a n c xs x0 z0 (bif b 11 then x0 + wv else 0) (bif b 13 then z0 + dv else 0) (bif b 15 then av else 0) (.slice none 0 0) (.slice none 0 0) (bif b 9 then s5 else s4) (.slice none 0 0) (.slice none 0 0) [] [] W ∧ (b 0 = true → vals 0 = .pointer (some ⟨P, 0, none⟩)) ∧ (b 1 = true → vals 1 = .int .i64 x0) ∧ (b 2 = true → vals 2 = .int .i64 wv) ∧ (b 3 = true → vals 3 = .int .i64 (x0 + wv)) ∧ (b 4 = true → vals 4 = .pointer (some ⟨P, 1, none⟩)) ∧ (b 5 = true → vals 5 = .int .i64 z0) ∧ (b 6 = true → vals 6 = .int .i64 dv) ∧ (b 7 = true → vals 7 = .int .i64 (z0 + dv)) ∧ (b 8 = true → vals 8 = .pointer (some ⟨rb, 0, none⟩)) ∧ (b 9 = true → vals 9 = .int .i64 av) ∧ (b 10 = true → vals 10 = .pointer (some ⟨P, 2, none⟩)) ∧ (b 12 = true → vals 12 = .pointer (some ⟨P, 3, none⟩)) ∧ (b 14 = true → vals 14 = .pointer (some ⟨P, 4, none⟩))) (by kernel_rfl) (by kernel_rfl) (by kernel_rfl) (by kernel_rfl) ?_ ?_ ?_
 ·
  intro vals
  exact ⟨hMain.drew, (fun h => by cases (show false = true from h)), (fun h => by cases (show false = true from h)), (fun h => by cases (show false = true from h)), (fun h => by cases (show false = true from h)), (fun h => by cases (show false = true from h)), (fun h => by cases (show false = true from h)), (fun h => by cases (show false = true from h)), (fun h => by cases (show false = true from h)), (fun h => by cases (show false = true from h)), (fun h => by cases (show false = true from h)), (fun h => by cases (show false = true from h)), (fun h => by cases (show false = true from h)), (fun h => by cases (show false = true from h))⟩
 ·
  intro Q' K t b vals wi hoff hon i hlt hR hb hd hK
  have hlt : i < 16 := hlt
  obtain ⟨hC, h0, h1, h2, h3, h4, h5, h6, h7, h8, h9, h10, h12, h14⟩ := hR
  revert hb hd hK
  cases i, hlt using cas16
  ·
   intro hb hd hK
   have g2 : t[(2 : Nat)]? = some (.pointer (some ⟨P, 0, none⟩)) := hoff 2 _ rfl rfl
   clear hoff hon hd
   refine wpOp_of rfl rfl ?_
   go_simp
   exact hK.out _ _ ⟨(hC), (fun _ => rfl), (h1), (h2), (h3), (h4), (h5), (h6), (h7), (h8), (h9), (h10), (h12), (h14)⟩
  ·
   intro hb hd hK
   have d0 := hd 0 (by kernel_rfl)
   have g16 : t[(16 : Nat)]? = some (.pointer (some ⟨P, 0, none⟩)) := (hon 0 16 rfl).trans (congrArg some (h0 d0))
   have cc := hcell (k := 0) (v := .int .i64 x0) hC.bk rfl
   clear hoff hon hd
   refine wpOp_of rfl rfl ?_
   go_simp
   exact hK.out _ _ ⟨(hC), (h0), (fun _ => rfl), (h2), (h3), (h4), (h5), (h6), (h7), (h8), (h9), (h10), (h12), (h14)⟩
  ·
   intro hb hd hK
   have g3 : t[(3 : Nat)]? = some (.int .i64 wv) := hoff 3 _ rfl rfl
   clear hoff hon hd
   refine wpOp_of rfl rfl ?_
   go_simp
   exact hK.out _ _ ⟨(hC), (h0), (h1), (fun _ => rfl), (h3), (h4), (h5), (h6), (h7), (h8), (h9), (h10), (h12), (h14)⟩
  ·
   intro hb hd hK
   have d1 := hd 1 (by kernel_rfl)
   have g17 : t[(17 : Nat)]? = some (.int .i64 x0) := (hon 1 17 rfl).trans (congrArg some (h1 d1))
   have d2 := hd 2 (by kernel_rfl)
   have g18 : t[(18 : Nat)]? = some (.int .i64 wv) := (hon 2 18 rfl).trans (congrArg some (h2 d2))
   clear hoff hon hd
   refine wpOp_of rfl rfl ?_
   go_simp
   exact hK.out _ _ ⟨(hC), (h0), (h1), (h2), (fun _ => rfl), (h4), (h5), (h6), (h7), (h8), (h9), (h10), (h12), (h14)⟩
  ·
   intro hb hd hK
   have g2 : t[(2 : Nat)]? = some (.pointer (some ⟨P, 0, none⟩)) := hoff 2 _ rfl rfl
   clear hoff hon hd
   refine wpOp_of rfl rfl ?_
   go_simp
   exact hK.out _ _ ⟨(hC), (h0), (h1), (h2), (h3), (fun _ => rfl), (h5), (h6), (h7), (h8), (h9), (h10), (h12), (h14)⟩
  ·
   intro hb hd hK
   have d4 := hd 4 (by kernel_rfl)
   have g20 : t[(20 : Nat)]? = some (.pointer (some ⟨P, 1, none⟩)) := (hon 4 20 rfl).trans (congrArg some (h4 d4))
   have cc := hcell (k := 1) (v := .int .i64 z0) hC.bk rfl
   clear hoff hon hd
   refine wpOp_of rfl rfl ?_
   go_simp
   exact hK.out _ _ ⟨(hC), (h0), (h1), (h2), (h3), (h4), (fun _ => rfl), (h6), (h7), (h8), (h9), (h10), (h12), (h14)⟩
  ·
   intro hb hd hK
   have g4 : t[(4 : Nat)]? = some (.int .i64 dv) := hoff 4 _ rfl rfl
   clear hoff hon hd
   refine wpOp_of rfl rfl ?_
   go_simp
   exact hK.out _ _ ⟨(hC), (h0), (h1), (h2), (h3), (h4), (h5), (fun _ => rfl), (h7), (h8), (h9), (h10), (h12), (h14)⟩
  ·
   intro hb hd hK
   have d5 := hd 5 (by kernel_rfl)
   have g21 : t[(21 : Nat)]? = some (.int .i64 z0) := (hon 5 21 rfl).trans (congrArg some (h5 d5))
   have d6 := hd 6 (by kernel_rfl)
   have g22 : t[(22 : Nat)]? = some (.int .i64 dv) := (hon 6 22 rfl).trans (congrArg some (h6 d6))
   clear hoff hon hd
   refine wpOp_of rfl rfl ?_
   go_simp
   exact hK.out _ _ ⟨(hC), (h0), (h1), (h2), (h3), (h4), (h5), (h6), (fun _ => rfl), (h8), (h9), (h10), (h12), (h14)⟩
  ·
   intro hb hd hK
   have g0 : t[(0 : Nat)]? = some (.pointer (some ⟨rb, 0, none⟩)) := hoff 0 _ rfl rfl
   clear hoff hon hd
   refine wpOp_of rfl rfl ?_
   go_simp
   exact hK.out _ _ ⟨(hC), (h0), (h1), (h2), (h3), (h4), (h5), (h6), (h7), (fun _ => rfl), (h9), (h10), (h12), (h14)⟩
  ·
   intro hb hd hK
   have d8 := hd 8 (by kernel_rfl)
   have g24 : t[(24 : Nat)]? = some (.pointer (some ⟨rb, 0, none⟩)) := (hon 8 24 rfl).trans (congrArg some (h8 d8))
   have hC2 := hC
   rw [hb] at hC2
   clear hoff hon hd
   refine wpOp_of rfl rfl ?_
   go_simp
   go_at_call 22
   refine (rnumber_any wi rb a n c xs s4 hC2.rd).mono ?_
   rw [← hR5]
   rintro e wz ⟨rfl, hr, hg⟩
   (try go_simp)
   exact hK.out _ _ ⟨(hC2.call hr hg), (h0), (h1), (h2), (h3), (h4), (h5), (h6), (h7), (h8), (fun _ => rfl), (h10), (h12), (h14)⟩
  ·
   intro hb hd hK
   have g2 : t[(2 : Nat)]? = some (.pointer (some ⟨P, 0, none⟩)) := hoff 2 _ rfl rfl
   clear hoff hon hd
   refine wpOp_of rfl rfl ?_
   go_simp
   exact hK.out _ _ ⟨(hC), (h0), (h1), (h2), (h3), (h4), (h5), (h6), (h7), (h8), (h9), (fun _ => rfl), (h12), (h14)⟩
  ·
   intro hb hd hK
   have d10 := hd 10 (by kernel_rfl)
   have g26 : t[(26 : Nat)]? = some (.pointer (some ⟨P, 2, none⟩)) := (hon 10 26 rfl).trans (congrArg some (h10 d10))
   have d3 := hd 3 (by kernel_rfl)
   have g19 : t[(19 : Nat)]? = some (.int .i64 (x0 + wv)) := (hon 3 19 rfl).trans (congrArg some (h3 d3))
   have hbk := hC.bk
   rw [hb] at hbk
   have cc := hcell (k := 2) (v := .int .i64 0) hbk rfl
   have ff := hfroz (k := 2) hbk
   have hN := hC.set2 (x0 + wv)
   clear hoff hon hd hbk
   refine wpOp_of rfl rfl ?_
   go_simp
   exact hK.out undef _ ⟨(hN), (h0), (h1), (h2), (h3), (h4), (h5), (h6), (h7), (h8), (h9), (h10), (h12), (h14)⟩
  ·
   intro hb hd hK
   have g2 : t[(2 : Nat)]? = some (.pointer (some ⟨P, 0, none⟩)) := hoff 2 _ rfl rfl
   clear hoff hon hd
   refine wpOp_of rfl rfl ?_
   go_simp
   exact hK.out _ _ ⟨(hC), (h0), (h1), (h2), (h3), (h4), (h5), (h6), (h7), (h8), (h9), (h10), (fun _ => rfl), (h14)⟩
  ·
   intro hb hd hK
   have d12 := hd 12 (by kernel_rfl)
   have g27 : t[(27 : Nat)]? = some (.pointer (some ⟨P, 3, none⟩)) := (hon 12 27 rfl).trans (congrArg some (h12 d12))
   have d7 := hd 7 (by kernel_rfl)
   have g23 : t[(23 : Nat)]? = some (.int .i64 (z0 + dv)) := (hon 7 23 rfl).trans (congrArg some (h7 d7))
   have hbk := hC.bk
   rw [hb] at hbk
   have cc := hcell (k := 3) (v := .int .i64 0) hbk rfl
   have ff := hfroz (k := 3) hbk
   have hN := hC.set3 (z0 + dv)
   clear hoff hon hd hbk
   refine wpOp_of rfl rfl ?_
   go_simp
   exact hK.out undef _ ⟨(hN), (h0), (h1), (h2), (h3), (h4), (h5), (h6), (h7), (h8), (h9), (h10), (h12), (h14)⟩
  ·
   intro hb hd hK
   have g2 : t[(2 : Nat)]? = some (.pointer (some ⟨P, 0, none⟩)) := hoff 2 _ rfl rfl
   clear hoff hon hd
   refine wpOp_of rfl rfl ?_
   go_simp
   exact hK.out _ _ ⟨(hC), (h0), (h1), (h2), (h3), (h4), (h5), (h6), (h7), (h8), (h9), (h10), (h12), (fun _ => rfl)⟩
  ·
   intro hb hd hK
   have d14 := hd 14 (by kernel_rfl)
   have g28 : t[(28 : Nat)]? = some (.pointer (some ⟨P, 4, none⟩)) := (hon 14 28 rfl).trans (congrArg some (h14 d14))
   have d9 := hd 9 (by kernel_rfl)
   have g25 : t[(25 : Nat)]? = some (.int .i64 av) := (hon 9 25 rfl).trans (congrArg some (h9 d9))
   have hbk := hC.bk
   rw [hb] at hbk
   have cc := hcell (k := 4) (v := .int .i64 0) hbk rfl
   have ff := hfroz (k := 4) hbk
   have hN := hC.set4 (av)
   clear hoff hon hd hbk
   refine wpOp_of rfl rfl ?_
   go_simp
   exact hK.out undef _ ⟨(hN), (h0), (h1), (h2), (h3), (h4), (h5), (h6), (h7), (h8), (h9), (h10), (h12), (h14)⟩
 ·
  intro b vals wi hR hall
  obtain ⟨hC, h0, h1, h2, h3, h4, h5, h6, h7, h8, h9, h10, h12, h14⟩ := hR
  rw [hall 9 (by decide), hall 11 (by decide), hall 13 (by decide), hall 15 (by decide)] at hC
  replace hC : RctW w B P rb a n c xs x0 z0 (x0 + wv) (z0 + dv) av (.slice none 0 0) (.slice none 0 0) s5 (.slice none 0 0) (.slice none 0 0) [] [] wi := hC
  clear h0 h1 h2 h3 h4 h5 h6 h7 h8 h9 h10 h12 h14 hall
  dsimp only [over]
  clear hMain
  obtain ⟨w7, hw7⟩ : ∃ W : World, W = wi := ⟨_, rfl⟩
  subst hw7
  obtain ⟨N, hN, hN1, hN2⟩ : ∃ N : Nat, (N : Int) = (wv + 1) * (dv + 1) ∧ 1 ≤ N ∧ N ≤ 64 := by
   have p1 : 1 * 1 ≤ (wv + 1) * (dv + 1) := Int.mul_le_mul (by omega) (by omega) (by omega) (by omega)
   have p2 : (wv + 1) * (dv + 1) ≤ 8 * 8 := Int.mul_le_mul (by omega) (by omega) (by omega) (by omega)
   exact ⟨((wv + 1) * (dv + 1)).toNat, by omega, by omega, by omega⟩
  have HCN : Hid (cnt6 ⟨x0, z0, wv, dv, av⟩ = N) := by show _ = _; unfold cnt6; dsimp only; rw [← hN]; rfl
  have wm : IntKind.i64.wrap ((wv + 1) * (dv + 1)) = (N : Int) := by rw [← hN, IntKind.wrap_i64]; omega
  have ww : IntKind.i64.wrap (wv + 1) = wv + 1 := by rw [IntKind.wrap_i64]; omega
  have wdd : IntKind.i64.wrap (dv + 1) = dv + 1 := by rw [IntKind.wrap_i64]; omega
  have HPO : Hid (∀ (ys ts : List Int), rdFl xs N s5 = (ys, ts, (rdFl xs N s5).2.2) → rdRct xs st = (⟨x0, z0, x0 + wv, z0 + dv, av, ys, ts⟩, (rdFl xs N s5).2.2)) := fun ys ts h => by
   unfold rdRct
   rw [H6.out]
   dsimp only
   rw [HCN.out, h]
  have HPS : Hid ((rdRct xs st).2 = (rdFl xs N s5).2.2) := by
   show _ = _
   unfold rdRct
   rw [H6.out]
   dsimp only
   rw [HCN.out]
  clear hN
  have HC := Lib.hid hC
  clear hC
  go_wp2_with fail
  go_loopw [34] (fun s wr => ∃ (k : Nat) (ys ts : List Int) (s' : RS) (vY vT : Value), s = .int .i64 (k : Nat) ∧ k ≤ N ∧ ys.length = k ∧ ts.length = k ∧ RctW w B P rb a n c xs x0 z0 (x0 + wv) (z0 + dv) av vY vT s' vY vT ys ts wr ∧ Hid (rdFl xs N s5 = (ys ++ (rdFl xs (N - k) s').1, ts ++ (rdFl xs (N - k) s').2.1, (rdFl xs (N - k) s').2.2)) ∧ (k = 0 ∨ s'.2 = false)) (fun s _ => N - (intOf s).toNat)
  case atStart => exact ⟨0, [], [], s5, _, _, rfl, Nat.zero_le _, rfl, rfl, HC.out, rfl, .inl rfl⟩
  case round =>
   clear HC
   obtain ⟨k, ys, ts, s6, vY, vT, rfl, hk, hyl, htl, hM, HF, hgood⟩ := hrel
   have HCB := Lib.hid hM.rd
   by_cases hkn : k < N
   case neg =>
    obtain rfl : k = N := by omega
    have hknI : ¬ (k : Int) < (k : Int) := by omega
    have HE : Hid (rdFl xs k s5 = (ys, ts, s6)) := by show _ = _; rw [HF.out, Nat.sub_self]; simp [rdFl]
    have HV : Hid ((rdFl xs k s5).2.2 = s6) := by show _ = _; rw [HE.out]
    have HV2 : Hid (s6.2 = false → rdFl xs k s5 = (ys, ts, s6)) := fun _ => HE.out
    clear hyl htl
    obtain ⟨ya, yc, ey, hsy⟩ := hM.y.reads
    obtain ⟨ta, tc, et, hst⟩ := hM.t.reads
    subst ey et
    have HQ := Lib.hid (((((((hM.set0 x0).set1 z0).set2 (x0 + wv)).set3 (z0 + dv)).set4 av).set5 (.slice ya ys.length yc)).set6 (.slice ta ts.length tc))
    have hbk := hM.bk
    have k0 := hcell (k := 0) (v := .int .i64 x0) hbk rfl
    have f0 := hfroz (k := 0) hbk
    have k1 := hcell (k := 1) (v := .int .i64 z0) hbk rfl
    have f1 := hfroz (k := 1) hbk
    have k2 := hcell (k := 2) (v := .int .i64 (x0 + wv)) hbk rfl
    have f2 := hfroz (k := 2) hbk
    have k3 := hcell (k := 3) (v := .int .i64 (z0 + dv)) hbk rfl
    have f3 := hfroz (k := 3) hbk
    have k4 := hcell (k := 4) (v := .int .i64 av) hbk rfl
    have f4 := hfroz (k := 4) hbk
    have k5 := hcell (k := 5) (v := .slice ya ys.length yc) hbk rfl
    have f5 := hfroz (k := 5) hbk
    have k6 := hcell (k := 6) (v := .slice ta ts.length tc) hbk rfl
    have f6 := hfroz (k := 6) hbk
    clear hbk hsy hst hM
    go_wp2
    refine bodyPost_ret (results_c1 rfl _ _ P 52 _ (0, 0) _ rfl HQ.out.bk Tryz.underlying52 rfl (by kernel_rfl)) rfl ?_
    unfold RctPost
    have hq := HQ.out
    have hBP := HBP.out
    have hPw := HP.out
    obtain ⟨ya', yc', ey', hsy⟩ := hq.y.reads
    cases ey'
    obtain ⟨ta', tc', et', hst⟩ := hq.t.reads
    cases et'
    refine ⟨⟨ya, yc, ta, tc⟩, ⟨x0, z0, x0 + wv, z0 + dv, av, ys, ts⟩, rfl, ⟨hsy, hst⟩, ?_, hq.gb, fun ad had => ?_, fun ad had => ?_, fun hb => ?_⟩
    ·
     rw [HPS.out, HV.out]; exact hq.rd
    ·
     dsimp only at had; subst had; have h1 := hq.y.lt ad.block rfl; omega
    ·
     dsimp only at had; subst had; have h1 := hq.t.lt ad.block rfl; omega
    ·
     rw [HPS.out, HV.out] at hb
     rw [HPO.out _ _ (by rw [HV.out]; exact HV2.out hb)]
   have hknI : (k : Int) < (N : Int) := by omega
   have wk : IntKind.i64.wrap ((k : Int) + 1) = ((k + 1 : Nat) : Int) := by rw [IntKind.wrap_i64]; omega
   have hyr := zag_range (rdNum_range (xs := xs) (st := s6) hby)
   obtain ⟨⟨yv, s7⟩, hS⟩ : ∃ r, r = rdSig xs s6 := ⟨_, rfl⟩
   obtain ⟨⟨tv, s8⟩, hT⟩ : ∃ r, r = rdNum xs s7 := ⟨_, rfl⟩
   have hyv : -2199023255553 ≤ yv ∧ yv ≤ 2199023255552 := by
    have e : yv = zag (rdNum xs s6).1 := congrArg Prod.fst hS
    rw [e]
    exact hyr
   have htv := rdNum_range (xs := xs) (st := s7) hby
   rw [← hT] at htv
   dsimp only at htv
   have wt : IntKind.i64.wrap (yv + tv) = yv + tv := by rw [IntKind.wrap_i64]; omega
   have CS := Lib.hid (rsigned_any wr rb a n c xs s6 hM.rd)
   rw [← hS] at CS
   have HF2 : Hid (s6.2 = false → rdFl xs N s5 = ((ys ++ [yv]) ++ (rdFl xs (N - (k + 1)) s8).1, (ts ++ [yv + tv]) ++ (rdFl xs (N - (k + 1)) s8).2.1, (rdFl xs (N - (k + 1)) s8).2.2)) := fun h => by
    rw [HF.out, show N - k = (N - (k + 1)) + 1 by omega, rdFl_good h, ← hS]
    dsimp only
    rw [← hT]
    simp only [List.append_assoc, List.singleton_append]
   have HF3 : Hid (s6.2 = true → (rdFl xs N s5).2.2 = s8 ∧ s8.2 = true) := fun h => by
    have e1 : s7 = s6 := by have := hS; rw [rdSig_stay h] at this; exact congrArg Prod.snd this
    have e2 : s8 = s7 := by have := hT; rw [e1, rdNum_stay h] at this; rw [e1]; exact congrArg Prod.snd this
    rw [HF.out, rdFl_bad h, e2, e1]
    exact ⟨rfl, h⟩
   have HT := Lib.hid hT
   have HG := Lib.hid hgood
   clear hyr hS hT HF hgood
   go_wp2_with fail
   refine CS.out.mono ?_
   rintro e w8 ⟨rfl, hr, hg⟩
   have hMain := hM.call hr hg
   clear hr hg hM CS HCB
   go_upto_region 7 with fail
   have hT := HT.out
   obtain ⟨v5, hv5⟩ : ∃ v, v = vY := ⟨_, rfl⟩
   obtain ⟨v6, hv6⟩ : ∃ v, v = vT := ⟨_, rfl⟩
   rw [← hv5, ← hv6] at hMain
   have hBP := HBP.out
   clear hv5 hv6
   refine wp_region_fun ([none, none, none, none, none, none, none, none, none, none, none, none, none, none, none, none, none, none, none, none, none, none, none, none, none, none, none, none, none, none, none, none, none, none, none, none, none, none, some 0, some 1, some 2, some 3, some 4, some 5, some 6, some 7, some 8, some 9, some 10, some 11, some 12, some 13, some 15, none, none, none, none, none, none]) (fun (b : Nat → Bool) (vals : Nat → Value) (W : World) => RctW w B P rb a n c xs x0 z0 (x0 + wv) (z0 + dv) av (bif b 14 then vals 4 else v5) (bif b 16 then vals 12 else v6) (bif b 9 then s8 else s7) (bif b 4 then vals 4 else v5) (bif b 12 then vals 12 else v6) (bif b 4 then ys ++ [yv] else ys) (bif b 12 then ts ++ [yv + tv] else ts) W ∧ (b 14 = true → b 4 = true) ∧ (b 4 = true → b 1 = true) ∧ (b 16 = true → b 12 = true) ∧ (b 12 = true → b 6 = true) ∧ (b 0 = true → vals 0 = .pointer (some ⟨P, 5, none⟩)) ∧ (b 1 = true → vals 1 = v5) ∧ (b 2 = true → vals 2 = .int .i64 yv) ∧ (b 3 = true → ∃ q, vals 3 = .slice (some ⟨q, 0, none⟩) 1 1 ∧ (b 4 = false → Frq P rb yv (bif b 4 then vals 4 else v5) (bif b 12 then vals 12 else v6) q W)) ∧ (b 5 = true → vals 5 = .pointer (some ⟨P, 6, none⟩)) ∧ (b 6 = true → vals 6 = v6) ∧ (b 7 = true → vals 7 = .int .i64 yv) ∧ (b 8 = true → vals 8 = .pointer (some ⟨rb, 0, none⟩)) ∧ (b 9 = true → vals 9 = .int .i64 tv) ∧ (b 10 = true → vals 10 = .int .i64 (yv + tv)) ∧ (b 11 = true → ∃ q, vals 11 = .slice (some ⟨q, 0, none⟩) 1 1 ∧ (b 12 = false → Frq P rb (yv + tv) (bif b 4 then vals 4 else v5) (bif b 12 then vals 12 else v6) q W)) ∧ (b 13 = true → vals 13 = .pointer (some ⟨P, 5, none⟩)) ∧ (b 15 = true → vals 15 = .pointer (some ⟨P, 6, none⟩))) (by kernel_rfl) (by kernel_rfl) (by kernel_rfl) (by kernel_rfl) ?_ ?_ ?_
   ·
    intro vals
    exact ⟨hMain.drew, (fun h => by cases (show false = true from h)), (fun h => by cases (show false = true from h)), (fun h => by cases (show false = true from h)), (fun h => by cases (show false = true from h)), (fun h => by cases (show false = true from h)), (fun h => by cases (show false = true from h)), (fun h => by cases (show false = true from h)), (fun h => by cases (show false = true from h)), (fun h => by cases (show false = true from h)), (fun h => by cases (show false = true from h)), (fun h => by cases (show false = true from h)), (fun h => by cases (show false = true from h)), (fun h => by cases (show false = true from h)), (fun h => by cases (show false = true from h)), (fun h => by cases (show false = true from h)), (fun h => by cases (show false = true from h)), (fun h => by cases (show false = true from h))⟩
   ·
    intro Q' K t b vals wi hoff hon i hlt hR hb hd hK
    have hlt : i < 17 := hlt
    obtain ⟨hC, i1, i2, i3, i4, h0, h1, h2, h3, h5, h6, h7, h8, h9, h10, h11, h13, h15⟩ := hR
    revert hb hd hK
    cases i, hlt using cas17
    ·
     intro hb hd hK
     have g2 : t[(2 : Nat)]? = some (.pointer (some ⟨P, 0, none⟩)) := hoff 2 _ rfl rfl
     clear hoff hon hd
     refine wpOp_of rfl rfl ?_
     go_simp
     exact hK.out _ _ ⟨(hC), (i1), (i2), (i3), (i4), (fun _ => rfl), (h1), (h2), (h3), (h5), (h6), (h7), (h8), (h9), (h10), (h11), (h13), (h15)⟩
    ·
     intro hb hd hK
     have d0 := hd 0 (by kernel_rfl)
     have g38 : t[(38 : Nat)]? = some (.pointer (some ⟨P, 5, none⟩)) := (hon 0 38 rfl).trans (congrArg some (h0 d0))
     have n4 : b 4 = false := by cases h : b 4 with | false => rfl | true => exact absurd (i2 h) (by rw [hb]; decide)
     have n14 : b 14 = false := by cases h : b 14 with | false => rfl | true => exact absurd (i1 h) (by rw [n4]; decide)
     have hbk := hC.bk
     rw [n14] at hbk
     have cc := hcell (k := 5) (v := v5) hbk rfl
     clear hoff hon hd hbk
     refine wpOp_of rfl rfl ?_
     go_simp
     exact hK.out _ _ ⟨(hC), (i1), (fun _ => rfl), (i3), (i4), (h0), (fun _ => rfl), (h2), (h3), (h5), (h6), (h7), (h8), (h9), (h10), (h11), (h13), (h15)⟩
    ·
     intro hb hd hK
     have g5 : t[(5 : Nat)]? = some (.int .i64 yv) := hoff 5 _ rfl rfl
     clear hoff hon hd
     refine wpOp_of rfl rfl ?_
     go_simp
     exact hK.out _ _ ⟨(hC), (i1), (i2), (i3), (i4), (h0), (h1), (fun _ => rfl), (h3), (h5), (h6), (h7), (h8), (h9), (h10), (h11), (h13), (h15)⟩
    ·
     intro hb hd hK
     have d2 := hd 2 (by kernel_rfl)
     have g40 : t[(40 : Nat)]? = some (.int .i64 yv) := (hon 2 40 rfl).trans (congrArg some (h2 d2))
     clear hoff hon hd
     refine wpOp_of rfl rfl ?_
     go_simp
     exact hK.out _ _ ⟨(hC.alloc _), (i1), (i2), (i3), (i4), (h0), (h1), (h2), (fun _ => ⟨_, rfl, fun _ => Frq.new hC yv⟩), (h5), (h6), (h7), (h8), (h9), (h10), (fun h => by obtain ⟨q, e, f⟩ := h11 h; exact ⟨q, e, fun h4 => (f h4).alloc _⟩), (h13), (h15)⟩
    ·
     intro hb hd hK
     have d1 := hd 1 (by kernel_rfl)
     have d3 := hd 3 (by kernel_rfl)
     have g39 : t[(39 : Nat)]? = some (v5) := (hon 1 39 rfl).trans (congrArg some (h1 d1))
     have g41 : t[(41 : Nat)]? = some (vals 3) := hon 3 41 rfl
     have n14 : b 14 = false := by cases h : b 14 with | false => rfl | true => exact absurd (i1 h) (by rw [hb]; decide)
     obtain ⟨q, eq, fq⟩ := h3 d3
     have fq := fq hb
     rw [eq] at g41
     have hC2 := hC
     rw [hb, n14] at hC2
     rw [hb] at fq
     refine wpOp_app1 rfl rfl (.tmp 39) (.tmp 41) rfl B v5 ys.length ys yv q hC2.y (by simp [Act.eval, g39]) (by simp [Act.eval, g41]) fq.cel (by omega) (by have := hblt hC2.bk; omega) ?_
     intro v' w' ho hp
     have hN := hC2.appY ho hp
     clear hoff hon hd
     exact hK.out v' w' ⟨((show RctW w B P rb a n c xs x0 z0 (x0 + wv) (z0 + dv) av (bif b 14 then v' else v5) (bif b 16 then vals 12 else v6) (bif b 9 then s8 else s7) v' (bif b 12 then vals 12 else v6) (ys ++ [yv]) (bif b 12 then ts ++ [yv + tv] else ts) w' from by rw [n14]; exact hN)), (fun _ => rfl), (fun _ => d1), (i3), (i4), (h0), (h1), (h2), (fun h => by obtain ⟨q, e, _⟩ := h3 h; exact ⟨q, e, fun h4 => by cases (show true = false from h4)⟩), (h5), (h6), (h7), (h8), (h9), (h10), (fun h => by obtain ⟨q, e, f⟩ := h11 h; exact ⟨q, e, fun h4 => by have f2 := f h4; rw [hb] at f2; exact f2.appY hp⟩), (h13), (h15)⟩
    ·
     intro hb hd hK
     have g2 : t[(2 : Nat)]? = some (.pointer (some ⟨P, 0, none⟩)) := hoff 2 _ rfl rfl
     clear hoff hon hd
     refine wpOp_of rfl rfl ?_
     go_simp
     exact hK.out _ _ ⟨(hC), (i1), (i2), (i3), (i4), (h0), (h1), (h2), (h3), (fun _ => rfl), (h6), (h7), (h8), (h9), (h10), (h11), (h13), (h15)⟩
    ·
     intro hb hd hK
     have d5 := hd 5 (by kernel_rfl)
     have g43 : t[(43 : Nat)]? = some (.pointer (some ⟨P, 6, none⟩)) := (hon 5 43 rfl).trans (congrArg some (h5 d5))
     have n12 : b 12 = false := by cases h : b 12 with | false => rfl | true => exact absurd (i4 h) (by rw [hb]; decide)
     have n16 : b 16 = false := by cases h : b 16 with | false => rfl | true => exact absurd (i3 h) (by rw [n12]; decide)
     have hbk := hC.bk
     rw [n16] at hbk
     have cc := hcell (k := 6) (v := v6) hbk rfl
     clear hoff hon hd hbk
     refine wpOp_of rfl rfl ?_
     go_simp
     exact hK.out _ _ ⟨(hC), (i1), (i2), (i3), (fun _ => rfl), (h0), (h1), (h2), (h3), (h5), (fun _ => rfl), (h7), (h8), (h9), (h10), (h11), (h13), (h15)⟩
    ·
     intro hb hd hK
     have g5 : t[(5 : Nat)]? = some (.int .i64 yv) := hoff 5 _ rfl rfl
     clear hoff hon hd
     refine wpOp_of rfl rfl ?_
     go_simp
     exact hK.out _ _ ⟨(hC), (i1), (i2), (i3), (i4), (h0), (h1), (h2), (h3), (h5), (h6), (fun _ => rfl), (h8), (h9), (h10), (h11), (h13), (h15)⟩
    ·
     intro hb hd hK
     have g0 : t[(0 : Nat)]? = some (.pointer (some ⟨rb, 0, none⟩)) := hoff 0 _ rfl rfl
     clear hoff hon hd
     refine wpOp_of rfl rfl ?_
     go_simp
     exact hK.out _ _ ⟨(hC), (i1), (i2), (i3), (i4), (h0), (h1), (h2), (h3), (h5), (h6), (h7), (fun _ => rfl), (h9), (h10), (h11), (h13), (h15)⟩
    ·
     intro hb hd hK
     have d8 := hd 8 (by kernel_rfl)
     have g46 : t[(46 : Nat)]? = some (.pointer (some ⟨rb, 0, none⟩)) := (hon 8 46 rfl).trans (congrArg some (h8 d8))
     have hC2 := hC
     rw [hb] at hC2
     clear hoff hon hd
     refine wpOp_of rfl rfl ?_
     go_simp
     go_at_call 22
     refine (rnumber_any wi rb a n c xs s7 hC2.rd).mono ?_
     rw [← hT]
     rintro e wz ⟨rfl, hr, hg⟩
     (try go_simp)
     exact hK.out _ _ ⟨(hC2.call hr hg), (i1), (i2), (i3), (i4), (h0), (h1), (h2), (fun h => by obtain ⟨q, e, f⟩ := h3 h; exact ⟨q, e, fun h4 => (f h4).call hg⟩), (h5), (h6), (h7), (h8), (fun _ => rfl), (h10), (fun h => by obtain ⟨q, e, f⟩ := h11 h; exact ⟨q, e, fun h4 => (f h4).call hg⟩), (h13), (h15)⟩
    ·
     intro hb hd hK
     have d7 := hd 7 (by kernel_rfl)
     have d9 := hd 9 (by kernel_rfl)
     have g45 : t[(45 : Nat)]? = some (.int .i64 yv) := (hon 7 45 rfl).trans (congrArg some (h7 d7))
     have g47 : t[(47 : Nat)]? = some (.int .i64 tv) := (hon 9 47 rfl).trans (congrArg some (h9 d9))
     clear hoff hon hd
     refine wpOp_of rfl rfl ?_
     go_simp
     exact hK.out _ _ ⟨(hC), (i1), (i2), (i3), (i4), (h0), (h1), (h2), (h3), (h5), (h6), (h7), (h8), (h9), (fun _ => rfl), (h11), (h13), (h15)⟩
    ·
     intro hb hd hK
     have d10 := hd 10 (by kernel_rfl)
     have g48 : t[(48 : Nat)]? = some (.int .i64 (yv + tv)) := (hon 10 48 rfl).trans (congrArg some (h10 d10))
     clear hoff hon hd
     refine wpOp_of rfl rfl ?_
     go_simp
     exact hK.out _ _ ⟨(hC.alloc _), (i1), (i2), (i3), (i4), (h0), (h1), (h2), (fun h => by obtain ⟨q, e, f⟩ := h3 h; exact ⟨q, e, fun h4 => (f h4).alloc _⟩), (h5), (h6), (h7), (h8), (h9), (h10), (fun _ => ⟨_, rfl, fun _ => Frq.new hC (yv + tv)⟩), (h13), (h15)⟩
    ·
     intro hb hd hK
     have d6 := hd 6 (by kernel_rfl)
     have d11 := hd 11 (by kernel_rfl)
     have g44 : t[(44 : Nat)]? = some (v6) := (hon 6 44 rfl).trans (congrArg some (h6 d6))
     have g49 : t[(49 : Nat)]? = some (vals 11) := hon 11 49 rfl
     have n16 : b 16 = false := by cases h : b 16 with | false => rfl | true => exact absurd (i3 h) (by rw [hb]; decide)
     obtain ⟨q, eq, fq⟩ := h11 d11
     have fq := fq hb
     rw [eq] at g49
     have hC2 := hC
     rw [hb, n16] at hC2
     rw [hb] at fq
     refine wpOp_app1 rfl rfl (.tmp 44) (.tmp 49) rfl B v6 ts.length ts (yv + tv) q hC2.t (by simp [Act.eval, g44]) (by simp [Act.eval, g49]) fq.cel (by omega) (by have := hblt hC2.bk; omega) ?_
     intro v' w' ho hp
     have hN := hC2.appT ho hp
     clear hoff hon hd
     exact hK.out v' w' ⟨((show RctW w B P rb a n c xs x0 z0 (x0 + wv) (z0 + dv) av (bif b 14 then vals 4 else v5) (bif b 16 then v' else v6) (bif b 9 then s8 else s7) (bif b 4 then vals 4 else v5) v' (bif b 4 then ys ++ [yv] else ys) (ts ++ [yv + tv]) w' from by rw [n16]; exact hN)), (i1), (i2), (fun _ => rfl), (fun _ => d6), (h0), (h1), (h2), (fun h => by obtain ⟨q, e, f⟩ := h3 h; exact ⟨q, e, fun h4 => by have f2 := f h4; rw [hb] at f2; exact f2.appT hp⟩), (h5), (h6), (h7), (h8), (h9), (h10), (fun h => by obtain ⟨q, e, _⟩ := h11 h; exact ⟨q, e, fun h4 => by cases (show true = false from h4)⟩), (h13), (h15)⟩
    ·
     intro hb hd hK
     have g2 : t[(2 : Nat)]? = some (.pointer (some ⟨P, 0, none⟩)) := hoff 2 _ rfl rfl
     clear hoff hon hd
     refine wpOp_of rfl rfl ?_
     go_simp
     exact hK.out _ _ ⟨(hC), (i1), (i2), (i3), (i4), (h0), (h1), (h2), (h3), (h5), (h6), (h7), (h8), (h9), (h10), (h11), (fun _ => rfl), (h15)⟩
    ·
     intro hb hd hK
     have d13 := hd 13 (by kernel_rfl)
     have d4 := hd 4 (by kernel_rfl)
     have g51 : t[(51 : Nat)]? = some (.pointer (some ⟨P, 5, none⟩)) := (hon 13 51 rfl).trans (congrArg some (h13 d13))
     have g42 : t[(42 : Nat)]? = some (vals 4) := hon 4 42 rfl
     have hbk := hC.bk
     rw [hb] at hbk
     have cc := hcell (k := 5) (v := v5) hbk rfl
     have ff := hfroz (k := 5) hbk
     have hN := hC.set5 (vals 4)
     clear hoff hon hd hbk
     refine wpOp_of rfl rfl ?_
     obtain ⟨sa, sn, sc, es⟩ : ∃ sa sn sc, vals 4 = .slice sa sn sc := by have hy := hC.y; rw [d4] at hy; obtain ⟨sa, sc, e, _⟩ := hy.reads; exact ⟨sa, _, sc, e⟩
     rw [es] at g42
     go_simp
     rw [← es]
     exact hK.out undef _ ⟨(hN), (fun _ => d4), (i2), (i3), (i4), (h0), (h1), (h2), (fun h => by obtain ⟨q, e, f⟩ := h3 h; exact ⟨q, e, fun h4 => (f h4).set _ _⟩), (h5), (h6), (h7), (h8), (h9), (h10), (fun h => by obtain ⟨q, e, f⟩ := h11 h; exact ⟨q, e, fun h4 => (f h4).set _ _⟩), (h13), (h15)⟩
    ·
     intro hb hd hK
     have g2 : t[(2 : Nat)]? = some (.pointer (some ⟨P, 0, none⟩)) := hoff 2 _ rfl rfl
     clear hoff hon hd
     refine wpOp_of rfl rfl ?_
     go_simp
     exact hK.out _ _ ⟨(hC), (i1), (i2), (i3), (i4), (h0), (h1), (h2), (h3), (h5), (h6), (h7), (h8), (h9), (h10), (h11), (h13), (fun _ => rfl)⟩
    ·
     intro hb hd hK
     have d15 := hd 15 (by kernel_rfl)
     have d12 := hd 12 (by kernel_rfl)
     have g52 : t[(52 : Nat)]? = some (.pointer (some ⟨P, 6, none⟩)) := (hon 15 52 rfl).trans (congrArg some (h15 d15))
     have g50 : t[(50 : Nat)]? = some (vals 12) := hon 12 50 rfl
     have hbk := hC.bk
     rw [hb] at hbk
     have cc := hcell (k := 6) (v := v6) hbk rfl
     have ff := hfroz (k := 6) hbk
     have hN := hC.set6 (vals 12)
     clear hoff hon hd hbk
     refine wpOp_of rfl rfl ?_
     obtain ⟨sa, sn, sc, es⟩ : ∃ sa sn sc, vals 12 = .slice sa sn sc := by have hy := hC.t; rw [d12] at hy; obtain ⟨sa, sc, e, _⟩ := hy.reads; exact ⟨sa, _, sc, e⟩
     rw [es] at g50
     go_simp
     rw [← es]
     exact hK.out undef _ ⟨(hN), (i1), (i2), (fun _ => d12), (i4), (h0), (h1), (h2), (fun h => by obtain ⟨q, e, f⟩ := h3 h; exact ⟨q, e, fun h4 => (f h4).set _ _⟩), (h5), (h6), (h7), (h8), (h9), (h10), (fun h => by obtain ⟨q, e, f⟩ := h11 h; exact ⟨q, e, fun h4 => (f h4).set _ _⟩), (h13), (h15)⟩
   ·
    intro b vals wi hR hall
    obtain ⟨hC, i1, i2, i3, i4, h0, h1, h2, h3, h5, h6, h7, h8, h9, h10, h11, h13, h15⟩ := hR
    rw [hall 4 (by decide), hall 9 (by decide), hall 12 (by decide), hall 14 (by decide), hall 16 (by decide)] at hC
    replace hC : RctW w B P rb a n c xs x0 z0 (x0 + wv) (z0 + dv) av (vals 4) (vals 12) s8 (vals 4) (vals 12) (ys ++ [yv]) (ts ++ [yv + tv]) wi := hC
    clear i1 i2 i3 i4 h0 h1 h2 h3 h5 h6 h7 h8 h9 h10 h11 h13 h15 hall
    dsimp only [over]
    clear hMain hT hBP
    obtain ⟨w9, hw9⟩ : ∃ W : World, W = wi := ⟨_, rfl⟩
    subst hw9
    have hbk := hC.rd.blk
    have b2 := hcell (k := 2) (v := .bool s8.2) hbk rfl
    clear hbk
    have hyl2 : (ys ++ [yv]).length = k + 1 := by rw [List.length_append, hyl]; rfl
    have htl2 : (ts ++ [yv + tv]).length = k + 1 := by rw [List.length_append, htl]; rfl
    generalize vals 4 = vY2 at hC ⊢
    generalize vals 12 = vT2 at hC ⊢
    obtain ⟨Y2, hY2⟩ : ∃ Z, Z = ys ++ [yv] := ⟨_, rfl⟩
    obtain ⟨T2, hT2⟩ : ∃ Z, Z = ts ++ [yv + tv] := ⟨_, rfl⟩
    rw [← hY2] at hC HF2 hyl2
    rw [← hT2] at hC HF2 htl2
    have hM := hC
    clear hC hY2 hT2
    cases hbad : s8.2 with
    | true =>
     rw [hbad] at b2
     have HV : Hid ((rdFl xs N s5).2.2 = s8) := by
      show _ = _
      cases h6 : s6.2 with
      | true => exact (HF3.out h6).1
      | false => rw [HF2.out h6, rdFl_bad hbad]
     have HV2 : Hid (s8.2 = false → rdFl xs N s5 = (Y2, T2, s8)) := fun h => by rw [hbad] at h; cases h
     clear HF2 HF3 HT HG hbad
     clear hyl htl hyl2 htl2
     obtain ⟨ya, yc, ey, hsy⟩ := hM.y.reads
     obtain ⟨ta, tc, et, hst⟩ := hM.t.reads
     subst ey et
     have HQ := Lib.hid (((((((hM.set0 x0).set1 z0).set2 (x0 + wv)).set3 (z0 + dv)).set4 av).set5 (.slice ya Y2.length yc)).set6 (.slice ta T2.length tc))
     have hbk := hM.bk
     have k0 := hcell (k := 0) (v := .int .i64 x0) hbk rfl
     have f0 := hfroz (k := 0) hbk
     have k1 := hcell (k := 1) (v := .int .i64 z0) hbk rfl
     have f1 := hfroz (k := 1) hbk
     have k2 := hcell (k := 2) (v := .int .i64 (x0 + wv)) hbk rfl
     have f2 := hfroz (k := 2) hbk
     have k3 := hcell (k := 3) (v := .int .i64 (z0 + dv)) hbk rfl
     have f3 := hfroz (k := 3) hbk
     have k4 := hcell (k := 4) (v := .int .i64 av) hbk rfl
     have f4 := hfroz (k := 4) hbk
     have k5 := hcell (k := 5) (v := .slice ya Y2.length yc) hbk rfl
     have f5 := hfroz (k := 5) hbk
     have k6 := hcell (k := 6) (v := .slice ta T2.length tc) hbk rfl
     have f6 := hfroz (k := 6) hbk
     clear hbk hsy hst hM
     go_wp2
     refine bodyPost_ret (results_c1 rfl _ _ P 52 _ (0, 0) _ rfl HQ.out.bk Tryz.underlying52 rfl (by kernel_rfl)) rfl ?_
     unfold RctPost
     have hq := HQ.out
     have hBP := HBP.out
     have hPw := HP.out
     obtain ⟨ya', yc', ey', hsy⟩ := hq.y.reads
     cases ey'
     obtain ⟨ta', tc', et', hst⟩ := hq.t.reads
     cases et'
     refine ⟨⟨ya, yc, ta, tc⟩, ⟨x0, z0, x0 + wv, z0 + dv, av, Y2, T2⟩, rfl, ⟨hsy, hst⟩, ?_, hq.gb, fun ad had => ?_, fun ad had => ?_, fun hb => ?_⟩
     ·
      rw [HPS.out, HV.out]; exact hq.rd
     ·
      dsimp only at had; subst had; have h1 := hq.y.lt ad.block rfl; omega
     ·
      dsimp only at had; subst had; have h1 := hq.t.lt ad.block rfl; omega
     ·
      rw [HPS.out, HV.out] at hb
      rw [HPO.out _ _ (by rw [HV.out]; exact HV2.out hb)]
    | false =>
     rw [hbad] at b2
     have h6 : s6.2 = false := by
      cases h6 : s6.2 with
      | true => have := (HF3.out h6).2; rw [hbad] at this; cases this
      | false => rfl
     have HF4 := Lib.hid (HF2.out h6)
     have HG2 : Hid (s8.2 = false) := hbad
     clear HF2 HF3 HT HG hbad h6
     go_wp2
     go_roundw
     case rel => exact ⟨k + 1, Y2, T2, s8, vY2, vT2, by go_num, by omega, hyl2, htl2, hM, HF4, .inr HG2.out⟩
     case measure => simp [intOf]; omega
end Go.Proofs.YtgfmdgiepomkiaaGreat

namespace Go.Proofs.YtgfmdgiepomkiaaGreat
open Go.RowKit Go.Sort
attribute [local go_sem] Instr.index

theorem info_rect : (Tryz.prog.info? 52).map (fun i => (i.zero, i.size, i.bytes)) = some (some (.agg #[.int .i64 0, .int .i64 0, .int .i64 0, .int .i64 0, .int .i64 0, .slice none 0 0, .slice none 0 0]), 7, 88) := by kernel_rfl
theorem rcF7_one (x : RHd × Rc) : ∀ u ∈ rcF7 x, u.oneCell' = true := by
 intro u hu
 simp only [List.mem_cons, List.not_mem_nil, or_false] at hu
 rcases hu with rfl | rfl | rfl | rfl | rfl | rfl | rfl <;> rfl
theorem gb_appR {w0 w w' : World} {v v' : Value} {row : Option Nat} (h : w0.grownBy w row) (hp : Appd w w' v v') (hv : ∀ j, v.ownBlock = some j → w0.heap.size ≤ j) : w0.grownBy w' row :=
 World.grownBy.andThen h hp.grown (fun j hj => .inl (hv j hj))
/-- A rectangle that was read: its rows lie above S, apart from the row b. -/
structure RcFar (S : Nat) (b : Value) (W : World) (x : RHd × Rc) : Prop where
 sl : RcSl W x.1 x.2
 y : ∀ ad, x.1.ya = some ad → S ≤ ad.block ∧ ad.block < W.heap.size ∧ b.ownBlock ≠ some ad.block
 t : ∀ ad, x.1.ta = some ad → S ≤ ad.block ∧ ad.block < W.heap.size ∧ b.ownBlock ≠ some ad.block
theorem RcFar.kept {S : Nat} {b : Value} {W W' : World} {x : RHd × Rc} (h : RcFar S b W x) {row : Option Nat} (hg : W.grownBy W' row) (h1 : ∀ j, row = some j → j < S) : RcFar S b W' x := by
 have hs := hg.size
 refine ⟨⟨h.sl.y.grown hg fun ad had e => ?_, h.sl.t.grown hg fun ad had e => ?_⟩, fun ad had => ?_, fun ad had => ?_⟩
 ·
  have := h1 _ e; have := (h.y ad had).1; omega
 ·
  have := h1 _ e; have := (h.t ad had).1; omega
 ·
  obtain ⟨q1, q2, q3⟩ := h.y ad had; exact ⟨q1, by omega, q3⟩
 ·
  obtain ⟨q1, q2, q3⟩ := h.t ad had; exact ⟨q1, by omega, q3⟩
theorem RcFar.app {S : Nat} {b b' : Value} {W W' : World} {x : RHd × Rc} (h : RcFar S b W x) (hp : Appd W W' b b') : RcFar S b' W' x := by
 have hs := hp.grown.size
 have key : ∀ k, k < W.heap.size → b.ownBlock ≠ some k → b'.ownBlock ≠ some k := fun k hk hb e => by
  rcases hp.own with h1 | h1
  ·
   exact hb (h1.symm.trans e)
  ·
   have := h1 k e; omega
 refine ⟨⟨h.sl.y.grown hp.grown fun ad had => (h.y ad had).2.2, h.sl.t.grown hp.grown fun ad had => (h.t ad had).2.2⟩, fun ad had => ?_, fun ad had => ?_⟩
 ·
  obtain ⟨q1, q2, q3⟩ := h.y ad had; exact ⟨q1, by omega, key _ q2 q3⟩
 ·
  obtain ⟨q1, q2, q3⟩ := h.t ad had; exact ⟨q1, by omega, key _ q2 q3⟩
/-- Rectangles that were read. -/
def RrPost (m : Nat) (w : World) (rb : Nat) (a : Option Addr) (n c : Nat) (xs : List Int) (st : RS) (e : Ending) (w' : World) : Prop :=
 ∃ (v : Value) (ps : List (RHd × Rc)), e = .returned v ∧ OwnR rcF7 7 52 w.heap.size w' v ps.length ps ∧ (∀ x ∈ ps, RcFar w.heap.size v w' x) ∧ RdAt 73 (fun b => b) w' rb a n c xs (rdList xs m (rdRct xs) st).2 ∧ w.grownBy w' (some rb) ∧
  ps.length ≤ m ∧ ((rdList xs m (rdRct xs) st).2.2 = false → ps.map Prod.snd = (rdList xs m (rdRct xs) st).1)
set_option maxRecDepth 100000 in
set_option maxHeartbeats 8000000 in
theorem rrows_rect (m : Nat) (hm : m ≤ 1000) (w : World) (rb : Nat) (a : Option Addr) (n c : Nat) (xs : List Int) (st : RS) (h : RdAt 73 (fun b => b) w rb a n c xs st) :
  Calls Tryz.prog 31 #[.pointer (some ⟨rb, 0, none⟩), .int .i64 m, .func (Fn.func 32) #[.pointer (some ⟨rb, 0, none⟩)] #[]] w (RrPost m w rb a n c xs st) := by
 have hlt := h.lt
 have hN := rdUp_range (m := m) (st := st) (by omega) h.byte
 have UP := Lib.hid (rup_any m w rb a n c xs st h)
 have ON := Lib.hid (fun (W : World) (s : RS) (h : RdAt 73 (fun b => b) W rb a n c xs s) => rrect_any W rb a n c xs s h)
 clear h
 obtain ⟨V, HV⟩ : ∃ V, Hid (V = rdList xs m (rdRct xs) st) := ⟨_, rfl⟩
 have HPO : Hid (∀ (v : Value) (ps : List (RHd × Rc)) (w' : World), OwnR rcF7 7 52 w.heap.size w' v ps.length ps → (∀ x ∈ ps, RcFar w.heap.size v w' x) → RdAt 73 (fun b => b) w' rb a n c xs V.2 → w.grownBy w' (some rb) → ps.length ≤ m → (V.2.2 = false → ps.map Prod.snd = V.1) → RrPost m w rb a n c xs st (.returned v) w') := fun v ps w' h1 h2 h3 h4 h5 h6 => by
  unfold RrPost
  rw [← HV.out]
  exact ⟨v, ps, rfl, h1, h2, h3, h4, h5, h6⟩
 generalize RrPost m w rb a n c xs st = POST at HPO ⊢
 obtain ⟨⟨N, s0⟩, hN0⟩ : ∃ r, r = rdUp xs m st := ⟨_, rfl⟩
 rw [← hN0] at UP hN
 obtain ⟨N, rfl⟩ : ∃ k : Nat, N = (k : Int) := ⟨N.toNat, by simp only at hN; omega⟩
 have HV0 : Hid (V = rdRows (rdRct xs) N s0) := by show _ = _; rw [HV.out, rdList, ← hN0]; rfl
 simp only at hN
 have hNm : N ≤ m := by omega
 clear HV hN0 hN
 go_enter Tryz.func31, Tryz.ntmps31
 go_wp2_with fail
 refine UP.out.mono ?_
 rintro e w1 ⟨rfl, hA, hG⟩
 have hsz := hG.size
 go_wp2
 go_loopw [6, 7] (fun b i wr => ∃ (j : Nat) (l : List (RHd × Rc)) (s : RS), i = .int .i64 j ∧ l.length + j = N ∧ OwnR rcF7 7 52 w.heap.size wr b l.length l ∧ (∀ x ∈ l, RcFar w.heap.size b wr x) ∧ RdAt 73 (fun b => b) wr rb a n c xs s ∧ w.grownBy wr (some rb) ∧ Hid (V.2 = (rdRows (rdRct xs) j s).2) ∧ Hid (s.2 = false → V.1 = l.map Prod.snd ++ (rdRows (rdRct xs) j s).1)) (fun _ i _ => (intOf i).toNat)
 case atStart => exact ⟨N, [], s0, rfl, by simp, OwnR.nil _ _ _ _ _, by simp, hA, hG, (by show _ = _; rw [HV0.out]), fun _ => by rw [HV0.out]; rfl⟩
 case round =>
 clear hA hG HV0
 obtain ⟨j, l, ⟨s1, bad⟩, rfl, hl, ho, hfar, hA, hG, HW, HW2⟩ := hrel
 have hsz := hG.size
 have c2 := hcell (k := 2) (v := .bool bad) hA.blk rfl
 by_cases hj : j = 0
 ·
  subst hj
  have HX : Hid (V.2 = (s1, bad)) := by show _ = _; rw [HW.out, rows_nil (.inl rfl)]
  have HX2 : Hid (V.2.2 = false → l.map Prod.snd = V.1) := fun h => by
   rw [HX.out] at h
   rw [HW2.out h, rows_nil (.inl rfl)]
   simp
  have HP := Lib.hid (HPO.out _ l wr ho hfar (by rw [HX.out]; exact hA) hG (by omega) HX2.out)
  obtain ⟨xa, xc, rfl, _⟩ := OwnR.reads rcF7_len ho
  clear HPO HW HW2 HX HX2
  go_wp2
  first
   | exact HP.out
   | (go_ret; exact HP.out)
 have hjI : (0 : Int) < (j : Int) := by omega
 cases bad with
 | true =>
  have HX : Hid (V.2 = (s1, true)) := by show _ = _; rw [HW.out, rows_nil (.inr rfl)]
  have HX2 : Hid (V.2.2 = false → l.map Prod.snd = V.1) := fun h => by rw [HX.out] at h; cases h
  have HP := Lib.hid (HPO.out _ l wr ho hfar (by rw [HX.out]; exact hA) hG (by omega) HX2.out)
  obtain ⟨xa, xc, rfl, _⟩ := OwnR.reads rcF7_len ho
  clear HPO HW HW2 HX HX2
  go_wp2
  first
   | exact HP.out
   | (go_ret; exact HP.out)
 | false =>
  obtain ⟨k, rfl⟩ : ∃ k, j = k + 1 := ⟨j - 1, by omega⟩
  obtain ⟨r, hr⟩ : ∃ r, Hid (r = rdRct xs (s1, false)) := ⟨_, rfl⟩
  have HX : Hid (V.2 = (rdRows (rdRct xs) k r.2).2) := by show _ = _; rw [HW.out, rows_cons rfl, hr.out]
  have HX2 : Hid (V.1 = l.map Prod.snd ++ (r.1 :: (rdRows (rdRct xs) k r.2).1)) := by show _ = _; rw [HW2.out rfl, rows_cons rfl, hr.out]
  have CO := ON.out _ _ hA
  unfold RctPost at CO
  rw [← hr.out] at CO
  obtain ⟨xa, xc, rfl, _⟩ := OwnR.reads rcF7_len ho
  have HCO := Lib.hid CO
  clear CO HW HW2
  go_wp2_with fail
  refine HCO.out.mono ?_
  rintro e w2 ⟨h', x, rfl, hsl, hA2, hg2, hya, hta, hxr⟩
  have hG2 := hG.trans hg2
  have hsz2 := hG2.size
  have ho2 := ho.kept hg2 (.inr (by intro e; have := ho.le rb e; omega))
  have hfar2 : ∀ y ∈ l, RcFar w.heap.size (.slice xa l.length xc) w2 y := fun y hy => (hfar y hy).kept hg2 (fun j hj => by cases hj; exact hlt)
  have hnew : RcFar w.heap.size (.slice xa l.length xc) w2 (h', x) := ⟨hsl, fun ad had => ⟨by have := (hya ad had).1; omega, (hya ad had).2, fun e => by have := (ho.lt _ e).2; have := (hya ad had).1; omega⟩, fun ad had => ⟨by have := (hta ad had).1; omega, (hta ad had).2, fun e => by have := (ho.lt _ e).2; have := (hta ad had).1; omega⟩⟩
  have HXR := Lib.hid hxr
  clear hA ho hg2 hG HCO hfar hsl hya hta hxr
  dsimp only [rcV]
  go_wp2_with (at_builtin; refine wpList_appR (f := rcF7) (sz := 7) (e := 52) (B := w.heap.size) (n := l.length) (xs := l) w2 rcF7_len rcF7_one rfl _ _ 29 rfl (.agg #[.int .i64 0, .int .i64 0, .int .i64 0, .int .i64 0, .int .i64 0, .slice none 0 0, .slice none 0 0]) 88 Tryz.underlying29 info_rect rfl (by decide) (h', x) 52 ho2 rfl rfl (by omega) (by omega) (by omega) ?_; intro v' w' h1 h2)
  have hA3 := hA2.grown h2.grown (fun j hj => by have := (ho2.lt j hj).1; omega)
  have hG3 := gb_appR hG2 h2 (fun j hj => (ho2.lt j hj).1)
  have hfar3 : ∀ y ∈ l ++ [(h', x)], RcFar w.heap.size v' w' y := fun y hy => by
   rcases List.mem_append.1 hy with hy | hy
   ·
    exact (hfar2 y hy).app h2
   ·
    rw [List.mem_singleton] at hy
    subst hy
    exact hnew.app h2
  have HX3 : Hid (r.2.2 = false → V.1 = (l ++ [(h', x)]).map Prod.snd ++ (rdRows (rdRct xs) k r.2).1) := fun h => by
   rw [HX2.out, List.map_append, List.append_assoc, ← HXR.out h]
   rfl
  have hlen : (l ++ [(h', x)]).length = l.length + 1 := by simp
  have h1' : OwnR rcF7 7 52 w.heap.size w' v' (l ++ [(h', x)]).length (l ++ [(h', x)]) := by rw [hlen]; exact h1
  have hkN : (l ++ [(h', x)]).length + k = N := by omega
  clear ho2 hA2 hG2 hfar2 hnew h2 h1 HX2 HXR hlen
  go_wp2
  go_roundw
  case rel => exact ⟨k, l ++ [(h', x)], r.2, by go_num, hkN, h1', hfar3, hA3, hG3, HX, HX3⟩
  case measure => simp [intOf]
end Go.Proofs.YtgfmdgiepomkiaaGreat
