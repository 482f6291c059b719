/- Plain: how triangles, boxes, hops, a soup are read. -/
import Derived.Test.YtgfmdgiepomkiaaGreatKq
import Derived.Test.YtgfmdgiepomkiaaGreatLd
namespace Go.Proofs.YtgfmdgiepomkiaaGreat
open Go.RowKit

def rdVtx (xs : List Int) (st : RS) : Vtx × RS := (⟨(rdNum xs st).1, (rdSig xs (rdNum xs st).2).1, (rdNum xs (rdSig xs (rdNum xs st).2).2).1⟩, (rdNum xs (rdSig xs (rdNum xs st).2).2).2)
def rdTri (xs : List Int) (st : RS) : Tri3 × RS :=
 let i := rdNum xs st
 let a := rdVtx xs i.2
 let b := rdVtx xs a.2
 let c := rdVtx xs b.2
 (⟨i.1, a.1, b.1, c.1⟩, c.2)
def rdBx (xs : List Int) (st : RS) : Bx × RS :=
 let a := rdNum xs st
 let b := rdNum xs a.2
 let c := rdNum xs b.2
 let d := rdNum xs c.2
 let e := rdNum xs d.2
 let f := rdSig xs e.2
 let g := rdSig xs f.2
 let h := rdNum xs g.2
 (⟨a.1, b.1, c.1, d.1, e.1, f.1, g.1, h.1⟩, h.2)
def rdSpt (xs : List Int) (st : RS) : Spt × RS :=
 let a := rdNum xs st
 let b := rdNum xs a.2
 let c := rdSig xs b.2
 (⟨a.1, b.1, c.1⟩, c.2)
def rdHp (xs : List Int) (st : RS) : Hp × RS :=
 let i := rdNum xs st
 let a := rdSpt xs i.2
 let b := rdSpt xs a.2
 let c := rdUp xs 1 b.2
 let d := rdNum xs c.2
 let e := rdNum xs d.2
 (⟨i.1, a.1, b.1, decide (c.1 = 1), d.1, e.1⟩, e.2)
def rdCfg (xs : List Int) (st : RS) : Cfg × RS :=
 let a := rdNum xs st
 let b := rdNum xs a.2
 let c := rdNum xs b.2
 let d := rdNum xs c.2
 let e := rdNum xs d.2
 let f := rdNum xs e.2
 let g := rdNum xs f.2
 (⟨a.1, b.1, c.1, d.1, e.1, f.1, g.1⟩, g.2)
def cfg0 : Cfg := ⟨0, 0, 0, 0, 0, 0, 0⟩
def sou0 : Sou := ⟨[], [], []⟩
/-- A config and a soup; how many bytes were used; what was wrong. -/
def rdSoup (xs : List Int) : Cfg × Sou × Int × Int :=
 if 131072 < xs.length then (cfg0, sou0, 0, 3)
 else
  let c := rdCfg xs (0, false)
  let t := rdList xs 200 (rdTri xs) c.2
  let b := rdList xs 16 (rdBx xs) t.2
  let h := rdList xs 16 (rdHp xs) b.2
  if h.2.2 = true ∨ soupE c.1 ⟨t.1, b.1, h.1⟩ ≠ 0 then (cfg0, sou0, 0, 200) else (c.1, ⟨t.1, b.1, h.1⟩, (h.2.1 : Int), 0)

end Go.Proofs.YtgfmdgiepomkiaaGreat

namespace Go.Proofs.YtgfmdgiepomkiaaGreat
open Go.RowKit Go.Sort
attribute [local go_sem] Instr.index

set_option maxRecDepth 100000 in
set_option maxHeartbeats 4000000 in
theorem rspot_any (w : World) (rb : Nat) (a : Option Addr) (n c : Nat) (xs : List Int) (st : RS) (h : RdAt 73 (fun b => b) w rb a n c xs st) :
  Calls Tryz.prog 45 #[.pointer (some ⟨rb, 0, none⟩)] w fun e w' => e = .returned (.agg #[.int .i64 (rdSpt xs st).1.x, .int .i64 (rdSpt xs st).1.z, .int .i64 (rdSpt xs st).1.y]) ∧ RdAt 73 (fun b => b) w' rb a n c xs (rdSpt xs st).2 ∧ w.grownBy w' (some rb) := by
 have hlt := h.lt
 have N := Lib.hid (fun (W : World) (s : RS) (h : RdAt 73 (fun b => b) W rb a n c xs s) => rnumber_any W rb a n c xs s h)
 have SG := Lib.hid (fun (W : World) (s : RS) (h : RdAt 73 (fun b => b) W rb a n c xs s) => rsigned_any W rb a n c xs s h)
 have hA := h.alloc (.cells #[.int .i64 0, .int .i64 0, .int .i64 0] 67)
 have hB := World.alloc_heap_new w (.cells #[.int .i64 0, .int .i64 0, .int .i64 0] 67)
 have hG := World.grownBy_alloc w (.cells #[.int .i64 0, .int .i64 0, .int .i64 0] 67) (some rb)
 clear h
 obtain ⟨V, HV⟩ : ∃ V, Hid (V = rdSpt xs st) := ⟨_, rfl⟩
 rw [← HV.out]
 go_enter Tryz.func45, Tryz.ntmps45
 obtain ⟨r0, hr0⟩ : ∃ r, Hid (r = rdNum xs st) := ⟨_, rfl⟩
 have C := N.out _ _ hA
 rw [← hr0.out] at C
 go_wp2_with fail
 refine C.mono ?_
 rintro e y0 ⟨rfl, hA', hg'⟩
 have hB' := blk_keep hg' hB hlt
 have hG' := hG.trans hg'
 clear C hA hB hG hg'
 have hA := hA'
 have hB := hB'
 have hG := hG'
 clear hA' hB' hG'
 obtain ⟨r1, hr1⟩ : ∃ r, Hid (r = rdNum xs r0.2) := ⟨_, rfl⟩
 have C := N.out _ _ hA
 rw [← hr1.out] at C
 go_wp2_with fail
 refine C.mono ?_
 rintro e y1 ⟨rfl, hA', hg'⟩
 have hB' := blk_keep hg' hB hlt
 have hG' := hG.trans hg'
 clear C hA hB hG hg'
 have hA := hA'
 have hB := hB'
 have hG := hG'
 clear hA' hB' hG'
 have e0 := cell_heap (k := 0) (v := .int .i64 0) hB rfl
 have e1 := blk_frozen (j := 0) hB
 have hB' : (y1.setCell ⟨w.heap.size, 0, none⟩ (.int .i64 r0.1)).heap[w.heap.size]? = some (.cells #[.int .i64 r0.1, .int .i64 0, .int .i64 0] 67 (0, 0)) := heap_setCell_same y1 w.heap.size 0 _ _ _ hB
 have hA' := hA.set hlt 0 (.int .i64 r0.1)
 have hG' := gb_set hG (Nat.le_refl _) 0 (.int .i64 r0.1)
 clear hA hB hG
 have hA := hA'
 have hB := hB'
 have hG := hG'
 clear hA' hB' hG'
 have e2 := cell_heap (k := 1) (v := .int .i64 0) hB rfl
 have e3 := blk_frozen (j := 1) hB
 have hB' : ((y1.setCell ⟨w.heap.size, 0, none⟩ (.int .i64 r0.1)).setCell ⟨w.heap.size, 1, none⟩ (.int .i64 r1.1)).heap[w.heap.size]? = some (.cells #[.int .i64 r0.1, .int .i64 r1.1, .int .i64 0] 67 (0, 0)) := heap_setCell_same (y1.setCell ⟨w.heap.size, 0, none⟩ (.int .i64 r0.1)) w.heap.size 1 _ _ _ hB
 have hA' := hA.set hlt 1 (.int .i64 r1.1)
 have hG' := gb_set hG (Nat.le_refl _) 1 (.int .i64 r1.1)
 clear hA hB hG
 have hA := hA'
 have hB := hB'
 have hG := hG'
 clear hA' hB' hG'
 obtain ⟨r2, hr2⟩ : ∃ r, Hid (r = rdSig xs r1.2) := ⟨_, rfl⟩
 have C := SG.out _ _ hA
 rw [← hr2.out] at C
 go_wp2_with fail
 refine C.mono ?_
 rintro e y2 ⟨rfl, hA', hg'⟩
 have hB' := blk_keep hg' hB hlt
 have hG' := hG.trans hg'
 clear C hA hB hG hg' e0 e1 e2 e3
 have hA := hA'
 have hB := hB'
 have hG := hG'
 clear hA' hB' hG'
 have e0 := cell_heap (k := 2) (v := .int .i64 0) hB rfl
 have e1 := blk_frozen (j := 2) hB
 have hB' : (y2.setCell ⟨w.heap.size, 2, none⟩ (.int .i64 r2.1)).heap[w.heap.size]? = some (.cells #[.int .i64 r0.1, .int .i64 r1.1, .int .i64 r2.1] 67 (0, 0)) := heap_setCell_same y2 w.heap.size 2 _ _ _ hB
 have hA' := hA.set hlt 2 (.int .i64 r2.1)
 have hG' := gb_set hG (Nat.le_refl _) 2 (.int .i64 r2.1)
 clear hA hB hG
 have hA := hA'
 have hB := hB'
 have hG := hG'
 clear hA' hB' hG'
 have e2 := cell_heap (k := 0) (v := .int .i64 r0.1) hB rfl
 have e3 := blk_frozen (j := 0) hB
 have e4 := cell_heap (k := 1) (v := .int .i64 r1.1) hB rfl
 have e5 := blk_frozen (j := 1) hB
 have e6 := cell_heap (k := 2) (v := .int .i64 r2.1) hB rfl
 have e7 := blk_frozen (j := 2) hB
 go_wp2
 have hB' : ((y2.setCell ⟨w.heap.size, 2, none⟩ (.int .i64 r2.1)).setCell ⟨w.heap.size, 0, none⟩ (.int .i64 r0.1)).heap[w.heap.size]? = some (.cells #[.int .i64 r0.1, .int .i64 r1.1, .int .i64 r2.1] 67 (0, 0)) := heap_setCell_same (y2.setCell ⟨w.heap.size, 2, none⟩ (.int .i64 r2.1)) w.heap.size 0 _ _ _ hB
 have hA' := hA.set hlt 0 (.int .i64 r0.1)
 have hG' := gb_set hG (Nat.le_refl _) 0 (.int .i64 r0.1)
 clear hA hB hG
 have hA := hA'
 have hB := hB'
 have hG := hG'
 clear hA' hB' hG'
 have hB' : (((y2.setCell ⟨w.heap.size, 2, none⟩ (.int .i64 r2.1)).setCell ⟨w.heap.size, 0, none⟩ (.int .i64 r0.1)).setCell ⟨w.heap.size, 1, none⟩ (.int .i64 r1.1)).heap[w.heap.size]? = some (.cells #[.int .i64 r0.1, .int .i64 r1.1, .int .i64 r2.1] 67 (0, 0)) := heap_setCell_same ((y2.setCell ⟨w.heap.size, 2, none⟩ (.int .i64 r2.1)).setCell ⟨w.heap.size, 0, none⟩ (.int .i64 r0.1)) w.heap.size 1 _ _ _ hB
 have hA' := hA.set hlt 1 (.int .i64 r1.1)
 have hG' := gb_set hG (Nat.le_refl _) 1 (.int .i64 r1.1)
 clear hA hB hG
 have hA := hA'
 have hB := hB'
 have hG := hG'
 clear hA' hB' hG'
 have hB' : ((((y2.setCell ⟨w.heap.size, 2, none⟩ (.int .i64 r2.1)).setCell ⟨w.heap.size, 0, none⟩ (.int .i64 r0.1)).setCell ⟨w.heap.size, 1, none⟩ (.int .i64 r1.1)).setCell ⟨w.heap.size, 2, none⟩ (.int .i64 r2.1)).heap[w.heap.size]? = some (.cells #[.int .i64 r0.1, .int .i64 r1.1, .int .i64 r2.1] 67 (0, 0)) := heap_setCell_same (((y2.setCell ⟨w.heap.size, 2, none⟩ (.int .i64 r2.1)).setCell ⟨w.heap.size, 0, none⟩ (.int .i64 r0.1)).setCell ⟨w.heap.size, 1, none⟩ (.int .i64 r1.1)) w.heap.size 2 _ _ _ hB
 have hA' := hA.set hlt 2 (.int .i64 r2.1)
 have hG' := gb_set hG (Nat.le_refl _) 2 (.int .i64 r2.1)
 clear hA hB hG
 have hA := hA'
 have hB := hB'
 have hG := hG'
 clear hA' hB' hG'
 refine bodyPost_ret (results_cell_row (p := 2) (ty := 67) rfl _ _ w.heap.size 67 #[.int .i64 r0.1, .int .i64 r1.1, .int .i64 r2.1] (0, 0) _ rfl hB Tryz.underlying67 rfl (by kernel_rfl)) rfl ?_
 have HV' := HV.out
 have q2 := hr2.out
 clear hr2
 subst q2
 have q1 := hr1.out
 clear hr1
 subst q1
 have q0 := hr0.out
 clear hr0
 subst q0
 subst HV'
 exact ⟨rfl, hA, hG⟩

set_option maxRecDepth 100000 in
set_option maxHeartbeats 4000000 in
theorem rtri_any (w : World) (rb : Nat) (a : Option Addr) (n c : Nat) (xs : List Int) (st : RS) (h : RdAt 73 (fun b => b) w rb a n c xs st) :
  Calls Tryz.prog 24 #[.pointer (some ⟨rb, 0, none⟩)] w fun e w' => e = .returned (.agg (triC (rdTri xs st).1).toArray) ∧ RdAt 73 (fun b => b) w' rb a n c xs (rdTri xs st).2 ∧ w.grownBy w' (some rb) := by
 have hlt := h.lt
 have N := Lib.hid (fun (W : World) (s : RS) (h : RdAt 73 (fun b => b) W rb a n c xs s) => rnumber_any W rb a n c xs s h)
 have SG := Lib.hid (fun (W : World) (s : RS) (h : RdAt 73 (fun b => b) W rb a n c xs s) => rsigned_any W rb a n c xs s h)
 have hA := h.alloc (.cells #[.int .i64 0, .int .i64 0, .int .i64 0, .int .i64 0, .int .i64 0, .int .i64 0, .int .i64 0, .int .i64 0, .int .i64 0, .int .i64 0] 62)
 have hB := World.alloc_heap_new w (.cells #[.int .i64 0, .int .i64 0, .int .i64 0, .int .i64 0, .int .i64 0, .int .i64 0, .int .i64 0, .int .i64 0, .int .i64 0, .int .i64 0] 62)
 have hG := World.grownBy_alloc w (.cells #[.int .i64 0, .int .i64 0, .int .i64 0, .int .i64 0, .int .i64 0, .int .i64 0, .int .i64 0, .int .i64 0, .int .i64 0, .int .i64 0] 62) (some rb)
 clear h
 obtain ⟨V, HV⟩ : ∃ V, Hid (V = rdTri xs st) := ⟨_, rfl⟩
 rw [← HV.out]
 go_enter Tryz.func24, Tryz.ntmps24
 obtain ⟨r0, hr0⟩ : ∃ r, Hid (r = rdNum xs st) := ⟨_, rfl⟩
 have C := N.out _ _ hA
 rw [← hr0.out] at C
 go_wp2_with fail
 refine C.mono ?_
 rintro e y0 ⟨rfl, hA', hg'⟩
 have hB' := blk_keep hg' hB hlt
 have hG' := hG.trans hg'
 clear C hA hB hG hg'
 have hA := hA'
 have hB := hB'
 have hG := hG'
 clear hA' hB' hG'
 have e0 := cell_heap (k := 0) (v := .int .i64 0) hB rfl
 have e1 := blk_frozen (j := 0) hB
 have hB' : (y0.setCell ⟨w.heap.size, 0, none⟩ (.int .i64 r0.1)).heap[w.heap.size]? = some (.cells #[.int .i64 r0.1, .int .i64 0, .int .i64 0, .int .i64 0, .int .i64 0, .int .i64 0, .int .i64 0, .int .i64 0, .int .i64 0, .int .i64 0] 62 (0, 0)) := heap_setCell_same y0 w.heap.size 0 _ _ _ hB
 have hA' := hA.set hlt 0 (.int .i64 r0.1)
 have hG' := gb_set hG (Nat.le_refl _) 0 (.int .i64 r0.1)
 clear hA hB hG
 have hA := hA'
 have hB := hB'
 have hG := hG'
 clear hA' hB' hG'
 go_wp2_with fail
 refine wp_loop_rounds 4 ?_
 rw [rounds_succ]
 obtain ⟨r1, hr1⟩ : ∃ r, Hid (r = rdNum xs r0.2) := ⟨_, rfl⟩
 have C := N.out _ _ hA
 rw [← hr1.out] at C
 go_wp2_with fail
 refine C.mono ?_
 rintro e y1 ⟨rfl, hA', hg'⟩
 have hB' := blk_keep hg' hB hlt
 have hG' := hG.trans hg'
 clear C hA hB hG hg' e0 e1
 have hA := hA'
 have hB := hB'
 have hG := hG'
 clear hA' hB' hG'
 obtain ⟨r2, hr2⟩ : ∃ r, Hid (r = rdSig xs r1.2) := ⟨_, rfl⟩
 have C := SG.out _ _ hA
 rw [← hr2.out] at C
 go_wp2_with fail
 refine C.mono ?_
 rintro e y2 ⟨rfl, hA', hg'⟩
 have hB' := blk_keep hg' hB hlt
 have hG' := hG.trans hg'
 clear C hA hB hG hg'
 have hA := hA'
 have hB := hB'
 have hG := hG'
 clear hA' hB' hG'
 obtain ⟨r3, hr3⟩ : ∃ r, Hid (r = rdNum xs r2.2) := ⟨_, rfl⟩
 have C := N.out _ _ hA
 rw [← hr3.out] at C
 go_wp2_with fail
 refine C.mono ?_
 rintro e y3 ⟨rfl, hA', hg'⟩
 have hB' := blk_keep hg' hB hlt
 have hG' := hG.trans hg'
 clear C hA hB hG hg'
 have hA := hA'
 have hB := hB'
 have hG := hG'
 clear hA' hB' hG'
 have e0 := cell_heap (k := 1) (v := .int .i64 0) hB rfl
 have e1 := blk_frozen (j := 1) hB
 have hB' : (y3.setCell ⟨w.heap.size, 1, none⟩ (.int .i64 r1.1)).heap[w.heap.size]? = some (.cells #[.int .i64 r0.1, .int .i64 r1.1, .int .i64 0, .int .i64 0, .int .i64 0, .int .i64 0, .int .i64 0, .int .i64 0, .int .i64 0, .int .i64 0] 62 (0, 0)) := heap_setCell_same y3 w.heap.size 1 _ _ _ hB
 have hA' := hA.set hlt 1 (.int .i64 r1.1)
 have hG' := gb_set hG (Nat.le_refl _) 1 (.int .i64 r1.1)
 clear hA hB hG
 have hA := hA'
 have hB := hB'
 have hG := hG'
 clear hA' hB' hG'
 have e2 := cell_heap (k := 2) (v := .int .i64 0) hB rfl
 have e3 := blk_frozen (j := 2) hB
 have hB' : ((y3.setCell ⟨w.heap.size, 1, none⟩ (.int .i64 r1.1)).setCell ⟨w.heap.size, 2, none⟩ (.int .i64 r2.1)).heap[w.heap.size]? = some (.cells #[.int .i64 r0.1, .int .i64 r1.1, .int .i64 r2.1, .int .i64 0, .int .i64 0, .int .i64 0, .int .i64 0, .int .i64 0, .int .i64 0, .int .i64 0] 62 (0, 0)) := heap_setCell_same (y3.setCell ⟨w.heap.size, 1, none⟩ (.int .i64 r1.1)) w.heap.size 2 _ _ _ hB
 have hA' := hA.set hlt 2 (.int .i64 r2.1)
 have hG' := gb_set hG (Nat.le_refl _) 2 (.int .i64 r2.1)
 clear hA hB hG
 have hA := hA'
 have hB := hB'
 have hG := hG'
 clear hA' hB' hG'
 have e4 := cell_heap (k := 3) (v := .int .i64 0) hB rfl
 have e5 := blk_frozen (j := 3) hB
 have hB' : (((y3.setCell ⟨w.heap.size, 1, none⟩ (.int .i64 r1.1)).setCell ⟨w.heap.size, 2, none⟩ (.int .i64 r2.1)).setCell ⟨w.heap.size, 3, none⟩ (.int .i64 r3.1)).heap[w.heap.size]? = some (.cells #[.int .i64 r0.1, .int .i64 r1.1, .int .i64 r2.1, .int .i64 r3.1, .int .i64 0, .int .i64 0, .int .i64 0, .int .i64 0, .int .i64 0, .int .i64 0] 62 (0, 0)) := heap_setCell_same ((y3.setCell ⟨w.heap.size, 1, none⟩ (.int .i64 r1.1)).setCell ⟨w.heap.size, 2, none⟩ (.int .i64 r2.1)) w.heap.size 3 _ _ _ hB
 have hA' := hA.set hlt 3 (.int .i64 r3.1)
 have hG' := gb_set hG (Nat.le_refl _) 3 (.int .i64 r3.1)
 clear hA hB hG
 have hA := hA'
 have hB := hB'
 have hG := hG'
 clear hA' hB' hG'
 go_wp2_with fail
 rw [rounds_succ]
 obtain ⟨r4, hr4⟩ : ∃ r, Hid (r = rdNum xs r3.2) := ⟨_, rfl⟩
 have C := N.out _ _ hA
 rw [← hr4.out] at C
 go_wp2_with fail
 refine C.mono ?_
 rintro e y4 ⟨rfl, hA', hg'⟩
 have hB' := blk_keep hg' hB hlt
 have hG' := hG.trans hg'
 clear C hA hB hG hg' e0 e1 e2 e3 e4 e5
 have hA := hA'
 have hB := hB'
 have hG := hG'
 clear hA' hB' hG'
 obtain ⟨r5, hr5⟩ : ∃ r, Hid (r = rdSig xs r4.2) := ⟨_, rfl⟩
 have C := SG.out _ _ hA
 rw [← hr5.out] at C
 go_wp2_with fail
 refine C.mono ?_
 rintro e y5 ⟨rfl, hA', hg'⟩
 have hB' := blk_keep hg' hB hlt
 have hG' := hG.trans hg'
 clear C hA hB hG hg'
 have hA := hA'
 have hB := hB'
 have hG := hG'
 clear hA' hB' hG'
 obtain ⟨r6, hr6⟩ : ∃ r, Hid (r = rdNum xs r5.2) := ⟨_, rfl⟩
 have C := N.out _ _ hA
 rw [← hr6.out] at C
 go_wp2_with fail
 refine C.mono ?_
 rintro e y6 ⟨rfl, hA', hg'⟩
 have hB' := blk_keep hg' hB hlt
 have hG' := hG.trans hg'
 clear C hA hB hG hg'
 have hA := hA'
 have hB := hB'
 have hG := hG'
 clear hA' hB' hG'
 have e0 := cell_heap (k := 4) (v := .int .i64 0) hB rfl
 have e1 := blk_frozen (j := 4) hB
 have hB' : (y6.setCell ⟨w.heap.size, 4, none⟩ (.int .i64 r4.1)).heap[w.heap.size]? = some (.cells #[.int .i64 r0.1, .int .i64 r1.1, .int .i64 r2.1, .int .i64 r3.1, .int .i64 r4.1, .int .i64 0, .int .i64 0, .int .i64 0, .int .i64 0, .int .i64 0] 62 (0, 0)) := heap_setCell_same y6 w.heap.size 4 _ _ _ hB
 have hA' := hA.set hlt 4 (.int .i64 r4.1)
 have hG' := gb_set hG (Nat.le_refl _) 4 (.int .i64 r4.1)
 clear hA hB hG
 have hA := hA'
 have hB := hB'
 have hG := hG'
 clear hA' hB' hG'
 have e2 := cell_heap (k := 5) (v := .int .i64 0) hB rfl
 have e3 := blk_frozen (j := 5) hB
 have hB' : ((y6.setCell ⟨w.heap.size, 4, none⟩ (.int .i64 r4.1)).setCell ⟨w.heap.size, 5, none⟩ (.int .i64 r5.1)).heap[w.heap.size]? = some (.cells #[.int .i64 r0.1, .int .i64 r1.1, .int .i64 r2.1, .int .i64 r3.1, .int .i64 r4.1, .int .i64 r5.1, .int .i64 0, .int .i64 0, .int .i64 0, .int .i64 0] 62 (0, 0)) := heap_setCell_same (y6.setCell ⟨w.heap.size, 4, none⟩ (.int .i64 r4.1)) w.heap.size 5 _ _ _ hB
 have hA' := hA.set hlt 5 (.int .i64 r5.1)
 have hG' := gb_set hG (Nat.le_refl _) 5 (.int .i64 r5.1)
 clear hA hB hG
 have hA := hA'
 have hB := hB'
 have hG := hG'
 clear hA' hB' hG'
 have e4 := cell_heap (k := 6) (v := .int .i64 0) hB rfl
 have e5 := blk_frozen (j := 6) hB
 have hB' : (((y6.setCell ⟨w.heap.size, 4, none⟩ (.int .i64 r4.1)).setCell ⟨w.heap.size, 5, none⟩ (.int .i64 r5.1)).setCell ⟨w.heap.size, 6, none⟩ (.int .i64 r6.1)).heap[w.heap.size]? = some (.cells #[.int .i64 r0.1, .int .i64 r1.1, .int .i64 r2.1, .int .i64 r3.1, .int .i64 r4.1, .int .i64 r5.1, .int .i64 r6.1, .int .i64 0, .int .i64 0, .int .i64 0] 62 (0, 0)) := heap_setCell_same ((y6.setCell ⟨w.heap.size, 4, none⟩ (.int .i64 r4.1)).setCell ⟨w.heap.size, 5, none⟩ (.int .i64 r5.1)) w.heap.size 6 _ _ _ hB
 have hA' := hA.set hlt 6 (.int .i64 r6.1)
 have hG' := gb_set hG (Nat.le_refl _) 6 (.int .i64 r6.1)
 clear hA hB hG
 have hA := hA'
 have hB := hB'
 have hG := hG'
 clear hA' hB' hG'
 go_wp2_with fail
 rw [rounds_succ]
 obtain ⟨r7, hr7⟩ : ∃ r, Hid (r = rdNum xs r6.2) := ⟨_, rfl⟩
 have C := N.out _ _ hA
 rw [← hr7.out] at C
 go_wp2_with fail
 refine C.mono ?_
 rintro e y7 ⟨rfl, hA', hg'⟩
 have hB' := blk_keep hg' hB hlt
 have hG' := hG.trans hg'
 clear C hA hB hG hg' e0 e1 e2 e3 e4 e5
 have hA := hA'
 have hB := hB'
 have hG := hG'
 clear hA' hB' hG'
 obtain ⟨r8, hr8⟩ : ∃ r, Hid (r = rdSig xs r7.2) := ⟨_, rfl⟩
 have C := SG.out _ _ hA
 rw [← hr8.out] at C
 go_wp2_with fail
 refine C.mono ?_
 rintro e y8 ⟨rfl, hA', hg'⟩
 have hB' := blk_keep hg' hB hlt
 have hG' := hG.trans hg'
 clear C hA hB hG hg'
 have hA := hA'
 have hB := hB'
 have hG := hG'
 clear hA' hB' hG'
 obtain ⟨r9, hr9⟩ : ∃ r, Hid (r = rdNum xs r8.2) := ⟨_, rfl⟩
 have C := N.out _ _ hA
 rw [← hr9.out] at C
 go_wp2_with fail
 refine C.mono ?_
 rintro e y9 ⟨rfl, hA', hg'⟩
 have hB' := blk_keep hg' hB hlt
 have hG' := hG.trans hg'
 clear C hA hB hG hg'
 have hA := hA'
 have hB := hB'
 have hG := hG'
 clear hA' hB' hG'
 have e0 := cell_heap (k := 7) (v := .int .i64 0) hB rfl
 have e1 := blk_frozen (j := 7) hB
 have hB' : (y9.setCell ⟨w.heap.size, 7, none⟩ (.int .i64 r7.1)).heap[w.heap.size]? = some (.cells #[.int .i64 r0.1, .int .i64 r1.1, .int .i64 r2.1, .int .i64 r3.1, .int .i64 r4.1, .int .i64 r5.1, .int .i64 r6.1, .int .i64 r7.1, .int .i64 0, .int .i64 0] 62 (0, 0)) := heap_setCell_same y9 w.heap.size 7 _ _ _ hB
 have hA' := hA.set hlt 7 (.int .i64 r7.1)
 have hG' := gb_set hG (Nat.le_refl _) 7 (.int .i64 r7.1)
 clear hA hB hG
 have hA := hA'
 have hB := hB'
 have hG := hG'
 clear hA' hB' hG'
 have e2 := cell_heap (k := 8) (v := .int .i64 0) hB rfl
 have e3 := blk_frozen (j := 8) hB
 have hB' : ((y9.setCell ⟨w.heap.size, 7, none⟩ (.int .i64 r7.1)).setCell ⟨w.heap.size, 8, none⟩ (.int .i64 r8.1)).heap[w.heap.size]? = some (.cells #[.int .i64 r0.1, .int .i64 r1.1, .int .i64 r2.1, .int .i64 r3.1, .int .i64 r4.1, .int .i64 r5.1, .int .i64 r6.1, .int .i64 r7.1, .int .i64 r8.1, .int .i64 0] 62 (0, 0)) := heap_setCell_same (y9.setCell ⟨w.heap.size, 7, none⟩ (.int .i64 r7.1)) w.heap.size 8 _ _ _ hB
 have hA' := hA.set hlt 8 (.int .i64 r8.1)
 have hG' := gb_set hG (Nat.le_refl _) 8 (.int .i64 r8.1)
 clear hA hB hG
 have hA := hA'
 have hB := hB'
 have hG := hG'
 clear hA' hB' hG'
 have e4 := cell_heap (k := 9) (v := .int .i64 0) hB rfl
 have e5 := blk_frozen (j := 9) hB
 have hB' : (((y9.setCell ⟨w.heap.size, 7, none⟩ (.int .i64 r7.1)).setCell ⟨w.heap.size, 8, none⟩ (.int .i64 r8.1)).setCell ⟨w.heap.size, 9, none⟩ (.int .i64 r9.1)).heap[w.heap.size]? = some (.cells #[.int .i64 r0.1, .int .i64 r1.1, .int .i64 r2.1, .int .i64 r3.1, .int .i64 r4.1, .int .i64 r5.1, .int .i64 r6.1, .int .i64 r7.1, .int .i64 r8.1, .int .i64 r9.1] 62 (0, 0)) := heap_setCell_same ((y9.setCell ⟨w.heap.size, 7, none⟩ (.int .i64 r7.1)).setCell ⟨w.heap.size, 8, none⟩ (.int .i64 r8.1)) w.heap.size 9 _ _ _ hB
 have hA' := hA.set hlt 9 (.int .i64 r9.1)
 have hG' := gb_set hG (Nat.le_refl _) 9 (.int .i64 r9.1)
 clear hA hB hG
 have hA := hA'
 have hB := hB'
 have hG := hG'
 clear hA' hB' hG'
 go_wp2_with fail
 rw [rounds_succ]
 have e6 := cell_heap (k := 0) (v := .int .i64 r0.1) hB rfl
 have e7 := blk_frozen (j := 0) hB
 have e8 := cell_heap (k := 1) (v := .int .i64 r1.1) hB rfl
 have e9 := blk_frozen (j := 1) hB
 have e10 := cell_heap (k := 2) (v := .int .i64 r2.1) hB rfl
 have e11 := blk_frozen (j := 2) hB
 have e12 := cell_heap (k := 3) (v := .int .i64 r3.1) hB rfl
 have e13 := blk_frozen (j := 3) hB
 have e14 := cell_heap (k := 4) (v := .int .i64 r4.1) hB rfl
 have e15 := blk_frozen (j := 4) hB
 have e16 := cell_heap (k := 5) (v := .int .i64 r5.1) hB rfl
 have e17 := blk_frozen (j := 5) hB
 have e18 := cell_heap (k := 6) (v := .int .i64 r6.1) hB rfl
 have e19 := blk_frozen (j := 6) hB
 have e20 := cell_heap (k := 7) (v := .int .i64 r7.1) hB rfl
 have e21 := blk_frozen (j := 7) hB
 have e22 := cell_heap (k := 8) (v := .int .i64 r8.1) hB rfl
 have e23 := blk_frozen (j := 8) hB
 have e24 := cell_heap (k := 9) (v := .int .i64 r9.1) hB rfl
 have e25 := blk_frozen (j := 9) hB
 go_wp2
 have hB' : ((((y9.setCell ⟨w.heap.size, 7, none⟩ (.int .i64 r7.1)).setCell ⟨w.heap.size, 8, none⟩ (.int .i64 r8.1)).setCell ⟨w.heap.size, 9, none⟩ (.int .i64 r9.1)).setCell ⟨w.heap.size, 0, none⟩ (.int .i64 r0.1)).heap[w.heap.size]? = some (.cells #[.int .i64 r0.1, .int .i64 r1.1, .int .i64 r2.1, .int .i64 r3.1, .int .i64 r4.1, .int .i64 r5.1, .int .i64 r6.1, .int .i64 r7.1, .int .i64 r8.1, .int .i64 r9.1] 62 (0, 0)) := heap_setCell_same (((y9.setCell ⟨w.heap.size, 7, none⟩ (.int .i64 r7.1)).setCell ⟨w.heap.size, 8, none⟩ (.int .i64 r8.1)).setCell ⟨w.heap.size, 9, none⟩ (.int .i64 r9.1)) w.heap.size 0 _ _ _ hB
 have hA' := hA.set hlt 0 (.int .i64 r0.1)
 have hG' := gb_set hG (Nat.le_refl _) 0 (.int .i64 r0.1)
 clear hA hB hG
 have hA := hA'
 have hB := hB'
 have hG := hG'
 clear hA' hB' hG'
 have hB' : (((((y9.setCell ⟨w.heap.size, 7, none⟩ (.int .i64 r7.1)).setCell ⟨w.heap.size, 8, none⟩ (.int .i64 r8.1)).setCell ⟨w.heap.size, 9, none⟩ (.int .i64 r9.1)).setCell ⟨w.heap.size, 0, none⟩ (.int .i64 r0.1)).setCell ⟨w.heap.size, 1, none⟩ (.int .i64 r1.1)).heap[w.heap.size]? = some (.cells #[.int .i64 r0.1, .int .i64 r1.1, .int .i64 r2.1, .int .i64 r3.1, .int .i64 r4.1, .int .i64 r5.1, .int .i64 r6.1, .int .i64 r7.1, .int .i64 r8.1, .int .i64 r9.1] 62 (0, 0)) := heap_setCell_same ((((y9.setCell ⟨w.heap.size, 7, none⟩ (.int .i64 r7.1)).setCell ⟨w.heap.size, 8, none⟩ (.int .i64 r8.1)).setCell ⟨w.heap.size, 9, none⟩ (.int .i64 r9.1)).setCell ⟨w.heap.size, 0, none⟩ (.int .i64 r0.1)) w.heap.size 1 _ _ _ hB
 have hA' := hA.set hlt 1 (.int .i64 r1.1)
 have hG' := gb_set hG (Nat.le_refl _) 1 (.int .i64 r1.1)
 clear hA hB hG
 have hA := hA'
 have hB := hB'
 have hG := hG'
 clear hA' hB' hG'
 have hB' : ((((((y9.setCell ⟨w.heap.size, 7, none⟩ (.int .i64 r7.1)).setCell ⟨w.heap.size, 8, none⟩ (.int .i64 r8.1)).setCell ⟨w.heap.size, 9, none⟩ (.int .i64 r9.1)).setCell ⟨w.heap.size, 0, none⟩ (.int .i64 r0.1)).setCell ⟨w.heap.size, 1, none⟩ (.int .i64 r1.1)).setCell ⟨w.heap.size, 2, none⟩ (.int .i64 r2.1)).heap[w.heap.size]? = some (.cells #[.int .i64 r0.1, .int .i64 r1.1, .int .i64 r2.1, .int .i64 r3.1, .int .i64 r4.1, .int .i64 r5.1, .int .i64 r6.1, .int .i64 r7.1, .int .i64 r8.1, .int .i64 r9.1] 62 (0, 0)) := heap_setCell_same (((((y9.setCell ⟨w.heap.size, 7, none⟩ (.int .i64 r7.1)).setCell ⟨w.heap.size, 8, none⟩ (.int .i64 r8.1)).setCell ⟨w.heap.size, 9, none⟩ (.int .i64 r9.1)).setCell ⟨w.heap.size, 0, none⟩ (.int .i64 r0.1)).setCell ⟨w.heap.size, 1, none⟩ (.int .i64 r1.1)) w.heap.size 2 _ _ _ hB
 have hA' := hA.set hlt 2 (.int .i64 r2.1)
 have hG' := gb_set hG (Nat.le_refl _) 2 (.int .i64 r2.1)
 clear hA hB hG
 have hA := hA'
 have hB := hB'
 have hG := hG'
 clear hA' hB' hG'
 have hB' : (((((((y9.setCell ⟨w.heap.size, 7, none⟩ (.int .i64 r7.1)).setCell ⟨w.heap.size, 8, none⟩ (.int .i64 r8.1)).setCell ⟨w.heap.size, 9, none⟩ (.int .i64 r9.1)).setCell ⟨w.heap.size, 0, none⟩ (.int .i64 r0.1)).setCell ⟨w.heap.size, 1, none⟩ (.int .i64 r1.1)).setCell ⟨w.heap.size, 2, none⟩ (.int .i64 r2.1)).setCell ⟨w.heap.size, 3, none⟩ (.int .i64 r3.1)).heap[w.heap.size]? = some (.cells #[.int .i64 r0.1, .int .i64 r1.1, .int .i64 r2.1, .int .i64 r3.1, .int .i64 r4.1, .int .i64 r5.1, .int .i64 r6.1, .int .i64 r7.1, .int .i64 r8.1, .int .i64 r9.1] 62 (0, 0)) := heap_setCell_same ((((((y9.setCell ⟨w.heap.size, 7, none⟩ (.int .i64 r7.1)).setCell ⟨w.heap.size, 8, none⟩ (.int .i64 r8.1)).setCell ⟨w.heap.size, 9, none⟩ (.int .i64 r9.1)).setCell ⟨w.heap.size, 0, none⟩ (.int .i64 r0.1)).setCell ⟨w.heap.size, 1, none⟩ (.int .i64 r1.1)).setCell ⟨w.heap.size, 2, none⟩ (.int .i64 r2.1)) w.heap.size 3 _ _ _ hB
 have hA' := hA.set hlt 3 (.int .i64 r3.1)
 have hG' := gb_set hG (Nat.le_refl _) 3 (.int .i64 r3.1)
 clear hA hB hG
 have hA := hA'
 have hB := hB'
 have hG := hG'
 clear hA' hB' hG'
 have hB' : ((((((((y9.setCell ⟨w.heap.size, 7, none⟩ (.int .i64 r7.1)).setCell ⟨w.heap.size, 8, none⟩ (.int .i64 r8.1)).setCell ⟨w.heap.size, 9, none⟩ (.int .i64 r9.1)).setCell ⟨w.heap.size, 0, none⟩ (.int .i64 r0.1)).setCell ⟨w.heap.size, 1, none⟩ (.int .i64 r1.1)).setCell ⟨w.heap.size, 2, none⟩ (.int .i64 r2.1)).setCell ⟨w.heap.size, 3, none⟩ (.int .i64 r3.1)).setCell ⟨w.heap.size, 4, none⟩ (.int .i64 r4.1)).heap[w.heap.size]? = some (.cells #[.int .i64 r0.1, .int .i64 r1.1, .int .i64 r2.1, .int .i64 r3.1, .int .i64 r4.1, .int .i64 r5.1, .int .i64 r6.1, .int .i64 r7.1, .int .i64 r8.1, .int .i64 r9.1] 62 (0, 0)) := heap_setCell_same (((((((y9.setCell ⟨w.heap.size, 7, none⟩ (.int .i64 r7.1)).setCell ⟨w.heap.size, 8, none⟩ (.int .i64 r8.1)).setCell ⟨w.heap.size, 9, none⟩ (.int .i64 r9.1)).setCell ⟨w.heap.size, 0, none⟩ (.int .i64 r0.1)).setCell ⟨w.heap.size, 1, none⟩ (.int .i64 r1.1)).setCell ⟨w.heap.size, 2, none⟩ (.int .i64 r2.1)).setCell ⟨w.heap.size, 3, none⟩ (.int .i64 r3.1)) w.heap.size 4 _ _ _ hB
 have hA' := hA.set hlt 4 (.int .i64 r4.1)
 have hG' := gb_set hG (Nat.le_refl _) 4 (.int .i64 r4.1)
 clear hA hB hG
 have hA := hA'
 have hB := hB'
 have hG := hG'
 clear hA' hB' hG'
 have hB' : (((((((((y9.setCell ⟨w.heap.size, 7, none⟩ (.int .i64 r7.1)).setCell ⟨w.heap.size, 8, none⟩ (.int .i64 r8.1)).setCell ⟨w.heap.size, 9, none⟩ (.int .i64 r9.1)).setCell ⟨w.heap.size, 0, none⟩ (.int .i64 r0.1)).setCell ⟨w.heap.size, 1, none⟩ (.int .i64 r1.1)).setCell ⟨w.heap.size, 2, none⟩ (.int .i64 r2.1)).setCell ⟨w.heap.size, 3, none⟩ (.int .i64 r3.1)).setCell ⟨w.heap.size, 4, none⟩ (.int .i64 r4.1)).setCell ⟨w.heap.size, 5, none⟩ (.int .i64 r5.1)).heap[w.heap.size]? = some (.cells #[.int .i64 r0.1, .int .i64 r1.1, .int .i64 r2.1, .int .i64 r3.1, .int .i64 r4.1, .int .i64 r5.1, .int .i64 r6.1, .int .i64 r7.1, .int .i64 r8.1, .int .i64 r9.1] 62 (0, 0)) := heap_setCell_same ((((((((y9.setCell ⟨w.heap.size, 7, none⟩ (.int .i64 r7.1)).setCell ⟨w.heap.size, 8, none⟩ (.int .i64 r8.1)).setCell ⟨w.heap.size, 9, none⟩ (.int .i64 r9.1)).setCell ⟨w.heap.size, 0, none⟩ (.int .i64 r0.1)).setCell ⟨w.heap.size, 1, none⟩ (.int .i64 r1.1)).setCell ⟨w.heap.size, 2, none⟩ (.int .i64 r2.1)).setCell ⟨w.heap.size, 3, none⟩ (.int .i64 r3.1)).setCell ⟨w.heap.size, 4, none⟩ (.int .i64 r4.1)) w.heap.size 5 _ _ _ hB
 have hA' := hA.set hlt 5 (.int .i64 r5.1)
 have hG' := gb_set hG (Nat.le_refl _) 5 (.int .i64 r5.1)
 clear hA hB hG
 have hA := hA'
 have hB := hB'
 have hG := hG'
 clear hA' hB' hG'
 have hB' : ((((((((((y9.setCell ⟨w.heap.size, 7, none⟩ (.int .i64 r7.1)).setCell ⟨w.heap.size, 8, none⟩ (.int .i64 r8.1)).setCell ⟨w.heap.size, 9, none⟩ (.int .i64 r9.1)).setCell ⟨w.heap.size, 0, none⟩ (.int .i64 r0.1)).setCell ⟨w.heap.size, 1, none⟩ (.int .i64 r1.1)).setCell ⟨w.heap.size, 2, none⟩ (.int .i64 r2.1)).setCell ⟨w.heap.size, 3, none⟩ (.int .i64 r3.1)).setCell ⟨w.heap.size, 4, none⟩ (.int .i64 r4.1)).setCell ⟨w.heap.size, 5, none⟩ (.int .i64 r5.1)).setCell ⟨w.heap.size, 6, none⟩ (.int .i64 r6.1)).heap[w.heap.size]? = some (.cells #[.int .i64 r0.1, .int .i64 r1.1, .int .i64 r2.1, .int .i64 r3.1, .int .i64 r4.1, .int .i64 r5.1, .int .i64 r6.1, .int .i64 r7.1, .int .i64 r8.1, .int .i64 r9.1] 62 (0, 0)) := heap_setCell_same (((((((((y9.setCell ⟨w.heap.size, 7, none⟩ (.int .i64 r7.1)).setCell ⟨w.heap.size, 8, none⟩ (.int .i64 r8.1)).setCell ⟨w.heap.size, 9, none⟩ (.int .i64 r9.1)).setCell ⟨w.heap.size, 0, none⟩ (.int .i64 r0.1)).setCell ⟨w.heap.size, 1, none⟩ (.int .i64 r1.1)).setCell ⟨w.heap.size, 2, none⟩ (.int .i64 r2.1)).setCell ⟨w.heap.size, 3, none⟩ (.int .i64 r3.1)).setCell ⟨w.heap.size, 4, none⟩ (.int .i64 r4.1)).setCell ⟨w.heap.size, 5, none⟩ (.int .i64 r5.1)) w.heap.size 6 _ _ _ hB
 have hA' := hA.set hlt 6 (.int .i64 r6.1)
 have hG' := gb_set hG (Nat.le_refl _) 6 (.int .i64 r6.1)
 clear hA hB hG
 have hA := hA'
 have hB := hB'
 have hG := hG'
 clear hA' hB' hG'
 have hB' : (((((((((((y9.setCell ⟨w.heap.size, 7, none⟩ (.int .i64 r7.1)).setCell ⟨w.heap.size, 8, none⟩ (.int .i64 r8.1)).setCell ⟨w.heap.size, 9, none⟩ (.int .i64 r9.1)).setCell ⟨w.heap.size, 0, none⟩ (.int .i64 r0.1)).setCell ⟨w.heap.size, 1, none⟩ (.int .i64 r1.1)).setCell ⟨w.heap.size, 2, none⟩ (.int .i64 r2.1)).setCell ⟨w.heap.size, 3, none⟩ (.int .i64 r3.1)).setCell ⟨w.heap.size, 4, none⟩ (.int .i64 r4.1)).setCell ⟨w.heap.size, 5, none⟩ (.int .i64 r5.1)).setCell ⟨w.heap.size, 6, none⟩ (.int .i64 r6.1)).setCell ⟨w.heap.size, 7, none⟩ (.int .i64 r7.1)).heap[w.heap.size]? = some (.cells #[.int .i64 r0.1, .int .i64 r1.1, .int .i64 r2.1, .int .i64 r3.1, .int .i64 r4.1, .int .i64 r5.1, .int .i64 r6.1, .int .i64 r7.1, .int .i64 r8.1, .int .i64 r9.1] 62 (0, 0)) := heap_setCell_same ((((((((((y9.setCell ⟨w.heap.size, 7, none⟩ (.int .i64 r7.1)).setCell ⟨w.heap.size, 8, none⟩ (.int .i64 r8.1)).setCell ⟨w.heap.size, 9, none⟩ (.int .i64 r9.1)).setCell ⟨w.heap.size, 0, none⟩ (.int .i64 r0.1)).setCell ⟨w.heap.size, 1, none⟩ (.int .i64 r1.1)).setCell ⟨w.heap.size, 2, none⟩ (.int .i64 r2.1)).setCell ⟨w.heap.size, 3, none⟩ (.int .i64 r3.1)).setCell ⟨w.heap.size, 4, none⟩ (.int .i64 r4.1)).setCell ⟨w.heap.size, 5, none⟩ (.int .i64 r5.1)).setCell ⟨w.heap.size, 6, none⟩ (.int .i64 r6.1)) w.heap.size 7 _ _ _ hB
 have hA' := hA.set hlt 7 (.int .i64 r7.1)
 have hG' := gb_set hG (Nat.le_refl _) 7 (.int .i64 r7.1)
 clear hA hB hG
 have hA := hA'
 have hB := hB'
 have hG := hG'
 clear hA' hB' hG'
 have hB' : ((((((((((((y9.setCell ⟨w.heap.size, 7, none⟩ (.int .i64 r7.1)).setCell ⟨w.heap.size, 8, none⟩ (.int .i64 r8.1)).setCell ⟨w.heap.size, 9, none⟩ (.int .i64 r9.1)).setCell ⟨w.heap.size, 0, none⟩ (.int .i64 r0.1)).setCell ⟨w.heap.size, 1, none⟩ (.int .i64 r1.1)).setCell ⟨w.heap.size, 2, none⟩ (.int .i64 r2.1)).setCell ⟨w.heap.size, 3, none⟩ (.int .i64 r3.1)).setCell ⟨w.heap.size, 4, none⟩ (.int .i64 r4.1)).setCell ⟨w.heap.size, 5, none⟩ (.int .i64 r5.1)).setCell ⟨w.heap.size, 6, none⟩ (.int .i64 r6.1)).setCell ⟨w.heap.size, 7, none⟩ (.int .i64 r7.1)).setCell ⟨w.heap.size, 8, none⟩ (.int .i64 r8.1)).heap[w.heap.size]? = some (.cells #[.int .i64 r0.1, .int .i64 r1.1, .int .i64 r2.1, .int .i64 r3.1, .int .i64 r4.1, .int .i64 r5.1, .int .i64 r6.1, .int .i64 r7.1, .int .i64 r8.1, .int .i64 r9.1] 62 (0, 0)) := heap_setCell_same (((((((((((y9.setCell ⟨w.heap.size, 7, none⟩ (.int .i64 r7.1)).setCell ⟨w.heap.size, 8, none⟩ (.int .i64 r8.1)).setCell ⟨w.heap.size, 9, none⟩ (.int .i64 r9.1)).setCell ⟨w.heap.size, 0, none⟩ (.int .i64 r0.1)).setCell ⟨w.heap.size, 1, none⟩ (.int .i64 r1.1)).setCell ⟨w.heap.size, 2, none⟩ (.int .i64 r2.1)).setCell ⟨w.heap.size, 3, none⟩ (.int .i64 r3.1)).setCell ⟨w.heap.size, 4, none⟩ (.int .i64 r4.1)).setCell ⟨w.heap.size, 5, none⟩ (.int .i64 r5.1)).setCell ⟨w.heap.size, 6, none⟩ (.int .i64 r6.1)).setCell ⟨w.heap.size, 7, none⟩ (.int .i64 r7.1)) w.heap.size 8 _ _ _ hB
 have hA' := hA.set hlt 8 (.int .i64 r8.1)
 have hG' := gb_set hG (Nat.le_refl _) 8 (.int .i64 r8.1)
 clear hA hB hG
 have hA := hA'
 have hB := hB'
 have hG := hG'
 clear hA' hB' hG'
 have hB' : (((((((((((((y9.setCell ⟨w.heap.size, 7, none⟩ (.int .i64 r7.1)).setCell ⟨w.heap.size, 8, none⟩ (.int .i64 r8.1)).setCell ⟨w.heap.size, 9, none⟩ (.int .i64 r9.1)).setCell ⟨w.heap.size, 0, none⟩ (.int .i64 r0.1)).setCell ⟨w.heap.size, 1, none⟩ (.int .i64 r1.1)).setCell ⟨w.heap.size, 2, none⟩ (.int .i64 r2.1)).setCell ⟨w.heap.size, 3, none⟩ (.int .i64 r3.1)).setCell ⟨w.heap.size, 4, none⟩ (.int .i64 r4.1)).setCell ⟨w.heap.size, 5, none⟩ (.int .i64 r5.1)).setCell ⟨w.heap.size, 6, none⟩ (.int .i64 r6.1)).setCell ⟨w.heap.size, 7, none⟩ (.int .i64 r7.1)).setCell ⟨w.heap.size, 8, none⟩ (.int .i64 r8.1)).setCell ⟨w.heap.size, 9, none⟩ (.int .i64 r9.1)).heap[w.heap.size]? = some (.cells #[.int .i64 r0.1, .int .i64 r1.1, .int .i64 r2.1, .int .i64 r3.1, .int .i64 r4.1, .int .i64 r5.1, .int .i64 r6.1, .int .i64 r7.1, .int .i64 r8.1, .int .i64 r9.1] 62 (0, 0)) := heap_setCell_same ((((((((((((y9.setCell ⟨w.heap.size, 7, none⟩ (.int .i64 r7.1)).setCell ⟨w.heap.size, 8, none⟩ (.int .i64 r8.1)).setCell ⟨w.heap.size, 9, none⟩ (.int .i64 r9.1)).setCell ⟨w.heap.size, 0, none⟩ (.int .i64 r0.1)).setCell ⟨w.heap.size, 1, none⟩ (.int .i64 r1.1)).setCell ⟨w.heap.size, 2, none⟩ (.int .i64 r2.1)).setCell ⟨w.heap.size, 3, none⟩ (.int .i64 r3.1)).setCell ⟨w.heap.size, 4, none⟩ (.int .i64 r4.1)).setCell ⟨w.heap.size, 5, none⟩ (.int .i64 r5.1)).setCell ⟨w.heap.size, 6, none⟩ (.int .i64 r6.1)).setCell ⟨w.heap.size, 7, none⟩ (.int .i64 r7.1)).setCell ⟨w.heap.size, 8, none⟩ (.int .i64 r8.1)) w.heap.size 9 _ _ _ hB
 have hA' := hA.set hlt 9 (.int .i64 r9.1)
 have hG' := gb_set hG (Nat.le_refl _) 9 (.int .i64 r9.1)
 clear hA hB hG
 have hA := hA'
 have hB := hB'
 have hG := hG'
 clear hA' hB' hG'
 refine bodyPost_ret (results_cell_row (p := 2) (ty := 62) rfl _ _ w.heap.size 62 #[.int .i64 r0.1, .int .i64 r1.1, .int .i64 r2.1, .int .i64 r3.1, .int .i64 r4.1, .int .i64 r5.1, .int .i64 r6.1, .int .i64 r7.1, .int .i64 r8.1, .int .i64 r9.1] (0, 0) _ rfl hB Tryz.underlying62 rfl (by kernel_rfl)) rfl ?_
 have HV' := HV.out
 have q9 := hr9.out
 clear hr9
 subst q9
 have q8 := hr8.out
 clear hr8
 subst q8
 have q7 := hr7.out
 clear hr7
 subst q7
 have q6 := hr6.out
 clear hr6
 subst q6
 have q5 := hr5.out
 clear hr5
 subst q5
 have q4 := hr4.out
 clear hr4
 subst q4
 have q3 := hr3.out
 clear hr3
 subst q3
 have q2 := hr2.out
 clear hr2
 subst q2
 have q1 := hr1.out
 clear hr1
 subst q1
 have q0 := hr0.out
 clear hr0
 subst q0
 subst HV'
 exact ⟨rfl, hA, hG⟩

set_option maxRecDepth 100000 in
set_option maxHeartbeats 4000000 in
theorem rhop_any (w : World) (rb : Nat) (a : Option Addr) (n c : Nat) (xs : List Int) (st : RS) (h : RdAt 73 (fun b => b) w rb a n c xs st) :
  Calls Tryz.prog 28 #[.pointer (some ⟨rb, 0, none⟩)] w fun e w' => e = .returned (.agg (hpC (rdHp xs st).1).toArray) ∧ RdAt 73 (fun b => b) w' rb a n c xs (rdHp xs st).2 ∧ w.grownBy w' (some rb) := by
 have hlt := h.lt
 have N := Lib.hid (fun (W : World) (s : RS) (h : RdAt 73 (fun b => b) W rb a n c xs s) => rnumber_any W rb a n c xs s h)
 have SP := Lib.hid (fun (W : World) (s : RS) (h : RdAt 73 (fun b => b) W rb a n c xs s) => rspot_any W rb a n c xs s h)
 have UP := Lib.hid (fun (W : World) (s : RS) (h : RdAt 73 (fun b => b) W rb a n c xs s) => rup_any 1 W rb a n c xs s h)
 have hA := h.alloc (.cells #[.int .i64 0, .int .i64 0, .int .i64 0, .int .i64 0, .int .i64 0, .int .i64 0, .int .i64 0, .bool false, .int .i64 0, .int .i64 0] 69)
 have hB := World.alloc_heap_new w (.cells #[.int .i64 0, .int .i64 0, .int .i64 0, .int .i64 0, .int .i64 0, .int .i64 0, .int .i64 0, .bool false, .int .i64 0, .int .i64 0] 69)
 have hG := World.grownBy_alloc w (.cells #[.int .i64 0, .int .i64 0, .int .i64 0, .int .i64 0, .int .i64 0, .int .i64 0, .int .i64 0, .bool false, .int .i64 0, .int .i64 0] 69) (some rb)
 clear h
 obtain ⟨V, HV⟩ : ∃ V, Hid (V = rdHp xs st) := ⟨_, rfl⟩
 rw [← HV.out]
 go_enter Tryz.func28, Tryz.ntmps28
 obtain ⟨r0, hr0⟩ : ∃ r, Hid (r = rdNum xs st) := ⟨_, rfl⟩
 have C := N.out _ _ hA
 rw [← hr0.out] at C
 go_wp2_with fail
 refine C.mono ?_
 rintro e y0 ⟨rfl, hA', hg'⟩
 have hB' := blk_keep hg' hB hlt
 have hG' := hG.trans hg'
 clear C hA hB hG hg'
 have hA := hA'
 have hB := hB'
 have hG := hG'
 clear hA' hB' hG'
 have e0 := cell_heap (k := 0) (v := .int .i64 0) hB rfl
 have e1 := blk_frozen (j := 0) hB
 have hB' : (y0.setCell ⟨w.heap.size, 0, none⟩ (.int .i64 r0.1)).heap[w.heap.size]? = some (.cells #[.int .i64 r0.1, .int .i64 0, .int .i64 0, .int .i64 0, .int .i64 0, .int .i64 0, .int .i64 0, .bool false, .int .i64 0, .int .i64 0] 69 (0, 0)) := heap_setCell_same y0 w.heap.size 0 _ _ _ hB
 have hA' := hA.set hlt 0 (.int .i64 r0.1)
 have hG' := gb_set hG (Nat.le_refl _) 0 (.int .i64 r0.1)
 clear hA hB hG
 have hA := hA'
 have hB := hB'
 have hG := hG'
 clear hA' hB' hG'
 obtain ⟨r1, hr1⟩ : ∃ r, Hid (r = rdSpt xs r0.2) := ⟨_, rfl⟩
 have C := SP.out _ _ hA
 rw [← hr1.out] at C
 go_wp2_with fail
 refine C.mono ?_
 rintro e y1 ⟨rfl, hA', hg'⟩
 have hB' := blk_keep hg' hB hlt
 have hG' := hG.trans hg'
 clear C hA hB hG hg' e0 e1
 have hA := hA'
 have hB := hB'
 have hG := hG'
 clear hA' hB' hG'
 obtain ⟨r2, hr2⟩ : ∃ r, Hid (r = rdSpt xs r1.2) := ⟨_, rfl⟩
 have C := SP.out _ _ hA
 rw [← hr2.out] at C
 go_wp2_with fail
 refine C.mono ?_
 rintro e y2 ⟨rfl, hA', hg'⟩
 have hB' := blk_keep hg' hB hlt
 have hG' := hG.trans hg'
 clear C hA hB hG hg'
 have hA := hA'
 have hB := hB'
 have hG := hG'
 clear hA' hB' hG'
 have e0 := cell_heap (k := 1) (v := .int .i64 0) hB rfl
 have e1 := blk_frozen (j := 1) hB
 have hB' : (y2.setCell ⟨w.heap.size, 1, none⟩ (.int .i64 r1.1.x)).heap[w.heap.size]? = some (.cells #[.int .i64 r0.1, .int .i64 r1.1.x, .int .i64 0, .int .i64 0, .int .i64 0, .int .i64 0, .int .i64 0, .bool false, .int .i64 0, .int .i64 0] 69 (0, 0)) := heap_setCell_same y2 w.heap.size 1 _ _ _ hB
 have hA' := hA.set hlt 1 (.int .i64 r1.1.x)
 have hG' := gb_set hG (Nat.le_refl _) 1 (.int .i64 r1.1.x)
 clear hA hB hG
 have hA := hA'
 have hB := hB'
 have hG := hG'
 clear hA' hB' hG'
 have e2 := cell_heap (k := 2) (v := .int .i64 0) hB rfl
 have e3 := blk_frozen (j := 2) hB
 have hB' : ((y2.setCell ⟨w.heap.size, 1, none⟩ (.int .i64 r1.1.x)).setCell ⟨w.heap.size, 2, none⟩ (.int .i64 r1.1.z)).heap[w.heap.size]? = some (.cells #[.int .i64 r0.1, .int .i64 r1.1.x, .int .i64 r1.1.z, .int .i64 0, .int .i64 0, .int .i64 0, .int .i64 0, .bool false, .int .i64 0, .int .i64 0] 69 (0, 0)) := heap_setCell_same (y2.setCell ⟨w.heap.size, 1, none⟩ (.int .i64 r1.1.x)) w.heap.size 2 _ _ _ hB
 have hA' := hA.set hlt 2 (.int .i64 r1.1.z)
 have hG' := gb_set hG (Nat.le_refl _) 2 (.int .i64 r1.1.z)
 clear hA hB hG
 have hA := hA'
 have hB := hB'
 have hG := hG'
 clear hA' hB' hG'
 have e4 := cell_heap (k := 3) (v := .int .i64 0) hB rfl
 have e5 := blk_frozen (j := 3) hB
 have hB' : (((y2.setCell ⟨w.heap.size, 1, none⟩ (.int .i64 r1.1.x)).setCell ⟨w.heap.size, 2, none⟩ (.int .i64 r1.1.z)).setCell ⟨w.heap.size, 3, none⟩ (.int .i64 r1.1.y)).heap[w.heap.size]? = some (.cells #[.int .i64 r0.1, .int .i64 r1.1.x, .int .i64 r1.1.z, .int .i64 r1.1.y, .int .i64 0, .int .i64 0, .int .i64 0, .bool false, .int .i64 0, .int .i64 0] 69 (0, 0)) := heap_setCell_same ((y2.setCell ⟨w.heap.size, 1, none⟩ (.int .i64 r1.1.x)).setCell ⟨w.heap.size, 2, none⟩ (.int .i64 r1.1.z)) w.heap.size 3 _ _ _ hB
 have hA' := hA.set hlt 3 (.int .i64 r1.1.y)
 have hG' := gb_set hG (Nat.le_refl _) 3 (.int .i64 r1.1.y)
 clear hA hB hG
 have hA := hA'
 have hB := hB'
 have hG := hG'
 clear hA' hB' hG'
 have e6 := cell_heap (k := 4) (v := .int .i64 0) hB rfl
 have e7 := blk_frozen (j := 4) hB
 have hB' : ((((y2.setCell ⟨w.heap.size, 1, none⟩ (.int .i64 r1.1.x)).setCell ⟨w.heap.size, 2, none⟩ (.int .i64 r1.1.z)).setCell ⟨w.heap.size, 3, none⟩ (.int .i64 r1.1.y)).setCell ⟨w.heap.size, 4, none⟩ (.int .i64 r2.1.x)).heap[w.heap.size]? = some (.cells #[.int .i64 r0.1, .int .i64 r1.1.x, .int .i64 r1.1.z, .int .i64 r1.1.y, .int .i64 r2.1.x, .int .i64 0, .int .i64 0, .bool false, .int .i64 0, .int .i64 0] 69 (0, 0)) := heap_setCell_same (((y2.setCell ⟨w.heap.size, 1, none⟩ (.int .i64 r1.1.x)).setCell ⟨w.heap.size, 2, none⟩ (.int .i64 r1.1.z)).setCell ⟨w.heap.size, 3, none⟩ (.int .i64 r1.1.y)) w.heap.size 4 _ _ _ hB
 have hA' := hA.set hlt 4 (.int .i64 r2.1.x)
 have hG' := gb_set hG (Nat.le_refl _) 4 (.int .i64 r2.1.x)
 clear hA hB hG
 have hA := hA'
 have hB := hB'
 have hG := hG'
 clear hA' hB' hG'
 have e8 := cell_heap (k := 5) (v := .int .i64 0) hB rfl
 have e9 := blk_frozen (j := 5) hB
 have hB' : (((((y2.setCell ⟨w.heap.size, 1, none⟩ (.int .i64 r1.1.x)).setCell ⟨w.heap.size, 2, none⟩ (.int .i64 r1.1.z)).setCell ⟨w.heap.size, 3, none⟩ (.int .i64 r1.1.y)).setCell ⟨w.heap.size, 4, none⟩ (.int .i64 r2.1.x)).setCell ⟨w.heap.size, 5, none⟩ (.int .i64 r2.1.z)).heap[w.heap.size]? = some (.cells #[.int .i64 r0.1, .int .i64 r1.1.x, .int .i64 r1.1.z, .int .i64 r1.1.y, .int .i64 r2.1.x, .int .i64 r2.1.z, .int .i64 0, .bool false, .int .i64 0, .int .i64 0] 69 (0, 0)) := heap_setCell_same ((((y2.setCell ⟨w.heap.size, 1, none⟩ (.int .i64 r1.1.x)).setCell ⟨w.heap.size, 2, none⟩ (.int .i64 r1.1.z)).setCell ⟨w.heap.size, 3, none⟩ (.int .i64 r1.1.y)).setCell ⟨w.heap.size, 4, none⟩ (.int .i64 r2.1.x)) w.heap.size 5 _ _ _ hB
 have hA' := hA.set hlt 5 (.int .i64 r2.1.z)
 have hG' := gb_set hG (Nat.le_refl _) 5 (.int .i64 r2.1.z)
 clear hA hB hG
 have hA := hA'
 have hB := hB'
 have hG := hG'
 clear hA' hB' hG'
 have e10 := cell_heap (k := 6) (v := .int .i64 0) hB rfl
 have e11 := blk_frozen (j := 6) hB
 have hB' : ((((((y2.setCell ⟨w.heap.size, 1, none⟩ (.int .i64 r1.1.x)).setCell ⟨w.heap.size, 2, none⟩ (.int .i64 r1.1.z)).setCell ⟨w.heap.size, 3, none⟩ (.int .i64 r1.1.y)).setCell ⟨w.heap.size, 4, none⟩ (.int .i64 r2.1.x)).setCell ⟨w.heap.size, 5, none⟩ (.int .i64 r2.1.z)).setCell ⟨w.heap.size, 6, none⟩ (.int .i64 r2.1.y)).heap[w.heap.size]? = some (.cells #[.int .i64 r0.1, .int .i64 r1.1.x, .int .i64 r1.1.z, .int .i64 r1.1.y, .int .i64 r2.1.x, .int .i64 r2.1.z, .int .i64 r2.1.y, .bool false, .int .i64 0, .int .i64 0] 69 (0, 0)) := heap_setCell_same (((((y2.setCell ⟨w.heap.size, 1, none⟩ (.int .i64 r1.1.x)).setCell ⟨w.heap.size, 2, none⟩ (.int .i64 r1.1.z)).setCell ⟨w.heap.size, 3, none⟩ (.int .i64 r1.1.y)).setCell ⟨w.heap.size, 4, none⟩ (.int .i64 r2.1.x)).setCell ⟨w.heap.size, 5, none⟩ (.int .i64 r2.1.z)) w.heap.size 6 _ _ _ hB
 have hA' := hA.set hlt 6 (.int .i64 r2.1.y)
 have hG' := gb_set hG (Nat.le_refl _) 6 (.int .i64 r2.1.y)
 clear hA hB hG
 have hA := hA'
 have hB := hB'
 have hG := hG'
 clear hA' hB' hG'
 obtain ⟨r3, hr3⟩ : ∃ r, Hid (r = rdUp xs 1 r2.2) := ⟨_, rfl⟩
 have C := UP.out _ _ hA
 rw [← hr3.out] at C
 go_wp2_with fail
 refine C.mono ?_
 rintro e y3 ⟨rfl, hA', hg'⟩
 have hB' := blk_keep hg' hB hlt
 have hG' := hG.trans hg'
 clear C hA hB hG hg' e0 e1 e2 e3 e4 e5 e6 e7 e8 e9 e10 e11
 have hA := hA'
 have hB := hB'
 have hG := hG'
 clear hA' hB' hG'
 have e0 := cell_heap (k := 7) (v := .bool false) hB rfl
 have e1 := blk_frozen (j := 7) hB
 have hB' : (y3.setCell ⟨w.heap.size, 7, none⟩ (.bool (decide (r3.1 = 1)))).heap[w.heap.size]? = some (.cells #[.int .i64 r0.1, .int .i64 r1.1.x, .int .i64 r1.1.z, .int .i64 r1.1.y, .int .i64 r2.1.x, .int .i64 r2.1.z, .int .i64 r2.1.y, .bool (decide (r3.1 = 1)), .int .i64 0, .int .i64 0] 69 (0, 0)) := heap_setCell_same y3 w.heap.size 7 _ _ _ hB
 have hA' := hA.set hlt 7 (.bool (decide (r3.1 = 1)))
 have hG' := gb_set hG (Nat.le_refl _) 7 (.bool (decide (r3.1 = 1)))
 clear hA hB hG
 have hA := hA'
 have hB := hB'
 have hG := hG'
 clear hA' hB' hG'
 obtain ⟨r4, hr4⟩ : ∃ r, Hid (r = rdNum xs r3.2) := ⟨_, rfl⟩
 have C := N.out _ _ hA
 rw [← hr4.out] at C
 go_wp2_with fail
 refine C.mono ?_
 rintro e y4 ⟨rfl, hA', hg'⟩
 have hB' := blk_keep hg' hB hlt
 have hG' := hG.trans hg'
 clear C hA hB hG hg' e0 e1
 have hA := hA'
 have hB := hB'
 have hG := hG'
 clear hA' hB' hG'
 obtain ⟨r5, hr5⟩ : ∃ r, Hid (r = rdNum xs r4.2) := ⟨_, rfl⟩
 have C := N.out _ _ hA
 rw [← hr5.out] at C
 go_wp2_with fail
 refine C.mono ?_
 rintro e y5 ⟨rfl, hA', hg'⟩
 have hB' := blk_keep hg' hB hlt
 have hG' := hG.trans hg'
 clear C hA hB hG hg'
 have hA := hA'
 have hB := hB'
 have hG := hG'
 clear hA' hB' hG'
 have e0 := cell_heap (k := 8) (v := .int .i64 0) hB rfl
 have e1 := blk_frozen (j := 8) hB
 have hB' : (y5.setCell ⟨w.heap.size, 8, none⟩ (.int .i64 r4.1)).heap[w.heap.size]? = some (.cells #[.int .i64 r0.1, .int .i64 r1.1.x, .int .i64 r1.1.z, .int .i64 r1.1.y, .int .i64 r2.1.x, .int .i64 r2.1.z, .int .i64 r2.1.y, .bool (decide (r3.1 = 1)), .int .i64 r4.1, .int .i64 0] 69 (0, 0)) := heap_setCell_same y5 w.heap.size 8 _ _ _ hB
 have hA' := hA.set hlt 8 (.int .i64 r4.1)
 have hG' := gb_set hG (Nat.le_refl _) 8 (.int .i64 r4.1)
 clear hA hB hG
 have hA := hA'
 have hB := hB'
 have hG := hG'
 clear hA' hB' hG'
 have e2 := cell_heap (k := 9) (v := .int .i64 0) hB rfl
 have e3 := blk_frozen (j := 9) hB
 have hB' : ((y5.setCell ⟨w.heap.size, 8, none⟩ (.int .i64 r4.1)).setCell ⟨w.heap.size, 9, none⟩ (.int .i64 r5.1)).heap[w.heap.size]? = some (.cells #[.int .i64 r0.1, .int .i64 r1.1.x, .int .i64 r1.1.z, .int .i64 r1.1.y, .int .i64 r2.1.x, .int .i64 r2.1.z, .int .i64 r2.1.y, .bool (decide (r3.1 = 1)), .int .i64 r4.1, .int .i64 r5.1] 69 (0, 0)) := heap_setCell_same (y5.setCell ⟨w.heap.size, 8, none⟩ (.int .i64 r4.1)) w.heap.size 9 _ _ _ hB
 have hA' := hA.set hlt 9 (.int .i64 r5.1)
 have hG' := gb_set hG (Nat.le_refl _) 9 (.int .i64 r5.1)
 clear hA hB hG
 have hA := hA'
 have hB := hB'
 have hG := hG'
 clear hA' hB' hG'
 have e4 := cell_heap (k := 0) (v := .int .i64 r0.1) hB rfl
 have e5 := blk_frozen (j := 0) hB
 have e6 := cell_heap (k := 1) (v := .int .i64 r1.1.x) hB rfl
 have e7 := blk_frozen (j := 1) hB
 have e8 := cell_heap (k := 2) (v := .int .i64 r1.1.z) hB rfl
 have e9 := blk_frozen (j := 2) hB
 have e10 := cell_heap (k := 3) (v := .int .i64 r1.1.y) hB rfl
 have e11 := blk_frozen (j := 3) hB
 have e12 := cell_heap (k := 4) (v := .int .i64 r2.1.x) hB rfl
 have e13 := blk_frozen (j := 4) hB
 have e14 := cell_heap (k := 5) (v := .int .i64 r2.1.z) hB rfl
 have e15 := blk_frozen (j := 5) hB
 have e16 := cell_heap (k := 6) (v := .int .i64 r2.1.y) hB rfl
 have e17 := blk_frozen (j := 6) hB
 have e18 := cell_heap (k := 7) (v := .bool (decide (r3.1 = 1))) hB rfl
 have e19 := blk_frozen (j := 7) hB
 have e20 := cell_heap (k := 8) (v := .int .i64 r4.1) hB rfl
 have e21 := blk_frozen (j := 8) hB
 have e22 := cell_heap (k := 9) (v := .int .i64 r5.1) hB rfl
 have e23 := blk_frozen (j := 9) hB
 go_wp2
 have hB' : (((y5.setCell ⟨w.heap.size, 8, none⟩ (.int .i64 r4.1)).setCell ⟨w.heap.size, 9, none⟩ (.int .i64 r5.1)).setCell ⟨w.heap.size, 0, none⟩ (.int .i64 r0.1)).heap[w.heap.size]? = some (.cells #[.int .i64 r0.1, .int .i64 r1.1.x, .int .i64 r1.1.z, .int .i64 r1.1.y, .int .i64 r2.1.x, .int .i64 r2.1.z, .int .i64 r2.1.y, .bool (decide (r3.1 = 1)), .int .i64 r4.1, .int .i64 r5.1] 69 (0, 0)) := heap_setCell_same ((y5.setCell ⟨w.heap.size, 8, none⟩ (.int .i64 r4.1)).setCell ⟨w.heap.size, 9, none⟩ (.int .i64 r5.1)) w.heap.size 0 _ _ _ hB
 have hA' := hA.set hlt 0 (.int .i64 r0.1)
 have hG' := gb_set hG (Nat.le_refl _) 0 (.int .i64 r0.1)
 clear hA hB hG
 have hA := hA'
 have hB := hB'
 have hG := hG'
 clear hA' hB' hG'
 have hB' : ((((y5.setCell ⟨w.heap.size, 8, none⟩ (.int .i64 r4.1)).setCell ⟨w.heap.size, 9, none⟩ (.int .i64 r5.1)).setCell ⟨w.heap.size, 0, none⟩ (.int .i64 r0.1)).setCell ⟨w.heap.size, 1, none⟩ (.int .i64 r1.1.x)).heap[w.heap.size]? = some (.cells #[.int .i64 r0.1, .int .i64 r1.1.x, .int .i64 r1.1.z, .int .i64 r1.1.y, .int .i64 r2.1.x, .int .i64 r2.1.z, .int .i64 r2.1.y, .bool (decide (r3.1 = 1)), .int .i64 r4.1, .int .i64 r5.1] 69 (0, 0)) := heap_setCell_same (((y5.setCell ⟨w.heap.size, 8, none⟩ (.int .i64 r4.1)).setCell ⟨w.heap.size, 9, none⟩ (.int .i64 r5.1)).setCell ⟨w.heap.size, 0, none⟩ (.int .i64 r0.1)) w.heap.size 1 _ _ _ hB
 have hA' := hA.set hlt 1 (.int .i64 r1.1.x)
 have hG' := gb_set hG (Nat.le_refl _) 1 (.int .i64 r1.1.x)
 clear hA hB hG
 have hA := hA'
 have hB := hB'
 have hG := hG'
 clear hA' hB' hG'
 have hB' : (((((y5.setCell ⟨w.heap.size, 8, none⟩ (.int .i64 r4.1)).setCell ⟨w.heap.size, 9, none⟩ (.int .i64 r5.1)).setCell ⟨w.heap.size, 0, none⟩ (.int .i64 r0.1)).setCell ⟨w.heap.size, 1, none⟩ (.int .i64 r1.1.x)).setCell ⟨w.heap.size, 2, none⟩ (.int .i64 r1.1.z)).heap[w.heap.size]? = some (.cells #[.int .i64 r0.1, .int .i64 r1.1.x, .int .i64 r1.1.z, .int .i64 r1.1.y, .int .i64 r2.1.x, .int .i64 r2.1.z, .int .i64 r2.1.y, .bool (decide (r3.1 = 1)), .int .i64 r4.1, .int .i64 r5.1] 69 (0, 0)) := heap_setCell_same ((((y5.setCell ⟨w.heap.size, 8, none⟩ (.int .i64 r4.1)).setCell ⟨w.heap.size, 9, none⟩ (.int .i64 r5.1)).setCell ⟨w.heap.size, 0, none⟩ (.int .i64 r0.1)).setCell ⟨w.heap.size, 1, none⟩ (.int .i64 r1.1.x)) w.heap.size 2 _ _ _ hB
 have hA' := hA.set hlt 2 (.int .i64 r1.1.z)
 have hG' := gb_set hG (Nat.le_refl _) 2 (.int .i64 r1.1.z)
 clear hA hB hG
 have hA := hA'
 have hB := hB'
 have hG := hG'
 clear hA' hB' hG'
 have hB' : ((((((y5.setCell ⟨w.heap.size, 8, none⟩ (.int .i64 r4.1)).setCell ⟨w.heap.size, 9, none⟩ (.int .i64 r5.1)).setCell ⟨w.heap.size, 0, none⟩ (.int .i64 r0.1)).setCell ⟨w.heap.size, 1, none⟩ (.int .i64 r1.1.x)).setCell ⟨w.heap.size, 2, none⟩ (.int .i64 r1.1.z)).setCell ⟨w.heap.size, 3, none⟩ (.int .i64 r1.1.y)).heap[w.heap.size]? = some (.cells #[.int .i64 r0.1, .int .i64 r1.1.x, .int .i64 r1.1.z, .int .i64 r1.1.y, .int .i64 r2.1.x, .int .i64 r2.1.z, .int .i64 r2.1.y, .bool (decide (r3.1 = 1)), .int .i64 r4.1, .int .i64 r5.1] 69 (0, 0)) := heap_setCell_same (((((y5.setCell ⟨w.heap.size, 8, none⟩ (.int .i64 r4.1)).setCell ⟨w.heap.size, 9, none⟩ (.int .i64 r5.1)).setCell ⟨w.heap.size, 0, none⟩ (.int .i64 r0.1)).setCell ⟨w.heap.size, 1, none⟩ (.int .i64 r1.1.x)).setCell ⟨w.heap.size, 2, none⟩ (.int .i64 r1.1.z)) w.heap.size 3 _ _ _ hB
 have hA' := hA.set hlt 3 (.int .i64 r1.1.y)
 have hG' := gb_set hG (Nat.le_refl _) 3 (.int .i64 r1.1.y)
 clear hA hB hG
 have hA := hA'
 have hB := hB'
 have hG := hG'
 clear hA' hB' hG'
 have hB' : (((((((y5.setCell ⟨w.heap.size, 8, none⟩ (.int .i64 r4.1)).setCell ⟨w.heap.size, 9, none⟩ (.int .i64 r5.1)).setCell ⟨w.heap.size, 0, none⟩ (.int .i64 r0.1)).setCell ⟨w.heap.size, 1, none⟩ (.int .i64 r1.1.x)).setCell ⟨w.heap.size, 2, none⟩ (.int .i64 r1.1.z)).setCell ⟨w.heap.size, 3, none⟩ (.int .i64 r1.1.y)).setCell ⟨w.heap.size, 4, none⟩ (.int .i64 r2.1.x)).heap[w.heap.size]? = some (.cells #[.int .i64 r0.1, .int .i64 r1.1.x, .int .i64 r1.1.z, .int .i64 r1.1.y, .int .i64 r2.1.x, .int .i64 r2.1.z, .int .i64 r2.1.y, .bool (decide (r3.1 = 1)), .int .i64 r4.1, .int .i64 r5.1] 69 (0, 0)) := heap_setCell_same ((((((y5.setCell ⟨w.heap.size, 8, none⟩ (.int .i64 r4.1)).setCell ⟨w.heap.size, 9, none⟩ (.int .i64 r5.1)).setCell ⟨w.heap.size, 0, none⟩ (.int .i64 r0.1)).setCell ⟨w.heap.size, 1, none⟩ (.int .i64 r1.1.x)).setCell ⟨w.heap.size, 2, none⟩ (.int .i64 r1.1.z)).setCell ⟨w.heap.size, 3, none⟩ (.int .i64 r1.1.y)) w.heap.size 4 _ _ _ hB
 have hA' := hA.set hlt 4 (.int .i64 r2.1.x)
 have hG' := gb_set hG (Nat.le_refl _) 4 (.int .i64 r2.1.x)
 clear hA hB hG
 have hA := hA'
 have hB := hB'
 have hG := hG'
 clear hA' hB' hG'
 have hB' : ((((((((y5.setCell ⟨w.heap.size, 8, none⟩ (.int .i64 r4.1)).setCell ⟨w.heap.size, 9, none⟩ (.int .i64 r5.1)).setCell ⟨w.heap.size, 0, none⟩ (.int .i64 r0.1)).setCell ⟨w.heap.size, 1, none⟩ (.int .i64 r1.1.x)).setCell ⟨w.heap.size, 2, none⟩ (.int .i64 r1.1.z)).setCell ⟨w.heap.size, 3, none⟩ (.int .i64 r1.1.y)).setCell ⟨w.heap.size, 4, none⟩ (.int .i64 r2.1.x)).setCell ⟨w.heap.size, 5, none⟩ (.int .i64 r2.1.z)).heap[w.heap.size]? = some (.cells #[.int .i64 r0.1, .int .i64 r1.1.x, .int .i64 r1.1.z, .int .i64 r1.1.y, .int .i64 r2.1.x, .int .i64 r2.1.z, .int .i64 r2.1.y, .bool (decide (r3.1 = 1)), .int .i64 r4.1, .int .i64 r5.1] 69 (0, 0)) := heap_setCell_same (((((((y5.setCell ⟨w.heap.size, 8, none⟩ (.int .i64 r4.1)).setCell ⟨w.heap.size, 9, none⟩ (.int .i64 r5.1)).setCell ⟨w.heap.size, 0, none⟩ (.int .i64 r0.1)).setCell ⟨w.heap.size, 1, none⟩ (.int .i64 r1.1.x)).setCell ⟨w.heap.size, 2, none⟩ (.int .i64 r1.1.z)).setCell ⟨w.heap.size, 3, none⟩ (.int .i64 r1.1.y)).setCell ⟨w.heap.size, 4, none⟩ (.int .i64 r2.1.x)) w.heap.size 5 _ _ _ hB
 have hA' := hA.set hlt 5 (.int .i64 r2.1.z)
 have hG' := gb_set hG (Nat.le_refl _) 5 (.int .i64 r2.1.z)
 clear hA hB hG
 have hA := hA'
 have hB := hB'
 have hG := hG'
 clear hA' hB' hG'
 have hB' : (((((((((y5.setCell ⟨w.heap.size, 8, none⟩ (.int .i64 r4.1)).setCell ⟨w.heap.size, 9, none⟩ (.int .i64 r5.1)).setCell ⟨w.heap.size, 0, none⟩ (.int .i64 r0.1)).setCell ⟨w.heap.size, 1, none⟩ (.int .i64 r1.1.x)).setCell ⟨w.heap.size, 2, none⟩ (.int .i64 r1.1.z)).setCell ⟨w.heap.size, 3, none⟩ (.int .i64 r1.1.y)).setCell ⟨w.heap.size, 4, none⟩ (.int .i64 r2.1.x)).setCell ⟨w.heap.size, 5, none⟩ (.int .i64 r2.1.z)).setCell ⟨w.heap.size, 6, none⟩ (.int .i64 r2.1.y)).heap[w.heap.size]? = some (.cells #[.int .i64 r0.1, .int .i64 r1.1.x, .int .i64 r1.1.z, .int .i64 r1.1.y, .int .i64 r2.1.x, .int .i64 r2.1.z, .int .i64 r2.1.y, .bool (decide (r3.1 = 1)), .int .i64 r4.1, .int .i64 r5.1] 69 (0, 0)) := heap_setCell_same ((((((((y5.setCell ⟨w.heap.size, 8, none⟩ (.int .i64 r4.1)).setCell ⟨w.heap.size, 9, none⟩ (.int .i64 r5.1)).setCell ⟨w.heap.size, 0, none⟩ (.int .i64 r0.1)).setCell ⟨w.heap.size, 1, none⟩ (.int .i64 r1.1.x)).setCell ⟨w.heap.size, 2, none⟩ (.int .i64 r1.1.z)).setCell ⟨w.heap.size, 3, none⟩ (.int .i64 r1.1.y)).setCell ⟨w.heap.size, 4, none⟩ (.int .i64 r2.1.x)).setCell ⟨w.heap.size, 5, none⟩ (.int .i64 r2.1.z)) w.heap.size 6 _ _ _ hB
 have hA' := hA.set hlt 6 (.int .i64 r2.1.y)
 have hG' := gb_set hG (Nat.le_refl _) 6 (.int .i64 r2.1.y)
 clear hA hB hG
 have hA := hA'
 have hB := hB'
 have hG := hG'
 clear hA' hB' hG'
 have hB' : ((((((((((y5.setCell ⟨w.heap.size, 8, none⟩ (.int .i64 r4.1)).setCell ⟨w.heap.size, 9, none⟩ (.int .i64 r5.1)).setCell ⟨w.heap.size, 0, none⟩ (.int .i64 r0.1)).setCell ⟨w.heap.size, 1, none⟩ (.int .i64 r1.1.x)).setCell ⟨w.heap.size, 2, none⟩ (.int .i64 r1.1.z)).setCell ⟨w.heap.size, 3, none⟩ (.int .i64 r1.1.y)).setCell ⟨w.heap.size, 4, none⟩ (.int .i64 r2.1.x)).setCell ⟨w.heap.size, 5, none⟩ (.int .i64 r2.1.z)).setCell ⟨w.heap.size, 6, none⟩ (.int .i64 r2.1.y)).setCell ⟨w.heap.size, 7, none⟩ (.bool (decide (r3.1 = 1)))).heap[w.heap.size]? = some (.cells #[.int .i64 r0.1, .int .i64 r1.1.x, .int .i64 r1.1.z, .int .i64 r1.1.y, .int .i64 r2.1.x, .int .i64 r2.1.z, .int .i64 r2.1.y, .bool (decide (r3.1 = 1)), .int .i64 r4.1, .int .i64 r5.1] 69 (0, 0)) := heap_setCell_same (((((((((y5.setCell ⟨w.heap.size, 8, none⟩ (.int .i64 r4.1)).setCell ⟨w.heap.size, 9, none⟩ (.int .i64 r5.1)).setCell ⟨w.heap.size, 0, none⟩ (.int .i64 r0.1)).setCell ⟨w.heap.size, 1, none⟩ (.int .i64 r1.1.x)).setCell ⟨w.heap.size, 2, none⟩ (.int .i64 r1.1.z)).setCell ⟨w.heap.size, 3, none⟩ (.int .i64 r1.1.y)).setCell ⟨w.heap.size, 4, none⟩ (.int .i64 r2.1.x)).setCell ⟨w.heap.size, 5, none⟩ (.int .i64 r2.1.z)).setCell ⟨w.heap.size, 6, none⟩ (.int .i64 r2.1.y)) w.heap.size 7 _ _ _ hB
 have hA' := hA.set hlt 7 (.bool (decide (r3.1 = 1)))
 have hG' := gb_set hG (Nat.le_refl _) 7 (.bool (decide (r3.1 = 1)))
 clear hA hB hG
 have hA := hA'
 have hB := hB'
 have hG := hG'
 clear hA' hB' hG'
 have hB' : (((((((((((y5.setCell ⟨w.heap.size, 8, none⟩ (.int .i64 r4.1)).setCell ⟨w.heap.size, 9, none⟩ (.int .i64 r5.1)).setCell ⟨w.heap.size, 0, none⟩ (.int .i64 r0.1)).setCell ⟨w.heap.size, 1, none⟩ (.int .i64 r1.1.x)).setCell ⟨w.heap.size, 2, none⟩ (.int .i64 r1.1.z)).setCell ⟨w.heap.size, 3, none⟩ (.int .i64 r1.1.y)).setCell ⟨w.heap.size, 4, none⟩ (.int .i64 r2.1.x)).setCell ⟨w.heap.size, 5, none⟩ (.int .i64 r2.1.z)).setCell ⟨w.heap.size, 6, none⟩ (.int .i64 r2.1.y)).setCell ⟨w.heap.size, 7, none⟩ (.bool (decide (r3.1 = 1)))).setCell ⟨w.heap.size, 8, none⟩ (.int .i64 r4.1)).heap[w.heap.size]? = some (.cells #[.int .i64 r0.1, .int .i64 r1.1.x, .int .i64 r1.1.z, .int .i64 r1.1.y, .int .i64 r2.1.x, .int .i64 r2.1.z, .int .i64 r2.1.y, .bool (decide (r3.1 = 1)), .int .i64 r4.1, .int .i64 r5.1] 69 (0, 0)) := heap_setCell_same ((((((((((y5.setCell ⟨w.heap.size, 8, none⟩ (.int .i64 r4.1)).setCell ⟨w.heap.size, 9, none⟩ (.int .i64 r5.1)).setCell ⟨w.heap.size, 0, none⟩ (.int .i64 r0.1)).setCell ⟨w.heap.size, 1, none⟩ (.int .i64 r1.1.x)).setCell ⟨w.heap.size, 2, none⟩ (.int .i64 r1.1.z)).setCell ⟨w.heap.size, 3, none⟩ (.int .i64 r1.1.y)).setCell ⟨w.heap.size, 4, none⟩ (.int .i64 r2.1.x)).setCell ⟨w.heap.size, 5, none⟩ (.int .i64 r2.1.z)).setCell ⟨w.heap.size, 6, none⟩ (.int .i64 r2.1.y)).setCell ⟨w.heap.size, 7, none⟩ (.bool (decide (r3.1 = 1)))) w.heap.size 8 _ _ _ hB
 have hA' := hA.set hlt 8 (.int .i64 r4.1)
 have hG' := gb_set hG (Nat.le_refl _) 8 (.int .i64 r4.1)
 clear hA hB hG
 have hA := hA'
 have hB := hB'
 have hG := hG'
 clear hA' hB' hG'
 have hB' : ((((((((((((y5.setCell ⟨w.heap.size, 8, none⟩ (.int .i64 r4.1)).setCell ⟨w.heap.size, 9, none⟩ (.int .i64 r5.1)).setCell ⟨w.heap.size, 0, none⟩ (.int .i64 r0.1)).setCell ⟨w.heap.size, 1, none⟩ (.int .i64 r1.1.x)).setCell ⟨w.heap.size, 2, none⟩ (.int .i64 r1.1.z)).setCell ⟨w.heap.size, 3, none⟩ (.int .i64 r1.1.y)).setCell ⟨w.heap.size, 4, none⟩ (.int .i64 r2.1.x)).setCell ⟨w.heap.size, 5, none⟩ (.int .i64 r2.1.z)).setCell ⟨w.heap.size, 6, none⟩ (.int .i64 r2.1.y)).setCell ⟨w.heap.size, 7, none⟩ (.bool (decide (r3.1 = 1)))).setCell ⟨w.heap.size, 8, none⟩ (.int .i64 r4.1)).setCell ⟨w.heap.size, 9, none⟩ (.int .i64 r5.1)).heap[w.heap.size]? = some (.cells #[.int .i64 r0.1, .int .i64 r1.1.x, .int .i64 r1.1.z, .int .i64 r1.1.y, .int .i64 r2.1.x, .int .i64 r2.1.z, .int .i64 r2.1.y, .bool (decide (r3.1 = 1)), .int .i64 r4.1, .int .i64 r5.1] 69 (0, 0)) := heap_setCell_same (((((((((((y5.setCell ⟨w.heap.size, 8, none⟩ (.int .i64 r4.1)).setCell ⟨w.heap.size, 9, none⟩ (.int .i64 r5.1)).setCell ⟨w.heap.size, 0, none⟩ (.int .i64 r0.1)).setCell ⟨w.heap.size, 1, none⟩ (.int .i64 r1.1.x)).setCell ⟨w.heap.size, 2, none⟩ (.int .i64 r1.1.z)).setCell ⟨w.heap.size, 3, none⟩ (.int .i64 r1.1.y)).setCell ⟨w.heap.size, 4, none⟩ (.int .i64 r2.1.x)).setCell ⟨w.heap.size, 5, none⟩ (.int .i64 r2.1.z)).setCell ⟨w.heap.size, 6, none⟩ (.int .i64 r2.1.y)).setCell ⟨w.heap.size, 7, none⟩ (.bool (decide (r3.1 = 1)))).setCell ⟨w.heap.size, 8, none⟩ (.int .i64 r4.1)) w.heap.size 9 _ _ _ hB
 have hA' := hA.set hlt 9 (.int .i64 r5.1)
 have hG' := gb_set hG (Nat.le_refl _) 9 (.int .i64 r5.1)
 clear hA hB hG
 have hA := hA'
 have hB := hB'
 have hG := hG'
 clear hA' hB' hG'
 refine bodyPost_ret (results_cell_row (p := 2) (ty := 69) rfl _ _ w.heap.size 69 #[.int .i64 r0.1, .int .i64 r1.1.x, .int .i64 r1.1.z, .int .i64 r1.1.y, .int .i64 r2.1.x, .int .i64 r2.1.z, .int .i64 r2.1.y, .bool (decide (r3.1 = 1)), .int .i64 r4.1, .int .i64 r5.1] (0, 0) _ rfl hB Tryz.underlying69 rfl (by kernel_rfl)) rfl ?_
 have HV' := HV.out
 have q5 := hr5.out
 clear hr5
 subst q5
 have q4 := hr4.out
 clear hr4
 subst q4
 have q3 := hr3.out
 clear hr3
 subst q3
 have q2 := hr2.out
 clear hr2
 subst q2
 have q1 := hr1.out
 clear hr1
 subst q1
 have q0 := hr0.out
 clear hr0
 subst q0
 subst HV'
 exact ⟨rfl, hA, hG⟩

set_option maxRecDepth 100000 in
set_option maxHeartbeats 4000000 in
theorem rbox_any (w : World) (rb : Nat) (a : Option Addr) (n c : Nat) (xs : List Int) (st : RS) (h : RdAt 73 (fun b => b) w rb a n c xs st) :
  Calls Tryz.prog 26 #[.pointer (some ⟨rb, 0, none⟩)] w fun e w' => e = .returned (.agg (bxC (rdBx xs st).1).toArray) ∧ RdAt 73 (fun b => b) w' rb a n c xs (rdBx xs st).2 ∧ w.grownBy w' (some rb) := by
 have hlt := h.lt
 have N := Lib.hid (fun (W : World) (s : RS) (h : RdAt 73 (fun b => b) W rb a n c xs s) => rnumber_any W rb a n c xs s h)
 have SG := Lib.hid (fun (W : World) (s : RS) (h : RdAt 73 (fun b => b) W rb a n c xs s) => rsigned_any W rb a n c xs s h)
 have hA := h.alloc (.cells #[.int .i64 0, .int .i64 0, .int .i64 0, .int .i64 0, .int .i64 0, .int .i64 0, .int .i64 0, .int .i64 0] 65)
 have hB := World.alloc_heap_new w (.cells #[.int .i64 0, .int .i64 0, .int .i64 0, .int .i64 0, .int .i64 0, .int .i64 0, .int .i64 0, .int .i64 0] 65)
 have hG := World.grownBy_alloc w (.cells #[.int .i64 0, .int .i64 0, .int .i64 0, .int .i64 0, .int .i64 0, .int .i64 0, .int .i64 0, .int .i64 0] 65) (some rb)
 clear h
 obtain ⟨V, HV⟩ : ∃ V, Hid (V = rdBx xs st) := ⟨_, rfl⟩
 rw [← HV.out]
 go_enter Tryz.func26, Tryz.ntmps26
 go_wp2_with fail
 have hP : ((w.alloc (.cells #[.int .i64 0, .int .i64 0, .int .i64 0, .int .i64 0, .int .i64 0, .int .i64 0, .int .i64 0, .int .i64 0] 65)).alloc (.cells #[.pointer (some ⟨w.heap.size, 0, none⟩), .pointer (some ⟨w.heap.size, 1, none⟩), .pointer (some ⟨w.heap.size, 2, none⟩), .pointer (some ⟨w.heap.size, 3, none⟩), .pointer (some ⟨w.heap.size, 4, none⟩)] 74)).heap[w.heap.size + 1]? = some (.cells #[.pointer (some ⟨w.heap.size, 0, none⟩), .pointer (some ⟨w.heap.size, 1, none⟩), .pointer (some ⟨w.heap.size, 2, none⟩), .pointer (some ⟨w.heap.size, 3, none⟩), .pointer (some ⟨w.heap.size, 4, none⟩)] 74 (0, 0)) := by simpa only [World.size_alloc] using World.alloc_heap_new (w.alloc (.cells #[.int .i64 0, .int .i64 0, .int .i64 0, .int .i64 0, .int .i64 0, .int .i64 0, .int .i64 0, .int .i64 0] 65)) (.cells #[.pointer (some ⟨w.heap.size, 0, none⟩), .pointer (some ⟨w.heap.size, 1, none⟩), .pointer (some ⟨w.heap.size, 2, none⟩), .pointer (some ⟨w.heap.size, 3, none⟩), .pointer (some ⟨w.heap.size, 4, none⟩)] 74)
 have hA' := hA.alloc (.cells #[.pointer (some ⟨w.heap.size, 0, none⟩), .pointer (some ⟨w.heap.size, 1, none⟩), .pointer (some ⟨w.heap.size, 2, none⟩), .pointer (some ⟨w.heap.size, 3, none⟩), .pointer (some ⟨w.heap.size, 4, none⟩)] 74)
 have hB' := (Below.heap_alloc (w.alloc (.cells #[.int .i64 0, .int .i64 0, .int .i64 0, .int .i64 0, .int .i64 0, .int .i64 0, .int .i64 0, .int .i64 0] 65)) (.cells #[.pointer (some ⟨w.heap.size, 0, none⟩), .pointer (some ⟨w.heap.size, 1, none⟩), .pointer (some ⟨w.heap.size, 2, none⟩), .pointer (some ⟨w.heap.size, 3, none⟩), .pointer (some ⟨w.heap.size, 4, none⟩)] 74) w.heap.size (by simp)).trans hB
 have hG' := gb_alloc hG (.cells #[.pointer (some ⟨w.heap.size, 0, none⟩), .pointer (some ⟨w.heap.size, 1, none⟩), .pointer (some ⟨w.heap.size, 2, none⟩), .pointer (some ⟨w.heap.size, 3, none⟩), .pointer (some ⟨w.heap.size, 4, none⟩)] 74)
 clear hA hB hG
 have hA := hA'
 have hB := hB'
 have hG := hG'
 clear hA' hB' hG'
 refine wp_loop_rounds 6 ?_
 rw [rounds_succ]
 have p0 := cell_heap (k := 0) (v := .pointer (some ⟨w.heap.size, 0, none⟩)) hP rfl
 obtain ⟨r0, hr0⟩ : ∃ r, Hid (r = rdNum xs st) := ⟨_, rfl⟩
 have C := N.out _ _ hA
 rw [← hr0.out] at C
 go_wp2_with fail
 refine C.mono ?_
 rintro e y0 ⟨rfl, hA', hg'⟩
 have hB' := blk_keep hg' hB hlt
 have hG' := hG.trans hg'
 have hP' := blk_keep hg' hP (by omega)
 clear hP
 have hP := hP'
 clear hP'
 clear C hA hB hG hg'
 have hA := hA'
 have hB := hB'
 have hG := hG'
 clear hA' hB' hG'
 clear p0
 have e0 := cell_heap (k := 0) (v := .int .i64 0) hB rfl
 have e1 := blk_frozen (j := 0) hB
 have hB' : (y0.setCell ⟨w.heap.size, 0, none⟩ (.int .i64 r0.1)).heap[w.heap.size]? = some (.cells #[.int .i64 r0.1, .int .i64 0, .int .i64 0, .int .i64 0, .int .i64 0, .int .i64 0, .int .i64 0, .int .i64 0] 65 (0, 0)) := heap_setCell_same y0 w.heap.size 0 _ _ _ hB
 have hA' := hA.set hlt 0 (.int .i64 r0.1)
 have hG' := gb_set hG (Nat.le_refl _) 0 (.int .i64 r0.1)
 have hP' : (y0.setCell ⟨w.heap.size, 0, none⟩ (.int .i64 r0.1)).heap[w.heap.size + 1]? = some (.cells #[.pointer (some ⟨w.heap.size, 0, none⟩), .pointer (some ⟨w.heap.size, 1, none⟩), .pointer (some ⟨w.heap.size, 2, none⟩), .pointer (some ⟨w.heap.size, 3, none⟩), .pointer (some ⟨w.heap.size, 4, none⟩)] 74 (0, 0)) := (heap_setCell_other _ _ _ _ (by show w.heap.size + 1 ≠ w.heap.size; omega)).trans hP
 clear hP
 have hP := hP'
 clear hP'
 clear hA hB hG
 have hA := hA'
 have hB := hB'
 have hG := hG'
 clear hA' hB' hG'
 go_wp2_with fail
 rw [rounds_succ]
 have p1 := cell_heap (k := 1) (v := .pointer (some ⟨w.heap.size, 1, none⟩)) hP rfl
 obtain ⟨r1, hr1⟩ : ∃ r, Hid (r = rdNum xs r0.2) := ⟨_, rfl⟩
 have C := N.out _ _ hA
 rw [← hr1.out] at C
 go_wp2_with fail
 refine C.mono ?_
 rintro e y1 ⟨rfl, hA', hg'⟩
 have hB' := blk_keep hg' hB hlt
 have hG' := hG.trans hg'
 have hP' := blk_keep hg' hP (by omega)
 clear hP
 have hP := hP'
 clear hP'
 clear C hA hB hG hg' e0 e1
 have hA := hA'
 have hB := hB'
 have hG := hG'
 clear hA' hB' hG'
 clear p1
 have e0 := cell_heap (k := 1) (v := .int .i64 0) hB rfl
 have e1 := blk_frozen (j := 1) hB
 have hB' : (y1.setCell ⟨w.heap.size, 1, none⟩ (.int .i64 r1.1)).heap[w.heap.size]? = some (.cells #[.int .i64 r0.1, .int .i64 r1.1, .int .i64 0, .int .i64 0, .int .i64 0, .int .i64 0, .int .i64 0, .int .i64 0] 65 (0, 0)) := heap_setCell_same y1 w.heap.size 1 _ _ _ hB
 have hA' := hA.set hlt 1 (.int .i64 r1.1)
 have hG' := gb_set hG (Nat.le_refl _) 1 (.int .i64 r1.1)
 have hP' : (y1.setCell ⟨w.heap.size, 1, none⟩ (.int .i64 r1.1)).heap[w.heap.size + 1]? = some (.cells #[.pointer (some ⟨w.heap.size, 0, none⟩), .pointer (some ⟨w.heap.size, 1, none⟩), .pointer (some ⟨w.heap.size, 2, none⟩), .pointer (some ⟨w.heap.size, 3, none⟩), .pointer (some ⟨w.heap.size, 4, none⟩)] 74 (0, 0)) := (heap_setCell_other _ _ _ _ (by show w.heap.size + 1 ≠ w.heap.size; omega)).trans hP
 clear hP
 have hP := hP'
 clear hP'
 clear hA hB hG
 have hA := hA'
 have hB := hB'
 have hG := hG'
 clear hA' hB' hG'
 go_wp2_with fail
 rw [rounds_succ]
 have p2 := cell_heap (k := 2) (v := .pointer (some ⟨w.heap.size, 2, none⟩)) hP rfl
 obtain ⟨r2, hr2⟩ : ∃ r, Hid (r = rdNum xs r1.2) := ⟨_, rfl⟩
 have C := N.out _ _ hA
 rw [← hr2.out] at C
 go_wp2_with fail
 refine C.mono ?_
 rintro e y2 ⟨rfl, hA', hg'⟩
 have hB' := blk_keep hg' hB hlt
 have hG' := hG.trans hg'
 have hP' := blk_keep hg' hP (by omega)
 clear hP
 have hP := hP'
 clear hP'
 clear C hA hB hG hg' e0 e1
 have hA := hA'
 have hB := hB'
 have hG := hG'
 clear hA' hB' hG'
 clear p2
 have e0 := cell_heap (k := 2) (v := .int .i64 0) hB rfl
 have e1 := blk_frozen (j := 2) hB
 have hB' : (y2.setCell ⟨w.heap.size, 2, none⟩ (.int .i64 r2.1)).heap[w.heap.size]? = some (.cells #[.int .i64 r0.1, .int .i64 r1.1, .int .i64 r2.1, .int .i64 0, .int .i64 0, .int .i64 0, .int .i64 0, .int .i64 0] 65 (0, 0)) := heap_setCell_same y2 w.heap.size 2 _ _ _ hB
 have hA' := hA.set hlt 2 (.int .i64 r2.1)
 have hG' := gb_set hG (Nat.le_refl _) 2 (.int .i64 r2.1)
 have hP' : (y2.setCell ⟨w.heap.size, 2, none⟩ (.int .i64 r2.1)).heap[w.heap.size + 1]? = some (.cells #[.pointer (some ⟨w.heap.size, 0, none⟩), .pointer (some ⟨w.heap.size, 1, none⟩), .pointer (some ⟨w.heap.size, 2, none⟩), .pointer (some ⟨w.heap.size, 3, none⟩), .pointer (some ⟨w.heap.size, 4, none⟩)] 74 (0, 0)) := (heap_setCell_other _ _ _ _ (by show w.heap.size + 1 ≠ w.heap.size; omega)).trans hP
 clear hP
 have hP := hP'
 clear hP'
 clear hA hB hG
 have hA := hA'
 have hB := hB'
 have hG := hG'
 clear hA' hB' hG'
 go_wp2_with fail
 rw [rounds_succ]
 have p3 := cell_heap (k := 3) (v := .pointer (some ⟨w.heap.size, 3, none⟩)) hP rfl
 obtain ⟨r3, hr3⟩ : ∃ r, Hid (r = rdNum xs r2.2) := ⟨_, rfl⟩
 have C := N.out _ _ hA
 rw [← hr3.out] at C
 go_wp2_with fail
 refine C.mono ?_
 rintro e y3 ⟨rfl, hA', hg'⟩
 have hB' := blk_keep hg' hB hlt
 have hG' := hG.trans hg'
 have hP' := blk_keep hg' hP (by omega)
 clear hP
 have hP := hP'
 clear hP'
 clear C hA hB hG hg' e0 e1
 have hA := hA'
 have hB := hB'
 have hG := hG'
 clear hA' hB' hG'
 clear p3
 have e0 := cell_heap (k := 3) (v := .int .i64 0) hB rfl
 have e1 := blk_frozen (j := 3) hB
 have hB' : (y3.setCell ⟨w.heap.size, 3, none⟩ (.int .i64 r3.1)).heap[w.heap.size]? = some (.cells #[.int .i64 r0.1, .int .i64 r1.1, .int .i64 r2.1, .int .i64 r3.1, .int .i64 0, .int .i64 0, .int .i64 0, .int .i64 0] 65 (0, 0)) := heap_setCell_same y3 w.heap.size 3 _ _ _ hB
 have hA' := hA.set hlt 3 (.int .i64 r3.1)
 have hG' := gb_set hG (Nat.le_refl _) 3 (.int .i64 r3.1)
 have hP' : (y3.setCell ⟨w.heap.size, 3, none⟩ (.int .i64 r3.1)).heap[w.heap.size + 1]? = some (.cells #[.pointer (some ⟨w.heap.size, 0, none⟩), .pointer (some ⟨w.heap.size, 1, none⟩), .pointer (some ⟨w.heap.size, 2, none⟩), .pointer (some ⟨w.heap.size, 3, none⟩), .pointer (some ⟨w.heap.size, 4, none⟩)] 74 (0, 0)) := (heap_setCell_other _ _ _ _ (by show w.heap.size + 1 ≠ w.heap.size; omega)).trans hP
 clear hP
 have hP := hP'
 clear hP'
 clear hA hB hG
 have hA := hA'
 have hB := hB'
 have hG := hG'
 clear hA' hB' hG'
 go_wp2_with fail
 rw [rounds_succ]
 have p4 := cell_heap (k := 4) (v := .pointer (some ⟨w.heap.size, 4, none⟩)) hP rfl
 obtain ⟨r4, hr4⟩ : ∃ r, Hid (r = rdNum xs r3.2) := ⟨_, rfl⟩
 have C := N.out _ _ hA
 rw [← hr4.out] at C
 go_wp2_with fail
 refine C.mono ?_
 rintro e y4 ⟨rfl, hA', hg'⟩
 have hB' := blk_keep hg' hB hlt
 have hG' := hG.trans hg'
 have hP' := blk_keep hg' hP (by omega)
 clear hP
 have hP := hP'
 clear hP'
 clear C hA hB hG hg' e0 e1
 have hA := hA'
 have hB := hB'
 have hG := hG'
 clear hA' hB' hG'
 clear p4
 have e0 := cell_heap (k := 4) (v := .int .i64 0) hB rfl
 have e1 := blk_frozen (j := 4) hB
 have hB' : (y4.setCell ⟨w.heap.size, 4, none⟩ (.int .i64 r4.1)).heap[w.heap.size]? = some (.cells #[.int .i64 r0.1, .int .i64 r1.1, .int .i64 r2.1, .int .i64 r3.1, .int .i64 r4.1, .int .i64 0, .int .i64 0, .int .i64 0] 65 (0, 0)) := heap_setCell_same y4 w.heap.size 4 _ _ _ hB
 have hA' := hA.set hlt 4 (.int .i64 r4.1)
 have hG' := gb_set hG (Nat.le_refl _) 4 (.int .i64 r4.1)
 have hP' : (y4.setCell ⟨w.heap.size, 4, none⟩ (.int .i64 r4.1)).heap[w.heap.size + 1]? = some (.cells #[.pointer (some ⟨w.heap.size, 0, none⟩), .pointer (some ⟨w.heap.size, 1, none⟩), .pointer (some ⟨w.heap.size, 2, none⟩), .pointer (some ⟨w.heap.size, 3, none⟩), .pointer (some ⟨w.heap.size, 4, none⟩)] 74 (0, 0)) := (heap_setCell_other _ _ _ _ (by show w.heap.size + 1 ≠ w.heap.size; omega)).trans hP
 clear hP
 have hP := hP'
 clear hP'
 clear hA hB hG
 have hA := hA'
 have hB := hB'
 have hG := hG'
 clear hA' hB' hG'
 go_wp2_with fail
 rw [rounds_succ]
 obtain ⟨r5, hr5⟩ : ∃ r, Hid (r = rdSig xs r4.2) := ⟨_, rfl⟩
 have C := SG.out _ _ hA
 rw [← hr5.out] at C
 go_wp2_with fail
 refine C.mono ?_
 rintro e y5 ⟨rfl, hA', hg'⟩
 have hB' := blk_keep hg' hB hlt
 have hG' := hG.trans hg'
 have hP' := blk_keep hg' hP (by omega)
 clear hP
 have hP := hP'
 clear hP'
 clear C hA hB hG hg' e0 e1
 have hA := hA'
 have hB := hB'
 have hG := hG'
 clear hA' hB' hG'
 obtain ⟨r6, hr6⟩ : ∃ r, Hid (r = rdSig xs r5.2) := ⟨_, rfl⟩
 have C := SG.out _ _ hA
 rw [← hr6.out] at C
 go_wp2_with fail
 refine C.mono ?_
 rintro e y6 ⟨rfl, hA', hg'⟩
 have hB' := blk_keep hg' hB hlt
 have hG' := hG.trans hg'
 have hP' := blk_keep hg' hP (by omega)
 clear hP
 have hP := hP'
 clear hP'
 clear C hA hB hG hg'
 have hA := hA'
 have hB := hB'
 have hG := hG'
 clear hA' hB' hG'
 have e0 := cell_heap (k := 5) (v := .int .i64 0) hB rfl
 have e1 := blk_frozen (j := 5) hB
 have hB' : (y6.setCell ⟨w.heap.size, 5, none⟩ (.int .i64 r5.1)).heap[w.heap.size]? = some (.cells #[.int .i64 r0.1, .int .i64 r1.1, .int .i64 r2.1, .int .i64 r3.1, .int .i64 r4.1, .int .i64 r5.1, .int .i64 0, .int .i64 0] 65 (0, 0)) := heap_setCell_same y6 w.heap.size 5 _ _ _ hB
 have hA' := hA.set hlt 5 (.int .i64 r5.1)
 have hG' := gb_set hG (Nat.le_refl _) 5 (.int .i64 r5.1)
 have hP' : (y6.setCell ⟨w.heap.size, 5, none⟩ (.int .i64 r5.1)).heap[w.heap.size + 1]? = some (.cells #[.pointer (some ⟨w.heap.size, 0, none⟩), .pointer (some ⟨w.heap.size, 1, none⟩), .pointer (some ⟨w.heap.size, 2, none⟩), .pointer (some ⟨w.heap.size, 3, none⟩), .pointer (some ⟨w.heap.size, 4, none⟩)] 74 (0, 0)) := (heap_setCell_other _ _ _ _ (by show w.heap.size + 1 ≠ w.heap.size; omega)).trans hP
 clear hP
 have hP := hP'
 clear hP'
 clear hA hB hG
 have hA := hA'
 have hB := hB'
 have hG := hG'
 clear hA' hB' hG'
 have e2 := cell_heap (k := 6) (v := .int .i64 0) hB rfl
 have e3 := blk_frozen (j := 6) hB
 have hB' : ((y6.setCell ⟨w.heap.size, 5, none⟩ (.int .i64 r5.1)).setCell ⟨w.heap.size, 6, none⟩ (.int .i64 r6.1)).heap[w.heap.size]? = some (.cells #[.int .i64 r0.1, .int .i64 r1.1, .int .i64 r2.1, .int .i64 r3.1, .int .i64 r4.1, .int .i64 r5.1, .int .i64 r6.1, .int .i64 0] 65 (0, 0)) := heap_setCell_same (y6.setCell ⟨w.heap.size, 5, none⟩ (.int .i64 r5.1)) w.heap.size 6 _ _ _ hB
 have hA' := hA.set hlt 6 (.int .i64 r6.1)
 have hG' := gb_set hG (Nat.le_refl _) 6 (.int .i64 r6.1)
 have hP' : ((y6.setCell ⟨w.heap.size, 5, none⟩ (.int .i64 r5.1)).setCell ⟨w.heap.size, 6, none⟩ (.int .i64 r6.1)).heap[w.heap.size + 1]? = some (.cells #[.pointer (some ⟨w.heap.size, 0, none⟩), .pointer (some ⟨w.heap.size, 1, none⟩), .pointer (some ⟨w.heap.size, 2, none⟩), .pointer (some ⟨w.heap.size, 3, none⟩), .pointer (some ⟨w.heap.size, 4, none⟩)] 74 (0, 0)) := (heap_setCell_other _ _ _ _ (by show w.heap.size + 1 ≠ w.heap.size; omega)).trans hP
 clear hP
 have hP := hP'
 clear hP'
 clear hA hB hG
 have hA := hA'
 have hB := hB'
 have hG := hG'
 clear hA' hB' hG'
 obtain ⟨r7, hr7⟩ : ∃ r, Hid (r = rdNum xs r6.2) := ⟨_, rfl⟩
 have C := N.out _ _ hA
 rw [← hr7.out] at C
 go_wp2_with fail
 refine C.mono ?_
 rintro e y7 ⟨rfl, hA', hg'⟩
 have hB' := blk_keep hg' hB hlt
 have hG' := hG.trans hg'
 have hP' := blk_keep hg' hP (by omega)
 clear hP
 have hP := hP'
 clear hP'
 clear C hA hB hG hg' e0 e1 e2 e3
 have hA := hA'
 have hB := hB'
 have hG := hG'
 clear hA' hB' hG'
 have e0 := cell_heap (k := 7) (v := .int .i64 0) hB rfl
 have e1 := blk_frozen (j := 7) hB
 have hB' : (y7.setCell ⟨w.heap.size, 7, none⟩ (.int .i64 r7.1)).heap[w.heap.size]? = some (.cells #[.int .i64 r0.1, .int .i64 r1.1, .int .i64 r2.1, .int .i64 r3.1, .int .i64 r4.1, .int .i64 r5.1, .int .i64 r6.1, .int .i64 r7.1] 65 (0, 0)) := heap_setCell_same y7 w.heap.size 7 _ _ _ hB
 have hA' := hA.set hlt 7 (.int .i64 r7.1)
 have hG' := gb_set hG (Nat.le_refl _) 7 (.int .i64 r7.1)
 have hP' : (y7.setCell ⟨w.heap.size, 7, none⟩ (.int .i64 r7.1)).heap[w.heap.size + 1]? = some (.cells #[.pointer (some ⟨w.heap.size, 0, none⟩), .pointer (some ⟨w.heap.size, 1, none⟩), .pointer (some ⟨w.heap.size, 2, none⟩), .pointer (some ⟨w.heap.size, 3, none⟩), .pointer (some ⟨w.heap.size, 4, none⟩)] 74 (0, 0)) := (heap_setCell_other _ _ _ _ (by show w.heap.size + 1 ≠ w.heap.size; omega)).trans hP
 clear hP
 have hP := hP'
 clear hP'
 clear hA hB hG
 have hA := hA'
 have hB := hB'
 have hG := hG'
 clear hA' hB' hG'
 have e2 := cell_heap (k := 0) (v := .int .i64 r0.1) hB rfl
 have e3 := blk_frozen (j := 0) hB
 have e4 := cell_heap (k := 1) (v := .int .i64 r1.1) hB rfl
 have e5 := blk_frozen (j := 1) hB
 have e6 := cell_heap (k := 2) (v := .int .i64 r2.1) hB rfl
 have e7 := blk_frozen (j := 2) hB
 have e8 := cell_heap (k := 3) (v := .int .i64 r3.1) hB rfl
 have e9 := blk_frozen (j := 3) hB
 have e10 := cell_heap (k := 4) (v := .int .i64 r4.1) hB rfl
 have e11 := blk_frozen (j := 4) hB
 have e12 := cell_heap (k := 5) (v := .int .i64 r5.1) hB rfl
 have e13 := blk_frozen (j := 5) hB
 have e14 := cell_heap (k := 6) (v := .int .i64 r6.1) hB rfl
 have e15 := blk_frozen (j := 6) hB
 have e16 := cell_heap (k := 7) (v := .int .i64 r7.1) hB rfl
 have e17 := blk_frozen (j := 7) hB
 go_wp2
 have hB' : ((y7.setCell ⟨w.heap.size, 7, none⟩ (.int .i64 r7.1)).setCell ⟨w.heap.size, 0, none⟩ (.int .i64 r0.1)).heap[w.heap.size]? = some (.cells #[.int .i64 r0.1, .int .i64 r1.1, .int .i64 r2.1, .int .i64 r3.1, .int .i64 r4.1, .int .i64 r5.1, .int .i64 r6.1, .int .i64 r7.1] 65 (0, 0)) := heap_setCell_same (y7.setCell ⟨w.heap.size, 7, none⟩ (.int .i64 r7.1)) w.heap.size 0 _ _ _ hB
 have hA' := hA.set hlt 0 (.int .i64 r0.1)
 have hG' := gb_set hG (Nat.le_refl _) 0 (.int .i64 r0.1)
 have hP' : ((y7.setCell ⟨w.heap.size, 7, none⟩ (.int .i64 r7.1)).setCell ⟨w.heap.size, 0, none⟩ (.int .i64 r0.1)).heap[w.heap.size + 1]? = some (.cells #[.pointer (some ⟨w.heap.size, 0, none⟩), .pointer (some ⟨w.heap.size, 1, none⟩), .pointer (some ⟨w.heap.size, 2, none⟩), .pointer (some ⟨w.heap.size, 3, none⟩), .pointer (some ⟨w.heap.size, 4, none⟩)] 74 (0, 0)) := (heap_setCell_other _ _ _ _ (by show w.heap.size + 1 ≠ w.heap.size; omega)).trans hP
 clear hP
 have hP := hP'
 clear hP'
 clear hA hB hG
 have hA := hA'
 have hB := hB'
 have hG := hG'
 clear hA' hB' hG'
 have hB' : (((y7.setCell ⟨w.heap.size, 7, none⟩ (.int .i64 r7.1)).setCell ⟨w.heap.size, 0, none⟩ (.int .i64 r0.1)).setCell ⟨w.heap.size, 1, none⟩ (.int .i64 r1.1)).heap[w.heap.size]? = some (.cells #[.int .i64 r0.1, .int .i64 r1.1, .int .i64 r2.1, .int .i64 r3.1, .int .i64 r4.1, .int .i64 r5.1, .int .i64 r6.1, .int .i64 r7.1] 65 (0, 0)) := heap_setCell_same ((y7.setCell ⟨w.heap.size, 7, none⟩ (.int .i64 r7.1)).setCell ⟨w.heap.size, 0, none⟩ (.int .i64 r0.1)) w.heap.size 1 _ _ _ hB
 have hA' := hA.set hlt 1 (.int .i64 r1.1)
 have hG' := gb_set hG (Nat.le_refl _) 1 (.int .i64 r1.1)
 have hP' : (((y7.setCell ⟨w.heap.size, 7, none⟩ (.int .i64 r7.1)).setCell ⟨w.heap.size, 0, none⟩ (.int .i64 r0.1)).setCell ⟨w.heap.size, 1, none⟩ (.int .i64 r1.1)).heap[w.heap.size + 1]? = some (.cells #[.pointer (some ⟨w.heap.size, 0, none⟩), .pointer (some ⟨w.heap.size, 1, none⟩), .pointer (some ⟨w.heap.size, 2, none⟩), .pointer (some ⟨w.heap.size, 3, none⟩), .pointer (some ⟨w.heap.size, 4, none⟩)] 74 (0, 0)) := (heap_setCell_other _ _ _ _ (by show w.heap.size + 1 ≠ w.heap.size; omega)).trans hP
 clear hP
 have hP := hP'
 clear hP'
 clear hA hB hG
 have hA := hA'
 have hB := hB'
 have hG := hG'
 clear hA' hB' hG'
 have hB' : ((((y7.setCell ⟨w.heap.size, 7, none⟩ (.int .i64 r7.1)).setCell ⟨w.heap.size, 0, none⟩ (.int .i64 r0.1)).setCell ⟨w.heap.size, 1, none⟩ (.int .i64 r1.1)).setCell ⟨w.heap.size, 2, none⟩ (.int .i64 r2.1)).heap[w.heap.size]? = some (.cells #[.int .i64 r0.1, .int .i64 r1.1, .int .i64 r2.1, .int .i64 r3.1, .int .i64 r4.1, .int .i64 r5.1, .int .i64 r6.1, .int .i64 r7.1] 65 (0, 0)) := heap_setCell_same (((y7.setCell ⟨w.heap.size, 7, none⟩ (.int .i64 r7.1)).setCell ⟨w.heap.size, 0, none⟩ (.int .i64 r0.1)).setCell ⟨w.heap.size, 1, none⟩ (.int .i64 r1.1)) w.heap.size 2 _ _ _ hB
 have hA' := hA.set hlt 2 (.int .i64 r2.1)
 have hG' := gb_set hG (Nat.le_refl _) 2 (.int .i64 r2.1)
 have hP' : ((((y7.setCell ⟨w.heap.size, 7, none⟩ (.int .i64 r7.1)).setCell ⟨w.heap.size, 0, none⟩ (.int .i64 r0.1)).setCell ⟨w.heap.size, 1, none⟩ (.int .i64 r1.1)).setCell ⟨w.heap.size, 2, none⟩ (.int .i64 r2.1)).heap[w.heap.size + 1]? = some (.cells #[.pointer (some ⟨w.heap.size, 0, none⟩), .pointer (some ⟨w.heap.size, 1, none⟩), .pointer (some ⟨w.heap.size, 2, none⟩), .pointer (some ⟨w.heap.size, 3, none⟩), .pointer (some ⟨w.heap.size, 4, none⟩)] 74 (0, 0)) := (heap_setCell_other _ _ _ _ (by show w.heap.size + 1 ≠ w.heap.size; omega)).trans hP
 clear hP
 have hP := hP'
 clear hP'
 clear hA hB hG
 have hA := hA'
 have hB := hB'
 have hG := hG'
 clear hA' hB' hG'
 have hB' : (((((y7.setCell ⟨w.heap.size, 7, none⟩ (.int .i64 r7.1)).setCell ⟨w.heap.size, 0, none⟩ (.int .i64 r0.1)).setCell ⟨w.heap.size, 1, none⟩ (.int .i64 r1.1)).setCell ⟨w.heap.size, 2, none⟩ (.int .i64 r2.1)).setCell ⟨w.heap.size, 3, none⟩ (.int .i64 r3.1)).heap[w.heap.size]? = some (.cells #[.int .i64 r0.1, .int .i64 r1.1, .int .i64 r2.1, .int .i64 r3.1, .int .i64 r4.1, .int .i64 r5.1, .int .i64 r6.1, .int .i64 r7.1] 65 (0, 0)) := heap_setCell_same ((((y7.setCell ⟨w.heap.size, 7, none⟩ (.int .i64 r7.1)).setCell ⟨w.heap.size, 0, none⟩ (.int .i64 r0.1)).setCell ⟨w.heap.size, 1, none⟩ (.int .i64 r1.1)).setCell ⟨w.heap.size, 2, none⟩ (.int .i64 r2.1)) w.heap.size 3 _ _ _ hB
 have hA' := hA.set hlt 3 (.int .i64 r3.1)
 have hG' := gb_set hG (Nat.le_refl _) 3 (.int .i64 r3.1)
 have hP' : (((((y7.setCell ⟨w.heap.size, 7, none⟩ (.int .i64 r7.1)).setCell ⟨w.heap.size, 0, none⟩ (.int .i64 r0.1)).setCell ⟨w.heap.size, 1, none⟩ (.int .i64 r1.1)).setCell ⟨w.heap.size, 2, none⟩ (.int .i64 r2.1)).setCell ⟨w.heap.size, 3, none⟩ (.int .i64 r3.1)).heap[w.heap.size + 1]? = some (.cells #[.pointer (some ⟨w.heap.size, 0, none⟩), .pointer (some ⟨w.heap.size, 1, none⟩), .pointer (some ⟨w.heap.size, 2, none⟩), .pointer (some ⟨w.heap.size, 3, none⟩), .pointer (some ⟨w.heap.size, 4, none⟩)] 74 (0, 0)) := (heap_setCell_other _ _ _ _ (by show w.heap.size + 1 ≠ w.heap.size; omega)).trans hP
 clear hP
 have hP := hP'
 clear hP'
 clear hA hB hG
 have hA := hA'
 have hB := hB'
 have hG := hG'
 clear hA' hB' hG'
 have hB' : ((((((y7.setCell ⟨w.heap.size, 7, none⟩ (.int .i64 r7.1)).setCell ⟨w.heap.size, 0, none⟩ (.int .i64 r0.1)).setCell ⟨w.heap.size, 1, none⟩ (.int .i64 r1.1)).setCell ⟨w.heap.size, 2, none⟩ (.int .i64 r2.1)).setCell ⟨w.heap.size, 3, none⟩ (.int .i64 r3.1)).setCell ⟨w.heap.size, 4, none⟩ (.int .i64 r4.1)).heap[w.heap.size]? = some (.cells #[.int .i64 r0.1, .int .i64 r1.1, .int .i64 r2.1, .int .i64 r3.1, .int .i64 r4.1, .int .i64 r5.1, .int .i64 r6.1, .int .i64 r7.1] 65 (0, 0)) := heap_setCell_same (((((y7.setCell ⟨w.heap.size, 7, none⟩ (.int .i64 r7.1)).setCell ⟨w.heap.size, 0, none⟩ (.int .i64 r0.1)).setCell ⟨w.heap.size, 1, none⟩ (.int .i64 r1.1)).setCell ⟨w.heap.size, 2, none⟩ (.int .i64 r2.1)).setCell ⟨w.heap.size, 3, none⟩ (.int .i64 r3.1)) w.heap.size 4 _ _ _ hB
 have hA' := hA.set hlt 4 (.int .i64 r4.1)
 have hG' := gb_set hG (Nat.le_refl _) 4 (.int .i64 r4.1)
 have hP' : ((((((y7.setCell ⟨w.heap.size, 7, none⟩ (.int .i64 r7.1)).setCell ⟨w.heap.size, 0, none⟩ (.int .i64 r0.1)).setCell ⟨w.heap.size, 1, none⟩ (.int .i64 r1.1)).setCell ⟨w.heap.size, 2, none⟩ (.int .i64 r2.1)).setCell ⟨w.heap.size, 3, none⟩ (.int .i64 r3.1)).setCell ⟨w.heap.size, 4, none⟩ (.int .i64 r4.1)).heap[w.heap.size + 1]? = some (.cells #[.pointer (some ⟨w.heap.size, 0, none⟩), .pointer (some ⟨w.heap.size, 1, none⟩), .pointer (some ⟨w.heap.size, 2, none⟩), .pointer (some ⟨w.heap.size, 3, none⟩), .pointer (some ⟨w.heap.size, 4, none⟩)] 74 (0, 0)) := (heap_setCell_other _ _ _ _ (by show w.heap.size + 1 ≠ w.heap.size; omega)).trans hP
 clear hP
 have hP := hP'
 clear hP'
 clear hA hB hG
 have hA := hA'
 have hB := hB'
 have hG := hG'
 clear hA' hB' hG'
 have hB' : (((((((y7.setCell ⟨w.heap.size, 7, none⟩ (.int .i64 r7.1)).setCell ⟨w.heap.size, 0, none⟩ (.int .i64 r0.1)).setCell ⟨w.heap.size, 1, none⟩ (.int .i64 r1.1)).setCell ⟨w.heap.size, 2, none⟩ (.int .i64 r2.1)).setCell ⟨w.heap.size, 3, none⟩ (.int .i64 r3.1)).setCell ⟨w.heap.size, 4, none⟩ (.int .i64 r4.1)).setCell ⟨w.heap.size, 5, none⟩ (.int .i64 r5.1)).heap[w.heap.size]? = some (.cells #[.int .i64 r0.1, .int .i64 r1.1, .int .i64 r2.1, .int .i64 r3.1, .int .i64 r4.1, .int .i64 r5.1, .int .i64 r6.1, .int .i64 r7.1] 65 (0, 0)) := heap_setCell_same ((((((y7.setCell ⟨w.heap.size, 7, none⟩ (.int .i64 r7.1)).setCell ⟨w.heap.size, 0, none⟩ (.int .i64 r0.1)).setCell ⟨w.heap.size, 1, none⟩ (.int .i64 r1.1)).setCell ⟨w.heap.size, 2, none⟩ (.int .i64 r2.1)).setCell ⟨w.heap.size, 3, none⟩ (.int .i64 r3.1)).setCell ⟨w.heap.size, 4, none⟩ (.int .i64 r4.1)) w.heap.size 5 _ _ _ hB
 have hA' := hA.set hlt 5 (.int .i64 r5.1)
 have hG' := gb_set hG (Nat.le_refl _) 5 (.int .i64 r5.1)
 have hP' : (((((((y7.setCell ⟨w.heap.size, 7, none⟩ (.int .i64 r7.1)).setCell ⟨w.heap.size, 0, none⟩ (.int .i64 r0.1)).setCell ⟨w.heap.size, 1, none⟩ (.int .i64 r1.1)).setCell ⟨w.heap.size, 2, none⟩ (.int .i64 r2.1)).setCell ⟨w.heap.size, 3, none⟩ (.int .i64 r3.1)).setCell ⟨w.heap.size, 4, none⟩ (.int .i64 r4.1)).setCell ⟨w.heap.size, 5, none⟩ (.int .i64 r5.1)).heap[w.heap.size + 1]? = some (.cells #[.pointer (some ⟨w.heap.size, 0, none⟩), .pointer (some ⟨w.heap.size, 1, none⟩), .pointer (some ⟨w.heap.size, 2, none⟩), .pointer (some ⟨w.heap.size, 3, none⟩), .pointer (some ⟨w.heap.size, 4, none⟩)] 74 (0, 0)) := (heap_setCell_other _ _ _ _ (by show w.heap.size + 1 ≠ w.heap.size; omega)).trans hP
 clear hP
 have hP := hP'
 clear hP'
 clear hA hB hG
 have hA := hA'
 have hB := hB'
 have hG := hG'
 clear hA' hB' hG'
 have hB' : ((((((((y7.setCell ⟨w.heap.size, 7, none⟩ (.int .i64 r7.1)).setCell ⟨w.heap.size, 0, none⟩ (.int .i64 r0.1)).setCell ⟨w.heap.size, 1, none⟩ (.int .i64 r1.1)).setCell ⟨w.heap.size, 2, none⟩ (.int .i64 r2.1)).setCell ⟨w.heap.size, 3, none⟩ (.int .i64 r3.1)).setCell ⟨w.heap.size, 4, none⟩ (.int .i64 r4.1)).setCell ⟨w.heap.size, 5, none⟩ (.int .i64 r5.1)).setCell ⟨w.heap.size, 6, none⟩ (.int .i64 r6.1)).heap[w.heap.size]? = some (.cells #[.int .i64 r0.1, .int .i64 r1.1, .int .i64 r2.1, .int .i64 r3.1, .int .i64 r4.1, .int .i64 r5.1, .int .i64 r6.1, .int .i64 r7.1] 65 (0, 0)) := heap_setCell_same (((((((y7.setCell ⟨w.heap.size, 7, none⟩ (.int .i64 r7.1)).setCell ⟨w.heap.size, 0, none⟩ (.int .i64 r0.1)).setCell ⟨w.heap.size, 1, none⟩ (.int .i64 r1.1)).setCell ⟨w.heap.size, 2, none⟩ (.int .i64 r2.1)).setCell ⟨w.heap.size, 3, none⟩ (.int .i64 r3.1)).setCell ⟨w.heap.size, 4, none⟩ (.int .i64 r4.1)).setCell ⟨w.heap.size, 5, none⟩ (.int .i64 r5.1)) w.heap.size 6 _ _ _ hB
 have hA' := hA.set hlt 6 (.int .i64 r6.1)
 have hG' := gb_set hG (Nat.le_refl _) 6 (.int .i64 r6.1)
 have hP' : ((((((((y7.setCell ⟨w.heap.size, 7, none⟩ (.int .i64 r7.1)).setCell ⟨w.heap.size, 0, none⟩ (.int .i64 r0.1)).setCell ⟨w.heap.size, 1, none⟩ (.int .i64 r1.1)).setCell ⟨w.heap.size, 2, none⟩ (.int .i64 r2.1)).setCell ⟨w.heap.size, 3, none⟩ (.int .i64 r3.1)).setCell ⟨w.heap.size, 4, none⟩ (.int .i64 r4.1)).setCell ⟨w.heap.size, 5, none⟩ (.int .i64 r5.1)).setCell ⟨w.heap.size, 6, none⟩ (.int .i64 r6.1)).heap[w.heap.size + 1]? = some (.cells #[.pointer (some ⟨w.heap.size, 0, none⟩), .pointer (some ⟨w.heap.size, 1, none⟩), .pointer (some ⟨w.heap.size, 2, none⟩), .pointer (some ⟨w.heap.size, 3, none⟩), .pointer (some ⟨w.heap.size, 4, none⟩)] 74 (0, 0)) := (heap_setCell_other _ _ _ _ (by show w.heap.size + 1 ≠ w.heap.size; omega)).trans hP
 clear hP
 have hP := hP'
 clear hP'
 clear hA hB hG
 have hA := hA'
 have hB := hB'
 have hG := hG'
 clear hA' hB' hG'
 have hB' : (((((((((y7.setCell ⟨w.heap.size, 7, none⟩ (.int .i64 r7.1)).setCell ⟨w.heap.size, 0, none⟩ (.int .i64 r0.1)).setCell ⟨w.heap.size, 1, none⟩ (.int .i64 r1.1)).setCell ⟨w.heap.size, 2, none⟩ (.int .i64 r2.1)).setCell ⟨w.heap.size, 3, none⟩ (.int .i64 r3.1)).setCell ⟨w.heap.size, 4, none⟩ (.int .i64 r4.1)).setCell ⟨w.heap.size, 5, none⟩ (.int .i64 r5.1)).setCell ⟨w.heap.size, 6, none⟩ (.int .i64 r6.1)).setCell ⟨w.heap.size, 7, none⟩ (.int .i64 r7.1)).heap[w.heap.size]? = some (.cells #[.int .i64 r0.1, .int .i64 r1.1, .int .i64 r2.1, .int .i64 r3.1, .int .i64 r4.1, .int .i64 r5.1, .int .i64 r6.1, .int .i64 r7.1] 65 (0, 0)) := heap_setCell_same ((((((((y7.setCell ⟨w.heap.size, 7, none⟩ (.int .i64 r7.1)).setCell ⟨w.heap.size, 0, none⟩ (.int .i64 r0.1)).setCell ⟨w.heap.size, 1, none⟩ (.int .i64 r1.1)).setCell ⟨w.heap.size, 2, none⟩ (.int .i64 r2.1)).setCell ⟨w.heap.size, 3, none⟩ (.int .i64 r3.1)).setCell ⟨w.heap.size, 4, none⟩ (.int .i64 r4.1)).setCell ⟨w.heap.size, 5, none⟩ (.int .i64 r5.1)).setCell ⟨w.heap.size, 6, none⟩ (.int .i64 r6.1)) w.heap.size 7 _ _ _ hB
 have hA' := hA.set hlt 7 (.int .i64 r7.1)
 have hG' := gb_set hG (Nat.le_refl _) 7 (.int .i64 r7.1)
 have hP' : (((((((((y7.setCell ⟨w.heap.size, 7, none⟩ (.int .i64 r7.1)).setCell ⟨w.heap.size, 0, none⟩ (.int .i64 r0.1)).setCell ⟨w.heap.size, 1, none⟩ (.int .i64 r1.1)).setCell ⟨w.heap.size, 2, none⟩ (.int .i64 r2.1)).setCell ⟨w.heap.size, 3, none⟩ (.int .i64 r3.1)).setCell ⟨w.heap.size, 4, none⟩ (.int .i64 r4.1)).setCell ⟨w.heap.size, 5, none⟩ (.int .i64 r5.1)).setCell ⟨w.heap.size, 6, none⟩ (.int .i64 r6.1)).setCell ⟨w.heap.size, 7, none⟩ (.int .i64 r7.1)).heap[w.heap.size + 1]? = some (.cells #[.pointer (some ⟨w.heap.size, 0, none⟩), .pointer (some ⟨w.heap.size, 1, none⟩), .pointer (some ⟨w.heap.size, 2, none⟩), .pointer (some ⟨w.heap.size, 3, none⟩), .pointer (some ⟨w.heap.size, 4, none⟩)] 74 (0, 0)) := (heap_setCell_other _ _ _ _ (by show w.heap.size + 1 ≠ w.heap.size; omega)).trans hP
 clear hP
 have hP := hP'
 clear hP'
 clear hA hB hG
 have hA := hA'
 have hB := hB'
 have hG := hG'
 clear hA' hB' hG'
 refine bodyPost_ret (results_cell_row (p := 2) (ty := 65) rfl _ _ w.heap.size 65 #[.int .i64 r0.1, .int .i64 r1.1, .int .i64 r2.1, .int .i64 r3.1, .int .i64 r4.1, .int .i64 r5.1, .int .i64 r6.1, .int .i64 r7.1] (0, 0) _ rfl hB Tryz.underlying65 rfl (by kernel_rfl)) rfl ?_
 have HV' := HV.out
 have q7 := hr7.out
 clear hr7
 subst q7
 have q6 := hr6.out
 clear hr6
 subst q6
 have q5 := hr5.out
 clear hr5
 subst q5
 have q4 := hr4.out
 clear hr4
 subst q4
 have q3 := hr3.out
 clear hr3
 subst q3
 have q2 := hr2.out
 clear hr2
 subst q2
 have q1 := hr1.out
 clear hr1
 subst q1
 have q0 := hr0.out
 clear hr0
 subst q0
 subst HV'
 exact ⟨rfl, hA, hG⟩

end Go.Proofs.YtgfmdgiepomkiaaGreat
