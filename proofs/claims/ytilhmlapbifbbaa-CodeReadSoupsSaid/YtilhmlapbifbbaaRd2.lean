/- Walks: the reader's other methods. -/
import Derived.Test.YtilhmlapbifbbaaRdW
namespace Go.Proofs.Ytilhmlapbifbbaa
open Go.RowKit Go.Sort
attribute [local go_sem] Instr.index

theorem and1 (v : Int) (h0 : 0 ≤ v) (h1 : v ≤ 4398046511104) : bits .and .i64 v 1 = v % 2 := bits_mask .i64 63 (by decide) wraps_i64 1 (by decide) v h0 (by omega)
theorem wrap_neg (v : Int) : IntKind.i64.wrap (-(v % 2)) = -(v % 2) := by rw [IntKind.wrap_i64]; omega
section
variable {w W W' : World} {row : Option Nat}
theorem gb_set (h : w.grownBy W row) {b : Nat} (hb : w.heap.size ≤ b) (i : Nat) (v : Value) : w.grownBy (W.setCell ⟨b, i, none⟩ v) row :=
  ⟨h.os, h.tape, h.output, by have := h.size; simpa using this, fun k hk hne => (heap_setCell_other W _ k v (by show k ≠ b; omega)).trans (h.block k hk hne)⟩
theorem gb_alloc (h : w.grownBy W row) (o : Obj) : w.grownBy (W.alloc o) row := h.trans (World.grownBy_alloc W o row)
end
section
variable {T : TypeId} {f : Bool → Bool} {w w' : World} {rb : Nat} {a : Option Addr} {n c : Nat} {xs : List Int} {st : RS}
theorem RdAt.set (h : RdAt T f w rb a n c xs st) {b : Nat} (hb : rb < b) (i : Nat) (v : Value) : RdAt T f (w.setCell ⟨b, i, none⟩ v) rb a n c xs st := h.grown (grownBy_setCell w b i v) (fun j hj => by cases hj; exact hb)
theorem RdAt.alloc (h : RdAt T f w rb a n c xs st) (o : Obj) : RdAt T f (w.alloc o) rb a n c xs st := h.grown (World.grownBy_alloc w o none) (fun j hj => by cases hj)
/-- A block that is not the reader's stays. -/
theorem blk_keep {b : Nat} {u : Obj} (hg : w.grownBy w' (some rb)) (hb : w.heap[b]? = some u) (hne : rb < b) : w'.heap[b]? = some u := (hg.block b (Array.getElem?_eq_some_iff.1 hb).1 (by intro e; cases e; omega)).trans hb
end

set_option maxRecDepth 100000 in
set_option maxHeartbeats 2000000 in
theorem rsigned_any (w : World) (rb : Nat) (a : Option Addr) (n c : Nat) (xs : List Int) (st : RS) (h : RdAt 123 (fun b => b) w rb a n c xs st) :
    Calls Try.prog 119 #[.pointer (some ⟨rb, 0, none⟩)] w fun e w' => e = .returned (.int .i64 (rdSig xs st).1) ∧ RdAt 123 (fun b => b) w' rb a n c xs (rdSig xs st).2 ∧ w.grownBy w' (some rb) := by
  have H := Lib.hid (rnumber_any w rb a n c xs st h)
  have hr := rdNum_range (st := st) h.byte
  unfold rdSig
  clear h
  obtain ⟨⟨v, st'⟩, hR⟩ : ∃ r, r = rdNum xs st := ⟨_, rfl⟩
  rw [← hR] at H hr ⊢
  clear hR
  have h1 := and1 v hr.1 hr.2
  have h2 := wrap_neg v
  have h3 := zag_bits v hr.1 hr.2
  clear hr
  go_enter Try.func119, Try.ntmps119
  go_wp2_with fail
  refine H.out.mono ?_
  rintro e w1 ⟨rfl, hA, hg⟩
  have HA := Lib.hid hA
  have Hg := Lib.hid hg
  clear hA hg
  go_wp2
  go_ret
  exact ⟨rfl, HA.out, Hg.out⟩


set_option maxRecDepth 100000 in
set_option maxHeartbeats 2000000 in
theorem rup_any (m : Int) (w : World) (rb : Nat) (a : Option Addr) (n c : Nat) (xs : List Int) (st : RS) (h : RdAt 123 (fun b => b) w rb a n c xs st) :
    Calls Try.prog 118 #[.pointer (some ⟨rb, 0, none⟩), .int .i64 m] w fun e w' => e = .returned (.int .i64 (rdUp xs m st).1) ∧ RdAt 123 (fun b => b) w' rb a n c xs (rdUp xs m st).2 ∧ w.grownBy w' (some rb) := by
  have H := Lib.hid (rnumber_any w rb a n c xs st h)
  unfold rdUp
  clear h
  obtain ⟨⟨v, s1, bad⟩, hR⟩ : ∃ r, r = rdNum xs st := ⟨_, rfl⟩
  rw [← hR] at H ⊢
  clear hR
  obtain ⟨V, hV⟩ : ∃ V : Int × RS, V = if bad = true ∨ m < v then (0, (s1, true)) else (v, (s1, bad)) := ⟨_, rfl⟩
  rw [← hV]
  have HV := Lib.hid hV
  clear hV
  go_enter Try.func118, Try.ntmps118
  go_wp2_with fail
  refine H.out.mono ?_
  rintro e w1 ⟨rfl, hA, hg⟩
  have c2 := cell_heap (k := 2) (v := .bool bad) hA.blk rfl
  have f2 := blk_frozen (j := 2) hA.blk
  have HA := Lib.hid hA
  have Hg := Lib.hid hg
  have hB := fun b : Bool => heap_setCell_same w1 rb 2 _ _ (.bool b) hA.blk
  have hw1 := cell_heap (k := 2) (v := .bool true) (hB true) rfl
  have hw0 := cell_heap (k := 2) (v := .bool false) (hB false) rfl
  clear hA hg hB
  cases bad with
  | true =>
    have HW : Hid (V = (0, (s1, true))) := by show _ = _; rw [HV.out, if_pos (.inl rfl)]
    clear HV
    go_wp2
    go_ret
    rw [HW.out]
    exact ⟨rfl, HA.out.setBad true, Hg.out.trans (grownBy_setCell _ _ _ _)⟩
  | false =>
    by_cases hm : m < v
    · have HW : Hid (V = (0, (s1, true))) := by show _ = _; rw [HV.out, if_pos (.inr hm)]
      have dm : decide (m < v) = true := decide_eq_true hm
      clear HV
      go_wp2
      go_ret
      rw [HW.out]
      exact ⟨rfl, HA.out.setBad true, Hg.out.trans (grownBy_setCell _ _ _ _)⟩
    · have HW : Hid (V = (v, (s1, false))) := by show _ = _; rw [HV.out, if_neg (by simp [hm])]
      have dm : decide (m < v) = false := decide_eq_false hm
      clear HV
      go_wp2
      go_ret
      rw [HW.out]
      exact ⟨rfl, HA.out.setBad false, Hg.out.trans (grownBy_setCell _ _ _ _)⟩


set_option maxRecDepth 100000 in
set_option maxHeartbeats 4000000 in
theorem rspot_any (w : World) (rb : Nat) (a : Option Addr) (n c : Nat) (xs : List Int) (st : RS) (h : RdAt 123 (fun b => b) w rb a n c xs st) :
    Calls Try.prog 120 #[.pointer (some ⟨rb, 0, none⟩)] w fun e w' => e = .returned (.agg #[.int .i64 (rdSpt xs st).1.x, .int .i64 (rdSpt xs st).1.z, .int .i64 (rdSpt xs st).1.y]) ∧ RdAt 123 (fun b => b) w' rb a n c xs (rdSpt xs st).2 ∧ w.grownBy w' (some rb) := by
  have hlt := h.lt
  have N := Lib.hid (fun (W : World) (s : RS) (h : RdAt 123 (fun b => b) W rb a n c xs s) => rnumber_any W rb a n c xs s h)
  have SG := Lib.hid (fun (W : World) (s : RS) (h : RdAt 123 (fun b => b) W rb a n c xs s) => rsigned_any W rb a n c xs s h)
  have hA := h.alloc (.cells #[.int .i64 0, .int .i64 0, .int .i64 0] 116)
  have hB := World.alloc_heap_new w (.cells #[.int .i64 0, .int .i64 0, .int .i64 0] 116)
  have hG := World.grownBy_alloc w (.cells #[.int .i64 0, .int .i64 0, .int .i64 0] 116) (some rb)
  clear h
  obtain ⟨V, HV⟩ : ∃ V, Hid (V = rdSpt xs st) := ⟨_, rfl⟩
  rw [← HV.out]
  go_enter Try.func120, Try.ntmps120
  obtain ⟨r0, hr0⟩ : ∃ r, Hid (r = rdNum xs st) := ⟨_, rfl⟩
  have C := N.out _ _ hA
  rw [← hr0.out] at C
  go_wp2_with fail
  refine C.mono ?_
  rintro e y0 ⟨rfl, hA', hg'⟩
  have hB' := blk_keep hg' hB hlt
  have hG' := hG.trans hg'
  clear C hA hB hG hg' 
  have hA := hA'
  have hB := hB'
  have hG := hG'
  clear hA' hB' hG' 
  obtain ⟨r1, hr1⟩ : ∃ r, Hid (r = rdNum xs r0.2) := ⟨_, rfl⟩
  have C := N.out _ _ hA
  rw [← hr1.out] at C
  go_wp2_with fail
  refine C.mono ?_
  rintro e y1 ⟨rfl, hA', hg'⟩
  have hB' := blk_keep hg' hB hlt
  have hG' := hG.trans hg'
  clear C hA hB hG hg' 
  have hA := hA'
  have hB := hB'
  have hG := hG'
  clear hA' hB' hG' 
  have e0 := cell_heap (k := 0) (v := .int .i64 0) hB rfl
  have e1 := blk_frozen (j := 0) hB
  have hB' : (y1.setCell ⟨w.heap.size, 0, none⟩ (.int .i64 r0.1)).heap[w.heap.size]? = some (.cells #[.int .i64 r0.1, .int .i64 0, .int .i64 0] 116 (0, 0)) := heap_setCell_same y1 w.heap.size 0 _ _ _ hB
  have hA' := hA.set hlt 0 (.int .i64 r0.1)
  have hG' := gb_set hG (Nat.le_refl _) 0 (.int .i64 r0.1)
  clear hA hB hG
  have hA := hA'
  have hB := hB'
  have hG := hG'
  clear hA' hB' hG' 
  have e2 := cell_heap (k := 1) (v := .int .i64 0) hB rfl
  have e3 := blk_frozen (j := 1) hB
  have hB' : ((y1.setCell ⟨w.heap.size, 0, none⟩ (.int .i64 r0.1)).setCell ⟨w.heap.size, 1, none⟩ (.int .i64 r1.1)).heap[w.heap.size]? = some (.cells #[.int .i64 r0.1, .int .i64 r1.1, .int .i64 0] 116 (0, 0)) := heap_setCell_same (y1.setCell ⟨w.heap.size, 0, none⟩ (.int .i64 r0.1)) w.heap.size 1 _ _ _ hB
  have hA' := hA.set hlt 1 (.int .i64 r1.1)
  have hG' := gb_set hG (Nat.le_refl _) 1 (.int .i64 r1.1)
  clear hA hB hG
  have hA := hA'
  have hB := hB'
  have hG := hG'
  clear hA' hB' hG' 
  obtain ⟨r2, hr2⟩ : ∃ r, Hid (r = rdSig xs r1.2) := ⟨_, rfl⟩
  have C := SG.out _ _ hA
  rw [← hr2.out] at C
  go_wp2_with fail
  refine C.mono ?_
  rintro e y2 ⟨rfl, hA', hg'⟩
  have hB' := blk_keep hg' hB hlt
  have hG' := hG.trans hg'
  clear C hA hB hG hg' e0 e1 e2 e3
  have hA := hA'
  have hB := hB'
  have hG := hG'
  clear hA' hB' hG' 
  have e0 := cell_heap (k := 2) (v := .int .i64 0) hB rfl
  have e1 := blk_frozen (j := 2) hB
  have hB' : (y2.setCell ⟨w.heap.size, 2, none⟩ (.int .i64 r2.1)).heap[w.heap.size]? = some (.cells #[.int .i64 r0.1, .int .i64 r1.1, .int .i64 r2.1] 116 (0, 0)) := heap_setCell_same y2 w.heap.size 2 _ _ _ hB
  have hA' := hA.set hlt 2 (.int .i64 r2.1)
  have hG' := gb_set hG (Nat.le_refl _) 2 (.int .i64 r2.1)
  clear hA hB hG
  have hA := hA'
  have hB := hB'
  have hG := hG'
  clear hA' hB' hG' 
  have e2 := cell_heap (k := 0) (v := .int .i64 r0.1) hB rfl
  have e3 := blk_frozen (j := 0) hB
  have e4 := cell_heap (k := 1) (v := .int .i64 r1.1) hB rfl
  have e5 := blk_frozen (j := 1) hB
  have e6 := cell_heap (k := 2) (v := .int .i64 r2.1) hB rfl
  have e7 := blk_frozen (j := 2) hB
  go_wp2
  have hB' : ((y2.setCell ⟨w.heap.size, 2, none⟩ (.int .i64 r2.1)).setCell ⟨w.heap.size, 0, none⟩ (.int .i64 r0.1)).heap[w.heap.size]? = some (.cells #[.int .i64 r0.1, .int .i64 r1.1, .int .i64 r2.1] 116 (0, 0)) := heap_setCell_same (y2.setCell ⟨w.heap.size, 2, none⟩ (.int .i64 r2.1)) w.heap.size 0 _ _ _ hB
  have hA' := hA.set hlt 0 (.int .i64 r0.1)
  have hG' := gb_set hG (Nat.le_refl _) 0 (.int .i64 r0.1)
  clear hA hB hG
  have hA := hA'
  have hB := hB'
  have hG := hG'
  clear hA' hB' hG' 
  have hB' : (((y2.setCell ⟨w.heap.size, 2, none⟩ (.int .i64 r2.1)).setCell ⟨w.heap.size, 0, none⟩ (.int .i64 r0.1)).setCell ⟨w.heap.size, 1, none⟩ (.int .i64 r1.1)).heap[w.heap.size]? = some (.cells #[.int .i64 r0.1, .int .i64 r1.1, .int .i64 r2.1] 116 (0, 0)) := heap_setCell_same ((y2.setCell ⟨w.heap.size, 2, none⟩ (.int .i64 r2.1)).setCell ⟨w.heap.size, 0, none⟩ (.int .i64 r0.1)) w.heap.size 1 _ _ _ hB
  have hA' := hA.set hlt 1 (.int .i64 r1.1)
  have hG' := gb_set hG (Nat.le_refl _) 1 (.int .i64 r1.1)
  clear hA hB hG
  have hA := hA'
  have hB := hB'
  have hG := hG'
  clear hA' hB' hG' 
  have hB' : ((((y2.setCell ⟨w.heap.size, 2, none⟩ (.int .i64 r2.1)).setCell ⟨w.heap.size, 0, none⟩ (.int .i64 r0.1)).setCell ⟨w.heap.size, 1, none⟩ (.int .i64 r1.1)).setCell ⟨w.heap.size, 2, none⟩ (.int .i64 r2.1)).heap[w.heap.size]? = some (.cells #[.int .i64 r0.1, .int .i64 r1.1, .int .i64 r2.1] 116 (0, 0)) := heap_setCell_same (((y2.setCell ⟨w.heap.size, 2, none⟩ (.int .i64 r2.1)).setCell ⟨w.heap.size, 0, none⟩ (.int .i64 r0.1)).setCell ⟨w.heap.size, 1, none⟩ (.int .i64 r1.1)) w.heap.size 2 _ _ _ hB
  have hA' := hA.set hlt 2 (.int .i64 r2.1)
  have hG' := gb_set hG (Nat.le_refl _) 2 (.int .i64 r2.1)
  clear hA hB hG
  have hA := hA'
  have hB := hB'
  have hG := hG'
  clear hA' hB' hG' 
  refine bodyPost_ret (results_cell_row (p := 2) (ty := 116) rfl _ _ w.heap.size 116 #[.int .i64 r0.1, .int .i64 r1.1, .int .i64 r2.1] (0, 0) _ rfl hB Try.underlying116 rfl (by kernel_rfl)) rfl ?_
  have HV' := HV.out
  have q2 := hr2.out
  clear hr2
  subst q2
  have q1 := hr1.out
  clear hr1
  subst q1
  have q0 := hr0.out
  clear hr0
  subst q0
  subst HV'
  exact ⟨rfl, hA, hG⟩

set_option maxRecDepth 100000 in
set_option maxHeartbeats 4000000 in
theorem rtri_any (w : World) (rb : Nat) (a : Option Addr) (n c : Nat) (xs : List Int) (st : RS) (h : RdAt 123 (fun b => b) w rb a n c xs st) :
    Calls Try.prog 84 #[.pointer (some ⟨rb, 0, none⟩)] w fun e w' => e = .returned (.agg (triC (rdTri xs st).1).toArray) ∧ RdAt 123 (fun b => b) w' rb a n c xs (rdTri xs st).2 ∧ w.grownBy w' (some rb) := by
  have hlt := h.lt
  have N := Lib.hid (fun (W : World) (s : RS) (h : RdAt 123 (fun b => b) W rb a n c xs s) => rnumber_any W rb a n c xs s h)
  have SG := Lib.hid (fun (W : World) (s : RS) (h : RdAt 123 (fun b => b) W rb a n c xs s) => rsigned_any W rb a n c xs s h)
  have hA := h.alloc (.cells #[.int .i64 0, .int .i64 0, .int .i64 0, .int .i64 0, .int .i64 0, .int .i64 0, .int .i64 0, .int .i64 0, .int .i64 0, .int .i64 0] 112)
  have hB := World.alloc_heap_new w (.cells #[.int .i64 0, .int .i64 0, .int .i64 0, .int .i64 0, .int .i64 0, .int .i64 0, .int .i64 0, .int .i64 0, .int .i64 0, .int .i64 0] 112)
  have hG := World.grownBy_alloc w (.cells #[.int .i64 0, .int .i64 0, .int .i64 0, .int .i64 0, .int .i64 0, .int .i64 0, .int .i64 0, .int .i64 0, .int .i64 0, .int .i64 0] 112) (some rb)
  clear h
  obtain ⟨V, HV⟩ : ∃ V, Hid (V = rdTri xs st) := ⟨_, rfl⟩
  rw [← HV.out]
  go_enter Try.func84, Try.ntmps84
  obtain ⟨r0, hr0⟩ : ∃ r, Hid (r = rdNum xs st) := ⟨_, rfl⟩
  have C := N.out _ _ hA
  rw [← hr0.out] at C
  go_wp2_with fail
  refine C.mono ?_
  rintro e y0 ⟨rfl, hA', hg'⟩
  have hB' := blk_keep hg' hB hlt
  have hG' := hG.trans hg'
  clear C hA hB hG hg' 
  have hA := hA'
  have hB := hB'
  have hG := hG'
  clear hA' hB' hG' 
  have e0 := cell_heap (k := 0) (v := .int .i64 0) hB rfl
  have e1 := blk_frozen (j := 0) hB
  have hB' : (y0.setCell ⟨w.heap.size, 0, none⟩ (.int .i64 r0.1)).heap[w.heap.size]? = some (.cells #[.int .i64 r0.1, .int .i64 0, .int .i64 0, .int .i64 0, .int .i64 0, .int .i64 0, .int .i64 0, .int .i64 0, .int .i64 0, .int .i64 0] 112 (0, 0)) := heap_setCell_same y0 w.heap.size 0 _ _ _ hB
  have hA' := hA.set hlt 0 (.int .i64 r0.1)
  have hG' := gb_set hG (Nat.le_refl _) 0 (.int .i64 r0.1)
  clear hA hB hG
  have hA := hA'
  have hB := hB'
  have hG := hG'
  clear hA' hB' hG' 
  go_wp2_with fail
  refine wp_loop_rounds 4 ?_
  rw [rounds_succ]
  obtain ⟨r1, hr1⟩ : ∃ r, Hid (r = rdNum xs r0.2) := ⟨_, rfl⟩
  have C := N.out _ _ hA
  rw [← hr1.out] at C
  go_wp2_with fail
  refine C.mono ?_
  rintro e y1 ⟨rfl, hA', hg'⟩
  have hB' := blk_keep hg' hB hlt
  have hG' := hG.trans hg'
  clear C hA hB hG hg' e0 e1
  have hA := hA'
  have hB := hB'
  have hG := hG'
  clear hA' hB' hG' 
  obtain ⟨r2, hr2⟩ : ∃ r, Hid (r = rdSig xs r1.2) := ⟨_, rfl⟩
  have C := SG.out _ _ hA
  rw [← hr2.out] at C
  go_wp2_with fail
  refine C.mono ?_
  rintro e y2 ⟨rfl, hA', hg'⟩
  have hB' := blk_keep hg' hB hlt
  have hG' := hG.trans hg'
  clear C hA hB hG hg' 
  have hA := hA'
  have hB := hB'
  have hG := hG'
  clear hA' hB' hG' 
  obtain ⟨r3, hr3⟩ : ∃ r, Hid (r = rdNum xs r2.2) := ⟨_, rfl⟩
  have C := N.out _ _ hA
  rw [← hr3.out] at C
  go_wp2_with fail
  refine C.mono ?_
  rintro e y3 ⟨rfl, hA', hg'⟩
  have hB' := blk_keep hg' hB hlt
  have hG' := hG.trans hg'
  clear C hA hB hG hg' 
  have hA := hA'
  have hB := hB'
  have hG := hG'
  clear hA' hB' hG' 
  have e0 := cell_heap (k := 1) (v := .int .i64 0) hB rfl
  have e1 := blk_frozen (j := 1) hB
  have hB' : (y3.setCell ⟨w.heap.size, 1, none⟩ (.int .i64 r1.1)).heap[w.heap.size]? = some (.cells #[.int .i64 r0.1, .int .i64 r1.1, .int .i64 0, .int .i64 0, .int .i64 0, .int .i64 0, .int .i64 0, .int .i64 0, .int .i64 0, .int .i64 0] 112 (0, 0)) := heap_setCell_same y3 w.heap.size 1 _ _ _ hB
  have hA' := hA.set hlt 1 (.int .i64 r1.1)
  have hG' := gb_set hG (Nat.le_refl _) 1 (.int .i64 r1.1)
  clear hA hB hG
  have hA := hA'
  have hB := hB'
  have hG := hG'
  clear hA' hB' hG' 
  have e2 := cell_heap (k := 2) (v := .int .i64 0) hB rfl
  have e3 := blk_frozen (j := 2) hB
  have hB' : ((y3.setCell ⟨w.heap.size, 1, none⟩ (.int .i64 r1.1)).setCell ⟨w.heap.size, 2, none⟩ (.int .i64 r2.1)).heap[w.heap.size]? = some (.cells #[.int .i64 r0.1, .int .i64 r1.1, .int .i64 r2.1, .int .i64 0, .int .i64 0, .int .i64 0, .int .i64 0, .int .i64 0, .int .i64 0, .int .i64 0] 112 (0, 0)) := heap_setCell_same (y3.setCell ⟨w.heap.size, 1, none⟩ (.int .i64 r1.1)) w.heap.size 2 _ _ _ hB
  have hA' := hA.set hlt 2 (.int .i64 r2.1)
  have hG' := gb_set hG (Nat.le_refl _) 2 (.int .i64 r2.1)
  clear hA hB hG
  have hA := hA'
  have hB := hB'
  have hG := hG'
  clear hA' hB' hG' 
  have e4 := cell_heap (k := 3) (v := .int .i64 0) hB rfl
  have e5 := blk_frozen (j := 3) hB
  have hB' : (((y3.setCell ⟨w.heap.size, 1, none⟩ (.int .i64 r1.1)).setCell ⟨w.heap.size, 2, none⟩ (.int .i64 r2.1)).setCell ⟨w.heap.size, 3, none⟩ (.int .i64 r3.1)).heap[w.heap.size]? = some (.cells #[.int .i64 r0.1, .int .i64 r1.1, .int .i64 r2.1, .int .i64 r3.1, .int .i64 0, .int .i64 0, .int .i64 0, .int .i64 0, .int .i64 0, .int .i64 0] 112 (0, 0)) := heap_setCell_same ((y3.setCell ⟨w.heap.size, 1, none⟩ (.int .i64 r1.1)).setCell ⟨w.heap.size, 2, none⟩ (.int .i64 r2.1)) w.heap.size 3 _ _ _ hB
  have hA' := hA.set hlt 3 (.int .i64 r3.1)
  have hG' := gb_set hG (Nat.le_refl _) 3 (.int .i64 r3.1)
  clear hA hB hG
  have hA := hA'
  have hB := hB'
  have hG := hG'
  clear hA' hB' hG' 
  go_wp2_with fail
  rw [rounds_succ]
  obtain ⟨r4, hr4⟩ : ∃ r, Hid (r = rdNum xs r3.2) := ⟨_, rfl⟩
  have C := N.out _ _ hA
  rw [← hr4.out] at C
  go_wp2_with fail
  refine C.mono ?_
  rintro e y4 ⟨rfl, hA', hg'⟩
  have hB' := blk_keep hg' hB hlt
  have hG' := hG.trans hg'
  clear C hA hB hG hg' e0 e1 e2 e3 e4 e5
  have hA := hA'
  have hB := hB'
  have hG := hG'
  clear hA' hB' hG' 
  obtain ⟨r5, hr5⟩ : ∃ r, Hid (r = rdSig xs r4.2) := ⟨_, rfl⟩
  have C := SG.out _ _ hA
  rw [← hr5.out] at C
  go_wp2_with fail
  refine C.mono ?_
  rintro e y5 ⟨rfl, hA', hg'⟩
  have hB' := blk_keep hg' hB hlt
  have hG' := hG.trans hg'
  clear C hA hB hG hg' 
  have hA := hA'
  have hB := hB'
  have hG := hG'
  clear hA' hB' hG' 
  obtain ⟨r6, hr6⟩ : ∃ r, Hid (r = rdNum xs r5.2) := ⟨_, rfl⟩
  have C := N.out _ _ hA
  rw [← hr6.out] at C
  go_wp2_with fail
  refine C.mono ?_
  rintro e y6 ⟨rfl, hA', hg'⟩
  have hB' := blk_keep hg' hB hlt
  have hG' := hG.trans hg'
  clear C hA hB hG hg' 
  have hA := hA'
  have hB := hB'
  have hG := hG'
  clear hA' hB' hG' 
  have e0 := cell_heap (k := 4) (v := .int .i64 0) hB rfl
  have e1 := blk_frozen (j := 4) hB
  have hB' : (y6.setCell ⟨w.heap.size, 4, none⟩ (.int .i64 r4.1)).heap[w.heap.size]? = some (.cells #[.int .i64 r0.1, .int .i64 r1.1, .int .i64 r2.1, .int .i64 r3.1, .int .i64 r4.1, .int .i64 0, .int .i64 0, .int .i64 0, .int .i64 0, .int .i64 0] 112 (0, 0)) := heap_setCell_same y6 w.heap.size 4 _ _ _ hB
  have hA' := hA.set hlt 4 (.int .i64 r4.1)
  have hG' := gb_set hG (Nat.le_refl _) 4 (.int .i64 r4.1)
  clear hA hB hG
  have hA := hA'
  have hB := hB'
  have hG := hG'
  clear hA' hB' hG' 
  have e2 := cell_heap (k := 5) (v := .int .i64 0) hB rfl
  have e3 := blk_frozen (j := 5) hB
  have hB' : ((y6.setCell ⟨w.heap.size, 4, none⟩ (.int .i64 r4.1)).setCell ⟨w.heap.size, 5, none⟩ (.int .i64 r5.1)).heap[w.heap.size]? = some (.cells #[.int .i64 r0.1, .int .i64 r1.1, .int .i64 r2.1, .int .i64 r3.1, .int .i64 r4.1, .int .i64 r5.1, .int .i64 0, .int .i64 0, .int .i64 0, .int .i64 0] 112 (0, 0)) := heap_setCell_same (y6.setCell ⟨w.heap.size, 4, none⟩ (.int .i64 r4.1)) w.heap.size 5 _ _ _ hB
  have hA' := hA.set hlt 5 (.int .i64 r5.1)
  have hG' := gb_set hG (Nat.le_refl _) 5 (.int .i64 r5.1)
  clear hA hB hG
  have hA := hA'
  have hB := hB'
  have hG := hG'
  clear hA' hB' hG' 
  have e4 := cell_heap (k := 6) (v := .int .i64 0) hB rfl
  have e5 := blk_frozen (j := 6) hB
  have hB' : (((y6.setCell ⟨w.heap.size, 4, none⟩ (.int .i64 r4.1)).setCell ⟨w.heap.size, 5, none⟩ (.int .i64 r5.1)).setCell ⟨w.heap.size, 6, none⟩ (.int .i64 r6.1)).heap[w.heap.size]? = some (.cells #[.int .i64 r0.1, .int .i64 r1.1, .int .i64 r2.1, .int .i64 r3.1, .int .i64 r4.1, .int .i64 r5.1, .int .i64 r6.1, .int .i64 0, .int .i64 0, .int .i64 0] 112 (0, 0)) := heap_setCell_same ((y6.setCell ⟨w.heap.size, 4, none⟩ (.int .i64 r4.1)).setCell ⟨w.heap.size, 5, none⟩ (.int .i64 r5.1)) w.heap.size 6 _ _ _ hB
  have hA' := hA.set hlt 6 (.int .i64 r6.1)
  have hG' := gb_set hG (Nat.le_refl _) 6 (.int .i64 r6.1)
  clear hA hB hG
  have hA := hA'
  have hB := hB'
  have hG := hG'
  clear hA' hB' hG' 
  go_wp2_with fail
  rw [rounds_succ]
  obtain ⟨r7, hr7⟩ : ∃ r, Hid (r = rdNum xs r6.2) := ⟨_, rfl⟩
  have C := N.out _ _ hA
  rw [← hr7.out] at C
  go_wp2_with fail
  refine C.mono ?_
  rintro e y7 ⟨rfl, hA', hg'⟩
  have hB' := blk_keep hg' hB hlt
  have hG' := hG.trans hg'
  clear C hA hB hG hg' e0 e1 e2 e3 e4 e5
  have hA := hA'
  have hB := hB'
  have hG := hG'
  clear hA' hB' hG' 
  obtain ⟨r8, hr8⟩ : ∃ r, Hid (r = rdSig xs r7.2) := ⟨_, rfl⟩
  have C := SG.out _ _ hA
  rw [← hr8.out] at C
  go_wp2_with fail
  refine C.mono ?_
  rintro e y8 ⟨rfl, hA', hg'⟩
  have hB' := blk_keep hg' hB hlt
  have hG' := hG.trans hg'
  clear C hA hB hG hg' 
  have hA := hA'
  have hB := hB'
  have hG := hG'
  clear hA' hB' hG' 
  obtain ⟨r9, hr9⟩ : ∃ r, Hid (r = rdNum xs r8.2) := ⟨_, rfl⟩
  have C := N.out _ _ hA
  rw [← hr9.out] at C
  go_wp2_with fail
  refine C.mono ?_
  rintro e y9 ⟨rfl, hA', hg'⟩
  have hB' := blk_keep hg' hB hlt
  have hG' := hG.trans hg'
  clear C hA hB hG hg' 
  have hA := hA'
  have hB := hB'
  have hG := hG'
  clear hA' hB' hG' 
  have e0 := cell_heap (k := 7) (v := .int .i64 0) hB rfl
  have e1 := blk_frozen (j := 7) hB
  have hB' : (y9.setCell ⟨w.heap.size, 7, none⟩ (.int .i64 r7.1)).heap[w.heap.size]? = some (.cells #[.int .i64 r0.1, .int .i64 r1.1, .int .i64 r2.1, .int .i64 r3.1, .int .i64 r4.1, .int .i64 r5.1, .int .i64 r6.1, .int .i64 r7.1, .int .i64 0, .int .i64 0] 112 (0, 0)) := heap_setCell_same y9 w.heap.size 7 _ _ _ hB
  have hA' := hA.set hlt 7 (.int .i64 r7.1)
  have hG' := gb_set hG (Nat.le_refl _) 7 (.int .i64 r7.1)
  clear hA hB hG
  have hA := hA'
  have hB := hB'
  have hG := hG'
  clear hA' hB' hG' 
  have e2 := cell_heap (k := 8) (v := .int .i64 0) hB rfl
  have e3 := blk_frozen (j := 8) hB
  have hB' : ((y9.setCell ⟨w.heap.size, 7, none⟩ (.int .i64 r7.1)).setCell ⟨w.heap.size, 8, none⟩ (.int .i64 r8.1)).heap[w.heap.size]? = some (.cells #[.int .i64 r0.1, .int .i64 r1.1, .int .i64 r2.1, .int .i64 r3.1, .int .i64 r4.1, .int .i64 r5.1, .int .i64 r6.1, .int .i64 r7.1, .int .i64 r8.1, .int .i64 0] 112 (0, 0)) := heap_setCell_same (y9.setCell ⟨w.heap.size, 7, none⟩ (.int .i64 r7.1)) w.heap.size 8 _ _ _ hB
  have hA' := hA.set hlt 8 (.int .i64 r8.1)
  have hG' := gb_set hG (Nat.le_refl _) 8 (.int .i64 r8.1)
  clear hA hB hG
  have hA := hA'
  have hB := hB'
  have hG := hG'
  clear hA' hB' hG' 
  have e4 := cell_heap (k := 9) (v := .int .i64 0) hB rfl
  have e5 := blk_frozen (j := 9) hB
  have hB' : (((y9.setCell ⟨w.heap.size, 7, none⟩ (.int .i64 r7.1)).setCell ⟨w.heap.size, 8, none⟩ (.int .i64 r8.1)).setCell ⟨w.heap.size, 9, none⟩ (.int .i64 r9.1)).heap[w.heap.size]? = some (.cells #[.int .i64 r0.1, .int .i64 r1.1, .int .i64 r2.1, .int .i64 r3.1, .int .i64 r4.1, .int .i64 r5.1, .int .i64 r6.1, .int .i64 r7.1, .int .i64 r8.1, .int .i64 r9.1] 112 (0, 0)) := heap_setCell_same ((y9.setCell ⟨w.heap.size, 7, none⟩ (.int .i64 r7.1)).setCell ⟨w.heap.size, 8, none⟩ (.int .i64 r8.1)) w.heap.size 9 _ _ _ hB
  have hA' := hA.set hlt 9 (.int .i64 r9.1)
  have hG' := gb_set hG (Nat.le_refl _) 9 (.int .i64 r9.1)
  clear hA hB hG
  have hA := hA'
  have hB := hB'
  have hG := hG'
  clear hA' hB' hG' 
  go_wp2_with fail
  rw [rounds_succ]
  have e6 := cell_heap (k := 0) (v := .int .i64 r0.1) hB rfl
  have e7 := blk_frozen (j := 0) hB
  have e8 := cell_heap (k := 1) (v := .int .i64 r1.1) hB rfl
  have e9 := blk_frozen (j := 1) hB
  have e10 := cell_heap (k := 2) (v := .int .i64 r2.1) hB rfl
  have e11 := blk_frozen (j := 2) hB
  have e12 := cell_heap (k := 3) (v := .int .i64 r3.1) hB rfl
  have e13 := blk_frozen (j := 3) hB
  have e14 := cell_heap (k := 4) (v := .int .i64 r4.1) hB rfl
  have e15 := blk_frozen (j := 4) hB
  have e16 := cell_heap (k := 5) (v := .int .i64 r5.1) hB rfl
  have e17 := blk_frozen (j := 5) hB
  have e18 := cell_heap (k := 6) (v := .int .i64 r6.1) hB rfl
  have e19 := blk_frozen (j := 6) hB
  have e20 := cell_heap (k := 7) (v := .int .i64 r7.1) hB rfl
  have e21 := blk_frozen (j := 7) hB
  have e22 := cell_heap (k := 8) (v := .int .i64 r8.1) hB rfl
  have e23 := blk_frozen (j := 8) hB
  have e24 := cell_heap (k := 9) (v := .int .i64 r9.1) hB rfl
  have e25 := blk_frozen (j := 9) hB
  go_wp2
  have hB' : ((((y9.setCell ⟨w.heap.size, 7, none⟩ (.int .i64 r7.1)).setCell ⟨w.heap.size, 8, none⟩ (.int .i64 r8.1)).setCell ⟨w.heap.size, 9, none⟩ (.int .i64 r9.1)).setCell ⟨w.heap.size, 0, none⟩ (.int .i64 r0.1)).heap[w.heap.size]? = some (.cells #[.int .i64 r0.1, .int .i64 r1.1, .int .i64 r2.1, .int .i64 r3.1, .int .i64 r4.1, .int .i64 r5.1, .int .i64 r6.1, .int .i64 r7.1, .int .i64 r8.1, .int .i64 r9.1] 112 (0, 0)) := heap_setCell_same (((y9.setCell ⟨w.heap.size, 7, none⟩ (.int .i64 r7.1)).setCell ⟨w.heap.size, 8, none⟩ (.int .i64 r8.1)).setCell ⟨w.heap.size, 9, none⟩ (.int .i64 r9.1)) w.heap.size 0 _ _ _ hB
  have hA' := hA.set hlt 0 (.int .i64 r0.1)
  have hG' := gb_set hG (Nat.le_refl _) 0 (.int .i64 r0.1)
  clear hA hB hG
  have hA := hA'
  have hB := hB'
  have hG := hG'
  clear hA' hB' hG' 
  have hB' : (((((y9.setCell ⟨w.heap.size, 7, none⟩ (.int .i64 r7.1)).setCell ⟨w.heap.size, 8, none⟩ (.int .i64 r8.1)).setCell ⟨w.heap.size, 9, none⟩ (.int .i64 r9.1)).setCell ⟨w.heap.size, 0, none⟩ (.int .i64 r0.1)).setCell ⟨w.heap.size, 1, none⟩ (.int .i64 r1.1)).heap[w.heap.size]? = some (.cells #[.int .i64 r0.1, .int .i64 r1.1, .int .i64 r2.1, .int .i64 r3.1, .int .i64 r4.1, .int .i64 r5.1, .int .i64 r6.1, .int .i64 r7.1, .int .i64 r8.1, .int .i64 r9.1] 112 (0, 0)) := heap_setCell_same ((((y9.setCell ⟨w.heap.size, 7, none⟩ (.int .i64 r7.1)).setCell ⟨w.heap.size, 8, none⟩ (.int .i64 r8.1)).setCell ⟨w.heap.size, 9, none⟩ (.int .i64 r9.1)).setCell ⟨w.heap.size, 0, none⟩ (.int .i64 r0.1)) w.heap.size 1 _ _ _ hB
  have hA' := hA.set hlt 1 (.int .i64 r1.1)
  have hG' := gb_set hG (Nat.le_refl _) 1 (.int .i64 r1.1)
  clear hA hB hG
  have hA := hA'
  have hB := hB'
  have hG := hG'
  clear hA' hB' hG' 
  have hB' : ((((((y9.setCell ⟨w.heap.size, 7, none⟩ (.int .i64 r7.1)).setCell ⟨w.heap.size, 8, none⟩ (.int .i64 r8.1)).setCell ⟨w.heap.size, 9, none⟩ (.int .i64 r9.1)).setCell ⟨w.heap.size, 0, none⟩ (.int .i64 r0.1)).setCell ⟨w.heap.size, 1, none⟩ (.int .i64 r1.1)).setCell ⟨w.heap.size, 2, none⟩ (.int .i64 r2.1)).heap[w.heap.size]? = some (.cells #[.int .i64 r0.1, .int .i64 r1.1, .int .i64 r2.1, .int .i64 r3.1, .int .i64 r4.1, .int .i64 r5.1, .int .i64 r6.1, .int .i64 r7.1, .int .i64 r8.1, .int .i64 r9.1] 112 (0, 0)) := heap_setCell_same (((((y9.setCell ⟨w.heap.size, 7, none⟩ (.int .i64 r7.1)).setCell ⟨w.heap.size, 8, none⟩ (.int .i64 r8.1)).setCell ⟨w.heap.size, 9, none⟩ (.int .i64 r9.1)).setCell ⟨w.heap.size, 0, none⟩ (.int .i64 r0.1)).setCell ⟨w.heap.size, 1, none⟩ (.int .i64 r1.1)) w.heap.size 2 _ _ _ hB
  have hA' := hA.set hlt 2 (.int .i64 r2.1)
  have hG' := gb_set hG (Nat.le_refl _) 2 (.int .i64 r2.1)
  clear hA hB hG
  have hA := hA'
  have hB := hB'
  have hG := hG'
  clear hA' hB' hG' 
  have hB' : (((((((y9.setCell ⟨w.heap.size, 7, none⟩ (.int .i64 r7.1)).setCell ⟨w.heap.size, 8, none⟩ (.int .i64 r8.1)).setCell ⟨w.heap.size, 9, none⟩ (.int .i64 r9.1)).setCell ⟨w.heap.size, 0, none⟩ (.int .i64 r0.1)).setCell ⟨w.heap.size, 1, none⟩ (.int .i64 r1.1)).setCell ⟨w.heap.size, 2, none⟩ (.int .i64 r2.1)).setCell ⟨w.heap.size, 3, none⟩ (.int .i64 r3.1)).heap[w.heap.size]? = some (.cells #[.int .i64 r0.1, .int .i64 r1.1, .int .i64 r2.1, .int .i64 r3.1, .int .i64 r4.1, .int .i64 r5.1, .int .i64 r6.1, .int .i64 r7.1, .int .i64 r8.1, .int .i64 r9.1] 112 (0, 0)) := heap_setCell_same ((((((y9.setCell ⟨w.heap.size, 7, none⟩ (.int .i64 r7.1)).setCell ⟨w.heap.size, 8, none⟩ (.int .i64 r8.1)).setCell ⟨w.heap.size, 9, none⟩ (.int .i64 r9.1)).setCell ⟨w.heap.size, 0, none⟩ (.int .i64 r0.1)).setCell ⟨w.heap.size, 1, none⟩ (.int .i64 r1.1)).setCell ⟨w.heap.size, 2, none⟩ (.int .i64 r2.1)) w.heap.size 3 _ _ _ hB
  have hA' := hA.set hlt 3 (.int .i64 r3.1)
  have hG' := gb_set hG (Nat.le_refl _) 3 (.int .i64 r3.1)
  clear hA hB hG
  have hA := hA'
  have hB := hB'
  have hG := hG'
  clear hA' hB' hG' 
  have hB' : ((((((((y9.setCell ⟨w.heap.size, 7, none⟩ (.int .i64 r7.1)).setCell ⟨w.heap.size, 8, none⟩ (.int .i64 r8.1)).setCell ⟨w.heap.size, 9, none⟩ (.int .i64 r9.1)).setCell ⟨w.heap.size, 0, none⟩ (.int .i64 r0.1)).setCell ⟨w.heap.size, 1, none⟩ (.int .i64 r1.1)).setCell ⟨w.heap.size, 2, none⟩ (.int .i64 r2.1)).setCell ⟨w.heap.size, 3, none⟩ (.int .i64 r3.1)).setCell ⟨w.heap.size, 4, none⟩ (.int .i64 r4.1)).heap[w.heap.size]? = some (.cells #[.int .i64 r0.1, .int .i64 r1.1, .int .i64 r2.1, .int .i64 r3.1, .int .i64 r4.1, .int .i64 r5.1, .int .i64 r6.1, .int .i64 r7.1, .int .i64 r8.1, .int .i64 r9.1] 112 (0, 0)) := heap_setCell_same (((((((y9.setCell ⟨w.heap.size, 7, none⟩ (.int .i64 r7.1)).setCell ⟨w.heap.size, 8, none⟩ (.int .i64 r8.1)).setCell ⟨w.heap.size, 9, none⟩ (.int .i64 r9.1)).setCell ⟨w.heap.size, 0, none⟩ (.int .i64 r0.1)).setCell ⟨w.heap.size, 1, none⟩ (.int .i64 r1.1)).setCell ⟨w.heap.size, 2, none⟩ (.int .i64 r2.1)).setCell ⟨w.heap.size, 3, none⟩ (.int .i64 r3.1)) w.heap.size 4 _ _ _ hB
  have hA' := hA.set hlt 4 (.int .i64 r4.1)
  have hG' := gb_set hG (Nat.le_refl _) 4 (.int .i64 r4.1)
  clear hA hB hG
  have hA := hA'
  have hB := hB'
  have hG := hG'
  clear hA' hB' hG' 
  have hB' : (((((((((y9.setCell ⟨w.heap.size, 7, none⟩ (.int .i64 r7.1)).setCell ⟨w.heap.size, 8, none⟩ (.int .i64 r8.1)).setCell ⟨w.heap.size, 9, none⟩ (.int .i64 r9.1)).setCell ⟨w.heap.size, 0, none⟩ (.int .i64 r0.1)).setCell ⟨w.heap.size, 1, none⟩ (.int .i64 r1.1)).setCell ⟨w.heap.size, 2, none⟩ (.int .i64 r2.1)).setCell ⟨w.heap.size, 3, none⟩ (.int .i64 r3.1)).setCell ⟨w.heap.size, 4, none⟩ (.int .i64 r4.1)).setCell ⟨w.heap.size, 5, none⟩ (.int .i64 r5.1)).heap[w.heap.size]? = some (.cells #[.int .i64 r0.1, .int .i64 r1.1, .int .i64 r2.1, .int .i64 r3.1, .int .i64 r4.1, .int .i64 r5.1, .int .i64 r6.1, .int .i64 r7.1, .int .i64 r8.1, .int .i64 r9.1] 112 (0, 0)) := heap_setCell_same ((((((((y9.setCell ⟨w.heap.size, 7, none⟩ (.int .i64 r7.1)).setCell ⟨w.heap.size, 8, none⟩ (.int .i64 r8.1)).setCell ⟨w.heap.size, 9, none⟩ (.int .i64 r9.1)).setCell ⟨w.heap.size, 0, none⟩ (.int .i64 r0.1)).setCell ⟨w.heap.size, 1, none⟩ (.int .i64 r1.1)).setCell ⟨w.heap.size, 2, none⟩ (.int .i64 r2.1)).setCell ⟨w.heap.size, 3, none⟩ (.int .i64 r3.1)).setCell ⟨w.heap.size, 4, none⟩ (.int .i64 r4.1)) w.heap.size 5 _ _ _ hB
  have hA' := hA.set hlt 5 (.int .i64 r5.1)
  have hG' := gb_set hG (Nat.le_refl _) 5 (.int .i64 r5.1)
  clear hA hB hG
  have hA := hA'
  have hB := hB'
  have hG := hG'
  clear hA' hB' hG' 
  have hB' : ((((((((((y9.setCell ⟨w.heap.size, 7, none⟩ (.int .i64 r7.1)).setCell ⟨w.heap.size, 8, none⟩ (.int .i64 r8.1)).setCell ⟨w.heap.size, 9, none⟩ (.int .i64 r9.1)).setCell ⟨w.heap.size, 0, none⟩ (.int .i64 r0.1)).setCell ⟨w.heap.size, 1, none⟩ (.int .i64 r1.1)).setCell ⟨w.heap.size, 2, none⟩ (.int .i64 r2.1)).setCell ⟨w.heap.size, 3, none⟩ (.int .i64 r3.1)).setCell ⟨w.heap.size, 4, none⟩ (.int .i64 r4.1)).setCell ⟨w.heap.size, 5, none⟩ (.int .i64 r5.1)).setCell ⟨w.heap.size, 6, none⟩ (.int .i64 r6.1)).heap[w.heap.size]? = some (.cells #[.int .i64 r0.1, .int .i64 r1.1, .int .i64 r2.1, .int .i64 r3.1, .int .i64 r4.1, .int .i64 r5.1, .int .i64 r6.1, .int .i64 r7.1, .int .i64 r8.1, .int .i64 r9.1] 112 (0, 0)) := heap_setCell_same (((((((((y9.setCell ⟨w.heap.size, 7, none⟩ (.int .i64 r7.1)).setCell ⟨w.heap.size, 8, none⟩ (.int .i64 r8.1)).setCell ⟨w.heap.size, 9, none⟩ (.int .i64 r9.1)).setCell ⟨w.heap.size, 0, none⟩ (.int .i64 r0.1)).setCell ⟨w.heap.size, 1, none⟩ (.int .i64 r1.1)).setCell ⟨w.heap.size, 2, none⟩ (.int .i64 r2.1)).setCell ⟨w.heap.size, 3, none⟩ (.int .i64 r3.1)).setCell ⟨w.heap.size, 4, none⟩ (.int .i64 r4.1)).setCell ⟨w.heap.size, 5, none⟩ (.int .i64 r5.1)) w.heap.size 6 _ _ _ hB
  have hA' := hA.set hlt 6 (.int .i64 r6.1)
  have hG' := gb_set hG (Nat.le_refl _) 6 (.int .i64 r6.1)
  clear hA hB hG
  have hA := hA'
  have hB := hB'
  have hG := hG'
  clear hA' hB' hG' 
  have hB' : (((((((((((y9.setCell ⟨w.heap.size, 7, none⟩ (.int .i64 r7.1)).setCell ⟨w.heap.size, 8, none⟩ (.int .i64 r8.1)).setCell ⟨w.heap.size, 9, none⟩ (.int .i64 r9.1)).setCell ⟨w.heap.size, 0, none⟩ (.int .i64 r0.1)).setCell ⟨w.heap.size, 1, none⟩ (.int .i64 r1.1)).setCell ⟨w.heap.size, 2, none⟩ (.int .i64 r2.1)).setCell ⟨w.heap.size, 3, none⟩ (.int .i64 r3.1)).setCell ⟨w.heap.size, 4, none⟩ (.int .i64 r4.1)).setCell ⟨w.heap.size, 5, none⟩ (.int .i64 r5.1)).setCell ⟨w.heap.size, 6, none⟩ (.int .i64 r6.1)).setCell ⟨w.heap.size, 7, none⟩ (.int .i64 r7.1)).heap[w.heap.size]? = some (.cells #[.int .i64 r0.1, .int .i64 r1.1, .int .i64 r2.1, .int .i64 r3.1, .int .i64 r4.1, .int .i64 r5.1, .int .i64 r6.1, .int .i64 r7.1, .int .i64 r8.1, .int .i64 r9.1] 112 (0, 0)) := heap_setCell_same ((((((((((y9.setCell ⟨w.heap.size, 7, none⟩ (.int .i64 r7.1)).setCell ⟨w.heap.size, 8, none⟩ (.int .i64 r8.1)).setCell ⟨w.heap.size, 9, none⟩ (.int .i64 r9.1)).setCell ⟨w.heap.size, 0, none⟩ (.int .i64 r0.1)).setCell ⟨w.heap.size, 1, none⟩ (.int .i64 r1.1)).setCell ⟨w.heap.size, 2, none⟩ (.int .i64 r2.1)).setCell ⟨w.heap.size, 3, none⟩ (.int .i64 r3.1)).setCell ⟨w.heap.size, 4, none⟩ (.int .i64 r4.1)).setCell ⟨w.heap.size, 5, none⟩ (.int .i64 r5.1)).setCell ⟨w.heap.size, 6, none⟩ (.int .i64 r6.1)) w.heap.size 7 _ _ _ hB
  have hA' := hA.set hlt 7 (.int .i64 r7.1)
  have hG' := gb_set hG (Nat.le_refl _) 7 (.int .i64 r7.1)
  clear hA hB hG
  have hA := hA'
  have hB := hB'
  have hG := hG'
  clear hA' hB' hG' 
  have hB' : ((((((((((((y9.setCell ⟨w.heap.size, 7, none⟩ (.int .i64 r7.1)).setCell ⟨w.heap.size, 8, none⟩ (.int .i64 r8.1)).setCell ⟨w.heap.size, 9, none⟩ (.int .i64 r9.1)).setCell ⟨w.heap.size, 0, none⟩ (.int .i64 r0.1)).setCell ⟨w.heap.size, 1, none⟩ (.int .i64 r1.1)).setCell ⟨w.heap.size, 2, none⟩ (.int .i64 r2.1)).setCell ⟨w.heap.size, 3, none⟩ (.int .i64 r3.1)).setCell ⟨w.heap.size, 4, none⟩ (.int .i64 r4.1)).setCell ⟨w.heap.size, 5, none⟩ (.int .i64 r5.1)).setCell ⟨w.heap.size, 6, none⟩ (.int .i64 r6.1)).setCell ⟨w.heap.size, 7, none⟩ (.int .i64 r7.1)).setCell ⟨w.heap.size, 8, none⟩ (.int .i64 r8.1)).heap[w.heap.size]? = some (.cells #[.int .i64 r0.1, .int .i64 r1.1, .int .i64 r2.1, .int .i64 r3.1, .int .i64 r4.1, .int .i64 r5.1, .int .i64 r6.1, .int .i64 r7.1, .int .i64 r8.1, .int .i64 r9.1] 112 (0, 0)) := heap_setCell_same (((((((((((y9.setCell ⟨w.heap.size, 7, none⟩ (.int .i64 r7.1)).setCell ⟨w.heap.size, 8, none⟩ (.int .i64 r8.1)).setCell ⟨w.heap.size, 9, none⟩ (.int .i64 r9.1)).setCell ⟨w.heap.size, 0, none⟩ (.int .i64 r0.1)).setCell ⟨w.heap.size, 1, none⟩ (.int .i64 r1.1)).setCell ⟨w.heap.size, 2, none⟩ (.int .i64 r2.1)).setCell ⟨w.heap.size, 3, none⟩ (.int .i64 r3.1)).setCell ⟨w.heap.size, 4, none⟩ (.int .i64 r4.1)).setCell ⟨w.heap.size, 5, none⟩ (.int .i64 r5.1)).setCell ⟨w.heap.size, 6, none⟩ (.int .i64 r6.1)).setCell ⟨w.heap.size, 7, none⟩ (.int .i64 r7.1)) w.heap.size 8 _ _ _ hB
  have hA' := hA.set hlt 8 (.int .i64 r8.1)
  have hG' := gb_set hG (Nat.le_refl _) 8 (.int .i64 r8.1)
  clear hA hB hG
  have hA := hA'
  have hB := hB'
  have hG := hG'
  clear hA' hB' hG' 
  have hB' : (((((((((((((y9.setCell ⟨w.heap.size, 7, none⟩ (.int .i64 r7.1)).setCell ⟨w.heap.size, 8, none⟩ (.int .i64 r8.1)).setCell ⟨w.heap.size, 9, none⟩ (.int .i64 r9.1)).setCell ⟨w.heap.size, 0, none⟩ (.int .i64 r0.1)).setCell ⟨w.heap.size, 1, none⟩ (.int .i64 r1.1)).setCell ⟨w.heap.size, 2, none⟩ (.int .i64 r2.1)).setCell ⟨w.heap.size, 3, none⟩ (.int .i64 r3.1)).setCell ⟨w.heap.size, 4, none⟩ (.int .i64 r4.1)).setCell ⟨w.heap.size, 5, none⟩ (.int .i64 r5.1)).setCell ⟨w.heap.size, 6, none⟩ (.int .i64 r6.1)).setCell ⟨w.heap.size, 7, none⟩ (.int .i64 r7.1)).setCell ⟨w.heap.size, 8, none⟩ (.int .i64 r8.1)).setCell ⟨w.heap.size, 9, none⟩ (.int .i64 r9.1)).heap[w.heap.size]? = some (.cells #[.int .i64 r0.1, .int .i64 r1.1, .int .i64 r2.1, .int .i64 r3.1, .int .i64 r4.1, .int .i64 r5.1, .int .i64 r6.1, .int .i64 r7.1, .int .i64 r8.1, .int .i64 r9.1] 112 (0, 0)) := heap_setCell_same ((((((((((((y9.setCell ⟨w.heap.size, 7, none⟩ (.int .i64 r7.1)).setCell ⟨w.heap.size, 8, none⟩ (.int .i64 r8.1)).setCell ⟨w.heap.size, 9, none⟩ (.int .i64 r9.1)).setCell ⟨w.heap.size, 0, none⟩ (.int .i64 r0.1)).setCell ⟨w.heap.size, 1, none⟩ (.int .i64 r1.1)).setCell ⟨w.heap.size, 2, none⟩ (.int .i64 r2.1)).setCell ⟨w.heap.size, 3, none⟩ (.int .i64 r3.1)).setCell ⟨w.heap.size, 4, none⟩ (.int .i64 r4.1)).setCell ⟨w.heap.size, 5, none⟩ (.int .i64 r5.1)).setCell ⟨w.heap.size, 6, none⟩ (.int .i64 r6.1)).setCell ⟨w.heap.size, 7, none⟩ (.int .i64 r7.1)).setCell ⟨w.heap.size, 8, none⟩ (.int .i64 r8.1)) w.heap.size 9 _ _ _ hB
  have hA' := hA.set hlt 9 (.int .i64 r9.1)
  have hG' := gb_set hG (Nat.le_refl _) 9 (.int .i64 r9.1)
  clear hA hB hG
  have hA := hA'
  have hB := hB'
  have hG := hG'
  clear hA' hB' hG' 
  refine bodyPost_ret (results_cell_row (p := 2) (ty := 112) rfl _ _ w.heap.size 112 #[.int .i64 r0.1, .int .i64 r1.1, .int .i64 r2.1, .int .i64 r3.1, .int .i64 r4.1, .int .i64 r5.1, .int .i64 r6.1, .int .i64 r7.1, .int .i64 r8.1, .int .i64 r9.1] (0, 0) _ rfl hB Try.underlying112 rfl (by kernel_rfl)) rfl ?_
  have HV' := HV.out
  have q9 := hr9.out
  clear hr9
  subst q9
  have q8 := hr8.out
  clear hr8
  subst q8
  have q7 := hr7.out
  clear hr7
  subst q7
  have q6 := hr6.out
  clear hr6
  subst q6
  have q5 := hr5.out
  clear hr5
  subst q5
  have q4 := hr4.out
  clear hr4
  subst q4
  have q3 := hr3.out
  clear hr3
  subst q3
  have q2 := hr2.out
  clear hr2
  subst q2
  have q1 := hr1.out
  clear hr1
  subst q1
  have q0 := hr0.out
  clear hr0
  subst q0
  subst HV'
  exact ⟨rfl, hA, hG⟩

set_option maxRecDepth 100000 in
set_option maxHeartbeats 4000000 in
theorem rhop_any (w : World) (rb : Nat) (a : Option Addr) (n c : Nat) (xs : List Int) (st : RS) (h : RdAt 123 (fun b => b) w rb a n c xs st) :
    Calls Try.prog 88 #[.pointer (some ⟨rb, 0, none⟩)] w fun e w' => e = .returned (.agg (hpC (rdHp xs st).1).toArray) ∧ RdAt 123 (fun b => b) w' rb a n c xs (rdHp xs st).2 ∧ w.grownBy w' (some rb) := by
  have hlt := h.lt
  have N := Lib.hid (fun (W : World) (s : RS) (h : RdAt 123 (fun b => b) W rb a n c xs s) => rnumber_any W rb a n c xs s h)
  have SP := Lib.hid (fun (W : World) (s : RS) (h : RdAt 123 (fun b => b) W rb a n c xs s) => rspot_any W rb a n c xs s h)
  have UP := Lib.hid (fun (W : World) (s : RS) (h : RdAt 123 (fun b => b) W rb a n c xs s) => rup_any 1 W rb a n c xs s h)
  have hA := h.alloc (.cells #[.int .i64 0, .int .i64 0, .int .i64 0, .int .i64 0, .int .i64 0, .int .i64 0, .int .i64 0, .bool false, .int .i64 0, .int .i64 0] 118)
  have hB := World.alloc_heap_new w (.cells #[.int .i64 0, .int .i64 0, .int .i64 0, .int .i64 0, .int .i64 0, .int .i64 0, .int .i64 0, .bool false, .int .i64 0, .int .i64 0] 118)
  have hG := World.grownBy_alloc w (.cells #[.int .i64 0, .int .i64 0, .int .i64 0, .int .i64 0, .int .i64 0, .int .i64 0, .int .i64 0, .bool false, .int .i64 0, .int .i64 0] 118) (some rb)
  clear h
  obtain ⟨V, HV⟩ : ∃ V, Hid (V = rdHp xs st) := ⟨_, rfl⟩
  rw [← HV.out]
  go_enter Try.func88, Try.ntmps88
  obtain ⟨r0, hr0⟩ : ∃ r, Hid (r = rdNum xs st) := ⟨_, rfl⟩
  have C := N.out _ _ hA
  rw [← hr0.out] at C
  go_wp2_with fail
  refine C.mono ?_
  rintro e y0 ⟨rfl, hA', hg'⟩
  have hB' := blk_keep hg' hB hlt
  have hG' := hG.trans hg'
  clear C hA hB hG hg' 
  have hA := hA'
  have hB := hB'
  have hG := hG'
  clear hA' hB' hG' 
  have e0 := cell_heap (k := 0) (v := .int .i64 0) hB rfl
  have e1 := blk_frozen (j := 0) hB
  have hB' : (y0.setCell ⟨w.heap.size, 0, none⟩ (.int .i64 r0.1)).heap[w.heap.size]? = some (.cells #[.int .i64 r0.1, .int .i64 0, .int .i64 0, .int .i64 0, .int .i64 0, .int .i64 0, .int .i64 0, .bool false, .int .i64 0, .int .i64 0] 118 (0, 0)) := heap_setCell_same y0 w.heap.size 0 _ _ _ hB
  have hA' := hA.set hlt 0 (.int .i64 r0.1)
  have hG' := gb_set hG (Nat.le_refl _) 0 (.int .i64 r0.1)
  clear hA hB hG
  have hA := hA'
  have hB := hB'
  have hG := hG'
  clear hA' hB' hG' 
  obtain ⟨r1, hr1⟩ : ∃ r, Hid (r = rdSpt xs r0.2) := ⟨_, rfl⟩
  have C := SP.out _ _ hA
  rw [← hr1.out] at C
  go_wp2_with fail
  refine C.mono ?_
  rintro e y1 ⟨rfl, hA', hg'⟩
  have hB' := blk_keep hg' hB hlt
  have hG' := hG.trans hg'
  clear C hA hB hG hg' e0 e1
  have hA := hA'
  have hB := hB'
  have hG := hG'
  clear hA' hB' hG' 
  obtain ⟨r2, hr2⟩ : ∃ r, Hid (r = rdSpt xs r1.2) := ⟨_, rfl⟩
  have C := SP.out _ _ hA
  rw [← hr2.out] at C
  go_wp2_with fail
  refine C.mono ?_
  rintro e y2 ⟨rfl, hA', hg'⟩
  have hB' := blk_keep hg' hB hlt
  have hG' := hG.trans hg'
  clear C hA hB hG hg' 
  have hA := hA'
  have hB := hB'
  have hG := hG'
  clear hA' hB' hG' 
  have e0 := cell_heap (k := 1) (v := .int .i64 0) hB rfl
  have e1 := blk_frozen (j := 1) hB
  have hB' : (y2.setCell ⟨w.heap.size, 1, none⟩ (.int .i64 r1.1.x)).heap[w.heap.size]? = some (.cells #[.int .i64 r0.1, .int .i64 r1.1.x, .int .i64 0, .int .i64 0, .int .i64 0, .int .i64 0, .int .i64 0, .bool false, .int .i64 0, .int .i64 0] 118 (0, 0)) := heap_setCell_same y2 w.heap.size 1 _ _ _ hB
  have hA' := hA.set hlt 1 (.int .i64 r1.1.x)
  have hG' := gb_set hG (Nat.le_refl _) 1 (.int .i64 r1.1.x)
  clear hA hB hG
  have hA := hA'
  have hB := hB'
  have hG := hG'
  clear hA' hB' hG' 
  have e2 := cell_heap (k := 2) (v := .int .i64 0) hB rfl
  have e3 := blk_frozen (j := 2) hB
  have hB' : ((y2.setCell ⟨w.heap.size, 1, none⟩ (.int .i64 r1.1.x)).setCell ⟨w.heap.size, 2, none⟩ (.int .i64 r1.1.z)).heap[w.heap.size]? = some (.cells #[.int .i64 r0.1, .int .i64 r1.1.x, .int .i64 r1.1.z, .int .i64 0, .int .i64 0, .int .i64 0, .int .i64 0, .bool false, .int .i64 0, .int .i64 0] 118 (0, 0)) := heap_setCell_same (y2.setCell ⟨w.heap.size, 1, none⟩ (.int .i64 r1.1.x)) w.heap.size 2 _ _ _ hB
  have hA' := hA.set hlt 2 (.int .i64 r1.1.z)
  have hG' := gb_set hG (Nat.le_refl _) 2 (.int .i64 r1.1.z)
  clear hA hB hG
  have hA := hA'
  have hB := hB'
  have hG := hG'
  clear hA' hB' hG' 
  have e4 := cell_heap (k := 3) (v := .int .i64 0) hB rfl
  have e5 := blk_frozen (j := 3) hB
  have hB' : (((y2.setCell ⟨w.heap.size, 1, none⟩ (.int .i64 r1.1.x)).setCell ⟨w.heap.size, 2, none⟩ (.int .i64 r1.1.z)).setCell ⟨w.heap.size, 3, none⟩ (.int .i64 r1.1.y)).heap[w.heap.size]? = some (.cells #[.int .i64 r0.1, .int .i64 r1.1.x, .int .i64 r1.1.z, .int .i64 r1.1.y, .int .i64 0, .int .i64 0, .int .i64 0, .bool false, .int .i64 0, .int .i64 0] 118 (0, 0)) := heap_setCell_same ((y2.setCell ⟨w.heap.size, 1, none⟩ (.int .i64 r1.1.x)).setCell ⟨w.heap.size, 2, none⟩ (.int .i64 r1.1.z)) w.heap.size 3 _ _ _ hB
  have hA' := hA.set hlt 3 (.int .i64 r1.1.y)
  have hG' := gb_set hG (Nat.le_refl _) 3 (.int .i64 r1.1.y)
  clear hA hB hG
  have hA := hA'
  have hB := hB'
  have hG := hG'
  clear hA' hB' hG' 
  have e6 := cell_heap (k := 4) (v := .int .i64 0) hB rfl
  have e7 := blk_frozen (j := 4) hB
  have hB' : ((((y2.setCell ⟨w.heap.size, 1, none⟩ (.int .i64 r1.1.x)).setCell ⟨w.heap.size, 2, none⟩ (.int .i64 r1.1.z)).setCell ⟨w.heap.size, 3, none⟩ (.int .i64 r1.1.y)).setCell ⟨w.heap.size, 4, none⟩ (.int .i64 r2.1.x)).heap[w.heap.size]? = some (.cells #[.int .i64 r0.1, .int .i64 r1.1.x, .int .i64 r1.1.z, .int .i64 r1.1.y, .int .i64 r2.1.x, .int .i64 0, .int .i64 0, .bool false, .int .i64 0, .int .i64 0] 118 (0, 0)) := heap_setCell_same (((y2.setCell ⟨w.heap.size, 1, none⟩ (.int .i64 r1.1.x)).setCell ⟨w.heap.size, 2, none⟩ (.int .i64 r1.1.z)).setCell ⟨w.heap.size, 3, none⟩ (.int .i64 r1.1.y)) w.heap.size 4 _ _ _ hB
  have hA' := hA.set hlt 4 (.int .i64 r2.1.x)
  have hG' := gb_set hG (Nat.le_refl _) 4 (.int .i64 r2.1.x)
  clear hA hB hG
  have hA := hA'
  have hB := hB'
  have hG := hG'
  clear hA' hB' hG' 
  have e8 := cell_heap (k := 5) (v := .int .i64 0) hB rfl
  have e9 := blk_frozen (j := 5) hB
  have hB' : (((((y2.setCell ⟨w.heap.size, 1, none⟩ (.int .i64 r1.1.x)).setCell ⟨w.heap.size, 2, none⟩ (.int .i64 r1.1.z)).setCell ⟨w.heap.size, 3, none⟩ (.int .i64 r1.1.y)).setCell ⟨w.heap.size, 4, none⟩ (.int .i64 r2.1.x)).setCell ⟨w.heap.size, 5, none⟩ (.int .i64 r2.1.z)).heap[w.heap.size]? = some (.cells #[.int .i64 r0.1, .int .i64 r1.1.x, .int .i64 r1.1.z, .int .i64 r1.1.y, .int .i64 r2.1.x, .int .i64 r2.1.z, .int .i64 0, .bool false, .int .i64 0, .int .i64 0] 118 (0, 0)) := heap_setCell_same ((((y2.setCell ⟨w.heap.size, 1, none⟩ (.int .i64 r1.1.x)).setCell ⟨w.heap.size, 2, none⟩ (.int .i64 r1.1.z)).setCell ⟨w.heap.size, 3, none⟩ (.int .i64 r1.1.y)).setCell ⟨w.heap.size, 4, none⟩ (.int .i64 r2.1.x)) w.heap.size 5 _ _ _ hB
  have hA' := hA.set hlt 5 (.int .i64 r2.1.z)
  have hG' := gb_set hG (Nat.le_refl _) 5 (.int .i64 r2.1.z)
  clear hA hB hG
  have hA := hA'
  have hB := hB'
  have hG := hG'
  clear hA' hB' hG' 
  have e10 := cell_heap (k := 6) (v := .int .i64 0) hB rfl
  have e11 := blk_frozen (j := 6) hB
  have hB' : ((((((y2.setCell ⟨w.heap.size, 1, none⟩ (.int .i64 r1.1.x)).setCell ⟨w.heap.size, 2, none⟩ (.int .i64 r1.1.z)).setCell ⟨w.heap.size, 3, none⟩ (.int .i64 r1.1.y)).setCell ⟨w.heap.size, 4, none⟩ (.int .i64 r2.1.x)).setCell ⟨w.heap.size, 5, none⟩ (.int .i64 r2.1.z)).setCell ⟨w.heap.size, 6, none⟩ (.int .i64 r2.1.y)).heap[w.heap.size]? = some (.cells #[.int .i64 r0.1, .int .i64 r1.1.x, .int .i64 r1.1.z, .int .i64 r1.1.y, .int .i64 r2.1.x, .int .i64 r2.1.z, .int .i64 r2.1.y, .bool false, .int .i64 0, .int .i64 0] 118 (0, 0)) := heap_setCell_same (((((y2.setCell ⟨w.heap.size, 1, none⟩ (.int .i64 r1.1.x)).setCell ⟨w.heap.size, 2, none⟩ (.int .i64 r1.1.z)).setCell ⟨w.heap.size, 3, none⟩ (.int .i64 r1.1.y)).setCell ⟨w.heap.size, 4, none⟩ (.int .i64 r2.1.x)).setCell ⟨w.heap.size, 5, none⟩ (.int .i64 r2.1.z)) w.heap.size 6 _ _ _ hB
  have hA' := hA.set hlt 6 (.int .i64 r2.1.y)
  have hG' := gb_set hG (Nat.le_refl _) 6 (.int .i64 r2.1.y)
  clear hA hB hG
  have hA := hA'
  have hB := hB'
  have hG := hG'
  clear hA' hB' hG' 
  obtain ⟨r3, hr3⟩ : ∃ r, Hid (r = rdUp xs 1 r2.2) := ⟨_, rfl⟩
  have C := UP.out _ _ hA
  rw [← hr3.out] at C
  go_wp2_with fail
  refine C.mono ?_
  rintro e y3 ⟨rfl, hA', hg'⟩
  have hB' := blk_keep hg' hB hlt
  have hG' := hG.trans hg'
  clear C hA hB hG hg' e0 e1 e2 e3 e4 e5 e6 e7 e8 e9 e10 e11
  have hA := hA'
  have hB := hB'
  have hG := hG'
  clear hA' hB' hG' 
  have e0 := cell_heap (k := 7) (v := .bool false) hB rfl
  have e1 := blk_frozen (j := 7) hB
  have hB' : (y3.setCell ⟨w.heap.size, 7, none⟩ (.bool (decide (r3.1 = 1)))).heap[w.heap.size]? = some (.cells #[.int .i64 r0.1, .int .i64 r1.1.x, .int .i64 r1.1.z, .int .i64 r1.1.y, .int .i64 r2.1.x, .int .i64 r2.1.z, .int .i64 r2.1.y, .bool (decide (r3.1 = 1)), .int .i64 0, .int .i64 0] 118 (0, 0)) := heap_setCell_same y3 w.heap.size 7 _ _ _ hB
  have hA' := hA.set hlt 7 (.bool (decide (r3.1 = 1)))
  have hG' := gb_set hG (Nat.le_refl _) 7 (.bool (decide (r3.1 = 1)))
  clear hA hB hG
  have hA := hA'
  have hB := hB'
  have hG := hG'
  clear hA' hB' hG' 
  obtain ⟨r4, hr4⟩ : ∃ r, Hid (r = rdNum xs r3.2) := ⟨_, rfl⟩
  have C := N.out _ _ hA
  rw [← hr4.out] at C
  go_wp2_with fail
  refine C.mono ?_
  rintro e y4 ⟨rfl, hA', hg'⟩
  have hB' := blk_keep hg' hB hlt
  have hG' := hG.trans hg'
  clear C hA hB hG hg' e0 e1
  have hA := hA'
  have hB := hB'
  have hG := hG'
  clear hA' hB' hG' 
  obtain ⟨r5, hr5⟩ : ∃ r, Hid (r = rdNum xs r4.2) := ⟨_, rfl⟩
  have C := N.out _ _ hA
  rw [← hr5.out] at C
  go_wp2_with fail
  refine C.mono ?_
  rintro e y5 ⟨rfl, hA', hg'⟩
  have hB' := blk_keep hg' hB hlt
  have hG' := hG.trans hg'
  clear C hA hB hG hg' 
  have hA := hA'
  have hB := hB'
  have hG := hG'
  clear hA' hB' hG' 
  have e0 := cell_heap (k := 8) (v := .int .i64 0) hB rfl
  have e1 := blk_frozen (j := 8) hB
  have hB' : (y5.setCell ⟨w.heap.size, 8, none⟩ (.int .i64 r4.1)).heap[w.heap.size]? = some (.cells #[.int .i64 r0.1, .int .i64 r1.1.x, .int .i64 r1.1.z, .int .i64 r1.1.y, .int .i64 r2.1.x, .int .i64 r2.1.z, .int .i64 r2.1.y, .bool (decide (r3.1 = 1)), .int .i64 r4.1, .int .i64 0] 118 (0, 0)) := heap_setCell_same y5 w.heap.size 8 _ _ _ hB
  have hA' := hA.set hlt 8 (.int .i64 r4.1)
  have hG' := gb_set hG (Nat.le_refl _) 8 (.int .i64 r4.1)
  clear hA hB hG
  have hA := hA'
  have hB := hB'
  have hG := hG'
  clear hA' hB' hG' 
  have e2 := cell_heap (k := 9) (v := .int .i64 0) hB rfl
  have e3 := blk_frozen (j := 9) hB
  have hB' : ((y5.setCell ⟨w.heap.size, 8, none⟩ (.int .i64 r4.1)).setCell ⟨w.heap.size, 9, none⟩ (.int .i64 r5.1)).heap[w.heap.size]? = some (.cells #[.int .i64 r0.1, .int .i64 r1.1.x, .int .i64 r1.1.z, .int .i64 r1.1.y, .int .i64 r2.1.x, .int .i64 r2.1.z, .int .i64 r2.1.y, .bool (decide (r3.1 = 1)), .int .i64 r4.1, .int .i64 r5.1] 118 (0, 0)) := heap_setCell_same (y5.setCell ⟨w.heap.size, 8, none⟩ (.int .i64 r4.1)) w.heap.size 9 _ _ _ hB
  have hA' := hA.set hlt 9 (.int .i64 r5.1)
  have hG' := gb_set hG (Nat.le_refl _) 9 (.int .i64 r5.1)
  clear hA hB hG
  have hA := hA'
  have hB := hB'
  have hG := hG'
  clear hA' hB' hG' 
  have e4 := cell_heap (k := 0) (v := .int .i64 r0.1) hB rfl
  have e5 := blk_frozen (j := 0) hB
  have e6 := cell_heap (k := 1) (v := .int .i64 r1.1.x) hB rfl
  have e7 := blk_frozen (j := 1) hB
  have e8 := cell_heap (k := 2) (v := .int .i64 r1.1.z) hB rfl
  have e9 := blk_frozen (j := 2) hB
  have e10 := cell_heap (k := 3) (v := .int .i64 r1.1.y) hB rfl
  have e11 := blk_frozen (j := 3) hB
  have e12 := cell_heap (k := 4) (v := .int .i64 r2.1.x) hB rfl
  have e13 := blk_frozen (j := 4) hB
  have e14 := cell_heap (k := 5) (v := .int .i64 r2.1.z) hB rfl
  have e15 := blk_frozen (j := 5) hB
  have e16 := cell_heap (k := 6) (v := .int .i64 r2.1.y) hB rfl
  have e17 := blk_frozen (j := 6) hB
  have e18 := cell_heap (k := 7) (v := .bool (decide (r3.1 = 1))) hB rfl
  have e19 := blk_frozen (j := 7) hB
  have e20 := cell_heap (k := 8) (v := .int .i64 r4.1) hB rfl
  have e21 := blk_frozen (j := 8) hB
  have e22 := cell_heap (k := 9) (v := .int .i64 r5.1) hB rfl
  have e23 := blk_frozen (j := 9) hB
  go_wp2
  have hB' : (((y5.setCell ⟨w.heap.size, 8, none⟩ (.int .i64 r4.1)).setCell ⟨w.heap.size, 9, none⟩ (.int .i64 r5.1)).setCell ⟨w.heap.size, 0, none⟩ (.int .i64 r0.1)).heap[w.heap.size]? = some (.cells #[.int .i64 r0.1, .int .i64 r1.1.x, .int .i64 r1.1.z, .int .i64 r1.1.y, .int .i64 r2.1.x, .int .i64 r2.1.z, .int .i64 r2.1.y, .bool (decide (r3.1 = 1)), .int .i64 r4.1, .int .i64 r5.1] 118 (0, 0)) := heap_setCell_same ((y5.setCell ⟨w.heap.size, 8, none⟩ (.int .i64 r4.1)).setCell ⟨w.heap.size, 9, none⟩ (.int .i64 r5.1)) w.heap.size 0 _ _ _ hB
  have hA' := hA.set hlt 0 (.int .i64 r0.1)
  have hG' := gb_set hG (Nat.le_refl _) 0 (.int .i64 r0.1)
  clear hA hB hG
  have hA := hA'
  have hB := hB'
  have hG := hG'
  clear hA' hB' hG' 
  have hB' : ((((y5.setCell ⟨w.heap.size, 8, none⟩ (.int .i64 r4.1)).setCell ⟨w.heap.size, 9, none⟩ (.int .i64 r5.1)).setCell ⟨w.heap.size, 0, none⟩ (.int .i64 r0.1)).setCell ⟨w.heap.size, 1, none⟩ (.int .i64 r1.1.x)).heap[w.heap.size]? = some (.cells #[.int .i64 r0.1, .int .i64 r1.1.x, .int .i64 r1.1.z, .int .i64 r1.1.y, .int .i64 r2.1.x, .int .i64 r2.1.z, .int .i64 r2.1.y, .bool (decide (r3.1 = 1)), .int .i64 r4.1, .int .i64 r5.1] 118 (0, 0)) := heap_setCell_same (((y5.setCell ⟨w.heap.size, 8, none⟩ (.int .i64 r4.1)).setCell ⟨w.heap.size, 9, none⟩ (.int .i64 r5.1)).setCell ⟨w.heap.size, 0, none⟩ (.int .i64 r0.1)) w.heap.size 1 _ _ _ hB
  have hA' := hA.set hlt 1 (.int .i64 r1.1.x)
  have hG' := gb_set hG (Nat.le_refl _) 1 (.int .i64 r1.1.x)
  clear hA hB hG
  have hA := hA'
  have hB := hB'
  have hG := hG'
  clear hA' hB' hG' 
  have hB' : (((((y5.setCell ⟨w.heap.size, 8, none⟩ (.int .i64 r4.1)).setCell ⟨w.heap.size, 9, none⟩ (.int .i64 r5.1)).setCell ⟨w.heap.size, 0, none⟩ (.int .i64 r0.1)).setCell ⟨w.heap.size, 1, none⟩ (.int .i64 r1.1.x)).setCell ⟨w.heap.size, 2, none⟩ (.int .i64 r1.1.z)).heap[w.heap.size]? = some (.cells #[.int .i64 r0.1, .int .i64 r1.1.x, .int .i64 r1.1.z, .int .i64 r1.1.y, .int .i64 r2.1.x, .int .i64 r2.1.z, .int .i64 r2.1.y, .bool (decide (r3.1 = 1)), .int .i64 r4.1, .int .i64 r5.1] 118 (0, 0)) := heap_setCell_same ((((y5.setCell ⟨w.heap.size, 8, none⟩ (.int .i64 r4.1)).setCell ⟨w.heap.size, 9, none⟩ (.int .i64 r5.1)).setCell ⟨w.heap.size, 0, none⟩ (.int .i64 r0.1)).setCell ⟨w.heap.size, 1, none⟩ (.int .i64 r1.1.x)) w.heap.size 2 _ _ _ hB
  have hA' := hA.set hlt 2 (.int .i64 r1.1.z)
  have hG' := gb_set hG (Nat.le_refl _) 2 (.int .i64 r1.1.z)
  clear hA hB hG
  have hA := hA'
  have hB := hB'
  have hG := hG'
  clear hA' hB' hG' 
  have hB' : ((((((y5.setCell ⟨w.heap.size, 8, none⟩ (.int .i64 r4.1)).setCell ⟨w.heap.size, 9, none⟩ (.int .i64 r5.1)).setCell ⟨w.heap.size, 0, none⟩ (.int .i64 r0.1)).setCell ⟨w.heap.size, 1, none⟩ (.int .i64 r1.1.x)).setCell ⟨w.heap.size, 2, none⟩ (.int .i64 r1.1.z)).setCell ⟨w.heap.size, 3, none⟩ (.int .i64 r1.1.y)).heap[w.heap.size]? = some (.cells #[.int .i64 r0.1, .int .i64 r1.1.x, .int .i64 r1.1.z, .int .i64 r1.1.y, .int .i64 r2.1.x, .int .i64 r2.1.z, .int .i64 r2.1.y, .bool (decide (r3.1 = 1)), .int .i64 r4.1, .int .i64 r5.1] 118 (0, 0)) := heap_setCell_same (((((y5.setCell ⟨w.heap.size, 8, none⟩ (.int .i64 r4.1)).setCell ⟨w.heap.size, 9, none⟩ (.int .i64 r5.1)).setCell ⟨w.heap.size, 0, none⟩ (.int .i64 r0.1)).setCell ⟨w.heap.size, 1, none⟩ (.int .i64 r1.1.x)).setCell ⟨w.heap.size, 2, none⟩ (.int .i64 r1.1.z)) w.heap.size 3 _ _ _ hB
  have hA' := hA.set hlt 3 (.int .i64 r1.1.y)
  have hG' := gb_set hG (Nat.le_refl _) 3 (.int .i64 r1.1.y)
  clear hA hB hG
  have hA := hA'
  have hB := hB'
  have hG := hG'
  clear hA' hB' hG' 
  have hB' : (((((((y5.setCell ⟨w.heap.size, 8, none⟩ (.int .i64 r4.1)).setCell ⟨w.heap.size, 9, none⟩ (.int .i64 r5.1)).setCell ⟨w.heap.size, 0, none⟩ (.int .i64 r0.1)).setCell ⟨w.heap.size, 1, none⟩ (.int .i64 r1.1.x)).setCell ⟨w.heap.size, 2, none⟩ (.int .i64 r1.1.z)).setCell ⟨w.heap.size, 3, none⟩ (.int .i64 r1.1.y)).setCell ⟨w.heap.size, 4, none⟩ (.int .i64 r2.1.x)).heap[w.heap.size]? = some (.cells #[.int .i64 r0.1, .int .i64 r1.1.x, .int .i64 r1.1.z, .int .i64 r1.1.y, .int .i64 r2.1.x, .int .i64 r2.1.z, .int .i64 r2.1.y, .bool (decide (r3.1 = 1)), .int .i64 r4.1, .int .i64 r5.1] 118 (0, 0)) := heap_setCell_same ((((((y5.setCell ⟨w.heap.size, 8, none⟩ (.int .i64 r4.1)).setCell ⟨w.heap.size, 9, none⟩ (.int .i64 r5.1)).setCell ⟨w.heap.size, 0, none⟩ (.int .i64 r0.1)).setCell ⟨w.heap.size, 1, none⟩ (.int .i64 r1.1.x)).setCell ⟨w.heap.size, 2, none⟩ (.int .i64 r1.1.z)).setCell ⟨w.heap.size, 3, none⟩ (.int .i64 r1.1.y)) w.heap.size 4 _ _ _ hB
  have hA' := hA.set hlt 4 (.int .i64 r2.1.x)
  have hG' := gb_set hG (Nat.le_refl _) 4 (.int .i64 r2.1.x)
  clear hA hB hG
  have hA := hA'
  have hB := hB'
  have hG := hG'
  clear hA' hB' hG' 
  have hB' : ((((((((y5.setCell ⟨w.heap.size, 8, none⟩ (.int .i64 r4.1)).setCell ⟨w.heap.size, 9, none⟩ (.int .i64 r5.1)).setCell ⟨w.heap.size, 0, none⟩ (.int .i64 r0.1)).setCell ⟨w.heap.size, 1, none⟩ (.int .i64 r1.1.x)).setCell ⟨w.heap.size, 2, none⟩ (.int .i64 r1.1.z)).setCell ⟨w.heap.size, 3, none⟩ (.int .i64 r1.1.y)).setCell ⟨w.heap.size, 4, none⟩ (.int .i64 r2.1.x)).setCell ⟨w.heap.size, 5, none⟩ (.int .i64 r2.1.z)).heap[w.heap.size]? = some (.cells #[.int .i64 r0.1, .int .i64 r1.1.x, .int .i64 r1.1.z, .int .i64 r1.1.y, .int .i64 r2.1.x, .int .i64 r2.1.z, .int .i64 r2.1.y, .bool (decide (r3.1 = 1)), .int .i64 r4.1, .int .i64 r5.1] 118 (0, 0)) := heap_setCell_same (((((((y5.setCell ⟨w.heap.size, 8, none⟩ (.int .i64 r4.1)).setCell ⟨w.heap.size, 9, none⟩ (.int .i64 r5.1)).setCell ⟨w.heap.size, 0, none⟩ (.int .i64 r0.1)).setCell ⟨w.heap.size, 1, none⟩ (.int .i64 r1.1.x)).setCell ⟨w.heap.size, 2, none⟩ (.int .i64 r1.1.z)).setCell ⟨w.heap.size, 3, none⟩ (.int .i64 r1.1.y)).setCell ⟨w.heap.size, 4, none⟩ (.int .i64 r2.1.x)) w.heap.size 5 _ _ _ hB
  have hA' := hA.set hlt 5 (.int .i64 r2.1.z)
  have hG' := gb_set hG (Nat.le_refl _) 5 (.int .i64 r2.1.z)
  clear hA hB hG
  have hA := hA'
  have hB := hB'
  have hG := hG'
  clear hA' hB' hG' 
  have hB' : (((((((((y5.setCell ⟨w.heap.size, 8, none⟩ (.int .i64 r4.1)).setCell ⟨w.heap.size, 9, none⟩ (.int .i64 r5.1)).setCell ⟨w.heap.size, 0, none⟩ (.int .i64 r0.1)).setCell ⟨w.heap.size, 1, none⟩ (.int .i64 r1.1.x)).setCell ⟨w.heap.size, 2, none⟩ (.int .i64 r1.1.z)).setCell ⟨w.heap.size, 3, none⟩ (.int .i64 r1.1.y)).setCell ⟨w.heap.size, 4, none⟩ (.int .i64 r2.1.x)).setCell ⟨w.heap.size, 5, none⟩ (.int .i64 r2.1.z)).setCell ⟨w.heap.size, 6, none⟩ (.int .i64 r2.1.y)).heap[w.heap.size]? = some (.cells #[.int .i64 r0.1, .int .i64 r1.1.x, .int .i64 r1.1.z, .int .i64 r1.1.y, .int .i64 r2.1.x, .int .i64 r2.1.z, .int .i64 r2.1.y, .bool (decide (r3.1 = 1)), .int .i64 r4.1, .int .i64 r5.1] 118 (0, 0)) := heap_setCell_same ((((((((y5.setCell ⟨w.heap.size, 8, none⟩ (.int .i64 r4.1)).setCell ⟨w.heap.size, 9, none⟩ (.int .i64 r5.1)).setCell ⟨w.heap.size, 0, none⟩ (.int .i64 r0.1)).setCell ⟨w.heap.size, 1, none⟩ (.int .i64 r1.1.x)).setCell ⟨w.heap.size, 2, none⟩ (.int .i64 r1.1.z)).setCell ⟨w.heap.size, 3, none⟩ (.int .i64 r1.1.y)).setCell ⟨w.heap.size, 4, none⟩ (.int .i64 r2.1.x)).setCell ⟨w.heap.size, 5, none⟩ (.int .i64 r2.1.z)) w.heap.size 6 _ _ _ hB
  have hA' := hA.set hlt 6 (.int .i64 r2.1.y)
  have hG' := gb_set hG (Nat.le_refl _) 6 (.int .i64 r2.1.y)
  clear hA hB hG
  have hA := hA'
  have hB := hB'
  have hG := hG'
  clear hA' hB' hG' 
  have hB' : ((((((((((y5.setCell ⟨w.heap.size, 8, none⟩ (.int .i64 r4.1)).setCell ⟨w.heap.size, 9, none⟩ (.int .i64 r5.1)).setCell ⟨w.heap.size, 0, none⟩ (.int .i64 r0.1)).setCell ⟨w.heap.size, 1, none⟩ (.int .i64 r1.1.x)).setCell ⟨w.heap.size, 2, none⟩ (.int .i64 r1.1.z)).setCell ⟨w.heap.size, 3, none⟩ (.int .i64 r1.1.y)).setCell ⟨w.heap.size, 4, none⟩ (.int .i64 r2.1.x)).setCell ⟨w.heap.size, 5, none⟩ (.int .i64 r2.1.z)).setCell ⟨w.heap.size, 6, none⟩ (.int .i64 r2.1.y)).setCell ⟨w.heap.size, 7, none⟩ (.bool (decide (r3.1 = 1)))).heap[w.heap.size]? = some (.cells #[.int .i64 r0.1, .int .i64 r1.1.x, .int .i64 r1.1.z, .int .i64 r1.1.y, .int .i64 r2.1.x, .int .i64 r2.1.z, .int .i64 r2.1.y, .bool (decide (r3.1 = 1)), .int .i64 r4.1, .int .i64 r5.1] 118 (0, 0)) := heap_setCell_same (((((((((y5.setCell ⟨w.heap.size, 8, none⟩ (.int .i64 r4.1)).setCell ⟨w.heap.size, 9, none⟩ (.int .i64 r5.1)).setCell ⟨w.heap.size, 0, none⟩ (.int .i64 r0.1)).setCell ⟨w.heap.size, 1, none⟩ (.int .i64 r1.1.x)).setCell ⟨w.heap.size, 2, none⟩ (.int .i64 r1.1.z)).setCell ⟨w.heap.size, 3, none⟩ (.int .i64 r1.1.y)).setCell ⟨w.heap.size, 4, none⟩ (.int .i64 r2.1.x)).setCell ⟨w.heap.size, 5, none⟩ (.int .i64 r2.1.z)).setCell ⟨w.heap.size, 6, none⟩ (.int .i64 r2.1.y)) w.heap.size 7 _ _ _ hB
  have hA' := hA.set hlt 7 (.bool (decide (r3.1 = 1)))
  have hG' := gb_set hG (Nat.le_refl _) 7 (.bool (decide (r3.1 = 1)))
  clear hA hB hG
  have hA := hA'
  have hB := hB'
  have hG := hG'
  clear hA' hB' hG' 
  have hB' : (((((((((((y5.setCell ⟨w.heap.size, 8, none⟩ (.int .i64 r4.1)).setCell ⟨w.heap.size, 9, none⟩ (.int .i64 r5.1)).setCell ⟨w.heap.size, 0, none⟩ (.int .i64 r0.1)).setCell ⟨w.heap.size, 1, none⟩ (.int .i64 r1.1.x)).setCell ⟨w.heap.size, 2, none⟩ (.int .i64 r1.1.z)).setCell ⟨w.heap.size, 3, none⟩ (.int .i64 r1.1.y)).setCell ⟨w.heap.size, 4, none⟩ (.int .i64 r2.1.x)).setCell ⟨w.heap.size, 5, none⟩ (.int .i64 r2.1.z)).setCell ⟨w.heap.size, 6, none⟩ (.int .i64 r2.1.y)).setCell ⟨w.heap.size, 7, none⟩ (.bool (decide (r3.1 = 1)))).setCell ⟨w.heap.size, 8, none⟩ (.int .i64 r4.1)).heap[w.heap.size]? = some (.cells #[.int .i64 r0.1, .int .i64 r1.1.x, .int .i64 r1.1.z, .int .i64 r1.1.y, .int .i64 r2.1.x, .int .i64 r2.1.z, .int .i64 r2.1.y, .bool (decide (r3.1 = 1)), .int .i64 r4.1, .int .i64 r5.1] 118 (0, 0)) := heap_setCell_same ((((((((((y5.setCell ⟨w.heap.size, 8, none⟩ (.int .i64 r4.1)).setCell ⟨w.heap.size, 9, none⟩ (.int .i64 r5.1)).setCell ⟨w.heap.size, 0, none⟩ (.int .i64 r0.1)).setCell ⟨w.heap.size, 1, none⟩ (.int .i64 r1.1.x)).setCell ⟨w.heap.size, 2, none⟩ (.int .i64 r1.1.z)).setCell ⟨w.heap.size, 3, none⟩ (.int .i64 r1.1.y)).setCell ⟨w.heap.size, 4, none⟩ (.int .i64 r2.1.x)).setCell ⟨w.heap.size, 5, none⟩ (.int .i64 r2.1.z)).setCell ⟨w.heap.size, 6, none⟩ (.int .i64 r2.1.y)).setCell ⟨w.heap.size, 7, none⟩ (.bool (decide (r3.1 = 1)))) w.heap.size 8 _ _ _ hB
  have hA' := hA.set hlt 8 (.int .i64 r4.1)
  have hG' := gb_set hG (Nat.le_refl _) 8 (.int .i64 r4.1)
  clear hA hB hG
  have hA := hA'
  have hB := hB'
  have hG := hG'
  clear hA' hB' hG' 
  have hB' : ((((((((((((y5.setCell ⟨w.heap.size, 8, none⟩ (.int .i64 r4.1)).setCell ⟨w.heap.size, 9, none⟩ (.int .i64 r5.1)).setCell ⟨w.heap.size, 0, none⟩ (.int .i64 r0.1)).setCell ⟨w.heap.size, 1, none⟩ (.int .i64 r1.1.x)).setCell ⟨w.heap.size, 2, none⟩ (.int .i64 r1.1.z)).setCell ⟨w.heap.size, 3, none⟩ (.int .i64 r1.1.y)).setCell ⟨w.heap.size, 4, none⟩ (.int .i64 r2.1.x)).setCell ⟨w.heap.size, 5, none⟩ (.int .i64 r2.1.z)).setCell ⟨w.heap.size, 6, none⟩ (.int .i64 r2.1.y)).setCell ⟨w.heap.size, 7, none⟩ (.bool (decide (r3.1 = 1)))).setCell ⟨w.heap.size, 8, none⟩ (.int .i64 r4.1)).setCell ⟨w.heap.size, 9, none⟩ (.int .i64 r5.1)).heap[w.heap.size]? = some (.cells #[.int .i64 r0.1, .int .i64 r1.1.x, .int .i64 r1.1.z, .int .i64 r1.1.y, .int .i64 r2.1.x, .int .i64 r2.1.z, .int .i64 r2.1.y, .bool (decide (r3.1 = 1)), .int .i64 r4.1, .int .i64 r5.1] 118 (0, 0)) := heap_setCell_same (((((((((((y5.setCell ⟨w.heap.size, 8, none⟩ (.int .i64 r4.1)).setCell ⟨w.heap.size, 9, none⟩ (.int .i64 r5.1)).setCell ⟨w.heap.size, 0, none⟩ (.int .i64 r0.1)).setCell ⟨w.heap.size, 1, none⟩ (.int .i64 r1.1.x)).setCell ⟨w.heap.size, 2, none⟩ (.int .i64 r1.1.z)).setCell ⟨w.heap.size, 3, none⟩ (.int .i64 r1.1.y)).setCell ⟨w.heap.size, 4, none⟩ (.int .i64 r2.1.x)).setCell ⟨w.heap.size, 5, none⟩ (.int .i64 r2.1.z)).setCell ⟨w.heap.size, 6, none⟩ (.int .i64 r2.1.y)).setCell ⟨w.heap.size, 7, none⟩ (.bool (decide (r3.1 = 1)))).setCell ⟨w.heap.size, 8, none⟩ (.int .i64 r4.1)) w.heap.size 9 _ _ _ hB
  have hA' := hA.set hlt 9 (.int .i64 r5.1)
  have hG' := gb_set hG (Nat.le_refl _) 9 (.int .i64 r5.1)
  clear hA hB hG
  have hA := hA'
  have hB := hB'
  have hG := hG'
  clear hA' hB' hG' 
  refine bodyPost_ret (results_cell_row (p := 2) (ty := 118) rfl _ _ w.heap.size 118 #[.int .i64 r0.1, .int .i64 r1.1.x, .int .i64 r1.1.z, .int .i64 r1.1.y, .int .i64 r2.1.x, .int .i64 r2.1.z, .int .i64 r2.1.y, .bool (decide (r3.1 = 1)), .int .i64 r4.1, .int .i64 r5.1] (0, 0) _ rfl hB Try.underlying118 rfl (by kernel_rfl)) rfl ?_
  have HV' := HV.out
  have q5 := hr5.out
  clear hr5
  subst q5
  have q4 := hr4.out
  clear hr4
  subst q4
  have q3 := hr3.out
  clear hr3
  subst q3
  have q2 := hr2.out
  clear hr2
  subst q2
  have q1 := hr1.out
  clear hr1
  subst q1
  have q0 := hr0.out
  clear hr0
  subst q0
  subst HV'
  exact ⟨rfl, hA, hG⟩

set_option maxRecDepth 100000 in
set_option maxHeartbeats 4000000 in
theorem rbox_any (w : World) (rb : Nat) (a : Option Addr) (n c : Nat) (xs : List Int) (st : RS) (h : RdAt 123 (fun b => b) w rb a n c xs st) :
    Calls Try.prog 86 #[.pointer (some ⟨rb, 0, none⟩)] w fun e w' => e = .returned (.agg (bxC (rdBx xs st).1).toArray) ∧ RdAt 123 (fun b => b) w' rb a n c xs (rdBx xs st).2 ∧ w.grownBy w' (some rb) := by
  have hlt := h.lt
  have N := Lib.hid (fun (W : World) (s : RS) (h : RdAt 123 (fun b => b) W rb a n c xs s) => rnumber_any W rb a n c xs s h)
  have SG := Lib.hid (fun (W : World) (s : RS) (h : RdAt 123 (fun b => b) W rb a n c xs s) => rsigned_any W rb a n c xs s h)
  have hA := h.alloc (.cells #[.int .i64 0, .int .i64 0, .int .i64 0, .int .i64 0, .int .i64 0, .int .i64 0, .int .i64 0, .int .i64 0] 114)
  have hB := World.alloc_heap_new w (.cells #[.int .i64 0, .int .i64 0, .int .i64 0, .int .i64 0, .int .i64 0, .int .i64 0, .int .i64 0, .int .i64 0] 114)
  have hG := World.grownBy_alloc w (.cells #[.int .i64 0, .int .i64 0, .int .i64 0, .int .i64 0, .int .i64 0, .int .i64 0, .int .i64 0, .int .i64 0] 114) (some rb)
  clear h
  obtain ⟨V, HV⟩ : ∃ V, Hid (V = rdBx xs st) := ⟨_, rfl⟩
  rw [← HV.out]
  go_enter Try.func86, Try.ntmps86
  go_wp2_with fail
  have hP : ((w.alloc (.cells #[.int .i64 0, .int .i64 0, .int .i64 0, .int .i64 0, .int .i64 0, .int .i64 0, .int .i64 0, .int .i64 0] 114)).alloc (.cells #[.pointer (some ⟨w.heap.size, 0, none⟩), .pointer (some ⟨w.heap.size, 1, none⟩), .pointer (some ⟨w.heap.size, 2, none⟩), .pointer (some ⟨w.heap.size, 3, none⟩), .pointer (some ⟨w.heap.size, 4, none⟩)] 124)).heap[w.heap.size + 1]? = some (.cells #[.pointer (some ⟨w.heap.size, 0, none⟩), .pointer (some ⟨w.heap.size, 1, none⟩), .pointer (some ⟨w.heap.size, 2, none⟩), .pointer (some ⟨w.heap.size, 3, none⟩), .pointer (some ⟨w.heap.size, 4, none⟩)] 124 (0, 0)) := by simpa only [World.size_alloc] using World.alloc_heap_new (w.alloc (.cells #[.int .i64 0, .int .i64 0, .int .i64 0, .int .i64 0, .int .i64 0, .int .i64 0, .int .i64 0, .int .i64 0] 114)) (.cells #[.pointer (some ⟨w.heap.size, 0, none⟩), .pointer (some ⟨w.heap.size, 1, none⟩), .pointer (some ⟨w.heap.size, 2, none⟩), .pointer (some ⟨w.heap.size, 3, none⟩), .pointer (some ⟨w.heap.size, 4, none⟩)] 124)
  have hA' := hA.alloc (.cells #[.pointer (some ⟨w.heap.size, 0, none⟩), .pointer (some ⟨w.heap.size, 1, none⟩), .pointer (some ⟨w.heap.size, 2, none⟩), .pointer (some ⟨w.heap.size, 3, none⟩), .pointer (some ⟨w.heap.size, 4, none⟩)] 124)
  have hB' := (Below.heap_alloc (w.alloc (.cells #[.int .i64 0, .int .i64 0, .int .i64 0, .int .i64 0, .int .i64 0, .int .i64 0, .int .i64 0, .int .i64 0] 114)) (.cells #[.pointer (some ⟨w.heap.size, 0, none⟩), .pointer (some ⟨w.heap.size, 1, none⟩), .pointer (some ⟨w.heap.size, 2, none⟩), .pointer (some ⟨w.heap.size, 3, none⟩), .pointer (some ⟨w.heap.size, 4, none⟩)] 124) w.heap.size (by simp)).trans hB
  have hG' := gb_alloc hG (.cells #[.pointer (some ⟨w.heap.size, 0, none⟩), .pointer (some ⟨w.heap.size, 1, none⟩), .pointer (some ⟨w.heap.size, 2, none⟩), .pointer (some ⟨w.heap.size, 3, none⟩), .pointer (some ⟨w.heap.size, 4, none⟩)] 124)
  clear hA hB hG
  have hA := hA'
  have hB := hB'
  have hG := hG'
  clear hA' hB' hG'
  refine wp_loop_rounds 6 ?_
  rw [rounds_succ]
  have p0 := cell_heap (k := 0) (v := .pointer (some ⟨w.heap.size, 0, none⟩)) hP rfl
  obtain ⟨r0, hr0⟩ : ∃ r, Hid (r = rdNum xs st) := ⟨_, rfl⟩
  have C := N.out _ _ hA
  rw [← hr0.out] at C
  go_wp2_with fail
  refine C.mono ?_
  rintro e y0 ⟨rfl, hA', hg'⟩
  have hB' := blk_keep hg' hB hlt
  have hG' := hG.trans hg'
  have hP' := blk_keep hg' hP (by omega)
  clear hP
  have hP := hP'
  clear hP'
  clear C hA hB hG hg' 
  have hA := hA'
  have hB := hB'
  have hG := hG'
  clear hA' hB' hG' 
  clear p0
  have e0 := cell_heap (k := 0) (v := .int .i64 0) hB rfl
  have e1 := blk_frozen (j := 0) hB
  have hB' : (y0.setCell ⟨w.heap.size, 0, none⟩ (.int .i64 r0.1)).heap[w.heap.size]? = some (.cells #[.int .i64 r0.1, .int .i64 0, .int .i64 0, .int .i64 0, .int .i64 0, .int .i64 0, .int .i64 0, .int .i64 0] 114 (0, 0)) := heap_setCell_same y0 w.heap.size 0 _ _ _ hB
  have hA' := hA.set hlt 0 (.int .i64 r0.1)
  have hG' := gb_set hG (Nat.le_refl _) 0 (.int .i64 r0.1)
  have hP' : (y0.setCell ⟨w.heap.size, 0, none⟩ (.int .i64 r0.1)).heap[w.heap.size + 1]? = some (.cells #[.pointer (some ⟨w.heap.size, 0, none⟩), .pointer (some ⟨w.heap.size, 1, none⟩), .pointer (some ⟨w.heap.size, 2, none⟩), .pointer (some ⟨w.heap.size, 3, none⟩), .pointer (some ⟨w.heap.size, 4, none⟩)] 124 (0, 0)) := (heap_setCell_other _ _ _ _ (by show w.heap.size + 1 ≠ w.heap.size; omega)).trans hP
  clear hP
  have hP := hP'
  clear hP'
  clear hA hB hG
  have hA := hA'
  have hB := hB'
  have hG := hG'
  clear hA' hB' hG' 
  go_wp2_with fail
  rw [rounds_succ]
  have p1 := cell_heap (k := 1) (v := .pointer (some ⟨w.heap.size, 1, none⟩)) hP rfl
  obtain ⟨r1, hr1⟩ : ∃ r, Hid (r = rdNum xs r0.2) := ⟨_, rfl⟩
  have C := N.out _ _ hA
  rw [← hr1.out] at C
  go_wp2_with fail
  refine C.mono ?_
  rintro e y1 ⟨rfl, hA', hg'⟩
  have hB' := blk_keep hg' hB hlt
  have hG' := hG.trans hg'
  have hP' := blk_keep hg' hP (by omega)
  clear hP
  have hP := hP'
  clear hP'
  clear C hA hB hG hg' e0 e1
  have hA := hA'
  have hB := hB'
  have hG := hG'
  clear hA' hB' hG' 
  clear p1
  have e0 := cell_heap (k := 1) (v := .int .i64 0) hB rfl
  have e1 := blk_frozen (j := 1) hB
  have hB' : (y1.setCell ⟨w.heap.size, 1, none⟩ (.int .i64 r1.1)).heap[w.heap.size]? = some (.cells #[.int .i64 r0.1, .int .i64 r1.1, .int .i64 0, .int .i64 0, .int .i64 0, .int .i64 0, .int .i64 0, .int .i64 0] 114 (0, 0)) := heap_setCell_same y1 w.heap.size 1 _ _ _ hB
  have hA' := hA.set hlt 1 (.int .i64 r1.1)
  have hG' := gb_set hG (Nat.le_refl _) 1 (.int .i64 r1.1)
  have hP' : (y1.setCell ⟨w.heap.size, 1, none⟩ (.int .i64 r1.1)).heap[w.heap.size + 1]? = some (.cells #[.pointer (some ⟨w.heap.size, 0, none⟩), .pointer (some ⟨w.heap.size, 1, none⟩), .pointer (some ⟨w.heap.size, 2, none⟩), .pointer (some ⟨w.heap.size, 3, none⟩), .pointer (some ⟨w.heap.size, 4, none⟩)] 124 (0, 0)) := (heap_setCell_other _ _ _ _ (by show w.heap.size + 1 ≠ w.heap.size; omega)).trans hP
  clear hP
  have hP := hP'
  clear hP'
  clear hA hB hG
  have hA := hA'
  have hB := hB'
  have hG := hG'
  clear hA' hB' hG' 
  go_wp2_with fail
  rw [rounds_succ]
  have p2 := cell_heap (k := 2) (v := .pointer (some ⟨w.heap.size, 2, none⟩)) hP rfl
  obtain ⟨r2, hr2⟩ : ∃ r, Hid (r = rdNum xs r1.2) := ⟨_, rfl⟩
  have C := N.out _ _ hA
  rw [← hr2.out] at C
  go_wp2_with fail
  refine C.mono ?_
  rintro e y2 ⟨rfl, hA', hg'⟩
  have hB' := blk_keep hg' hB hlt
  have hG' := hG.trans hg'
  have hP' := blk_keep hg' hP (by omega)
  clear hP
  have hP := hP'
  clear hP'
  clear C hA hB hG hg' e0 e1
  have hA := hA'
  have hB := hB'
  have hG := hG'
  clear hA' hB' hG' 
  clear p2
  have e0 := cell_heap (k := 2) (v := .int .i64 0) hB rfl
  have e1 := blk_frozen (j := 2) hB
  have hB' : (y2.setCell ⟨w.heap.size, 2, none⟩ (.int .i64 r2.1)).heap[w.heap.size]? = some (.cells #[.int .i64 r0.1, .int .i64 r1.1, .int .i64 r2.1, .int .i64 0, .int .i64 0, .int .i64 0, .int .i64 0, .int .i64 0] 114 (0, 0)) := heap_setCell_same y2 w.heap.size 2 _ _ _ hB
  have hA' := hA.set hlt 2 (.int .i64 r2.1)
  have hG' := gb_set hG (Nat.le_refl _) 2 (.int .i64 r2.1)
  have hP' : (y2.setCell ⟨w.heap.size, 2, none⟩ (.int .i64 r2.1)).heap[w.heap.size + 1]? = some (.cells #[.pointer (some ⟨w.heap.size, 0, none⟩), .pointer (some ⟨w.heap.size, 1, none⟩), .pointer (some ⟨w.heap.size, 2, none⟩), .pointer (some ⟨w.heap.size, 3, none⟩), .pointer (some ⟨w.heap.size, 4, none⟩)] 124 (0, 0)) := (heap_setCell_other _ _ _ _ (by show w.heap.size + 1 ≠ w.heap.size; omega)).trans hP
  clear hP
  have hP := hP'
  clear hP'
  clear hA hB hG
  have hA := hA'
  have hB := hB'
  have hG := hG'
  clear hA' hB' hG' 
  go_wp2_with fail
  rw [rounds_succ]
  have p3 := cell_heap (k := 3) (v := .pointer (some ⟨w.heap.size, 3, none⟩)) hP rfl
  obtain ⟨r3, hr3⟩ : ∃ r, Hid (r = rdNum xs r2.2) := ⟨_, rfl⟩
  have C := N.out _ _ hA
  rw [← hr3.out] at C
  go_wp2_with fail
  refine C.mono ?_
  rintro e y3 ⟨rfl, hA', hg'⟩
  have hB' := blk_keep hg' hB hlt
  have hG' := hG.trans hg'
  have hP' := blk_keep hg' hP (by omega)
  clear hP
  have hP := hP'
  clear hP'
  clear C hA hB hG hg' e0 e1
  have hA := hA'
  have hB := hB'
  have hG := hG'
  clear hA' hB' hG' 
  clear p3
  have e0 := cell_heap (k := 3) (v := .int .i64 0) hB rfl
  have e1 := blk_frozen (j := 3) hB
  have hB' : (y3.setCell ⟨w.heap.size, 3, none⟩ (.int .i64 r3.1)).heap[w.heap.size]? = some (.cells #[.int .i64 r0.1, .int .i64 r1.1, .int .i64 r2.1, .int .i64 r3.1, .int .i64 0, .int .i64 0, .int .i64 0, .int .i64 0] 114 (0, 0)) := heap_setCell_same y3 w.heap.size 3 _ _ _ hB
  have hA' := hA.set hlt 3 (.int .i64 r3.1)
  have hG' := gb_set hG (Nat.le_refl _) 3 (.int .i64 r3.1)
  have hP' : (y3.setCell ⟨w.heap.size, 3, none⟩ (.int .i64 r3.1)).heap[w.heap.size + 1]? = some (.cells #[.pointer (some ⟨w.heap.size, 0, none⟩), .pointer (some ⟨w.heap.size, 1, none⟩), .pointer (some ⟨w.heap.size, 2, none⟩), .pointer (some ⟨w.heap.size, 3, none⟩), .pointer (some ⟨w.heap.size, 4, none⟩)] 124 (0, 0)) := (heap_setCell_other _ _ _ _ (by show w.heap.size + 1 ≠ w.heap.size; omega)).trans hP
  clear hP
  have hP := hP'
  clear hP'
  clear hA hB hG
  have hA := hA'
  have hB := hB'
  have hG := hG'
  clear hA' hB' hG' 
  go_wp2_with fail
  rw [rounds_succ]
  have p4 := cell_heap (k := 4) (v := .pointer (some ⟨w.heap.size, 4, none⟩)) hP rfl
  obtain ⟨r4, hr4⟩ : ∃ r, Hid (r = rdNum xs r3.2) := ⟨_, rfl⟩
  have C := N.out _ _ hA
  rw [← hr4.out] at C
  go_wp2_with fail
  refine C.mono ?_
  rintro e y4 ⟨rfl, hA', hg'⟩
  have hB' := blk_keep hg' hB hlt
  have hG' := hG.trans hg'
  have hP' := blk_keep hg' hP (by omega)
  clear hP
  have hP := hP'
  clear hP'
  clear C hA hB hG hg' e0 e1
  have hA := hA'
  have hB := hB'
  have hG := hG'
  clear hA' hB' hG' 
  clear p4
  have e0 := cell_heap (k := 4) (v := .int .i64 0) hB rfl
  have e1 := blk_frozen (j := 4) hB
  have hB' : (y4.setCell ⟨w.heap.size, 4, none⟩ (.int .i64 r4.1)).heap[w.heap.size]? = some (.cells #[.int .i64 r0.1, .int .i64 r1.1, .int .i64 r2.1, .int .i64 r3.1, .int .i64 r4.1, .int .i64 0, .int .i64 0, .int .i64 0] 114 (0, 0)) := heap_setCell_same y4 w.heap.size 4 _ _ _ hB
  have hA' := hA.set hlt 4 (.int .i64 r4.1)
  have hG' := gb_set hG (Nat.le_refl _) 4 (.int .i64 r4.1)
  have hP' : (y4.setCell ⟨w.heap.size, 4, none⟩ (.int .i64 r4.1)).heap[w.heap.size + 1]? = some (.cells #[.pointer (some ⟨w.heap.size, 0, none⟩), .pointer (some ⟨w.heap.size, 1, none⟩), .pointer (some ⟨w.heap.size, 2, none⟩), .pointer (some ⟨w.heap.size, 3, none⟩), .pointer (some ⟨w.heap.size, 4, none⟩)] 124 (0, 0)) := (heap_setCell_other _ _ _ _ (by show w.heap.size + 1 ≠ w.heap.size; omega)).trans hP
  clear hP
  have hP := hP'
  clear hP'
  clear hA hB hG
  have hA := hA'
  have hB := hB'
  have hG := hG'
  clear hA' hB' hG' 
  go_wp2_with fail
  rw [rounds_succ]
  obtain ⟨r5, hr5⟩ : ∃ r, Hid (r = rdSig xs r4.2) := ⟨_, rfl⟩
  have C := SG.out _ _ hA
  rw [← hr5.out] at C
  go_wp2_with fail
  refine C.mono ?_
  rintro e y5 ⟨rfl, hA', hg'⟩
  have hB' := blk_keep hg' hB hlt
  have hG' := hG.trans hg'
  have hP' := blk_keep hg' hP (by omega)
  clear hP
  have hP := hP'
  clear hP'
  clear C hA hB hG hg' e0 e1
  have hA := hA'
  have hB := hB'
  have hG := hG'
  clear hA' hB' hG' 
  obtain ⟨r6, hr6⟩ : ∃ r, Hid (r = rdSig xs r5.2) := ⟨_, rfl⟩
  have C := SG.out _ _ hA
  rw [← hr6.out] at C
  go_wp2_with fail
  refine C.mono ?_
  rintro e y6 ⟨rfl, hA', hg'⟩
  have hB' := blk_keep hg' hB hlt
  have hG' := hG.trans hg'
  have hP' := blk_keep hg' hP (by omega)
  clear hP
  have hP := hP'
  clear hP'
  clear C hA hB hG hg' 
  have hA := hA'
  have hB := hB'
  have hG := hG'
  clear hA' hB' hG' 
  have e0 := cell_heap (k := 5) (v := .int .i64 0) hB rfl
  have e1 := blk_frozen (j := 5) hB
  have hB' : (y6.setCell ⟨w.heap.size, 5, none⟩ (.int .i64 r5.1)).heap[w.heap.size]? = some (.cells #[.int .i64 r0.1, .int .i64 r1.1, .int .i64 r2.1, .int .i64 r3.1, .int .i64 r4.1, .int .i64 r5.1, .int .i64 0, .int .i64 0] 114 (0, 0)) := heap_setCell_same y6 w.heap.size 5 _ _ _ hB
  have hA' := hA.set hlt 5 (.int .i64 r5.1)
  have hG' := gb_set hG (Nat.le_refl _) 5 (.int .i64 r5.1)
  have hP' : (y6.setCell ⟨w.heap.size, 5, none⟩ (.int .i64 r5.1)).heap[w.heap.size + 1]? = some (.cells #[.pointer (some ⟨w.heap.size, 0, none⟩), .pointer (some ⟨w.heap.size, 1, none⟩), .pointer (some ⟨w.heap.size, 2, none⟩), .pointer (some ⟨w.heap.size, 3, none⟩), .pointer (some ⟨w.heap.size, 4, none⟩)] 124 (0, 0)) := (heap_setCell_other _ _ _ _ (by show w.heap.size + 1 ≠ w.heap.size; omega)).trans hP
  clear hP
  have hP := hP'
  clear hP'
  clear hA hB hG
  have hA := hA'
  have hB := hB'
  have hG := hG'
  clear hA' hB' hG' 
  have e2 := cell_heap (k := 6) (v := .int .i64 0) hB rfl
  have e3 := blk_frozen (j := 6) hB
  have hB' : ((y6.setCell ⟨w.heap.size, 5, none⟩ (.int .i64 r5.1)).setCell ⟨w.heap.size, 6, none⟩ (.int .i64 r6.1)).heap[w.heap.size]? = some (.cells #[.int .i64 r0.1, .int .i64 r1.1, .int .i64 r2.1, .int .i64 r3.1, .int .i64 r4.1, .int .i64 r5.1, .int .i64 r6.1, .int .i64 0] 114 (0, 0)) := heap_setCell_same (y6.setCell ⟨w.heap.size, 5, none⟩ (.int .i64 r5.1)) w.heap.size 6 _ _ _ hB
  have hA' := hA.set hlt 6 (.int .i64 r6.1)
  have hG' := gb_set hG (Nat.le_refl _) 6 (.int .i64 r6.1)
  have hP' : ((y6.setCell ⟨w.heap.size, 5, none⟩ (.int .i64 r5.1)).setCell ⟨w.heap.size, 6, none⟩ (.int .i64 r6.1)).heap[w.heap.size + 1]? = some (.cells #[.pointer (some ⟨w.heap.size, 0, none⟩), .pointer (some ⟨w.heap.size, 1, none⟩), .pointer (some ⟨w.heap.size, 2, none⟩), .pointer (some ⟨w.heap.size, 3, none⟩), .pointer (some ⟨w.heap.size, 4, none⟩)] 124 (0, 0)) := (heap_setCell_other _ _ _ _ (by show w.heap.size + 1 ≠ w.heap.size; omega)).trans hP
  clear hP
  have hP := hP'
  clear hP'
  clear hA hB hG
  have hA := hA'
  have hB := hB'
  have hG := hG'
  clear hA' hB' hG' 
  obtain ⟨r7, hr7⟩ : ∃ r, Hid (r = rdNum xs r6.2) := ⟨_, rfl⟩
  have C := N.out _ _ hA
  rw [← hr7.out] at C
  go_wp2_with fail
  refine C.mono ?_
  rintro e y7 ⟨rfl, hA', hg'⟩
  have hB' := blk_keep hg' hB hlt
  have hG' := hG.trans hg'
  have hP' := blk_keep hg' hP (by omega)
  clear hP
  have hP := hP'
  clear hP'
  clear C hA hB hG hg' e0 e1 e2 e3
  have hA := hA'
  have hB := hB'
  have hG := hG'
  clear hA' hB' hG' 
  have e0 := cell_heap (k := 7) (v := .int .i64 0) hB rfl
  have e1 := blk_frozen (j := 7) hB
  have hB' : (y7.setCell ⟨w.heap.size, 7, none⟩ (.int .i64 r7.1)).heap[w.heap.size]? = some (.cells #[.int .i64 r0.1, .int .i64 r1.1, .int .i64 r2.1, .int .i64 r3.1, .int .i64 r4.1, .int .i64 r5.1, .int .i64 r6.1, .int .i64 r7.1] 114 (0, 0)) := heap_setCell_same y7 w.heap.size 7 _ _ _ hB
  have hA' := hA.set hlt 7 (.int .i64 r7.1)
  have hG' := gb_set hG (Nat.le_refl _) 7 (.int .i64 r7.1)
  have hP' : (y7.setCell ⟨w.heap.size, 7, none⟩ (.int .i64 r7.1)).heap[w.heap.size + 1]? = some (.cells #[.pointer (some ⟨w.heap.size, 0, none⟩), .pointer (some ⟨w.heap.size, 1, none⟩), .pointer (some ⟨w.heap.size, 2, none⟩), .pointer (some ⟨w.heap.size, 3, none⟩), .pointer (some ⟨w.heap.size, 4, none⟩)] 124 (0, 0)) := (heap_setCell_other _ _ _ _ (by show w.heap.size + 1 ≠ w.heap.size; omega)).trans hP
  clear hP
  have hP := hP'
  clear hP'
  clear hA hB hG
  have hA := hA'
  have hB := hB'
  have hG := hG'
  clear hA' hB' hG' 
  have e2 := cell_heap (k := 0) (v := .int .i64 r0.1) hB rfl
  have e3 := blk_frozen (j := 0) hB
  have e4 := cell_heap (k := 1) (v := .int .i64 r1.1) hB rfl
  have e5 := blk_frozen (j := 1) hB
  have e6 := cell_heap (k := 2) (v := .int .i64 r2.1) hB rfl
  have e7 := blk_frozen (j := 2) hB
  have e8 := cell_heap (k := 3) (v := .int .i64 r3.1) hB rfl
  have e9 := blk_frozen (j := 3) hB
  have e10 := cell_heap (k := 4) (v := .int .i64 r4.1) hB rfl
  have e11 := blk_frozen (j := 4) hB
  have e12 := cell_heap (k := 5) (v := .int .i64 r5.1) hB rfl
  have e13 := blk_frozen (j := 5) hB
  have e14 := cell_heap (k := 6) (v := .int .i64 r6.1) hB rfl
  have e15 := blk_frozen (j := 6) hB
  have e16 := cell_heap (k := 7) (v := .int .i64 r7.1) hB rfl
  have e17 := blk_frozen (j := 7) hB
  go_wp2
  have hB' : ((y7.setCell ⟨w.heap.size, 7, none⟩ (.int .i64 r7.1)).setCell ⟨w.heap.size, 0, none⟩ (.int .i64 r0.1)).heap[w.heap.size]? = some (.cells #[.int .i64 r0.1, .int .i64 r1.1, .int .i64 r2.1, .int .i64 r3.1, .int .i64 r4.1, .int .i64 r5.1, .int .i64 r6.1, .int .i64 r7.1] 114 (0, 0)) := heap_setCell_same (y7.setCell ⟨w.heap.size, 7, none⟩ (.int .i64 r7.1)) w.heap.size 0 _ _ _ hB
  have hA' := hA.set hlt 0 (.int .i64 r0.1)
  have hG' := gb_set hG (Nat.le_refl _) 0 (.int .i64 r0.1)
  have hP' : ((y7.setCell ⟨w.heap.size, 7, none⟩ (.int .i64 r7.1)).setCell ⟨w.heap.size, 0, none⟩ (.int .i64 r0.1)).heap[w.heap.size + 1]? = some (.cells #[.pointer (some ⟨w.heap.size, 0, none⟩), .pointer (some ⟨w.heap.size, 1, none⟩), .pointer (some ⟨w.heap.size, 2, none⟩), .pointer (some ⟨w.heap.size, 3, none⟩), .pointer (some ⟨w.heap.size, 4, none⟩)] 124 (0, 0)) := (heap_setCell_other _ _ _ _ (by show w.heap.size + 1 ≠ w.heap.size; omega)).trans hP
  clear hP
  have hP := hP'
  clear hP'
  clear hA hB hG
  have hA := hA'
  have hB := hB'
  have hG := hG'
  clear hA' hB' hG' 
  have hB' : (((y7.setCell ⟨w.heap.size, 7, none⟩ (.int .i64 r7.1)).setCell ⟨w.heap.size, 0, none⟩ (.int .i64 r0.1)).setCell ⟨w.heap.size, 1, none⟩ (.int .i64 r1.1)).heap[w.heap.size]? = some (.cells #[.int .i64 r0.1, .int .i64 r1.1, .int .i64 r2.1, .int .i64 r3.1, .int .i64 r4.1, .int .i64 r5.1, .int .i64 r6.1, .int .i64 r7.1] 114 (0, 0)) := heap_setCell_same ((y7.setCell ⟨w.heap.size, 7, none⟩ (.int .i64 r7.1)).setCell ⟨w.heap.size, 0, none⟩ (.int .i64 r0.1)) w.heap.size 1 _ _ _ hB
  have hA' := hA.set hlt 1 (.int .i64 r1.1)
  have hG' := gb_set hG (Nat.le_refl _) 1 (.int .i64 r1.1)
  have hP' : (((y7.setCell ⟨w.heap.size, 7, none⟩ (.int .i64 r7.1)).setCell ⟨w.heap.size, 0, none⟩ (.int .i64 r0.1)).setCell ⟨w.heap.size, 1, none⟩ (.int .i64 r1.1)).heap[w.heap.size + 1]? = some (.cells #[.pointer (some ⟨w.heap.size, 0, none⟩), .pointer (some ⟨w.heap.size, 1, none⟩), .pointer (some ⟨w.heap.size, 2, none⟩), .pointer (some ⟨w.heap.size, 3, none⟩), .pointer (some ⟨w.heap.size, 4, none⟩)] 124 (0, 0)) := (heap_setCell_other _ _ _ _ (by show w.heap.size + 1 ≠ w.heap.size; omega)).trans hP
  clear hP
  have hP := hP'
  clear hP'
  clear hA hB hG
  have hA := hA'
  have hB := hB'
  have hG := hG'
  clear hA' hB' hG' 
  have hB' : ((((y7.setCell ⟨w.heap.size, 7, none⟩ (.int .i64 r7.1)).setCell ⟨w.heap.size, 0, none⟩ (.int .i64 r0.1)).setCell ⟨w.heap.size, 1, none⟩ (.int .i64 r1.1)).setCell ⟨w.heap.size, 2, none⟩ (.int .i64 r2.1)).heap[w.heap.size]? = some (.cells #[.int .i64 r0.1, .int .i64 r1.1, .int .i64 r2.1, .int .i64 r3.1, .int .i64 r4.1, .int .i64 r5.1, .int .i64 r6.1, .int .i64 r7.1] 114 (0, 0)) := heap_setCell_same (((y7.setCell ⟨w.heap.size, 7, none⟩ (.int .i64 r7.1)).setCell ⟨w.heap.size, 0, none⟩ (.int .i64 r0.1)).setCell ⟨w.heap.size, 1, none⟩ (.int .i64 r1.1)) w.heap.size 2 _ _ _ hB
  have hA' := hA.set hlt 2 (.int .i64 r2.1)
  have hG' := gb_set hG (Nat.le_refl _) 2 (.int .i64 r2.1)
  have hP' : ((((y7.setCell ⟨w.heap.size, 7, none⟩ (.int .i64 r7.1)).setCell ⟨w.heap.size, 0, none⟩ (.int .i64 r0.1)).setCell ⟨w.heap.size, 1, none⟩ (.int .i64 r1.1)).setCell ⟨w.heap.size, 2, none⟩ (.int .i64 r2.1)).heap[w.heap.size + 1]? = some (.cells #[.pointer (some ⟨w.heap.size, 0, none⟩), .pointer (some ⟨w.heap.size, 1, none⟩), .pointer (some ⟨w.heap.size, 2, none⟩), .pointer (some ⟨w.heap.size, 3, none⟩), .pointer (some ⟨w.heap.size, 4, none⟩)] 124 (0, 0)) := (heap_setCell_other _ _ _ _ (by show w.heap.size + 1 ≠ w.heap.size; omega)).trans hP
  clear hP
  have hP := hP'
  clear hP'
  clear hA hB hG
  have hA := hA'
  have hB := hB'
  have hG := hG'
  clear hA' hB' hG' 
  have hB' : (((((y7.setCell ⟨w.heap.size, 7, none⟩ (.int .i64 r7.1)).setCell ⟨w.heap.size, 0, none⟩ (.int .i64 r0.1)).setCell ⟨w.heap.size, 1, none⟩ (.int .i64 r1.1)).setCell ⟨w.heap.size, 2, none⟩ (.int .i64 r2.1)).setCell ⟨w.heap.size, 3, none⟩ (.int .i64 r3.1)).heap[w.heap.size]? = some (.cells #[.int .i64 r0.1, .int .i64 r1.1, .int .i64 r2.1, .int .i64 r3.1, .int .i64 r4.1, .int .i64 r5.1, .int .i64 r6.1, .int .i64 r7.1] 114 (0, 0)) := heap_setCell_same ((((y7.setCell ⟨w.heap.size, 7, none⟩ (.int .i64 r7.1)).setCell ⟨w.heap.size, 0, none⟩ (.int .i64 r0.1)).setCell ⟨w.heap.size, 1, none⟩ (.int .i64 r1.1)).setCell ⟨w.heap.size, 2, none⟩ (.int .i64 r2.1)) w.heap.size 3 _ _ _ hB
  have hA' := hA.set hlt 3 (.int .i64 r3.1)
  have hG' := gb_set hG (Nat.le_refl _) 3 (.int .i64 r3.1)
  have hP' : (((((y7.setCell ⟨w.heap.size, 7, none⟩ (.int .i64 r7.1)).setCell ⟨w.heap.size, 0, none⟩ (.int .i64 r0.1)).setCell ⟨w.heap.size, 1, none⟩ (.int .i64 r1.1)).setCell ⟨w.heap.size, 2, none⟩ (.int .i64 r2.1)).setCell ⟨w.heap.size, 3, none⟩ (.int .i64 r3.1)).heap[w.heap.size + 1]? = some (.cells #[.pointer (some ⟨w.heap.size, 0, none⟩), .pointer (some ⟨w.heap.size, 1, none⟩), .pointer (some ⟨w.heap.size, 2, none⟩), .pointer (some ⟨w.heap.size, 3, none⟩), .pointer (some ⟨w.heap.size, 4, none⟩)] 124 (0, 0)) := (heap_setCell_other _ _ _ _ (by show w.heap.size + 1 ≠ w.heap.size; omega)).trans hP
  clear hP
  have hP := hP'
  clear hP'
  clear hA hB hG
  have hA := hA'
  have hB := hB'
  have hG := hG'
  clear hA' hB' hG' 
  have hB' : ((((((y7.setCell ⟨w.heap.size, 7, none⟩ (.int .i64 r7.1)).setCell ⟨w.heap.size, 0, none⟩ (.int .i64 r0.1)).setCell ⟨w.heap.size, 1, none⟩ (.int .i64 r1.1)).setCell ⟨w.heap.size, 2, none⟩ (.int .i64 r2.1)).setCell ⟨w.heap.size, 3, none⟩ (.int .i64 r3.1)).setCell ⟨w.heap.size, 4, none⟩ (.int .i64 r4.1)).heap[w.heap.size]? = some (.cells #[.int .i64 r0.1, .int .i64 r1.1, .int .i64 r2.1, .int .i64 r3.1, .int .i64 r4.1, .int .i64 r5.1, .int .i64 r6.1, .int .i64 r7.1] 114 (0, 0)) := heap_setCell_same (((((y7.setCell ⟨w.heap.size, 7, none⟩ (.int .i64 r7.1)).setCell ⟨w.heap.size, 0, none⟩ (.int .i64 r0.1)).setCell ⟨w.heap.size, 1, none⟩ (.int .i64 r1.1)).setCell ⟨w.heap.size, 2, none⟩ (.int .i64 r2.1)).setCell ⟨w.heap.size, 3, none⟩ (.int .i64 r3.1)) w.heap.size 4 _ _ _ hB
  have hA' := hA.set hlt 4 (.int .i64 r4.1)
  have hG' := gb_set hG (Nat.le_refl _) 4 (.int .i64 r4.1)
  have hP' : ((((((y7.setCell ⟨w.heap.size, 7, none⟩ (.int .i64 r7.1)).setCell ⟨w.heap.size, 0, none⟩ (.int .i64 r0.1)).setCell ⟨w.heap.size, 1, none⟩ (.int .i64 r1.1)).setCell ⟨w.heap.size, 2, none⟩ (.int .i64 r2.1)).setCell ⟨w.heap.size, 3, none⟩ (.int .i64 r3.1)).setCell ⟨w.heap.size, 4, none⟩ (.int .i64 r4.1)).heap[w.heap.size + 1]? = some (.cells #[.pointer (some ⟨w.heap.size, 0, none⟩), .pointer (some ⟨w.heap.size, 1, none⟩), .pointer (some ⟨w.heap.size, 2, none⟩), .pointer (some ⟨w.heap.size, 3, none⟩), .pointer (some ⟨w.heap.size, 4, none⟩)] 124 (0, 0)) := (heap_setCell_other _ _ _ _ (by show w.heap.size + 1 ≠ w.heap.size; omega)).trans hP
  clear hP
  have hP := hP'
  clear hP'
  clear hA hB hG
  have hA := hA'
  have hB := hB'
  have hG := hG'
  clear hA' hB' hG' 
  have hB' : (((((((y7.setCell ⟨w.heap.size, 7, none⟩ (.int .i64 r7.1)).setCell ⟨w.heap.size, 0, none⟩ (.int .i64 r0.1)).setCell ⟨w.heap.size, 1, none⟩ (.int .i64 r1.1)).setCell ⟨w.heap.size, 2, none⟩ (.int .i64 r2.1)).setCell ⟨w.heap.size, 3, none⟩ (.int .i64 r3.1)).setCell ⟨w.heap.size, 4, none⟩ (.int .i64 r4.1)).setCell ⟨w.heap.size, 5, none⟩ (.int .i64 r5.1)).heap[w.heap.size]? = some (.cells #[.int .i64 r0.1, .int .i64 r1.1, .int .i64 r2.1, .int .i64 r3.1, .int .i64 r4.1, .int .i64 r5.1, .int .i64 r6.1, .int .i64 r7.1] 114 (0, 0)) := heap_setCell_same ((((((y7.setCell ⟨w.heap.size, 7, none⟩ (.int .i64 r7.1)).setCell ⟨w.heap.size, 0, none⟩ (.int .i64 r0.1)).setCell ⟨w.heap.size, 1, none⟩ (.int .i64 r1.1)).setCell ⟨w.heap.size, 2, none⟩ (.int .i64 r2.1)).setCell ⟨w.heap.size, 3, none⟩ (.int .i64 r3.1)).setCell ⟨w.heap.size, 4, none⟩ (.int .i64 r4.1)) w.heap.size 5 _ _ _ hB
  have hA' := hA.set hlt 5 (.int .i64 r5.1)
  have hG' := gb_set hG (Nat.le_refl _) 5 (.int .i64 r5.1)
  have hP' : (((((((y7.setCell ⟨w.heap.size, 7, none⟩ (.int .i64 r7.1)).setCell ⟨w.heap.size, 0, none⟩ (.int .i64 r0.1)).setCell ⟨w.heap.size, 1, none⟩ (.int .i64 r1.1)).setCell ⟨w.heap.size, 2, none⟩ (.int .i64 r2.1)).setCell ⟨w.heap.size, 3, none⟩ (.int .i64 r3.1)).setCell ⟨w.heap.size, 4, none⟩ (.int .i64 r4.1)).setCell ⟨w.heap.size, 5, none⟩ (.int .i64 r5.1)).heap[w.heap.size + 1]? = some (.cells #[.pointer (some ⟨w.heap.size, 0, none⟩), .pointer (some ⟨w.heap.size, 1, none⟩), .pointer (some ⟨w.heap.size, 2, none⟩), .pointer (some ⟨w.heap.size, 3, none⟩), .pointer (some ⟨w.heap.size, 4, none⟩)] 124 (0, 0)) := (heap_setCell_other _ _ _ _ (by show w.heap.size + 1 ≠ w.heap.size; omega)).trans hP
  clear hP
  have hP := hP'
  clear hP'
  clear hA hB hG
  have hA := hA'
  have hB := hB'
  have hG := hG'
  clear hA' hB' hG' 
  have hB' : ((((((((y7.setCell ⟨w.heap.size, 7, none⟩ (.int .i64 r7.1)).setCell ⟨w.heap.size, 0, none⟩ (.int .i64 r0.1)).setCell ⟨w.heap.size, 1, none⟩ (.int .i64 r1.1)).setCell ⟨w.heap.size, 2, none⟩ (.int .i64 r2.1)).setCell ⟨w.heap.size, 3, none⟩ (.int .i64 r3.1)).setCell ⟨w.heap.size, 4, none⟩ (.int .i64 r4.1)).setCell ⟨w.heap.size, 5, none⟩ (.int .i64 r5.1)).setCell ⟨w.heap.size, 6, none⟩ (.int .i64 r6.1)).heap[w.heap.size]? = some (.cells #[.int .i64 r0.1, .int .i64 r1.1, .int .i64 r2.1, .int .i64 r3.1, .int .i64 r4.1, .int .i64 r5.1, .int .i64 r6.1, .int .i64 r7.1] 114 (0, 0)) := heap_setCell_same (((((((y7.setCell ⟨w.heap.size, 7, none⟩ (.int .i64 r7.1)).setCell ⟨w.heap.size, 0, none⟩ (.int .i64 r0.1)).setCell ⟨w.heap.size, 1, none⟩ (.int .i64 r1.1)).setCell ⟨w.heap.size, 2, none⟩ (.int .i64 r2.1)).setCell ⟨w.heap.size, 3, none⟩ (.int .i64 r3.1)).setCell ⟨w.heap.size, 4, none⟩ (.int .i64 r4.1)).setCell ⟨w.heap.size, 5, none⟩ (.int .i64 r5.1)) w.heap.size 6 _ _ _ hB
  have hA' := hA.set hlt 6 (.int .i64 r6.1)
  have hG' := gb_set hG (Nat.le_refl _) 6 (.int .i64 r6.1)
  have hP' : ((((((((y7.setCell ⟨w.heap.size, 7, none⟩ (.int .i64 r7.1)).setCell ⟨w.heap.size, 0, none⟩ (.int .i64 r0.1)).setCell ⟨w.heap.size, 1, none⟩ (.int .i64 r1.1)).setCell ⟨w.heap.size, 2, none⟩ (.int .i64 r2.1)).setCell ⟨w.heap.size, 3, none⟩ (.int .i64 r3.1)).setCell ⟨w.heap.size, 4, none⟩ (.int .i64 r4.1)).setCell ⟨w.heap.size, 5, none⟩ (.int .i64 r5.1)).setCell ⟨w.heap.size, 6, none⟩ (.int .i64 r6.1)).heap[w.heap.size + 1]? = some (.cells #[.pointer (some ⟨w.heap.size, 0, none⟩), .pointer (some ⟨w.heap.size, 1, none⟩), .pointer (some ⟨w.heap.size, 2, none⟩), .pointer (some ⟨w.heap.size, 3, none⟩), .pointer (some ⟨w.heap.size, 4, none⟩)] 124 (0, 0)) := (heap_setCell_other _ _ _ _ (by show w.heap.size + 1 ≠ w.heap.size; omega)).trans hP
  clear hP
  have hP := hP'
  clear hP'
  clear hA hB hG
  have hA := hA'
  have hB := hB'
  have hG := hG'
  clear hA' hB' hG' 
  have hB' : (((((((((y7.setCell ⟨w.heap.size, 7, none⟩ (.int .i64 r7.1)).setCell ⟨w.heap.size, 0, none⟩ (.int .i64 r0.1)).setCell ⟨w.heap.size, 1, none⟩ (.int .i64 r1.1)).setCell ⟨w.heap.size, 2, none⟩ (.int .i64 r2.1)).setCell ⟨w.heap.size, 3, none⟩ (.int .i64 r3.1)).setCell ⟨w.heap.size, 4, none⟩ (.int .i64 r4.1)).setCell ⟨w.heap.size, 5, none⟩ (.int .i64 r5.1)).setCell ⟨w.heap.size, 6, none⟩ (.int .i64 r6.1)).setCell ⟨w.heap.size, 7, none⟩ (.int .i64 r7.1)).heap[w.heap.size]? = some (.cells #[.int .i64 r0.1, .int .i64 r1.1, .int .i64 r2.1, .int .i64 r3.1, .int .i64 r4.1, .int .i64 r5.1, .int .i64 r6.1, .int .i64 r7.1] 114 (0, 0)) := heap_setCell_same ((((((((y7.setCell ⟨w.heap.size, 7, none⟩ (.int .i64 r7.1)).setCell ⟨w.heap.size, 0, none⟩ (.int .i64 r0.1)).setCell ⟨w.heap.size, 1, none⟩ (.int .i64 r1.1)).setCell ⟨w.heap.size, 2, none⟩ (.int .i64 r2.1)).setCell ⟨w.heap.size, 3, none⟩ (.int .i64 r3.1)).setCell ⟨w.heap.size, 4, none⟩ (.int .i64 r4.1)).setCell ⟨w.heap.size, 5, none⟩ (.int .i64 r5.1)).setCell ⟨w.heap.size, 6, none⟩ (.int .i64 r6.1)) w.heap.size 7 _ _ _ hB
  have hA' := hA.set hlt 7 (.int .i64 r7.1)
  have hG' := gb_set hG (Nat.le_refl _) 7 (.int .i64 r7.1)
  have hP' : (((((((((y7.setCell ⟨w.heap.size, 7, none⟩ (.int .i64 r7.1)).setCell ⟨w.heap.size, 0, none⟩ (.int .i64 r0.1)).setCell ⟨w.heap.size, 1, none⟩ (.int .i64 r1.1)).setCell ⟨w.heap.size, 2, none⟩ (.int .i64 r2.1)).setCell ⟨w.heap.size, 3, none⟩ (.int .i64 r3.1)).setCell ⟨w.heap.size, 4, none⟩ (.int .i64 r4.1)).setCell ⟨w.heap.size, 5, none⟩ (.int .i64 r5.1)).setCell ⟨w.heap.size, 6, none⟩ (.int .i64 r6.1)).setCell ⟨w.heap.size, 7, none⟩ (.int .i64 r7.1)).heap[w.heap.size + 1]? = some (.cells #[.pointer (some ⟨w.heap.size, 0, none⟩), .pointer (some ⟨w.heap.size, 1, none⟩), .pointer (some ⟨w.heap.size, 2, none⟩), .pointer (some ⟨w.heap.size, 3, none⟩), .pointer (some ⟨w.heap.size, 4, none⟩)] 124 (0, 0)) := (heap_setCell_other _ _ _ _ (by show w.heap.size + 1 ≠ w.heap.size; omega)).trans hP
  clear hP
  have hP := hP'
  clear hP'
  clear hA hB hG
  have hA := hA'
  have hB := hB'
  have hG := hG'
  clear hA' hB' hG' 
  refine bodyPost_ret (results_cell_row (p := 2) (ty := 114) rfl _ _ w.heap.size 114 #[.int .i64 r0.1, .int .i64 r1.1, .int .i64 r2.1, .int .i64 r3.1, .int .i64 r4.1, .int .i64 r5.1, .int .i64 r6.1, .int .i64 r7.1] (0, 0) _ rfl hB Try.underlying114 rfl (by kernel_rfl)) rfl ?_
  have HV' := HV.out
  have q7 := hr7.out
  clear hr7
  subst q7
  have q6 := hr6.out
  clear hr6
  subst q6
  have q5 := hr5.out
  clear hr5
  subst q5
  have q4 := hr4.out
  clear hr4
  subst q4
  have q3 := hr3.out
  clear hr3
  subst q3
  have q2 := hr2.out
  clear hr2
  subst q2
  have q1 := hr1.out
  clear hr1
  subst q1
  have q0 := hr0.out
  clear hr0
  subst q0
  subst HV'
  exact ⟨rfl, hA, hG⟩

end Go.Proofs.Ytilhmlapbifbbaa
