/- Walks: the reference's reader. -/
import Derived.Test.YtilhmlapbifbbaaRd4
namespace Go.Proofs.Ytilhmlapbifbbaa
open Go.RowKit Go.Sort

set_option maxRecDepth 100000 in
set_option maxHeartbeats 2000000 in
theorem rfnext_any (w : World) (rb : Nat) (a : Option Addr) (n c : Nat) (xs : List Int) (st : RS) (h : RdAt 135 (fun b => !b) w rb a n c xs st) :
    Calls Try.prog 89 #[.pointer (some ⟨rb, 0, none⟩)] w fun e w' => e = .returned (.int .i64 (rdNum xs st).1) ∧ RdAt 135 (fun b => !b) w' rb a n c xs (rdNum xs st).2 ∧ w.grownBy w' (some rb) := by
  obtain ⟨st1, bad⟩ := st
  have Hh := Lib.hid h
  have c2 := cell_heap (k := 2) (v := .bool (!bad)) h.blk rfl
  cases bad with
  | true =>
    have HN : Hid (rdNum xs (st1, true) = (0, (st1, true))) := by show _ = _; unfold rdNum; rfl
    clear h
    go_enter Try.func89, Try.ntmps89
    go_wp2
    go_ret
    rw [HN.out]
    exact ⟨rfl, Hh.out, World.grownBy.refl _ _⟩
  | false =>
  have hlen := h.sl.len
  have hle := h.le
  have hsm := h.small
  have hcn := h.sl.le
  have hcm := h.sl.max
  simp only at hle
  have c0 := cell_heap (k := 0) (v := .slice a n c) h.blk rfl
  have c1 := cell_heap (k := 1) (v := .int .i64 st1) h.blk rfl
  have hbyte := h.byte
  have hu := rdAt_used (xs.drop st1) 9 0 0
  rw [List.length_drop, hlen] at hu
  obtain ⟨⟨x, u, er⟩, hR⟩ : ∃ R, R = rdN (xs.drop st1) := ⟨_, rfl⟩
  have hu' : 0 ≤ u ∧ u ≤ ((n - st1 : Nat) : Int) := by
    have e1 : rdAt (xs.drop st1) 9 0 0 = (x, u, er) := hR.symm
    rw [e1] at hu
    exact hu
  obtain ⟨u, rfl⟩ : ∃ k : Nat, u = (k : Int) := ⟨u.toNat, by omega⟩
  have HN : Hid (rdNum xs (st1, false) = if er ≠ 0 ∨ 4398046511104 < x then (0, (st1, true)) else (x, (st1 + u, false))) := by show _ = _; unfold rdNum; rw [← hR]; rfl
  have HR := Lib.hid (fun (a' : Option Addr) (n' c' : Nat) (h' : SlI .u8 w.drew a' n' c' (xs.drop st1)) => by
    have := refreadnumber_any a' n' c' _ w.drew h' (fun y hy => hbyte y (List.mem_of_mem_drop hy))
    rwa [← hR] at this)
  have Hsl := Lib.hid ((h.sl.drewN 1).from hle)
  have hI0 : (0 : Int) ≤ (st1 : Int) := by omega
  have hI1 : (st1 : Int) ≤ (n : Int) := by omega
  have hI2 : (st1 : Int) ≤ (c : Int) := by omega
  have frz : ∀ j, w.frozen? ⟨rb, j, none⟩ = false := fun j => blk_frozen h.blk
  have f1 := frz 1
  have f2 := frz 2
  have Hs2 : Hid (c = st1 → ∀ n' c', n' = n - st1 → c' = c - st1 → SlI .u8 w.drew a n' c' (xs.drop st1)) := fun e n' c' h1 h2 => ⟨by rw [List.length_drop]; omega, by omega, by omega, .inl (by omega)⟩
  have Hs3 : Hid (¬ c = st1 → SlI .u8 w.drew (Option.map (fun x => x.add st1) a) (n - st1) (c - st1) (xs.drop st1)) := fun e => by have := Hsl.out; rwa [if_neg e] at this
  have hsum : IntKind.i64.wrap ((st1 : Int) + (u : Int)) = ((st1 + u : Nat) : Int) := by rw [IntKind.wrap_i64]; omega
  have hsum2 : st1 + u ≤ n := by omega
  clear hR hu frz h Hsl
  go_enter Try.func89, Try.ntmps89
  go_wp2_with fail
  by_cases hcs : c = st1
  all_goals
    go_region_held3 (fun WW => WW.cell? ⟨rb, 0, none⟩ = some (.slice a n c) ∧ WW.cell? ⟨rb, 1, none⟩ = some (.int .i64 st1))
      (first
        | assumption
        | exact ⟨c0, c1⟩
        | fail)
      (first
        | (go_at_call 21; refine (HR.out _ _ _ (by first | exact Hs3.out hcs | exact Hs2.out hcs _ _ (by omega) (by omega))).mono ?_; rintro e wz ⟨rfl, rfl⟩)
        | fail)
    rename_i hH
    clear hH HR Hs2 Hs3
    by_cases her : er = 0
    rotate_left
    · have HN' : Hid (rdNum xs (st1, false) = (0, (st1, true))) := by show _ = _; rw [HN.out, if_pos (.inl her)]
      have hne : (er != 0) = true := by simpa using her
      go_wp2
      go_ret
      rw [HN'.out]
      first | exact ⟨rfl, (Hh.out.setBad true).drew, (grownBy_setCell _ _ _ _).drew⟩ | (have q := (Hh.out.setBad true).drew; rw [hcs] at q; exact ⟨rfl, q, (grownBy_setCell _ _ _ _).drew⟩)
    subst her
    by_cases hx : 4398046511104 < x
    · have HN' : Hid (rdNum xs (st1, false) = (0, (st1, true))) := by show _ = _; rw [HN.out, if_pos (.inr hx)]
      go_wp2
      go_ret
      rw [HN'.out]
      first | exact ⟨rfl, (Hh.out.setBad true).drew, (grownBy_setCell _ _ _ _).drew⟩ | (have q := (Hh.out.setBad true).drew; rw [hcs] at q; exact ⟨rfl, q, (grownBy_setCell _ _ _ _).drew⟩)
    · have HN' : Hid (rdNum xs (st1, false) = (x, (st1 + u, false))) := by show _ = _; rw [HN.out, if_neg (by omega)]
      go_wp2
      go_ret
      rw [HN'.out]
      first | exact ⟨rfl, (Hh.out.setAt hsum2).drew, (grownBy_setCell _ _ _ _).drew⟩ | (have q := (Hh.out.setAt hsum2).drew; rw [hcs] at q; exact ⟨rfl, q, (grownBy_setCell _ _ _ _).drew⟩)

theorem rdNum_bad {xs : List Int} {st : RS} (h : (rdNum xs st).2.2 = true) : (rdNum xs st).1 = 0 := by
  unfold rdNum at h ⊢
  split at h
  · rename_i hb; rw [if_pos hb]
  · rename_i hb
    rw [if_neg hb]
    split at h
    · rename_i hc; rw [if_pos hc]
    · simp at h

set_option maxRecDepth 100000 in
set_option maxHeartbeats 2000000 in
theorem rfcount_any (m : Int) (w : World) (rb : Nat) (a : Option Addr) (n c : Nat) (xs : List Int) (st : RS) (h : RdAt 135 (fun b => !b) w rb a n c xs st) :
    Calls Try.prog 90 #[.pointer (some ⟨rb, 0, none⟩), .int .i64 m] w fun e w' => e = .returned (.int .i64 (rdUp xs m st).1) ∧ RdAt 135 (fun b => !b) w' rb a n c xs (rdUp xs m st).2 ∧ w.grownBy w' (some rb) := by
  have H := Lib.hid (rfnext_any w rb a n c xs st h)
  have hz := rdNum_bad (xs := xs) (st := st)
  unfold rdUp
  clear h
  obtain ⟨⟨v, s1, bad⟩, hR⟩ : ∃ r, r = rdNum xs st := ⟨_, rfl⟩
  rw [← hR] at H hz ⊢
  clear hR
  simp only at hz
  obtain ⟨V, hV⟩ : ∃ V : Int × RS, V = if bad = true ∨ m < v then (0, (s1, true)) else (v, (s1, bad)) := ⟨_, rfl⟩
  rw [← hV]
  have HV := Lib.hid hV
  clear hV
  go_enter Try.func90, Try.ntmps90
  go_wp2_with fail
  refine H.out.mono ?_
  rintro e w1 ⟨rfl, hA, hg⟩
  have c2 := cell_heap (k := 2) (v := .bool (!bad)) hA.blk rfl
  have f2 := blk_frozen (j := 2) hA.blk
  have HA := Lib.hid hA
  have Hg := Lib.hid hg
  clear hA hg
  by_cases hm : m < v
  · have HW : Hid (V = (0, (s1, true))) := by show _ = _; rw [HV.out, if_pos (.inr hm)]
    have dm : decide (m < v) = true := decide_eq_true hm
    clear HV hz
    go_wp2
    go_ret
    rw [HW.out]
    exact ⟨rfl, HA.out.setBad true, Hg.out.trans (grownBy_setCell _ _ _ _)⟩
  · have HW : Hid (V = (v, (s1, bad))) := by
      show _ = _
      rw [HV.out]
      cases bad with
      | true => rw [if_pos (.inl rfl), hz rfl]
      | false => rw [if_neg (by simp [hm])]
    have dm : decide (m < v) = false := decide_eq_false hm
    clear HV hz
    go_wp2
    go_ret
    rw [HW.out]
    exact ⟨rfl, HA.out, Hg.out⟩

set_option maxRecDepth 100000 in
set_option maxHeartbeats 2000000 in
theorem rfzag_any (n : Int) (w : World) (h0 : 0 ≤ n) (h1 : n ≤ 4398046511104) :
    Calls Try.prog 121 #[.int .i64 n] w fun e w' => e = .returned (.int .i64 (zag n)) ∧ w = w' := by
  obtain ⟨k, rfl⟩ : ∃ k : Nat, n = (k : Int) := ⟨n.toNat, by omega⟩
  obtain ⟨Z, hZ⟩ : ∃ Z, Z = zag (k : Int) := ⟨_, rfl⟩
  rw [← hZ]
  have HZ := Lib.hid hZ
  clear hZ
  by_cases hk : k % 2 = 1
  · have hI : (k : Int) % 2 = 1 := by omega
    have HW : Hid (Z = -(((k : Int) + 1) / 2)) := by show _ = _; rw [HZ.out, zag, if_pos hI]
    clear HZ
    go_enter Try.func121, Try.ntmps121
    have e1 : (-((k : Int) + 1)).tdiv 2 = -(((k : Int) + 1) / 2) := by rw [Int.neg_tdiv, Int.tdiv_eq_ediv_of_nonneg (by omega)]
    have e2 : wrap64 (-(((k : Int) + 1) / 2)) = -(((k : Int) + 1) / 2) := by unfold wrap64; omega
    go_wp2
    go_ret
    exact ⟨ret_int (by rw [HW.out, ← e2, ← e1]), rfl⟩
  · have hI : ¬ (k : Int) % 2 = 1 := by omega
    have HW : Hid (Z = (k : Int) / 2) := by show _ = _; rw [HZ.out, zag, if_neg hI]
    clear HZ
    go_enter Try.func121, Try.ntmps121
    go_wp2
    go_ret
    exact ⟨ret_int HW.out.symm, rfl⟩

set_option maxRecDepth 100000 in
set_option maxHeartbeats 2000000 in
theorem rfsigned_any (w : World) (rb : Nat) (a : Option Addr) (n c : Nat) (xs : List Int) (st : RS) (h : RdAt 135 (fun b => !b) w rb a n c xs st) :
    Calls Try.prog 91 #[.pointer (some ⟨rb, 0, none⟩)] w fun e w' => e = .returned (.int .i64 (rdSig xs st).1) ∧ RdAt 135 (fun b => !b) w' rb a n c xs (rdSig xs st).2 ∧ w.grownBy w' (some rb) := by
  have H := Lib.hid (rfnext_any w rb a n c xs st h)
  have hr := rdNum_range (st := st) h.byte
  unfold rdSig
  clear h
  obtain ⟨⟨v, st'⟩, hR⟩ : ∃ r, r = rdNum xs st := ⟨_, rfl⟩
  rw [← hR] at H hr ⊢
  clear hR
  have Z := Lib.hid (fun W : World => rfzag_any v W hr.1 hr.2)
  clear hr
  go_enter Try.func91, Try.ntmps91
  go_wp2_with fail
  refine H.out.mono ?_
  rintro e w1 ⟨rfl, hA, hg⟩
  have HA := Lib.hid hA
  have Hg := Lib.hid hg
  clear hA hg
  go_wp2_with fail
  refine (Z.out _).mono ?_
  rintro e w2 ⟨rfl, rfl⟩
  go_wp2
  go_ret
  exact ⟨rfl, HA.out, Hg.out⟩


set_option maxRecDepth 100000 in
set_option maxHeartbeats 4000000 in
theorem rfspot_any (w : World) (rb : Nat) (a : Option Addr) (n c : Nat) (xs : List Int) (st : RS) (h : RdAt 135 (fun b => !b) w rb a n c xs st) :
    Calls Try.prog 92 #[.pointer (some ⟨rb, 0, none⟩)] w fun e w' => e = .returned (.agg #[.int .i64 (rdSpt xs st).1.x, .int .i64 (rdSpt xs st).1.z, .int .i64 (rdSpt xs st).1.y]) ∧ RdAt 135 (fun b => !b) w' rb a n c xs (rdSpt xs st).2 ∧ w.grownBy w' (some rb) := by
  have hlt := h.lt
  have N := Lib.hid (fun (W : World) (s : RS) (h : RdAt 135 (fun b => !b) W rb a n c xs s) => rfnext_any W rb a n c xs s h)
  have SG := Lib.hid (fun (W : World) (s : RS) (h : RdAt 135 (fun b => !b) W rb a n c xs s) => rfsigned_any W rb a n c xs s h)
  have hA := h.alloc (.cells #[.int .i64 0, .int .i64 0, .int .i64 0] 116)
  have hB := World.alloc_heap_new w (.cells #[.int .i64 0, .int .i64 0, .int .i64 0] 116)
  have hG := World.grownBy_alloc w (.cells #[.int .i64 0, .int .i64 0, .int .i64 0] 116) (some rb)
  clear h
  obtain ⟨V, HV⟩ : ∃ V, Hid (V = rdSpt xs st) := ⟨_, rfl⟩
  rw [← HV.out]
  go_enter Try.func92, Try.ntmps92
  obtain ⟨r0, hr0⟩ : ∃ r, Hid (r = rdNum xs st) := ⟨_, rfl⟩
  have C := N.out _ _ hA
  rw [← hr0.out] at C
  go_wp2_with fail
  refine C.mono ?_
  rintro e y0 ⟨rfl, hA', hg'⟩
  have hB' := blk_keep hg' hB hlt
  have hG' := hG.trans hg'
  clear C hA hB hG hg' 
  have hA := hA'
  have hB := hB'
  have hG := hG'
  clear hA' hB' hG' 
  obtain ⟨r1, hr1⟩ : ∃ r, Hid (r = rdNum xs r0.2) := ⟨_, rfl⟩
  have C := N.out _ _ hA
  rw [← hr1.out] at C
  go_wp2_with fail
  refine C.mono ?_
  rintro e y1 ⟨rfl, hA', hg'⟩
  have hB' := blk_keep hg' hB hlt
  have hG' := hG.trans hg'
  clear C hA hB hG hg' 
  have hA := hA'
  have hB := hB'
  have hG := hG'
  clear hA' hB' hG' 
  have hsz : w.heap.size < y1.heap.size := (Array.getElem?_eq_some_iff.1 hB).1
  have hL := World.alloc_heap_new y1 (.cells #[.int .i64 r0.1, .int .i64 r1.1, .int .i64 0] 116)
  have hA' := hA.alloc (.cells #[.int .i64 r0.1, .int .i64 r1.1, .int .i64 0] 116)
  have hB' := rd_past (.cells #[.int .i64 r0.1, .int .i64 r1.1, .int .i64 0] 116) hB
  have hG' := gb_alloc hG (.cells #[.int .i64 r0.1, .int .i64 r1.1, .int .i64 0] 116)
  clear hA hB hG
  have hA := hA'
  have hB := hB'
  have hG := hG'
  clear hA' hB' hG' 
  obtain ⟨r2, hr2⟩ : ∃ r, Hid (r = rdSig xs r1.2) := ⟨_, rfl⟩
  have C := SG.out _ _ hA
  rw [← hr2.out] at C
  go_wp2_with fail
  refine C.mono ?_
  rintro e y2 ⟨rfl, hA', hg'⟩
  have hB' := blk_keep hg' hB hlt
  have hG' := hG.trans hg'
  have hL' := blk_keep hg' hL (by omega)
  clear hL
  have hL := hL'
  clear hL'
  clear C hA hB hG hg' 
  have hA := hA'
  have hB := hB'
  have hG := hG'
  clear hA' hB' hG' 
  have e0 := cell_heap (k := 2) (v := .int .i64 0) hL rfl
  have e1 := blk_frozen (j := 2) hL
  have hL' : (y2.setCell ⟨y1.heap.size, 2, none⟩ (.int .i64 r2.1)).heap[y1.heap.size]? = some (.cells #[.int .i64 r0.1, .int .i64 r1.1, .int .i64 r2.1] 116 (0, 0)) := heap_setCell_same y2 y1.heap.size 2 _ _ _ hL
  have hB' : (y2.setCell ⟨y1.heap.size, 2, none⟩ (.int .i64 r2.1)).heap[w.heap.size]? = _ := heap_set_far hB (by omega)
  have hA' := hA.set (b := y1.heap.size) (by omega) 2 (.int .i64 r2.1)
  have hG' := gb_set hG (b := y1.heap.size) (by omega) 2 (.int .i64 r2.1)
  clear hA hB hG hL
  have hA := hA'
  have hB := hB'
  have hG := hG'
  have hL := hL'
  clear hA' hB' hG' hL'
  have l0 := cell_heap (k := 0) (v := .int .i64 r0.1) hL rfl
  have l1 := cell_heap (k := 1) (v := .int .i64 r1.1) hL rfl
  have l2 := cell_heap (k := 2) (v := .int .i64 r2.1) hL rfl
  have m0 := cell_heap (k := 0) (v := .int .i64 0) hB rfl
  have n0 := blk_frozen (j := 0) hB
  have hB' : ((y2.setCell ⟨y1.heap.size, 2, none⟩ (.int .i64 r2.1)).setCell ⟨w.heap.size, 0, none⟩ (.int .i64 r0.1)).heap[w.heap.size]? = some (.cells #[.int .i64 r0.1, .int .i64 0, .int .i64 0] 116 (0, 0)) := heap_setCell_same (y2.setCell ⟨y1.heap.size, 2, none⟩ (.int .i64 r2.1)) w.heap.size 0 _ _ _ hB
  have hA' := hA.set hlt 0 (.int .i64 r0.1)
  have hG' := gb_set hG (Nat.le_refl _) 0 (.int .i64 r0.1)
  clear hA hB hG
  have hA := hA'
  have hB := hB'
  have hG := hG'
  clear hA' hB' hG' 
  have m1 := cell_heap (k := 1) (v := .int .i64 0) hB rfl
  have n1 := blk_frozen (j := 1) hB
  have hB' : (((y2.setCell ⟨y1.heap.size, 2, none⟩ (.int .i64 r2.1)).setCell ⟨w.heap.size, 0, none⟩ (.int .i64 r0.1)).setCell ⟨w.heap.size, 1, none⟩ (.int .i64 r1.1)).heap[w.heap.size]? = some (.cells #[.int .i64 r0.1, .int .i64 r1.1, .int .i64 0] 116 (0, 0)) := heap_setCell_same ((y2.setCell ⟨y1.heap.size, 2, none⟩ (.int .i64 r2.1)).setCell ⟨w.heap.size, 0, none⟩ (.int .i64 r0.1)) w.heap.size 1 _ _ _ hB
  have hA' := hA.set hlt 1 (.int .i64 r1.1)
  have hG' := gb_set hG (Nat.le_refl _) 1 (.int .i64 r1.1)
  clear hA hB hG
  have hA := hA'
  have hB := hB'
  have hG := hG'
  clear hA' hB' hG' 
  have m2 := cell_heap (k := 2) (v := .int .i64 0) hB rfl
  have n2 := blk_frozen (j := 2) hB
  have hB' : ((((y2.setCell ⟨y1.heap.size, 2, none⟩ (.int .i64 r2.1)).setCell ⟨w.heap.size, 0, none⟩ (.int .i64 r0.1)).setCell ⟨w.heap.size, 1, none⟩ (.int .i64 r1.1)).setCell ⟨w.heap.size, 2, none⟩ (.int .i64 r2.1)).heap[w.heap.size]? = some (.cells #[.int .i64 r0.1, .int .i64 r1.1, .int .i64 r2.1] 116 (0, 0)) := heap_setCell_same (((y2.setCell ⟨y1.heap.size, 2, none⟩ (.int .i64 r2.1)).setCell ⟨w.heap.size, 0, none⟩ (.int .i64 r0.1)).setCell ⟨w.heap.size, 1, none⟩ (.int .i64 r1.1)) w.heap.size 2 _ _ _ hB
  have hA' := hA.set hlt 2 (.int .i64 r2.1)
  have hG' := gb_set hG (Nat.le_refl _) 2 (.int .i64 r2.1)
  clear hA hB hG
  have hA := hA'
  have hB := hB'
  have hG := hG'
  clear hA' hB' hG' 
  go_wp2
  refine bodyPost_ret (results_cell_row (p := 2) (ty := 116) rfl _ _ w.heap.size 116 #[.int .i64 r0.1, .int .i64 r1.1, .int .i64 r2.1] (0, 0) _ rfl hB Try.underlying116 rfl (by kernel_rfl)) rfl ?_
  have HV' := HV.out
  have q2 := hr2.out
  clear hr2
  subst q2
  have q1 := hr1.out
  clear hr1
  subst q1
  have q0 := hr0.out
  clear hr0
  subst q0
  subst HV'
  exact ⟨rfl, hA, hG⟩

end Go.Proofs.Ytilhmlapbifbbaa
