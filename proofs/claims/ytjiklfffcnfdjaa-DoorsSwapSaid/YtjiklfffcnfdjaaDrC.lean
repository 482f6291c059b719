/- Walk: whether a rectangle may not be: the closure of doors.Build. -/
import Derived.Test.YtjiklfffcnfdjaaDrL
import Derived.Test.YtjiklfffcnfdjaaRctC
namespace Go.Proofs.Ytjiklfffcnfdjaa
open Go.RowKit Go.Sort

set_option maxHeartbeats 800000 in
theorem build1_any (cf : Cfg) (T : Nat) (h : RHd) (r : Rc) (w : World) (hT : w.heap[T]? = some (cfO cf)) (hs : RcSl w h r) :
    Calls Try.prog 98 #[rcV h r, .pointer (some ⟨T, 0, none⟩)] w fun e w' => e = .returned (.bool (rcE cf r != 0)) ∧ Below w.heap.size w w' := by
  have CA := Lib.hid (fun W hW => rccheck_any cf h r W hW)
  have hB : Below w.heap.size w (w.alloc (rcO h r)) := (Below.refl _ _).alloc (Nat.le_refl _) _
  have HS := Lib.hid (hs.below hB (Nat.le_refl _))
  have hC := halloc hT (rcO h r)
  have hA := World.alloc_heap_new w (rcO h r)
  obtain ⟨W1, hW1⟩ : ∃ W, W = w.alloc (rcO h r) := ⟨_, rfl⟩
  rw [← hW1] at hB HS hC hA
  clear hs hT
  generalize rcE cf r = ea at CA
  dsimp only [cfO, rcO, rcV, cfgV] at hC hA hW1 CA ⊢
  have c0 := hcell (k := 0) (v := .int .i64 cf.clear) hC rfl
  have c1 := hcell (k := 1) (v := .int .i64 cf.climb) hC rfl
  have c2 := hcell (k := 2) (v := .int .i64 cf.height) hC rfl
  have c3 := hcell (k := 3) (v := .int .i64 cf.rise) hC rfl
  have c4 := hcell (k := 4) (v := .int .i64 cf.run) hC rfl
  have c5 := hcell (k := 5) (v := .int .i64 cf.w) hC rfl
  have c6 := hcell (k := 6) (v := .int .i64 cf.d) hC rfl
  have a0 := hcell (k := 0) (v := .int .i64 r.x0) hA rfl
  have a1 := hcell (k := 1) (v := .int .i64 r.z0) hA rfl
  have a2 := hcell (k := 2) (v := .int .i64 r.x1) hA rfl
  have a3 := hcell (k := 3) (v := .int .i64 r.z1) hA rfl
  have a4 := hcell (k := 4) (v := .int .i64 r.area) hA rfl
  have a5 := hcell (k := 5) (v := .slice h.ya r.ys.length h.yc) hA rfl
  have a6 := hcell (k := 6) (v := .slice h.ta r.ts.length h.tc) hA rfl
  clear hC hA
  go_enter Try.func98, Try.ntmps98
  go_upto_region 1 with fail
  rw [← hW1]
  clear hW1
  go_wp2_with fail
  refine (CA.out _ HS.out).mono ?_
  rintro e w1 ⟨rfl, hb1⟩
  clear c0 c1 c2 c3 c4 c5 c6 a0 a1 a2 a3 a4 a5 a6
  have hB1 := hB.trans (hb1.mono hB.size)
  go_wp2
  go_ret
  exact ⟨rfl, hB1⟩
abbrev RK (w : World) := { x : RHd × Rc // RcSl w x.1 x.2 }
instance (w : World) : Inhabited (RK w) := ⟨⟨(⟨none, 0, none, 0⟩, ⟨0, 0, 0, 0, 0, [], []⟩), ⟨SlI.nil _ _, SlI.nil _ _⟩⟩⟩
/-- May two rectangles that stand in one block be? -/
theorem contrct2_any (cf : Cfg) (T G : Nat) (ha : RHd) (ra : Rc) (hb : RHd) (rb : Rc) (w : World) (hT : w.heap[T]? = some (cfO cf)) (hG : w.heap[G]? = some (.cells (rcL ha ra ++ rcL hb rb).toArray 26 (0, 0))) (hs : RcSl w ha ra) (ht : RcSl w hb rb) :
    Calls Try.prog 97 #[.slice (some ⟨G, 0, none⟩) 2 2, .func (.func 98) #[] #[.pointer (some ⟨T, 0, none⟩)]] w fun e w' => e = .returned (.bool (rcE cf ra != 0 || rcE cf rb != 0)) ∧ Below w.heap.size w w' := by
  have eg : ∀ args w, (callFunc 98 args).run Try.prog w = .ok (.enter 98 args) w := enters_of Try.func98 (by kernel_rfl) rfl
  have h := AnyQ.slices_ContainsFunc Try.lContRct 7 Try.isAgg26 Try.sizeOf26 (fun x : RK w => rcL x.1.1 x.1.2) (fun _ => rfl) (fun x => rcE cf x.1.2 != 0) 98 #[.pointer (some ⟨T, 0, none⟩)] eg G 0 2 2 [⟨(ha, ra), hs⟩, ⟨(hb, rb), ht⟩] w
    (fun W x hb' => (build1_any cf T x.1.1 x.1.2 W (hkeep hb' hT) (x.2.below hb' (Nat.le_refl _))).mono fun _ _ h => ⟨h.1, hb'.trans (h.2.mono hb'.size)⟩) (by simp) (by omega) (hblt hG) (fun j hj i v hi => by
      have hj2 : j = 0 ∨ j = 1 := by simp at hj; omega
      rcases hj2 with rfl | rfl
      · have hi2 : (rcL ha ra)[i]? = some v := hi
        have hlt := (List.getElem?_eq_some_iff.1 hi2).1
        refine hcell (k := 0 + 0 * 7 + i) hG ?_
        rw [List.getElem?_toArray, List.getElem?_append_left (by simpa using hlt)]
        simpa using hi2
      · have hi2 : (rcL hb rb)[i]? = some v := hi
        have hlt := (List.getElem?_eq_some_iff.1 hi2).1
        refine hcell (k := 0 + 1 * 7 + i) hG ?_
        rw [List.getElem?_toArray, List.getElem?_append_right (by simp)]
        simpa using hi2)
  refine Calls.mono h ?_
  rintro e w' ⟨rfl, hb'⟩
  refine ⟨?_, hb'⟩
  simp
end Go.Proofs.Ytjiklfffcnfdjaa
