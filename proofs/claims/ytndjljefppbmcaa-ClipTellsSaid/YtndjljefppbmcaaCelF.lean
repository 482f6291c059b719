/- Walk: does a segment meet a column? -/
import Derived.Test.YtndjljefppbmcaaCelE
namespace Go.Proofs.Ytndjljefppbmcaa
open Go.RowKit Go.Shelf Go.Sort
attribute [local go_sem] Oper.semAt_some

def hasC (a b : Pt) (x z : Int) : Bool := decide ((x, z) ∈ (rawC a b).map xz)
theorem hasC_of {a b : Pt} {l : List Cel} (hl : CelAt a b l) {x z : Int} {pre : List (Nat × Cel)} (hp : pre <+: ixs l l.length) (h : ∃ p ∈ pre, p.2.x = x ∧ p.2.z = z) : hasC a b x z = true := by
  obtain ⟨p, h1, h2, h3⟩ := h
  unfold hasC
  rw [decide_eq_true_eq, List.mem_map]
  refine ⟨p.2, hl.1.mem_iff.1 ?_, by simp [xz, h2, h3]⟩
  have h4 : p.2 ∈ (ixs l l.length).map Prod.snd := List.mem_map_of_mem (hp.subset h1)
  rwa [ixs_snd, List.take_length] at h4
theorem hasC_not {a b : Pt} {l : List Cel} (hl : CelAt a b l) {x z : Int} (h : ∀ p ∈ ixs l l.length, ¬ (p.2.x = x ∧ p.2.z = z)) : hasC a b x z = false := by
  unfold hasC
  rw [decide_eq_false_iff_not, List.mem_map]
  rintro ⟨c, h1, h2⟩
  have h3 : c ∈ (ixs l l.length).map Prod.snd := by rw [ixs_snd, List.take_length]; exact hl.1.mem_iff.2 h1
  obtain ⟨p, h4, rfl⟩ := List.mem_map.1 h3
  simp only [xz, Prod.mk.injEq] at h2
  exact h p h4 h2
theorem hasC_mem {a b : Pt} {l : List Cel} (hl : CelAt a b l) {c : Cel} (hc : c ∈ l) : hasC a b c.x c.z = true := by
  unfold hasC
  rw [decide_eq_true_eq, List.mem_map]
  exact ⟨c, hl.1.mem_iff.1 hc, rfl⟩

set_option maxRecDepth 100000 in
set_option maxHeartbeats 20000000 in
theorem meets_any (a b : Pt) (x z : Int) (w : World) (ha : pointOk a = true) (hb : pointOk b = true) :
    Calls Try.prog 26 #[ptA a, ptA b, .int .i64 x, .int .i64 z] w fun e w' => e = .returned (.bool (hasC a b x z)) ∧ Below w.heap.size w w' := by
  have EA := Lib.hid (fun W => celleach_any a b W ha hb)
  have HT := Lib.hid (fun l (hl : CelAt a b l) pre => hasC_of hl (x := x) (z := z) (pre := pre))
  have HN := Lib.hid (fun l (hl : CelAt a b l) => hasC_not hl (x := x) (z := z))
  obtain ⟨r, hr⟩ : ∃ r, Hid (r = hasC a b x z) := ⟨_, rfl⟩
  rw [← hr.out]
  rw [← hr.out] at HT HN
  clear hr ha hb
  obtain ⟨ax, az⟩ := a
  obtain ⟨bx, bz⟩ := b
  refine (callsIn_wide (n := 6)).1 ?_
  refine callsIn_of_wp_marks Try.func26 rfl trivial ?_ rfl
  simp only [Try.ntmps26, List.size_toArray, List.length_cons, List.length_nil, Nat.reduceAdd, Nat.reduceSub, Array.replicate_succ, Array.replicate_zero, List.push_toArray, List.append_toArray, List.nil_append, List.cons_append]
  gi_wp2_with fail
  refine ⟨trivial, ?_⟩
  have hB0 : Below w.heap.size w (((((w.alloc (.cells #[.int .i64 ax, .int .i64 az] 36)).alloc (.cells #[.int .i64 bx, .int .i64 bz] 36)).alloc (.cells #[.int .i64 x] 3)).alloc (.cells #[.int .i64 z] 3)).alloc (.cells #[.bool false] 4)) := ((((Below.refl _ _).alloc (Nat.le_refl _) _).alloc (by simp) _).alloc (by simp; omega) _ |>.alloc (by simp; omega) _).alloc (by simp; omega) _
  have bX := ((Boxed.new ((w.alloc (.cells #[.int .i64 ax, .int .i64 az] 36)).alloc (.cells #[.int .i64 bx, .int .i64 bz] 36)) 3 (.int .i64 x)).alloc (.cells #[.int .i64 z] 3)).alloc (.cells #[.bool false] 4)
  have bZ := (Boxed.new (((w.alloc (.cells #[.int .i64 ax, .int .i64 az] 36)).alloc (.cells #[.int .i64 bx, .int .i64 bz] 36)).alloc (.cells #[.int .i64 x] 3)) 3 (.int .i64 z)).alloc (.cells #[.bool false] 4)
  have bR := Boxed.new ((((w.alloc (.cells #[.int .i64 ax, .int .i64 az] 36)).alloc (.cells #[.int .i64 bx, .int .i64 bz] 36)).alloc (.cells #[.int .i64 x] 3)).alloc (.cells #[.int .i64 z] 3)) 4 (.bool false)
  simp only [World.size_alloc] at bX bZ bR
  obtain ⟨w0, hw0⟩ : ∃ w0, w0 = (((((w.alloc (.cells #[.int .i64 ax, .int .i64 az] 36)).alloc (.cells #[.int .i64 bx, .int .i64 bz] 36)).alloc (.cells #[.int .i64 x] 3)).alloc (.cells #[.int .i64 z] 3)).alloc (.cells #[.bool false] 4)) := ⟨_, rfl⟩
  have hs0 : w0.heap.size = w.heap.size + 1 + 1 + 1 + 1 + 1 := by rw [hw0]; simp
  rw [← hw0] at bX bZ bR hB0 ⊢
  clear hw0
  obtain ⟨pR, hpR⟩ : ∃ p, p = w.heap.size + 1 + 1 + 1 + 1 := ⟨_, rfl⟩
  rw [← hpR] at bR hs0 ⊢
  obtain ⟨pZ, hpZ⟩ : ∃ p, p = w.heap.size + 1 + 1 + 1 := ⟨_, rfl⟩
  rw [← hpZ] at bZ hpR ⊢
  obtain ⟨pX, hpX⟩ : ∃ p, p = w.heap.size + 1 + 1 := ⟨_, rfl⟩
  rw [← hpX] at bX hpZ ⊢
  obtain ⟨pB, hpB⟩ : ∃ p, p = w.heap.size + 1 := ⟨_, rfl⟩
  rw [← hpB] at hpX ⊢
  have o1 : w.heap.size < pX := by omega
  have o2 : pX < pZ := by omega
  have o3 : pZ < pR := by omega
  clear hpR hpZ hpX hpB
  gi_at_call 58
  refine (callsIn_wide.2 (EA.out _)).mono ?_
  rintro e w1 ⟨B, ad, n, c, l, rfl, hb1, he, hat, hn, hBl⟩
  have bX1 : Boxed w1 pX 3 (.int .i64 x) := (hb1.block _ bX.lt).trans bX
  have bZ1 : Boxed w1 pZ 3 (.int .i64 z) := (hb1.block _ bZ.lt).trans bZ
  have bR1 : Boxed w1 pR 4 (.bool false) := (hb1.block _ bR.lt).trans bR
  have hB1 := hB0.trans (hb1.mono hB0.size)
  have hs1 := hb1.size
  have hs1B := he.lt
  have hBR : pR < B := by omega
  have hww := hB1.size
  have HTl := Lib.hid (HT.out l hat)
  have HNl := Lib.hid (HN.out l hat)
  have had : ∀ ad', ad = some ad' → n = 0 ∨ (ad'.block < w1.heap.size ∧ ¬ ad'.block = pR) := by
    intro ad' h
    by_cases h0 : n = 0
    · exact .inl h0
    rcases he.xs.cell with h1 | ⟨b, off, hab, hlt, hc⟩
    · exact .inl h1
    · rw [hab] at h
      cases h
      refine .inr ⟨hlt, fun e => ?_⟩
      have hl := he.xs.len
      have h3 := hc 0 (l[0]'(by omega)) (List.getElem?_eq_getElem (by omega)) 0 _ rfl
      have e' : b = pR := e
      rw [e'] at h3
      have h4 : w1.heap[pR]? = _ := bR1
      simp only [World.cell?, h4] at h3
      cases off <;> simp at h3
  clear HT HN bX bZ bR hB0 hb1 hat EA
  gi_wp2
  refine wpIn_rangeFunc_ownH rfl (by decide) (gf := 106) (lb := #[.pointer (some ⟨B, 0, none⟩)]) rfl trivial (enters_of Try.func106 (by kernel_rfl) rfl)
    (celleach_stops 5 (by decide) B w1.heap.size (fun k => k = pR) ad n c l w1 he hs1B (by omega) had) keepEx_t (keepEx_b (Nat.le_refl _)) (Below.refl _ _) (fun _ => rfl)
    (fun pre W => (Boxed W pR 4 (.bool false) ∧ ∀ p ∈ pre, ¬ (p.2.x = x ∧ p.2.z = z)) ∧ (KeepEx w1.heap.size (fun k => k = pR) w1 W ∧ Below w.heap.size w W))
    (fun cc pre W => (cc = .ret ∧ Boxed W pR 4 (.bool true) ∧ ∃ p ∈ pre, p.2.x = x ∧ p.2.z = z) ∧ (KeepEx w1.heap.size (fun k => k = pR) w1 W ∧ Below w.heap.size w W))
    (OwnFrom.and (Own.from (fun s A B row hs hg hr => ⟨boxed_own _ _ (fun _ : List (Nat × Cel) => Value.bool false) s A B row hs.1 hg hr, hs.2⟩) _) (OwnFrom.and (ownFrom_keepEx (Nat.le_refl _) (Nat.le_refl _)) (ownFrom_below (Nat.le_refl _) hww)))
    (fun cc => OwnFrom.and (Own.from (fun s A B row hs hg hr => ⟨hs.1, boxed_own _ _ (fun _ : List (Nat × Cel) => Value.bool true) s A B row hs.2.1 hg hr, hs.2.2⟩) _) (OwnFrom.and (ownFrom_keepEx (Nat.le_refl _) (Nat.le_refl _)) (ownFrom_below (Nat.le_refl _) hww)))
    ⟨⟨bR1, by simp⟩, KeepEx.refl _ _ _, hB1⟩
    (fun y a' W => ∃ Bx, w1.heap.size ≤ Bx ∧ W.heap[Bx]? = some (.cells #[.int .i64 y.2.x, .int .i64 y.2.z, .int .i64 y.2.p.n, .int .i64 y.2.p.d, .int .i64 y.2.q.n, .int .i64 y.2.q.d] 43 (0, 0)) ∧ a' = { tmps := #[.agg #[.int .i64 ax, .int .i64 az], .agg #[.int .i64 bx, .int .i64 bz], .int .i64 x, .int .i64 z, .pointer (some ⟨w.heap.size, 0, none⟩), .pointer (some ⟨pB, 0, none⟩), .pointer (some ⟨pX, 0, none⟩), .pointer (some ⟨pZ, 0, none⟩), .pointer (some ⟨pR, 0, none⟩), undef, .pointer (some ⟨Bx, 0, none⟩), .agg #[.int .i64 ax, .int .i64 az], .agg #[.int .i64 bx, .int .i64 bz], .func (.func 106) #[] #[.pointer (some ⟨B, 0, none⟩)], .int .i64 (y.1 : Int), ceA y.2, undef, undef, undef, undef, undef, undef, undef, undef, undef, undef], defers := [] })
    (fun y a' _ A B row hs hg hr => by
      obtain ⟨Bx, h1, h2, h3⟩ := hs
      refine ⟨Bx, h1, (hg.block Bx (Array.getElem?_eq_some_iff.1 h2).1 (fun e => ?_)).trans h2, h3⟩
      obtain ⟨_, o, ho, hc⟩ := hr Bx e.symm
      rw [h2] at ho
      cases ho
      cases hc) ?assign ?body ?done ?stop
  case assign =>
    rintro lp pre ⟨i, ⟨yx, yz, ⟨ypn, ypd⟩, ⟨yqn, yqd⟩⟩⟩ W K ⟨⟨hR, hpre⟩, hke, hB⟩ hK
    gi_wp2
    have hkk := KeepEx.of_below (L := w1.heap.size) (S := fun k => k = pR) ((Below.refl _ _).alloc (Nat.le_refl _) (.cells #[.int .i64 yx, .int .i64 yz, .int .i64 ypn, .int .i64 ypd, .int .i64 yqn, .int .i64 yqd] 43)) hke.size
    exact hK _ _ ((KeepsOthers.alloc _ _).from _) hkk ⟨⟨hR.alloc _, hpre⟩, hke.trans hkk, hB.alloc hB.size _⟩ ⟨W.heap.size, hke.size, World.alloc_heap_new W _, rfl⟩
  case body =>
    rintro lp pre ⟨i, ⟨yx, yz, ⟨ypn, ypd⟩, ⟨yqn, yqd⟩⟩⟩ a' W hl _ ⟨⟨hR, hpre⟩, hke, hB⟩ ⟨Bx, hBx, hxx, rfl⟩ hlt
    have cX := (Boxed.keepEx bX1 hke (by omega) (by omega)).cell
    have cZ := (Boxed.keepEx bZ1 hke (by omega) (by omega)).cell
    have x0 := hcell (k := 0) (v := .int .i64 yx) hxx rfl
    have x1 := hcell (k := 1) (v := .int .i64 yz) hxx rfl
    have cR := hR.cell
    have fR := hR.frozen
    have Hpre := Lib.hid hpre
    clear hpre hxx
    by_cases h1 : yx = x
    · have e1 : (yx == x) = true := by simp [h1]
      by_cases h2 : yz = z
      · have e2 : (yz == z) = true := by simp [h2]
        have Hy := Lib.hid (And.intro h1 h2)
        clear h1 h2
        gi_wp2
        exact ⟨(KeepsOthers.setCell _ _ _).from _, ⟨rfl, hR.set _, ⟨_, List.mem_append_right _ (List.mem_singleton.2 rfl), Hy.out⟩⟩, hke.trans (KeepEx.setCell (S := fun k => k = pR) (p := ⟨pR, 0, none⟩) (.inr rfl) _), hB.setCell (p := ⟨pR, 0, none⟩) (by show w.heap.size ≤ pR; omega) _⟩
      · have e2 : (yz == z) = false := by simp [h2]
        have Hy := Lib.hid h2
        clear h1 h2
        gi_wp2
        refine ⟨(KeepsOthers.refl _).from _, KeepEx.refl _ _ _, ⟨hR, ?_⟩, hke, hB⟩
        intro p hp
        rcases List.mem_append.1 hp with hp | hp
        · exact Hpre.out p hp
        · rw [List.mem_singleton.1 hp]
          exact fun h => Hy.out h.2
    · have e1 : (yx == x) = false := by simp [h1]
      have Hy := Lib.hid h1
      clear h1
      gi_wp2
      refine ⟨(KeepsOthers.refl _).from _, KeepEx.refl _ _ _, ⟨hR, ?_⟩, hke, hB⟩
      intro p hp
      rcases List.mem_append.1 hp with hp | hp
      · exact Hpre.out p hp
      · rw [List.mem_singleton.1 hp]
        exact fun h => Hy.out h.1
  case done =>
    rintro D ys W hD hys ⟨⟨hR, hpre⟩, hke, hB⟩ hK
    have HF : Hid (r = false) := HNl.out (by rw [← hys]; exact hpre)
    have cR := hR.cell
    have fR := hR.frozen
    clear hpre
    gi_wp2
    have hv2 := hR.set (.bool false)
    have hK' := (KeepsOthers.setCell W ⟨pR, 0, none⟩ (.bool false)).same D _ hK rfl
    refine ⟨by simp, .inl ⟨_, _, rfl, run_takeDeferred hK', ?_⟩⟩
    have hc5 := cell_kept hv2.cell (grownBy_putObj' _ D (.deferred none)) (fun r e => by cases e; exact ⟨_, hK', rfl⟩)
    refine ⟨.bool false, ?_, ret_bool HF.out.symm, (hB.setCell (p := ⟨pR, 0, none⟩) (by show w.heap.size ≤ pR; omega) _).trans (belowK_b (w := w1) hww _ D _ _ hD hK' rfl rfl)⟩
    simp [results, Try.f26, go_sem, hc5]
  case stop =>
    rintro D cc pre W hD hpre ⟨⟨rfl, hR, hex⟩, hke, hB⟩ hK
    have HF : Hid (r = true) := HTl.out pre hpre hex
    clear hpre hex
    gi_wp2
    refine ⟨by simp, .inl ⟨_, _, rfl, run_takeDeferred hK, ?_⟩⟩
    have hc5 := cell_kept hR.cell (grownBy_putObj' _ D (.deferred none)) (fun r e => by cases e; exact ⟨_, hK, rfl⟩)
    refine ⟨.bool true, ?_, ret_bool HF.out.symm, hB.trans (belowK_b (w := w1) hww _ D _ _ hD hK rfl rfl)⟩
    simp [results, Try.f26, go_sem, hc5]

end Go.Proofs.Ytndjljefppbmcaa
