/- Walks: code.Soup: a config and a soup as bytes. -/
import Derived.Test.YtgfmdgiepomkiaaGreatLd
import Derived.Deep.RegionHeld3
namespace Go.Proofs.YtgfmdgiepomkiaaGreat
open Go.RowKit Go.Sort
attribute [local go_sem] Instr.index

theorem OwnI.mono {k : IntKind} {e : TypeId} {B B' : Nat} {w : World} {v : Value} {n : Nat} {xs : List Int} (h : OwnI k e B w v n xs) (hB : B' ≤ B) : OwnI k e B' w v n xs := by
 refine ⟨h.1, ?_⟩
 rcases h.2 with h | ⟨g, cap, cur, h2, h3, h4⟩
 ·
  exact .inl h
 ·
  exact .inr ⟨g, cap, cur, h2, Nat.le_trans hB h3, h4⟩
theorem OwnI.ne {k : IntKind} {e : TypeId} {B : Nat} {w : World} {v : Value} {n : Nat} {xs : List Int} (h : OwnI k e B w v n xs) {j : Nat} (hj : w.heap.size ≤ j) : some j ≠ v.ownBlock := by
 intro he
 have := (h.lt j he.symm).2
 omega
theorem mem_of_getElem? {α : Type} {l : List α} {k : Nat} {x : α} (h : l[k]? = some x) : x ∈ l := List.mem_of_getElem? h
theorem Appd.bel {w w' : World} {v v' : Value} {B : Nat} {k : IntKind} {e : TypeId} {n : Nat} {xs : List Int} (h : Appd w w' v v') (ho : OwnI k e B w v n xs) (hB : B ≤ w.heap.size) : Below B w w' := h.below hB ho.le

set_option maxRecDepth 100000 in
set_option maxHeartbeats 16000000 in
theorem codesoup_any (c : Cfg) (p q r : SHead) (s : Sou) (w : World) (hs : SoupAt w p q r s) :
  Calls Tryz.prog 7 #[cfgV c, soupV p q r] w (NumPost w (soupB c s) (soupE c s)) := by
 obtain ⟨pa, pn, pc⟩ := p
 obtain ⟨qa, qn, qc⟩ := q
 obtain ⟨ra, rn, rc⟩ := r
 obtain ⟨E, hE⟩ : ∃ E, E = soupE c s := ⟨_, rfl⟩
 obtain ⟨BB, hBB⟩ : ∃ BB, BB = soupB c s := ⟨_, rfl⟩
 rw [← hE, ← hBB]
 have HE0 := Lib.hid hE
 have HB0 := Lib.hid hBB
 have Hc := Lib.hid (fun (w' : World) (h' : SoupAt w' ⟨pa, pn, pc⟩ ⟨qa, qn, qc⟩ ⟨ra, rn, rc⟩ s) => by have := soupcheck_any c _ _ _ s w' h'; rwa [← hE] at this)
 clear hE hBB
 have Hs := Lib.hid hs
 have lt := Lib.hid hs.t.len
 have lb := Lib.hid hs.b.len
 have lh := Lib.hid hs.h.len
 clear hs
 unfold soupV SHead.v cfgV at *
 go_enter Tryz.func7, Tryz.ntmps7
 go_wp2_with fail
 refine (Hc.out _ (Hs.out.below (by (repeat (first | exact Below.refl _ _ | refine Below.alloc ?_ (by simp; try omega) _))))).mono ?_
 rintro e w1 ⟨rfl, hb1⟩
 have hb1s := hb1.size
 simp only [World.size_alloc] at hb1s
 have hA : w1.heap[w.heap.size]? = some (.cells #[.int .i64 c.clear, .int .i64 c.climb, .int .i64 c.height, .int .i64 c.rise, .int .i64 c.run, .int .i64 c.w, .int .i64 c.d] 23 (0, 0)) :=
  (hb1.block w.heap.size (by simp; omega)).trans ((Below.heap_alloc _ _ w.heap.size (by simp)).trans (World.alloc_heap_new _ _))
 have hB : w1.heap[w.heap.size + 1]? = some (.cells #[.slice pa pn pc, .slice qa qn qc, .slice ra rn rc] 28 (0, 0)) := by
  refine (hb1.block (w.heap.size + 1) (by simp)).trans ?_
  simpa only [World.size_alloc] using World.alloc_heap_new (w.alloc (.cells #[.int .i64 c.clear, .int .i64 c.climb, .int .i64 c.height, .int .i64 c.rise, .int .i64 c.run, .int .i64 c.w, .int .i64 c.d] 23)) (.cells #[.slice pa pn pc, .slice qa qn qc, .slice ra rn rc] 28)
 have hbw : Below w.heap.size w w1 := (by (repeat (first | exact Below.refl _ _ | refine Below.alloc ?_ (by simp; try omega) _)) : Below w.heap.size w _).trans (hb1.mono (by simp; omega))
 clear hb1
 obtain ⟨B, hBd⟩ : ∃ B, B = w1.heap.size := ⟨_, rfl⟩
 have HBd := Lib.hid hBd
 have a0 := cell_heap (k := 0) (v := .int .i64 c.clear) hA rfl
 have a1 := cell_heap (k := 1) (v := .int .i64 c.climb) hA rfl
 have a2 := cell_heap (k := 2) (v := .int .i64 c.height) hA rfl
 have a3 := cell_heap (k := 3) (v := .int .i64 c.rise) hA rfl
 have a4 := cell_heap (k := 4) (v := .int .i64 c.run) hA rfl
 have a5 := cell_heap (k := 5) (v := .int .i64 c.w) hA rfl
 have a6 := cell_heap (k := 6) (v := .int .i64 c.d) hA rfl
 have b0 := cell_heap (k := 0) (v := .slice pa pn pc) hB rfl
 have b1 := cell_heap (k := 1) (v := .slice qa qn qc) hB rfl
 have b2 := cell_heap (k := 2) (v := .slice ra rn rc) hB rfl
 have Hbw := Lib.hid hbw
 have HS := Lib.hid (Hs.out.below hbw)
 clear hA hB hbw hb1s Hs
 by_cases hE0 : E = 0
 rotate_left
 ·
  have hd : (E != 0) = true := by simpa using hE0
  have HF : Hid (BB = []) := by show _ = _; rw [HB0.out, soupB, ← HE0.out, if_neg hE0]
  clear hE0 a0 a1 a2 a3 a4 a5 a6 b0 b1 b2
  go_wp2
  go_ret2
  unfold NumPost
  rw [HF.out]
  exact ⟨_, rfl, OwnI.nil _ _ _ _, Hbw.out⟩
 have HF : Hid (SoupF c s) := soupE_F (HE0.out.symm.trans hE0)
 have HBB : Hid (BB = encs (soupN c s)) := by show _ = _; rw [HB0.out, soupB, ← HE0.out, if_pos hE0]
 clear HB0 HE0
 subst hE0
 have H0 : Hid ([c.clear, c.climb, c.height, c.rise, c.run, c.w, c.d, (pn : Int)] = soupN0 c s) := by show _ = _; rw [soupN0, lt.out]; rfl
 have H0k : Hid (∀ x ∈ soupN0 c s, numOk x) := by
  intro x hx
  rw [soupN0] at hx
  rcases List.mem_append.1 hx with hx | hx
  ·
   exact cfgN_ok HF.out.c x hx
  ·
   have := HF.out.nt; simp only [List.mem_cons, List.not_mem_nil, or_false] at hx; subst hx; unfold numOk; omega
 go_wp2_with fail
 refine (put_new B _ 0 [] [c.clear, c.climb, c.height, c.rise, c.run, c.w, c.d, (pn : Int)] 8 _ w1 rfl rfl (OwnI.nil _ _ _ _) (by omega) (by rw [H0.out]; exact H0k.out) (by omega) (by omega)).mono ?_
 rintro e w2 ⟨v2, rfl, ho2, hp2⟩
 have hbr2 : Below B w1 w2 := hp2.below (by omega) (by simp [Value.ownBlock])
 have hn2 : (encs [c.clear, c.climb, c.height, c.rise, c.run, c.w, c.d, (pn : Int)]).length ≤ 72 := encs_len (m := 8) rfl (by rw [H0.out]; exact H0k.out)
 rw [List.nil_append, Nat.zero_add, H0.out] at ho2
 rw [H0.out] at hn2
 clear hp2 H0 H0k a0 a1 a2 a3 a4 a5 a6
 obtain ⟨n2, hn2d⟩ : ∃ n, n = (encs (soupN0 c s)).length := ⟨_, rfl⟩
 rw [← hn2d] at ho2 hn2
 clear hn2d
 have lp := HS.out.t.max
 have lp2 := HS.out.t.le
 have lp3 : pn ≤ 200 := by have := HF.out.nt; rw [lt.out] at this; exact this
 subst hBd
 have bs := ncell hbr2 b0
 go_wp2_with fail
 clear bs
 go_loopw [7, 44] (fun b i wr => ∃ (k n : Nat) (ys : List Int), i = .int .i64 k ∧ k ≤ pn ∧ OwnI .u8 5 w1.heap.size wr b n ys ∧ n ≤ 72 + 90 * k ∧ Hid (ys = encs (soupN0 c s ++ (s.t.take k).flatMap triN)) ∧ Below w1.heap.size w1 wr) (fun _ i _ => pn - (intOf i).toNat)
 case atStart => exact ⟨0, n2, _, rfl, Nat.zero_le _, ho2, by omega, by simp [Hid], hbr2⟩
 case round =>
 clear ho2 hbr2
 obtain ⟨k, n, ys, rfl, hk, ho, hn, HY, hbr⟩ := hrel
 obtain ⟨wj, rfl⟩ : ∃ wj : World, wj = wr := ⟨_, rfl⟩
 by_cases hlt : k < pn
 ·
  have hltI : (k : Int) < (pn : Int) := by omega
  have hk0I : (0 : Int) ≤ (k : Int) := by omega
  obtain ⟨t, ht⟩ : ∃ t, s.t[k]? = some t := ⟨_, List.getElem?_eq_getElem (by rw [lt.out]; exact hlt)⟩
  have HtF := Lib.hid (HF.out.t t (mem_of_getElem? ht))
  have HNY : Hid (encs (soupN0 c s ++ (s.t.take (k + 1)).flatMap triN) = ys ++ encs (triN t)) := by show _ = _; rw [flatMap_take_succ ht, ← List.append_assoc, encs_append, ← HY.out]
  obtain ⟨b, off, ha, _, hcell⟩ := HS.out.t.at0 (by show 0 < pn; omega)
  simp only at ha
  subst ha
  have ct := hcell k t ht
  have g0 := ncell hbr (ct 0 _ rfl)
  have g1 := ncell hbr (ct 1 _ rfl)
  have g2 := ncell hbr (ct 2 _ rfl)
  have g3 := ncell hbr (ct 3 _ rfl)
  have g4 := ncell hbr (ct 4 _ rfl)
  have g5 := ncell hbr (ct 5 _ rfl)
  have g6 := ncell hbr (ct 6 _ rfl)
  have g7 := ncell hbr (ct 7 _ rfl)
  have g8 := ncell hbr (ct 8 _ rfl)
  have g9 := ncell hbr (ct 9 _ rfl)
  simp only [Nat.add_zero] at g0
  have hbrs : w1.heap.size ≤ wj.heap.size := hbr.size
  clear ct hcell ht HY hlt
  go_wp2_with fail
  refine (put_new w1.heap.size _ n ys [t.id] 1 _ (wj.alloc (.cells #[.int .i64 t.id, .int .i64 t.v0.x, .int .i64 t.v0.y, .int .i64 t.v0.z, .int .i64 t.v1.x, .int .i64 t.v1.y, .int .i64 t.v1.z, .int .i64 t.v2.x, .int .i64 t.v2.y, .int .i64 t.v2.z] 62)) rfl (by simp) (ho.alloc _) (by simp; omega) (by have := HtF.out.1; intro x hx; simp only [List.mem_cons, List.not_mem_nil, or_false] at hx; subst hx; unfold numOk; omega) (by omega) (by omega)).mono ?_
  rintro e w3 ⟨v3, rfl, ho3, hp3⟩
  have hb3 := bel_put hbr hbrs ho hp3
  have hne3 := ho.ne (Nat.le_refl _)
  have hl3 : (encs [t.id]).length ≤ 9 := encs_len (m := 1) rfl (by have := HtF.out.1; intro x hx; simp only [List.mem_cons, List.not_mem_nil, or_false] at hx; subst hx; unfold numOk; omega)
  have t0 := hp3.grown.cell (cell_heap (k := 0) (v := .int .i64 t.id) (World.alloc_heap_new wj (.cells #[.int .i64 t.id, .int .i64 t.v0.x, .int .i64 t.v0.y, .int .i64 t.v0.z, .int .i64 t.v1.x, .int .i64 t.v1.y, .int .i64 t.v1.z, .int .i64 t.v2.x, .int .i64 t.v2.y, .int .i64 t.v2.z] 62)) rfl) hne3
  have t1 := hp3.grown.cell (cell_heap (k := 1) (v := .int .i64 t.v0.x) (World.alloc_heap_new wj (.cells #[.int .i64 t.id, .int .i64 t.v0.x, .int .i64 t.v0.y, .int .i64 t.v0.z, .int .i64 t.v1.x, .int .i64 t.v1.y, .int .i64 t.v1.z, .int .i64 t.v2.x, .int .i64 t.v2.y, .int .i64 t.v2.z] 62)) rfl) hne3
  have t2 := hp3.grown.cell (cell_heap (k := 2) (v := .int .i64 t.v0.y) (World.alloc_heap_new wj (.cells #[.int .i64 t.id, .int .i64 t.v0.x, .int .i64 t.v0.y, .int .i64 t.v0.z, .int .i64 t.v1.x, .int .i64 t.v1.y, .int .i64 t.v1.z, .int .i64 t.v2.x, .int .i64 t.v2.y, .int .i64 t.v2.z] 62)) rfl) hne3
  have t3 := hp3.grown.cell (cell_heap (k := 3) (v := .int .i64 t.v0.z) (World.alloc_heap_new wj (.cells #[.int .i64 t.id, .int .i64 t.v0.x, .int .i64 t.v0.y, .int .i64 t.v0.z, .int .i64 t.v1.x, .int .i64 t.v1.y, .int .i64 t.v1.z, .int .i64 t.v2.x, .int .i64 t.v2.y, .int .i64 t.v2.z] 62)) rfl) hne3
  have t4 := hp3.grown.cell (cell_heap (k := 4) (v := .int .i64 t.v1.x) (World.alloc_heap_new wj (.cells #[.int .i64 t.id, .int .i64 t.v0.x, .int .i64 t.v0.y, .int .i64 t.v0.z, .int .i64 t.v1.x, .int .i64 t.v1.y, .int .i64 t.v1.z, .int .i64 t.v2.x, .int .i64 t.v2.y, .int .i64 t.v2.z] 62)) rfl) hne3
  have t5 := hp3.grown.cell (cell_heap (k := 5) (v := .int .i64 t.v1.y) (World.alloc_heap_new wj (.cells #[.int .i64 t.id, .int .i64 t.v0.x, .int .i64 t.v0.y, .int .i64 t.v0.z, .int .i64 t.v1.x, .int .i64 t.v1.y, .int .i64 t.v1.z, .int .i64 t.v2.x, .int .i64 t.v2.y, .int .i64 t.v2.z] 62)) rfl) hne3
  have t6 := hp3.grown.cell (cell_heap (k := 6) (v := .int .i64 t.v1.z) (World.alloc_heap_new wj (.cells #[.int .i64 t.id, .int .i64 t.v0.x, .int .i64 t.v0.y, .int .i64 t.v0.z, .int .i64 t.v1.x, .int .i64 t.v1.y, .int .i64 t.v1.z, .int .i64 t.v2.x, .int .i64 t.v2.y, .int .i64 t.v2.z] 62)) rfl) hne3
  have t7 := hp3.grown.cell (cell_heap (k := 7) (v := .int .i64 t.v2.x) (World.alloc_heap_new wj (.cells #[.int .i64 t.id, .int .i64 t.v0.x, .int .i64 t.v0.y, .int .i64 t.v0.z, .int .i64 t.v1.x, .int .i64 t.v1.y, .int .i64 t.v1.z, .int .i64 t.v2.x, .int .i64 t.v2.y, .int .i64 t.v2.z] 62)) rfl) hne3
  have t8 := hp3.grown.cell (cell_heap (k := 8) (v := .int .i64 t.v2.y) (World.alloc_heap_new wj (.cells #[.int .i64 t.id, .int .i64 t.v0.x, .int .i64 t.v0.y, .int .i64 t.v0.z, .int .i64 t.v1.x, .int .i64 t.v1.y, .int .i64 t.v1.z, .int .i64 t.v2.x, .int .i64 t.v2.y, .int .i64 t.v2.z] 62)) rfl) hne3
  have t9 := hp3.grown.cell (cell_heap (k := 9) (v := .int .i64 t.v2.z) (World.alloc_heap_new wj (.cells #[.int .i64 t.id, .int .i64 t.v0.x, .int .i64 t.v0.y, .int .i64 t.v0.z, .int .i64 t.v1.x, .int .i64 t.v1.y, .int .i64 t.v1.z, .int .i64 t.v2.x, .int .i64 t.v2.y, .int .i64 t.v2.z] 62)) rfl) hne3
  obtain ⟨n3, hn3⟩ : ∃ m, m = n + (encs [t.id]).length := ⟨_, rfl⟩
  rw [← hn3] at ho3
  have hm3 : n3 ≤ 72 + 90 * k + 9 := by omega
  clear hn3 hl3 hp3 hne3 ho hbr hbrs g0 g1 g2 g3 g4 g5 g6 g7 g8 g9
  go_wp2_with fail
  refine wp_loop_rounds 4 ?_
  rw [rounds_succ]
  go_wp2_with fail
  have hB4 : w1.heap.size ≤ w3.heap.size := hb3.size
  have hF4 : VtxF t.v0 := HtF.out.2.1
  have HK4 := Lib.hid (vtxN_ok hF4)
  have hy4l : -1099511627776 ≤ t.v0.y := by have := hF4.2.1; omega
  have hy4h : t.v0.y ≤ 1099511627776 := by have := hF4.2.1; omega
  have hne4 := ho3.ne (Nat.le_refl _)
  have Ho4 := Lib.hid (OwnI.drewN (ho3.alloc (.cells #[.int .i64 t.v0.x, .int .i64 t.v0.y, .int .i64 t.v0.z] 59)) 1)
  have c0 := cell_heap (k := 0) (v := .int .i64 t.v0.x) (World.alloc_heap_new w3 (.cells #[.int .i64 t.v0.x, .int .i64 t.v0.y, .int .i64 t.v0.z] 59)) rfl
  have c1 := cell_heap (k := 1) (v := .int .i64 t.v0.y) (World.alloc_heap_new w3 (.cells #[.int .i64 t.v0.x, .int .i64 t.v0.y, .int .i64 t.v0.z] 59)) rfl
  have c2 := cell_heap (k := 2) (v := .int .i64 t.v0.z) (World.alloc_heap_new w3 (.cells #[.int .i64 t.v0.x, .int .i64 t.v0.y, .int .i64 t.v0.z] 59)) rfl
  go_region_held3 (fun W => W.cell? ⟨w3.heap.size, 0, none⟩ = some (.int .i64 t.v0.x) ∧ W.cell? ⟨w3.heap.size, 1, none⟩ = some (.int .i64 t.v0.y) ∧ W.cell? ⟨w3.heap.size, 2, none⟩ = some (.int .i64 t.v0.z))
   (first
    | assumption
    | exact ⟨c0, c1, c2⟩
    | exact ⟨hp4.grown.cell c0 hne4, hp4.grown.cell c1 hne4, hp4.grown.cell c2 hne4⟩
    | (go_split_ands; repeat' apply And.intro
       all_goals (exact cell_past (by assumption))))
   (first
    | (go_at_call 20; refine (zig_any _ _ hy4l hy4h).mono ?_; rintro e wz ⟨rfl, rfl⟩)
    | (go_at_call 19; refine (put_new w1.heap.size _ n3 (ys ++ encs [t.id]) (vtxN t.v0) 3 _ _ rfl (by simp) Ho4.out (by simp; omega) HK4.out (by omega) (by omega)).mono ?_; rintro e w4 ⟨v4, rfl, ho4, hp4⟩))
  rename_i hH
  clear hH
  have hb4 := bel_put' hb3 hB4 ho3 hp4
  have hl4 : (encs (vtxN t.v0)).length ≤ 27 := encs_len (m := 3) rfl HK4.out
  obtain ⟨n4, hn4⟩ : ∃ m, m = n3 + (encs (vtxN t.v0)).length := ⟨_, rfl⟩
  rw [← hn4] at ho4
  have hm4 : n4 ≤ 72 + 90 * k + 36 := by omega
  clear hn4 hl4 ho3 hp4 hb3 hB4 hF4 HK4 Ho4 hne4 hy4l hy4h c0 c1 c2
  go_wp2_with fail
  rw [rounds_succ]
  go_wp2_with fail
  have hB5 : w1.heap.size ≤ w4.heap.size := hb4.size
  have hF5 : VtxF t.v1 := HtF.out.2.2.1
  have HK5 := Lib.hid (vtxN_ok hF5)
  have hy5l : -1099511627776 ≤ t.v1.y := by have := hF5.2.1; omega
  have hy5h : t.v1.y ≤ 1099511627776 := by have := hF5.2.1; omega
  have hne5 := ho4.ne (Nat.le_refl _)
  have Ho5 := Lib.hid (OwnI.drewN (ho4.alloc (.cells #[.int .i64 t.v1.x, .int .i64 t.v1.y, .int .i64 t.v1.z] 59)) 1)
  have c0 := cell_heap (k := 0) (v := .int .i64 t.v1.x) (World.alloc_heap_new w4 (.cells #[.int .i64 t.v1.x, .int .i64 t.v1.y, .int .i64 t.v1.z] 59)) rfl
  have c1 := cell_heap (k := 1) (v := .int .i64 t.v1.y) (World.alloc_heap_new w4 (.cells #[.int .i64 t.v1.x, .int .i64 t.v1.y, .int .i64 t.v1.z] 59)) rfl
  have c2 := cell_heap (k := 2) (v := .int .i64 t.v1.z) (World.alloc_heap_new w4 (.cells #[.int .i64 t.v1.x, .int .i64 t.v1.y, .int .i64 t.v1.z] 59)) rfl
  go_region_held3 (fun W => W.cell? ⟨w4.heap.size, 0, none⟩ = some (.int .i64 t.v1.x) ∧ W.cell? ⟨w4.heap.size, 1, none⟩ = some (.int .i64 t.v1.y) ∧ W.cell? ⟨w4.heap.size, 2, none⟩ = some (.int .i64 t.v1.z))
   (first
    | assumption
    | exact ⟨c0, c1, c2⟩
    | exact ⟨hp5.grown.cell c0 hne5, hp5.grown.cell c1 hne5, hp5.grown.cell c2 hne5⟩
    | (go_split_ands; repeat' apply And.intro
       all_goals (exact cell_past (by assumption))))
   (first
    | (go_at_call 20; refine (zig_any _ _ hy5l hy5h).mono ?_; rintro e wz ⟨rfl, rfl⟩)
    | (go_at_call 19; refine (put_new w1.heap.size _ n4 ((ys ++ encs [t.id]) ++ encs (vtxN t.v0)) (vtxN t.v1) 3 _ _ rfl (by simp) Ho5.out (by simp; omega) HK5.out (by omega) (by omega)).mono ?_; rintro e w5 ⟨v5, rfl, ho5, hp5⟩))
  rename_i hH
  clear hH
  have hb5 := bel_put' hb4 hB5 ho4 hp5
  have hl5 : (encs (vtxN t.v1)).length ≤ 27 := encs_len (m := 3) rfl HK5.out
  obtain ⟨n5, hn5⟩ : ∃ m, m = n4 + (encs (vtxN t.v1)).length := ⟨_, rfl⟩
  rw [← hn5] at ho5
  have hm5 : n5 ≤ 72 + 90 * k + 63 := by omega
  clear hn5 hl5 ho4 hp5 hb4 hB5 hF5 HK5 Ho5 hne5 hy5l hy5h c0 c1 c2
  go_wp2_with fail
  rw [rounds_succ]
  go_wp2_with fail
  have hB6 : w1.heap.size ≤ w5.heap.size := hb5.size
  have hF6 : VtxF t.v2 := HtF.out.2.2.2
  have HK6 := Lib.hid (vtxN_ok hF6)
  have hy6l : -1099511627776 ≤ t.v2.y := by have := hF6.2.1; omega
  have hy6h : t.v2.y ≤ 1099511627776 := by have := hF6.2.1; omega
  have hne6 := ho5.ne (Nat.le_refl _)
  have Ho6 := Lib.hid (OwnI.drewN (ho5.alloc (.cells #[.int .i64 t.v2.x, .int .i64 t.v2.y, .int .i64 t.v2.z] 59)) 1)
  have c0 := cell_heap (k := 0) (v := .int .i64 t.v2.x) (World.alloc_heap_new w5 (.cells #[.int .i64 t.v2.x, .int .i64 t.v2.y, .int .i64 t.v2.z] 59)) rfl
  have c1 := cell_heap (k := 1) (v := .int .i64 t.v2.y) (World.alloc_heap_new w5 (.cells #[.int .i64 t.v2.x, .int .i64 t.v2.y, .int .i64 t.v2.z] 59)) rfl
  have c2 := cell_heap (k := 2) (v := .int .i64 t.v2.z) (World.alloc_heap_new w5 (.cells #[.int .i64 t.v2.x, .int .i64 t.v2.y, .int .i64 t.v2.z] 59)) rfl
  go_region_held3 (fun W => W.cell? ⟨w5.heap.size, 0, none⟩ = some (.int .i64 t.v2.x) ∧ W.cell? ⟨w5.heap.size, 1, none⟩ = some (.int .i64 t.v2.y) ∧ W.cell? ⟨w5.heap.size, 2, none⟩ = some (.int .i64 t.v2.z))
   (first
    | assumption
    | exact ⟨c0, c1, c2⟩
    | exact ⟨hp6.grown.cell c0 hne6, hp6.grown.cell c1 hne6, hp6.grown.cell c2 hne6⟩
    | (go_split_ands; repeat' apply And.intro
       all_goals (exact cell_past (by assumption))))
   (first
    | (go_at_call 20; refine (zig_any _ _ hy6l hy6h).mono ?_; rintro e wz ⟨rfl, rfl⟩)
    | (go_at_call 19; refine (put_new w1.heap.size _ n5 (((ys ++ encs [t.id]) ++ encs (vtxN t.v0)) ++ encs (vtxN t.v1)) (vtxN t.v2) 3 _ _ rfl (by simp) Ho6.out (by simp; omega) HK6.out (by omega) (by omega)).mono ?_; rintro e w6 ⟨v6, rfl, ho6, hp6⟩))
  rename_i hH
  clear hH
  have hb6 := bel_put' hb5 hB6 ho5 hp6
  have hl6 : (encs (vtxN t.v2)).length ≤ 27 := encs_len (m := 3) rfl HK6.out
  obtain ⟨n6, hn6⟩ : ∃ m, m = n5 + (encs (vtxN t.v2)).length := ⟨_, rfl⟩
  rw [← hn6] at ho6
  have hm6 : n6 ≤ 72 + 90 * k + 90 := by omega
  clear hn6 hl6 ho5 hp6 hb5 hB6 hF6 HK6 Ho6 hne6 hy6l hy6h c0 c1 c2
  go_wp2_with fail
  rw [rounds_succ]
  go_wp2
  go_roundw
  case rel =>
   refine ⟨k + 1, n6, _, by go_num, by omega, ho6, by omega, ?_, hb6⟩
   show _ = _
   rw [HNY.out, triN, show t.id :: (vtxN t.v0 ++ (vtxN t.v1 ++ vtxN t.v2)) = [t.id] ++ (vtxN t.v0 ++ (vtxN t.v1 ++ vtxN t.v2)) from rfl, encs_append, encs_append, encs_append]
   simp only [List.append_assoc]
  case measure => simp [intOf]; omega
 obtain rfl : pn = k := by omega
 have hltn : ¬ (pn : Int) < (pn : Int) := by omega
 have HY1 : Hid (ys = encs (soupN0 c s ++ s.t.flatMap triN)) := by show _ = _; rw [HY.out, List.take_of_length_le (by rw [lt.out]; exact Nat.le_refl _)]
 have hbrs : w1.heap.size ≤ wj.heap.size := hbr.size
 clear HY hlt hk
 have bs := ncell hbr b1
 have lq := HS.out.b.max
 have lq2 := HS.out.b.le
 have lq3 : qn ≤ 16 := by have := HF.out.nb; rw [lb.out] at this; exact this
 have Hk1 : Hid (∀ x ∈ [(qn : Int)], numOk x) := by intro x hx; simp only [List.mem_cons, List.not_mem_nil, or_false] at hx; subst hx; unfold numOk; omega
 go_wp2_with fail
 refine (put_new w1.heap.size _ n ys [(qn : Int)] 1 _ wj rfl rfl ho hbrs Hk1.out (by omega) (by omega)).mono ?_
 rintro e w20 ⟨v20, rfl, ho20, hp20⟩
 have hb20 := hbr.trans (hp20.below hbrs ho.le)
 have hl20 : (encs [(qn : Int)]).length ≤ 9 := encs_len (m := 1) rfl Hk1.out
 obtain ⟨n20, hn20⟩ : ∃ m, m = n + (encs [(qn : Int)]).length := ⟨_, rfl⟩
 rw [← hn20] at ho20
 have hm20 : n20 ≤ 18081 := by omega
 have HYN : Hid (ys ++ encs [(qn : Int)] = encs (soupN1 c s)) := by show _ = _; rw [HY1.out, ← encs_append, soupN1, lb.out]
 rw [HYN.out] at ho20
 clear hn20 hl20 ho hp20 hbr hbrs Hk1 HY1 HYN hn bs
 have bs := ncell hb20 b1
 go_wp2_with fail
 clear bs
 go_loopw [7, 79] (fun b i wr => ∃ (k n : Nat) (ys : List Int), i = .int .i64 k ∧ k ≤ qn ∧ OwnI .u8 5 w1.heap.size wr b n ys ∧ n ≤ 18081 + 72 * k ∧ Hid (ys = encs (soupN1 c s ++ (s.b.take k).flatMap bxN)) ∧ Below w1.heap.size w1 wr) (fun _ i _ => qn - (intOf i).toNat)
 case atStart => exact ⟨0, n20, _, rfl, Nat.zero_le _, ho20, by omega, by simp [Hid], hb20⟩
 case round =>
 clear ho20 hb20 hm20
 obtain ⟨k, n, ys, rfl, hk, ho, hn, HY, hbr⟩ := hrel
 obtain ⟨wj, rfl⟩ : ∃ wj : World, wj = wr := ⟨_, rfl⟩
 by_cases hlt : k < qn
 ·
  have hltI : (k : Int) < (qn : Int) := by omega
  have hk0I : (0 : Int) ≤ (k : Int) := by omega
  obtain ⟨t, ht⟩ : ∃ t, s.b[k]? = some t := ⟨_, List.getElem?_eq_getElem (by rw [lb.out]; exact hlt)⟩
  have HtF := Lib.hid (HF.out.b t (mem_of_getElem? ht))
  have HNY : Hid (encs (soupN1 c s ++ (s.b.take (k + 1)).flatMap bxN) = ys ++ encs (bxN t)) := by show _ = _; rw [flatMap_take_succ ht, ← List.append_assoc, encs_append, ← HY.out]
  obtain ⟨b, off, ha, _, hcell⟩ := HS.out.b.at0 (by show 0 < qn; omega)
  simp only at ha
  subst ha
  have ct := hcell k t ht
  have g0 := ncell hbr (ct 0 _ rfl)
  have g1 := ncell hbr (ct 1 _ rfl)
  have g2 := ncell hbr (ct 2 _ rfl)
  have g3 := ncell hbr (ct 3 _ rfl)
  have g4 := ncell hbr (ct 4 _ rfl)
  have g5 := ncell hbr (ct 5 _ rfl)
  have g6 := ncell hbr (ct 6 _ rfl)
  have g7 := ncell hbr (ct 7 _ rfl)
  simp only [Nat.add_zero] at g0
  have hbrs : w1.heap.size ≤ wj.heap.size := hbr.size
  clear ct hcell ht HY hlt
  have HK := Lib.hid (bxN_ok HtF.out)
  have hl0 : -1099511627776 ≤ t.y0 := by have := HtF.out.2.2.2.2.2.1; omega
  have hh0 : t.y0 ≤ 1099511627776 := by have := HtF.out.2.2.2.2.2.1; omega
  have hl1 : -1099511627776 ≤ t.y1 := by have := HtF.out.2.2.2.2.2.2.1; omega
  have hh1 : t.y1 ≤ 1099511627776 := by have := HtF.out.2.2.2.2.2.2.1; omega
  have hne := ho.ne (Nat.le_refl _)
  have Ho := Lib.hid (OwnI.drewN (ho.alloc (.cells #[.int .i64 t.id, .int .i64 t.x0, .int .i64 t.z0, .int .i64 t.x1, .int .i64 t.z1, .int .i64 t.y0, .int .i64 t.y1, .int .i64 t.area] 65)) 1)
  have c0 := cell_heap (k := 0) (v := .int .i64 t.id) (World.alloc_heap_new wj (.cells #[.int .i64 t.id, .int .i64 t.x0, .int .i64 t.z0, .int .i64 t.x1, .int .i64 t.z1, .int .i64 t.y0, .int .i64 t.y1, .int .i64 t.area] 65)) rfl
  have c1 := cell_heap (k := 1) (v := .int .i64 t.x0) (World.alloc_heap_new wj (.cells #[.int .i64 t.id, .int .i64 t.x0, .int .i64 t.z0, .int .i64 t.x1, .int .i64 t.z1, .int .i64 t.y0, .int .i64 t.y1, .int .i64 t.area] 65)) rfl
  have c2 := cell_heap (k := 2) (v := .int .i64 t.z0) (World.alloc_heap_new wj (.cells #[.int .i64 t.id, .int .i64 t.x0, .int .i64 t.z0, .int .i64 t.x1, .int .i64 t.z1, .int .i64 t.y0, .int .i64 t.y1, .int .i64 t.area] 65)) rfl
  have c3 := cell_heap (k := 3) (v := .int .i64 t.x1) (World.alloc_heap_new wj (.cells #[.int .i64 t.id, .int .i64 t.x0, .int .i64 t.z0, .int .i64 t.x1, .int .i64 t.z1, .int .i64 t.y0, .int .i64 t.y1, .int .i64 t.area] 65)) rfl
  have c4 := cell_heap (k := 4) (v := .int .i64 t.z1) (World.alloc_heap_new wj (.cells #[.int .i64 t.id, .int .i64 t.x0, .int .i64 t.z0, .int .i64 t.x1, .int .i64 t.z1, .int .i64 t.y0, .int .i64 t.y1, .int .i64 t.area] 65)) rfl
  have c5 := cell_heap (k := 5) (v := .int .i64 t.y0) (World.alloc_heap_new wj (.cells #[.int .i64 t.id, .int .i64 t.x0, .int .i64 t.z0, .int .i64 t.x1, .int .i64 t.z1, .int .i64 t.y0, .int .i64 t.y1, .int .i64 t.area] 65)) rfl
  have c6 := cell_heap (k := 6) (v := .int .i64 t.y1) (World.alloc_heap_new wj (.cells #[.int .i64 t.id, .int .i64 t.x0, .int .i64 t.z0, .int .i64 t.x1, .int .i64 t.z1, .int .i64 t.y0, .int .i64 t.y1, .int .i64 t.area] 65)) rfl
  have c7 := cell_heap (k := 7) (v := .int .i64 t.area) (World.alloc_heap_new wj (.cells #[.int .i64 t.id, .int .i64 t.x0, .int .i64 t.z0, .int .i64 t.x1, .int .i64 t.z1, .int .i64 t.y0, .int .i64 t.y1, .int .i64 t.area] 65)) rfl
  go_wp2_with fail
  clear g0 g1 g2 g3 g4 g5 g6 g7
  go_region_held3 (fun W => W.cell? ⟨wj.heap.size, 0, none⟩ = some (.int .i64 t.id) ∧ W.cell? ⟨wj.heap.size, 1, none⟩ = some (.int .i64 t.x0) ∧ W.cell? ⟨wj.heap.size, 2, none⟩ = some (.int .i64 t.z0) ∧ W.cell? ⟨wj.heap.size, 3, none⟩ = some (.int .i64 t.x1) ∧ W.cell? ⟨wj.heap.size, 4, none⟩ = some (.int .i64 t.z1) ∧ W.cell? ⟨wj.heap.size, 5, none⟩ = some (.int .i64 t.y0) ∧ W.cell? ⟨wj.heap.size, 6, none⟩ = some (.int .i64 t.y1) ∧ W.cell? ⟨wj.heap.size, 7, none⟩ = some (.int .i64 t.area))
   (first
    | assumption
    | exact ⟨c0, c1, c2, c3, c4, c5, c6, c7⟩
    | exact ⟨hp4.grown.cell c0 hne, hp4.grown.cell c1 hne, hp4.grown.cell c2 hne, hp4.grown.cell c3 hne, hp4.grown.cell c4 hne, hp4.grown.cell c5 hne, hp4.grown.cell c6 hne, hp4.grown.cell c7 hne⟩
    | (go_split_ands; repeat' apply And.intro
       all_goals (exact cell_past (by assumption))))
   (first
    | (go_at_call 20; refine (zig_any _ _ (by assumption) (by assumption)).mono ?_; rintro e wz ⟨rfl, rfl⟩)
    | (go_at_call 21; refine (bit_any _ _).mono ?_; rintro e wz ⟨rfl, rfl⟩)
    | (go_at_call 19; refine (put_new w1.heap.size _ n ys (bxN t) 8 _ _ rfl (by simp) Ho.out (by simp; omega) HK.out (by omega) (by omega)).mono ?_; rintro e w4 ⟨v4, rfl, ho4, hp4⟩))
  all_goals (
   rename_i hH
   clear hH
   have hb4 := bel_put' hbr hbrs ho hp4
   have hl4 : (encs (bxN t)).length ≤ 72 := encs_len (m := 8) rfl HK.out
   obtain ⟨n4, hn4⟩ : ∃ m, m = n + (encs (bxN t)).length := ⟨_, rfl⟩
   rw [← hn4] at ho4
   have hm4 : n4 ≤ 18081 + 72 * (k + 1) := by omega
   clear hn4 hl4 hp4 hbr hne Ho HK c0 c1 c2 c3 c4 c5 c6 c7
   go_wp2
   go_roundw
   case rel => exact ⟨k + 1, n4, _, by go_num, by omega, ho4, by omega, HNY.out.symm, hb4⟩
   case measure => simp [intOf]; omega)
 obtain rfl : qn = k := by omega
 have hltn : ¬ (qn : Int) < (qn : Int) := by omega
 have HY1 : Hid (ys = encs (soupN1 c s ++ s.b.flatMap bxN)) := by show _ = _; rw [HY.out, List.take_of_length_le (by rw [lb.out]; exact Nat.le_refl _)]
 have hbrs : w1.heap.size ≤ wj.heap.size := hbr.size
 clear HY hlt hk
 have bs := ncell hbr b2
 have lq := HS.out.h.max
 have lq2 := HS.out.h.le
 have lq3 : rn ≤ 16 := by have := HF.out.nh; rw [lh.out] at this; exact this
 have Hk1 : Hid (∀ x ∈ [(rn : Int)], numOk x) := by intro x hx; simp only [List.mem_cons, List.not_mem_nil, or_false] at hx; subst hx; unfold numOk; omega
 go_wp2_with fail
 refine (put_new w1.heap.size _ n ys [(rn : Int)] 1 _ wj rfl rfl ho hbrs Hk1.out (by omega) (by omega)).mono ?_
 rintro e w21 ⟨v21, rfl, ho21, hp21⟩
 have hb21 := hbr.trans (hp21.below hbrs ho.le)
 have hl21 : (encs [(rn : Int)]).length ≤ 9 := encs_len (m := 1) rfl Hk1.out
 obtain ⟨n21, hn21⟩ : ∃ m, m = n + (encs [(rn : Int)]).length := ⟨_, rfl⟩
 rw [← hn21] at ho21
 have hm21 : n21 ≤ 19242 := by omega
 have HYN : Hid (ys ++ encs [(rn : Int)] = encs (soupN2 c s)) := by show _ = _; rw [HY1.out, ← encs_append, soupN2, lh.out]
 rw [HYN.out] at ho21
 clear hn21 hl21 ho hp21 hbr hbrs Hk1 HY1 HYN hn bs
 have bs := ncell hb21 b2
 go_wp2_with fail
 clear bs
 go_loopw [7, 114] (fun b i wr => ∃ (k n : Nat) (ys : List Int), i = .int .i64 k ∧ k ≤ rn ∧ OwnI .u8 5 w1.heap.size wr b n ys ∧ n ≤ 19242 + 90 * k ∧ Hid (ys = encs (soupN2 c s ++ (s.h.take k).flatMap hpN)) ∧ Below w1.heap.size w1 wr) (fun _ i _ => rn - (intOf i).toNat)
 case atStart => exact ⟨0, n21, _, rfl, Nat.zero_le _, ho21, by omega, by simp [Hid], hb21⟩
 case round =>
 clear ho21 hb21 hm21
 obtain ⟨k, n, ys, rfl, hk, ho, hn, HY, hbr⟩ := hrel
 obtain ⟨wj, rfl⟩ : ∃ wj : World, wj = wr := ⟨_, rfl⟩
 by_cases hlt : k < rn
 ·
  have hltI : (k : Int) < (rn : Int) := by omega
  have hk0I : (0 : Int) ≤ (k : Int) := by omega
  obtain ⟨t, ht⟩ : ∃ t, s.h[k]? = some t := ⟨_, List.getElem?_eq_getElem (by rw [lh.out]; exact hlt)⟩
  have HtF := Lib.hid (HF.out.h t (mem_of_getElem? ht))
  have HNY : Hid (encs (soupN2 c s ++ (s.h.take (k + 1)).flatMap hpN) = ys ++ encs (hpN t)) := by show _ = _; rw [flatMap_take_succ ht, ← List.append_assoc, encs_append, ← HY.out]
  obtain ⟨b, off, ha, _, hcell⟩ := HS.out.h.at0 (by show 0 < rn; omega)
  simp only at ha
  subst ha
  have ct := hcell k t ht
  have g0 := ncell hbr (ct 0 _ rfl)
  have g1 := ncell hbr (ct 1 _ rfl)
  have g2 := ncell hbr (ct 2 _ rfl)
  have g3 := ncell hbr (ct 3 _ rfl)
  have g4 := ncell hbr (ct 4 _ rfl)
  have g5 := ncell hbr (ct 5 _ rfl)
  have g6 := ncell hbr (ct 6 _ rfl)
  have g7 := ncell hbr (ct 7 _ rfl)
  have g8 := ncell hbr (ct 8 _ rfl)
  have g9 := ncell hbr (ct 9 _ rfl)
  simp only [Nat.add_zero] at g0
  have hbrs : w1.heap.size ≤ wj.heap.size := hbr.size
  clear ct hcell ht HY hlt
  have HK := Lib.hid (hpN_ok HtF.out)
  have hl0 : -1099511627776 ≤ t.a.y := by have := HtF.out.2.1.2.2; omega
  have hh0 : t.a.y ≤ 1099511627776 := by have := HtF.out.2.1.2.2; omega
  have hl1 : -1099511627776 ≤ t.b.y := by have := HtF.out.2.2.1.2.2; omega
  have hh1 : t.b.y ≤ 1099511627776 := by have := HtF.out.2.2.1.2.2; omega
  have hne := ho.ne (Nat.le_refl _)
  have Ho := Lib.hid (OwnI.drewN (ho.alloc (.cells #[.int .i64 t.id, .int .i64 t.a.x, .int .i64 t.a.z, .int .i64 t.a.y, .int .i64 t.b.x, .int .i64 t.b.z, .int .i64 t.b.y, .bool t.both, .int .i64 t.area, .int .i64 t.cost] 69)) 1)
  have c0 := cell_heap (k := 0) (v := .int .i64 t.id) (World.alloc_heap_new wj (.cells #[.int .i64 t.id, .int .i64 t.a.x, .int .i64 t.a.z, .int .i64 t.a.y, .int .i64 t.b.x, .int .i64 t.b.z, .int .i64 t.b.y, .bool t.both, .int .i64 t.area, .int .i64 t.cost] 69)) rfl
  have c1 := cell_heap (k := 1) (v := .int .i64 t.a.x) (World.alloc_heap_new wj (.cells #[.int .i64 t.id, .int .i64 t.a.x, .int .i64 t.a.z, .int .i64 t.a.y, .int .i64 t.b.x, .int .i64 t.b.z, .int .i64 t.b.y, .bool t.both, .int .i64 t.area, .int .i64 t.cost] 69)) rfl
  have c2 := cell_heap (k := 2) (v := .int .i64 t.a.z) (World.alloc_heap_new wj (.cells #[.int .i64 t.id, .int .i64 t.a.x, .int .i64 t.a.z, .int .i64 t.a.y, .int .i64 t.b.x, .int .i64 t.b.z, .int .i64 t.b.y, .bool t.both, .int .i64 t.area, .int .i64 t.cost] 69)) rfl
  have c3 := cell_heap (k := 3) (v := .int .i64 t.a.y) (World.alloc_heap_new wj (.cells #[.int .i64 t.id, .int .i64 t.a.x, .int .i64 t.a.z, .int .i64 t.a.y, .int .i64 t.b.x, .int .i64 t.b.z, .int .i64 t.b.y, .bool t.both, .int .i64 t.area, .int .i64 t.cost] 69)) rfl
  have c4 := cell_heap (k := 4) (v := .int .i64 t.b.x) (World.alloc_heap_new wj (.cells #[.int .i64 t.id, .int .i64 t.a.x, .int .i64 t.a.z, .int .i64 t.a.y, .int .i64 t.b.x, .int .i64 t.b.z, .int .i64 t.b.y, .bool t.both, .int .i64 t.area, .int .i64 t.cost] 69)) rfl
  have c5 := cell_heap (k := 5) (v := .int .i64 t.b.z) (World.alloc_heap_new wj (.cells #[.int .i64 t.id, .int .i64 t.a.x, .int .i64 t.a.z, .int .i64 t.a.y, .int .i64 t.b.x, .int .i64 t.b.z, .int .i64 t.b.y, .bool t.both, .int .i64 t.area, .int .i64 t.cost] 69)) rfl
  have c6 := cell_heap (k := 6) (v := .int .i64 t.b.y) (World.alloc_heap_new wj (.cells #[.int .i64 t.id, .int .i64 t.a.x, .int .i64 t.a.z, .int .i64 t.a.y, .int .i64 t.b.x, .int .i64 t.b.z, .int .i64 t.b.y, .bool t.both, .int .i64 t.area, .int .i64 t.cost] 69)) rfl
  have c7 := cell_heap (k := 7) (v := .bool t.both) (World.alloc_heap_new wj (.cells #[.int .i64 t.id, .int .i64 t.a.x, .int .i64 t.a.z, .int .i64 t.a.y, .int .i64 t.b.x, .int .i64 t.b.z, .int .i64 t.b.y, .bool t.both, .int .i64 t.area, .int .i64 t.cost] 69)) rfl
  have c8 := cell_heap (k := 8) (v := .int .i64 t.area) (World.alloc_heap_new wj (.cells #[.int .i64 t.id, .int .i64 t.a.x, .int .i64 t.a.z, .int .i64 t.a.y, .int .i64 t.b.x, .int .i64 t.b.z, .int .i64 t.b.y, .bool t.both, .int .i64 t.area, .int .i64 t.cost] 69)) rfl
  have c9 := cell_heap (k := 9) (v := .int .i64 t.cost) (World.alloc_heap_new wj (.cells #[.int .i64 t.id, .int .i64 t.a.x, .int .i64 t.a.z, .int .i64 t.a.y, .int .i64 t.b.x, .int .i64 t.b.z, .int .i64 t.b.y, .bool t.both, .int .i64 t.area, .int .i64 t.cost] 69)) rfl
  go_wp2_with fail
  clear g0 g1 g2 g3 g4 g5 g6 g7 g8 g9
  go_region_held3 (fun W => W.cell? ⟨wj.heap.size, 0, none⟩ = some (.int .i64 t.id) ∧ W.cell? ⟨wj.heap.size, 1, none⟩ = some (.int .i64 t.a.x) ∧ W.cell? ⟨wj.heap.size, 2, none⟩ = some (.int .i64 t.a.z) ∧ W.cell? ⟨wj.heap.size, 3, none⟩ = some (.int .i64 t.a.y) ∧ W.cell? ⟨wj.heap.size, 4, none⟩ = some (.int .i64 t.b.x) ∧ W.cell? ⟨wj.heap.size, 5, none⟩ = some (.int .i64 t.b.z) ∧ W.cell? ⟨wj.heap.size, 6, none⟩ = some (.int .i64 t.b.y) ∧ W.cell? ⟨wj.heap.size, 7, none⟩ = some (.bool t.both) ∧ W.cell? ⟨wj.heap.size, 8, none⟩ = some (.int .i64 t.area) ∧ W.cell? ⟨wj.heap.size, 9, none⟩ = some (.int .i64 t.cost))
   (first
    | assumption
    | exact ⟨c0, c1, c2, c3, c4, c5, c6, c7, c8, c9⟩
    | exact ⟨hp4.grown.cell c0 hne, hp4.grown.cell c1 hne, hp4.grown.cell c2 hne, hp4.grown.cell c3 hne, hp4.grown.cell c4 hne, hp4.grown.cell c5 hne, hp4.grown.cell c6 hne, hp4.grown.cell c7 hne, hp4.grown.cell c8 hne, hp4.grown.cell c9 hne⟩
    | (go_split_ands; repeat' apply And.intro
       all_goals (exact cell_past (by assumption))))
   (first
    | (go_at_call 20; refine (zig_any _ _ (by assumption) (by assumption)).mono ?_; rintro e wz ⟨rfl, rfl⟩)
    | (go_at_call 21; refine (bit_any _ _).mono ?_; rintro e wz ⟨rfl, rfl⟩)
    | (go_at_call 19; refine (put_new w1.heap.size _ n ys (hpN t) 10 _ _ rfl (by simp) Ho.out (by simp; omega) HK.out (by omega) (by omega)).mono ?_; rintro e w4 ⟨v4, rfl, ho4, hp4⟩))
  all_goals (
   rename_i hH
   clear hH
   have hb4 := bel_put' hbr hbrs ho hp4
   have hl4 : (encs (hpN t)).length ≤ 90 := encs_len (m := 10) rfl HK.out
   obtain ⟨n4, hn4⟩ : ∃ m, m = n + (encs (hpN t)).length := ⟨_, rfl⟩
   rw [← hn4] at ho4
   have hm4 : n4 ≤ 19242 + 90 * (k + 1) := by omega
   clear hn4 hl4 hp4 hbr hne Ho HK c0 c1 c2 c3 c4 c5 c6 c7 c8 c9
   go_wp2
   go_roundw
   case rel => exact ⟨k + 1, n4, _, by go_num, by omega, ho4, by omega, HNY.out.symm, hb4⟩
   case measure => simp [intOf]; omega)
 obtain rfl : rn = k := by omega
 have hltn : ¬ (rn : Int) < (rn : Int) := by omega
 have HY1 : Hid (ys = encs (soupN2 c s ++ s.h.flatMap hpN)) := by show _ = _; rw [HY.out, List.take_of_length_le (by rw [lh.out]; exact Nat.le_refl _)]
 have hbrs : w1.heap.size ≤ wj.heap.size := hbr.size
 clear HY hlt hk
 have HZ : Hid (BB = ys) := by show _ = _; rw [HBB.out, HY1.out]; rfl
 go_wp2
 go_ret2
 unfold NumPost
 rw [HZ.out]
 have hlen := ho.length
 subst hlen
 exact ⟨_, rfl, ho.mono Hbw.out.size, below_step2 Hbw.out hbr⟩

end Go.Proofs.YtgfmdgiepomkiaaGreat
