/- Walks: trips.Changed. -/
import Derived.Test.YtilhmlapbifbbaaPrR
import Derived.Test.YtilhmlapbifbbaaRsh
import Derived.Deep.AppendLies
namespace Go.Proofs.Ytilhmlapbifbbaa
open Go.RowKit Go.Shelf Go.Sort
attribute [local go_sem] Oper.semAt_some

theorem OwnP.keptRow {B : Nat} {w w' : World} {v : Value} {n : Nat} {xs : List (Nat × Nat)} (h : OwnP B w v n xs) {row : Option Nat} (hg : w.grownBy w' row) (hrow : ∀ r, row = some r → ∃ o : Obj, w.heap[r]? = some o ∧ o.isCells = false) : OwnP B w' v n xs := by
  refine h.kept hg ?_
  rcases h.2.2 with ⟨rfl, _⟩ | ⟨g, cap, cur, rfl, _, hgb, _⟩
  · exact .inl rfl
  · refine .inr fun e => ?_
    obtain ⟨o, h1, h2⟩ := hrow g (by simpa [Value.ownBlock] using e.symm)
    rw [hgb] at h1
    cases h1
    cases h2

set_option maxRecDepth 100000 in
set_option maxHeartbeats 20000000 in
theorem changed_yes (a a2 : Option Addr) (n c c2 : Nat) (rs ss : List TRow) (w : World) (hx : SlT w a n c rs) (hy : SlT w a2 n c2 ss) (hm : mayT (tabOf rs) = true) (hm2 : mayT (tabOf ss) = true) :
    Calls Try.prog 46 #[.slice a n c, .slice a2 n c2] w fun e w' => ∃ v, e = .returned (.tuple #[v, .int .i64 0]) ∧ OwnP w.heap.size w' v (chL (tabOf rs) (tabOf ss) (prs n)).length (chL (tabOf rs) (tabOf ss) (prs n)) ∧ Below w.heap.size w w' := by
  have hmax := hx.sl.max
  have hle := hx.sl.le
  have hmax2 := hy.sl.max
  have hle2 := hy.sl.le
  have hl := hx.tlen
  have hl2 := hy.tlen
  obtain ⟨hn12, hsq⟩ := mayT_sq hm
  obtain ⟨_, hsq2⟩ := mayT_sq hm2
  rw [hl] at hn12 hsq
  rw [hl2] at hsq2
  have Hx := Lib.hid hx
  have Hy := Lib.hid hy
  have Hm := Lib.hid hm
  have Hm2 := Lib.hid hm2
  have Hsq := Lib.hid hsq
  have Hsq2 := Lib.hid hsq2
  obtain ⟨i0, hi, hz0, hz1, hz2⟩ := info_parts info_pair
  have hmo : Try.prog.follows .mixedOrders = true := by kernel_rfl
  clear hm hm2 hx hy hl hl2 hsq hsq2
  refine (callsIn_wide (n := 6)).1 ?_
  refine callsIn_of_wp_marks Try.func46 rfl trivial ?_ rfl
  simp only [Try.ntmps46, List.size_toArray, List.length_cons, List.length_nil, Nat.reduceAdd, Nat.reduceSub, Array.replicate_succ, Array.replicate_zero, List.push_toArray, List.append_toArray, List.nil_append, List.cons_append]
  gi_wp2_with fail
  refine ⟨trivial, ?_⟩
  have hb0 : Below w.heap.size w (((w.alloc (.cells #[.slice a n c] 52)).alloc (.cells #[.slice a2 n c2] 52)).alloc (.cells #[.slice none 0 0] 61)) := (((Below.refl _ _).alloc (Nat.le_refl _) _).alloc (by simp) _).alloc (by simp; omega) _
  have bA := ((Boxed.new w 52 (.slice a n c)).alloc (.cells #[.slice a2 n c2] 52)).alloc (.cells #[.slice none 0 0] 61)
  have bB := (Boxed.new (w.alloc (.cells #[.slice a n c] 52)) 52 (.slice a2 n c2)).alloc (.cells #[.slice none 0 0] 61)
  have bO := Boxed.new ((w.alloc (.cells #[.slice a n c] 52)).alloc (.cells #[.slice a2 n c2] 52)) 61 (.slice none 0 0)
  simp only [World.size_alloc] at bB bO
  obtain ⟨w1, hw1⟩ : ∃ w1, w1 = (((w.alloc (.cells #[.slice a n c] 52)).alloc (.cells #[.slice a2 n c2] 52)).alloc (.cells #[.slice none 0 0] 61)) := ⟨_, rfl⟩
  have hs1 : w1.heap.size = w.heap.size + 1 + 1 + 1 := by rw [hw1]; simp
  rw [← hw1] at bA bB bO hb0 ⊢
  clear hw1
  obtain ⟨p2, hp2⟩ : ∃ p2, p2 = w.heap.size + 1 + 1 := ⟨_, rfl⟩
  rw [← hp2] at bO hs1 ⊢
  obtain ⟨p1, hp1⟩ : ∃ p1, p1 = w.heap.size + 1 := ⟨_, rfl⟩
  rw [← hp1] at bB hp2 ⊢
  have hpa : w.heap.size < p1 := by omega
  have hpb : p1 < p2 := by omega
  clear hp1 hp2
  gi_at_call 38
  refine (callsIn_wide.2 (may_tab a n c rs _ (Hx.out.below hb0 (Nat.le_refl _)))).mono ?_
  rw [Hm.out]
  rintro e w2 ⟨rfl, hb2⟩
  have bA2 := (hb2.block _ bA.lt).trans bA
  have bB2 := (hb2.block _ bB.lt).trans bB
  have bO2 := (hb2.block _ bO.lt).trans bO
  have hb02 := hb0.trans (hb2.mono hb0.size)
  have hs2 := hb2.size
  have cB2 := Boxed.cell bB2
  clear bA bB bO hb0 hb2
  gi_wp2_with fail
  refine ⟨trivial, ?_⟩
  gi_at_call 38
  refine (callsIn_wide.2 (may_tab a2 n c2 ss _ (Hy.out.below hb02 (Nat.le_refl _)))).mono ?_
  rw [Hm2.out]
  rintro e w3 ⟨rfl, hb3⟩
  have bA3 : Boxed w3 w.heap.size 52 (.slice a n c) := (hb3.block _ (Boxed.lt bA2)).trans bA2
  have bB3 : Boxed w3 p1 52 (.slice a2 n c2) := (hb3.block _ (Boxed.lt bB2)).trans bB2
  have bO3 : Boxed w3 p2 61 (.slice none 0 0) := (hb3.block _ (Boxed.lt bO2)).trans bO2
  have hb03 := hb02.trans (hb3.mono hb02.size)
  have hs3 := hb3.size
  have cA3 := bA3.cell
  have cB3 := bB3.cell
  clear bA2 bB2 bO2 hb02 hb3 cB2
  have q0 : ((n : Int) != (n : Int)) = false := by simp
  gi_wp2_with fail
  refine ⟨trivial, ?_⟩
  gi_at_call 70
  refine (callsIn_wide.2 (pairs_any n _)).mono ?_
  rintro e w4 ⟨rfl, hw4⟩
  have bN4 : w4.cell? ⟨w3.heap.size, 0, none⟩ = some (.int .i64 n) := by rw [hw4, World.cell?_alloc_at _ _ _ _ (by simp)]; rfl
  have bA4 : Boxed w4 w.heap.size 52 (.slice a n c) := by rw [hw4]; exact bA3.alloc _
  have bB4 : Boxed w4 p1 52 (.slice a2 n c2) := by rw [hw4]; exact bB3.alloc _
  have bO4 : Boxed w4 p2 61 (.slice none 0 0) := by rw [hw4]; exact bO3.alloc _
  have hb04 : Below w.heap.size w w4 := by rw [hw4]; exact hb03.alloc hb03.size _
  have hs4 : w4.heap.size = w3.heap.size + 1 := by rw [hw4]; simp
  have hb03s := hb03.size
  have hs4' : w3.heap.size < w4.heap.size := by omega
  clear hs4
  clear hw4 bA3 bB3 bO3 hb03 cA3 cB3
  gi_wp2
  refine wpIn_rangeFunc_ownH rfl (by decide) (gf := 105) (lb := #[.pointer (some ⟨w3.heap.size, 0, none⟩)]) rfl trivial (enters_of Try.func105 (by kernel_rfl) rfl)
    (pairs_stops 5 (by decide) w3.heap.size w4.heap.size (fun k => k = p2) n hn12 w4 bN4 (by omega) (by omega)) keepEx_t (keepEx_b (Nat.le_refl _)) (Below.refl _ _) (fun _ => rfl)
    (fun pre W => (∃ v, Boxed W p2 61 v ∧ W.ownsRow w4.heap.size 65 2 v (chL (tabOf rs) (tabOf ss) (pre.map Subtype.val)).length ((chL (tabOf rs) (tabOf ss) (pre.map Subtype.val)).flatMap prC) ∧ True) ∧ (KeepEx w4.heap.size (fun k => k = p2) w4 W ∧ Below w.heap.size w W))
    (fun _ _ _ => False)
    (OwnFrom.and (Own.from (holdsRow_own w4.heap.size p2 61 65 2 (fun pre : List (PrN n) => (chL (tabOf rs) (tabOf ss) (pre.map Subtype.val)).length) (fun pre => (chL (tabOf rs) (tabOf ss) (pre.map Subtype.val)).flatMap prC) (fun _ _ => True)) _) (OwnFrom.and (ownFrom_keepEx (Nat.le_refl _) (Nat.le_refl _)) (ownFrom_below (Nat.le_refl _) hb04.size)))
    (fun _ _ _ _ _ hs _ _ => hs)
    ⟨⟨_, bO4, World.ownsRow_nil _ _ _ _, trivial⟩, KeepEx.refl _ _ _, hb04⟩
    (fun x a' W => ∃ Bx, w4.heap.size ≤ Bx ∧ W.heap[Bx]? = some (.cells #[.int .i64 (x.1.1 : Int), .int .i64 (x.1.2 : Int)] 65 (0, 0)) ∧ a' = { tmps := #[.slice a n c, .slice a2 n c2, .pointer (some ⟨w.heap.size, 0, none⟩), .pointer (some ⟨p1, 0, none⟩), .pointer (some ⟨p2, 0, none⟩), .int .i64 0, .pointer (some ⟨Bx, 0, none⟩), .slice a n c, .bool true, .bool false, .bool false, .slice a2 n c2, .bool true, .bool false, .bool false, .bool false, .slice a n c, .int .i64 n, .slice a2 n c2, .int .i64 n, .bool false, .bool false, .slice a n c, .int .i64 n, .func (.func 105) #[] #[.pointer (some ⟨w3.heap.size, 0, none⟩)], .agg #[.int .i64 (x.1.1 : Int), .int .i64 (x.1.2 : Int)], undef, undef, undef, undef, undef, undef, undef, undef, undef, undef, undef, undef, undef, undef, undef, undef, undef, undef, undef, undef, undef, undef, undef, undef], defers := [] })
    (fun x a' _ A B row hs hg hr => by
      obtain ⟨Bx, h1, h2, h3⟩ := hs
      refine ⟨Bx, h1, (hg.block Bx (Array.getElem?_eq_some_iff.1 h2).1 (fun e => ?_)).trans h2, h3⟩
      obtain ⟨_, o, ho, hc⟩ := hr Bx e.symm
      rw [h2] at ho
      cases ho
      cases hc) ?assign ?body ?done ?stop
  case assign =>
    rintro l pre x W K ⟨⟨v, hv, hrow, _⟩, hke, hB⟩ hK
    gi_wp2
    have hkk := KeepEx.of_below (L := w4.heap.size) (S := fun k => k = p2) ((Below.refl _ _).alloc (Nat.le_refl _) (.cells #[.int .i64 (x.1.1 : Int), .int .i64 (x.1.2 : Int)] 65)) hke.size
    exact hK _ _ ((KeepsOthers.alloc _ _).from _) hkk ⟨⟨v, hv.alloc _, hrow.alloc _, trivial⟩, hke.trans hkk, hB.alloc hB.size _⟩ ⟨W.heap.size, hke.size, World.alloc_heap_new W _, rfl⟩
  case body =>
    rintro l pre ⟨⟨p, q⟩, hpq⟩ a' W hl _ ⟨⟨v, hv, hrow, _⟩, hke, hB⟩ ⟨Bx, hBx, hxx, rfl⟩ hlt
    obtain ⟨hp, hq⟩ : p < n ∧ q < n := hpq
    have hsW : w4.heap.size ≤ W.heap.size := hke.size
    have cA := (Boxed.keepEx bA4 hke (by omega) (by omega)).cell
    have cB := (Boxed.keepEx bB4 hke (by omega) (by omega)).cell
    obtain ⟨b0, o0, rfl, hT⟩ := (Hx.out.below hB (Nat.le_refl _)).at2' Hsq.out (by omega)
    obtain ⟨b1, o1, rfl, hS⟩ := (Hy.out.below hB (Nat.le_refl _)).at2' Hsq2.out (by omega)
    obtain ⟨rb, ro, rc, cT, hr1, hr2, cTq⟩ := hT p hp
    obtain ⟨sb, so, sc, cS, hs1', hs2', cSq⟩ := hS p hp
    obtain ⟨x, hxd⟩ : ∃ x, x = gt (tabOf rs) p q := ⟨_, rfl⟩
    obtain ⟨y, hyd⟩ : ∃ y, y = gt (tabOf ss) p q := ⟨_, rfl⟩
    have cx := cTq q hq
    have cy := cSq q hq
    rw [← hxd] at cx
    rw [← hyd] at cy
    have x0 : W.cell? ⟨Bx, 0, none⟩ = some (.int .i64 (p : Int)) := by simp [World.cell?, hxx]
    have x1 : W.cell? ⟨Bx, 1, none⟩ = some (.int .i64 (q : Int)) := by simp [World.cell?, hxx]
    have hpI : (p : Int) < (n : Int) := by omega
    have hqI : (q : Int) < (n : Int) := by omega
    have e0 := fun d os => cell_regrown x0 d os
    have e1 := fun d os => cell_regrown x1 d os
    have e2 := fun d os => cell_regrown cA d os
    have e3 := fun d os => cell_regrown cB d os
    have e4 := fun d os => cell_regrown cT d os
    have e5 := fun d os => cell_regrown cS d os
    have e6 := fun d os => cell_regrown cx d os
    have e7 := fun d os => cell_regrown cy d os
    have hch : Hid (chL (tabOf rs) (tabOf ss) ((pre ++ [(⟨(p, q), ⟨hp, hq⟩⟩ : PrN n)]).map Subtype.val) = chL (tabOf rs) (tabOf ss) (pre.map Subtype.val) ++ if (x != y) = true then [(p, q)] else []) := by
      show _ = _
      rw [List.map_append, chL_app]
      show _ ++ chL _ _ [(p, q)] = _
      rw [chL_one, ← hxd, ← hyd]
    have hlen : (chL (tabOf rs) (tabOf ss) (pre.map Subtype.val)).length ≤ 1000 := by
      have h1 := List.length_filter_le (fun p => gt (tabOf rs) p.1 p.2 != gt (tabOf ss) p.1 p.2) (pre.map Subtype.val)
      have h3 : n * n ≤ 12 * 12 := Nat.mul_le_mul hn12 hn12
      rw [List.length_map] at h1
      unfold chL
      omega
    clear cA cB hT hS cT cS cTq cSq cx cy hxd hyd
    gi_wp2
    refine wpIn_round_quiet_below hmo (by kernel_rfl) (by kernel_rfl) ?_
    repeat (gi_big_quiet_step (fail))
    refine wpQuietIn_nil ?_
    rintro w15 ⟨⟨d15, os15⟩, hw15⟩
    have hB15 : Below W.heap.size W w15 := by rw [hw15]; exact below_regrown W d15 os15
    have y0 := e0 d15 os15
    have y1 := e1 d15 os15
    rw [← hw15] at y0 y1
    clear hw15 e0 e1 e2 e3 e4 e5 e6 e7 x0 x1
    have hv15 : Boxed w15 p2 61 v := (hB15.block _ hv.lt).trans hv
    have hrow15 := hrow.kept (w' := w15) (row := none) ⟨hB15.os, hB15.tape, hB15.output, hB15.size, fun k hk _ => hB15.block k hk⟩ (by cases v.ownBlock <;> simp)
    have hs15 := hB15.size
    have hB15w := hB.trans (hB15.mono hB.size)
    have hk15 : KeepsFrom w4.heap.size W w15 := KeepsFrom.of_below hB15 _
    have hke15 : KeepEx w4.heap.size (fun k => k = p2) W w15 := KeepEx.of_below hB15 hsW
    cases hxy : (x != y) with
    | false =>
      have hch2 : Hid (chL (tabOf rs) (tabOf ss) ((pre ++ [(⟨(p, q), ⟨hp, hq⟩⟩ : PrN n)]).map Subtype.val) = chL (tabOf rs) (tabOf ss) (pre.map Subtype.val)) := by show _ = _; rw [hch.out, hxy]; simp
      clear hxy hch
      gi_wp2
      refine ⟨hk15, hke15, ⟨v, hv15, ?_, trivial⟩, hke.trans hke15, hB15w⟩
      rw [hch2.out]
      exact hrow15
    | true =>
      have hch2 : Hid (chL (tabOf rs) (tabOf ss) ((pre ++ [(⟨(p, q), ⟨hp, hq⟩⟩ : PrN n)]).map Subtype.val) = chL (tabOf rs) (tabOf ss) (pre.map Subtype.val) ++ [(p, q)]) := by show _ = _; rw [hch.out, hxy]; rfl
      clear hxy hch
      have cO := hv15.cell
      have hs04 := hb04.size
      obtain ⟨L, hL⟩ : ∃ L, L = (chL (tabOf rs) (tabOf ss) (pre.map Subtype.val)).length := ⟨_, rfl⟩
      rw [← hL] at hrow15 hlen
      have HL := Lib.hid hL
      clear hL hrow hv
      gi_wp2_with (gi_at_builtin; refine wpListIn_append_own _ rfl _ _ 61 rfl w4.heap.size 65 i0 (.agg #[.int .i64 0, .int .i64 0]) 2 16 Try.underlying61 hi hz0 hz1 hz2 rfl (by decide) _ _ _ rfl (hrow15.alloc _) ⟨w15.heap.size, 0, none⟩ 1 1 [.int .i64 p, .int .i64 q] rfl rfl (World.news_of_block (heap_alloc_new w15 _)) (by simp [Value.oneCell']) (by unfold maxLen; omega) (by omega) (by simp; omega) ?_; intro v' w5 hown' hgrow _; obtain ⟨g', cap', rfl⟩ := ownsRow_succ hown'; obtain ⟨hv1, hv2, hr2', hk2, hkk, hb2⟩ := boxed_appendedK (S := fun k => k = p2) hv15 (by decide) hrow15 (by omega) hs04 (by omega) rfl hown' hgrow; have hc1 := hv1.cell; have hf1 := hv1.frozen)
      refine ⟨hk15.trans (hk2.from _), hke15.trans hkk, ⟨_, hv2, ?_, trivial⟩, (hke.trans hke15).trans hkk, hB15w.trans hb2⟩
      rw [hch2.out, List.length_append, List.length_singleton, ← HL.out, List.flatMap_append]
      exact hr2'
  case done =>
    rintro D ys W hD hys ⟨⟨v, hv, hrow, _⟩, hke, hB⟩ hK
    have hc := hv.cell
    have hf := hv.frozen
    have hOwn : OwnP w4.heap.size W v (chL (tabOf rs) (tabOf ss) (prs n)).length (chL (tabOf rs) (tabOf ss) (prs n)) := by rw [← hys]; exact ⟨rfl, hrow⟩
    obtain ⟨ad, cp, rfl, _⟩ := hOwn.reads
    have hD' : w.heap.size ≤ D := by have := hb04.size; omega
    have hMk : Marks w.heap.size W.heap.size W [D] := (Marks.nil w.heap.size 0 W).cons hD' (Nat.zero_le _) (Array.getElem?_eq_some_iff.1 hK).1 hK
    have hbs := hb04.size
    obtain ⟨V, hV⟩ : ∃ V, V = Value.slice ad (chL (tabOf rs) (tabOf ss) (prs n)).length cp := ⟨_, rfl⟩
    gi_wp2
    rw [← hV] at hv hOwn hrow ⊢
    have hv2 := hv.set V
    have hown2 : OwnP w.heap.size (W.setCell ⟨p2, 0, none⟩ V) V (chL (tabOf rs) (tabOf ss) (prs n)).length (chL (tabOf rs) (tabOf ss) (prs n)) := OwnP.kept ⟨hOwn.1, ownsRow_mono hOwn.2 hbs⟩ ⟨rfl, rfl, rfl, by simp, fun k _ hne => Below.heap_setCell W ⟨p2, 0, none⟩ V k (fun e => hne (by rw [e]))⟩ (.inr (hv.not_row (by decide) hrow).symm)
    have hB2 := hB.setCell (p := ⟨p2, 0, none⟩) (by show w.heap.size ≤ p2; omega) V
    have hMk2 : Marks w.heap.size W.heap.size (W.setCell ⟨p2, 0, none⟩ V) [D] := hMk.setCell (p := ⟨p2, 0, none⟩) (fun o ho => by have h2 : W.heap[p2]? = some o := ho; rw [show W.heap[p2]? = _ from hv] at h2; cases h2; rfl) V
    refine leaves_marks (B := W.heap.size) (fun W' => Boxed W' p2 61 V ∧ OwnP w.heap.size W' V (chL (tabOf rs) (tabOf ss) (prs n)).length (chL (tabOf rs) (tabOf ss) (prs n)) ∧ Below w.heap.size w W') (by simp) (fun W' D hj hD hd => ⟨(grownBy_putObj' W' D _).block p2 hj.1.lt (fun e => ?_) |>.trans hj.1, hj.2.1.keptRow (grownBy_putObj' W' D _) (fun r er => by cases er; exact ⟨_, hd, rfl⟩), hj.2.2.grown (grownBy_putObj' W' D _) hj.2.2.size (fun k ek => by cases ek; exact hD)⟩) [D] _ hMk2 ⟨hv2, hown2, hB2⟩ (fun W' hj => ?_)
    · cases e
      have h9 : W'.heap[p2]? = _ := hj.1
      rw [h9] at hd
      cases hd
    · have hcell := hj.1.cell
      refine ⟨.tuple #[V, .int .i64 0], ?_, V, rfl, hj.2.1, hj.2.2⟩
      simp [results, Try.f46, go_sem, hcell]
  case stop =>
    rintro D c pre W _ _ h _
    exact h.elim

end Go.Proofs.Ytilhmlapbifbbaa
