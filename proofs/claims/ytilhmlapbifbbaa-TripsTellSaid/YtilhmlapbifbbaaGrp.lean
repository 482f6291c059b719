/- Walks: trips.Groups. -/
import Derived.Test.YtilhmlapbifbbaaShN
import Derived.Test.YtilhmlapbifbbaaIdx
import Derived.Test.YtilhmlapbifbbaaRou
namespace Go.Proofs.Ytilhmlapbifbbaa
open Go.RowKit Go.Shelf Go.Sort
attribute [local go_sem] Oper.semAt_some

theorem info_12 : (Try.prog.info? 104).map (fun i => (i.size, i.bytes)) = some (12, 12) := by kernel_rfl

/-- 'make([]T, n)' inside a fence. -/
theorem wpListIn_make_n {F : Fence} {k : Nat} {P : Program} (w : World) {ops : Array Oper} {rest : List Oper} {o : Oper} {a : Act} {Q : Exit → Act → World → Prop}
    (hg : o.guard = none) (l c : Operand) (t : TypeId) (hop : o.op = Op.makeSlice t l c)
    (base : Nat) (e : TypeId) (i : TypeInfo) (z : Value) (size : Nat) (h1 : P.underlying t = some (.slice e)) (h2 : P.info? e = some i) (h3 : i.zero = some z) (h4 : i.size = size)
    (kl kc : IntKind) (L C : Int) (n : Nat) (hl : a.eval l = .int kl L) (hc : a.eval c = .int kc C) (hL : L = (n : Int)) (hC : C = (n : Int)) (b2 : i.bytes * n ≤ 281474976710656) (b3 : n ≤ maxLen) (b4 : base ≤ w.heap.size)
    (hK : ∀ w', w'.ownsRow base e size (.slice (some ⟨w.heap.size, 0, none⟩) n n) n (madeCells z.cells (n * size)).toList → w.grownBy w' none → wpListIn F k P ops Q rest (a.put o.dst (.slice (some ⟨w.heap.size, 0, none⟩) n n)) w') :
    wpListIn F k P ops Q (o :: rest) a w := by
  refine wpListIn_plain hg fun K hK' => ?_
  obtain ⟨w', hrun, r1, r2⟩ := run_make_full (P := P) w base t e i z size h1 h2 h3 h4 kl kc n b2 b3 b4
  subst hL
  subst hC
  unfold Oper.wpIn
  refine ⟨?_, ?_⟩
  · simp [Oper.about, hop]
  · rw [Oper.semAt_plain F _ _ (by rw [hop]; intro c hc'; cases hc')]
    simp [execOp, hop, hl, hc, hrun, Result.andThen]
    exact hK' _ _ (hK w' r1 r2)

section
variable {P : Program} {ops : Array Oper} {w : World} {Q : Act → Prop} {a : Act} {o : Oper} {rest : List Oper}
/-- 'wpStill', closed: nothing looks into it. -/
structure WSt (P : Program) (ops : Array Oper) (w : World) (Q : Act → Prop) (l : List Oper) (a : Act) : Prop where
  out : wpStill P ops w Q l a
theorem ws_step (hg : o.guard = none) (h : ∀ K : Act → Prop, (∀ a, WSt P ops w Q rest a → K a) → o.still P a w K) : WSt P ops w Q (o :: rest) a :=
  ⟨wpStill_step fun K hK => by
    rw [if_pos (by simp [Region.wanted, hg])]
    exact h K fun a ha => hK a ha.out⟩
theorem ws_skip (hw : Region.wanted o (yielded ops a.tmps) = false) (h : WSt P ops w Q rest (a.put o.dst undef)) : WSt P ops w Q (o :: rest) a :=
  ⟨wpStill_step fun K hK => by
    rw [if_neg (by rw [hw]; exact Bool.false_ne_true)]
    exact hK _ h.out⟩
theorem ws_want (hw : Region.wanted o (yielded ops a.tmps) = true) (h : ∀ K : Act → Prop, (∀ a, WSt P ops w Q rest a → K a) → o.still P a w K) : WSt P ops w Q (o :: rest) a :=
  ⟨wpStill_step fun K hK => by
    rw [if_pos hw]
    exact h K fun a ha => hK a ha.out⟩
theorem ws_K {l : List Oper} (h : ∀ K : Act → Prop, (∀ a, WSt P ops w Q l a → K a) → K a) : WSt P ops w Q l a := h _ fun _ h => h
theorem ws_nil (h : Q a) : WSt P ops w Q [] a := ⟨wpStill_nil h⟩
end

theorem Boxed.ne_block' {B : Nat} {w : World} {t : TypeId} {v : Value} {H g n : Nat} {f : Nat → Nat → Bool} (h : Boxed w B t v) (hB : BMat H w g n f) (ht : t ≠ 104) : B ≠ g :=
  hB.ne_block (show w.heap[B]? = _ from h) ht

theorem own_ne_bmat {w : World} {B n' H g n : Nat} {v : Value} {xs : List Value} {f : Nat → Nat → Bool} (ho : w.ownsRow B 36 1 v n' xs) (hB : BMat H w g n f) : v.ownBlock ≠ some g := by
  intro e
  rcases ho.2 with ⟨rfl, _⟩ | ⟨g3, cap3, cur3, rfl, _, hg3, _⟩
  · simp [Value.ownBlock] at e
  · have e4 : g3 = g := by simpa [Value.ownBlock] using e
    exact hB.ne_block hg3 (by decide) e4

theorem OwnFrom.bmat {β : Type} {H L g n : Nat} (F : List β → Nat → Nat → Bool) : OwnFrom L (fun pre W => BMat H W g n (F pre)) := fun _ A B row hs hg hr =>
  hs.kept (hg.block g hs.lt (fun e => by
    obtain ⟨_, o, ho, hc⟩ := hr g e.symm
    obtain ⟨cur, h1, _⟩ := hs.blk
    rw [h1] at ho
    cases ho
    cases hc))

set_option maxRecDepth 100000 in
set_option maxHeartbeats 4000000 in
theorem grp_yes (a : Option Addr) (n c : Nat) (rs : List TRow) (w : World) (hx : SlT w a n c rs) (hm : mayT (tabOf rs) = true) :
    Calls Try.prog 41 #[.slice a n c] w fun e w' => ∃ v ms, e = .returned (.tuple #[v, .int .i64 0]) ∧ Mat w.heap.size w' v ms ∧ mTab ms = (groP (tabOf rs)).map natI ∧ Below w.heap.size w w' := by
  have htl := hx.tlen
  have hmax := hx.sl.max
  have hle := hx.sl.le
  obtain ⟨hn12, hsq⟩ := mayT_sq hm
  rw [htl] at hn12 hsq
  have Hl := Lib.hid htl
  have Hm := Lib.hid hm
  have Hx := Lib.hid hx
  clear htl hm hsq hx
  refine (callsIn_wide (n := 6)).1 ?_
  refine callsIn_of_wp_marks Try.func41 rfl trivial ?_ rfl
  simp only [Try.ntmps41, List.size_toArray, List.length_cons, List.length_nil, Nat.reduceAdd, Nat.reduceSub, Array.replicate_succ, Array.replicate_zero, List.push_toArray, List.append_toArray, List.nil_append, List.cons_append]
  gi_wp2_with fail
  refine ⟨trivial, ?_⟩
  gi_at_call 37
  refine (callsIn_wide.2 (short_any a n c rs _ Hx.out)).mono ?_
  rintro e w1 ⟨v, ms, rfl, hmat, hT, hb1⟩
  have hE : trE (tabOf rs) = 0 := by unfold trE; rw [if_pos Hm.out]
  rw [hE]
  have hT' : mTab ms = shortP (tabOf rs) := by rw [hT]; unfold shT; rw [if_pos Hm.out]
  have hpass := pass_short Hm.out
  rw [← hT', Hl.out] at hpass
  have hml : ms.length = n := by have := hpass.low.sq.1; simpa [mTab] using this
  have HT := Lib.hid hT'
  have Hlow : Hid (Low n (mTab ms)) := hpass.low
  clear hE hT hT' hpass
  have hs1 := hb1.size
  obtain ⟨av, cv, rfl, hrd⟩ := hmat.reads
  rw [hml] at hrd hmat ⊢
  have hcv := hrd.sl.max
  have hcl := hrd.sl.le
  have Hml := Lib.hid hml
  clear hrd hml
  obtain ⟨i12, hi12, z12, hz12, hs12, hb12, hc12⟩ : ∃ x : TypeInfo, Try.prog.info? 104 = some x ∧ ∃ z, x.zero = some z ∧ x.size = 12 ∧ x.bytes = 12 ∧ z.cells = Array.replicate 12 (.bool false) := ⟨_, rfl, _, rfl, rfl, rfl, rfl⟩
  have hmo : Try.prog.follows .mixedOrders = true := by kernel_rfl
  gi_wp2_with (gi_at_make; refine wpListIn_make_n _ rfl _ _ 103 rfl w.heap.size 104 i12 z12 12 Try.underlying103 hi12 hz12 hs12 .i64 .i64 (n : Int) (n : Int) n rfl rfl rfl rfl (by rw [hb12]; omega) (by unfold maxLen; omega) (by simp; omega) ?_; intro w2 hown2 hgrow2; rw [hc12] at hown2; have bS2 : Boxed w2 w1.heap.size 52 (.slice av n cv) := (hgrow2.block w1.heap.size (by simp) (by simp)).trans (World.alloc_heap_new _ _); have cS2 := fun o => (Boxed.alloc bS2 o).cell)
  refine ⟨trivial, ?_⟩
  gi_at_call 70
  refine (callsIn_wide.2 (pairs_any n _)).mono ?_
  rintro e w4 ⟨rfl, hw4⟩
  have hBM2 : BMat w.heap.size w2 (w1.heap.size + 1) n (fun _ _ => false) := BMat.of_own (by simpa using hown2)
  have hlt2 := hBM2.lt
  have bS4 : Boxed w4 w1.heap.size 52 (.slice av n cv) := by rw [hw4]; exact (bS2.alloc _).alloc _
  have hmat4 : Mat w.heap.size w4 (.slice av n cv) ms := by rw [hw4]; exact (((hmat.kept (World.grownBy_alloc _ _ none)).kept hgrow2).kept (World.grownBy_alloc _ _ none)).kept (World.grownBy_alloc _ _ none)
  have bW4 : Boxed w4 w2.heap.size 103 (.slice (some ⟨w1.heap.size + 1, 0, none⟩) n n) := by rw [hw4]; exact (Boxed.new w2 103 _).alloc _
  have bN4 : w4.cell? ⟨w2.heap.size + 1, 0, none⟩ = some (.int .i64 n) := by rw [hw4, World.cell?_alloc_at _ _ _ _ (by simp)]; rfl
  have hBM4 : BMat w.heap.size w4 (w1.heap.size + 1) n (fun _ _ => false) := by rw [hw4]; exact (hBM2.alloc _).alloc _
  have hB2 : Below w.heap.size w w2 := (hb1.alloc hs1 _).grown hgrow2 (by simp; omega) (by simp)
  have hB4 : Below w.heap.size w w4 := by rw [hw4]; exact (hB2.alloc hB2.size _).alloc (by have := hB2.size; simp; omega) _
  have hs4 : w4.heap.size = w2.heap.size + 2 := by rw [hw4]; simp
  have hsw2 := hB2.size
  clear hw4 hmat hown2 hgrow2 bS2 cS2 hBM2 hB2 hb1
  gi_wp2
  refine wpIn_rangeFunc_ownH rfl (by decide) (gf := 105) (lb := #[.pointer (some ⟨w2.heap.size + 1, 0, none⟩)]) rfl trivial (enters_of Try.func105 (by kernel_rfl) rfl)
    (pairs_stops 5 (by decide) (w2.heap.size + 1) (w2.heap.size + 2) (fun j => j ≠ w2.heap.size + 1) n hn12 w4 bN4 (by omega) (by simp)) keepEx_t (keepEx_b (by omega)) (Below.refl _ _) (fun _ => rfl)
    (fun pre W => (Boxed W w1.heap.size 52 (.slice av n cv) ∧ Mat w.heap.size W (.slice av n cv) ms ∧ Boxed W w2.heap.size 103 (.slice (some ⟨w1.heap.size + 1, 0, none⟩) n n)) ∧ BMat w.heap.size W (w1.heap.size + 1) n ((pre.map Subtype.val).foldl (stW (mTab ms)) (fun _ _ => false)) ∧ (Below w.heap.size w W ∧ w2.heap.size + 2 ≤ W.heap.size))
    (fun _ _ _ => False)
    (OwnFrom.and (Own.from (fun s A B row hs hg hr => by
      obtain ⟨h1, h2, h3⟩ := hs
      exact ⟨boxed_own _ _ (fun _ : Unit => Value.slice av n cv) () A B row h1 hg hr, h2.keptRow hg hr, boxed_own _ _ (fun _ : Unit => Value.slice (some ⟨w1.heap.size + 1, 0, none⟩) n n) () A B row h3 hg hr⟩) _) (OwnFrom.and (OwnFrom.bmat (fun pre : List (PrN n) => (pre.map Subtype.val).foldl (stW (mTab ms)) (fun _ _ => false))) (OwnFrom.and (ownFrom_below (Nat.le_refl _) hB4.size) (fun _ _ _ _ hs hg _ => Nat.le_trans hs hg.size))))
    (fun _ _ _ _ _ hs _ _ => hs)
    ⟨⟨bS4, hmat4, bW4⟩, hBM4, hB4, by omega⟩
    (fun x a' W => ∃ Bx, w2.heap.size + 2 ≤ Bx ∧ W.heap[Bx]? = some (.cells #[.int .i64 (x.1.1 : Int), .int .i64 (x.1.2 : Int)] 65 (0, 0)) ∧ a' = { tmps := #[.slice a n c, undef, .slice none 0 0, .int .i64 0, .pointer (some ⟨w1.heap.size, 0, none⟩), .pointer (some ⟨w2.heap.size, 0, none⟩), .pointer (some ⟨Bx, 0, none⟩), undef, undef, undef, .tuple #[.slice av n cv, .int .i64 0], .slice a n c, .tuple #[.slice av n cv, .int .i64 0], .slice av n cv, .int .i64 0, .int .i64 0, .bool false, undef, .slice av n cv, .int .i64 n, .slice (some ⟨w1.heap.size + 1, 0, none⟩) n n, .slice av n cv, .int .i64 n, .func (.func 105) #[] #[.pointer (some ⟨w2.heap.size + 1, 0, none⟩)], .agg #[.int .i64 (x.1.1 : Int), .int .i64 (x.1.2 : Int)], undef, undef, undef, undef, undef, undef, undef, undef, undef, undef, undef, undef, undef, undef, undef, undef, undef, undef, undef, undef, undef, undef, undef, undef, undef, undef, undef, undef, undef, undef, undef, undef, undef, undef, undef, undef, undef, undef, undef, undef, undef, undef, undef, undef, undef, undef, undef, undef, undef, undef, undef, undef, undef, undef, undef, undef, undef, undef, undef, undef, undef, undef, undef, undef, undef, undef, undef], defers := [] })
    (fun x a' _ A B row hs hg hr => by
      obtain ⟨Bx, h1, h2, h3⟩ := hs
      refine ⟨Bx, h1, (hg.block Bx (Array.getElem?_eq_some_iff.1 h2).1 (fun e => ?_)).trans h2, h3⟩
      obtain ⟨_, o, ho, hc⟩ := hr Bx e.symm
      rw [h2] at ho
      cases ho
      cases hc) ?assign ?body ?done ?stop
  case assign =>
    rintro l pre x W K ⟨⟨h1, h2, h3⟩, h4, hB, hsW⟩ hK
    gi_wp2
    refine hK _ _ ((KeepsOthers.alloc _ _).from _) (KeepEx.of_below ((Below.refl _ _).alloc (Nat.le_refl _) _) hsW) ⟨⟨h1.alloc _, h2.kept (World.grownBy_alloc _ _ none), h3.alloc _⟩, h4.alloc _, hB.alloc hB.size _, by simp; omega⟩ ⟨W.heap.size, hsW, World.alloc_heap_new W _, rfl⟩
  case body =>
    rintro l pre ⟨⟨p, q⟩, hpq⟩ a' W hl _ ⟨⟨bS, hmat, bW⟩, hBM, hB, hsW⟩ ⟨Bx, hBx, hx, rfl⟩ hlt
    obtain ⟨hp, hq⟩ : p < n ∧ q < n := hpq
    have hq12 : q < 12 := by omega
    have hsq := Hlow.out.sq
    have hlow := Hlow.out.low
    obtain ⟨mp, hmp⟩ : ∃ m, ms[p]? = some m := ⟨_, List.getElem?_eq_getElem (by rw [Hml.out]; exact hp)⟩
    obtain ⟨mq, hmq⟩ : ∃ m, ms[q]? = some m := ⟨_, List.getElem?_eq_getElem (by rw [Hml.out]; exact hq)⟩
    have hpl : mp.xs.length = n := hsq.2 _ (List.mem_map.2 ⟨mp, List.mem_of_getElem? hmp, rfl⟩)
    have hql : mq.xs.length = n := hsq.2 _ (List.mem_map.2 ⟨mq, List.mem_of_getElem? hmq, rfl⟩)
    have rp := hmat.row mp (List.mem_of_getElem? hmp)
    have rq := hmat.row mq (List.mem_of_getElem? hmq)
    obtain ⟨g, cap, hv, hcapl, hcapm, cp⟩ := hmat.cell hmp
    obtain ⟨g', cap', hv', _, _, cq⟩ := hmat.cell hmq
    have hgg : g' = g := by rw [hv] at hv'; simp at hv'; exact hv'.1.symm
    rw [hgg] at cq
    rw [mrV, hpl] at cp
    rw [mrV, hql] at cq
    rw [Hml.out] at hv hcapl
    simp only [Value.slice.injEq] at hv
    obtain ⟨rfl, _, rfl⟩ := hv
    obtain ⟨A, hA⟩ : ∃ A, A = gt (mTab ms) p q := ⟨_, rfl⟩
    obtain ⟨B, hBB⟩ : ∃ B, B = gt (mTab ms) q p := ⟨_, rfl⟩
    have cA := (rp.cell (mTab_gt hmp hsq hp hq)).1
    have cB := (rq.cell (mTab_gt hmq hsq hq hp)).1
    rw [← hA] at cA
    rw [← hBB] at cB
    obtain ⟨cF, fF⟩ := hBM.cell hp hq12
    have x0 : W.cell? ⟨Bx, 0, none⟩ = some (.int .i64 (p : Int)) := by simp [World.cell?, hx]
    have x1 : W.cell? ⟨Bx, 1, none⟩ = some (.int .i64 (q : Int)) := by simp [World.cell?, hx]
    have hpI : (p : Int) < (n : Int) := by omega
    have hqI : (q : Int) < (n : Int) := by omega
    have hq12I : (q : Int) < 12 := by omega
    have hmpc : mp.c ≤ 9223372036854775807 := by have := rp.max; unfold maxLen at this; exact this
    have hmqc : mq.c ≤ 9223372036854775807 := by have := rq.max; unfold maxLen at this; exact this
    have hmpn : n ≤ mp.c := by have := rp.le; omega
    have hmqn : n ≤ mq.c := by have := rq.le; omega
    have hW : Hid (wth (mTab ms) p q = ((A != -1) && (B != -1))) := by show _ = _; unfold wth; rw [← hA, ← hBB]
    have cS := bS.cell
    have cW := bW.cell
    obtain ⟨fold, hfold⟩ : ∃ fold, fold = (pre.map Subtype.val).foldl (stW (mTab ms)) (fun _ _ => false) := ⟨_, rfl⟩
    have Hfold := Lib.hid hfold
    rw [← hfold] at cF hBM
    clear hA hBB hmp hmq hpl hql rp rq hv' hgg hsq hlow hfold hx
    have post : ∀ (r : Bool), wth (mTab ms) p q = r → ∀ a' : Act, ownPostG w4.heap.size (KeepEx (w2.heap.size + 2) (fun j => j ≠ w2.heap.size + 1)) (fun pre W => (Boxed W w1.heap.size 52 (.slice (some ⟨g, 0, none⟩) n cv) ∧ Mat w.heap.size W (.slice (some ⟨g, 0, none⟩) n cv) ms ∧ Boxed W w2.heap.size 103 (.slice (some ⟨w1.heap.size + 1, 0, none⟩) n n)) ∧ BMat w.heap.size W (w1.heap.size + 1) n ((pre.map Subtype.val).foldl (stW (mTab ms)) (fun _ _ => false)) ∧ (Below w.heap.size w W ∧ w2.heap.size + 2 ≤ W.heap.size)) (fun _ _ _ => False) (pre ++ [(⟨(p, q), ⟨hp, hq⟩⟩ : PrN n)]) W .normal a' (W.setCell ⟨w1.heap.size + 1, p * 12 + q, none⟩ (.bool r)).drew := by
      intro r hr a'
      have hb8 := Boxed.ne_block' bS hBM (by decide)
      have hb9 := Boxed.ne_block' bW hBM (by decide)
      have hmne : ∀ m ∈ ms, m.g ≠ w1.heap.size + 1 := fun m hm => by
        obtain ⟨cur, h1, _⟩ := (hmat.row m hm).blk
        exact hBM.ne_block h1 (by decide)
      have hgne : (Value.slice (some ⟨g, 0, none⟩) n cv).ownBlock ≠ some (w1.heap.size + 1) := by
        intro e
        rcases hmat.own.2 with ⟨h0, _⟩ | ⟨g3, cap3, cur3, e3, _, hg3, _⟩
        · cases h0
        · cases e3
          have e4 : g = w1.heap.size + 1 := by simpa [Value.ownBlock] using e
          exact hBM.ne_block hg3 (by decide) e4
      obtain ⟨w17, hw17⟩ : ∃ w17, w17 = W.setCell ⟨w1.heap.size + 1, p * 12 + q, none⟩ (.bool r) := ⟨_, rfl⟩
      have bS7 : Boxed w17 w1.heap.size 52 (.slice (some ⟨g, 0, none⟩) n cv) := by rw [hw17]; exact (Below.heap_setCell W ⟨w1.heap.size + 1, p * 12 + q, none⟩ _ _ hb8).trans bS
      have bW7 : Boxed w17 w2.heap.size 103 (.slice (some ⟨w1.heap.size + 1, 0, none⟩) n n) := by rw [hw17]; exact (Below.heap_setCell W ⟨w1.heap.size + 1, p * 12 + q, none⟩ _ _ hb9).trans bW
      have hmat7 : Mat w.heap.size w17 (.slice (some ⟨g, 0, none⟩) n cv) ms := by rw [hw17]; exact hmat.setOther (a := ⟨w1.heap.size + 1, p * 12 + q, none⟩) hgne hmne _
      have hBM7 : BMat w.heap.size w17 (w1.heap.size + 1) n (stB fold p q r) := by rw [hw17]; exact hBM.set hp hq12 r
      have hB7 : Below w.heap.size W w17 := by rw [hw17]; exact (Below.refl _ W).setCell (p := ⟨w1.heap.size + 1, p * 12 + q, none⟩) hBM.lo _
      have hko : KeepsOthers W w17 := by rw [hw17]; exact KeepsOthers.setCell _ _ _
      have hke : KeepEx (w2.heap.size + 2) (fun j => j ≠ w2.heap.size + 1) W w17 := by rw [hw17]; exact KeepEx.setCell (.inr (by show w1.heap.size + 1 ≠ w2.heap.size + 1; omega)) _
      have hs7 := hB7.size
      rw [← hw17]
      clear hw17
      have hd7 : Below w17.heap.size w17 w17.drew := (Below.refl _ _).drew
      refine ⟨(hko.from _).trans (KeepsFrom.of_below hd7 _), hke.trans (KeepEx.of_below hd7 (by omega)), ⟨bS7, hmat7.below hd7 (Nat.le_refl _), bW7⟩, ?_, (hB.trans hB7).trans (hd7.mono (by have := hB.size; omega)), by show _ ≤ w17.heap.size; omega⟩
      rw [List.map_append, List.foldl_append, ← Hfold.out]
      show BMat _ _ _ _ (stB fold p q (wth (mTab ms) p q))
      rw [hr]
      exact hBM7.below hd7 (Nat.le_refl _)
    clear bS hmat bW hBM hl hBx hlt
    by_cases qa : A = -1
    · have q1 : (A != -1) = false := by simp [qa]
      have post := post false (by rw [hW.out, q1]; rfl)
      gi_wp2
      refine wpIn_round_still_tail 29 hmo (by kernel_rfl) (by kernel_rfl) ?_
      simp only [List.take_succ_cons, List.take_zero, List.drop_succ_cons, List.drop_zero]
      refine WSt.out ?_
      iterate 16 (refine ws_step rfl (fun K hK => ?_); go_simp; refine hK _ ?_; clear hK K)
      iterate 10 (refine ws_skip rfl (ws_K (fun K hK => ?_)); go_simp; refine hK _ ?_; clear hK K)
      iterate 3 (refine ws_step rfl (fun K hK => ?_); go_simp; refine hK _ ?_; clear hK K)
      refine ws_nil ?_
      gi_wp2
      exact post _
    · have q1 : (A != -1) = true := by simp [qa]
      obtain ⟨r, hr⟩ : ∃ r, r = (B != -1) := ⟨_, rfl⟩
      have q2 : (B != -1) = r := hr.symm
      have post := post r (by rw [hW.out, q1, q2]; rfl)
      clear hr
      gi_wp2
      refine wpIn_round_still_tail 29 hmo (by kernel_rfl) (by kernel_rfl) ?_
      simp only [List.take_succ_cons, List.take_zero, List.drop_succ_cons, List.drop_zero]
      refine WSt.out ?_
      iterate 16 (refine ws_step rfl (fun K hK => ?_); go_simp; refine hK _ ?_; clear hK K)
      iterate 10 (refine ws_want rfl (fun K hK => ?_); go_simp; refine hK _ ?_; clear hK K)
      iterate 3 (refine ws_step rfl (fun K hK => ?_); go_simp; refine hK _ ?_; clear hK K)
      refine ws_nil ?_
      gi_wp2
      exact post _
  case done =>
    rintro D ys W hD hys ⟨⟨bS, hmat, bW⟩, hBM, hB, hsW⟩ hK
    have hMk : Marks w.heap.size W.heap.size W [D] := (Marks.nil w.heap.size 0 W).cons (by omega) (Nat.zero_le _) (Array.getElem?_eq_some_iff.1 hK).1 hK
    have hBM' : BMat w.heap.size W (w1.heap.size + 1) n (withF n (mTab ms)) := hBM.congr (fun i j _ _ => by rw [hys]; exact foldW_all n (mTab ms) i j)
    obtain ⟨f, hf⟩ : ∃ f, f = withF n (mTab ms) := ⟨_, rfl⟩
    rw [← hf] at hBM'
    have Hf := Lib.hid hf
    have cW := bW.cell
    clear hK hBM hys bS hmat bS4 hmat4 bW4 hBM4 hB4 bN4 hf
    gi_wp2
    gi_loopw [2, 56] (fun v i wr => ∃ (k : Nat) (ms2 : List MRow), i = .int .i64 k ∧ k ≤ n ∧ Mat w.heap.size wr v ms2 ∧ Hid (mTab ms2 = (grpU f n k).map natI) ∧ Boxed wr w2.heap.size 103 (.slice (some ⟨w1.heap.size + 1, 0, none⟩) n n) ∧ BMat w.heap.size wr (w1.heap.size + 1) n f ∧ Below w.heap.size w wr ∧ Marks w.heap.size wr.heap.size wr [D]) (fun _ i _ => n - (intOf i).toNat)
    case atStart => exact ⟨0, [], rfl, Nat.zero_le _, Mat.nil _ _, rfl, bW, hBM', hB, hMk⟩
    case round =>
      clear bW hBM' hB hMk cW
      obtain ⟨wo, rfl⟩ : ∃ wo : World, wo = wr := ⟨_, rfl⟩
      obtain ⟨k, ms2, rfl, hk, hmat, Hms, bW, hBM, hB, hMk⟩ := hrel
      by_cases hlt : k < n
      · have hltI : (k : Int) < (n : Int) := by omega
        have cW := bW.cell
        have e2 := fun d os => cell_regrown cW d os
        have l2 : ∀ w', (∃ p : Regrown, w' = grow (redrawn wo p.d) p.os) → w'.rangeAt (w1.heap.size + 1) (k * 12) (bRow f k) := by rintro _ ⟨p, rfl⟩; exact range_regrown (hBM.range hlt) _ _
        obtain ⟨ix, hix⟩ : ∃ ix, ix = idxB f n k := ⟨_, rfl⟩
        have Hix := Lib.hid hix
        have hgF := idxB_lt (f := f) hlt
        rw [← hix] at hgF
        have HBM := Lib.hid hBM
        have Hcall : Hid (∀ d os, CallsIn Fence.wide 5 Try.prog 76 #[.slice (some ⟨w1.heap.size + 1, 0, none⟩) n n, .agg (bRow f k).toArray] (grow (redrawn wo d) os) (fun e w'' => e = .returned (.int .i64 ix) ∧ Below (grow (redrawn wo d) os).heap.size (grow (redrawn wo d) os) w'')) := fun d os =>
          (callsIn_wide.2 (idxB_any w.heap.size (w1.heap.size + 1) n n k f _ (hBM.below (below_regrown wo d os) (Nat.le_refl _)) hlt hn12 (Nat.le_refl _) (by omega))).mono (fun _ _ h => ⟨by rw [h.1, ← hix], h.2⟩)
        clear hix
        by_cases hixk : ix < k
        · have hixI : (ix : Int) < (k : Int) := by omega
          have Hg : Hid (grpF f k = false) := by show _ = _; rw [decide_eq_true hixk] at hgF; simpa using hgF.symm
          clear hgF hixk
          gi_wp2
          refine wpIn_region_quiet_below rfl hmo (by kernel_rfl) ?_
          iterate 4 (gi_big_quiet_step (fail))
          refine BigFrame.wpQuietIn_want (fun _ _ _ _ => trivial) rfl ?_
          intro K hK
          refine quietIn_load12 (.tmp 62) rfl (w1.heap.size + 1) (k * 12) rfl (bRow f k) (bRow_len _ _) l2 ?_
          go_simp
          refine hK _ ?_
          clear hK K
          refine BigFrame.wpQuietIn_want (fun _ _ _ _ => trivial) rfl ?_
          intro K hK
          gi_big_quiet_op
          gi_big_quiet_call ((gi_at_call 76; exact CallsIn.regrown_of (Hcall.out _ _)))
          repeat (gi_big_quiet_step (fail))
          refine wpQuietIn_nil ?_
          rintro w5 ⟨⟨d5, os5⟩, hw5⟩
          have hb5 : Below wo.heap.size wo w5 := by rw [hw5]; exact below_regrown wo d5 os5
          clear hw5
          have hmat5 := hmat.below hb5 (Nat.le_refl _)
          have bW5 : Boxed w5 w2.heap.size 103 (.slice (some ⟨w1.heap.size + 1, 0, none⟩) n n) := (hb5.block _ bW.lt).trans bW
          have hBM5 := hBM.below hb5 (Nat.le_refl _)
          have hB5 := hB.trans (hb5.mono hB.size)
          have hMk5 := (hMk.below hb5 (Nat.le_refl _)).mono hb5.size
          clear hb5 hmat bW hBM hB hMk
          gi_wp2
          go_roundw
          case rel => exact ⟨k + 1, ms2, by go_num, by omega, hmat5, by show _ = _; rw [grpU_succ, Hg.out]; exact Hms.out, bW5, hBM5, hB5, hMk5⟩
          case measure => simp [intOf]; omega
        · have hixI : ¬ (ix : Int) < (k : Int) := by omega
          have Hg : Hid (grpF f k = true) := by show _ = _; rw [decide_eq_false hixk] at hgF; simpa using hgF.symm
          have hdf : ∀ i : Decidable (ix < k), @decide (ix < k) i = false := fun i => by simp [hixk]
          have hdf' : ∀ i : Decidable ((ix : Int) < (k : Int)), @decide ((ix : Int) < (k : Int)) i = false := fun i => by simp [hixk]
          clear hgF hixk
          gi_wp2
          refine wpIn_region_quiet_below rfl hmo (by kernel_rfl) ?_
          iterate 4 (gi_big_quiet_step (fail))
          refine BigFrame.wpQuietIn_want (fun _ _ _ _ => trivial) rfl ?_
          intro K hK
          refine quietIn_load12 (.tmp 62) rfl (w1.heap.size + 1) (k * 12) rfl (bRow f k) (bRow_len _ _) l2 ?_
          go_simp
          refine hK _ ?_
          clear hK K
          refine BigFrame.wpQuietIn_want (fun _ _ _ _ => trivial) rfl ?_
          intro K hK
          gi_big_quiet_op
          gi_big_quiet_call ((gi_at_call 76; exact CallsIn.regrown_of (Hcall.out _ _)))
          repeat (gi_big_quiet_step (fail))
          refine wpQuietIn_nil ?_
          rintro w5 ⟨⟨d5, os5⟩, hw5⟩
          have hb5 : Below wo.heap.size wo w5 := by rw [hw5]; exact below_regrown wo d5 os5
          clear hw5
          have hmat5 := hmat.below hb5 (Nat.le_refl _)
          have bW5 : Boxed w5 w2.heap.size 103 (.slice (some ⟨w1.heap.size + 1, 0, none⟩) n n) := (hb5.block _ bW.lt).trans bW
          have hBM5 := hBM.below hb5 (Nat.le_refl _)
          have hB5 := hB.trans (hb5.mono hB.size)
          have hMk5 := (hMk.below hb5 (Nat.le_refl _)).mono hb5.size
          clear hb5 hmat bW hBM hB hMk e2 l2 cW Hcall Hix HBM
          have hc5 := bW5.cell
          obtain ⟨i0, hi, hz0, hz1, hz2⟩ := info_parts info_i64'
          gi_wp2
          (try rw [hdf])
          (try rw [hdf'])
          clear hdf hdf'
          gi_loopw [8, 69] (fun v i wr => ∃ (j : Nat), i = .int .i64 j ∧ j ≤ n ∧ OwnI .i64 3 w5.heap.size wr v (grpL f j k).length (natI (grpL f j k)) ∧ Below w5.heap.size w5 wr) (fun _ i _ => n - (intOf i).toNat)
          case atStart => exact ⟨0, rfl, Nat.zero_le _, OwnI.nil _ _ _ _, Below.refl _ _⟩
          case round =>
            obtain ⟨wq, rfl⟩ : ∃ wq : World, wq = wr := ⟨_, rfl⟩
            obtain ⟨j, rfl, hj, hown, hb6⟩ := hrel
            have bW6 : Boxed wq w2.heap.size 103 (.slice (some ⟨w1.heap.size + 1, 0, none⟩) n n) := (hb6.block _ bW5.lt).trans bW5
            have hBM6 := hBM5.below hb6 (Nat.le_refl _)
            by_cases hlt2' : j < n
            · have hltJ : (j : Int) < (n : Int) := by omega
              have e2 := fun d os => cell_regrown bW6.cell d os
              have l1 : ∀ w', (∃ p : Regrown, w' = grow (redrawn wq p.d) p.os) → w'.rangeAt (w1.heap.size + 1) (j * 12) (bRow f j) := by rintro _ ⟨p, rfl⟩; exact range_regrown (hBM6.range hlt2') _ _
              have l2 : ∀ w', (∃ p : Regrown, w' = grow (redrawn wq p.d) p.os) → w'.rangeAt (w1.heap.size + 1) (k * 12) (bRow f k) := by rintro _ ⟨p, rfl⟩; exact range_regrown (hBM6.range hlt) _ _
              obtain ⟨r, hr⟩ : ∃ r, r = reqv f j k := ⟨_, rfl⟩
              have Hr := Lib.hid hr
              clear hr
              gi_wp2
              refine wpIn_region_quiet_below rfl hmo (by kernel_rfl) ?_
              iterate 3 (gi_big_quiet_step (fail))
              refine BigFrame.wpQuietIn_want (fun _ _ _ _ => trivial) rfl ?_
              intro K hK
              refine quietIn_load12 (.tmp 74) rfl (w1.heap.size + 1) (j * 12) rfl (bRow f j) (bRow_len _ _) l1 ?_
              go_simp
              refine hK _ ?_
              clear hK K
              iterate 3 (gi_big_quiet_step (fail))
              refine BigFrame.wpQuietIn_want (fun _ _ _ _ => trivial) rfl ?_
              intro K hK
              refine quietIn_load12 (.tmp 78) rfl (w1.heap.size + 1) (k * 12) rfl (bRow f k) (bRow_len _ _) l2 ?_
              go_simp
              refine hK _ ?_
              clear hK K
              refine BigFrame.wpQuietIn_want (fun _ _ _ _ => trivial) rfl ?_
              intro K hK
              refine quietIn_eq12 (.tmp 75) (.tmp 79) rfl f j k rfl rfl ?_
              rw [← Hr.out]
              go_simp
              refine hK _ ?_
              clear hK K
              refine wpQuietIn_nil ?_
              rintro w7 ⟨⟨d7, os7⟩, hw7⟩
              have hb7 : Below wq.heap.size wq w7 := by rw [hw7]; exact below_regrown wq d7 os7
              have hown7 := OwnI.below hown hb7 (Nat.le_refl _)
              have hb8 : Below w5.heap.size w5 w7 := hb6.trans (hb7.mono hb6.size)
              clear hw7 hb7 hown hb6 e2 l1 l2 bW6 hBM6
              cases r with
              | false =>
                gi_wp2
                go_roundw
                case rel => exact ⟨j + 1, by go_num, by omega, by rw [grpL_succ, if_neg (by rw [← Hr.out]; simp)]; exact hown7, hb8⟩
                case measure => simp [intOf]; omega
              | true =>
                have hll : (grpL f j k).length ≤ j := by unfold grpL; exact Nat.le_trans (List.length_filter_le _ _) (by simp)
                gi_wp2_with (gi_at_builtin; refine wpListIn_append_own _ rfl _ _ 36 rfl w5.heap.size 3 i0 (.int .i64 0) 1 8 Try.underlying36 hi hz0 hz1 hz2 rfl (by decide) _ _ _ rfl (hown7.alloc _) ⟨w7.heap.size, 0, none⟩ 1 1 [.int .i64 j] rfl rfl (cell_one_new _ _ _) (by simp [Value.oneCell']) (by unfold maxLen; omega) (by omega) (by have := hb8.size; simp; omega) ?_; intro v' w8 hown' hgrow _)
                have hb9 : Below w5.heap.size w5 w8 := (hb8.alloc hb8.size _).grown hgrow (by have := hb8.size; simp; omega) (fun j ej => (hown7.lt _ ej).1)
                have hown8 : OwnI .i64 3 w5.heap.size w8 v' (grpL f (j + 1) k).length (natI (grpL f (j + 1) k)) := by
                  rw [grpL_succ, if_pos Hr.out.symm]
                  show w8.ownsRow _ _ _ _ _ _
                  rw [natI_app, List.map_append, List.length_append, List.length_singleton]
                  exact hown'
                clear hown' hgrow hb8 hown7
                gi_wp2
                go_roundw
                case rel => exact ⟨j + 1, by go_num, by omega, hown8, hb9⟩
                case measure => simp [intOf]; omega
            · obtain rfl : n = j := by omega
              have hltn : ¬ (n : Int) < (n : Int) := by omega
              have hB6 := hB5.trans (hb6.mono hB5.size)
              obtain ⟨m, rfl, hmx, hrow⟩ := MRowAt.of_own hown (grpL_ne hlt)
              have hmat6 := hmat5.below hb6 (Nat.le_refl _)
              have hMk6 := (hMk5.below hb6 (Nat.le_refl _)).mono hb6.size
              have hnew : ∀ m' ∈ ms2, m'.g ≠ m.g := fun m' h' => by have := (hmat5.row m' h').lt; have := hrow.lo; intro e; omega
              have hnev : u2.ownBlock ≠ some m.g := fun e => by have := (hmat5.own.lt _ e).2; have := hrow.lo; omega
              have hrow6 : MRowAt w.heap.size wq m := hrow.mono hB5.size
              have hml2 : ms2.length ≤ k := by
                have h1 := congrArg List.length Hms.out
                simp [mTab, grpU] at h1
                rw [h1]
                exact Nat.le_trans (List.length_filter_le _ _) (by simp)
              have hB6s := hB6.size
              have Hmx := Lib.hid hmx
              obtain ⟨i1, hi', hz0', hz1', hz2'⟩ := info_parts info_row
              clear hown hrow hmat5 hMk5 hB5 bW5 hBM5 hb6 hmx hlt2'
              unfold mrV
              gi_wp2_with (gi_at_builtin; refine wpListIn_append_own _ rfl _ _ 52 rfl w.heap.size 36 i1 (.slice none 0 0) 1 24 Try.underlying52 hi' hz0' hz1' hz2' rfl (by decide) _ _ _ rfl (hmat6.own.alloc _) ⟨wq.heap.size, 0, none⟩ 1 1 [mrV m] rfl rfl (cell_one_new _ _ _) (by simp [Value.oneCell', mrV]) (by unfold maxLen; omega) (by omega) (by simp; omega) ?_; intro v' w8 hown' hgrow _)
              have hmat8 : Mat w.heap.size w8 v' (ms2 ++ [m]) :=
                Mat.push (hmat6.kept (World.grownBy_alloc wq _ none)) (hrow6.kept (Below.heap_alloc wq _ _ hrow6.lt)) hnew hgrow hnev hown'
              have hB8 : Below w.heap.size w w8 := (hB6.alloc hB6s _).grown hgrow (by simp; omega) (fun j ej => (hmat6.own.lt _ ej).1)
              replace hgrow : (wq.alloc (.cells #[mrV m] 36)).grownBy w8 u2.ownBlock := hgrow
              have hgne : u2.ownBlock ≠ some (w1.heap.size + 1) := own_ne_bmat hmat6.own hBM6
              have bW8 : Boxed w8 w2.heap.size 103 (.slice (some ⟨w1.heap.size + 1, 0, none⟩) n n) := (bW6.alloc _).kept hgrow (bW6.not_row (by decide) hmat6.own)
              have hBM8 : BMat w.heap.size w8 (w1.heap.size + 1) n f := (hBM6.alloc _).kept (hgrow.block _ (hBM6.alloc _).lt (fun e => hgne e.symm))
              have hMk8 : Marks w.heap.size w8.heap.size w8 [D] := ((hMk6.alloc (.cells #[mrV m] 36)).kept (fun D' _ _ hd => hgrow.block D' (Array.getElem?_eq_some_iff.1 hd).1 (fun e => by
                rcases hmat6.own.2 with ⟨rfl, _⟩ | ⟨g3, cap3, cur3, rfl, _, hg3, _⟩
                · simp [Value.ownBlock] at e
                · have e4 : g3 = D' := by simpa [Value.ownBlock] using e.symm
                  subst e4
                  have h5 := (Below.heap_alloc wq (.cells #[mrV m] 36) g3 (Array.getElem?_eq_some_iff.1 hg3).1).symm.trans hd
                  rw [hg3] at h5
                  cases h5))).mono (by have := hgrow.size; simp at this; omega)
              gi_wp2
              refine ⟨⟨k + 1, ms2 ++ [m], by go_num, by omega, hmat8, ?_, bW8, hBM8, hB8, hMk8⟩, by simp [intOf]; omega⟩
              show _ = _
              rw [grpU_succ, if_pos Hg.out, List.map_append, ← Hms.out, List.map_singleton, ← Hmx.out]
              simp [mTab]
      · obtain rfl : n = k := by omega
        have hltn : ¬ (n : Int) < (n : Int) := by omega
        clear hlt bW hBM
        gi_wp2
        refine leaves_marks (B := wo.heap.size) (fun W => Mat w.heap.size W u2 ms2 ∧ Below w.heap.size w W) (by simp) (fun W D hj hD hd => ⟨hj.1.keptRow (grownBy_putObj' W D _) (fun r er => by cases er; exact ⟨_, hd, rfl⟩), hj.2.grown (grownBy_putObj' W D _) hj.2.size (fun k ek => by cases ek; exact hD)⟩) [D] wo hMk ⟨hmat, hB⟩ (fun W' hj => ?_)
        refine ⟨.tuple #[u2, .int .i64 0], ?_, u2, rfl, ms2, hj.1, ?_, hj.2⟩
        · simp [results, Try.f41, go_sem]
        · rw [Hms.out, Hf.out, HT.out]
          unfold groP
          rw [if_pos Hm.out, Hl.out]
  case stop =>
    rintro D c pre W _ _ h _
    exact h.elim

end Go.Proofs.Ytilhmlapbifbbaa
