/- Walks: the reference's ReadSoup. -/
import Derived.Test.YtilhmlapbifbbaaRe2
import Derived.Test.YtilhmlapbifbbaaSoL
namespace Go.Proofs.Ytilhmlapbifbbaa
open Go.RowKit Go.Sort
attribute [local go_sem] Instr.index

theorem wpList_appG {P : Program} (w : World) {ops : Array Oper} {rest : List Oper} {o : Oper} {a : Act} {Q : Exit → Act → World → Prop}
    (hgd : o.guard = none) (s x : Operand) (t : TypeId) (hop : o.op = Op.call { callee := Callee.builtin Builtin.append, args := #[s, x], argTypes := #[t, t] })
    (base : Nat) (e : TypeId) (z : Value) (size bytes : Nat) (ht : P.underlying t = some (.slice e)) (hi : (P.info? e).map (fun i => (i.zero, i.size, i.bytes)) = some (some z, size, bytes)) (hzs : z.cells.size = size) (hsz : 0 < size)
    (v : Value) (n : Nat) (xs y : List Value) (e' : TypeId) (g : Nat) (hg : w.heap.size = g) (hy : y.length = size) (h1 : ∀ u ∈ y, u.oneCell' = true) (hown : w.ownsRow base e size v n xs) (hs : a.eval s = v)
    (hx : a.eval x = .slice (some ⟨g, 0, none⟩) 1 1)
    (h63 : n + 1 ≤ 9223372036854775807) (hbytes : (n + 1) * bytes ≤ 140737488355328) (hbase : base ≤ g)
    (hK : ∀ v' w', w'.ownsRow base e size v' (n + 1) (xs ++ y) → Appd w w' v v' → wpList P ops Q rest (a.put o.dst v') w') :
    wpList P ops Q (o :: rest) a (w.alloc (.cells y.toArray e')) := by
  subst hg
  exact wpList_appR w hgd s x t hop base e z size bytes ht hi hzs hsz v n xs y e' hy h1 hown hs hx h63 hbytes hbase hK
theorem size_set3 (w : World) (a : Addr) (v : Value) : (w.setCell a v).heap.size = w.heap.size := by simp [World.setCell]
theorem owns_set2 {w : World} {B : Nat} {e : TypeId} {sz n : Nat} {v : Value} {xs : List Value} (h : w.ownsRow B e sz v n xs) {b : Nat} (hb : ∀ j, v.ownBlock = some j → j ≠ b) (i : Nat) (u : Value) : (w.setCell ⟨b, i, none⟩ u).ownsRow B e sz v n xs :=
  h.kept (grownBy_setCell w b i u) (by
    by_cases hv : v.ownBlock = none
    · exact .inl hv
    · exact .inr (fun e => hb b e rfl))
theorem blk_app {w w' : World} {v v' : Value} {b : Nat} {u : Obj} (hp : Appd w w' v v') (hb : w.heap[b]? = some u) (hne : ∀ j, v.ownBlock = some j → b ≠ j) : w'.heap[b]? = some u :=
  (hp.grown.block b (Array.getElem?_eq_some_iff.1 hb).1 (by intro e; exact hne b e.symm rfl)).trans hb
theorem owns_app {w w' : World} {v v' u : Value} {B : Nat} {e : TypeId} {sz n : Nat} {xs : List Value} (hp : Appd w w' v v') (h : w.ownsRow B e sz u n xs) (hne : ∀ i j, u.ownBlock = some i → v.ownBlock = some j → i ≠ j) : w'.ownsRow B e sz u n xs :=
  h.kept hp.grown (by
    by_cases hu : u.ownBlock = none
    · exact .inl hu
    · refine .inr (fun e => ?_)
      obtain ⟨i, hi⟩ := Option.ne_none_iff_exists'.1 hu
      exact hne i i hi (e ▸ hi) rfl)

set_option maxRecDepth 100000 in
set_option maxHeartbeats 8000000 in
theorem refreadsoup_any (w : World) (a : Option Addr) (n c : Nat) (xs : List Int) (hx : SlI .u8 w a n c xs) (hb : ∀ x ∈ xs, 0 ≤ x ∧ x ≤ 255) (hfar : n = 0 ∨ ∀ ad, a = some ad → ad.block < w.heap.size) :
    Calls Try.prog 54 #[.slice a n c] w (rdPost w (rdSoup xs)) := by
  have hlen := hx.len
  have hle := hx.le
  have hmax := hx.max
  obtain ⟨V, HV⟩ : ∃ V, Hid (V = rdSoup xs) := ⟨_, rfl⟩
  rw [← HV.out]
  by_cases hn : 131072 < n
  rotate_left
  · have hI : ¬ (131072 : Int) < (n : Int) := by omega
    have N := Lib.hid (fun (W : World) (s : RS) (h : RdAt 135 (fun b => !b) W (w.heap.size + 1 + 1) a n c xs s) => rfnext_any W (w.heap.size + 1 + 1) a n c xs s h)
    have SG := Lib.hid (fun (W : World) (s : RS) (h : RdAt 135 (fun b => !b) W (w.heap.size + 1 + 1) a n c xs s) => rfsigned_any W (w.heap.size + 1 + 1) a n c xs s h)
    have SP := Lib.hid (fun (W : World) (s : RS) (h : RdAt 135 (fun b => !b) W (w.heap.size + 1 + 1) a n c xs s) => rfspot_any W (w.heap.size + 1 + 1) a n c xs s h)
    have UP := Lib.hid (fun (m : Int) (W : World) (s : RS) (h : RdAt 135 (fun b => !b) W (w.heap.size + 1 + 1) a n c xs s) => rfcount_any m W (w.heap.size + 1 + 1) a n c xs s h)
    have hG := World.grownBy.refl w none
    have hG' := gb_alloc hG (.cells #[.int .i64 0, .int .i64 0, .int .i64 0, .int .i64 0, .int .i64 0, .int .i64 0, .int .i64 0] 32)
    have hC : (w.alloc (.cells #[.int .i64 0, .int .i64 0, .int .i64 0, .int .i64 0, .int .i64 0, .int .i64 0, .int .i64 0] 32)).heap[w.heap.size]? = some (.cells #[.int .i64 0, .int .i64 0, .int .i64 0, .int .i64 0, .int .i64 0, .int .i64 0, .int .i64 0] 32 (0, 0)) := rd_at _ (by simp)
    clear hG
    have hG := hG'
    clear hG'
    have hC' := rd_past (.cells #[.slice none 0 0, .slice none 0 0, .slice none 0 0] 71) hC
    have hG' := gb_alloc hG (.cells #[.slice none 0 0, .slice none 0 0, .slice none 0 0] 71)
    have hS : ((w.alloc (.cells #[.int .i64 0, .int .i64 0, .int .i64 0, .int .i64 0, .int .i64 0, .int .i64 0, .int .i64 0] 32)).alloc (.cells #[.slice none 0 0, .slice none 0 0, .slice none 0 0] 71)).heap[w.heap.size + 1]? = some (.cells #[.slice none 0 0, .slice none 0 0, .slice none 0 0] 71 (0, 0)) := rd_at _ (by simp)
    clear hC hG
    have hC := hC'
    have hG := hG'
    clear hC' hG'
    have hC' := rd_past (.cells #[.slice a n c, .int .i64 0, .bool true] 135) hC
    have hS' := rd_past (.cells #[.slice a n c, .int .i64 0, .bool true] 135) hS
    have hG' := gb_alloc hG (.cells #[.slice a n c, .int .i64 0, .bool true] 135)
    have hA : RdAt 135 (fun b => !b) (((w.alloc (.cells #[.int .i64 0, .int .i64 0, .int .i64 0, .int .i64 0, .int .i64 0, .int .i64 0, .int .i64 0] 32)).alloc (.cells #[.slice none 0 0, .slice none 0 0, .slice none 0 0] 71)).alloc (.cells #[.slice a n c, .int .i64 0, .bool true] 135)) (w.heap.size + 1 + 1) a n c xs (0, false) := ⟨rd_at _ (by simp), ((hx.alloc _).alloc _).alloc _, Nat.zero_le _, hfar.imp id (fun q ad ha => by have := q ad ha; omega), by omega, hb⟩
    clear hC hS hG
    have hC := hC'
    have hS := hS'
    have hG := hG'
    clear hC' hS' hG'
    go_enter Try.func54, Try.ntmps54
    obtain ⟨r0, hr0⟩ : ∃ r, Hid (r = rdNum xs ((0, false) : RS)) := ⟨_, rfl⟩
    have CO := N.out _ _ hA
    rw [← hr0.out] at CO
    go_wp2_with fail
    refine CO.mono ?_
    rintro e y0 ⟨rfl, hA', hg'⟩
    clear CO
    have hC' := blk_other hg' hC (by omega)
    have hS' := blk_other hg' hS (by omega)
    have hG' := gn_call hG hg' (by omega)
    have hzy0 := hg'.size
    try simp only [World.size_alloc, size_set3] at hzy0
    clear hC hS hG hA
    have hC := hC'
    have hS := hS'
    have hG := hG'
    have hA := hA'
    clear hC' hS' hG' hA'
    clear hg'
    obtain ⟨r1, hr1⟩ : ∃ r, Hid (r = rdNum xs r0.2) := ⟨_, rfl⟩
    have CO := N.out _ _ hA
    rw [← hr1.out] at CO
    go_wp2_with fail
    refine CO.mono ?_
    rintro e y1 ⟨rfl, hA', hg'⟩
    clear CO
    have hC' := blk_other hg' hC (by omega)
    have hS' := blk_other hg' hS (by omega)
    have hG' := gn_call hG hg' (by omega)
    have hzy1 := hg'.size
    try simp only [World.size_alloc, size_set3] at hzy1
    clear hC hS hG hA
    have hC := hC'
    have hS := hS'
    have hG := hG'
    have hA := hA'
    clear hC' hS' hG' hA'
    clear hg'
    obtain ⟨r2, hr2⟩ : ∃ r, Hid (r = rdNum xs r1.2) := ⟨_, rfl⟩
    have CO := N.out _ _ hA
    rw [← hr2.out] at CO
    go_wp2_with fail
    refine CO.mono ?_
    rintro e y2 ⟨rfl, hA', hg'⟩
    clear CO
    have hC' := blk_other hg' hC (by omega)
    have hS' := blk_other hg' hS (by omega)
    have hG' := gn_call hG hg' (by omega)
    have hzy2 := hg'.size
    try simp only [World.size_alloc, size_set3] at hzy2
    clear hC hS hG hA
    have hC := hC'
    have hS := hS'
    have hG := hG'
    have hA := hA'
    clear hC' hS' hG' hA'
    clear hg'
    obtain ⟨r3, hr3⟩ : ∃ r, Hid (r = rdNum xs r2.2) := ⟨_, rfl⟩
    have CO := N.out _ _ hA
    rw [← hr3.out] at CO
    go_wp2_with fail
    refine CO.mono ?_
    rintro e y3 ⟨rfl, hA', hg'⟩
    clear CO
    have hC' := blk_other hg' hC (by omega)
    have hS' := blk_other hg' hS (by omega)
    have hG' := gn_call hG hg' (by omega)
    have hzy3 := hg'.size
    try simp only [World.size_alloc, size_set3] at hzy3
    clear hC hS hG hA
    have hC := hC'
    have hS := hS'
    have hG := hG'
    have hA := hA'
    clear hC' hS' hG' hA'
    clear hg'
    obtain ⟨r4, hr4⟩ : ∃ r, Hid (r = rdNum xs r3.2) := ⟨_, rfl⟩
    have CO := N.out _ _ hA
    rw [← hr4.out] at CO
    go_wp2_with fail
    refine CO.mono ?_
    rintro e y4 ⟨rfl, hA', hg'⟩
    clear CO
    have hC' := blk_other hg' hC (by omega)
    have hS' := blk_other hg' hS (by omega)
    have hG' := gn_call hG hg' (by omega)
    have hzy4 := hg'.size
    try simp only [World.size_alloc, size_set3] at hzy4
    clear hC hS hG hA
    have hC := hC'
    have hS := hS'
    have hG := hG'
    have hA := hA'
    clear hC' hS' hG' hA'
    clear hg'
    obtain ⟨r5, hr5⟩ : ∃ r, Hid (r = rdNum xs r4.2) := ⟨_, rfl⟩
    have CO := N.out _ _ hA
    rw [← hr5.out] at CO
    go_wp2_with fail
    refine CO.mono ?_
    rintro e y5 ⟨rfl, hA', hg'⟩
    clear CO
    have hC' := blk_other hg' hC (by omega)
    have hS' := blk_other hg' hS (by omega)
    have hG' := gn_call hG hg' (by omega)
    have hzy5 := hg'.size
    try simp only [World.size_alloc, size_set3] at hzy5
    clear hC hS hG hA
    have hC := hC'
    have hS := hS'
    have hG := hG'
    have hA := hA'
    clear hC' hS' hG' hA'
    clear hg'
    obtain ⟨r6, hr6⟩ : ∃ r, Hid (r = rdNum xs r5.2) := ⟨_, rfl⟩
    have CO := N.out _ _ hA
    rw [← hr6.out] at CO
    go_wp2_with fail
    refine CO.mono ?_
    rintro e y6 ⟨rfl, hA', hg'⟩
    clear CO
    have hC' := blk_other hg' hC (by omega)
    have hS' := blk_other hg' hS (by omega)
    have hG' := gn_call hG hg' (by omega)
    have hzy6 := hg'.size
    try simp only [World.size_alloc, size_set3] at hzy6
    clear hC hS hG hA
    have hC := hC'
    have hS := hS'
    have hG := hG'
    have hA := hA'
    clear hC' hS' hG' hA'
    clear hg'
    have hy6 : w.heap.size + 1 + 1 < y6.heap.size := hA.lt
    have hC' := rd_past (.cells #[.int .i64 r0.1, .int .i64 r1.1, .int .i64 r2.1, .int .i64 r3.1, .int .i64 r4.1, .int .i64 r5.1, .int .i64 r6.1] 32) hC
    have hS' := rd_past (.cells #[.int .i64 r0.1, .int .i64 r1.1, .int .i64 r2.1, .int .i64 r3.1, .int .i64 r4.1, .int .i64 r5.1, .int .i64 r6.1] 32) hS
    have hG' := gb_alloc hG (.cells #[.int .i64 r0.1, .int .i64 r1.1, .int .i64 r2.1, .int .i64 r3.1, .int .i64 r4.1, .int .i64 r5.1, .int .i64 r6.1] 32)
    have hA' := hA.alloc (.cells #[.int .i64 r0.1, .int .i64 r1.1, .int .i64 r2.1, .int .i64 r3.1, .int .i64 r4.1, .int .i64 r5.1, .int .i64 r6.1] 32)
    have hc : (y6.alloc (.cells #[.int .i64 r0.1, .int .i64 r1.1, .int .i64 r2.1, .int .i64 r3.1, .int .i64 r4.1, .int .i64 r5.1, .int .i64 r6.1] 32)).heap[y6.heap.size]? = some (.cells #[.int .i64 r0.1, .int .i64 r1.1, .int .i64 r2.1, .int .i64 r3.1, .int .i64 r4.1, .int .i64 r5.1, .int .i64 r6.1] 32 (0, 0)) := rd_at _ (by simp)
    clear hC hS hG hA
    have hC := hC'
    have hS := hS'
    have hG := hG'
    have hA := hA'
    clear hC' hS' hG' hA'
    have hC' := rd_past (.cells #[.slice none 0 0, .slice none 0 0, .slice none 0 0] 71) hC
    have hS' := rd_past (.cells #[.slice none 0 0, .slice none 0 0, .slice none 0 0] 71) hS
    have hc' := rd_past (.cells #[.slice none 0 0, .slice none 0 0, .slice none 0 0] 71) hc
    have hG' := gb_alloc hG (.cells #[.slice none 0 0, .slice none 0 0, .slice none 0 0] 71)
    have hA' := hA.alloc (.cells #[.slice none 0 0, .slice none 0 0, .slice none 0 0] 71)
    have hs : ((y6.alloc (.cells #[.int .i64 r0.1, .int .i64 r1.1, .int .i64 r2.1, .int .i64 r3.1, .int .i64 r4.1, .int .i64 r5.1, .int .i64 r6.1] 32)).alloc (.cells #[.slice none 0 0, .slice none 0 0, .slice none 0 0] 71)).heap[y6.heap.size + 1]? = some (.cells #[.slice none 0 0, .slice none 0 0, .slice none 0 0] 71 (0, 0)) := rd_at _ (by simp)
    clear hC hS hc hG hA
    have hC := hC'
    have hS := hS'
    have hc := hc'
    have hG := hG'
    have hA := hA'
    clear hC' hS' hc' hG' hA'
    obtain ⟨u7, hu7⟩ : ∃ r, Hid (r = rdUp xs 200 r6.2) := ⟨_, rfl⟩
    have CO := UP.out 200 _ _ hA
    rw [← hu7.out] at CO
    go_wp2_with fail
    refine CO.mono ?_
    rintro e y7 ⟨rfl, hA', hg'⟩
    clear CO
    have hC' := blk_other hg' hC (by omega)
    have hS' := blk_other hg' hS (by omega)
    have hc' := blk_other hg' hc (by omega)
    have hs' := blk_other hg' hs (by omega)
    have hG' := gn_call hG hg' (by omega)
    have hzy7 := hg'.size
    try simp only [World.size_alloc, size_set3] at hzy7
    clear hC hS hc hs hG hA
    have hC := hC'
    have hS := hS'
    have hc := hc'
    have hs := hs'
    have hG := hG'
    have hA := hA'
    clear hC' hS' hc' hs' hG' hA'
    clear hg'
    have hru7 := rdUp_range (st := r6.2) (m := 200) (by decide) hb
    rw [← hu7.out] at hru7
    obtain ⟨N7, hN7⟩ : ∃ k : Nat, u7.1 = (k : Int) := ⟨u7.1.toNat, by omega⟩
    rw [hN7]
    obtain ⟨V7, HV7⟩ : ∃ V, Hid (V = rdList xs 200 (rdTri xs) r6.2) := ⟨_, rfl⟩
    have HW0 : Hid (V7 = rdRows (rdTri xs) N7 u7.2) := by show _ = _; rw [HV7.out, rdList, ← hu7.out, hN7]; rfl
    have hN200 : N7 ≤ 200 := by omega
    obtain ⟨B7, hB7⟩ : ∃ B, B = y7.heap.size := ⟨_, rfl⟩
    have hBg : y6.heap.size + 1 < B7 := by rw [hB7]; exact (Array.getElem?_eq_some_iff.1 hs).1
    have hBle : B7 ≤ y7.heap.size := by omega
    have hBge7 : y7.heap.size ≤ B7 := by omega
    clear hru7 hN7 hB7
    go_wp2_with fail
    go_loopw [10] (fun i wr => ∃ (j : Nat) (l : List Tri3) (s : RS) (v : Value), i = .int .i64 j ∧ j ≤ N7 ∧ l.length = j ∧ wr.ownsRow B7 112 10 v j (l.flatMap triC) ∧ RdAt 135 (fun b => !b) wr (w.heap.size + 1 + 1) a n c xs s ∧ wr.heap[w.heap.size]? = some (.cells #[.int .i64 0, .int .i64 0, .int .i64 0, .int .i64 0, .int .i64 0, .int .i64 0, .int .i64 0] 32 (0, 0)) ∧ wr.heap[w.heap.size + 1]? = some (.cells #[.slice none 0 0, .slice none 0 0, .slice none 0 0] 71 (0, 0)) ∧ wr.heap[y6.heap.size]? = some (.cells #[.int .i64 r0.1, .int .i64 r1.1, .int .i64 r2.1, .int .i64 r3.1, .int .i64 r4.1, .int .i64 r5.1, .int .i64 r6.1] 32 (0, 0)) ∧ wr.heap[y6.heap.size + 1]? = some (.cells #[v, .slice none 0 0, .slice none 0 0] 71 (0, 0)) ∧ w.grownBy wr none ∧ B7 ≤ wr.heap.size ∧ Hid (V7 = (l ++ (rdRows (rdTri xs) (N7 - j) s).1, (rdRows (rdTri xs) (N7 - j) s).2))) (fun i _ => N7 - (intOf i).toNat)
    case atStart => exact ⟨0, [], u7.2, .slice none 0 0, rfl, Nat.zero_le _, rfl, World.ownsRow_nil _ _ _ _, hA, hC, hS, hc, hs, hG, hBle, HW0.out⟩
    case round =>
    clear hA hC hS hc hs hG hBle HW0 
    obtain ⟨j, l, ⟨s1, bad⟩, v, rfl, hj, hl, ho, hA, hC, hS, hc, hs, hG, hBle, HW⟩ := hrel
    obtain ⟨wj, rfl⟩ : ∃ wj : World, wj = wr := ⟨_, rfl⟩
    have cf := cell_heap (k := 2) (v := .bool (!bad)) hA.blk rfl
    obtain ⟨q, hq⟩ : ∃ q, q = (decide (j < N7) && !bad) := ⟨_, rfl⟩
    go_upto_region 8 with fail
    go_cut [53] from 45 to 53 (fun s53 wx => s53 = .bool q ∧ wx = wj)
    case first =>
      by_cases hlt : j < N7
      · have hI : (j : Int) < (N7 : Int) := by omega
        have hd : decide (j < N7) = true := decide_eq_true hlt
        rw [hd] at hq
        subst hq
        clear hd
        go_wp2
        go_meet
        exact ⟨by simp, rfl⟩
      · have hI : ¬ (j : Int) < (N7 : Int) := by omega
        have hd : decide (j < N7) = false := decide_eq_false hlt
        rw [hd] at hq
        subst hq
        clear hd
        go_wp2
        go_meet
        exact ⟨by simp, rfl⟩
    case rest =>
    obtain ⟨rfl, rfl⟩ := hcut
    obtain ⟨wj, rfl⟩ : ∃ wj : World, wj = wc := ⟨_, rfl⟩
    cases q with
    | true =>
      have hqq : j < N7 ∧ bad = false := by simpa using hq.symm
      obtain ⟨hlt, rfl⟩ := hqq
      have hvl : ∀ i, v.ownBlock = some i → i < wj.heap.size := fun i h => (ho.lt i h).2
      clear cf hq
      obtain ⟨q0, hq0⟩ : ∃ r, Hid (r = rdNum xs ((s1, false) : RS)) := ⟨_, rfl⟩
      have CO := N.out _ _ hA
      rw [← hq0.out] at CO
      go_wp2_with fail
      refine CO.mono ?_
      rintro e z0 ⟨rfl, hA', hg'⟩
      clear CO
      have hC' := blk_other hg' hC (by omega)
      have hS' := blk_other hg' hS (by omega)
      have hc' := blk_other hg' hc (by omega)
      have hs' := blk_other hg' hs (by omega)
      have hG' := gn_call hG hg' (by omega)
      have hzz0 := hg'.size
      try simp only [World.size_alloc, size_set3] at hzz0
      have ho' := owns_call ho hg' (by omega)
      clear hC hS hc hs hG hA ho
      have hC := hC'
      have hS := hS'
      have hc := hc'
      have hs := hs'
      have hG := hG'
      have hA := hA'
      have ho := ho'
      clear hC' hS' hc' hs' hG' hA' ho'
      clear hg'
      have hC' := rd_past (.cells #[.int .i64 q0.1, .int .i64 0, .int .i64 0, .int .i64 0, .int .i64 0, .int .i64 0, .int .i64 0, .int .i64 0, .int .i64 0, .int .i64 0] 112) hC
      have hS' := rd_past (.cells #[.int .i64 q0.1, .int .i64 0, .int .i64 0, .int .i64 0, .int .i64 0, .int .i64 0, .int .i64 0, .int .i64 0, .int .i64 0, .int .i64 0] 112) hS
      have hc' := rd_past (.cells #[.int .i64 q0.1, .int .i64 0, .int .i64 0, .int .i64 0, .int .i64 0, .int .i64 0, .int .i64 0, .int .i64 0, .int .i64 0, .int .i64 0] 112) hc
      have hs' := rd_past (.cells #[.int .i64 q0.1, .int .i64 0, .int .i64 0, .int .i64 0, .int .i64 0, .int .i64 0, .int .i64 0, .int .i64 0, .int .i64 0, .int .i64 0] 112) hs
      have hG' := gb_alloc hG (.cells #[.int .i64 q0.1, .int .i64 0, .int .i64 0, .int .i64 0, .int .i64 0, .int .i64 0, .int .i64 0, .int .i64 0, .int .i64 0, .int .i64 0] 112)
      have hA' := hA.alloc (.cells #[.int .i64 q0.1, .int .i64 0, .int .i64 0, .int .i64 0, .int .i64 0, .int .i64 0, .int .i64 0, .int .i64 0, .int .i64 0, .int .i64 0] 112)
      have ho' := ho.alloc (.cells #[.int .i64 q0.1, .int .i64 0, .int .i64 0, .int .i64 0, .int .i64 0, .int .i64 0, .int .i64 0, .int .i64 0, .int .i64 0, .int .i64 0] 112)
      have ht : (z0.alloc (.cells #[.int .i64 q0.1, .int .i64 0, .int .i64 0, .int .i64 0, .int .i64 0, .int .i64 0, .int .i64 0, .int .i64 0, .int .i64 0, .int .i64 0] 112)).heap[z0.heap.size]? = some (.cells #[.int .i64 q0.1, .int .i64 0, .int .i64 0, .int .i64 0, .int .i64 0, .int .i64 0, .int .i64 0, .int .i64 0, .int .i64 0, .int .i64 0] 112 (0, 0)) := rd_at _ (by simp)
      clear hC hS hc hs hG hA ho
      have hC := hC'
      have hS := hS'
      have hc := hc'
      have hs := hs'
      have hG := hG'
      have hA := hA'
      have ho := ho'
      clear hC' hS' hc' hs' hG' hA' ho'
      go_wp2_with fail
      refine wp_loop_rounds 4 ?_
      rw [rounds_succ]
      obtain ⟨q1, hq1⟩ : ∃ r, Hid (r = rdNum xs q0.2) := ⟨_, rfl⟩
      have CO := N.out _ _ hA
      rw [← hq1.out] at CO
      go_wp2_with fail
      refine CO.mono ?_
      rintro e z1 ⟨rfl, hA', hg'⟩
      clear CO
      have hC' := blk_other hg' hC (by omega)
      have hS' := blk_other hg' hS (by omega)
      have hc' := blk_other hg' hc (by omega)
      have hs' := blk_other hg' hs (by omega)
      have ht' := blk_other hg' ht (by omega)
      have hG' := gn_call hG hg' (by omega)
      have hzz1 := hg'.size
      try simp only [World.size_alloc, size_set3] at hzz1
      have ho' := owns_call ho hg' (by omega)
      clear hC hS hc hs ht hG hA ho
      have hC := hC'
      have hS := hS'
      have hc := hc'
      have hs := hs'
      have ht := ht'
      have hG := hG'
      have hA := hA'
      have ho := ho'
      clear hC' hS' hc' hs' ht' hG' hA' ho'
      clear hg'
      obtain ⟨q2, hq2⟩ : ∃ r, Hid (r = rdSig xs q1.2) := ⟨_, rfl⟩
      have CO := SG.out _ _ hA
      rw [← hq2.out] at CO
      go_wp2_with fail
      refine CO.mono ?_
      rintro e z2 ⟨rfl, hA', hg'⟩
      clear CO
      have hC' := blk_other hg' hC (by omega)
      have hS' := blk_other hg' hS (by omega)
      have hc' := blk_other hg' hc (by omega)
      have hs' := blk_other hg' hs (by omega)
      have ht' := blk_other hg' ht (by omega)
      have hG' := gn_call hG hg' (by omega)
      have hzz2 := hg'.size
      try simp only [World.size_alloc, size_set3] at hzz2
      have ho' := owns_call ho hg' (by omega)
      clear hC hS hc hs ht hG hA ho
      have hC := hC'
      have hS := hS'
      have hc := hc'
      have hs := hs'
      have ht := ht'
      have hG := hG'
      have hA := hA'
      have ho := ho'
      clear hC' hS' hc' hs' ht' hG' hA' ho'
      clear hg'
      obtain ⟨q3, hq3⟩ : ∃ r, Hid (r = rdNum xs q2.2) := ⟨_, rfl⟩
      have CO := N.out _ _ hA
      rw [← hq3.out] at CO
      go_wp2_with fail
      refine CO.mono ?_
      rintro e z3 ⟨rfl, hA', hg'⟩
      clear CO
      have hC' := blk_other hg' hC (by omega)
      have hS' := blk_other hg' hS (by omega)
      have hc' := blk_other hg' hc (by omega)
      have hs' := blk_other hg' hs (by omega)
      have ht' := blk_other hg' ht (by omega)
      have hG' := gn_call hG hg' (by omega)
      have hzz3 := hg'.size
      try simp only [World.size_alloc, size_set3] at hzz3
      have ho' := owns_call ho hg' (by omega)
      clear hC hS hc hs ht hG hA ho
      have hC := hC'
      have hS := hS'
      have hc := hc'
      have hs := hs'
      have ht := ht'
      have hG := hG'
      have hA := hA'
      have ho := ho'
      clear hC' hS' hc' hs' ht' hG' hA' ho'
      clear hg'
      have e0 := cell_heap (k := 1) (v := .int .i64 0) ht rfl
      have e1 := blk_frozen (j := 1) ht
      have hC' : (z3.setCell ⟨z0.heap.size, 1, none⟩ (.int .i64 q1.1)).heap[w.heap.size]? = some (.cells #[.int .i64 0, .int .i64 0, .int .i64 0, .int .i64 0, .int .i64 0, .int .i64 0, .int .i64 0] 32 (0, 0)) := heap_set_far hC (by omega)
      have hS' : (z3.setCell ⟨z0.heap.size, 1, none⟩ (.int .i64 q1.1)).heap[w.heap.size + 1]? = some (.cells #[.slice none 0 0, .slice none 0 0, .slice none 0 0] 71 (0, 0)) := heap_set_far hS (by omega)
      have hc' : (z3.setCell ⟨z0.heap.size, 1, none⟩ (.int .i64 q1.1)).heap[y6.heap.size]? = some (.cells #[.int .i64 r0.1, .int .i64 r1.1, .int .i64 r2.1, .int .i64 r3.1, .int .i64 r4.1, .int .i64 r5.1, .int .i64 r6.1] 32 (0, 0)) := heap_set_far hc (by omega)
      have hs' : (z3.setCell ⟨z0.heap.size, 1, none⟩ (.int .i64 q1.1)).heap[y6.heap.size + 1]? = some (.cells #[v, .slice none 0 0, .slice none 0 0] 71 (0, 0)) := heap_set_far hs (by omega)
      have ht' : (z3.setCell ⟨z0.heap.size, 1, none⟩ (.int .i64 q1.1)).heap[z0.heap.size]? = some (.cells #[.int .i64 q0.1, .int .i64 q1.1, .int .i64 0, .int .i64 0, .int .i64 0, .int .i64 0, .int .i64 0, .int .i64 0, .int .i64 0, .int .i64 0] 112 (0, 0)) := heap_setCell_same z3 (z0.heap.size) 1 _ _ _ ht
      have hG' := gb_set hG (b := z0.heap.size) (by omega) 1 (.int .i64 q1.1)
      have hA' := hA.setFar (b := z0.heap.size) (by omega) (hfar.imp id fun q ad ha => by have := q ad ha; omega) 1 (.int .i64 q1.1)
      have ho' := owns_set2 ho (b := z0.heap.size) (fun j hj => by have := ho.lt j hj; have := hvl j hj; omega) 1 (.int .i64 q1.1)
      clear hC hS hc hs ht hG hA ho
      have hC := hC'
      have hS := hS'
      have hc := hc'
      have hs := hs'
      have ht := ht'
      have hG := hG'
      have hA := hA'
      have ho := ho'
      clear hC' hS' hc' hs' ht' hG' hA' ho'
      have e2 := cell_heap (k := 2) (v := .int .i64 0) ht rfl
      have e3 := blk_frozen (j := 2) ht
      have hC' : ((z3.setCell ⟨z0.heap.size, 1, none⟩ (.int .i64 q1.1)).setCell ⟨z0.heap.size, 2, none⟩ (.int .i64 q2.1)).heap[w.heap.size]? = some (.cells #[.int .i64 0, .int .i64 0, .int .i64 0, .int .i64 0, .int .i64 0, .int .i64 0, .int .i64 0] 32 (0, 0)) := heap_set_far hC (by omega)
      have hS' : ((z3.setCell ⟨z0.heap.size, 1, none⟩ (.int .i64 q1.1)).setCell ⟨z0.heap.size, 2, none⟩ (.int .i64 q2.1)).heap[w.heap.size + 1]? = some (.cells #[.slice none 0 0, .slice none 0 0, .slice none 0 0] 71 (0, 0)) := heap_set_far hS (by omega)
      have hc' : ((z3.setCell ⟨z0.heap.size, 1, none⟩ (.int .i64 q1.1)).setCell ⟨z0.heap.size, 2, none⟩ (.int .i64 q2.1)).heap[y6.heap.size]? = some (.cells #[.int .i64 r0.1, .int .i64 r1.1, .int .i64 r2.1, .int .i64 r3.1, .int .i64 r4.1, .int .i64 r5.1, .int .i64 r6.1] 32 (0, 0)) := heap_set_far hc (by omega)
      have hs' : ((z3.setCell ⟨z0.heap.size, 1, none⟩ (.int .i64 q1.1)).setCell ⟨z0.heap.size, 2, none⟩ (.int .i64 q2.1)).heap[y6.heap.size + 1]? = some (.cells #[v, .slice none 0 0, .slice none 0 0] 71 (0, 0)) := heap_set_far hs (by omega)
      have ht' : ((z3.setCell ⟨z0.heap.size, 1, none⟩ (.int .i64 q1.1)).setCell ⟨z0.heap.size, 2, none⟩ (.int .i64 q2.1)).heap[z0.heap.size]? = some (.cells #[.int .i64 q0.1, .int .i64 q1.1, .int .i64 q2.1, .int .i64 0, .int .i64 0, .int .i64 0, .int .i64 0, .int .i64 0, .int .i64 0, .int .i64 0] 112 (0, 0)) := heap_setCell_same (z3.setCell ⟨z0.heap.size, 1, none⟩ (.int .i64 q1.1)) (z0.heap.size) 2 _ _ _ ht
      have hG' := gb_set hG (b := z0.heap.size) (by omega) 2 (.int .i64 q2.1)
      have hA' := hA.setFar (b := z0.heap.size) (by omega) (hfar.imp id fun q ad ha => by have := q ad ha; omega) 2 (.int .i64 q2.1)
      have ho' := owns_set2 ho (b := z0.heap.size) (fun j hj => by have := ho.lt j hj; have := hvl j hj; omega) 2 (.int .i64 q2.1)
      clear hC hS hc hs ht hG hA ho
      have hC := hC'
      have hS := hS'
      have hc := hc'
      have hs := hs'
      have ht := ht'
      have hG := hG'
      have hA := hA'
      have ho := ho'
      clear hC' hS' hc' hs' ht' hG' hA' ho'
      have e4 := cell_heap (k := 3) (v := .int .i64 0) ht rfl
      have e5 := blk_frozen (j := 3) ht
      have hC' : (((z3.setCell ⟨z0.heap.size, 1, none⟩ (.int .i64 q1.1)).setCell ⟨z0.heap.size, 2, none⟩ (.int .i64 q2.1)).setCell ⟨z0.heap.size, 3, none⟩ (.int .i64 q3.1)).heap[w.heap.size]? = some (.cells #[.int .i64 0, .int .i64 0, .int .i64 0, .int .i64 0, .int .i64 0, .int .i64 0, .int .i64 0] 32 (0, 0)) := heap_set_far hC (by omega)
      have hS' : (((z3.setCell ⟨z0.heap.size, 1, none⟩ (.int .i64 q1.1)).setCell ⟨z0.heap.size, 2, none⟩ (.int .i64 q2.1)).setCell ⟨z0.heap.size, 3, none⟩ (.int .i64 q3.1)).heap[w.heap.size + 1]? = some (.cells #[.slice none 0 0, .slice none 0 0, .slice none 0 0] 71 (0, 0)) := heap_set_far hS (by omega)
      have hc' : (((z3.setCell ⟨z0.heap.size, 1, none⟩ (.int .i64 q1.1)).setCell ⟨z0.heap.size, 2, none⟩ (.int .i64 q2.1)).setCell ⟨z0.heap.size, 3, none⟩ (.int .i64 q3.1)).heap[y6.heap.size]? = some (.cells #[.int .i64 r0.1, .int .i64 r1.1, .int .i64 r2.1, .int .i64 r3.1, .int .i64 r4.1, .int .i64 r5.1, .int .i64 r6.1] 32 (0, 0)) := heap_set_far hc (by omega)
      have hs' : (((z3.setCell ⟨z0.heap.size, 1, none⟩ (.int .i64 q1.1)).setCell ⟨z0.heap.size, 2, none⟩ (.int .i64 q2.1)).setCell ⟨z0.heap.size, 3, none⟩ (.int .i64 q3.1)).heap[y6.heap.size + 1]? = some (.cells #[v, .slice none 0 0, .slice none 0 0] 71 (0, 0)) := heap_set_far hs (by omega)
      have ht' : (((z3.setCell ⟨z0.heap.size, 1, none⟩ (.int .i64 q1.1)).setCell ⟨z0.heap.size, 2, none⟩ (.int .i64 q2.1)).setCell ⟨z0.heap.size, 3, none⟩ (.int .i64 q3.1)).heap[z0.heap.size]? = some (.cells #[.int .i64 q0.1, .int .i64 q1.1, .int .i64 q2.1, .int .i64 q3.1, .int .i64 0, .int .i64 0, .int .i64 0, .int .i64 0, .int .i64 0, .int .i64 0] 112 (0, 0)) := heap_setCell_same ((z3.setCell ⟨z0.heap.size, 1, none⟩ (.int .i64 q1.1)).setCell ⟨z0.heap.size, 2, none⟩ (.int .i64 q2.1)) (z0.heap.size) 3 _ _ _ ht
      have hG' := gb_set hG (b := z0.heap.size) (by omega) 3 (.int .i64 q3.1)
      have hA' := hA.setFar (b := z0.heap.size) (by omega) (hfar.imp id fun q ad ha => by have := q ad ha; omega) 3 (.int .i64 q3.1)
      have ho' := owns_set2 ho (b := z0.heap.size) (fun j hj => by have := ho.lt j hj; have := hvl j hj; omega) 3 (.int .i64 q3.1)
      clear hC hS hc hs ht hG hA ho
      have hC := hC'
      have hS := hS'
      have hc := hc'
      have hs := hs'
      have ht := ht'
      have hG := hG'
      have hA := hA'
      have ho := ho'
      clear hC' hS' hc' hs' ht' hG' hA' ho'
      go_wp2_with fail
      clear e0 e1 e2 e3 e4 e5
      rw [rounds_succ]
      obtain ⟨q4, hq4⟩ : ∃ r, Hid (r = rdNum xs q3.2) := ⟨_, rfl⟩
      have CO := N.out _ _ hA
      rw [← hq4.out] at CO
      go_wp2_with fail
      refine CO.mono ?_
      rintro e z4 ⟨rfl, hA', hg'⟩
      clear CO
      have hC' := blk_other hg' hC (by omega)
      have hS' := blk_other hg' hS (by omega)
      have hc' := blk_other hg' hc (by omega)
      have hs' := blk_other hg' hs (by omega)
      have ht' := blk_other hg' ht (by omega)
      have hG' := gn_call hG hg' (by omega)
      have hzz4 := hg'.size
      try simp only [World.size_alloc, size_set3] at hzz4
      have ho' := owns_call ho hg' (by omega)
      clear hC hS hc hs ht hG hA ho
      have hC := hC'
      have hS := hS'
      have hc := hc'
      have hs := hs'
      have ht := ht'
      have hG := hG'
      have hA := hA'
      have ho := ho'
      clear hC' hS' hc' hs' ht' hG' hA' ho'
      clear hg'
      obtain ⟨q5, hq5⟩ : ∃ r, Hid (r = rdSig xs q4.2) := ⟨_, rfl⟩
      have CO := SG.out _ _ hA
      rw [← hq5.out] at CO
      go_wp2_with fail
      refine CO.mono ?_
      rintro e z5 ⟨rfl, hA', hg'⟩
      clear CO
      have hC' := blk_other hg' hC (by omega)
      have hS' := blk_other hg' hS (by omega)
      have hc' := blk_other hg' hc (by omega)
      have hs' := blk_other hg' hs (by omega)
      have ht' := blk_other hg' ht (by omega)
      have hG' := gn_call hG hg' (by omega)
      have hzz5 := hg'.size
      try simp only [World.size_alloc, size_set3] at hzz5
      have ho' := owns_call ho hg' (by omega)
      clear hC hS hc hs ht hG hA ho
      have hC := hC'
      have hS := hS'
      have hc := hc'
      have hs := hs'
      have ht := ht'
      have hG := hG'
      have hA := hA'
      have ho := ho'
      clear hC' hS' hc' hs' ht' hG' hA' ho'
      clear hg'
      obtain ⟨q6, hq6⟩ : ∃ r, Hid (r = rdNum xs q5.2) := ⟨_, rfl⟩
      have CO := N.out _ _ hA
      rw [← hq6.out] at CO
      go_wp2_with fail
      refine CO.mono ?_
      rintro e z6 ⟨rfl, hA', hg'⟩
      clear CO
      have hC' := blk_other hg' hC (by omega)
      have hS' := blk_other hg' hS (by omega)
      have hc' := blk_other hg' hc (by omega)
      have hs' := blk_other hg' hs (by omega)
      have ht' := blk_other hg' ht (by omega)
      have hG' := gn_call hG hg' (by omega)
      have hzz6 := hg'.size
      try simp only [World.size_alloc, size_set3] at hzz6
      have ho' := owns_call ho hg' (by omega)
      clear hC hS hc hs ht hG hA ho
      have hC := hC'
      have hS := hS'
      have hc := hc'
      have hs := hs'
      have ht := ht'
      have hG := hG'
      have hA := hA'
      have ho := ho'
      clear hC' hS' hc' hs' ht' hG' hA' ho'
      clear hg'
      have e0 := cell_heap (k := 4) (v := .int .i64 0) ht rfl
      have e1 := blk_frozen (j := 4) ht
      have hC' : (z6.setCell ⟨z0.heap.size, 4, none⟩ (.int .i64 q4.1)).heap[w.heap.size]? = some (.cells #[.int .i64 0, .int .i64 0, .int .i64 0, .int .i64 0, .int .i64 0, .int .i64 0, .int .i64 0] 32 (0, 0)) := heap_set_far hC (by omega)
      have hS' : (z6.setCell ⟨z0.heap.size, 4, none⟩ (.int .i64 q4.1)).heap[w.heap.size + 1]? = some (.cells #[.slice none 0 0, .slice none 0 0, .slice none 0 0] 71 (0, 0)) := heap_set_far hS (by omega)
      have hc' : (z6.setCell ⟨z0.heap.size, 4, none⟩ (.int .i64 q4.1)).heap[y6.heap.size]? = some (.cells #[.int .i64 r0.1, .int .i64 r1.1, .int .i64 r2.1, .int .i64 r3.1, .int .i64 r4.1, .int .i64 r5.1, .int .i64 r6.1] 32 (0, 0)) := heap_set_far hc (by omega)
      have hs' : (z6.setCell ⟨z0.heap.size, 4, none⟩ (.int .i64 q4.1)).heap[y6.heap.size + 1]? = some (.cells #[v, .slice none 0 0, .slice none 0 0] 71 (0, 0)) := heap_set_far hs (by omega)
      have ht' : (z6.setCell ⟨z0.heap.size, 4, none⟩ (.int .i64 q4.1)).heap[z0.heap.size]? = some (.cells #[.int .i64 q0.1, .int .i64 q1.1, .int .i64 q2.1, .int .i64 q3.1, .int .i64 q4.1, .int .i64 0, .int .i64 0, .int .i64 0, .int .i64 0, .int .i64 0] 112 (0, 0)) := heap_setCell_same z6 (z0.heap.size) 4 _ _ _ ht
      have hG' := gb_set hG (b := z0.heap.size) (by omega) 4 (.int .i64 q4.1)
      have hA' := hA.setFar (b := z0.heap.size) (by omega) (hfar.imp id fun q ad ha => by have := q ad ha; omega) 4 (.int .i64 q4.1)
      have ho' := owns_set2 ho (b := z0.heap.size) (fun j hj => by have := ho.lt j hj; have := hvl j hj; omega) 4 (.int .i64 q4.1)
      clear hC hS hc hs ht hG hA ho
      have hC := hC'
      have hS := hS'
      have hc := hc'
      have hs := hs'
      have ht := ht'
      have hG := hG'
      have hA := hA'
      have ho := ho'
      clear hC' hS' hc' hs' ht' hG' hA' ho'
      have e2 := cell_heap (k := 5) (v := .int .i64 0) ht rfl
      have e3 := blk_frozen (j := 5) ht
      have hC' : ((z6.setCell ⟨z0.heap.size, 4, none⟩ (.int .i64 q4.1)).setCell ⟨z0.heap.size, 5, none⟩ (.int .i64 q5.1)).heap[w.heap.size]? = some (.cells #[.int .i64 0, .int .i64 0, .int .i64 0, .int .i64 0, .int .i64 0, .int .i64 0, .int .i64 0] 32 (0, 0)) := heap_set_far hC (by omega)
      have hS' : ((z6.setCell ⟨z0.heap.size, 4, none⟩ (.int .i64 q4.1)).setCell ⟨z0.heap.size, 5, none⟩ (.int .i64 q5.1)).heap[w.heap.size + 1]? = some (.cells #[.slice none 0 0, .slice none 0 0, .slice none 0 0] 71 (0, 0)) := heap_set_far hS (by omega)
      have hc' : ((z6.setCell ⟨z0.heap.size, 4, none⟩ (.int .i64 q4.1)).setCell ⟨z0.heap.size, 5, none⟩ (.int .i64 q5.1)).heap[y6.heap.size]? = some (.cells #[.int .i64 r0.1, .int .i64 r1.1, .int .i64 r2.1, .int .i64 r3.1, .int .i64 r4.1, .int .i64 r5.1, .int .i64 r6.1] 32 (0, 0)) := heap_set_far hc (by omega)
      have hs' : ((z6.setCell ⟨z0.heap.size, 4, none⟩ (.int .i64 q4.1)).setCell ⟨z0.heap.size, 5, none⟩ (.int .i64 q5.1)).heap[y6.heap.size + 1]? = some (.cells #[v, .slice none 0 0, .slice none 0 0] 71 (0, 0)) := heap_set_far hs (by omega)
      have ht' : ((z6.setCell ⟨z0.heap.size, 4, none⟩ (.int .i64 q4.1)).setCell ⟨z0.heap.size, 5, none⟩ (.int .i64 q5.1)).heap[z0.heap.size]? = some (.cells #[.int .i64 q0.1, .int .i64 q1.1, .int .i64 q2.1, .int .i64 q3.1, .int .i64 q4.1, .int .i64 q5.1, .int .i64 0, .int .i64 0, .int .i64 0, .int .i64 0] 112 (0, 0)) := heap_setCell_same (z6.setCell ⟨z0.heap.size, 4, none⟩ (.int .i64 q4.1)) (z0.heap.size) 5 _ _ _ ht
      have hG' := gb_set hG (b := z0.heap.size) (by omega) 5 (.int .i64 q5.1)
      have hA' := hA.setFar (b := z0.heap.size) (by omega) (hfar.imp id fun q ad ha => by have := q ad ha; omega) 5 (.int .i64 q5.1)
      have ho' := owns_set2 ho (b := z0.heap.size) (fun j hj => by have := ho.lt j hj; have := hvl j hj; omega) 5 (.int .i64 q5.1)
      clear hC hS hc hs ht hG hA ho
      have hC := hC'
      have hS := hS'
      have hc := hc'
      have hs := hs'
      have ht := ht'
      have hG := hG'
      have hA := hA'
      have ho := ho'
      clear hC' hS' hc' hs' ht' hG' hA' ho'
      have e4 := cell_heap (k := 6) (v := .int .i64 0) ht rfl
      have e5 := blk_frozen (j := 6) ht
      have hC' : (((z6.setCell ⟨z0.heap.size, 4, none⟩ (.int .i64 q4.1)).setCell ⟨z0.heap.size, 5, none⟩ (.int .i64 q5.1)).setCell ⟨z0.heap.size, 6, none⟩ (.int .i64 q6.1)).heap[w.heap.size]? = some (.cells #[.int .i64 0, .int .i64 0, .int .i64 0, .int .i64 0, .int .i64 0, .int .i64 0, .int .i64 0] 32 (0, 0)) := heap_set_far hC (by omega)
      have hS' : (((z6.setCell ⟨z0.heap.size, 4, none⟩ (.int .i64 q4.1)).setCell ⟨z0.heap.size, 5, none⟩ (.int .i64 q5.1)).setCell ⟨z0.heap.size, 6, none⟩ (.int .i64 q6.1)).heap[w.heap.size + 1]? = some (.cells #[.slice none 0 0, .slice none 0 0, .slice none 0 0] 71 (0, 0)) := heap_set_far hS (by omega)
      have hc' : (((z6.setCell ⟨z0.heap.size, 4, none⟩ (.int .i64 q4.1)).setCell ⟨z0.heap.size, 5, none⟩ (.int .i64 q5.1)).setCell ⟨z0.heap.size, 6, none⟩ (.int .i64 q6.1)).heap[y6.heap.size]? = some (.cells #[.int .i64 r0.1, .int .i64 r1.1, .int .i64 r2.1, .int .i64 r3.1, .int .i64 r4.1, .int .i64 r5.1, .int .i64 r6.1] 32 (0, 0)) := heap_set_far hc (by omega)
      have hs' : (((z6.setCell ⟨z0.heap.size, 4, none⟩ (.int .i64 q4.1)).setCell ⟨z0.heap.size, 5, none⟩ (.int .i64 q5.1)).setCell ⟨z0.heap.size, 6, none⟩ (.int .i64 q6.1)).heap[y6.heap.size + 1]? = some (.cells #[v, .slice none 0 0, .slice none 0 0] 71 (0, 0)) := heap_set_far hs (by omega)
      have ht' : (((z6.setCell ⟨z0.heap.size, 4, none⟩ (.int .i64 q4.1)).setCell ⟨z0.heap.size, 5, none⟩ (.int .i64 q5.1)).setCell ⟨z0.heap.size, 6, none⟩ (.int .i64 q6.1)).heap[z0.heap.size]? = some (.cells #[.int .i64 q0.1, .int .i64 q1.1, .int .i64 q2.1, .int .i64 q3.1, .int .i64 q4.1, .int .i64 q5.1, .int .i64 q6.1, .int .i64 0, .int .i64 0, .int .i64 0] 112 (0, 0)) := heap_setCell_same ((z6.setCell ⟨z0.heap.size, 4, none⟩ (.int .i64 q4.1)).setCell ⟨z0.heap.size, 5, none⟩ (.int .i64 q5.1)) (z0.heap.size) 6 _ _ _ ht
      have hG' := gb_set hG (b := z0.heap.size) (by omega) 6 (.int .i64 q6.1)
      have hA' := hA.setFar (b := z0.heap.size) (by omega) (hfar.imp id fun q ad ha => by have := q ad ha; omega) 6 (.int .i64 q6.1)
      have ho' := owns_set2 ho (b := z0.heap.size) (fun j hj => by have := ho.lt j hj; have := hvl j hj; omega) 6 (.int .i64 q6.1)
      clear hC hS hc hs ht hG hA ho
      have hC := hC'
      have hS := hS'
      have hc := hc'
      have hs := hs'
      have ht := ht'
      have hG := hG'
      have hA := hA'
      have ho := ho'
      clear hC' hS' hc' hs' ht' hG' hA' ho'
      go_wp2_with fail
      clear e0 e1 e2 e3 e4 e5
      rw [rounds_succ]
      obtain ⟨q7, hq7⟩ : ∃ r, Hid (r = rdNum xs q6.2) := ⟨_, rfl⟩
      have CO := N.out _ _ hA
      rw [← hq7.out] at CO
      go_wp2_with fail
      refine CO.mono ?_
      rintro e z7 ⟨rfl, hA', hg'⟩
      clear CO
      have hC' := blk_other hg' hC (by omega)
      have hS' := blk_other hg' hS (by omega)
      have hc' := blk_other hg' hc (by omega)
      have hs' := blk_other hg' hs (by omega)
      have ht' := blk_other hg' ht (by omega)
      have hG' := gn_call hG hg' (by omega)
      have hzz7 := hg'.size
      try simp only [World.size_alloc, size_set3] at hzz7
      have ho' := owns_call ho hg' (by omega)
      clear hC hS hc hs ht hG hA ho
      have hC := hC'
      have hS := hS'
      have hc := hc'
      have hs := hs'
      have ht := ht'
      have hG := hG'
      have hA := hA'
      have ho := ho'
      clear hC' hS' hc' hs' ht' hG' hA' ho'
      clear hg'
      obtain ⟨q8, hq8⟩ : ∃ r, Hid (r = rdSig xs q7.2) := ⟨_, rfl⟩
      have CO := SG.out _ _ hA
      rw [← hq8.out] at CO
      go_wp2_with fail
      refine CO.mono ?_
      rintro e z8 ⟨rfl, hA', hg'⟩
      clear CO
      have hC' := blk_other hg' hC (by omega)
      have hS' := blk_other hg' hS (by omega)
      have hc' := blk_other hg' hc (by omega)
      have hs' := blk_other hg' hs (by omega)
      have ht' := blk_other hg' ht (by omega)
      have hG' := gn_call hG hg' (by omega)
      have hzz8 := hg'.size
      try simp only [World.size_alloc, size_set3] at hzz8
      have ho' := owns_call ho hg' (by omega)
      clear hC hS hc hs ht hG hA ho
      have hC := hC'
      have hS := hS'
      have hc := hc'
      have hs := hs'
      have ht := ht'
      have hG := hG'
      have hA := hA'
      have ho := ho'
      clear hC' hS' hc' hs' ht' hG' hA' ho'
      clear hg'
      obtain ⟨q9, hq9⟩ : ∃ r, Hid (r = rdNum xs q8.2) := ⟨_, rfl⟩
      have CO := N.out _ _ hA
      rw [← hq9.out] at CO
      go_wp2_with fail
      refine CO.mono ?_
      rintro e z9 ⟨rfl, hA', hg'⟩
      clear CO
      have hC' := blk_other hg' hC (by omega)
      have hS' := blk_other hg' hS (by omega)
      have hc' := blk_other hg' hc (by omega)
      have hs' := blk_other hg' hs (by omega)
      have ht' := blk_other hg' ht (by omega)
      have hG' := gn_call hG hg' (by omega)
      have hzz9 := hg'.size
      try simp only [World.size_alloc, size_set3] at hzz9
      have ho' := owns_call ho hg' (by omega)
      clear hC hS hc hs ht hG hA ho
      have hC := hC'
      have hS := hS'
      have hc := hc'
      have hs := hs'
      have ht := ht'
      have hG := hG'
      have hA := hA'
      have ho := ho'
      clear hC' hS' hc' hs' ht' hG' hA' ho'
      clear hg'
      have e0 := cell_heap (k := 7) (v := .int .i64 0) ht rfl
      have e1 := blk_frozen (j := 7) ht
      have hC' : (z9.setCell ⟨z0.heap.size, 7, none⟩ (.int .i64 q7.1)).heap[w.heap.size]? = some (.cells #[.int .i64 0, .int .i64 0, .int .i64 0, .int .i64 0, .int .i64 0, .int .i64 0, .int .i64 0] 32 (0, 0)) := heap_set_far hC (by omega)
      have hS' : (z9.setCell ⟨z0.heap.size, 7, none⟩ (.int .i64 q7.1)).heap[w.heap.size + 1]? = some (.cells #[.slice none 0 0, .slice none 0 0, .slice none 0 0] 71 (0, 0)) := heap_set_far hS (by omega)
      have hc' : (z9.setCell ⟨z0.heap.size, 7, none⟩ (.int .i64 q7.1)).heap[y6.heap.size]? = some (.cells #[.int .i64 r0.1, .int .i64 r1.1, .int .i64 r2.1, .int .i64 r3.1, .int .i64 r4.1, .int .i64 r5.1, .int .i64 r6.1] 32 (0, 0)) := heap_set_far hc (by omega)
      have hs' : (z9.setCell ⟨z0.heap.size, 7, none⟩ (.int .i64 q7.1)).heap[y6.heap.size + 1]? = some (.cells #[v, .slice none 0 0, .slice none 0 0] 71 (0, 0)) := heap_set_far hs (by omega)
      have ht' : (z9.setCell ⟨z0.heap.size, 7, none⟩ (.int .i64 q7.1)).heap[z0.heap.size]? = some (.cells #[.int .i64 q0.1, .int .i64 q1.1, .int .i64 q2.1, .int .i64 q3.1, .int .i64 q4.1, .int .i64 q5.1, .int .i64 q6.1, .int .i64 q7.1, .int .i64 0, .int .i64 0] 112 (0, 0)) := heap_setCell_same z9 (z0.heap.size) 7 _ _ _ ht
      have hG' := gb_set hG (b := z0.heap.size) (by omega) 7 (.int .i64 q7.1)
      have hA' := hA.setFar (b := z0.heap.size) (by omega) (hfar.imp id fun q ad ha => by have := q ad ha; omega) 7 (.int .i64 q7.1)
      have ho' := owns_set2 ho (b := z0.heap.size) (fun j hj => by have := ho.lt j hj; have := hvl j hj; omega) 7 (.int .i64 q7.1)
      clear hC hS hc hs ht hG hA ho
      have hC := hC'
      have hS := hS'
      have hc := hc'
      have hs := hs'
      have ht := ht'
      have hG := hG'
      have hA := hA'
      have ho := ho'
      clear hC' hS' hc' hs' ht' hG' hA' ho'
      have e2 := cell_heap (k := 8) (v := .int .i64 0) ht rfl
      have e3 := blk_frozen (j := 8) ht
      have hC' : ((z9.setCell ⟨z0.heap.size, 7, none⟩ (.int .i64 q7.1)).setCell ⟨z0.heap.size, 8, none⟩ (.int .i64 q8.1)).heap[w.heap.size]? = some (.cells #[.int .i64 0, .int .i64 0, .int .i64 0, .int .i64 0, .int .i64 0, .int .i64 0, .int .i64 0] 32 (0, 0)) := heap_set_far hC (by omega)
      have hS' : ((z9.setCell ⟨z0.heap.size, 7, none⟩ (.int .i64 q7.1)).setCell ⟨z0.heap.size, 8, none⟩ (.int .i64 q8.1)).heap[w.heap.size + 1]? = some (.cells #[.slice none 0 0, .slice none 0 0, .slice none 0 0] 71 (0, 0)) := heap_set_far hS (by omega)
      have hc' : ((z9.setCell ⟨z0.heap.size, 7, none⟩ (.int .i64 q7.1)).setCell ⟨z0.heap.size, 8, none⟩ (.int .i64 q8.1)).heap[y6.heap.size]? = some (.cells #[.int .i64 r0.1, .int .i64 r1.1, .int .i64 r2.1, .int .i64 r3.1, .int .i64 r4.1, .int .i64 r5.1, .int .i64 r6.1] 32 (0, 0)) := heap_set_far hc (by omega)
      have hs' : ((z9.setCell ⟨z0.heap.size, 7, none⟩ (.int .i64 q7.1)).setCell ⟨z0.heap.size, 8, none⟩ (.int .i64 q8.1)).heap[y6.heap.size + 1]? = some (.cells #[v, .slice none 0 0, .slice none 0 0] 71 (0, 0)) := heap_set_far hs (by omega)
      have ht' : ((z9.setCell ⟨z0.heap.size, 7, none⟩ (.int .i64 q7.1)).setCell ⟨z0.heap.size, 8, none⟩ (.int .i64 q8.1)).heap[z0.heap.size]? = some (.cells #[.int .i64 q0.1, .int .i64 q1.1, .int .i64 q2.1, .int .i64 q3.1, .int .i64 q4.1, .int .i64 q5.1, .int .i64 q6.1, .int .i64 q7.1, .int .i64 q8.1, .int .i64 0] 112 (0, 0)) := heap_setCell_same (z9.setCell ⟨z0.heap.size, 7, none⟩ (.int .i64 q7.1)) (z0.heap.size) 8 _ _ _ ht
      have hG' := gb_set hG (b := z0.heap.size) (by omega) 8 (.int .i64 q8.1)
      have hA' := hA.setFar (b := z0.heap.size) (by omega) (hfar.imp id fun q ad ha => by have := q ad ha; omega) 8 (.int .i64 q8.1)
      have ho' := owns_set2 ho (b := z0.heap.size) (fun j hj => by have := ho.lt j hj; have := hvl j hj; omega) 8 (.int .i64 q8.1)
      clear hC hS hc hs ht hG hA ho
      have hC := hC'
      have hS := hS'
      have hc := hc'
      have hs := hs'
      have ht := ht'
      have hG := hG'
      have hA := hA'
      have ho := ho'
      clear hC' hS' hc' hs' ht' hG' hA' ho'
      have e4 := cell_heap (k := 9) (v := .int .i64 0) ht rfl
      have e5 := blk_frozen (j := 9) ht
      have hC' : (((z9.setCell ⟨z0.heap.size, 7, none⟩ (.int .i64 q7.1)).setCell ⟨z0.heap.size, 8, none⟩ (.int .i64 q8.1)).setCell ⟨z0.heap.size, 9, none⟩ (.int .i64 q9.1)).heap[w.heap.size]? = some (.cells #[.int .i64 0, .int .i64 0, .int .i64 0, .int .i64 0, .int .i64 0, .int .i64 0, .int .i64 0] 32 (0, 0)) := heap_set_far hC (by omega)
      have hS' : (((z9.setCell ⟨z0.heap.size, 7, none⟩ (.int .i64 q7.1)).setCell ⟨z0.heap.size, 8, none⟩ (.int .i64 q8.1)).setCell ⟨z0.heap.size, 9, none⟩ (.int .i64 q9.1)).heap[w.heap.size + 1]? = some (.cells #[.slice none 0 0, .slice none 0 0, .slice none 0 0] 71 (0, 0)) := heap_set_far hS (by omega)
      have hc' : (((z9.setCell ⟨z0.heap.size, 7, none⟩ (.int .i64 q7.1)).setCell ⟨z0.heap.size, 8, none⟩ (.int .i64 q8.1)).setCell ⟨z0.heap.size, 9, none⟩ (.int .i64 q9.1)).heap[y6.heap.size]? = some (.cells #[.int .i64 r0.1, .int .i64 r1.1, .int .i64 r2.1, .int .i64 r3.1, .int .i64 r4.1, .int .i64 r5.1, .int .i64 r6.1] 32 (0, 0)) := heap_set_far hc (by omega)
      have hs' : (((z9.setCell ⟨z0.heap.size, 7, none⟩ (.int .i64 q7.1)).setCell ⟨z0.heap.size, 8, none⟩ (.int .i64 q8.1)).setCell ⟨z0.heap.size, 9, none⟩ (.int .i64 q9.1)).heap[y6.heap.size + 1]? = some (.cells #[v, .slice none 0 0, .slice none 0 0] 71 (0, 0)) := heap_set_far hs (by omega)
      have ht' : (((z9.setCell ⟨z0.heap.size, 7, none⟩ (.int .i64 q7.1)).setCell ⟨z0.heap.size, 8, none⟩ (.int .i64 q8.1)).setCell ⟨z0.heap.size, 9, none⟩ (.int .i64 q9.1)).heap[z0.heap.size]? = some (.cells #[.int .i64 q0.1, .int .i64 q1.1, .int .i64 q2.1, .int .i64 q3.1, .int .i64 q4.1, .int .i64 q5.1, .int .i64 q6.1, .int .i64 q7.1, .int .i64 q8.1, .int .i64 q9.1] 112 (0, 0)) := heap_setCell_same ((z9.setCell ⟨z0.heap.size, 7, none⟩ (.int .i64 q7.1)).setCell ⟨z0.heap.size, 8, none⟩ (.int .i64 q8.1)) (z0.heap.size) 9 _ _ _ ht
      have hG' := gb_set hG (b := z0.heap.size) (by omega) 9 (.int .i64 q9.1)
      have hA' := hA.setFar (b := z0.heap.size) (by omega) (hfar.imp id fun q ad ha => by have := q ad ha; omega) 9 (.int .i64 q9.1)
      have ho' := owns_set2 ho (b := z0.heap.size) (fun j hj => by have := ho.lt j hj; have := hvl j hj; omega) 9 (.int .i64 q9.1)
      clear hC hS hc hs ht hG hA ho
      have hC := hC'
      have hS := hS'
      have hc := hc'
      have hs := hs'
      have ht := ht'
      have hG := hG'
      have hA := hA'
      have ho := ho'
      clear hC' hS' hc' hs' ht' hG' hA' ho'
      go_wp2_with fail
      clear e0 e1 e2 e3 e4 e5
      rw [rounds_succ]
      obtain ⟨t, ht0⟩ : ∃ t, Hid (t = (⟨q0.1, ⟨q1.1, q2.1, q3.1⟩, ⟨q4.1, q5.1, q6.1⟩, ⟨q7.1, q8.1, q9.1⟩⟩ : Tri3)) := ⟨_, rfl⟩
      have HT : Hid (rdTri xs (s1, false) = (t, q9.2)) := by
        show _ = _
        rw [ht0.out, hq9.out, hq8.out, hq7.out, hq6.out, hq5.out, hq4.out, hq3.out, hq2.out, hq1.out, hq0.out]
        rfl
      have e0 := cell_heap (k := 0) (v := .int .i64 q0.1) ht rfl
      have e1 := cell_heap (k := 1) (v := .int .i64 q1.1) ht rfl
      have e2 := cell_heap (k := 2) (v := .int .i64 q2.1) ht rfl
      have e3 := cell_heap (k := 3) (v := .int .i64 q3.1) ht rfl
      have e4 := cell_heap (k := 4) (v := .int .i64 q4.1) ht rfl
      have e5 := cell_heap (k := 5) (v := .int .i64 q5.1) ht rfl
      have e6 := cell_heap (k := 6) (v := .int .i64 q6.1) ht rfl
      have e7 := cell_heap (k := 7) (v := .int .i64 q7.1) ht rfl
      have e8 := cell_heap (k := 8) (v := .int .i64 q8.1) ht rfl
      have e9 := cell_heap (k := 9) (v := .int .i64 q9.1) ht rfl
      have e10 := cell_heap (k := 0) (v := v) hs rfl
      have e11 := blk_frozen (j := 0) hs
      have e12 := cell_heap (k := 1) (v := .slice none 0 0) hs rfl
      have e13 := blk_frozen (j := 1) hs
      have e14 := cell_heap (k := 2) (v := .slice none 0 0) hs rfl
      have e15 := blk_frozen (j := 2) hs
      obtain ⟨k, hk⟩ : ∃ k, N7 - j = k + 1 := ⟨N7 - j - 1, by omega⟩
      have HX : Hid (V7 = ((l ++ [t]) ++ (rdRows (rdTri xs) (N7 - (j + 1)) q9.2).1, (rdRows (rdTri xs) (N7 - (j + 1)) q9.2).2)) := by
        show _ = _
        rw [HW.out, hk, rows_cons rfl, HT.out, show N7 - (j + 1) = k by omega]
        simp
      have hsz9 : wj.heap.size ≤ z9.heap.size := by omega
      go_wp2_with (at_builtin; refine wpList_appG (((z9.setCell ⟨z0.heap.size, 7, none⟩ (.int .i64 q7.1)).setCell ⟨z0.heap.size, 8, none⟩ (.int .i64 q8.1)).setCell ⟨z0.heap.size, 9, none⟩ (.int .i64 q9.1)) rfl _ _ 67 rfl B7 112 (.agg #[.int .i64 0, .int .i64 0, .int .i64 0, .int .i64 0, .int .i64 0, .int .i64 0, .int .i64 0, .int .i64 0, .int .i64 0, .int .i64 0]) 10 80 Try.underlying67 info_tri rfl (by decide) _ _ _ (triC (⟨q0.1, ⟨q1.1, q2.1, q3.1⟩, ⟨q4.1, q5.1, q6.1⟩, ⟨q7.1, q8.1, q9.1⟩⟩ : Tri3)) _ z9.heap.size (by simp only [size_set3]) rfl (oneCells_tri _) ho rfl rfl ?_ ?_ ?_ ?_)
      · omega
      · omega
      · omega
      intro v' w' h1 h2
      have hsw := h2.grown.size
      simp only [size_set3] at hsw
      clear e0 e1 e2 e3 e4 e5 e6 e7 e8 e9 e10 e11 e12 e13 e14 e15
      have hC' := blk_app h2 hC (fun j hj => by have := (ho.lt j hj).1; omega)
      have hS' := blk_app h2 hS (fun j hj => by have := (ho.lt j hj).1; omega)
      have hc' := blk_app h2 hc (fun j hj => by have := (ho.lt j hj).1; omega)
      have hs' := blk_app h2 hs (fun j hj => by have := (ho.lt j hj).1; omega)
      have hA' := hA.grown h2.grown (fun j hj => by have := (ho.lt j hj).1; omega)
      have hG' := World.grownBy.andThen hG h2.grown (fun j hj => .inl (by have := (ho.lt j hj).1; omega))
      clear ho ht hvl
      clear hC hS hc hs hA hG
      have hC := hC'
      have hS := hS'
      have hc := hc'
      have hs := hs'
      have hA := hA'
      have hG := hG'
      clear hC' hS' hc' hs' hA' hG'
      rw [← ht0.out] at h1
      have h1f : w'.ownsRow B7 112 10 v' (j + 1) ((l ++ [t]).flatMap triC) := by simpa using h1
      obtain ⟨av, kv, rfl, _⟩ := SlR.of_owns (f := triC) (sz := 10) (fun _ => rfl) (by simp [hl]) h1f
      clear h1
      have e0 := cell_heap (k := 0) (v := v) hs rfl
      have e1 := blk_frozen (j := 0) hs
      have hC' : (w'.setCell ⟨y6.heap.size + 1, 0, none⟩ (.slice av (j + 1) kv)).heap[w.heap.size]? = some (.cells #[.int .i64 0, .int .i64 0, .int .i64 0, .int .i64 0, .int .i64 0, .int .i64 0, .int .i64 0] 32 (0, 0)) := heap_set_far hC (by omega)
      have hS' : (w'.setCell ⟨y6.heap.size + 1, 0, none⟩ (.slice av (j + 1) kv)).heap[w.heap.size + 1]? = some (.cells #[.slice none 0 0, .slice none 0 0, .slice none 0 0] 71 (0, 0)) := heap_set_far hS (by omega)
      have hc' : (w'.setCell ⟨y6.heap.size + 1, 0, none⟩ (.slice av (j + 1) kv)).heap[y6.heap.size]? = some (.cells #[.int .i64 r0.1, .int .i64 r1.1, .int .i64 r2.1, .int .i64 r3.1, .int .i64 r4.1, .int .i64 r5.1, .int .i64 r6.1] 32 (0, 0)) := heap_set_far hc (by omega)
      have hs' : (w'.setCell ⟨y6.heap.size + 1, 0, none⟩ (.slice av (j + 1) kv)).heap[y6.heap.size + 1]? = some (.cells #[.slice av (j + 1) kv, .slice none 0 0, .slice none 0 0] 71 (0, 0)) := heap_setCell_same w' (y6.heap.size + 1) 0 _ _ _ hs
      have hG' := gb_set hG (b := y6.heap.size + 1) (by omega) 0 (.slice av (j + 1) kv)
      have hA' := hA.setFar (b := y6.heap.size + 1) (by omega) (hfar.imp id fun q ad ha => by have := q ad ha; omega) 0 (.slice av (j + 1) kv)
      clear hC hS hc hs hG hA
      have hC := hC'
      have hS := hS'
      have hc := hc'
      have hs := hs'
      have hG := hG'
      have hA := hA'
      clear hC' hS' hc' hs' hG' hA'
      have h1' := owns_set2 h1f (b := y6.heap.size + 1) (fun i hi => by have := (h1f.lt i hi).1; omega) 0 (.slice av (j + 1) kv)
      go_wp2
      go_roundw
      case rel => exact ⟨j + 1, l ++ [t], q9.2, _, by go_num, by omega, by simp [hl], h1', hA, hC, hS, hc, hs, hG, by simp only [size_set3]; omega, HX⟩
      case measure => simp [intOf]; omega
    | false =>
    have hqq : N7 - j = 0 ∨ bad = true := by
      cases bad with
      | true => exact .inr rfl
      | false => left; simp at hq; omega
    have HX : Hid (V7 = (l, (s1, bad))) := by show _ = _; rw [HW.out, rows_nil hqq]; simp
    clear cf hq hqq HW hj
    obtain ⟨S7, hS7⟩ : ∃ S : RS, S = (s1, bad) := ⟨_, rfl⟩
    rw [← hS7] at hA HX
    clear hS7
    have HX7 := HX
    clear HX
    obtain ⟨L7, rfl⟩ : ∃ L, L = l := ⟨_, rfl⟩
    subst hl
    obtain ⟨a7, k7, rfl, _⟩ := SlR.of_owns (f := triC) (sz := 10) (fun _ => rfl) rfl ho
    obtain ⟨w7, rfl⟩ : ∃ W : World, W = wj := ⟨_, rfl⟩
    have p7 := ho
    have hp7 : ∀ i, Value.ownBlock (.slice a7 L7.length k7) = some i → i < w7.heap.size := fun i h => (ho.lt i h).2
    clear ho
    obtain ⟨u8, hu8⟩ : ∃ r, Hid (r = rdUp xs 16 S7) := ⟨_, rfl⟩
    have CO := UP.out 16 _ _ hA
    rw [← hu8.out] at CO
    go_wp2_with fail
    refine CO.mono ?_
    rintro e y8 ⟨rfl, hA', hg'⟩
    clear CO
    have hC' := blk_other hg' hC (by omega)
    have hS' := blk_other hg' hS (by omega)
    have hc' := blk_other hg' hc (by omega)
    have hs' := blk_other hg' hs (by omega)
    have hG' := gn_call hG hg' (by omega)
    have hzy8 := hg'.size
    try simp only [World.size_alloc, size_set3] at hzy8
    have p7' := owns_call p7 hg' (by omega)
    clear hC hS hc hs hG hA p7
    have hC := hC'
    have hS := hS'
    have hc := hc'
    have hs := hs'
    have hG := hG'
    have hA := hA'
    have p7 := p7'
    clear hC' hS' hc' hs' hG' hA' p7'
    clear hg'
    have hru8 := rdUp_range (st := S7) (m := 16) (by decide) hb
    rw [← hu8.out] at hru8
    obtain ⟨N8, hN8⟩ : ∃ k : Nat, u8.1 = (k : Int) := ⟨u8.1.toNat, by omega⟩
    rw [hN8]
    obtain ⟨V8, HV8⟩ : ∃ V, Hid (V = rdList xs 16 (rdBx xs) S7) := ⟨_, rfl⟩
    have HW0 : Hid (V8 = rdRows (rdBx xs) N8 u8.2) := by show _ = _; rw [HV8.out, rdList, ← hu8.out, hN8]; rfl
    have hN200 : N8 ≤ 200 := by omega
    obtain ⟨B8, hB8⟩ : ∃ B, B = y8.heap.size := ⟨_, rfl⟩
    have hBg : y6.heap.size + 1 < B8 := by rw [hB8]; exact (Array.getElem?_eq_some_iff.1 hs).1
    have hBle : B8 ≤ y8.heap.size := by omega
    have hBge8 : y8.heap.size ≤ B8 := by omega
    clear hru8 hN8 hB8
    go_wp2_with fail
    go_loopw [15] (fun i wr => ∃ (j : Nat) (l : List Bx) (s : RS) (v : Value), i = .int .i64 j ∧ j ≤ N8 ∧ l.length = j ∧ wr.ownsRow B8 114 8 v j (l.flatMap bxC) ∧ RdAt 135 (fun b => !b) wr (w.heap.size + 1 + 1) a n c xs s ∧ wr.heap[w.heap.size]? = some (.cells #[.int .i64 0, .int .i64 0, .int .i64 0, .int .i64 0, .int .i64 0, .int .i64 0, .int .i64 0] 32 (0, 0)) ∧ wr.heap[w.heap.size + 1]? = some (.cells #[.slice none 0 0, .slice none 0 0, .slice none 0 0] 71 (0, 0)) ∧ wr.heap[y6.heap.size]? = some (.cells #[.int .i64 r0.1, .int .i64 r1.1, .int .i64 r2.1, .int .i64 r3.1, .int .i64 r4.1, .int .i64 r5.1, .int .i64 r6.1] 32 (0, 0)) ∧ wr.heap[y6.heap.size + 1]? = some (.cells #[.slice a7 L7.length k7, v, .slice none 0 0] 71 (0, 0)) ∧ w.grownBy wr none ∧ B8 ≤ wr.heap.size ∧ wr.ownsRow B7 112 10 (.slice a7 L7.length k7) (L7.length) (L7.flatMap triC) ∧ Hid (V8 = (l ++ (rdRows (rdBx xs) (N8 - j) s).1, (rdRows (rdBx xs) (N8 - j) s).2))) (fun i _ => N8 - (intOf i).toNat)
    case atStart => exact ⟨0, [], u8.2, .slice none 0 0, rfl, Nat.zero_le _, rfl, World.ownsRow_nil _ _ _ _, hA, hC, hS, hc, hs, hG, hBle, p7, HW0.out⟩
    case round =>
    clear hA hC hS hc hs hG hBle HW0 p7
    obtain ⟨j, l, ⟨s1, bad⟩, v, rfl, hj, hl, ho, hA, hC, hS, hc, hs, hG, hBle, p7, HW⟩ := hrel
    obtain ⟨wj, rfl⟩ : ∃ wj : World, wj = wr := ⟨_, rfl⟩
    have cf := cell_heap (k := 2) (v := .bool (!bad)) hA.blk rfl
    obtain ⟨q, hq⟩ : ∃ q, q = (decide (j < N8) && !bad) := ⟨_, rfl⟩
    go_upto_region 20 with fail
    go_cut [91] from 83 to 91 (fun s53 wx => s53 = .bool q ∧ wx = wj)
    case first =>
      by_cases hlt : j < N8
      · have hI : (j : Int) < (N8 : Int) := by omega
        have hd : decide (j < N8) = true := decide_eq_true hlt
        rw [hd] at hq
        subst hq
        clear hd
        go_wp2
        go_meet
        exact ⟨by simp, rfl⟩
      · have hI : ¬ (j : Int) < (N8 : Int) := by omega
        have hd : decide (j < N8) = false := decide_eq_false hlt
        rw [hd] at hq
        subst hq
        clear hd
        go_wp2
        go_meet
        exact ⟨by simp, rfl⟩
    case rest =>
    obtain ⟨rfl, rfl⟩ := hcut
    obtain ⟨wj, rfl⟩ : ∃ wj : World, wj = wc := ⟨_, rfl⟩
    cases q with
    | true =>
      have hqq : j < N8 ∧ bad = false := by simpa using hq.symm
      obtain ⟨hlt, rfl⟩ := hqq
      have hvl : ∀ i, v.ownBlock = some i → i < wj.heap.size := fun i h => (ho.lt i h).2
      clear cf hq
      obtain ⟨q0, hq0⟩ : ∃ r, Hid (r = rdNum xs ((s1, false) : RS)) := ⟨_, rfl⟩
      have CO := N.out _ _ hA
      rw [← hq0.out] at CO
      go_wp2_with fail
      refine CO.mono ?_
      rintro e z0 ⟨rfl, hA', hg'⟩
      clear CO
      have hC' := blk_other hg' hC (by omega)
      have hS' := blk_other hg' hS (by omega)
      have hc' := blk_other hg' hc (by omega)
      have hs' := blk_other hg' hs (by omega)
      have hG' := gn_call hG hg' (by omega)
      have hzz0 := hg'.size
      try simp only [World.size_alloc, size_set3] at hzz0
      have ho' := owns_call ho hg' (by omega)
      have p7' := owns_call p7 hg' (by omega)
      clear hC hS hc hs hG hA ho p7
      have hC := hC'
      have hS := hS'
      have hc := hc'
      have hs := hs'
      have hG := hG'
      have hA := hA'
      have ho := ho'
      have p7 := p7'
      clear hC' hS' hc' hs' hG' hA' ho' p7'
      clear hg'
      obtain ⟨q1, hq1⟩ : ∃ r, Hid (r = rdNum xs q0.2) := ⟨_, rfl⟩
      have CO := N.out _ _ hA
      rw [← hq1.out] at CO
      go_wp2_with fail
      refine CO.mono ?_
      rintro e z1 ⟨rfl, hA', hg'⟩
      clear CO
      have hC' := blk_other hg' hC (by omega)
      have hS' := blk_other hg' hS (by omega)
      have hc' := blk_other hg' hc (by omega)
      have hs' := blk_other hg' hs (by omega)
      have hG' := gn_call hG hg' (by omega)
      have hzz1 := hg'.size
      try simp only [World.size_alloc, size_set3] at hzz1
      have ho' := owns_call ho hg' (by omega)
      have p7' := owns_call p7 hg' (by omega)
      clear hC hS hc hs hG hA ho p7
      have hC := hC'
      have hS := hS'
      have hc := hc'
      have hs := hs'
      have hG := hG'
      have hA := hA'
      have ho := ho'
      have p7 := p7'
      clear hC' hS' hc' hs' hG' hA' ho' p7'
      clear hg'
      obtain ⟨q2, hq2⟩ : ∃ r, Hid (r = rdNum xs q1.2) := ⟨_, rfl⟩
      have CO := N.out _ _ hA
      rw [← hq2.out] at CO
      go_wp2_with fail
      refine CO.mono ?_
      rintro e z2 ⟨rfl, hA', hg'⟩
      clear CO
      have hC' := blk_other hg' hC (by omega)
      have hS' := blk_other hg' hS (by omega)
      have hc' := blk_other hg' hc (by omega)
      have hs' := blk_other hg' hs (by omega)
      have hG' := gn_call hG hg' (by omega)
      have hzz2 := hg'.size
      try simp only [World.size_alloc, size_set3] at hzz2
      have ho' := owns_call ho hg' (by omega)
      have p7' := owns_call p7 hg' (by omega)
      clear hC hS hc hs hG hA ho p7
      have hC := hC'
      have hS := hS'
      have hc := hc'
      have hs := hs'
      have hG := hG'
      have hA := hA'
      have ho := ho'
      have p7 := p7'
      clear hC' hS' hc' hs' hG' hA' ho' p7'
      clear hg'
      obtain ⟨q3, hq3⟩ : ∃ r, Hid (r = rdNum xs q2.2) := ⟨_, rfl⟩
      have CO := N.out _ _ hA
      rw [← hq3.out] at CO
      go_wp2_with fail
      refine CO.mono ?_
      rintro e z3 ⟨rfl, hA', hg'⟩
      clear CO
      have hC' := blk_other hg' hC (by omega)
      have hS' := blk_other hg' hS (by omega)
      have hc' := blk_other hg' hc (by omega)
      have hs' := blk_other hg' hs (by omega)
      have hG' := gn_call hG hg' (by omega)
      have hzz3 := hg'.size
      try simp only [World.size_alloc, size_set3] at hzz3
      have ho' := owns_call ho hg' (by omega)
      have p7' := owns_call p7 hg' (by omega)
      clear hC hS hc hs hG hA ho p7
      have hC := hC'
      have hS := hS'
      have hc := hc'
      have hs := hs'
      have hG := hG'
      have hA := hA'
      have ho := ho'
      have p7 := p7'
      clear hC' hS' hc' hs' hG' hA' ho' p7'
      clear hg'
      obtain ⟨q4, hq4⟩ : ∃ r, Hid (r = rdNum xs q3.2) := ⟨_, rfl⟩
      have CO := N.out _ _ hA
      rw [← hq4.out] at CO
      go_wp2_with fail
      refine CO.mono ?_
      rintro e z4 ⟨rfl, hA', hg'⟩
      clear CO
      have hC' := blk_other hg' hC (by omega)
      have hS' := blk_other hg' hS (by omega)
      have hc' := blk_other hg' hc (by omega)
      have hs' := blk_other hg' hs (by omega)
      have hG' := gn_call hG hg' (by omega)
      have hzz4 := hg'.size
      try simp only [World.size_alloc, size_set3] at hzz4
      have ho' := owns_call ho hg' (by omega)
      have p7' := owns_call p7 hg' (by omega)
      clear hC hS hc hs hG hA ho p7
      have hC := hC'
      have hS := hS'
      have hc := hc'
      have hs := hs'
      have hG := hG'
      have hA := hA'
      have ho := ho'
      have p7 := p7'
      clear hC' hS' hc' hs' hG' hA' ho' p7'
      clear hg'
      have hC' := rd_past (.cells #[.int .i64 q0.1, .int .i64 q1.1, .int .i64 q2.1, .int .i64 q3.1, .int .i64 q4.1, .int .i64 0, .int .i64 0, .int .i64 0] 114) hC
      have hS' := rd_past (.cells #[.int .i64 q0.1, .int .i64 q1.1, .int .i64 q2.1, .int .i64 q3.1, .int .i64 q4.1, .int .i64 0, .int .i64 0, .int .i64 0] 114) hS
      have hc' := rd_past (.cells #[.int .i64 q0.1, .int .i64 q1.1, .int .i64 q2.1, .int .i64 q3.1, .int .i64 q4.1, .int .i64 0, .int .i64 0, .int .i64 0] 114) hc
      have hs' := rd_past (.cells #[.int .i64 q0.1, .int .i64 q1.1, .int .i64 q2.1, .int .i64 q3.1, .int .i64 q4.1, .int .i64 0, .int .i64 0, .int .i64 0] 114) hs
      have hG' := gb_alloc hG (.cells #[.int .i64 q0.1, .int .i64 q1.1, .int .i64 q2.1, .int .i64 q3.1, .int .i64 q4.1, .int .i64 0, .int .i64 0, .int .i64 0] 114)
      have hA' := hA.alloc (.cells #[.int .i64 q0.1, .int .i64 q1.1, .int .i64 q2.1, .int .i64 q3.1, .int .i64 q4.1, .int .i64 0, .int .i64 0, .int .i64 0] 114)
      have ho' := ho.alloc (.cells #[.int .i64 q0.1, .int .i64 q1.1, .int .i64 q2.1, .int .i64 q3.1, .int .i64 q4.1, .int .i64 0, .int .i64 0, .int .i64 0] 114)
      have p7' := p7.alloc (.cells #[.int .i64 q0.1, .int .i64 q1.1, .int .i64 q2.1, .int .i64 q3.1, .int .i64 q4.1, .int .i64 0, .int .i64 0, .int .i64 0] 114)
      have ht : (z4.alloc (.cells #[.int .i64 q0.1, .int .i64 q1.1, .int .i64 q2.1, .int .i64 q3.1, .int .i64 q4.1, .int .i64 0, .int .i64 0, .int .i64 0] 114)).heap[z4.heap.size]? = some (.cells #[.int .i64 q0.1, .int .i64 q1.1, .int .i64 q2.1, .int .i64 q3.1, .int .i64 q4.1, .int .i64 0, .int .i64 0, .int .i64 0] 114 (0, 0)) := rd_at _ (by simp)
      clear hC hS hc hs hG hA ho p7
      have hC := hC'
      have hS := hS'
      have hc := hc'
      have hs := hs'
      have hG := hG'
      have hA := hA'
      have ho := ho'
      have p7 := p7'
      clear hC' hS' hc' hs' hG' hA' ho' p7'
      obtain ⟨q5, hq5⟩ : ∃ r, Hid (r = rdSig xs q4.2) := ⟨_, rfl⟩
      have CO := SG.out _ _ hA
      rw [← hq5.out] at CO
      go_wp2_with fail
      refine CO.mono ?_
      rintro e z5 ⟨rfl, hA', hg'⟩
      clear CO
      have hC' := blk_other hg' hC (by omega)
      have hS' := blk_other hg' hS (by omega)
      have hc' := blk_other hg' hc (by omega)
      have hs' := blk_other hg' hs (by omega)
      have ht' := blk_other hg' ht (by omega)
      have hG' := gn_call hG hg' (by omega)
      have hzz5 := hg'.size
      try simp only [World.size_alloc, size_set3] at hzz5
      have ho' := owns_call ho hg' (by omega)
      have p7' := owns_call p7 hg' (by omega)
      clear hC hS hc hs ht hG hA ho p7
      have hC := hC'
      have hS := hS'
      have hc := hc'
      have hs := hs'
      have ht := ht'
      have hG := hG'
      have hA := hA'
      have ho := ho'
      have p7 := p7'
      clear hC' hS' hc' hs' ht' hG' hA' ho' p7'
      clear hg'
      have e0 := cell_heap (k := 5) (v := .int .i64 0) ht rfl
      have e1 := blk_frozen (j := 5) ht
      have hC' : (z5.setCell ⟨z4.heap.size, 5, none⟩ (.int .i64 q5.1)).heap[w.heap.size]? = some (.cells #[.int .i64 0, .int .i64 0, .int .i64 0, .int .i64 0, .int .i64 0, .int .i64 0, .int .i64 0] 32 (0, 0)) := heap_set_far hC (by omega)
      have hS' : (z5.setCell ⟨z4.heap.size, 5, none⟩ (.int .i64 q5.1)).heap[w.heap.size + 1]? = some (.cells #[.slice none 0 0, .slice none 0 0, .slice none 0 0] 71 (0, 0)) := heap_set_far hS (by omega)
      have hc' : (z5.setCell ⟨z4.heap.size, 5, none⟩ (.int .i64 q5.1)).heap[y6.heap.size]? = some (.cells #[.int .i64 r0.1, .int .i64 r1.1, .int .i64 r2.1, .int .i64 r3.1, .int .i64 r4.1, .int .i64 r5.1, .int .i64 r6.1] 32 (0, 0)) := heap_set_far hc (by omega)
      have hs' : (z5.setCell ⟨z4.heap.size, 5, none⟩ (.int .i64 q5.1)).heap[y6.heap.size + 1]? = some (.cells #[.slice a7 L7.length k7, v, .slice none 0 0] 71 (0, 0)) := heap_set_far hs (by omega)
      have ht' : (z5.setCell ⟨z4.heap.size, 5, none⟩ (.int .i64 q5.1)).heap[z4.heap.size]? = some (.cells #[.int .i64 q0.1, .int .i64 q1.1, .int .i64 q2.1, .int .i64 q3.1, .int .i64 q4.1, .int .i64 q5.1, .int .i64 0, .int .i64 0] 114 (0, 0)) := heap_setCell_same z5 (z4.heap.size) 5 _ _ _ ht
      have hG' := gb_set hG (b := z4.heap.size) (by omega) 5 (.int .i64 q5.1)
      have hA' := hA.setFar (b := z4.heap.size) (by omega) (hfar.imp id fun q ad ha => by have := q ad ha; omega) 5 (.int .i64 q5.1)
      have ho' := owns_set2 ho (b := z4.heap.size) (fun j hj => by have := ho.lt j hj; have := hvl j hj; omega) 5 (.int .i64 q5.1)
      have p7' := owns_set2 p7 (b := z4.heap.size) (fun j hj => by have := p7.lt j hj; have := hp7 j hj; omega) 5 (.int .i64 q5.1)
      clear hC hS hc hs ht hG hA ho p7
      have hC := hC'
      have hS := hS'
      have hc := hc'
      have hs := hs'
      have ht := ht'
      have hG := hG'
      have hA := hA'
      have ho := ho'
      have p7 := p7'
      clear hC' hS' hc' hs' ht' hG' hA' ho' p7'
      obtain ⟨q6, hq6⟩ : ∃ r, Hid (r = rdSig xs q5.2) := ⟨_, rfl⟩
      have CO := SG.out _ _ hA
      rw [← hq6.out] at CO
      go_wp2_with fail
      refine CO.mono ?_
      rintro e z6 ⟨rfl, hA', hg'⟩
      clear CO
      clear e0 e1
      have hC' := blk_other hg' hC (by omega)
      have hS' := blk_other hg' hS (by omega)
      have hc' := blk_other hg' hc (by omega)
      have hs' := blk_other hg' hs (by omega)
      have ht' := blk_other hg' ht (by omega)
      have hG' := gn_call hG hg' (by omega)
      have hzz6 := hg'.size
      try simp only [World.size_alloc, size_set3] at hzz6
      have ho' := owns_call ho hg' (by omega)
      have p7' := owns_call p7 hg' (by omega)
      clear hC hS hc hs ht hG hA ho p7
      have hC := hC'
      have hS := hS'
      have hc := hc'
      have hs := hs'
      have ht := ht'
      have hG := hG'
      have hA := hA'
      have ho := ho'
      have p7 := p7'
      clear hC' hS' hc' hs' ht' hG' hA' ho' p7'
      clear hg'
      have e0 := cell_heap (k := 6) (v := .int .i64 0) ht rfl
      have e1 := blk_frozen (j := 6) ht
      have hC' : (z6.setCell ⟨z4.heap.size, 6, none⟩ (.int .i64 q6.1)).heap[w.heap.size]? = some (.cells #[.int .i64 0, .int .i64 0, .int .i64 0, .int .i64 0, .int .i64 0, .int .i64 0, .int .i64 0] 32 (0, 0)) := heap_set_far hC (by omega)
      have hS' : (z6.setCell ⟨z4.heap.size, 6, none⟩ (.int .i64 q6.1)).heap[w.heap.size + 1]? = some (.cells #[.slice none 0 0, .slice none 0 0, .slice none 0 0] 71 (0, 0)) := heap_set_far hS (by omega)
      have hc' : (z6.setCell ⟨z4.heap.size, 6, none⟩ (.int .i64 q6.1)).heap[y6.heap.size]? = some (.cells #[.int .i64 r0.1, .int .i64 r1.1, .int .i64 r2.1, .int .i64 r3.1, .int .i64 r4.1, .int .i64 r5.1, .int .i64 r6.1] 32 (0, 0)) := heap_set_far hc (by omega)
      have hs' : (z6.setCell ⟨z4.heap.size, 6, none⟩ (.int .i64 q6.1)).heap[y6.heap.size + 1]? = some (.cells #[.slice a7 L7.length k7, v, .slice none 0 0] 71 (0, 0)) := heap_set_far hs (by omega)
      have ht' : (z6.setCell ⟨z4.heap.size, 6, none⟩ (.int .i64 q6.1)).heap[z4.heap.size]? = some (.cells #[.int .i64 q0.1, .int .i64 q1.1, .int .i64 q2.1, .int .i64 q3.1, .int .i64 q4.1, .int .i64 q5.1, .int .i64 q6.1, .int .i64 0] 114 (0, 0)) := heap_setCell_same z6 (z4.heap.size) 6 _ _ _ ht
      have hG' := gb_set hG (b := z4.heap.size) (by omega) 6 (.int .i64 q6.1)
      have hA' := hA.setFar (b := z4.heap.size) (by omega) (hfar.imp id fun q ad ha => by have := q ad ha; omega) 6 (.int .i64 q6.1)
      have ho' := owns_set2 ho (b := z4.heap.size) (fun j hj => by have := ho.lt j hj; have := hvl j hj; omega) 6 (.int .i64 q6.1)
      have p7' := owns_set2 p7 (b := z4.heap.size) (fun j hj => by have := p7.lt j hj; have := hp7 j hj; omega) 6 (.int .i64 q6.1)
      clear hC hS hc hs ht hG hA ho p7
      have hC := hC'
      have hS := hS'
      have hc := hc'
      have hs := hs'
      have ht := ht'
      have hG := hG'
      have hA := hA'
      have ho := ho'
      have p7 := p7'
      clear hC' hS' hc' hs' ht' hG' hA' ho' p7'
      obtain ⟨q7, hq7⟩ : ∃ r, Hid (r = rdNum xs q6.2) := ⟨_, rfl⟩
      have CO := N.out _ _ hA
      rw [← hq7.out] at CO
      go_wp2_with fail
      refine CO.mono ?_
      rintro e z7 ⟨rfl, hA', hg'⟩
      clear CO
      clear e0 e1
      have hC' := blk_other hg' hC (by omega)
      have hS' := blk_other hg' hS (by omega)
      have hc' := blk_other hg' hc (by omega)
      have hs' := blk_other hg' hs (by omega)
      have ht' := blk_other hg' ht (by omega)
      have hG' := gn_call hG hg' (by omega)
      have hzz7 := hg'.size
      try simp only [World.size_alloc, size_set3] at hzz7
      have ho' := owns_call ho hg' (by omega)
      have p7' := owns_call p7 hg' (by omega)
      clear hC hS hc hs ht hG hA ho p7
      have hC := hC'
      have hS := hS'
      have hc := hc'
      have hs := hs'
      have ht := ht'
      have hG := hG'
      have hA := hA'
      have ho := ho'
      have p7 := p7'
      clear hC' hS' hc' hs' ht' hG' hA' ho' p7'
      clear hg'
      have e0 := cell_heap (k := 7) (v := .int .i64 0) ht rfl
      have e1 := blk_frozen (j := 7) ht
      have hC' : (z7.setCell ⟨z4.heap.size, 7, none⟩ (.int .i64 q7.1)).heap[w.heap.size]? = some (.cells #[.int .i64 0, .int .i64 0, .int .i64 0, .int .i64 0, .int .i64 0, .int .i64 0, .int .i64 0] 32 (0, 0)) := heap_set_far hC (by omega)
      have hS' : (z7.setCell ⟨z4.heap.size, 7, none⟩ (.int .i64 q7.1)).heap[w.heap.size + 1]? = some (.cells #[.slice none 0 0, .slice none 0 0, .slice none 0 0] 71 (0, 0)) := heap_set_far hS (by omega)
      have hc' : (z7.setCell ⟨z4.heap.size, 7, none⟩ (.int .i64 q7.1)).heap[y6.heap.size]? = some (.cells #[.int .i64 r0.1, .int .i64 r1.1, .int .i64 r2.1, .int .i64 r3.1, .int .i64 r4.1, .int .i64 r5.1, .int .i64 r6.1] 32 (0, 0)) := heap_set_far hc (by omega)
      have hs' : (z7.setCell ⟨z4.heap.size, 7, none⟩ (.int .i64 q7.1)).heap[y6.heap.size + 1]? = some (.cells #[.slice a7 L7.length k7, v, .slice none 0 0] 71 (0, 0)) := heap_set_far hs (by omega)
      have ht' : (z7.setCell ⟨z4.heap.size, 7, none⟩ (.int .i64 q7.1)).heap[z4.heap.size]? = some (.cells #[.int .i64 q0.1, .int .i64 q1.1, .int .i64 q2.1, .int .i64 q3.1, .int .i64 q4.1, .int .i64 q5.1, .int .i64 q6.1, .int .i64 q7.1] 114 (0, 0)) := heap_setCell_same z7 (z4.heap.size) 7 _ _ _ ht
      have hG' := gb_set hG (b := z4.heap.size) (by omega) 7 (.int .i64 q7.1)
      have hA' := hA.setFar (b := z4.heap.size) (by omega) (hfar.imp id fun q ad ha => by have := q ad ha; omega) 7 (.int .i64 q7.1)
      have ho' := owns_set2 ho (b := z4.heap.size) (fun j hj => by have := ho.lt j hj; have := hvl j hj; omega) 7 (.int .i64 q7.1)
      have p7' := owns_set2 p7 (b := z4.heap.size) (fun j hj => by have := p7.lt j hj; have := hp7 j hj; omega) 7 (.int .i64 q7.1)
      clear hC hS hc hs ht hG hA ho p7
      have hC := hC'
      have hS := hS'
      have hc := hc'
      have hs := hs'
      have ht := ht'
      have hG := hG'
      have hA := hA'
      have ho := ho'
      have p7 := p7'
      clear hC' hS' hc' hs' ht' hG' hA' ho' p7'
      obtain ⟨t, ht0⟩ : ∃ t, Hid (t = (⟨q0.1, q1.1, q2.1, q3.1, q4.1, q5.1, q6.1, q7.1⟩ : Bx)) := ⟨_, rfl⟩
      have HT : Hid (rdBx xs (s1, false) = (t, q7.2)) := by
        show _ = _
        rw [ht0.out, hq7.out, hq6.out, hq5.out, hq4.out, hq3.out, hq2.out, hq1.out, hq0.out]
        rfl
      have e2 := cell_heap (k := 0) (v := .int .i64 q0.1) ht rfl
      have e3 := cell_heap (k := 1) (v := .int .i64 q1.1) ht rfl
      have e4 := cell_heap (k := 2) (v := .int .i64 q2.1) ht rfl
      have e5 := cell_heap (k := 3) (v := .int .i64 q3.1) ht rfl
      have e6 := cell_heap (k := 4) (v := .int .i64 q4.1) ht rfl
      have e7 := cell_heap (k := 5) (v := .int .i64 q5.1) ht rfl
      have e8 := cell_heap (k := 6) (v := .int .i64 q6.1) ht rfl
      have e9 := cell_heap (k := 7) (v := .int .i64 q7.1) ht rfl
      have e10 := cell_heap (k := 0) (v := .slice a7 L7.length k7) hs rfl
      have e11 := blk_frozen (j := 0) hs
      have e12 := cell_heap (k := 1) (v := v) hs rfl
      have e13 := blk_frozen (j := 1) hs
      have e14 := cell_heap (k := 2) (v := .slice none 0 0) hs rfl
      have e15 := blk_frozen (j := 2) hs
      obtain ⟨k, hk⟩ : ∃ k, N8 - j = k + 1 := ⟨N8 - j - 1, by omega⟩
      have HX : Hid (V8 = ((l ++ [t]) ++ (rdRows (rdBx xs) (N8 - (j + 1)) q7.2).1, (rdRows (rdBx xs) (N8 - (j + 1)) q7.2).2)) := by
        show _ = _
        rw [HW.out, hk, rows_cons rfl, HT.out, show N8 - (j + 1) = k by omega]
        simp
      have hsz9 : wj.heap.size ≤ z7.heap.size := by omega
      go_wp2_with (at_builtin; refine wpList_appG (z7.setCell ⟨z4.heap.size, 7, none⟩ (.int .i64 q7.1)) rfl _ _ 68 rfl B8 114 (.agg #[.int .i64 0, .int .i64 0, .int .i64 0, .int .i64 0, .int .i64 0, .int .i64 0, .int .i64 0, .int .i64 0]) 8 64 Try.underlying68 info_box rfl (by decide) _ _ _ (bxC (⟨q0.1, q1.1, q2.1, q3.1, q4.1, q5.1, q6.1, q7.1⟩ : Bx)) _ z7.heap.size (by simp only [size_set3]) rfl (oneCells_box _) ho rfl rfl ?_ ?_ ?_ ?_)
      · omega
      · omega
      · omega
      intro v' w' h1 h2
      have hsw := h2.grown.size
      simp only [size_set3] at hsw
      clear e0 e1 e2 e3 e4 e5 e6 e7 e8 e9 e10 e11 e12 e13 e14 e15
      have hC' := blk_app h2 hC (fun j hj => by have := (ho.lt j hj).1; omega)
      have hS' := blk_app h2 hS (fun j hj => by have := (ho.lt j hj).1; omega)
      have hc' := blk_app h2 hc (fun j hj => by have := (ho.lt j hj).1; omega)
      have hs' := blk_app h2 hs (fun j hj => by have := (ho.lt j hj).1; omega)
      have hA' := hA.grown h2.grown (fun j hj => by have := (ho.lt j hj).1; omega)
      have hG' := World.grownBy.andThen hG h2.grown (fun j hj => .inl (by have := (ho.lt j hj).1; omega))
      have p7' := owns_app h2 p7 (fun i j hi hj => by have := hp7 i hi; have := (ho.lt j hj).1; omega)
      clear ho ht hvl
      clear hC hS hc hs hA hG p7
      have hC := hC'
      have hS := hS'
      have hc := hc'
      have hs := hs'
      have hA := hA'
      have hG := hG'
      have p7 := p7'
      clear hC' hS' hc' hs' hA' hG' p7'
      rw [← ht0.out] at h1
      have h1f : w'.ownsRow B8 114 8 v' (j + 1) ((l ++ [t]).flatMap bxC) := by simpa using h1
      obtain ⟨av, kv, rfl, _⟩ := SlR.of_owns (f := bxC) (sz := 8) (fun _ => rfl) (by simp [hl]) h1f
      clear h1
      have e0 := cell_heap (k := 1) (v := v) hs rfl
      have e1 := blk_frozen (j := 1) hs
      have hC' : (w'.setCell ⟨y6.heap.size + 1, 1, none⟩ (.slice av (j + 1) kv)).heap[w.heap.size]? = some (.cells #[.int .i64 0, .int .i64 0, .int .i64 0, .int .i64 0, .int .i64 0, .int .i64 0, .int .i64 0] 32 (0, 0)) := heap_set_far hC (by omega)
      have hS' : (w'.setCell ⟨y6.heap.size + 1, 1, none⟩ (.slice av (j + 1) kv)).heap[w.heap.size + 1]? = some (.cells #[.slice none 0 0, .slice none 0 0, .slice none 0 0] 71 (0, 0)) := heap_set_far hS (by omega)
      have hc' : (w'.setCell ⟨y6.heap.size + 1, 1, none⟩ (.slice av (j + 1) kv)).heap[y6.heap.size]? = some (.cells #[.int .i64 r0.1, .int .i64 r1.1, .int .i64 r2.1, .int .i64 r3.1, .int .i64 r4.1, .int .i64 r5.1, .int .i64 r6.1] 32 (0, 0)) := heap_set_far hc (by omega)
      have hs' : (w'.setCell ⟨y6.heap.size + 1, 1, none⟩ (.slice av (j + 1) kv)).heap[y6.heap.size + 1]? = some (.cells #[.slice a7 L7.length k7, .slice av (j + 1) kv, .slice none 0 0] 71 (0, 0)) := heap_setCell_same w' (y6.heap.size + 1) 1 _ _ _ hs
      have hG' := gb_set hG (b := y6.heap.size + 1) (by omega) 1 (.slice av (j + 1) kv)
      have hA' := hA.setFar (b := y6.heap.size + 1) (by omega) (hfar.imp id fun q ad ha => by have := q ad ha; omega) 1 (.slice av (j + 1) kv)
      have p7' := owns_set2 p7 (b := y6.heap.size + 1) (fun j hj => by have := p7.lt j hj; have := hp7 j hj; omega) 1 (.slice av (j + 1) kv)
      clear hC hS hc hs hG hA p7
      have hC := hC'
      have hS := hS'
      have hc := hc'
      have hs := hs'
      have hG := hG'
      have hA := hA'
      have p7 := p7'
      clear hC' hS' hc' hs' hG' hA' p7'
      have h1' := owns_set2 h1f (b := y6.heap.size + 1) (fun i hi => by have := (h1f.lt i hi).1; omega) 1 (.slice av (j + 1) kv)
      go_wp2
      go_roundw
      case rel => exact ⟨j + 1, l ++ [t], q7.2, _, by go_num, by omega, by simp [hl], h1', hA, hC, hS, hc, hs, hG, by simp only [size_set3]; omega, p7, HX⟩
      case measure => simp [intOf]; omega
    | false =>
    have hqq : N8 - j = 0 ∨ bad = true := by
      cases bad with
      | true => exact .inr rfl
      | false => left; simp at hq; omega
    have HX : Hid (V8 = (l, (s1, bad))) := by show _ = _; rw [HW.out, rows_nil hqq]; simp
    clear cf hq hqq HW hj
    obtain ⟨S8, hS8⟩ : ∃ S : RS, S = (s1, bad) := ⟨_, rfl⟩
    rw [← hS8] at hA HX
    clear hS8
    have HX8 := HX
    clear HX
    obtain ⟨L8, rfl⟩ : ∃ L, L = l := ⟨_, rfl⟩
    subst hl
    obtain ⟨a8, k8, rfl, _⟩ := SlR.of_owns (f := bxC) (sz := 8) (fun _ => rfl) rfl ho
    obtain ⟨w8, rfl⟩ : ∃ W : World, W = wj := ⟨_, rfl⟩
    have p8 := ho
    have hp8 : ∀ i, Value.ownBlock (.slice a8 L8.length k8) = some i → i < w8.heap.size := fun i h => (ho.lt i h).2
    clear ho
    obtain ⟨u9, hu9⟩ : ∃ r, Hid (r = rdUp xs 16 S8) := ⟨_, rfl⟩
    have CO := UP.out 16 _ _ hA
    rw [← hu9.out] at CO
    go_wp2_with fail
    refine CO.mono ?_
    rintro e y9 ⟨rfl, hA', hg'⟩
    clear CO
    have hC' := blk_other hg' hC (by omega)
    have hS' := blk_other hg' hS (by omega)
    have hc' := blk_other hg' hc (by omega)
    have hs' := blk_other hg' hs (by omega)
    have hG' := gn_call hG hg' (by omega)
    have hzy9 := hg'.size
    try simp only [World.size_alloc, size_set3] at hzy9
    have p7' := owns_call p7 hg' (by omega)
    have p8' := owns_call p8 hg' (by omega)
    clear hC hS hc hs hG hA p7 p8
    have hC := hC'
    have hS := hS'
    have hc := hc'
    have hs := hs'
    have hG := hG'
    have hA := hA'
    have p7 := p7'
    have p8 := p8'
    clear hC' hS' hc' hs' hG' hA' p7' p8'
    clear hg'
    have hru9 := rdUp_range (st := S8) (m := 16) (by decide) hb
    rw [← hu9.out] at hru9
    obtain ⟨N9, hN9⟩ : ∃ k : Nat, u9.1 = (k : Int) := ⟨u9.1.toNat, by omega⟩
    rw [hN9]
    obtain ⟨V9, HV9⟩ : ∃ V, Hid (V = rdList xs 16 (rdHp xs) S8) := ⟨_, rfl⟩
    have HW0 : Hid (V9 = rdRows (rdHp xs) N9 u9.2) := by show _ = _; rw [HV9.out, rdList, ← hu9.out, hN9]; rfl
    have hN200 : N9 ≤ 200 := by omega
    obtain ⟨B9, hB9⟩ : ∃ B, B = y9.heap.size := ⟨_, rfl⟩
    have hBg : y6.heap.size + 1 < B9 := by rw [hB9]; exact (Array.getElem?_eq_some_iff.1 hs).1
    have hBle : B9 ≤ y9.heap.size := by omega
    have hBge9 : y9.heap.size ≤ B9 := by omega
    clear hru9 hN9 hB9
    go_wp2_with fail
    go_loopw [17] (fun i wr => ∃ (j : Nat) (l : List Hp) (s : RS) (v : Value), i = .int .i64 j ∧ j ≤ N9 ∧ l.length = j ∧ wr.ownsRow B9 118 10 v j (l.flatMap hpC) ∧ RdAt 135 (fun b => !b) wr (w.heap.size + 1 + 1) a n c xs s ∧ wr.heap[w.heap.size]? = some (.cells #[.int .i64 0, .int .i64 0, .int .i64 0, .int .i64 0, .int .i64 0, .int .i64 0, .int .i64 0] 32 (0, 0)) ∧ wr.heap[w.heap.size + 1]? = some (.cells #[.slice none 0 0, .slice none 0 0, .slice none 0 0] 71 (0, 0)) ∧ wr.heap[y6.heap.size]? = some (.cells #[.int .i64 r0.1, .int .i64 r1.1, .int .i64 r2.1, .int .i64 r3.1, .int .i64 r4.1, .int .i64 r5.1, .int .i64 r6.1] 32 (0, 0)) ∧ wr.heap[y6.heap.size + 1]? = some (.cells #[.slice a7 L7.length k7, .slice a8 L8.length k8, v] 71 (0, 0)) ∧ w.grownBy wr none ∧ B9 ≤ wr.heap.size ∧ wr.ownsRow B7 112 10 (.slice a7 L7.length k7) (L7.length) (L7.flatMap triC) ∧ wr.ownsRow B8 114 8 (.slice a8 L8.length k8) (L8.length) (L8.flatMap bxC) ∧ Hid (V9 = (l ++ (rdRows (rdHp xs) (N9 - j) s).1, (rdRows (rdHp xs) (N9 - j) s).2))) (fun i _ => N9 - (intOf i).toNat)
    case atStart => exact ⟨0, [], u9.2, .slice none 0 0, rfl, Nat.zero_le _, rfl, World.ownsRow_nil _ _ _ _, hA, hC, hS, hc, hs, hG, hBle, p7, p8, HW0.out⟩
    case round =>
    clear hA hC hS hc hs hG hBle HW0 p7 p8
    obtain ⟨j, l, ⟨s1, bad⟩, v, rfl, hj, hl, ho, hA, hC, hS, hc, hs, hG, hBle, p7, p8, HW⟩ := hrel
    obtain ⟨wj, rfl⟩ : ∃ wj : World, wj = wr := ⟨_, rfl⟩
    have cf := cell_heap (k := 2) (v := .bool (!bad)) hA.blk rfl
    obtain ⟨q, hq⟩ : ∃ q, q = (decide (j < N9) && !bad) := ⟨_, rfl⟩
    go_upto_region 29 with fail
    go_cut [130] from 122 to 130 (fun s53 wx => s53 = .bool q ∧ wx = wj)
    case first =>
      by_cases hlt : j < N9
      · have hI : (j : Int) < (N9 : Int) := by omega
        have hd : decide (j < N9) = true := decide_eq_true hlt
        rw [hd] at hq
        subst hq
        clear hd
        go_wp2
        go_meet
        exact ⟨by simp, rfl⟩
      · have hI : ¬ (j : Int) < (N9 : Int) := by omega
        have hd : decide (j < N9) = false := decide_eq_false hlt
        rw [hd] at hq
        subst hq
        clear hd
        go_wp2
        go_meet
        exact ⟨by simp, rfl⟩
    case rest =>
    obtain ⟨rfl, rfl⟩ := hcut
    obtain ⟨wj, rfl⟩ : ∃ wj : World, wj = wc := ⟨_, rfl⟩
    cases q with
    | true =>
      have hqq : j < N9 ∧ bad = false := by simpa using hq.symm
      obtain ⟨hlt, rfl⟩ := hqq
      have hvl : ∀ i, v.ownBlock = some i → i < wj.heap.size := fun i h => (ho.lt i h).2
      clear cf hq
      obtain ⟨q0, hq0⟩ : ∃ r, Hid (r = rdNum xs ((s1, false) : RS)) := ⟨_, rfl⟩
      have CO := N.out _ _ hA
      rw [← hq0.out] at CO
      go_wp2_with fail
      refine CO.mono ?_
      rintro e z0 ⟨rfl, hA', hg'⟩
      clear CO
      have hC' := blk_other hg' hC (by omega)
      have hS' := blk_other hg' hS (by omega)
      have hc' := blk_other hg' hc (by omega)
      have hs' := blk_other hg' hs (by omega)
      have hG' := gn_call hG hg' (by omega)
      have hzz0 := hg'.size
      try simp only [World.size_alloc, size_set3] at hzz0
      have ho' := owns_call ho hg' (by omega)
      have p7' := owns_call p7 hg' (by omega)
      have p8' := owns_call p8 hg' (by omega)
      clear hC hS hc hs hG hA ho p7 p8
      have hC := hC'
      have hS := hS'
      have hc := hc'
      have hs := hs'
      have hG := hG'
      have hA := hA'
      have ho := ho'
      have p7 := p7'
      have p8 := p8'
      clear hC' hS' hc' hs' hG' hA' ho' p7' p8'
      clear hg'
      have hC' := rd_past (.cells #[.int .i64 q0.1, .int .i64 0, .int .i64 0, .int .i64 0, .int .i64 0, .int .i64 0, .int .i64 0, .bool false, .int .i64 0, .int .i64 0] 118) hC
      have hS' := rd_past (.cells #[.int .i64 q0.1, .int .i64 0, .int .i64 0, .int .i64 0, .int .i64 0, .int .i64 0, .int .i64 0, .bool false, .int .i64 0, .int .i64 0] 118) hS
      have hc' := rd_past (.cells #[.int .i64 q0.1, .int .i64 0, .int .i64 0, .int .i64 0, .int .i64 0, .int .i64 0, .int .i64 0, .bool false, .int .i64 0, .int .i64 0] 118) hc
      have hs' := rd_past (.cells #[.int .i64 q0.1, .int .i64 0, .int .i64 0, .int .i64 0, .int .i64 0, .int .i64 0, .int .i64 0, .bool false, .int .i64 0, .int .i64 0] 118) hs
      have hG' := gb_alloc hG (.cells #[.int .i64 q0.1, .int .i64 0, .int .i64 0, .int .i64 0, .int .i64 0, .int .i64 0, .int .i64 0, .bool false, .int .i64 0, .int .i64 0] 118)
      have hA' := hA.alloc (.cells #[.int .i64 q0.1, .int .i64 0, .int .i64 0, .int .i64 0, .int .i64 0, .int .i64 0, .int .i64 0, .bool false, .int .i64 0, .int .i64 0] 118)
      have ho' := ho.alloc (.cells #[.int .i64 q0.1, .int .i64 0, .int .i64 0, .int .i64 0, .int .i64 0, .int .i64 0, .int .i64 0, .bool false, .int .i64 0, .int .i64 0] 118)
      have p7' := p7.alloc (.cells #[.int .i64 q0.1, .int .i64 0, .int .i64 0, .int .i64 0, .int .i64 0, .int .i64 0, .int .i64 0, .bool false, .int .i64 0, .int .i64 0] 118)
      have p8' := p8.alloc (.cells #[.int .i64 q0.1, .int .i64 0, .int .i64 0, .int .i64 0, .int .i64 0, .int .i64 0, .int .i64 0, .bool false, .int .i64 0, .int .i64 0] 118)
      have ht : (z0.alloc (.cells #[.int .i64 q0.1, .int .i64 0, .int .i64 0, .int .i64 0, .int .i64 0, .int .i64 0, .int .i64 0, .bool false, .int .i64 0, .int .i64 0] 118)).heap[z0.heap.size]? = some (.cells #[.int .i64 q0.1, .int .i64 0, .int .i64 0, .int .i64 0, .int .i64 0, .int .i64 0, .int .i64 0, .bool false, .int .i64 0, .int .i64 0] 118 (0, 0)) := rd_at _ (by simp)
      clear hC hS hc hs hG hA ho p7 p8
      have hC := hC'
      have hS := hS'
      have hc := hc'
      have hs := hs'
      have hG := hG'
      have hA := hA'
      have ho := ho'
      have p7 := p7'
      have p8 := p8'
      clear hC' hS' hc' hs' hG' hA' ho' p7' p8'
      obtain ⟨q1, hq1⟩ : ∃ r, Hid (r = rdSpt xs q0.2) := ⟨_, rfl⟩
      have CO := SP.out _ _ hA
      rw [← hq1.out] at CO
      go_wp2_with fail
      refine CO.mono ?_
      rintro e z1 ⟨rfl, hA', hg'⟩
      clear CO
      have hC' := blk_other hg' hC (by omega)
      have hS' := blk_other hg' hS (by omega)
      have hc' := blk_other hg' hc (by omega)
      have hs' := blk_other hg' hs (by omega)
      have ht' := blk_other hg' ht (by omega)
      have hG' := gn_call hG hg' (by omega)
      have hzz1 := hg'.size
      try simp only [World.size_alloc, size_set3] at hzz1
      have ho' := owns_call ho hg' (by omega)
      have p7' := owns_call p7 hg' (by omega)
      have p8' := owns_call p8 hg' (by omega)
      clear hC hS hc hs ht hG hA ho p7 p8
      have hC := hC'
      have hS := hS'
      have hc := hc'
      have hs := hs'
      have ht := ht'
      have hG := hG'
      have hA := hA'
      have ho := ho'
      have p7 := p7'
      have p8 := p8'
      clear hC' hS' hc' hs' ht' hG' hA' ho' p7' p8'
      clear hg'
      have e0 := cell_heap (k := 1) (v := .int .i64 0) ht rfl
      have e1 := blk_frozen (j := 1) ht
      have hC' : (z1.setCell ⟨z0.heap.size, 1, none⟩ (.int .i64 q1.1.x)).heap[w.heap.size]? = some (.cells #[.int .i64 0, .int .i64 0, .int .i64 0, .int .i64 0, .int .i64 0, .int .i64 0, .int .i64 0] 32 (0, 0)) := heap_set_far hC (by omega)
      have hS' : (z1.setCell ⟨z0.heap.size, 1, none⟩ (.int .i64 q1.1.x)).heap[w.heap.size + 1]? = some (.cells #[.slice none 0 0, .slice none 0 0, .slice none 0 0] 71 (0, 0)) := heap_set_far hS (by omega)
      have hc' : (z1.setCell ⟨z0.heap.size, 1, none⟩ (.int .i64 q1.1.x)).heap[y6.heap.size]? = some (.cells #[.int .i64 r0.1, .int .i64 r1.1, .int .i64 r2.1, .int .i64 r3.1, .int .i64 r4.1, .int .i64 r5.1, .int .i64 r6.1] 32 (0, 0)) := heap_set_far hc (by omega)
      have hs' : (z1.setCell ⟨z0.heap.size, 1, none⟩ (.int .i64 q1.1.x)).heap[y6.heap.size + 1]? = some (.cells #[.slice a7 L7.length k7, .slice a8 L8.length k8, v] 71 (0, 0)) := heap_set_far hs (by omega)
      have ht' : (z1.setCell ⟨z0.heap.size, 1, none⟩ (.int .i64 q1.1.x)).heap[z0.heap.size]? = some (.cells #[.int .i64 q0.1, .int .i64 q1.1.x, .int .i64 0, .int .i64 0, .int .i64 0, .int .i64 0, .int .i64 0, .bool false, .int .i64 0, .int .i64 0] 118 (0, 0)) := heap_setCell_same z1 (z0.heap.size) 1 _ _ _ ht
      have hG' := gb_set hG (b := z0.heap.size) (by omega) 1 (.int .i64 q1.1.x)
      have hA' := hA.setFar (b := z0.heap.size) (by omega) (hfar.imp id fun q ad ha => by have := q ad ha; omega) 1 (.int .i64 q1.1.x)
      have ho' := owns_set2 ho (b := z0.heap.size) (fun j hj => by have := ho.lt j hj; have := hvl j hj; omega) 1 (.int .i64 q1.1.x)
      have p7' := owns_set2 p7 (b := z0.heap.size) (fun j hj => by have := p7.lt j hj; have := hp7 j hj; omega) 1 (.int .i64 q1.1.x)
      have p8' := owns_set2 p8 (b := z0.heap.size) (fun j hj => by have := p8.lt j hj; have := hp8 j hj; omega) 1 (.int .i64 q1.1.x)
      clear hC hS hc hs ht hG hA ho p7 p8
      have hC := hC'
      have hS := hS'
      have hc := hc'
      have hs := hs'
      have ht := ht'
      have hG := hG'
      have hA := hA'
      have ho := ho'
      have p7 := p7'
      have p8 := p8'
      clear hC' hS' hc' hs' ht' hG' hA' ho' p7' p8'
      have e2 := cell_heap (k := 2) (v := .int .i64 0) ht rfl
      have e3 := blk_frozen (j := 2) ht
      have hC' : ((z1.setCell ⟨z0.heap.size, 1, none⟩ (.int .i64 q1.1.x)).setCell ⟨z0.heap.size, 2, none⟩ (.int .i64 q1.1.z)).heap[w.heap.size]? = some (.cells #[.int .i64 0, .int .i64 0, .int .i64 0, .int .i64 0, .int .i64 0, .int .i64 0, .int .i64 0] 32 (0, 0)) := heap_set_far hC (by omega)
      have hS' : ((z1.setCell ⟨z0.heap.size, 1, none⟩ (.int .i64 q1.1.x)).setCell ⟨z0.heap.size, 2, none⟩ (.int .i64 q1.1.z)).heap[w.heap.size + 1]? = some (.cells #[.slice none 0 0, .slice none 0 0, .slice none 0 0] 71 (0, 0)) := heap_set_far hS (by omega)
      have hc' : ((z1.setCell ⟨z0.heap.size, 1, none⟩ (.int .i64 q1.1.x)).setCell ⟨z0.heap.size, 2, none⟩ (.int .i64 q1.1.z)).heap[y6.heap.size]? = some (.cells #[.int .i64 r0.1, .int .i64 r1.1, .int .i64 r2.1, .int .i64 r3.1, .int .i64 r4.1, .int .i64 r5.1, .int .i64 r6.1] 32 (0, 0)) := heap_set_far hc (by omega)
      have hs' : ((z1.setCell ⟨z0.heap.size, 1, none⟩ (.int .i64 q1.1.x)).setCell ⟨z0.heap.size, 2, none⟩ (.int .i64 q1.1.z)).heap[y6.heap.size + 1]? = some (.cells #[.slice a7 L7.length k7, .slice a8 L8.length k8, v] 71 (0, 0)) := heap_set_far hs (by omega)
      have ht' : ((z1.setCell ⟨z0.heap.size, 1, none⟩ (.int .i64 q1.1.x)).setCell ⟨z0.heap.size, 2, none⟩ (.int .i64 q1.1.z)).heap[z0.heap.size]? = some (.cells #[.int .i64 q0.1, .int .i64 q1.1.x, .int .i64 q1.1.z, .int .i64 0, .int .i64 0, .int .i64 0, .int .i64 0, .bool false, .int .i64 0, .int .i64 0] 118 (0, 0)) := heap_setCell_same (z1.setCell ⟨z0.heap.size, 1, none⟩ (.int .i64 q1.1.x)) (z0.heap.size) 2 _ _ _ ht
      have hG' := gb_set hG (b := z0.heap.size) (by omega) 2 (.int .i64 q1.1.z)
      have hA' := hA.setFar (b := z0.heap.size) (by omega) (hfar.imp id fun q ad ha => by have := q ad ha; omega) 2 (.int .i64 q1.1.z)
      have ho' := owns_set2 ho (b := z0.heap.size) (fun j hj => by have := ho.lt j hj; have := hvl j hj; omega) 2 (.int .i64 q1.1.z)
      have p7' := owns_set2 p7 (b := z0.heap.size) (fun j hj => by have := p7.lt j hj; have := hp7 j hj; omega) 2 (.int .i64 q1.1.z)
      have p8' := owns_set2 p8 (b := z0.heap.size) (fun j hj => by have := p8.lt j hj; have := hp8 j hj; omega) 2 (.int .i64 q1.1.z)
      clear hC hS hc hs ht hG hA ho p7 p8
      have hC := hC'
      have hS := hS'
      have hc := hc'
      have hs := hs'
      have ht := ht'
      have hG := hG'
      have hA := hA'
      have ho := ho'
      have p7 := p7'
      have p8 := p8'
      clear hC' hS' hc' hs' ht' hG' hA' ho' p7' p8'
      have e4 := cell_heap (k := 3) (v := .int .i64 0) ht rfl
      have e5 := blk_frozen (j := 3) ht
      have hC' : (((z1.setCell ⟨z0.heap.size, 1, none⟩ (.int .i64 q1.1.x)).setCell ⟨z0.heap.size, 2, none⟩ (.int .i64 q1.1.z)).setCell ⟨z0.heap.size, 3, none⟩ (.int .i64 q1.1.y)).heap[w.heap.size]? = some (.cells #[.int .i64 0, .int .i64 0, .int .i64 0, .int .i64 0, .int .i64 0, .int .i64 0, .int .i64 0] 32 (0, 0)) := heap_set_far hC (by omega)
      have hS' : (((z1.setCell ⟨z0.heap.size, 1, none⟩ (.int .i64 q1.1.x)).setCell ⟨z0.heap.size, 2, none⟩ (.int .i64 q1.1.z)).setCell ⟨z0.heap.size, 3, none⟩ (.int .i64 q1.1.y)).heap[w.heap.size + 1]? = some (.cells #[.slice none 0 0, .slice none 0 0, .slice none 0 0] 71 (0, 0)) := heap_set_far hS (by omega)
      have hc' : (((z1.setCell ⟨z0.heap.size, 1, none⟩ (.int .i64 q1.1.x)).setCell ⟨z0.heap.size, 2, none⟩ (.int .i64 q1.1.z)).setCell ⟨z0.heap.size, 3, none⟩ (.int .i64 q1.1.y)).heap[y6.heap.size]? = some (.cells #[.int .i64 r0.1, .int .i64 r1.1, .int .i64 r2.1, .int .i64 r3.1, .int .i64 r4.1, .int .i64 r5.1, .int .i64 r6.1] 32 (0, 0)) := heap_set_far hc (by omega)
      have hs' : (((z1.setCell ⟨z0.heap.size, 1, none⟩ (.int .i64 q1.1.x)).setCell ⟨z0.heap.size, 2, none⟩ (.int .i64 q1.1.z)).setCell ⟨z0.heap.size, 3, none⟩ (.int .i64 q1.1.y)).heap[y6.heap.size + 1]? = some (.cells #[.slice a7 L7.length k7, .slice a8 L8.length k8, v] 71 (0, 0)) := heap_set_far hs (by omega)
      have ht' : (((z1.setCell ⟨z0.heap.size, 1, none⟩ (.int .i64 q1.1.x)).setCell ⟨z0.heap.size, 2, none⟩ (.int .i64 q1.1.z)).setCell ⟨z0.heap.size, 3, none⟩ (.int .i64 q1.1.y)).heap[z0.heap.size]? = some (.cells #[.int .i64 q0.1, .int .i64 q1.1.x, .int .i64 q1.1.z, .int .i64 q1.1.y, .int .i64 0, .int .i64 0, .int .i64 0, .bool false, .int .i64 0, .int .i64 0] 118 (0, 0)) := heap_setCell_same ((z1.setCell ⟨z0.heap.size, 1, none⟩ (.int .i64 q1.1.x)).setCell ⟨z0.heap.size, 2, none⟩ (.int .i64 q1.1.z)) (z0.heap.size) 3 _ _ _ ht
      have hG' := gb_set hG (b := z0.heap.size) (by omega) 3 (.int .i64 q1.1.y)
      have hA' := hA.setFar (b := z0.heap.size) (by omega) (hfar.imp id fun q ad ha => by have := q ad ha; omega) 3 (.int .i64 q1.1.y)
      have ho' := owns_set2 ho (b := z0.heap.size) (fun j hj => by have := ho.lt j hj; have := hvl j hj; omega) 3 (.int .i64 q1.1.y)
      have p7' := owns_set2 p7 (b := z0.heap.size) (fun j hj => by have := p7.lt j hj; have := hp7 j hj; omega) 3 (.int .i64 q1.1.y)
      have p8' := owns_set2 p8 (b := z0.heap.size) (fun j hj => by have := p8.lt j hj; have := hp8 j hj; omega) 3 (.int .i64 q1.1.y)
      clear hC hS hc hs ht hG hA ho p7 p8
      have hC := hC'
      have hS := hS'
      have hc := hc'
      have hs := hs'
      have ht := ht'
      have hG := hG'
      have hA := hA'
      have ho := ho'
      have p7 := p7'
      have p8 := p8'
      clear hC' hS' hc' hs' ht' hG' hA' ho' p7' p8'
      obtain ⟨q2, hq2⟩ : ∃ r, Hid (r = rdSpt xs q1.2) := ⟨_, rfl⟩
      have CO := SP.out _ _ hA
      rw [← hq2.out] at CO
      go_wp2_with fail
      refine CO.mono ?_
      rintro e z2 ⟨rfl, hA', hg'⟩
      clear CO
      clear e0 e1 e2 e3 e4 e5
      have hC' := blk_other hg' hC (by omega)
      have hS' := blk_other hg' hS (by omega)
      have hc' := blk_other hg' hc (by omega)
      have hs' := blk_other hg' hs (by omega)
      have ht' := blk_other hg' ht (by omega)
      have hG' := gn_call hG hg' (by omega)
      have hzz2 := hg'.size
      try simp only [World.size_alloc, size_set3] at hzz2
      have ho' := owns_call ho hg' (by omega)
      have p7' := owns_call p7 hg' (by omega)
      have p8' := owns_call p8 hg' (by omega)
      clear hC hS hc hs ht hG hA ho p7 p8
      have hC := hC'
      have hS := hS'
      have hc := hc'
      have hs := hs'
      have ht := ht'
      have hG := hG'
      have hA := hA'
      have ho := ho'
      have p7 := p7'
      have p8 := p8'
      clear hC' hS' hc' hs' ht' hG' hA' ho' p7' p8'
      clear hg'
      have e0 := cell_heap (k := 4) (v := .int .i64 0) ht rfl
      have e1 := blk_frozen (j := 4) ht
      have hC' : (z2.setCell ⟨z0.heap.size, 4, none⟩ (.int .i64 q2.1.x)).heap[w.heap.size]? = some (.cells #[.int .i64 0, .int .i64 0, .int .i64 0, .int .i64 0, .int .i64 0, .int .i64 0, .int .i64 0] 32 (0, 0)) := heap_set_far hC (by omega)
      have hS' : (z2.setCell ⟨z0.heap.size, 4, none⟩ (.int .i64 q2.1.x)).heap[w.heap.size + 1]? = some (.cells #[.slice none 0 0, .slice none 0 0, .slice none 0 0] 71 (0, 0)) := heap_set_far hS (by omega)
      have hc' : (z2.setCell ⟨z0.heap.size, 4, none⟩ (.int .i64 q2.1.x)).heap[y6.heap.size]? = some (.cells #[.int .i64 r0.1, .int .i64 r1.1, .int .i64 r2.1, .int .i64 r3.1, .int .i64 r4.1, .int .i64 r5.1, .int .i64 r6.1] 32 (0, 0)) := heap_set_far hc (by omega)
      have hs' : (z2.setCell ⟨z0.heap.size, 4, none⟩ (.int .i64 q2.1.x)).heap[y6.heap.size + 1]? = some (.cells #[.slice a7 L7.length k7, .slice a8 L8.length k8, v] 71 (0, 0)) := heap_set_far hs (by omega)
      have ht' : (z2.setCell ⟨z0.heap.size, 4, none⟩ (.int .i64 q2.1.x)).heap[z0.heap.size]? = some (.cells #[.int .i64 q0.1, .int .i64 q1.1.x, .int .i64 q1.1.z, .int .i64 q1.1.y, .int .i64 q2.1.x, .int .i64 0, .int .i64 0, .bool false, .int .i64 0, .int .i64 0] 118 (0, 0)) := heap_setCell_same z2 (z0.heap.size) 4 _ _ _ ht
      have hG' := gb_set hG (b := z0.heap.size) (by omega) 4 (.int .i64 q2.1.x)
      have hA' := hA.setFar (b := z0.heap.size) (by omega) (hfar.imp id fun q ad ha => by have := q ad ha; omega) 4 (.int .i64 q2.1.x)
      have ho' := owns_set2 ho (b := z0.heap.size) (fun j hj => by have := ho.lt j hj; have := hvl j hj; omega) 4 (.int .i64 q2.1.x)
      have p7' := owns_set2 p7 (b := z0.heap.size) (fun j hj => by have := p7.lt j hj; have := hp7 j hj; omega) 4 (.int .i64 q2.1.x)
      have p8' := owns_set2 p8 (b := z0.heap.size) (fun j hj => by have := p8.lt j hj; have := hp8 j hj; omega) 4 (.int .i64 q2.1.x)
      clear hC hS hc hs ht hG hA ho p7 p8
      have hC := hC'
      have hS := hS'
      have hc := hc'
      have hs := hs'
      have ht := ht'
      have hG := hG'
      have hA := hA'
      have ho := ho'
      have p7 := p7'
      have p8 := p8'
      clear hC' hS' hc' hs' ht' hG' hA' ho' p7' p8'
      have e2 := cell_heap (k := 5) (v := .int .i64 0) ht rfl
      have e3 := blk_frozen (j := 5) ht
      have hC' : ((z2.setCell ⟨z0.heap.size, 4, none⟩ (.int .i64 q2.1.x)).setCell ⟨z0.heap.size, 5, none⟩ (.int .i64 q2.1.z)).heap[w.heap.size]? = some (.cells #[.int .i64 0, .int .i64 0, .int .i64 0, .int .i64 0, .int .i64 0, .int .i64 0, .int .i64 0] 32 (0, 0)) := heap_set_far hC (by omega)
      have hS' : ((z2.setCell ⟨z0.heap.size, 4, none⟩ (.int .i64 q2.1.x)).setCell ⟨z0.heap.size, 5, none⟩ (.int .i64 q2.1.z)).heap[w.heap.size + 1]? = some (.cells #[.slice none 0 0, .slice none 0 0, .slice none 0 0] 71 (0, 0)) := heap_set_far hS (by omega)
      have hc' : ((z2.setCell ⟨z0.heap.size, 4, none⟩ (.int .i64 q2.1.x)).setCell ⟨z0.heap.size, 5, none⟩ (.int .i64 q2.1.z)).heap[y6.heap.size]? = some (.cells #[.int .i64 r0.1, .int .i64 r1.1, .int .i64 r2.1, .int .i64 r3.1, .int .i64 r4.1, .int .i64 r5.1, .int .i64 r6.1] 32 (0, 0)) := heap_set_far hc (by omega)
      have hs' : ((z2.setCell ⟨z0.heap.size, 4, none⟩ (.int .i64 q2.1.x)).setCell ⟨z0.heap.size, 5, none⟩ (.int .i64 q2.1.z)).heap[y6.heap.size + 1]? = some (.cells #[.slice a7 L7.length k7, .slice a8 L8.length k8, v] 71 (0, 0)) := heap_set_far hs (by omega)
      have ht' : ((z2.setCell ⟨z0.heap.size, 4, none⟩ (.int .i64 q2.1.x)).setCell ⟨z0.heap.size, 5, none⟩ (.int .i64 q2.1.z)).heap[z0.heap.size]? = some (.cells #[.int .i64 q0.1, .int .i64 q1.1.x, .int .i64 q1.1.z, .int .i64 q1.1.y, .int .i64 q2.1.x, .int .i64 q2.1.z, .int .i64 0, .bool false, .int .i64 0, .int .i64 0] 118 (0, 0)) := heap_setCell_same (z2.setCell ⟨z0.heap.size, 4, none⟩ (.int .i64 q2.1.x)) (z0.heap.size) 5 _ _ _ ht
      have hG' := gb_set hG (b := z0.heap.size) (by omega) 5 (.int .i64 q2.1.z)
      have hA' := hA.setFar (b := z0.heap.size) (by omega) (hfar.imp id fun q ad ha => by have := q ad ha; omega) 5 (.int .i64 q2.1.z)
      have ho' := owns_set2 ho (b := z0.heap.size) (fun j hj => by have := ho.lt j hj; have := hvl j hj; omega) 5 (.int .i64 q2.1.z)
      have p7' := owns_set2 p7 (b := z0.heap.size) (fun j hj => by have := p7.lt j hj; have := hp7 j hj; omega) 5 (.int .i64 q2.1.z)
      have p8' := owns_set2 p8 (b := z0.heap.size) (fun j hj => by have := p8.lt j hj; have := hp8 j hj; omega) 5 (.int .i64 q2.1.z)
      clear hC hS hc hs ht hG hA ho p7 p8
      have hC := hC'
      have hS := hS'
      have hc := hc'
      have hs := hs'
      have ht := ht'
      have hG := hG'
      have hA := hA'
      have ho := ho'
      have p7 := p7'
      have p8 := p8'
      clear hC' hS' hc' hs' ht' hG' hA' ho' p7' p8'
      have e4 := cell_heap (k := 6) (v := .int .i64 0) ht rfl
      have e5 := blk_frozen (j := 6) ht
      have hC' : (((z2.setCell ⟨z0.heap.size, 4, none⟩ (.int .i64 q2.1.x)).setCell ⟨z0.heap.size, 5, none⟩ (.int .i64 q2.1.z)).setCell ⟨z0.heap.size, 6, none⟩ (.int .i64 q2.1.y)).heap[w.heap.size]? = some (.cells #[.int .i64 0, .int .i64 0, .int .i64 0, .int .i64 0, .int .i64 0, .int .i64 0, .int .i64 0] 32 (0, 0)) := heap_set_far hC (by omega)
      have hS' : (((z2.setCell ⟨z0.heap.size, 4, none⟩ (.int .i64 q2.1.x)).setCell ⟨z0.heap.size, 5, none⟩ (.int .i64 q2.1.z)).setCell ⟨z0.heap.size, 6, none⟩ (.int .i64 q2.1.y)).heap[w.heap.size + 1]? = some (.cells #[.slice none 0 0, .slice none 0 0, .slice none 0 0] 71 (0, 0)) := heap_set_far hS (by omega)
      have hc' : (((z2.setCell ⟨z0.heap.size, 4, none⟩ (.int .i64 q2.1.x)).setCell ⟨z0.heap.size, 5, none⟩ (.int .i64 q2.1.z)).setCell ⟨z0.heap.size, 6, none⟩ (.int .i64 q2.1.y)).heap[y6.heap.size]? = some (.cells #[.int .i64 r0.1, .int .i64 r1.1, .int .i64 r2.1, .int .i64 r3.1, .int .i64 r4.1, .int .i64 r5.1, .int .i64 r6.1] 32 (0, 0)) := heap_set_far hc (by omega)
      have hs' : (((z2.setCell ⟨z0.heap.size, 4, none⟩ (.int .i64 q2.1.x)).setCell ⟨z0.heap.size, 5, none⟩ (.int .i64 q2.1.z)).setCell ⟨z0.heap.size, 6, none⟩ (.int .i64 q2.1.y)).heap[y6.heap.size + 1]? = some (.cells #[.slice a7 L7.length k7, .slice a8 L8.length k8, v] 71 (0, 0)) := heap_set_far hs (by omega)
      have ht' : (((z2.setCell ⟨z0.heap.size, 4, none⟩ (.int .i64 q2.1.x)).setCell ⟨z0.heap.size, 5, none⟩ (.int .i64 q2.1.z)).setCell ⟨z0.heap.size, 6, none⟩ (.int .i64 q2.1.y)).heap[z0.heap.size]? = some (.cells #[.int .i64 q0.1, .int .i64 q1.1.x, .int .i64 q1.1.z, .int .i64 q1.1.y, .int .i64 q2.1.x, .int .i64 q2.1.z, .int .i64 q2.1.y, .bool false, .int .i64 0, .int .i64 0] 118 (0, 0)) := heap_setCell_same ((z2.setCell ⟨z0.heap.size, 4, none⟩ (.int .i64 q2.1.x)).setCell ⟨z0.heap.size, 5, none⟩ (.int .i64 q2.1.z)) (z0.heap.size) 6 _ _ _ ht
      have hG' := gb_set hG (b := z0.heap.size) (by omega) 6 (.int .i64 q2.1.y)
      have hA' := hA.setFar (b := z0.heap.size) (by omega) (hfar.imp id fun q ad ha => by have := q ad ha; omega) 6 (.int .i64 q2.1.y)
      have ho' := owns_set2 ho (b := z0.heap.size) (fun j hj => by have := ho.lt j hj; have := hvl j hj; omega) 6 (.int .i64 q2.1.y)
      have p7' := owns_set2 p7 (b := z0.heap.size) (fun j hj => by have := p7.lt j hj; have := hp7 j hj; omega) 6 (.int .i64 q2.1.y)
      have p8' := owns_set2 p8 (b := z0.heap.size) (fun j hj => by have := p8.lt j hj; have := hp8 j hj; omega) 6 (.int .i64 q2.1.y)
      clear hC hS hc hs ht hG hA ho p7 p8
      have hC := hC'
      have hS := hS'
      have hc := hc'
      have hs := hs'
      have ht := ht'
      have hG := hG'
      have hA := hA'
      have ho := ho'
      have p7 := p7'
      have p8 := p8'
      clear hC' hS' hc' hs' ht' hG' hA' ho' p7' p8'
      obtain ⟨q3, hq3⟩ : ∃ r, Hid (r = rdUp xs 1 q2.2) := ⟨_, rfl⟩
      have CO := UP.out 1 _ _ hA
      rw [← hq3.out] at CO
      go_wp2_with fail
      refine CO.mono ?_
      rintro e z3 ⟨rfl, hA', hg'⟩
      clear CO
      clear e0 e1 e2 e3 e4 e5
      have hC' := blk_other hg' hC (by omega)
      have hS' := blk_other hg' hS (by omega)
      have hc' := blk_other hg' hc (by omega)
      have hs' := blk_other hg' hs (by omega)
      have ht' := blk_other hg' ht (by omega)
      have hG' := gn_call hG hg' (by omega)
      have hzz3 := hg'.size
      try simp only [World.size_alloc, size_set3] at hzz3
      have ho' := owns_call ho hg' (by omega)
      have p7' := owns_call p7 hg' (by omega)
      have p8' := owns_call p8 hg' (by omega)
      clear hC hS hc hs ht hG hA ho p7 p8
      have hC := hC'
      have hS := hS'
      have hc := hc'
      have hs := hs'
      have ht := ht'
      have hG := hG'
      have hA := hA'
      have ho := ho'
      have p7 := p7'
      have p8 := p8'
      clear hC' hS' hc' hs' ht' hG' hA' ho' p7' p8'
      clear hg'
      have e0 := cell_heap (k := 7) (v := .bool false) ht rfl
      have e1 := blk_frozen (j := 7) ht
      have hC' : (z3.setCell ⟨z0.heap.size, 7, none⟩ (.bool (decide (q3.1 = 1)))).heap[w.heap.size]? = some (.cells #[.int .i64 0, .int .i64 0, .int .i64 0, .int .i64 0, .int .i64 0, .int .i64 0, .int .i64 0] 32 (0, 0)) := heap_set_far hC (by omega)
      have hS' : (z3.setCell ⟨z0.heap.size, 7, none⟩ (.bool (decide (q3.1 = 1)))).heap[w.heap.size + 1]? = some (.cells #[.slice none 0 0, .slice none 0 0, .slice none 0 0] 71 (0, 0)) := heap_set_far hS (by omega)
      have hc' : (z3.setCell ⟨z0.heap.size, 7, none⟩ (.bool (decide (q3.1 = 1)))).heap[y6.heap.size]? = some (.cells #[.int .i64 r0.1, .int .i64 r1.1, .int .i64 r2.1, .int .i64 r3.1, .int .i64 r4.1, .int .i64 r5.1, .int .i64 r6.1] 32 (0, 0)) := heap_set_far hc (by omega)
      have hs' : (z3.setCell ⟨z0.heap.size, 7, none⟩ (.bool (decide (q3.1 = 1)))).heap[y6.heap.size + 1]? = some (.cells #[.slice a7 L7.length k7, .slice a8 L8.length k8, v] 71 (0, 0)) := heap_set_far hs (by omega)
      have ht' : (z3.setCell ⟨z0.heap.size, 7, none⟩ (.bool (decide (q3.1 = 1)))).heap[z0.heap.size]? = some (.cells #[.int .i64 q0.1, .int .i64 q1.1.x, .int .i64 q1.1.z, .int .i64 q1.1.y, .int .i64 q2.1.x, .int .i64 q2.1.z, .int .i64 q2.1.y, .bool (decide (q3.1 = 1)), .int .i64 0, .int .i64 0] 118 (0, 0)) := heap_setCell_same z3 (z0.heap.size) 7 _ _ _ ht
      have hG' := gb_set hG (b := z0.heap.size) (by omega) 7 (.bool (decide (q3.1 = 1)))
      have hA' := hA.setFar (b := z0.heap.size) (by omega) (hfar.imp id fun q ad ha => by have := q ad ha; omega) 7 (.bool (decide (q3.1 = 1)))
      have ho' := owns_set2 ho (b := z0.heap.size) (fun j hj => by have := ho.lt j hj; have := hvl j hj; omega) 7 (.bool (decide (q3.1 = 1)))
      have p7' := owns_set2 p7 (b := z0.heap.size) (fun j hj => by have := p7.lt j hj; have := hp7 j hj; omega) 7 (.bool (decide (q3.1 = 1)))
      have p8' := owns_set2 p8 (b := z0.heap.size) (fun j hj => by have := p8.lt j hj; have := hp8 j hj; omega) 7 (.bool (decide (q3.1 = 1)))
      clear hC hS hc hs ht hG hA ho p7 p8
      have hC := hC'
      have hS := hS'
      have hc := hc'
      have hs := hs'
      have ht := ht'
      have hG := hG'
      have hA := hA'
      have ho := ho'
      have p7 := p7'
      have p8 := p8'
      clear hC' hS' hc' hs' ht' hG' hA' ho' p7' p8'
      obtain ⟨q4, hq4⟩ : ∃ r, Hid (r = rdNum xs q3.2) := ⟨_, rfl⟩
      have CO := N.out _ _ hA
      rw [← hq4.out] at CO
      go_wp2_with fail
      refine CO.mono ?_
      rintro e z4 ⟨rfl, hA', hg'⟩
      clear CO
      clear e0 e1
      have hC' := blk_other hg' hC (by omega)
      have hS' := blk_other hg' hS (by omega)
      have hc' := blk_other hg' hc (by omega)
      have hs' := blk_other hg' hs (by omega)
      have ht' := blk_other hg' ht (by omega)
      have hG' := gn_call hG hg' (by omega)
      have hzz4 := hg'.size
      try simp only [World.size_alloc, size_set3] at hzz4
      have ho' := owns_call ho hg' (by omega)
      have p7' := owns_call p7 hg' (by omega)
      have p8' := owns_call p8 hg' (by omega)
      clear hC hS hc hs ht hG hA ho p7 p8
      have hC := hC'
      have hS := hS'
      have hc := hc'
      have hs := hs'
      have ht := ht'
      have hG := hG'
      have hA := hA'
      have ho := ho'
      have p7 := p7'
      have p8 := p8'
      clear hC' hS' hc' hs' ht' hG' hA' ho' p7' p8'
      clear hg'
      have e0 := cell_heap (k := 8) (v := .int .i64 0) ht rfl
      have e1 := blk_frozen (j := 8) ht
      have hC' : (z4.setCell ⟨z0.heap.size, 8, none⟩ (.int .i64 q4.1)).heap[w.heap.size]? = some (.cells #[.int .i64 0, .int .i64 0, .int .i64 0, .int .i64 0, .int .i64 0, .int .i64 0, .int .i64 0] 32 (0, 0)) := heap_set_far hC (by omega)
      have hS' : (z4.setCell ⟨z0.heap.size, 8, none⟩ (.int .i64 q4.1)).heap[w.heap.size + 1]? = some (.cells #[.slice none 0 0, .slice none 0 0, .slice none 0 0] 71 (0, 0)) := heap_set_far hS (by omega)
      have hc' : (z4.setCell ⟨z0.heap.size, 8, none⟩ (.int .i64 q4.1)).heap[y6.heap.size]? = some (.cells #[.int .i64 r0.1, .int .i64 r1.1, .int .i64 r2.1, .int .i64 r3.1, .int .i64 r4.1, .int .i64 r5.1, .int .i64 r6.1] 32 (0, 0)) := heap_set_far hc (by omega)
      have hs' : (z4.setCell ⟨z0.heap.size, 8, none⟩ (.int .i64 q4.1)).heap[y6.heap.size + 1]? = some (.cells #[.slice a7 L7.length k7, .slice a8 L8.length k8, v] 71 (0, 0)) := heap_set_far hs (by omega)
      have ht' : (z4.setCell ⟨z0.heap.size, 8, none⟩ (.int .i64 q4.1)).heap[z0.heap.size]? = some (.cells #[.int .i64 q0.1, .int .i64 q1.1.x, .int .i64 q1.1.z, .int .i64 q1.1.y, .int .i64 q2.1.x, .int .i64 q2.1.z, .int .i64 q2.1.y, .bool (decide (q3.1 = 1)), .int .i64 q4.1, .int .i64 0] 118 (0, 0)) := heap_setCell_same z4 (z0.heap.size) 8 _ _ _ ht
      have hG' := gb_set hG (b := z0.heap.size) (by omega) 8 (.int .i64 q4.1)
      have hA' := hA.setFar (b := z0.heap.size) (by omega) (hfar.imp id fun q ad ha => by have := q ad ha; omega) 8 (.int .i64 q4.1)
      have ho' := owns_set2 ho (b := z0.heap.size) (fun j hj => by have := ho.lt j hj; have := hvl j hj; omega) 8 (.int .i64 q4.1)
      have p7' := owns_set2 p7 (b := z0.heap.size) (fun j hj => by have := p7.lt j hj; have := hp7 j hj; omega) 8 (.int .i64 q4.1)
      have p8' := owns_set2 p8 (b := z0.heap.size) (fun j hj => by have := p8.lt j hj; have := hp8 j hj; omega) 8 (.int .i64 q4.1)
      clear hC hS hc hs ht hG hA ho p7 p8
      have hC := hC'
      have hS := hS'
      have hc := hc'
      have hs := hs'
      have ht := ht'
      have hG := hG'
      have hA := hA'
      have ho := ho'
      have p7 := p7'
      have p8 := p8'
      clear hC' hS' hc' hs' ht' hG' hA' ho' p7' p8'
      obtain ⟨q5, hq5⟩ : ∃ r, Hid (r = rdNum xs q4.2) := ⟨_, rfl⟩
      have CO := N.out _ _ hA
      rw [← hq5.out] at CO
      go_wp2_with fail
      refine CO.mono ?_
      rintro e z5 ⟨rfl, hA', hg'⟩
      clear CO
      clear e0 e1
      have hC' := blk_other hg' hC (by omega)
      have hS' := blk_other hg' hS (by omega)
      have hc' := blk_other hg' hc (by omega)
      have hs' := blk_other hg' hs (by omega)
      have ht' := blk_other hg' ht (by omega)
      have hG' := gn_call hG hg' (by omega)
      have hzz5 := hg'.size
      try simp only [World.size_alloc, size_set3] at hzz5
      have ho' := owns_call ho hg' (by omega)
      have p7' := owns_call p7 hg' (by omega)
      have p8' := owns_call p8 hg' (by omega)
      clear hC hS hc hs ht hG hA ho p7 p8
      have hC := hC'
      have hS := hS'
      have hc := hc'
      have hs := hs'
      have ht := ht'
      have hG := hG'
      have hA := hA'
      have ho := ho'
      have p7 := p7'
      have p8 := p8'
      clear hC' hS' hc' hs' ht' hG' hA' ho' p7' p8'
      clear hg'
      have e0 := cell_heap (k := 9) (v := .int .i64 0) ht rfl
      have e1 := blk_frozen (j := 9) ht
      have hC' : (z5.setCell ⟨z0.heap.size, 9, none⟩ (.int .i64 q5.1)).heap[w.heap.size]? = some (.cells #[.int .i64 0, .int .i64 0, .int .i64 0, .int .i64 0, .int .i64 0, .int .i64 0, .int .i64 0] 32 (0, 0)) := heap_set_far hC (by omega)
      have hS' : (z5.setCell ⟨z0.heap.size, 9, none⟩ (.int .i64 q5.1)).heap[w.heap.size + 1]? = some (.cells #[.slice none 0 0, .slice none 0 0, .slice none 0 0] 71 (0, 0)) := heap_set_far hS (by omega)
      have hc' : (z5.setCell ⟨z0.heap.size, 9, none⟩ (.int .i64 q5.1)).heap[y6.heap.size]? = some (.cells #[.int .i64 r0.1, .int .i64 r1.1, .int .i64 r2.1, .int .i64 r3.1, .int .i64 r4.1, .int .i64 r5.1, .int .i64 r6.1] 32 (0, 0)) := heap_set_far hc (by omega)
      have hs' : (z5.setCell ⟨z0.heap.size, 9, none⟩ (.int .i64 q5.1)).heap[y6.heap.size + 1]? = some (.cells #[.slice a7 L7.length k7, .slice a8 L8.length k8, v] 71 (0, 0)) := heap_set_far hs (by omega)
      have ht' : (z5.setCell ⟨z0.heap.size, 9, none⟩ (.int .i64 q5.1)).heap[z0.heap.size]? = some (.cells #[.int .i64 q0.1, .int .i64 q1.1.x, .int .i64 q1.1.z, .int .i64 q1.1.y, .int .i64 q2.1.x, .int .i64 q2.1.z, .int .i64 q2.1.y, .bool (decide (q3.1 = 1)), .int .i64 q4.1, .int .i64 q5.1] 118 (0, 0)) := heap_setCell_same z5 (z0.heap.size) 9 _ _ _ ht
      have hG' := gb_set hG (b := z0.heap.size) (by omega) 9 (.int .i64 q5.1)
      have hA' := hA.setFar (b := z0.heap.size) (by omega) (hfar.imp id fun q ad ha => by have := q ad ha; omega) 9 (.int .i64 q5.1)
      have ho' := owns_set2 ho (b := z0.heap.size) (fun j hj => by have := ho.lt j hj; have := hvl j hj; omega) 9 (.int .i64 q5.1)
      have p7' := owns_set2 p7 (b := z0.heap.size) (fun j hj => by have := p7.lt j hj; have := hp7 j hj; omega) 9 (.int .i64 q5.1)
      have p8' := owns_set2 p8 (b := z0.heap.size) (fun j hj => by have := p8.lt j hj; have := hp8 j hj; omega) 9 (.int .i64 q5.1)
      clear hC hS hc hs ht hG hA ho p7 p8
      have hC := hC'
      have hS := hS'
      have hc := hc'
      have hs := hs'
      have ht := ht'
      have hG := hG'
      have hA := hA'
      have ho := ho'
      have p7 := p7'
      have p8 := p8'
      clear hC' hS' hc' hs' ht' hG' hA' ho' p7' p8'
      obtain ⟨t, ht0⟩ : ∃ t, Hid (t = (⟨q0.1, q1.1, q2.1, decide (q3.1 = 1), q4.1, q5.1⟩ : Hp)) := ⟨_, rfl⟩
      have HT : Hid (rdHp xs (s1, false) = (t, q5.2)) := by
        show _ = _
        rw [ht0.out, hq5.out, hq4.out, hq3.out, hq2.out, hq1.out, hq0.out]
        rfl
      have e2 := cell_heap (k := 0) (v := .int .i64 q0.1) ht rfl
      have e3 := cell_heap (k := 1) (v := .int .i64 q1.1.x) ht rfl
      have e4 := cell_heap (k := 2) (v := .int .i64 q1.1.z) ht rfl
      have e5 := cell_heap (k := 3) (v := .int .i64 q1.1.y) ht rfl
      have e6 := cell_heap (k := 4) (v := .int .i64 q2.1.x) ht rfl
      have e7 := cell_heap (k := 5) (v := .int .i64 q2.1.z) ht rfl
      have e8 := cell_heap (k := 6) (v := .int .i64 q2.1.y) ht rfl
      have e9 := cell_heap (k := 7) (v := .bool (decide (q3.1 = 1))) ht rfl
      have e10 := cell_heap (k := 8) (v := .int .i64 q4.1) ht rfl
      have e11 := cell_heap (k := 9) (v := .int .i64 q5.1) ht rfl
      have e12 := cell_heap (k := 0) (v := .slice a7 L7.length k7) hs rfl
      have e13 := blk_frozen (j := 0) hs
      have e14 := cell_heap (k := 1) (v := .slice a8 L8.length k8) hs rfl
      have e15 := blk_frozen (j := 1) hs
      have e16 := cell_heap (k := 2) (v := v) hs rfl
      have e17 := blk_frozen (j := 2) hs
      obtain ⟨k, hk⟩ : ∃ k, N9 - j = k + 1 := ⟨N9 - j - 1, by omega⟩
      have HX : Hid (V9 = ((l ++ [t]) ++ (rdRows (rdHp xs) (N9 - (j + 1)) q5.2).1, (rdRows (rdHp xs) (N9 - (j + 1)) q5.2).2)) := by
        show _ = _
        rw [HW.out, hk, rows_cons rfl, HT.out, show N9 - (j + 1) = k by omega]
        simp
      have hsz9 : wj.heap.size ≤ z5.heap.size := by omega
      go_wp2_with (at_builtin; refine wpList_appG (z5.setCell ⟨z0.heap.size, 9, none⟩ (.int .i64 q5.1)) rfl _ _ 69 rfl B9 118 (.agg #[.int .i64 0, .int .i64 0, .int .i64 0, .int .i64 0, .int .i64 0, .int .i64 0, .int .i64 0, .bool false, .int .i64 0, .int .i64 0]) 10 80 Try.underlying69 info_hop rfl (by decide) _ _ _ (hpC (⟨q0.1, q1.1, q2.1, decide (q3.1 = 1), q4.1, q5.1⟩ : Hp)) _ z5.heap.size (by simp only [size_set3]) rfl (oneCells_hop _) ho rfl rfl ?_ ?_ ?_ ?_)
      · omega
      · omega
      · omega
      intro v' w' h1 h2
      have hsw := h2.grown.size
      simp only [size_set3] at hsw
      clear e0 e1 e2 e3 e4 e5 e6 e7 e8 e9 e10 e11 e12 e13 e14 e15 e16 e17
      have hC' := blk_app h2 hC (fun j hj => by have := (ho.lt j hj).1; omega)
      have hS' := blk_app h2 hS (fun j hj => by have := (ho.lt j hj).1; omega)
      have hc' := blk_app h2 hc (fun j hj => by have := (ho.lt j hj).1; omega)
      have hs' := blk_app h2 hs (fun j hj => by have := (ho.lt j hj).1; omega)
      have hA' := hA.grown h2.grown (fun j hj => by have := (ho.lt j hj).1; omega)
      have hG' := World.grownBy.andThen hG h2.grown (fun j hj => .inl (by have := (ho.lt j hj).1; omega))
      have p7' := owns_app h2 p7 (fun i j hi hj => by have := hp7 i hi; have := (ho.lt j hj).1; omega)
      have p8' := owns_app h2 p8 (fun i j hi hj => by have := hp8 i hi; have := (ho.lt j hj).1; omega)
      clear ho ht hvl
      clear hC hS hc hs hA hG p7 p8
      have hC := hC'
      have hS := hS'
      have hc := hc'
      have hs := hs'
      have hA := hA'
      have hG := hG'
      have p7 := p7'
      have p8 := p8'
      clear hC' hS' hc' hs' hA' hG' p7' p8'
      rw [← ht0.out] at h1
      have h1f : w'.ownsRow B9 118 10 v' (j + 1) ((l ++ [t]).flatMap hpC) := by simpa using h1
      obtain ⟨av, kv, rfl, _⟩ := SlR.of_owns (f := hpC) (sz := 10) (fun _ => rfl) (by simp [hl]) h1f
      clear h1
      have e0 := cell_heap (k := 2) (v := v) hs rfl
      have e1 := blk_frozen (j := 2) hs
      have hC' : (w'.setCell ⟨y6.heap.size + 1, 2, none⟩ (.slice av (j + 1) kv)).heap[w.heap.size]? = some (.cells #[.int .i64 0, .int .i64 0, .int .i64 0, .int .i64 0, .int .i64 0, .int .i64 0, .int .i64 0] 32 (0, 0)) := heap_set_far hC (by omega)
      have hS' : (w'.setCell ⟨y6.heap.size + 1, 2, none⟩ (.slice av (j + 1) kv)).heap[w.heap.size + 1]? = some (.cells #[.slice none 0 0, .slice none 0 0, .slice none 0 0] 71 (0, 0)) := heap_set_far hS (by omega)
      have hc' : (w'.setCell ⟨y6.heap.size + 1, 2, none⟩ (.slice av (j + 1) kv)).heap[y6.heap.size]? = some (.cells #[.int .i64 r0.1, .int .i64 r1.1, .int .i64 r2.1, .int .i64 r3.1, .int .i64 r4.1, .int .i64 r5.1, .int .i64 r6.1] 32 (0, 0)) := heap_set_far hc (by omega)
      have hs' : (w'.setCell ⟨y6.heap.size + 1, 2, none⟩ (.slice av (j + 1) kv)).heap[y6.heap.size + 1]? = some (.cells #[.slice a7 L7.length k7, .slice a8 L8.length k8, .slice av (j + 1) kv] 71 (0, 0)) := heap_setCell_same w' (y6.heap.size + 1) 2 _ _ _ hs
      have hG' := gb_set hG (b := y6.heap.size + 1) (by omega) 2 (.slice av (j + 1) kv)
      have hA' := hA.setFar (b := y6.heap.size + 1) (by omega) (hfar.imp id fun q ad ha => by have := q ad ha; omega) 2 (.slice av (j + 1) kv)
      have p7' := owns_set2 p7 (b := y6.heap.size + 1) (fun j hj => by have := p7.lt j hj; have := hp7 j hj; omega) 2 (.slice av (j + 1) kv)
      have p8' := owns_set2 p8 (b := y6.heap.size + 1) (fun j hj => by have := p8.lt j hj; have := hp8 j hj; omega) 2 (.slice av (j + 1) kv)
      clear hC hS hc hs hG hA p7 p8
      have hC := hC'
      have hS := hS'
      have hc := hc'
      have hs := hs'
      have hG := hG'
      have hA := hA'
      have p7 := p7'
      have p8 := p8'
      clear hC' hS' hc' hs' hG' hA' p7' p8'
      have h1' := owns_set2 h1f (b := y6.heap.size + 1) (fun i hi => by have := (h1f.lt i hi).1; omega) 2 (.slice av (j + 1) kv)
      go_wp2
      go_roundw
      case rel => exact ⟨j + 1, l ++ [t], q5.2, _, by go_num, by omega, by simp [hl], h1', hA, hC, hS, hc, hs, hG, by simp only [size_set3]; omega, p7, p8, HX⟩
      case measure => simp [intOf]; omega
    | false =>
    have hqq : N9 - j = 0 ∨ bad = true := by
      cases bad with
      | true => exact .inr rfl
      | false => left; simp at hq; omega
    have HX : Hid (V9 = (l, (s1, bad))) := by show _ = _; rw [HW.out, rows_nil hqq]; simp
    clear cf hq hqq HW hj
    obtain ⟨S9, hS9⟩ : ∃ S : RS, S = (s1, bad) := ⟨_, rfl⟩
    rw [← hS9] at hA HX
    clear hS9
    have HX9 := HX
    clear HX
    obtain ⟨L9, rfl⟩ : ∃ L, L = l := ⟨_, rfl⟩
    subst hl
    obtain ⟨a9, k9, rfl, _⟩ := SlR.of_owns (f := hpC) (sz := 10) (fun _ => rfl) rfl ho
    obtain ⟨w9, rfl⟩ : ∃ W : World, W = wj := ⟨_, rfl⟩
    have p9 := ho
    have hp9 : ∀ i, Value.ownBlock (.slice a9 L9.length k9) = some i → i < w9.heap.size := fun i h => (ho.lt i h).2
    clear ho
    have e7 : rdList xs 200 (rdTri xs) r6.2 = (L7, S7) := HV7.out.symm.trans HX7.out
    have e8 : rdList xs 16 (rdBx xs) S7 = (L8, S8) := HV8.out.symm.trans HX8.out
    have e9 : rdList xs 16 (rdHp xs) S8 = (L9, S9) := HV9.out.symm.trans HX9.out
    have HV1 : Hid (V = if S9.2 = true ∨ soupE ⟨r0.1, r1.1, r2.1, r3.1, r4.1, r5.1, r6.1⟩ ⟨L7, L8, L9⟩ ≠ 0 then (cfg0, sou0, 0, 200) else (⟨r0.1, r1.1, r2.1, r3.1, r4.1, r5.1, r6.1⟩, ⟨L7, L8, L9⟩, (S9.1 : Int), 0)) := by
      show _ = _
      rw [HV.out]
      unfold rdSoup rdCfg
      rw [if_neg (by omega)]
      simp only [← hr0.out, ← hr1.out, ← hr2.out, ← hr3.out, ← hr4.out, ← hr5.out, ← hr6.out, e7, e8, e9]
    clear e7 e8 e9
    have cf := cell_heap (k := 2) (v := .bool (!S9.2)) hA.blk rfl
    cases hbd : S9.2 with
    | true =>
      rw [hbd] at cf
      have HW : Hid (V = (cfg0, sou0, 0, 200)) := by show _ = _; rw [HV1.out, if_pos (.inl hbd)]
      have e0 := cell_heap (k := 0) (v := .int .i64 0) hC rfl
      have e1 := blk_frozen (j := 0) hC
      have hC' : (w9.setCell ⟨w.heap.size, 0, none⟩ (.int .i64 0)).heap[w.heap.size]? = some (.cells #[.int .i64 0, .int .i64 0, .int .i64 0, .int .i64 0, .int .i64 0, .int .i64 0, .int .i64 0] 32 (0, 0)) := heap_setCell_same w9 (w.heap.size) 0 _ _ _ hC
      have hS' : (w9.setCell ⟨w.heap.size, 0, none⟩ (.int .i64 0)).heap[w.heap.size + 1]? = some (.cells #[.slice none 0 0, .slice none 0 0, .slice none 0 0] 71 (0, 0)) := heap_set_far hS (by omega)
      have hc' : (w9.setCell ⟨w.heap.size, 0, none⟩ (.int .i64 0)).heap[y6.heap.size]? = some (.cells #[.int .i64 r0.1, .int .i64 r1.1, .int .i64 r2.1, .int .i64 r3.1, .int .i64 r4.1, .int .i64 r5.1, .int .i64 r6.1] 32 (0, 0)) := heap_set_far hc (by omega)
      have hs' : (w9.setCell ⟨w.heap.size, 0, none⟩ (.int .i64 0)).heap[y6.heap.size + 1]? = some (.cells #[.slice a7 L7.length k7, .slice a8 L8.length k8, .slice a9 L9.length k9] 71 (0, 0)) := heap_set_far hs (by omega)
      have hG' := gb_set hG (b := w.heap.size) (by omega) 0 (.int .i64 0)
      have hA' := hA.setFar (b := w.heap.size) (by omega) (hfar.imp id fun q ad ha => by have := q ad ha; omega) 0 (.int .i64 0)
      have p7' := owns_set2 p7 (b := w.heap.size) (fun j hj => by have := p7.lt j hj; have := hp7 j hj; omega) 0 (.int .i64 0)
      have p8' := owns_set2 p8 (b := w.heap.size) (fun j hj => by have := p8.lt j hj; have := hp8 j hj; omega) 0 (.int .i64 0)
      have p9' := owns_set2 p9 (b := w.heap.size) (fun j hj => by have := p9.lt j hj; have := hp9 j hj; omega) 0 (.int .i64 0)
      clear hC hS hc hs hG hA p7 p8 p9
      have hC := hC'
      have hS := hS'
      have hc := hc'
      have hs := hs'
      have hG := hG'
      have hA := hA'
      have p7 := p7'
      have p8 := p8'
      have p9 := p9'
      clear hC' hS' hc' hs' hG' hA' p7' p8' p9'
      have e2 := cell_heap (k := 1) (v := .int .i64 0) hC rfl
      have e3 := blk_frozen (j := 1) hC
      have hC' : ((w9.setCell ⟨w.heap.size, 0, none⟩ (.int .i64 0)).setCell ⟨w.heap.size, 1, none⟩ (.int .i64 0)).heap[w.heap.size]? = some (.cells #[.int .i64 0, .int .i64 0, .int .i64 0, .int .i64 0, .int .i64 0, .int .i64 0, .int .i64 0] 32 (0, 0)) := heap_setCell_same (w9.setCell ⟨w.heap.size, 0, none⟩ (.int .i64 0)) (w.heap.size) 1 _ _ _ hC
      have hS' : ((w9.setCell ⟨w.heap.size, 0, none⟩ (.int .i64 0)).setCell ⟨w.heap.size, 1, none⟩ (.int .i64 0)).heap[w.heap.size + 1]? = some (.cells #[.slice none 0 0, .slice none 0 0, .slice none 0 0] 71 (0, 0)) := heap_set_far hS (by omega)
      have hc' : ((w9.setCell ⟨w.heap.size, 0, none⟩ (.int .i64 0)).setCell ⟨w.heap.size, 1, none⟩ (.int .i64 0)).heap[y6.heap.size]? = some (.cells #[.int .i64 r0.1, .int .i64 r1.1, .int .i64 r2.1, .int .i64 r3.1, .int .i64 r4.1, .int .i64 r5.1, .int .i64 r6.1] 32 (0, 0)) := heap_set_far hc (by omega)
      have hs' : ((w9.setCell ⟨w.heap.size, 0, none⟩ (.int .i64 0)).setCell ⟨w.heap.size, 1, none⟩ (.int .i64 0)).heap[y6.heap.size + 1]? = some (.cells #[.slice a7 L7.length k7, .slice a8 L8.length k8, .slice a9 L9.length k9] 71 (0, 0)) := heap_set_far hs (by omega)
      have hG' := gb_set hG (b := w.heap.size) (by omega) 1 (.int .i64 0)
      have hA' := hA.setFar (b := w.heap.size) (by omega) (hfar.imp id fun q ad ha => by have := q ad ha; omega) 1 (.int .i64 0)
      have p7' := owns_set2 p7 (b := w.heap.size) (fun j hj => by have := p7.lt j hj; have := hp7 j hj; omega) 1 (.int .i64 0)
      have p8' := owns_set2 p8 (b := w.heap.size) (fun j hj => by have := p8.lt j hj; have := hp8 j hj; omega) 1 (.int .i64 0)
      have p9' := owns_set2 p9 (b := w.heap.size) (fun j hj => by have := p9.lt j hj; have := hp9 j hj; omega) 1 (.int .i64 0)
      clear hC hS hc hs hG hA p7 p8 p9
      have hC := hC'
      have hS := hS'
      have hc := hc'
      have hs := hs'
      have hG := hG'
      have hA := hA'
      have p7 := p7'
      have p8 := p8'
      have p9 := p9'
      clear hC' hS' hc' hs' hG' hA' p7' p8' p9'
      have e4 := cell_heap (k := 2) (v := .int .i64 0) hC rfl
      have e5 := blk_frozen (j := 2) hC
      have hC' : (((w9.setCell ⟨w.heap.size, 0, none⟩ (.int .i64 0)).setCell ⟨w.heap.size, 1, none⟩ (.int .i64 0)).setCell ⟨w.heap.size, 2, none⟩ (.int .i64 0)).heap[w.heap.size]? = some (.cells #[.int .i64 0, .int .i64 0, .int .i64 0, .int .i64 0, .int .i64 0, .int .i64 0, .int .i64 0] 32 (0, 0)) := heap_setCell_same ((w9.setCell ⟨w.heap.size, 0, none⟩ (.int .i64 0)).setCell ⟨w.heap.size, 1, none⟩ (.int .i64 0)) (w.heap.size) 2 _ _ _ hC
      have hS' : (((w9.setCell ⟨w.heap.size, 0, none⟩ (.int .i64 0)).setCell ⟨w.heap.size, 1, none⟩ (.int .i64 0)).setCell ⟨w.heap.size, 2, none⟩ (.int .i64 0)).heap[w.heap.size + 1]? = some (.cells #[.slice none 0 0, .slice none 0 0, .slice none 0 0] 71 (0, 0)) := heap_set_far hS (by omega)
      have hc' : (((w9.setCell ⟨w.heap.size, 0, none⟩ (.int .i64 0)).setCell ⟨w.heap.size, 1, none⟩ (.int .i64 0)).setCell ⟨w.heap.size, 2, none⟩ (.int .i64 0)).heap[y6.heap.size]? = some (.cells #[.int .i64 r0.1, .int .i64 r1.1, .int .i64 r2.1, .int .i64 r3.1, .int .i64 r4.1, .int .i64 r5.1, .int .i64 r6.1] 32 (0, 0)) := heap_set_far hc (by omega)
      have hs' : (((w9.setCell ⟨w.heap.size, 0, none⟩ (.int .i64 0)).setCell ⟨w.heap.size, 1, none⟩ (.int .i64 0)).setCell ⟨w.heap.size, 2, none⟩ (.int .i64 0)).heap[y6.heap.size + 1]? = some (.cells #[.slice a7 L7.length k7, .slice a8 L8.length k8, .slice a9 L9.length k9] 71 (0, 0)) := heap_set_far hs (by omega)
      have hG' := gb_set hG (b := w.heap.size) (by omega) 2 (.int .i64 0)
      have hA' := hA.setFar (b := w.heap.size) (by omega) (hfar.imp id fun q ad ha => by have := q ad ha; omega) 2 (.int .i64 0)
      have p7' := owns_set2 p7 (b := w.heap.size) (fun j hj => by have := p7.lt j hj; have := hp7 j hj; omega) 2 (.int .i64 0)
      have p8' := owns_set2 p8 (b := w.heap.size) (fun j hj => by have := p8.lt j hj; have := hp8 j hj; omega) 2 (.int .i64 0)
      have p9' := owns_set2 p9 (b := w.heap.size) (fun j hj => by have := p9.lt j hj; have := hp9 j hj; omega) 2 (.int .i64 0)
      clear hC hS hc hs hG hA p7 p8 p9
      have hC := hC'
      have hS := hS'
      have hc := hc'
      have hs := hs'
      have hG := hG'
      have hA := hA'
      have p7 := p7'
      have p8 := p8'
      have p9 := p9'
      clear hC' hS' hc' hs' hG' hA' p7' p8' p9'
      have e6 := cell_heap (k := 3) (v := .int .i64 0) hC rfl
      have e7 := blk_frozen (j := 3) hC
      have hC' : ((((w9.setCell ⟨w.heap.size, 0, none⟩ (.int .i64 0)).setCell ⟨w.heap.size, 1, none⟩ (.int .i64 0)).setCell ⟨w.heap.size, 2, none⟩ (.int .i64 0)).setCell ⟨w.heap.size, 3, none⟩ (.int .i64 0)).heap[w.heap.size]? = some (.cells #[.int .i64 0, .int .i64 0, .int .i64 0, .int .i64 0, .int .i64 0, .int .i64 0, .int .i64 0] 32 (0, 0)) := heap_setCell_same (((w9.setCell ⟨w.heap.size, 0, none⟩ (.int .i64 0)).setCell ⟨w.heap.size, 1, none⟩ (.int .i64 0)).setCell ⟨w.heap.size, 2, none⟩ (.int .i64 0)) (w.heap.size) 3 _ _ _ hC
      have hS' : ((((w9.setCell ⟨w.heap.size, 0, none⟩ (.int .i64 0)).setCell ⟨w.heap.size, 1, none⟩ (.int .i64 0)).setCell ⟨w.heap.size, 2, none⟩ (.int .i64 0)).setCell ⟨w.heap.size, 3, none⟩ (.int .i64 0)).heap[w.heap.size + 1]? = some (.cells #[.slice none 0 0, .slice none 0 0, .slice none 0 0] 71 (0, 0)) := heap_set_far hS (by omega)
      have hc' : ((((w9.setCell ⟨w.heap.size, 0, none⟩ (.int .i64 0)).setCell ⟨w.heap.size, 1, none⟩ (.int .i64 0)).setCell ⟨w.heap.size, 2, none⟩ (.int .i64 0)).setCell ⟨w.heap.size, 3, none⟩ (.int .i64 0)).heap[y6.heap.size]? = some (.cells #[.int .i64 r0.1, .int .i64 r1.1, .int .i64 r2.1, .int .i64 r3.1, .int .i64 r4.1, .int .i64 r5.1, .int .i64 r6.1] 32 (0, 0)) := heap_set_far hc (by omega)
      have hs' : ((((w9.setCell ⟨w.heap.size, 0, none⟩ (.int .i64 0)).setCell ⟨w.heap.size, 1, none⟩ (.int .i64 0)).setCell ⟨w.heap.size, 2, none⟩ (.int .i64 0)).setCell ⟨w.heap.size, 3, none⟩ (.int .i64 0)).heap[y6.heap.size + 1]? = some (.cells #[.slice a7 L7.length k7, .slice a8 L8.length k8, .slice a9 L9.length k9] 71 (0, 0)) := heap_set_far hs (by omega)
      have hG' := gb_set hG (b := w.heap.size) (by omega) 3 (.int .i64 0)
      have hA' := hA.setFar (b := w.heap.size) (by omega) (hfar.imp id fun q ad ha => by have := q ad ha; omega) 3 (.int .i64 0)
      have p7' := owns_set2 p7 (b := w.heap.size) (fun j hj => by have := p7.lt j hj; have := hp7 j hj; omega) 3 (.int .i64 0)
      have p8' := owns_set2 p8 (b := w.heap.size) (fun j hj => by have := p8.lt j hj; have := hp8 j hj; omega) 3 (.int .i64 0)
      have p9' := owns_set2 p9 (b := w.heap.size) (fun j hj => by have := p9.lt j hj; have := hp9 j hj; omega) 3 (.int .i64 0)
      clear hC hS hc hs hG hA p7 p8 p9
      have hC := hC'
      have hS := hS'
      have hc := hc'
      have hs := hs'
      have hG := hG'
      have hA := hA'
      have p7 := p7'
      have p8 := p8'
      have p9 := p9'
      clear hC' hS' hc' hs' hG' hA' p7' p8' p9'
      have e8 := cell_heap (k := 4) (v := .int .i64 0) hC rfl
      have e9 := blk_frozen (j := 4) hC
      have hC' : (((((w9.setCell ⟨w.heap.size, 0, none⟩ (.int .i64 0)).setCell ⟨w.heap.size, 1, none⟩ (.int .i64 0)).setCell ⟨w.heap.size, 2, none⟩ (.int .i64 0)).setCell ⟨w.heap.size, 3, none⟩ (.int .i64 0)).setCell ⟨w.heap.size, 4, none⟩ (.int .i64 0)).heap[w.heap.size]? = some (.cells #[.int .i64 0, .int .i64 0, .int .i64 0, .int .i64 0, .int .i64 0, .int .i64 0, .int .i64 0] 32 (0, 0)) := heap_setCell_same ((((w9.setCell ⟨w.heap.size, 0, none⟩ (.int .i64 0)).setCell ⟨w.heap.size, 1, none⟩ (.int .i64 0)).setCell ⟨w.heap.size, 2, none⟩ (.int .i64 0)).setCell ⟨w.heap.size, 3, none⟩ (.int .i64 0)) (w.heap.size) 4 _ _ _ hC
      have hS' : (((((w9.setCell ⟨w.heap.size, 0, none⟩ (.int .i64 0)).setCell ⟨w.heap.size, 1, none⟩ (.int .i64 0)).setCell ⟨w.heap.size, 2, none⟩ (.int .i64 0)).setCell ⟨w.heap.size, 3, none⟩ (.int .i64 0)).setCell ⟨w.heap.size, 4, none⟩ (.int .i64 0)).heap[w.heap.size + 1]? = some (.cells #[.slice none 0 0, .slice none 0 0, .slice none 0 0] 71 (0, 0)) := heap_set_far hS (by omega)
      have hc' : (((((w9.setCell ⟨w.heap.size, 0, none⟩ (.int .i64 0)).setCell ⟨w.heap.size, 1, none⟩ (.int .i64 0)).setCell ⟨w.heap.size, 2, none⟩ (.int .i64 0)).setCell ⟨w.heap.size, 3, none⟩ (.int .i64 0)).setCell ⟨w.heap.size, 4, none⟩ (.int .i64 0)).heap[y6.heap.size]? = some (.cells #[.int .i64 r0.1, .int .i64 r1.1, .int .i64 r2.1, .int .i64 r3.1, .int .i64 r4.1, .int .i64 r5.1, .int .i64 r6.1] 32 (0, 0)) := heap_set_far hc (by omega)
      have hs' : (((((w9.setCell ⟨w.heap.size, 0, none⟩ (.int .i64 0)).setCell ⟨w.heap.size, 1, none⟩ (.int .i64 0)).setCell ⟨w.heap.size, 2, none⟩ (.int .i64 0)).setCell ⟨w.heap.size, 3, none⟩ (.int .i64 0)).setCell ⟨w.heap.size, 4, none⟩ (.int .i64 0)).heap[y6.heap.size + 1]? = some (.cells #[.slice a7 L7.length k7, .slice a8 L8.length k8, .slice a9 L9.length k9] 71 (0, 0)) := heap_set_far hs (by omega)
      have hG' := gb_set hG (b := w.heap.size) (by omega) 4 (.int .i64 0)
      have hA' := hA.setFar (b := w.heap.size) (by omega) (hfar.imp id fun q ad ha => by have := q ad ha; omega) 4 (.int .i64 0)
      have p7' := owns_set2 p7 (b := w.heap.size) (fun j hj => by have := p7.lt j hj; have := hp7 j hj; omega) 4 (.int .i64 0)
      have p8' := owns_set2 p8 (b := w.heap.size) (fun j hj => by have := p8.lt j hj; have := hp8 j hj; omega) 4 (.int .i64 0)
      have p9' := owns_set2 p9 (b := w.heap.size) (fun j hj => by have := p9.lt j hj; have := hp9 j hj; omega) 4 (.int .i64 0)
      clear hC hS hc hs hG hA p7 p8 p9
      have hC := hC'
      have hS := hS'
      have hc := hc'
      have hs := hs'
      have hG := hG'
      have hA := hA'
      have p7 := p7'
      have p8 := p8'
      have p9 := p9'
      clear hC' hS' hc' hs' hG' hA' p7' p8' p9'
      have e10 := cell_heap (k := 5) (v := .int .i64 0) hC rfl
      have e11 := blk_frozen (j := 5) hC
      have hC' : ((((((w9.setCell ⟨w.heap.size, 0, none⟩ (.int .i64 0)).setCell ⟨w.heap.size, 1, none⟩ (.int .i64 0)).setCell ⟨w.heap.size, 2, none⟩ (.int .i64 0)).setCell ⟨w.heap.size, 3, none⟩ (.int .i64 0)).setCell ⟨w.heap.size, 4, none⟩ (.int .i64 0)).setCell ⟨w.heap.size, 5, none⟩ (.int .i64 0)).heap[w.heap.size]? = some (.cells #[.int .i64 0, .int .i64 0, .int .i64 0, .int .i64 0, .int .i64 0, .int .i64 0, .int .i64 0] 32 (0, 0)) := heap_setCell_same (((((w9.setCell ⟨w.heap.size, 0, none⟩ (.int .i64 0)).setCell ⟨w.heap.size, 1, none⟩ (.int .i64 0)).setCell ⟨w.heap.size, 2, none⟩ (.int .i64 0)).setCell ⟨w.heap.size, 3, none⟩ (.int .i64 0)).setCell ⟨w.heap.size, 4, none⟩ (.int .i64 0)) (w.heap.size) 5 _ _ _ hC
      have hS' : ((((((w9.setCell ⟨w.heap.size, 0, none⟩ (.int .i64 0)).setCell ⟨w.heap.size, 1, none⟩ (.int .i64 0)).setCell ⟨w.heap.size, 2, none⟩ (.int .i64 0)).setCell ⟨w.heap.size, 3, none⟩ (.int .i64 0)).setCell ⟨w.heap.size, 4, none⟩ (.int .i64 0)).setCell ⟨w.heap.size, 5, none⟩ (.int .i64 0)).heap[w.heap.size + 1]? = some (.cells #[.slice none 0 0, .slice none 0 0, .slice none 0 0] 71 (0, 0)) := heap_set_far hS (by omega)
      have hc' : ((((((w9.setCell ⟨w.heap.size, 0, none⟩ (.int .i64 0)).setCell ⟨w.heap.size, 1, none⟩ (.int .i64 0)).setCell ⟨w.heap.size, 2, none⟩ (.int .i64 0)).setCell ⟨w.heap.size, 3, none⟩ (.int .i64 0)).setCell ⟨w.heap.size, 4, none⟩ (.int .i64 0)).setCell ⟨w.heap.size, 5, none⟩ (.int .i64 0)).heap[y6.heap.size]? = some (.cells #[.int .i64 r0.1, .int .i64 r1.1, .int .i64 r2.1, .int .i64 r3.1, .int .i64 r4.1, .int .i64 r5.1, .int .i64 r6.1] 32 (0, 0)) := heap_set_far hc (by omega)
      have hs' : ((((((w9.setCell ⟨w.heap.size, 0, none⟩ (.int .i64 0)).setCell ⟨w.heap.size, 1, none⟩ (.int .i64 0)).setCell ⟨w.heap.size, 2, none⟩ (.int .i64 0)).setCell ⟨w.heap.size, 3, none⟩ (.int .i64 0)).setCell ⟨w.heap.size, 4, none⟩ (.int .i64 0)).setCell ⟨w.heap.size, 5, none⟩ (.int .i64 0)).heap[y6.heap.size + 1]? = some (.cells #[.slice a7 L7.length k7, .slice a8 L8.length k8, .slice a9 L9.length k9] 71 (0, 0)) := heap_set_far hs (by omega)
      have hG' := gb_set hG (b := w.heap.size) (by omega) 5 (.int .i64 0)
      have hA' := hA.setFar (b := w.heap.size) (by omega) (hfar.imp id fun q ad ha => by have := q ad ha; omega) 5 (.int .i64 0)
      have p7' := owns_set2 p7 (b := w.heap.size) (fun j hj => by have := p7.lt j hj; have := hp7 j hj; omega) 5 (.int .i64 0)
      have p8' := owns_set2 p8 (b := w.heap.size) (fun j hj => by have := p8.lt j hj; have := hp8 j hj; omega) 5 (.int .i64 0)
      have p9' := owns_set2 p9 (b := w.heap.size) (fun j hj => by have := p9.lt j hj; have := hp9 j hj; omega) 5 (.int .i64 0)
      clear hC hS hc hs hG hA p7 p8 p9
      have hC := hC'
      have hS := hS'
      have hc := hc'
      have hs := hs'
      have hG := hG'
      have hA := hA'
      have p7 := p7'
      have p8 := p8'
      have p9 := p9'
      clear hC' hS' hc' hs' hG' hA' p7' p8' p9'
      have e12 := cell_heap (k := 6) (v := .int .i64 0) hC rfl
      have e13 := blk_frozen (j := 6) hC
      have hC' : (((((((w9.setCell ⟨w.heap.size, 0, none⟩ (.int .i64 0)).setCell ⟨w.heap.size, 1, none⟩ (.int .i64 0)).setCell ⟨w.heap.size, 2, none⟩ (.int .i64 0)).setCell ⟨w.heap.size, 3, none⟩ (.int .i64 0)).setCell ⟨w.heap.size, 4, none⟩ (.int .i64 0)).setCell ⟨w.heap.size, 5, none⟩ (.int .i64 0)).setCell ⟨w.heap.size, 6, none⟩ (.int .i64 0)).heap[w.heap.size]? = some (.cells #[.int .i64 0, .int .i64 0, .int .i64 0, .int .i64 0, .int .i64 0, .int .i64 0, .int .i64 0] 32 (0, 0)) := heap_setCell_same ((((((w9.setCell ⟨w.heap.size, 0, none⟩ (.int .i64 0)).setCell ⟨w.heap.size, 1, none⟩ (.int .i64 0)).setCell ⟨w.heap.size, 2, none⟩ (.int .i64 0)).setCell ⟨w.heap.size, 3, none⟩ (.int .i64 0)).setCell ⟨w.heap.size, 4, none⟩ (.int .i64 0)).setCell ⟨w.heap.size, 5, none⟩ (.int .i64 0)) (w.heap.size) 6 _ _ _ hC
      have hS' : (((((((w9.setCell ⟨w.heap.size, 0, none⟩ (.int .i64 0)).setCell ⟨w.heap.size, 1, none⟩ (.int .i64 0)).setCell ⟨w.heap.size, 2, none⟩ (.int .i64 0)).setCell ⟨w.heap.size, 3, none⟩ (.int .i64 0)).setCell ⟨w.heap.size, 4, none⟩ (.int .i64 0)).setCell ⟨w.heap.size, 5, none⟩ (.int .i64 0)).setCell ⟨w.heap.size, 6, none⟩ (.int .i64 0)).heap[w.heap.size + 1]? = some (.cells #[.slice none 0 0, .slice none 0 0, .slice none 0 0] 71 (0, 0)) := heap_set_far hS (by omega)
      have hc' : (((((((w9.setCell ⟨w.heap.size, 0, none⟩ (.int .i64 0)).setCell ⟨w.heap.size, 1, none⟩ (.int .i64 0)).setCell ⟨w.heap.size, 2, none⟩ (.int .i64 0)).setCell ⟨w.heap.size, 3, none⟩ (.int .i64 0)).setCell ⟨w.heap.size, 4, none⟩ (.int .i64 0)).setCell ⟨w.heap.size, 5, none⟩ (.int .i64 0)).setCell ⟨w.heap.size, 6, none⟩ (.int .i64 0)).heap[y6.heap.size]? = some (.cells #[.int .i64 r0.1, .int .i64 r1.1, .int .i64 r2.1, .int .i64 r3.1, .int .i64 r4.1, .int .i64 r5.1, .int .i64 r6.1] 32 (0, 0)) := heap_set_far hc (by omega)
      have hs' : (((((((w9.setCell ⟨w.heap.size, 0, none⟩ (.int .i64 0)).setCell ⟨w.heap.size, 1, none⟩ (.int .i64 0)).setCell ⟨w.heap.size, 2, none⟩ (.int .i64 0)).setCell ⟨w.heap.size, 3, none⟩ (.int .i64 0)).setCell ⟨w.heap.size, 4, none⟩ (.int .i64 0)).setCell ⟨w.heap.size, 5, none⟩ (.int .i64 0)).setCell ⟨w.heap.size, 6, none⟩ (.int .i64 0)).heap[y6.heap.size + 1]? = some (.cells #[.slice a7 L7.length k7, .slice a8 L8.length k8, .slice a9 L9.length k9] 71 (0, 0)) := heap_set_far hs (by omega)
      have hG' := gb_set hG (b := w.heap.size) (by omega) 6 (.int .i64 0)
      have hA' := hA.setFar (b := w.heap.size) (by omega) (hfar.imp id fun q ad ha => by have := q ad ha; omega) 6 (.int .i64 0)
      have p7' := owns_set2 p7 (b := w.heap.size) (fun j hj => by have := p7.lt j hj; have := hp7 j hj; omega) 6 (.int .i64 0)
      have p8' := owns_set2 p8 (b := w.heap.size) (fun j hj => by have := p8.lt j hj; have := hp8 j hj; omega) 6 (.int .i64 0)
      have p9' := owns_set2 p9 (b := w.heap.size) (fun j hj => by have := p9.lt j hj; have := hp9 j hj; omega) 6 (.int .i64 0)
      clear hC hS hc hs hG hA p7 p8 p9
      have hC := hC'
      have hS := hS'
      have hc := hc'
      have hs := hs'
      have hG := hG'
      have hA := hA'
      have p7 := p7'
      have p8 := p8'
      have p9 := p9'
      clear hC' hS' hc' hs' hG' hA' p7' p8' p9'
      have e14 := cell_heap (k := 0) (v := .slice none 0 0) hS rfl
      have e15 := blk_frozen (j := 0) hS
      have hC' : ((((((((w9.setCell ⟨w.heap.size, 0, none⟩ (.int .i64 0)).setCell ⟨w.heap.size, 1, none⟩ (.int .i64 0)).setCell ⟨w.heap.size, 2, none⟩ (.int .i64 0)).setCell ⟨w.heap.size, 3, none⟩ (.int .i64 0)).setCell ⟨w.heap.size, 4, none⟩ (.int .i64 0)).setCell ⟨w.heap.size, 5, none⟩ (.int .i64 0)).setCell ⟨w.heap.size, 6, none⟩ (.int .i64 0)).setCell ⟨w.heap.size + 1, 0, none⟩ (.slice none 0 0)).heap[w.heap.size]? = some (.cells #[.int .i64 0, .int .i64 0, .int .i64 0, .int .i64 0, .int .i64 0, .int .i64 0, .int .i64 0] 32 (0, 0)) := heap_set_far hC (by omega)
      have hS' : ((((((((w9.setCell ⟨w.heap.size, 0, none⟩ (.int .i64 0)).setCell ⟨w.heap.size, 1, none⟩ (.int .i64 0)).setCell ⟨w.heap.size, 2, none⟩ (.int .i64 0)).setCell ⟨w.heap.size, 3, none⟩ (.int .i64 0)).setCell ⟨w.heap.size, 4, none⟩ (.int .i64 0)).setCell ⟨w.heap.size, 5, none⟩ (.int .i64 0)).setCell ⟨w.heap.size, 6, none⟩ (.int .i64 0)).setCell ⟨w.heap.size + 1, 0, none⟩ (.slice none 0 0)).heap[w.heap.size + 1]? = some (.cells #[.slice none 0 0, .slice none 0 0, .slice none 0 0] 71 (0, 0)) := heap_setCell_same (((((((w9.setCell ⟨w.heap.size, 0, none⟩ (.int .i64 0)).setCell ⟨w.heap.size, 1, none⟩ (.int .i64 0)).setCell ⟨w.heap.size, 2, none⟩ (.int .i64 0)).setCell ⟨w.heap.size, 3, none⟩ (.int .i64 0)).setCell ⟨w.heap.size, 4, none⟩ (.int .i64 0)).setCell ⟨w.heap.size, 5, none⟩ (.int .i64 0)).setCell ⟨w.heap.size, 6, none⟩ (.int .i64 0)) (w.heap.size + 1) 0 _ _ _ hS
      have hc' : ((((((((w9.setCell ⟨w.heap.size, 0, none⟩ (.int .i64 0)).setCell ⟨w.heap.size, 1, none⟩ (.int .i64 0)).setCell ⟨w.heap.size, 2, none⟩ (.int .i64 0)).setCell ⟨w.heap.size, 3, none⟩ (.int .i64 0)).setCell ⟨w.heap.size, 4, none⟩ (.int .i64 0)).setCell ⟨w.heap.size, 5, none⟩ (.int .i64 0)).setCell ⟨w.heap.size, 6, none⟩ (.int .i64 0)).setCell ⟨w.heap.size + 1, 0, none⟩ (.slice none 0 0)).heap[y6.heap.size]? = some (.cells #[.int .i64 r0.1, .int .i64 r1.1, .int .i64 r2.1, .int .i64 r3.1, .int .i64 r4.1, .int .i64 r5.1, .int .i64 r6.1] 32 (0, 0)) := heap_set_far hc (by omega)
      have hs' : ((((((((w9.setCell ⟨w.heap.size, 0, none⟩ (.int .i64 0)).setCell ⟨w.heap.size, 1, none⟩ (.int .i64 0)).setCell ⟨w.heap.size, 2, none⟩ (.int .i64 0)).setCell ⟨w.heap.size, 3, none⟩ (.int .i64 0)).setCell ⟨w.heap.size, 4, none⟩ (.int .i64 0)).setCell ⟨w.heap.size, 5, none⟩ (.int .i64 0)).setCell ⟨w.heap.size, 6, none⟩ (.int .i64 0)).setCell ⟨w.heap.size + 1, 0, none⟩ (.slice none 0 0)).heap[y6.heap.size + 1]? = some (.cells #[.slice a7 L7.length k7, .slice a8 L8.length k8, .slice a9 L9.length k9] 71 (0, 0)) := heap_set_far hs (by omega)
      have hG' := gb_set hG (b := w.heap.size + 1) (by omega) 0 (.slice none 0 0)
      have hA' := hA.setFar (b := w.heap.size + 1) (by omega) (hfar.imp id fun q ad ha => by have := q ad ha; omega) 0 (.slice none 0 0)
      have p7' := owns_set2 p7 (b := w.heap.size + 1) (fun j hj => by have := p7.lt j hj; have := hp7 j hj; omega) 0 (.slice none 0 0)
      have p8' := owns_set2 p8 (b := w.heap.size + 1) (fun j hj => by have := p8.lt j hj; have := hp8 j hj; omega) 0 (.slice none 0 0)
      have p9' := owns_set2 p9 (b := w.heap.size + 1) (fun j hj => by have := p9.lt j hj; have := hp9 j hj; omega) 0 (.slice none 0 0)
      clear hC hS hc hs hG hA p7 p8 p9
      have hC := hC'
      have hS := hS'
      have hc := hc'
      have hs := hs'
      have hG := hG'
      have hA := hA'
      have p7 := p7'
      have p8 := p8'
      have p9 := p9'
      clear hC' hS' hc' hs' hG' hA' p7' p8' p9'
      have e16 := cell_heap (k := 1) (v := .slice none 0 0) hS rfl
      have e17 := blk_frozen (j := 1) hS
      have hC' : (((((((((w9.setCell ⟨w.heap.size, 0, none⟩ (.int .i64 0)).setCell ⟨w.heap.size, 1, none⟩ (.int .i64 0)).setCell ⟨w.heap.size, 2, none⟩ (.int .i64 0)).setCell ⟨w.heap.size, 3, none⟩ (.int .i64 0)).setCell ⟨w.heap.size, 4, none⟩ (.int .i64 0)).setCell ⟨w.heap.size, 5, none⟩ (.int .i64 0)).setCell ⟨w.heap.size, 6, none⟩ (.int .i64 0)).setCell ⟨w.heap.size + 1, 0, none⟩ (.slice none 0 0)).setCell ⟨w.heap.size + 1, 1, none⟩ (.slice none 0 0)).heap[w.heap.size]? = some (.cells #[.int .i64 0, .int .i64 0, .int .i64 0, .int .i64 0, .int .i64 0, .int .i64 0, .int .i64 0] 32 (0, 0)) := heap_set_far hC (by omega)
      have hS' : (((((((((w9.setCell ⟨w.heap.size, 0, none⟩ (.int .i64 0)).setCell ⟨w.heap.size, 1, none⟩ (.int .i64 0)).setCell ⟨w.heap.size, 2, none⟩ (.int .i64 0)).setCell ⟨w.heap.size, 3, none⟩ (.int .i64 0)).setCell ⟨w.heap.size, 4, none⟩ (.int .i64 0)).setCell ⟨w.heap.size, 5, none⟩ (.int .i64 0)).setCell ⟨w.heap.size, 6, none⟩ (.int .i64 0)).setCell ⟨w.heap.size + 1, 0, none⟩ (.slice none 0 0)).setCell ⟨w.heap.size + 1, 1, none⟩ (.slice none 0 0)).heap[w.heap.size + 1]? = some (.cells #[.slice none 0 0, .slice none 0 0, .slice none 0 0] 71 (0, 0)) := heap_setCell_same ((((((((w9.setCell ⟨w.heap.size, 0, none⟩ (.int .i64 0)).setCell ⟨w.heap.size, 1, none⟩ (.int .i64 0)).setCell ⟨w.heap.size, 2, none⟩ (.int .i64 0)).setCell ⟨w.heap.size, 3, none⟩ (.int .i64 0)).setCell ⟨w.heap.size, 4, none⟩ (.int .i64 0)).setCell ⟨w.heap.size, 5, none⟩ (.int .i64 0)).setCell ⟨w.heap.size, 6, none⟩ (.int .i64 0)).setCell ⟨w.heap.size + 1, 0, none⟩ (.slice none 0 0)) (w.heap.size + 1) 1 _ _ _ hS
      have hc' : (((((((((w9.setCell ⟨w.heap.size, 0, none⟩ (.int .i64 0)).setCell ⟨w.heap.size, 1, none⟩ (.int .i64 0)).setCell ⟨w.heap.size, 2, none⟩ (.int .i64 0)).setCell ⟨w.heap.size, 3, none⟩ (.int .i64 0)).setCell ⟨w.heap.size, 4, none⟩ (.int .i64 0)).setCell ⟨w.heap.size, 5, none⟩ (.int .i64 0)).setCell ⟨w.heap.size, 6, none⟩ (.int .i64 0)).setCell ⟨w.heap.size + 1, 0, none⟩ (.slice none 0 0)).setCell ⟨w.heap.size + 1, 1, none⟩ (.slice none 0 0)).heap[y6.heap.size]? = some (.cells #[.int .i64 r0.1, .int .i64 r1.1, .int .i64 r2.1, .int .i64 r3.1, .int .i64 r4.1, .int .i64 r5.1, .int .i64 r6.1] 32 (0, 0)) := heap_set_far hc (by omega)
      have hs' : (((((((((w9.setCell ⟨w.heap.size, 0, none⟩ (.int .i64 0)).setCell ⟨w.heap.size, 1, none⟩ (.int .i64 0)).setCell ⟨w.heap.size, 2, none⟩ (.int .i64 0)).setCell ⟨w.heap.size, 3, none⟩ (.int .i64 0)).setCell ⟨w.heap.size, 4, none⟩ (.int .i64 0)).setCell ⟨w.heap.size, 5, none⟩ (.int .i64 0)).setCell ⟨w.heap.size, 6, none⟩ (.int .i64 0)).setCell ⟨w.heap.size + 1, 0, none⟩ (.slice none 0 0)).setCell ⟨w.heap.size + 1, 1, none⟩ (.slice none 0 0)).heap[y6.heap.size + 1]? = some (.cells #[.slice a7 L7.length k7, .slice a8 L8.length k8, .slice a9 L9.length k9] 71 (0, 0)) := heap_set_far hs (by omega)
      have hG' := gb_set hG (b := w.heap.size + 1) (by omega) 1 (.slice none 0 0)
      have hA' := hA.setFar (b := w.heap.size + 1) (by omega) (hfar.imp id fun q ad ha => by have := q ad ha; omega) 1 (.slice none 0 0)
      have p7' := owns_set2 p7 (b := w.heap.size + 1) (fun j hj => by have := p7.lt j hj; have := hp7 j hj; omega) 1 (.slice none 0 0)
      have p8' := owns_set2 p8 (b := w.heap.size + 1) (fun j hj => by have := p8.lt j hj; have := hp8 j hj; omega) 1 (.slice none 0 0)
      have p9' := owns_set2 p9 (b := w.heap.size + 1) (fun j hj => by have := p9.lt j hj; have := hp9 j hj; omega) 1 (.slice none 0 0)
      clear hC hS hc hs hG hA p7 p8 p9
      have hC := hC'
      have hS := hS'
      have hc := hc'
      have hs := hs'
      have hG := hG'
      have hA := hA'
      have p7 := p7'
      have p8 := p8'
      have p9 := p9'
      clear hC' hS' hc' hs' hG' hA' p7' p8' p9'
      have e18 := cell_heap (k := 2) (v := .slice none 0 0) hS rfl
      have e19 := blk_frozen (j := 2) hS
      have hC' : ((((((((((w9.setCell ⟨w.heap.size, 0, none⟩ (.int .i64 0)).setCell ⟨w.heap.size, 1, none⟩ (.int .i64 0)).setCell ⟨w.heap.size, 2, none⟩ (.int .i64 0)).setCell ⟨w.heap.size, 3, none⟩ (.int .i64 0)).setCell ⟨w.heap.size, 4, none⟩ (.int .i64 0)).setCell ⟨w.heap.size, 5, none⟩ (.int .i64 0)).setCell ⟨w.heap.size, 6, none⟩ (.int .i64 0)).setCell ⟨w.heap.size + 1, 0, none⟩ (.slice none 0 0)).setCell ⟨w.heap.size + 1, 1, none⟩ (.slice none 0 0)).setCell ⟨w.heap.size + 1, 2, none⟩ (.slice none 0 0)).heap[w.heap.size]? = some (.cells #[.int .i64 0, .int .i64 0, .int .i64 0, .int .i64 0, .int .i64 0, .int .i64 0, .int .i64 0] 32 (0, 0)) := heap_set_far hC (by omega)
      have hS' : ((((((((((w9.setCell ⟨w.heap.size, 0, none⟩ (.int .i64 0)).setCell ⟨w.heap.size, 1, none⟩ (.int .i64 0)).setCell ⟨w.heap.size, 2, none⟩ (.int .i64 0)).setCell ⟨w.heap.size, 3, none⟩ (.int .i64 0)).setCell ⟨w.heap.size, 4, none⟩ (.int .i64 0)).setCell ⟨w.heap.size, 5, none⟩ (.int .i64 0)).setCell ⟨w.heap.size, 6, none⟩ (.int .i64 0)).setCell ⟨w.heap.size + 1, 0, none⟩ (.slice none 0 0)).setCell ⟨w.heap.size + 1, 1, none⟩ (.slice none 0 0)).setCell ⟨w.heap.size + 1, 2, none⟩ (.slice none 0 0)).heap[w.heap.size + 1]? = some (.cells #[.slice none 0 0, .slice none 0 0, .slice none 0 0] 71 (0, 0)) := heap_setCell_same (((((((((w9.setCell ⟨w.heap.size, 0, none⟩ (.int .i64 0)).setCell ⟨w.heap.size, 1, none⟩ (.int .i64 0)).setCell ⟨w.heap.size, 2, none⟩ (.int .i64 0)).setCell ⟨w.heap.size, 3, none⟩ (.int .i64 0)).setCell ⟨w.heap.size, 4, none⟩ (.int .i64 0)).setCell ⟨w.heap.size, 5, none⟩ (.int .i64 0)).setCell ⟨w.heap.size, 6, none⟩ (.int .i64 0)).setCell ⟨w.heap.size + 1, 0, none⟩ (.slice none 0 0)).setCell ⟨w.heap.size + 1, 1, none⟩ (.slice none 0 0)) (w.heap.size + 1) 2 _ _ _ hS
      have hc' : ((((((((((w9.setCell ⟨w.heap.size, 0, none⟩ (.int .i64 0)).setCell ⟨w.heap.size, 1, none⟩ (.int .i64 0)).setCell ⟨w.heap.size, 2, none⟩ (.int .i64 0)).setCell ⟨w.heap.size, 3, none⟩ (.int .i64 0)).setCell ⟨w.heap.size, 4, none⟩ (.int .i64 0)).setCell ⟨w.heap.size, 5, none⟩ (.int .i64 0)).setCell ⟨w.heap.size, 6, none⟩ (.int .i64 0)).setCell ⟨w.heap.size + 1, 0, none⟩ (.slice none 0 0)).setCell ⟨w.heap.size + 1, 1, none⟩ (.slice none 0 0)).setCell ⟨w.heap.size + 1, 2, none⟩ (.slice none 0 0)).heap[y6.heap.size]? = some (.cells #[.int .i64 r0.1, .int .i64 r1.1, .int .i64 r2.1, .int .i64 r3.1, .int .i64 r4.1, .int .i64 r5.1, .int .i64 r6.1] 32 (0, 0)) := heap_set_far hc (by omega)
      have hs' : ((((((((((w9.setCell ⟨w.heap.size, 0, none⟩ (.int .i64 0)).setCell ⟨w.heap.size, 1, none⟩ (.int .i64 0)).setCell ⟨w.heap.size, 2, none⟩ (.int .i64 0)).setCell ⟨w.heap.size, 3, none⟩ (.int .i64 0)).setCell ⟨w.heap.size, 4, none⟩ (.int .i64 0)).setCell ⟨w.heap.size, 5, none⟩ (.int .i64 0)).setCell ⟨w.heap.size, 6, none⟩ (.int .i64 0)).setCell ⟨w.heap.size + 1, 0, none⟩ (.slice none 0 0)).setCell ⟨w.heap.size + 1, 1, none⟩ (.slice none 0 0)).setCell ⟨w.heap.size + 1, 2, none⟩ (.slice none 0 0)).heap[y6.heap.size + 1]? = some (.cells #[.slice a7 L7.length k7, .slice a8 L8.length k8, .slice a9 L9.length k9] 71 (0, 0)) := heap_set_far hs (by omega)
      have hG' := gb_set hG (b := w.heap.size + 1) (by omega) 2 (.slice none 0 0)
      have hA' := hA.setFar (b := w.heap.size + 1) (by omega) (hfar.imp id fun q ad ha => by have := q ad ha; omega) 2 (.slice none 0 0)
      have p7' := owns_set2 p7 (b := w.heap.size + 1) (fun j hj => by have := p7.lt j hj; have := hp7 j hj; omega) 2 (.slice none 0 0)
      have p8' := owns_set2 p8 (b := w.heap.size + 1) (fun j hj => by have := p8.lt j hj; have := hp8 j hj; omega) 2 (.slice none 0 0)
      have p9' := owns_set2 p9 (b := w.heap.size + 1) (fun j hj => by have := p9.lt j hj; have := hp9 j hj; omega) 2 (.slice none 0 0)
      clear hC hS hc hs hG hA p7 p8 p9
      have hC := hC'
      have hS := hS'
      have hc := hc'
      have hs := hs'
      have hG := hG'
      have hA := hA'
      have p7 := p7'
      have p8 := p8'
      have p9 := p9'
      clear hC' hS' hc' hs' hG' hA' p7' p8' p9'
      go_wp2
      refine bodyPost_ret (results_cct rfl _ _ w.heap.size 32 #[.int .i64 0, .int .i64 0, .int .i64 0, .int .i64 0, .int .i64 0, .int .i64 0, .int .i64 0] (0, 0) _ (w.heap.size + 1) 71 #[.slice none 0 0, .slice none 0 0, .slice none 0 0] (0, 0) _ rfl hC Try.underlying32 rfl (by kernel_rfl) rfl hS Try.underlying71 rfl (by kernel_rfl)) rfl ?_
      unfold rdPost
      rw [HW.out]
      exact ⟨⟨none, 0, 0⟩, ⟨none, 0, 0⟩, ⟨none, 0, 0⟩, rfl, ⟨SlR.nil _ _ _, SlR.nil _ _ _, SlR.nil _ _ _⟩, gn_below hG⟩
    | false =>
      rw [hbd] at cf
      obtain ⟨E, hE⟩ : ∃ E, E = soupE ⟨r0.1, r1.1, r2.1, r3.1, r4.1, r5.1, r6.1⟩ ⟨L7, L8, L9⟩ := ⟨_, rfl⟩
      have hs7 : SlR triC 10 w9 a7 L7.length k7 L7 := by obtain ⟨x1, x2, h1, h2⟩ := SlR.of_owns (f := triC) (sz := 10) (fun _ => rfl) rfl p7; cases h1; exact h2
      have hs8 : SlR bxC 8 w9 a8 L8.length k8 L8 := by obtain ⟨x1, x2, h1, h2⟩ := SlR.of_owns (f := bxC) (sz := 8) (fun _ => rfl) rfl p8; cases h1; exact h2
      have hs9 : SlR hpC 10 w9 a9 L9.length k9 L9 := by obtain ⟨x1, x2, h1, h2⟩ := SlR.of_owns (f := hpC) (sz := 10) (fun _ => rfl) rfl p9; cases h1; exact h2
      have CK := refsoupcheck_any ⟨r0.1, r1.1, r2.1, r3.1, r4.1, r5.1, r6.1⟩ ⟨a7, L7.length, k7⟩ ⟨a8, L8.length, k8⟩ ⟨a9, L9.length, k9⟩ ⟨L7, L8, L9⟩ w9 ⟨hs7, hs8, hs9⟩
      rw [← hE] at CK HV1
      unfold cfgV soupV SHead.v at CK
      simp only at CK
      clear hE hs7 hs8 hs9
      have e0 := cell_heap (k := 0) (v := .int .i64 r0.1) hc rfl
      have e1 := cell_heap (k := 1) (v := .int .i64 r1.1) hc rfl
      have e2 := cell_heap (k := 2) (v := .int .i64 r2.1) hc rfl
      have e3 := cell_heap (k := 3) (v := .int .i64 r3.1) hc rfl
      have e4 := cell_heap (k := 4) (v := .int .i64 r4.1) hc rfl
      have e5 := cell_heap (k := 5) (v := .int .i64 r5.1) hc rfl
      have e6 := cell_heap (k := 6) (v := .int .i64 r6.1) hc rfl
      have e7 := cell_heap (k := 0) (v := .slice a7 L7.length k7) hs rfl
      have e8 := cell_heap (k := 1) (v := .slice a8 L8.length k8) hs rfl
      have e9 := cell_heap (k := 2) (v := .slice a9 L9.length k9) hs rfl
      go_wp2_with fail
      refine CK.mono ?_
      rintro e yk ⟨rfl, hbk⟩
      clear CK
      clear e0 e1 e2 e3 e4 e5 e6 e7 e8 e9
      have hC' := (hbk.block _ (Array.getElem?_eq_some_iff.1 hC).1).trans hC
      have hS' := (hbk.block _ (Array.getElem?_eq_some_iff.1 hS).1).trans hS
      have hc' := (hbk.block _ (Array.getElem?_eq_some_iff.1 hc).1).trans hc
      have hs' := (hbk.block _ (Array.getElem?_eq_some_iff.1 hs).1).trans hs
      have hR' := (hbk.block _ hA.lt).trans hA.blk
      have hgn : World.grownBy w9 yk none := ⟨hbk.os, hbk.tape, hbk.output, hbk.size, fun i hi _ => hbk.block i hi⟩
      have hG' := hG.trans hgn
      have p7' := p7.kept hgn (by cases Value.ownBlock (.slice a7 L7.length k7) <;> simp)
      have p8' := p8.kept hgn (by cases Value.ownBlock (.slice a8 L8.length k8) <;> simp)
      have p9' := p9.kept hgn (by cases Value.ownBlock (.slice a9 L9.length k9) <;> simp)
      clear hgn hA cf
      clear hC hS hc hs hG p7 p8 p9
      have hC := hC'
      have hS := hS'
      have hc := hc'
      have hs := hs'
      have hG := hG'
      have p7 := p7'
      have p8 := p8'
      have p9 := p9'
      clear hC' hS' hc' hs' hG' p7' p8' p9'
      by_cases hE0 : E = 0
      rotate_left
      · have hd : (E != 0) = true := by simpa using hE0
        have HW : Hid (V = (cfg0, sou0, 0, 200)) := by show _ = _; rw [HV1.out, if_pos (.inr hE0)]
        have e0 := cell_heap (k := 0) (v := .int .i64 0) hC rfl
        have e1 := blk_frozen (j := 0) hC
        have hC' : (yk.setCell ⟨w.heap.size, 0, none⟩ (.int .i64 0)).heap[w.heap.size]? = some (.cells #[.int .i64 0, .int .i64 0, .int .i64 0, .int .i64 0, .int .i64 0, .int .i64 0, .int .i64 0] 32 (0, 0)) := heap_setCell_same yk (w.heap.size) 0 _ _ _ hC
        have hS' : (yk.setCell ⟨w.heap.size, 0, none⟩ (.int .i64 0)).heap[w.heap.size + 1]? = some (.cells #[.slice none 0 0, .slice none 0 0, .slice none 0 0] 71 (0, 0)) := heap_set_far hS (by omega)
        have hc' : (yk.setCell ⟨w.heap.size, 0, none⟩ (.int .i64 0)).heap[y6.heap.size]? = some (.cells #[.int .i64 r0.1, .int .i64 r1.1, .int .i64 r2.1, .int .i64 r3.1, .int .i64 r4.1, .int .i64 r5.1, .int .i64 r6.1] 32 (0, 0)) := heap_set_far hc (by omega)
        have hs' : (yk.setCell ⟨w.heap.size, 0, none⟩ (.int .i64 0)).heap[y6.heap.size + 1]? = some (.cells #[.slice a7 L7.length k7, .slice a8 L8.length k8, .slice a9 L9.length k9] 71 (0, 0)) := heap_set_far hs (by omega)
        have hG' := gb_set hG (b := w.heap.size) (by omega) 0 (.int .i64 0)
        have p7' := owns_set2 p7 (b := w.heap.size) (fun j hj => by have := p7.lt j hj; have := hp7 j hj; omega) 0 (.int .i64 0)
        have p8' := owns_set2 p8 (b := w.heap.size) (fun j hj => by have := p8.lt j hj; have := hp8 j hj; omega) 0 (.int .i64 0)
        have p9' := owns_set2 p9 (b := w.heap.size) (fun j hj => by have := p9.lt j hj; have := hp9 j hj; omega) 0 (.int .i64 0)
        clear hC hS hc hs hG p7 p8 p9
        have hC := hC'
        have hS := hS'
        have hc := hc'
        have hs := hs'
        have hG := hG'
        have p7 := p7'
        have p8 := p8'
        have p9 := p9'
        clear hC' hS' hc' hs' hG' p7' p8' p9'
        have e2 := cell_heap (k := 1) (v := .int .i64 0) hC rfl
        have e3 := blk_frozen (j := 1) hC
        have hC' : ((yk.setCell ⟨w.heap.size, 0, none⟩ (.int .i64 0)).setCell ⟨w.heap.size, 1, none⟩ (.int .i64 0)).heap[w.heap.size]? = some (.cells #[.int .i64 0, .int .i64 0, .int .i64 0, .int .i64 0, .int .i64 0, .int .i64 0, .int .i64 0] 32 (0, 0)) := heap_setCell_same (yk.setCell ⟨w.heap.size, 0, none⟩ (.int .i64 0)) (w.heap.size) 1 _ _ _ hC
        have hS' : ((yk.setCell ⟨w.heap.size, 0, none⟩ (.int .i64 0)).setCell ⟨w.heap.size, 1, none⟩ (.int .i64 0)).heap[w.heap.size + 1]? = some (.cells #[.slice none 0 0, .slice none 0 0, .slice none 0 0] 71 (0, 0)) := heap_set_far hS (by omega)
        have hc' : ((yk.setCell ⟨w.heap.size, 0, none⟩ (.int .i64 0)).setCell ⟨w.heap.size, 1, none⟩ (.int .i64 0)).heap[y6.heap.size]? = some (.cells #[.int .i64 r0.1, .int .i64 r1.1, .int .i64 r2.1, .int .i64 r3.1, .int .i64 r4.1, .int .i64 r5.1, .int .i64 r6.1] 32 (0, 0)) := heap_set_far hc (by omega)
        have hs' : ((yk.setCell ⟨w.heap.size, 0, none⟩ (.int .i64 0)).setCell ⟨w.heap.size, 1, none⟩ (.int .i64 0)).heap[y6.heap.size + 1]? = some (.cells #[.slice a7 L7.length k7, .slice a8 L8.length k8, .slice a9 L9.length k9] 71 (0, 0)) := heap_set_far hs (by omega)
        have hG' := gb_set hG (b := w.heap.size) (by omega) 1 (.int .i64 0)
        have p7' := owns_set2 p7 (b := w.heap.size) (fun j hj => by have := p7.lt j hj; have := hp7 j hj; omega) 1 (.int .i64 0)
        have p8' := owns_set2 p8 (b := w.heap.size) (fun j hj => by have := p8.lt j hj; have := hp8 j hj; omega) 1 (.int .i64 0)
        have p9' := owns_set2 p9 (b := w.heap.size) (fun j hj => by have := p9.lt j hj; have := hp9 j hj; omega) 1 (.int .i64 0)
        clear hC hS hc hs hG p7 p8 p9
        have hC := hC'
        have hS := hS'
        have hc := hc'
        have hs := hs'
        have hG := hG'
        have p7 := p7'
        have p8 := p8'
        have p9 := p9'
        clear hC' hS' hc' hs' hG' p7' p8' p9'
        have e4 := cell_heap (k := 2) (v := .int .i64 0) hC rfl
        have e5 := blk_frozen (j := 2) hC
        have hC' : (((yk.setCell ⟨w.heap.size, 0, none⟩ (.int .i64 0)).setCell ⟨w.heap.size, 1, none⟩ (.int .i64 0)).setCell ⟨w.heap.size, 2, none⟩ (.int .i64 0)).heap[w.heap.size]? = some (.cells #[.int .i64 0, .int .i64 0, .int .i64 0, .int .i64 0, .int .i64 0, .int .i64 0, .int .i64 0] 32 (0, 0)) := heap_setCell_same ((yk.setCell ⟨w.heap.size, 0, none⟩ (.int .i64 0)).setCell ⟨w.heap.size, 1, none⟩ (.int .i64 0)) (w.heap.size) 2 _ _ _ hC
        have hS' : (((yk.setCell ⟨w.heap.size, 0, none⟩ (.int .i64 0)).setCell ⟨w.heap.size, 1, none⟩ (.int .i64 0)).setCell ⟨w.heap.size, 2, none⟩ (.int .i64 0)).heap[w.heap.size + 1]? = some (.cells #[.slice none 0 0, .slice none 0 0, .slice none 0 0] 71 (0, 0)) := heap_set_far hS (by omega)
        have hc' : (((yk.setCell ⟨w.heap.size, 0, none⟩ (.int .i64 0)).setCell ⟨w.heap.size, 1, none⟩ (.int .i64 0)).setCell ⟨w.heap.size, 2, none⟩ (.int .i64 0)).heap[y6.heap.size]? = some (.cells #[.int .i64 r0.1, .int .i64 r1.1, .int .i64 r2.1, .int .i64 r3.1, .int .i64 r4.1, .int .i64 r5.1, .int .i64 r6.1] 32 (0, 0)) := heap_set_far hc (by omega)
        have hs' : (((yk.setCell ⟨w.heap.size, 0, none⟩ (.int .i64 0)).setCell ⟨w.heap.size, 1, none⟩ (.int .i64 0)).setCell ⟨w.heap.size, 2, none⟩ (.int .i64 0)).heap[y6.heap.size + 1]? = some (.cells #[.slice a7 L7.length k7, .slice a8 L8.length k8, .slice a9 L9.length k9] 71 (0, 0)) := heap_set_far hs (by omega)
        have hG' := gb_set hG (b := w.heap.size) (by omega) 2 (.int .i64 0)
        have p7' := owns_set2 p7 (b := w.heap.size) (fun j hj => by have := p7.lt j hj; have := hp7 j hj; omega) 2 (.int .i64 0)
        have p8' := owns_set2 p8 (b := w.heap.size) (fun j hj => by have := p8.lt j hj; have := hp8 j hj; omega) 2 (.int .i64 0)
        have p9' := owns_set2 p9 (b := w.heap.size) (fun j hj => by have := p9.lt j hj; have := hp9 j hj; omega) 2 (.int .i64 0)
        clear hC hS hc hs hG p7 p8 p9
        have hC := hC'
        have hS := hS'
        have hc := hc'
        have hs := hs'
        have hG := hG'
        have p7 := p7'
        have p8 := p8'
        have p9 := p9'
        clear hC' hS' hc' hs' hG' p7' p8' p9'
        have e6 := cell_heap (k := 3) (v := .int .i64 0) hC rfl
        have e7 := blk_frozen (j := 3) hC
        have hC' : ((((yk.setCell ⟨w.heap.size, 0, none⟩ (.int .i64 0)).setCell ⟨w.heap.size, 1, none⟩ (.int .i64 0)).setCell ⟨w.heap.size, 2, none⟩ (.int .i64 0)).setCell ⟨w.heap.size, 3, none⟩ (.int .i64 0)).heap[w.heap.size]? = some (.cells #[.int .i64 0, .int .i64 0, .int .i64 0, .int .i64 0, .int .i64 0, .int .i64 0, .int .i64 0] 32 (0, 0)) := heap_setCell_same (((yk.setCell ⟨w.heap.size, 0, none⟩ (.int .i64 0)).setCell ⟨w.heap.size, 1, none⟩ (.int .i64 0)).setCell ⟨w.heap.size, 2, none⟩ (.int .i64 0)) (w.heap.size) 3 _ _ _ hC
        have hS' : ((((yk.setCell ⟨w.heap.size, 0, none⟩ (.int .i64 0)).setCell ⟨w.heap.size, 1, none⟩ (.int .i64 0)).setCell ⟨w.heap.size, 2, none⟩ (.int .i64 0)).setCell ⟨w.heap.size, 3, none⟩ (.int .i64 0)).heap[w.heap.size + 1]? = some (.cells #[.slice none 0 0, .slice none 0 0, .slice none 0 0] 71 (0, 0)) := heap_set_far hS (by omega)
        have hc' : ((((yk.setCell ⟨w.heap.size, 0, none⟩ (.int .i64 0)).setCell ⟨w.heap.size, 1, none⟩ (.int .i64 0)).setCell ⟨w.heap.size, 2, none⟩ (.int .i64 0)).setCell ⟨w.heap.size, 3, none⟩ (.int .i64 0)).heap[y6.heap.size]? = some (.cells #[.int .i64 r0.1, .int .i64 r1.1, .int .i64 r2.1, .int .i64 r3.1, .int .i64 r4.1, .int .i64 r5.1, .int .i64 r6.1] 32 (0, 0)) := heap_set_far hc (by omega)
        have hs' : ((((yk.setCell ⟨w.heap.size, 0, none⟩ (.int .i64 0)).setCell ⟨w.heap.size, 1, none⟩ (.int .i64 0)).setCell ⟨w.heap.size, 2, none⟩ (.int .i64 0)).setCell ⟨w.heap.size, 3, none⟩ (.int .i64 0)).heap[y6.heap.size + 1]? = some (.cells #[.slice a7 L7.length k7, .slice a8 L8.length k8, .slice a9 L9.length k9] 71 (0, 0)) := heap_set_far hs (by omega)
        have hG' := gb_set hG (b := w.heap.size) (by omega) 3 (.int .i64 0)
        have p7' := owns_set2 p7 (b := w.heap.size) (fun j hj => by have := p7.lt j hj; have := hp7 j hj; omega) 3 (.int .i64 0)
        have p8' := owns_set2 p8 (b := w.heap.size) (fun j hj => by have := p8.lt j hj; have := hp8 j hj; omega) 3 (.int .i64 0)
        have p9' := owns_set2 p9 (b := w.heap.size) (fun j hj => by have := p9.lt j hj; have := hp9 j hj; omega) 3 (.int .i64 0)
        clear hC hS hc hs hG p7 p8 p9
        have hC := hC'
        have hS := hS'
        have hc := hc'
        have hs := hs'
        have hG := hG'
        have p7 := p7'
        have p8 := p8'
        have p9 := p9'
        clear hC' hS' hc' hs' hG' p7' p8' p9'
        have e8 := cell_heap (k := 4) (v := .int .i64 0) hC rfl
        have e9 := blk_frozen (j := 4) hC
        have hC' : (((((yk.setCell ⟨w.heap.size, 0, none⟩ (.int .i64 0)).setCell ⟨w.heap.size, 1, none⟩ (.int .i64 0)).setCell ⟨w.heap.size, 2, none⟩ (.int .i64 0)).setCell ⟨w.heap.size, 3, none⟩ (.int .i64 0)).setCell ⟨w.heap.size, 4, none⟩ (.int .i64 0)).heap[w.heap.size]? = some (.cells #[.int .i64 0, .int .i64 0, .int .i64 0, .int .i64 0, .int .i64 0, .int .i64 0, .int .i64 0] 32 (0, 0)) := heap_setCell_same ((((yk.setCell ⟨w.heap.size, 0, none⟩ (.int .i64 0)).setCell ⟨w.heap.size, 1, none⟩ (.int .i64 0)).setCell ⟨w.heap.size, 2, none⟩ (.int .i64 0)).setCell ⟨w.heap.size, 3, none⟩ (.int .i64 0)) (w.heap.size) 4 _ _ _ hC
        have hS' : (((((yk.setCell ⟨w.heap.size, 0, none⟩ (.int .i64 0)).setCell ⟨w.heap.size, 1, none⟩ (.int .i64 0)).setCell ⟨w.heap.size, 2, none⟩ (.int .i64 0)).setCell ⟨w.heap.size, 3, none⟩ (.int .i64 0)).setCell ⟨w.heap.size, 4, none⟩ (.int .i64 0)).heap[w.heap.size + 1]? = some (.cells #[.slice none 0 0, .slice none 0 0, .slice none 0 0] 71 (0, 0)) := heap_set_far hS (by omega)
        have hc' : (((((yk.setCell ⟨w.heap.size, 0, none⟩ (.int .i64 0)).setCell ⟨w.heap.size, 1, none⟩ (.int .i64 0)).setCell ⟨w.heap.size, 2, none⟩ (.int .i64 0)).setCell ⟨w.heap.size, 3, none⟩ (.int .i64 0)).setCell ⟨w.heap.size, 4, none⟩ (.int .i64 0)).heap[y6.heap.size]? = some (.cells #[.int .i64 r0.1, .int .i64 r1.1, .int .i64 r2.1, .int .i64 r3.1, .int .i64 r4.1, .int .i64 r5.1, .int .i64 r6.1] 32 (0, 0)) := heap_set_far hc (by omega)
        have hs' : (((((yk.setCell ⟨w.heap.size, 0, none⟩ (.int .i64 0)).setCell ⟨w.heap.size, 1, none⟩ (.int .i64 0)).setCell ⟨w.heap.size, 2, none⟩ (.int .i64 0)).setCell ⟨w.heap.size, 3, none⟩ (.int .i64 0)).setCell ⟨w.heap.size, 4, none⟩ (.int .i64 0)).heap[y6.heap.size + 1]? = some (.cells #[.slice a7 L7.length k7, .slice a8 L8.length k8, .slice a9 L9.length k9] 71 (0, 0)) := heap_set_far hs (by omega)
        have hG' := gb_set hG (b := w.heap.size) (by omega) 4 (.int .i64 0)
        have p7' := owns_set2 p7 (b := w.heap.size) (fun j hj => by have := p7.lt j hj; have := hp7 j hj; omega) 4 (.int .i64 0)
        have p8' := owns_set2 p8 (b := w.heap.size) (fun j hj => by have := p8.lt j hj; have := hp8 j hj; omega) 4 (.int .i64 0)
        have p9' := owns_set2 p9 (b := w.heap.size) (fun j hj => by have := p9.lt j hj; have := hp9 j hj; omega) 4 (.int .i64 0)
        clear hC hS hc hs hG p7 p8 p9
        have hC := hC'
        have hS := hS'
        have hc := hc'
        have hs := hs'
        have hG := hG'
        have p7 := p7'
        have p8 := p8'
        have p9 := p9'
        clear hC' hS' hc' hs' hG' p7' p8' p9'
        have e10 := cell_heap (k := 5) (v := .int .i64 0) hC rfl
        have e11 := blk_frozen (j := 5) hC
        have hC' : ((((((yk.setCell ⟨w.heap.size, 0, none⟩ (.int .i64 0)).setCell ⟨w.heap.size, 1, none⟩ (.int .i64 0)).setCell ⟨w.heap.size, 2, none⟩ (.int .i64 0)).setCell ⟨w.heap.size, 3, none⟩ (.int .i64 0)).setCell ⟨w.heap.size, 4, none⟩ (.int .i64 0)).setCell ⟨w.heap.size, 5, none⟩ (.int .i64 0)).heap[w.heap.size]? = some (.cells #[.int .i64 0, .int .i64 0, .int .i64 0, .int .i64 0, .int .i64 0, .int .i64 0, .int .i64 0] 32 (0, 0)) := heap_setCell_same (((((yk.setCell ⟨w.heap.size, 0, none⟩ (.int .i64 0)).setCell ⟨w.heap.size, 1, none⟩ (.int .i64 0)).setCell ⟨w.heap.size, 2, none⟩ (.int .i64 0)).setCell ⟨w.heap.size, 3, none⟩ (.int .i64 0)).setCell ⟨w.heap.size, 4, none⟩ (.int .i64 0)) (w.heap.size) 5 _ _ _ hC
        have hS' : ((((((yk.setCell ⟨w.heap.size, 0, none⟩ (.int .i64 0)).setCell ⟨w.heap.size, 1, none⟩ (.int .i64 0)).setCell ⟨w.heap.size, 2, none⟩ (.int .i64 0)).setCell ⟨w.heap.size, 3, none⟩ (.int .i64 0)).setCell ⟨w.heap.size, 4, none⟩ (.int .i64 0)).setCell ⟨w.heap.size, 5, none⟩ (.int .i64 0)).heap[w.heap.size + 1]? = some (.cells #[.slice none 0 0, .slice none 0 0, .slice none 0 0] 71 (0, 0)) := heap_set_far hS (by omega)
        have hc' : ((((((yk.setCell ⟨w.heap.size, 0, none⟩ (.int .i64 0)).setCell ⟨w.heap.size, 1, none⟩ (.int .i64 0)).setCell ⟨w.heap.size, 2, none⟩ (.int .i64 0)).setCell ⟨w.heap.size, 3, none⟩ (.int .i64 0)).setCell ⟨w.heap.size, 4, none⟩ (.int .i64 0)).setCell ⟨w.heap.size, 5, none⟩ (.int .i64 0)).heap[y6.heap.size]? = some (.cells #[.int .i64 r0.1, .int .i64 r1.1, .int .i64 r2.1, .int .i64 r3.1, .int .i64 r4.1, .int .i64 r5.1, .int .i64 r6.1] 32 (0, 0)) := heap_set_far hc (by omega)
        have hs' : ((((((yk.setCell ⟨w.heap.size, 0, none⟩ (.int .i64 0)).setCell ⟨w.heap.size, 1, none⟩ (.int .i64 0)).setCell ⟨w.heap.size, 2, none⟩ (.int .i64 0)).setCell ⟨w.heap.size, 3, none⟩ (.int .i64 0)).setCell ⟨w.heap.size, 4, none⟩ (.int .i64 0)).setCell ⟨w.heap.size, 5, none⟩ (.int .i64 0)).heap[y6.heap.size + 1]? = some (.cells #[.slice a7 L7.length k7, .slice a8 L8.length k8, .slice a9 L9.length k9] 71 (0, 0)) := heap_set_far hs (by omega)
        have hG' := gb_set hG (b := w.heap.size) (by omega) 5 (.int .i64 0)
        have p7' := owns_set2 p7 (b := w.heap.size) (fun j hj => by have := p7.lt j hj; have := hp7 j hj; omega) 5 (.int .i64 0)
        have p8' := owns_set2 p8 (b := w.heap.size) (fun j hj => by have := p8.lt j hj; have := hp8 j hj; omega) 5 (.int .i64 0)
        have p9' := owns_set2 p9 (b := w.heap.size) (fun j hj => by have := p9.lt j hj; have := hp9 j hj; omega) 5 (.int .i64 0)
        clear hC hS hc hs hG p7 p8 p9
        have hC := hC'
        have hS := hS'
        have hc := hc'
        have hs := hs'
        have hG := hG'
        have p7 := p7'
        have p8 := p8'
        have p9 := p9'
        clear hC' hS' hc' hs' hG' p7' p8' p9'
        have e12 := cell_heap (k := 6) (v := .int .i64 0) hC rfl
        have e13 := blk_frozen (j := 6) hC
        have hC' : (((((((yk.setCell ⟨w.heap.size, 0, none⟩ (.int .i64 0)).setCell ⟨w.heap.size, 1, none⟩ (.int .i64 0)).setCell ⟨w.heap.size, 2, none⟩ (.int .i64 0)).setCell ⟨w.heap.size, 3, none⟩ (.int .i64 0)).setCell ⟨w.heap.size, 4, none⟩ (.int .i64 0)).setCell ⟨w.heap.size, 5, none⟩ (.int .i64 0)).setCell ⟨w.heap.size, 6, none⟩ (.int .i64 0)).heap[w.heap.size]? = some (.cells #[.int .i64 0, .int .i64 0, .int .i64 0, .int .i64 0, .int .i64 0, .int .i64 0, .int .i64 0] 32 (0, 0)) := heap_setCell_same ((((((yk.setCell ⟨w.heap.size, 0, none⟩ (.int .i64 0)).setCell ⟨w.heap.size, 1, none⟩ (.int .i64 0)).setCell ⟨w.heap.size, 2, none⟩ (.int .i64 0)).setCell ⟨w.heap.size, 3, none⟩ (.int .i64 0)).setCell ⟨w.heap.size, 4, none⟩ (.int .i64 0)).setCell ⟨w.heap.size, 5, none⟩ (.int .i64 0)) (w.heap.size) 6 _ _ _ hC
        have hS' : (((((((yk.setCell ⟨w.heap.size, 0, none⟩ (.int .i64 0)).setCell ⟨w.heap.size, 1, none⟩ (.int .i64 0)).setCell ⟨w.heap.size, 2, none⟩ (.int .i64 0)).setCell ⟨w.heap.size, 3, none⟩ (.int .i64 0)).setCell ⟨w.heap.size, 4, none⟩ (.int .i64 0)).setCell ⟨w.heap.size, 5, none⟩ (.int .i64 0)).setCell ⟨w.heap.size, 6, none⟩ (.int .i64 0)).heap[w.heap.size + 1]? = some (.cells #[.slice none 0 0, .slice none 0 0, .slice none 0 0] 71 (0, 0)) := heap_set_far hS (by omega)
        have hc' : (((((((yk.setCell ⟨w.heap.size, 0, none⟩ (.int .i64 0)).setCell ⟨w.heap.size, 1, none⟩ (.int .i64 0)).setCell ⟨w.heap.size, 2, none⟩ (.int .i64 0)).setCell ⟨w.heap.size, 3, none⟩ (.int .i64 0)).setCell ⟨w.heap.size, 4, none⟩ (.int .i64 0)).setCell ⟨w.heap.size, 5, none⟩ (.int .i64 0)).setCell ⟨w.heap.size, 6, none⟩ (.int .i64 0)).heap[y6.heap.size]? = some (.cells #[.int .i64 r0.1, .int .i64 r1.1, .int .i64 r2.1, .int .i64 r3.1, .int .i64 r4.1, .int .i64 r5.1, .int .i64 r6.1] 32 (0, 0)) := heap_set_far hc (by omega)
        have hs' : (((((((yk.setCell ⟨w.heap.size, 0, none⟩ (.int .i64 0)).setCell ⟨w.heap.size, 1, none⟩ (.int .i64 0)).setCell ⟨w.heap.size, 2, none⟩ (.int .i64 0)).setCell ⟨w.heap.size, 3, none⟩ (.int .i64 0)).setCell ⟨w.heap.size, 4, none⟩ (.int .i64 0)).setCell ⟨w.heap.size, 5, none⟩ (.int .i64 0)).setCell ⟨w.heap.size, 6, none⟩ (.int .i64 0)).heap[y6.heap.size + 1]? = some (.cells #[.slice a7 L7.length k7, .slice a8 L8.length k8, .slice a9 L9.length k9] 71 (0, 0)) := heap_set_far hs (by omega)
        have hG' := gb_set hG (b := w.heap.size) (by omega) 6 (.int .i64 0)
        have p7' := owns_set2 p7 (b := w.heap.size) (fun j hj => by have := p7.lt j hj; have := hp7 j hj; omega) 6 (.int .i64 0)
        have p8' := owns_set2 p8 (b := w.heap.size) (fun j hj => by have := p8.lt j hj; have := hp8 j hj; omega) 6 (.int .i64 0)
        have p9' := owns_set2 p9 (b := w.heap.size) (fun j hj => by have := p9.lt j hj; have := hp9 j hj; omega) 6 (.int .i64 0)
        clear hC hS hc hs hG p7 p8 p9
        have hC := hC'
        have hS := hS'
        have hc := hc'
        have hs := hs'
        have hG := hG'
        have p7 := p7'
        have p8 := p8'
        have p9 := p9'
        clear hC' hS' hc' hs' hG' p7' p8' p9'
        have e14 := cell_heap (k := 0) (v := .slice none 0 0) hS rfl
        have e15 := blk_frozen (j := 0) hS
        have hC' : ((((((((yk.setCell ⟨w.heap.size, 0, none⟩ (.int .i64 0)).setCell ⟨w.heap.size, 1, none⟩ (.int .i64 0)).setCell ⟨w.heap.size, 2, none⟩ (.int .i64 0)).setCell ⟨w.heap.size, 3, none⟩ (.int .i64 0)).setCell ⟨w.heap.size, 4, none⟩ (.int .i64 0)).setCell ⟨w.heap.size, 5, none⟩ (.int .i64 0)).setCell ⟨w.heap.size, 6, none⟩ (.int .i64 0)).setCell ⟨w.heap.size + 1, 0, none⟩ (.slice none 0 0)).heap[w.heap.size]? = some (.cells #[.int .i64 0, .int .i64 0, .int .i64 0, .int .i64 0, .int .i64 0, .int .i64 0, .int .i64 0] 32 (0, 0)) := heap_set_far hC (by omega)
        have hS' : ((((((((yk.setCell ⟨w.heap.size, 0, none⟩ (.int .i64 0)).setCell ⟨w.heap.size, 1, none⟩ (.int .i64 0)).setCell ⟨w.heap.size, 2, none⟩ (.int .i64 0)).setCell ⟨w.heap.size, 3, none⟩ (.int .i64 0)).setCell ⟨w.heap.size, 4, none⟩ (.int .i64 0)).setCell ⟨w.heap.size, 5, none⟩ (.int .i64 0)).setCell ⟨w.heap.size, 6, none⟩ (.int .i64 0)).setCell ⟨w.heap.size + 1, 0, none⟩ (.slice none 0 0)).heap[w.heap.size + 1]? = some (.cells #[.slice none 0 0, .slice none 0 0, .slice none 0 0] 71 (0, 0)) := heap_setCell_same (((((((yk.setCell ⟨w.heap.size, 0, none⟩ (.int .i64 0)).setCell ⟨w.heap.size, 1, none⟩ (.int .i64 0)).setCell ⟨w.heap.size, 2, none⟩ (.int .i64 0)).setCell ⟨w.heap.size, 3, none⟩ (.int .i64 0)).setCell ⟨w.heap.size, 4, none⟩ (.int .i64 0)).setCell ⟨w.heap.size, 5, none⟩ (.int .i64 0)).setCell ⟨w.heap.size, 6, none⟩ (.int .i64 0)) (w.heap.size + 1) 0 _ _ _ hS
        have hc' : ((((((((yk.setCell ⟨w.heap.size, 0, none⟩ (.int .i64 0)).setCell ⟨w.heap.size, 1, none⟩ (.int .i64 0)).setCell ⟨w.heap.size, 2, none⟩ (.int .i64 0)).setCell ⟨w.heap.size, 3, none⟩ (.int .i64 0)).setCell ⟨w.heap.size, 4, none⟩ (.int .i64 0)).setCell ⟨w.heap.size, 5, none⟩ (.int .i64 0)).setCell ⟨w.heap.size, 6, none⟩ (.int .i64 0)).setCell ⟨w.heap.size + 1, 0, none⟩ (.slice none 0 0)).heap[y6.heap.size]? = some (.cells #[.int .i64 r0.1, .int .i64 r1.1, .int .i64 r2.1, .int .i64 r3.1, .int .i64 r4.1, .int .i64 r5.1, .int .i64 r6.1] 32 (0, 0)) := heap_set_far hc (by omega)
        have hs' : ((((((((yk.setCell ⟨w.heap.size, 0, none⟩ (.int .i64 0)).setCell ⟨w.heap.size, 1, none⟩ (.int .i64 0)).setCell ⟨w.heap.size, 2, none⟩ (.int .i64 0)).setCell ⟨w.heap.size, 3, none⟩ (.int .i64 0)).setCell ⟨w.heap.size, 4, none⟩ (.int .i64 0)).setCell ⟨w.heap.size, 5, none⟩ (.int .i64 0)).setCell ⟨w.heap.size, 6, none⟩ (.int .i64 0)).setCell ⟨w.heap.size + 1, 0, none⟩ (.slice none 0 0)).heap[y6.heap.size + 1]? = some (.cells #[.slice a7 L7.length k7, .slice a8 L8.length k8, .slice a9 L9.length k9] 71 (0, 0)) := heap_set_far hs (by omega)
        have hG' := gb_set hG (b := w.heap.size + 1) (by omega) 0 (.slice none 0 0)
        have p7' := owns_set2 p7 (b := w.heap.size + 1) (fun j hj => by have := p7.lt j hj; have := hp7 j hj; omega) 0 (.slice none 0 0)
        have p8' := owns_set2 p8 (b := w.heap.size + 1) (fun j hj => by have := p8.lt j hj; have := hp8 j hj; omega) 0 (.slice none 0 0)
        have p9' := owns_set2 p9 (b := w.heap.size + 1) (fun j hj => by have := p9.lt j hj; have := hp9 j hj; omega) 0 (.slice none 0 0)
        clear hC hS hc hs hG p7 p8 p9
        have hC := hC'
        have hS := hS'
        have hc := hc'
        have hs := hs'
        have hG := hG'
        have p7 := p7'
        have p8 := p8'
        have p9 := p9'
        clear hC' hS' hc' hs' hG' p7' p8' p9'
        have e16 := cell_heap (k := 1) (v := .slice none 0 0) hS rfl
        have e17 := blk_frozen (j := 1) hS
        have hC' : (((((((((yk.setCell ⟨w.heap.size, 0, none⟩ (.int .i64 0)).setCell ⟨w.heap.size, 1, none⟩ (.int .i64 0)).setCell ⟨w.heap.size, 2, none⟩ (.int .i64 0)).setCell ⟨w.heap.size, 3, none⟩ (.int .i64 0)).setCell ⟨w.heap.size, 4, none⟩ (.int .i64 0)).setCell ⟨w.heap.size, 5, none⟩ (.int .i64 0)).setCell ⟨w.heap.size, 6, none⟩ (.int .i64 0)).setCell ⟨w.heap.size + 1, 0, none⟩ (.slice none 0 0)).setCell ⟨w.heap.size + 1, 1, none⟩ (.slice none 0 0)).heap[w.heap.size]? = some (.cells #[.int .i64 0, .int .i64 0, .int .i64 0, .int .i64 0, .int .i64 0, .int .i64 0, .int .i64 0] 32 (0, 0)) := heap_set_far hC (by omega)
        have hS' : (((((((((yk.setCell ⟨w.heap.size, 0, none⟩ (.int .i64 0)).setCell ⟨w.heap.size, 1, none⟩ (.int .i64 0)).setCell ⟨w.heap.size, 2, none⟩ (.int .i64 0)).setCell ⟨w.heap.size, 3, none⟩ (.int .i64 0)).setCell ⟨w.heap.size, 4, none⟩ (.int .i64 0)).setCell ⟨w.heap.size, 5, none⟩ (.int .i64 0)).setCell ⟨w.heap.size, 6, none⟩ (.int .i64 0)).setCell ⟨w.heap.size + 1, 0, none⟩ (.slice none 0 0)).setCell ⟨w.heap.size + 1, 1, none⟩ (.slice none 0 0)).heap[w.heap.size + 1]? = some (.cells #[.slice none 0 0, .slice none 0 0, .slice none 0 0] 71 (0, 0)) := heap_setCell_same ((((((((yk.setCell ⟨w.heap.size, 0, none⟩ (.int .i64 0)).setCell ⟨w.heap.size, 1, none⟩ (.int .i64 0)).setCell ⟨w.heap.size, 2, none⟩ (.int .i64 0)).setCell ⟨w.heap.size, 3, none⟩ (.int .i64 0)).setCell ⟨w.heap.size, 4, none⟩ (.int .i64 0)).setCell ⟨w.heap.size, 5, none⟩ (.int .i64 0)).setCell ⟨w.heap.size, 6, none⟩ (.int .i64 0)).setCell ⟨w.heap.size + 1, 0, none⟩ (.slice none 0 0)) (w.heap.size + 1) 1 _ _ _ hS
        have hc' : (((((((((yk.setCell ⟨w.heap.size, 0, none⟩ (.int .i64 0)).setCell ⟨w.heap.size, 1, none⟩ (.int .i64 0)).setCell ⟨w.heap.size, 2, none⟩ (.int .i64 0)).setCell ⟨w.heap.size, 3, none⟩ (.int .i64 0)).setCell ⟨w.heap.size, 4, none⟩ (.int .i64 0)).setCell ⟨w.heap.size, 5, none⟩ (.int .i64 0)).setCell ⟨w.heap.size, 6, none⟩ (.int .i64 0)).setCell ⟨w.heap.size + 1, 0, none⟩ (.slice none 0 0)).setCell ⟨w.heap.size + 1, 1, none⟩ (.slice none 0 0)).heap[y6.heap.size]? = some (.cells #[.int .i64 r0.1, .int .i64 r1.1, .int .i64 r2.1, .int .i64 r3.1, .int .i64 r4.1, .int .i64 r5.1, .int .i64 r6.1] 32 (0, 0)) := heap_set_far hc (by omega)
        have hs' : (((((((((yk.setCell ⟨w.heap.size, 0, none⟩ (.int .i64 0)).setCell ⟨w.heap.size, 1, none⟩ (.int .i64 0)).setCell ⟨w.heap.size, 2, none⟩ (.int .i64 0)).setCell ⟨w.heap.size, 3, none⟩ (.int .i64 0)).setCell ⟨w.heap.size, 4, none⟩ (.int .i64 0)).setCell ⟨w.heap.size, 5, none⟩ (.int .i64 0)).setCell ⟨w.heap.size, 6, none⟩ (.int .i64 0)).setCell ⟨w.heap.size + 1, 0, none⟩ (.slice none 0 0)).setCell ⟨w.heap.size + 1, 1, none⟩ (.slice none 0 0)).heap[y6.heap.size + 1]? = some (.cells #[.slice a7 L7.length k7, .slice a8 L8.length k8, .slice a9 L9.length k9] 71 (0, 0)) := heap_set_far hs (by omega)
        have hG' := gb_set hG (b := w.heap.size + 1) (by omega) 1 (.slice none 0 0)
        have p7' := owns_set2 p7 (b := w.heap.size + 1) (fun j hj => by have := p7.lt j hj; have := hp7 j hj; omega) 1 (.slice none 0 0)
        have p8' := owns_set2 p8 (b := w.heap.size + 1) (fun j hj => by have := p8.lt j hj; have := hp8 j hj; omega) 1 (.slice none 0 0)
        have p9' := owns_set2 p9 (b := w.heap.size + 1) (fun j hj => by have := p9.lt j hj; have := hp9 j hj; omega) 1 (.slice none 0 0)
        clear hC hS hc hs hG p7 p8 p9
        have hC := hC'
        have hS := hS'
        have hc := hc'
        have hs := hs'
        have hG := hG'
        have p7 := p7'
        have p8 := p8'
        have p9 := p9'
        clear hC' hS' hc' hs' hG' p7' p8' p9'
        have e18 := cell_heap (k := 2) (v := .slice none 0 0) hS rfl
        have e19 := blk_frozen (j := 2) hS
        have hC' : ((((((((((yk.setCell ⟨w.heap.size, 0, none⟩ (.int .i64 0)).setCell ⟨w.heap.size, 1, none⟩ (.int .i64 0)).setCell ⟨w.heap.size, 2, none⟩ (.int .i64 0)).setCell ⟨w.heap.size, 3, none⟩ (.int .i64 0)).setCell ⟨w.heap.size, 4, none⟩ (.int .i64 0)).setCell ⟨w.heap.size, 5, none⟩ (.int .i64 0)).setCell ⟨w.heap.size, 6, none⟩ (.int .i64 0)).setCell ⟨w.heap.size + 1, 0, none⟩ (.slice none 0 0)).setCell ⟨w.heap.size + 1, 1, none⟩ (.slice none 0 0)).setCell ⟨w.heap.size + 1, 2, none⟩ (.slice none 0 0)).heap[w.heap.size]? = some (.cells #[.int .i64 0, .int .i64 0, .int .i64 0, .int .i64 0, .int .i64 0, .int .i64 0, .int .i64 0] 32 (0, 0)) := heap_set_far hC (by omega)
        have hS' : ((((((((((yk.setCell ⟨w.heap.size, 0, none⟩ (.int .i64 0)).setCell ⟨w.heap.size, 1, none⟩ (.int .i64 0)).setCell ⟨w.heap.size, 2, none⟩ (.int .i64 0)).setCell ⟨w.heap.size, 3, none⟩ (.int .i64 0)).setCell ⟨w.heap.size, 4, none⟩ (.int .i64 0)).setCell ⟨w.heap.size, 5, none⟩ (.int .i64 0)).setCell ⟨w.heap.size, 6, none⟩ (.int .i64 0)).setCell ⟨w.heap.size + 1, 0, none⟩ (.slice none 0 0)).setCell ⟨w.heap.size + 1, 1, none⟩ (.slice none 0 0)).setCell ⟨w.heap.size + 1, 2, none⟩ (.slice none 0 0)).heap[w.heap.size + 1]? = some (.cells #[.slice none 0 0, .slice none 0 0, .slice none 0 0] 71 (0, 0)) := heap_setCell_same (((((((((yk.setCell ⟨w.heap.size, 0, none⟩ (.int .i64 0)).setCell ⟨w.heap.size, 1, none⟩ (.int .i64 0)).setCell ⟨w.heap.size, 2, none⟩ (.int .i64 0)).setCell ⟨w.heap.size, 3, none⟩ (.int .i64 0)).setCell ⟨w.heap.size, 4, none⟩ (.int .i64 0)).setCell ⟨w.heap.size, 5, none⟩ (.int .i64 0)).setCell ⟨w.heap.size, 6, none⟩ (.int .i64 0)).setCell ⟨w.heap.size + 1, 0, none⟩ (.slice none 0 0)).setCell ⟨w.heap.size + 1, 1, none⟩ (.slice none 0 0)) (w.heap.size + 1) 2 _ _ _ hS
        have hc' : ((((((((((yk.setCell ⟨w.heap.size, 0, none⟩ (.int .i64 0)).setCell ⟨w.heap.size, 1, none⟩ (.int .i64 0)).setCell ⟨w.heap.size, 2, none⟩ (.int .i64 0)).setCell ⟨w.heap.size, 3, none⟩ (.int .i64 0)).setCell ⟨w.heap.size, 4, none⟩ (.int .i64 0)).setCell ⟨w.heap.size, 5, none⟩ (.int .i64 0)).setCell ⟨w.heap.size, 6, none⟩ (.int .i64 0)).setCell ⟨w.heap.size + 1, 0, none⟩ (.slice none 0 0)).setCell ⟨w.heap.size + 1, 1, none⟩ (.slice none 0 0)).setCell ⟨w.heap.size + 1, 2, none⟩ (.slice none 0 0)).heap[y6.heap.size]? = some (.cells #[.int .i64 r0.1, .int .i64 r1.1, .int .i64 r2.1, .int .i64 r3.1, .int .i64 r4.1, .int .i64 r5.1, .int .i64 r6.1] 32 (0, 0)) := heap_set_far hc (by omega)
        have hs' : ((((((((((yk.setCell ⟨w.heap.size, 0, none⟩ (.int .i64 0)).setCell ⟨w.heap.size, 1, none⟩ (.int .i64 0)).setCell ⟨w.heap.size, 2, none⟩ (.int .i64 0)).setCell ⟨w.heap.size, 3, none⟩ (.int .i64 0)).setCell ⟨w.heap.size, 4, none⟩ (.int .i64 0)).setCell ⟨w.heap.size, 5, none⟩ (.int .i64 0)).setCell ⟨w.heap.size, 6, none⟩ (.int .i64 0)).setCell ⟨w.heap.size + 1, 0, none⟩ (.slice none 0 0)).setCell ⟨w.heap.size + 1, 1, none⟩ (.slice none 0 0)).setCell ⟨w.heap.size + 1, 2, none⟩ (.slice none 0 0)).heap[y6.heap.size + 1]? = some (.cells #[.slice a7 L7.length k7, .slice a8 L8.length k8, .slice a9 L9.length k9] 71 (0, 0)) := heap_set_far hs (by omega)
        have hG' := gb_set hG (b := w.heap.size + 1) (by omega) 2 (.slice none 0 0)
        have p7' := owns_set2 p7 (b := w.heap.size + 1) (fun j hj => by have := p7.lt j hj; have := hp7 j hj; omega) 2 (.slice none 0 0)
        have p8' := owns_set2 p8 (b := w.heap.size + 1) (fun j hj => by have := p8.lt j hj; have := hp8 j hj; omega) 2 (.slice none 0 0)
        have p9' := owns_set2 p9 (b := w.heap.size + 1) (fun j hj => by have := p9.lt j hj; have := hp9 j hj; omega) 2 (.slice none 0 0)
        clear hC hS hc hs hG p7 p8 p9
        have hC := hC'
        have hS := hS'
        have hc := hc'
        have hs := hs'
        have hG := hG'
        have p7 := p7'
        have p8 := p8'
        have p9 := p9'
        clear hC' hS' hc' hs' hG' p7' p8' p9'
        go_wp2
        refine bodyPost_ret (results_cct rfl _ _ w.heap.size 32 #[.int .i64 0, .int .i64 0, .int .i64 0, .int .i64 0, .int .i64 0, .int .i64 0, .int .i64 0] (0, 0) _ (w.heap.size + 1) 71 #[.slice none 0 0, .slice none 0 0, .slice none 0 0] (0, 0) _ rfl hC Try.underlying32 rfl (by kernel_rfl) rfl hS Try.underlying71 rfl (by kernel_rfl)) rfl ?_
        unfold rdPost
        rw [HW.out]
        exact ⟨⟨none, 0, 0⟩, ⟨none, 0, 0⟩, ⟨none, 0, 0⟩, rfl, ⟨SlR.nil _ _ _, SlR.nil _ _ _, SlR.nil _ _ _⟩, gn_below hG⟩
      have HW : Hid (V = (⟨r0.1, r1.1, r2.1, r3.1, r4.1, r5.1, r6.1⟩, ⟨L7, L8, L9⟩, (S9.1 : Int), 0)) := by show _ = _; rw [HV1.out, if_neg (by rw [hbd]; simp [hE0])]
      subst hE0
      have cR := cell_heap (k := 1) (v := .int .i64 S9.1) hR' rfl
      clear hR' 
      have F0 := Lib.hid (show _ from (⟨dr_cell (cell_heap (k := 0) (v := .int .i64 r0.1) hc rfl), dr_cell (cell_heap (k := 1) (v := .int .i64 r1.1) hc rfl), dr_cell (cell_heap (k := 2) (v := .int .i64 r2.1) hc rfl), dr_cell (cell_heap (k := 3) (v := .int .i64 r3.1) hc rfl), dr_cell (cell_heap (k := 4) (v := .int .i64 r4.1) hc rfl), dr_cell (cell_heap (k := 5) (v := .int .i64 r5.1) hc rfl), dr_cell (cell_heap (k := 6) (v := .int .i64 r6.1) hc rfl), dr_cell (cell_heap (k := 0) (v := .slice a7 L7.length k7) hs rfl), dr_cell (cell_heap (k := 1) (v := .slice a8 L8.length k8) hs rfl), dr_cell (cell_heap (k := 2) (v := .slice a9 L9.length k9) hs rfl), dr_cell cR⟩ : yk.drew.cell? ⟨y6.heap.size, 0, none⟩ = some (.int .i64 r0.1) ∧ yk.drew.cell? ⟨y6.heap.size, 1, none⟩ = some (.int .i64 r1.1) ∧ yk.drew.cell? ⟨y6.heap.size, 2, none⟩ = some (.int .i64 r2.1) ∧ yk.drew.cell? ⟨y6.heap.size, 3, none⟩ = some (.int .i64 r3.1) ∧ yk.drew.cell? ⟨y6.heap.size, 4, none⟩ = some (.int .i64 r4.1) ∧ yk.drew.cell? ⟨y6.heap.size, 5, none⟩ = some (.int .i64 r5.1) ∧ yk.drew.cell? ⟨y6.heap.size, 6, none⟩ = some (.int .i64 r6.1) ∧ yk.drew.cell? ⟨y6.heap.size + 1, 0, none⟩ = some (.slice a7 L7.length k7) ∧ yk.drew.cell? ⟨y6.heap.size + 1, 1, none⟩ = some (.slice a8 L8.length k8) ∧ yk.drew.cell? ⟨y6.heap.size + 1, 2, none⟩ = some (.slice a9 L9.length k9) ∧ yk.drew.cell? ⟨w.heap.size + 1 + 1, 1, none⟩ = some (.int .i64 S9.1)))
      have z0 := cell_heap (k := 0) (v := .int .i64 0) hC rfl
      have x0 := blk_frozen (j := 0) hC
      have hC' : (yk.setCell ⟨w.heap.size, 0, none⟩ (.int .i64 r0.1)).heap[w.heap.size]? = some (.cells #[.int .i64 r0.1, .int .i64 0, .int .i64 0, .int .i64 0, .int .i64 0, .int .i64 0, .int .i64 0] 32 (0, 0)) := heap_setCell_same yk (w.heap.size) 0 _ _ _ hC
      have hS' : (yk.setCell ⟨w.heap.size, 0, none⟩ (.int .i64 r0.1)).heap[w.heap.size + 1]? = some (.cells #[.slice none 0 0, .slice none 0 0, .slice none 0 0] 71 (0, 0)) := heap_set_far hS (by omega)
      have hc' : (yk.setCell ⟨w.heap.size, 0, none⟩ (.int .i64 r0.1)).heap[y6.heap.size]? = some (.cells #[.int .i64 r0.1, .int .i64 r1.1, .int .i64 r2.1, .int .i64 r3.1, .int .i64 r4.1, .int .i64 r5.1, .int .i64 r6.1] 32 (0, 0)) := heap_set_far hc (by omega)
      have hs' : (yk.setCell ⟨w.heap.size, 0, none⟩ (.int .i64 r0.1)).heap[y6.heap.size + 1]? = some (.cells #[.slice a7 L7.length k7, .slice a8 L8.length k8, .slice a9 L9.length k9] 71 (0, 0)) := heap_set_far hs (by omega)
      have hG' := gb_set hG (b := w.heap.size) (by omega) 0 (.int .i64 r0.1)
      have cR' : (yk.setCell ⟨w.heap.size, 0, none⟩ (.int .i64 r0.1)).cell? ⟨w.heap.size + 1 + 1, 1, none⟩ = some (.int .i64 S9.1) := cell_set_far cR (by omega)
      have p7' := owns_set p7 (b := w.heap.size) (by omega) 0 (.int .i64 r0.1)
      have p8' := owns_set p8 (b := w.heap.size) (by omega) 0 (.int .i64 r0.1)
      have p9' := owns_set p9 (b := w.heap.size) (by omega) 0 (.int .i64 r0.1)
      clear hC hS hc hs hG cR p7 p8 p9
      have hC := hC'
      have hS := hS'
      have hc := hc'
      have hs := hs'
      have hG := hG'
      have cR := cR'
      have p7 := p7'
      have p8 := p8'
      have p9 := p9'
      clear hC' hS' hc' hs' hG' cR' p7' p8' p9'
      have z1 := cell_heap (k := 1) (v := .int .i64 0) hC rfl
      have x1 := blk_frozen (j := 1) hC
      have hC' : ((yk.setCell ⟨w.heap.size, 0, none⟩ (.int .i64 r0.1)).setCell ⟨w.heap.size, 1, none⟩ (.int .i64 r1.1)).heap[w.heap.size]? = some (.cells #[.int .i64 r0.1, .int .i64 r1.1, .int .i64 0, .int .i64 0, .int .i64 0, .int .i64 0, .int .i64 0] 32 (0, 0)) := heap_setCell_same (yk.setCell ⟨w.heap.size, 0, none⟩ (.int .i64 r0.1)) (w.heap.size) 1 _ _ _ hC
      have hS' : ((yk.setCell ⟨w.heap.size, 0, none⟩ (.int .i64 r0.1)).setCell ⟨w.heap.size, 1, none⟩ (.int .i64 r1.1)).heap[w.heap.size + 1]? = some (.cells #[.slice none 0 0, .slice none 0 0, .slice none 0 0] 71 (0, 0)) := heap_set_far hS (by omega)
      have hc' : ((yk.setCell ⟨w.heap.size, 0, none⟩ (.int .i64 r0.1)).setCell ⟨w.heap.size, 1, none⟩ (.int .i64 r1.1)).heap[y6.heap.size]? = some (.cells #[.int .i64 r0.1, .int .i64 r1.1, .int .i64 r2.1, .int .i64 r3.1, .int .i64 r4.1, .int .i64 r5.1, .int .i64 r6.1] 32 (0, 0)) := heap_set_far hc (by omega)
      have hs' : ((yk.setCell ⟨w.heap.size, 0, none⟩ (.int .i64 r0.1)).setCell ⟨w.heap.size, 1, none⟩ (.int .i64 r1.1)).heap[y6.heap.size + 1]? = some (.cells #[.slice a7 L7.length k7, .slice a8 L8.length k8, .slice a9 L9.length k9] 71 (0, 0)) := heap_set_far hs (by omega)
      have hG' := gb_set hG (b := w.heap.size) (by omega) 1 (.int .i64 r1.1)
      have cR' : ((yk.setCell ⟨w.heap.size, 0, none⟩ (.int .i64 r0.1)).setCell ⟨w.heap.size, 1, none⟩ (.int .i64 r1.1)).cell? ⟨w.heap.size + 1 + 1, 1, none⟩ = some (.int .i64 S9.1) := cell_set_far cR (by omega)
      have p7' := owns_set p7 (b := w.heap.size) (by omega) 1 (.int .i64 r1.1)
      have p8' := owns_set p8 (b := w.heap.size) (by omega) 1 (.int .i64 r1.1)
      have p9' := owns_set p9 (b := w.heap.size) (by omega) 1 (.int .i64 r1.1)
      clear hC hS hc hs hG cR p7 p8 p9
      have hC := hC'
      have hS := hS'
      have hc := hc'
      have hs := hs'
      have hG := hG'
      have cR := cR'
      have p7 := p7'
      have p8 := p8'
      have p9 := p9'
      clear hC' hS' hc' hs' hG' cR' p7' p8' p9'
      have z2 := cell_heap (k := 2) (v := .int .i64 0) hC rfl
      have x2 := blk_frozen (j := 2) hC
      have hC' : (((yk.setCell ⟨w.heap.size, 0, none⟩ (.int .i64 r0.1)).setCell ⟨w.heap.size, 1, none⟩ (.int .i64 r1.1)).setCell ⟨w.heap.size, 2, none⟩ (.int .i64 r2.1)).heap[w.heap.size]? = some (.cells #[.int .i64 r0.1, .int .i64 r1.1, .int .i64 r2.1, .int .i64 0, .int .i64 0, .int .i64 0, .int .i64 0] 32 (0, 0)) := heap_setCell_same ((yk.setCell ⟨w.heap.size, 0, none⟩ (.int .i64 r0.1)).setCell ⟨w.heap.size, 1, none⟩ (.int .i64 r1.1)) (w.heap.size) 2 _ _ _ hC
      have hS' : (((yk.setCell ⟨w.heap.size, 0, none⟩ (.int .i64 r0.1)).setCell ⟨w.heap.size, 1, none⟩ (.int .i64 r1.1)).setCell ⟨w.heap.size, 2, none⟩ (.int .i64 r2.1)).heap[w.heap.size + 1]? = some (.cells #[.slice none 0 0, .slice none 0 0, .slice none 0 0] 71 (0, 0)) := heap_set_far hS (by omega)
      have hc' : (((yk.setCell ⟨w.heap.size, 0, none⟩ (.int .i64 r0.1)).setCell ⟨w.heap.size, 1, none⟩ (.int .i64 r1.1)).setCell ⟨w.heap.size, 2, none⟩ (.int .i64 r2.1)).heap[y6.heap.size]? = some (.cells #[.int .i64 r0.1, .int .i64 r1.1, .int .i64 r2.1, .int .i64 r3.1, .int .i64 r4.1, .int .i64 r5.1, .int .i64 r6.1] 32 (0, 0)) := heap_set_far hc (by omega)
      have hs' : (((yk.setCell ⟨w.heap.size, 0, none⟩ (.int .i64 r0.1)).setCell ⟨w.heap.size, 1, none⟩ (.int .i64 r1.1)).setCell ⟨w.heap.size, 2, none⟩ (.int .i64 r2.1)).heap[y6.heap.size + 1]? = some (.cells #[.slice a7 L7.length k7, .slice a8 L8.length k8, .slice a9 L9.length k9] 71 (0, 0)) := heap_set_far hs (by omega)
      have hG' := gb_set hG (b := w.heap.size) (by omega) 2 (.int .i64 r2.1)
      have cR' : (((yk.setCell ⟨w.heap.size, 0, none⟩ (.int .i64 r0.1)).setCell ⟨w.heap.size, 1, none⟩ (.int .i64 r1.1)).setCell ⟨w.heap.size, 2, none⟩ (.int .i64 r2.1)).cell? ⟨w.heap.size + 1 + 1, 1, none⟩ = some (.int .i64 S9.1) := cell_set_far cR (by omega)
      have p7' := owns_set p7 (b := w.heap.size) (by omega) 2 (.int .i64 r2.1)
      have p8' := owns_set p8 (b := w.heap.size) (by omega) 2 (.int .i64 r2.1)
      have p9' := owns_set p9 (b := w.heap.size) (by omega) 2 (.int .i64 r2.1)
      clear hC hS hc hs hG cR p7 p8 p9
      have hC := hC'
      have hS := hS'
      have hc := hc'
      have hs := hs'
      have hG := hG'
      have cR := cR'
      have p7 := p7'
      have p8 := p8'
      have p9 := p9'
      clear hC' hS' hc' hs' hG' cR' p7' p8' p9'
      have z3 := cell_heap (k := 3) (v := .int .i64 0) hC rfl
      have x3 := blk_frozen (j := 3) hC
      have hC' : ((((yk.setCell ⟨w.heap.size, 0, none⟩ (.int .i64 r0.1)).setCell ⟨w.heap.size, 1, none⟩ (.int .i64 r1.1)).setCell ⟨w.heap.size, 2, none⟩ (.int .i64 r2.1)).setCell ⟨w.heap.size, 3, none⟩ (.int .i64 r3.1)).heap[w.heap.size]? = some (.cells #[.int .i64 r0.1, .int .i64 r1.1, .int .i64 r2.1, .int .i64 r3.1, .int .i64 0, .int .i64 0, .int .i64 0] 32 (0, 0)) := heap_setCell_same (((yk.setCell ⟨w.heap.size, 0, none⟩ (.int .i64 r0.1)).setCell ⟨w.heap.size, 1, none⟩ (.int .i64 r1.1)).setCell ⟨w.heap.size, 2, none⟩ (.int .i64 r2.1)) (w.heap.size) 3 _ _ _ hC
      have hS' : ((((yk.setCell ⟨w.heap.size, 0, none⟩ (.int .i64 r0.1)).setCell ⟨w.heap.size, 1, none⟩ (.int .i64 r1.1)).setCell ⟨w.heap.size, 2, none⟩ (.int .i64 r2.1)).setCell ⟨w.heap.size, 3, none⟩ (.int .i64 r3.1)).heap[w.heap.size + 1]? = some (.cells #[.slice none 0 0, .slice none 0 0, .slice none 0 0] 71 (0, 0)) := heap_set_far hS (by omega)
      have hc' : ((((yk.setCell ⟨w.heap.size, 0, none⟩ (.int .i64 r0.1)).setCell ⟨w.heap.size, 1, none⟩ (.int .i64 r1.1)).setCell ⟨w.heap.size, 2, none⟩ (.int .i64 r2.1)).setCell ⟨w.heap.size, 3, none⟩ (.int .i64 r3.1)).heap[y6.heap.size]? = some (.cells #[.int .i64 r0.1, .int .i64 r1.1, .int .i64 r2.1, .int .i64 r3.1, .int .i64 r4.1, .int .i64 r5.1, .int .i64 r6.1] 32 (0, 0)) := heap_set_far hc (by omega)
      have hs' : ((((yk.setCell ⟨w.heap.size, 0, none⟩ (.int .i64 r0.1)).setCell ⟨w.heap.size, 1, none⟩ (.int .i64 r1.1)).setCell ⟨w.heap.size, 2, none⟩ (.int .i64 r2.1)).setCell ⟨w.heap.size, 3, none⟩ (.int .i64 r3.1)).heap[y6.heap.size + 1]? = some (.cells #[.slice a7 L7.length k7, .slice a8 L8.length k8, .slice a9 L9.length k9] 71 (0, 0)) := heap_set_far hs (by omega)
      have hG' := gb_set hG (b := w.heap.size) (by omega) 3 (.int .i64 r3.1)
      have cR' : ((((yk.setCell ⟨w.heap.size, 0, none⟩ (.int .i64 r0.1)).setCell ⟨w.heap.size, 1, none⟩ (.int .i64 r1.1)).setCell ⟨w.heap.size, 2, none⟩ (.int .i64 r2.1)).setCell ⟨w.heap.size, 3, none⟩ (.int .i64 r3.1)).cell? ⟨w.heap.size + 1 + 1, 1, none⟩ = some (.int .i64 S9.1) := cell_set_far cR (by omega)
      have p7' := owns_set p7 (b := w.heap.size) (by omega) 3 (.int .i64 r3.1)
      have p8' := owns_set p8 (b := w.heap.size) (by omega) 3 (.int .i64 r3.1)
      have p9' := owns_set p9 (b := w.heap.size) (by omega) 3 (.int .i64 r3.1)
      clear hC hS hc hs hG cR p7 p8 p9
      have hC := hC'
      have hS := hS'
      have hc := hc'
      have hs := hs'
      have hG := hG'
      have cR := cR'
      have p7 := p7'
      have p8 := p8'
      have p9 := p9'
      clear hC' hS' hc' hs' hG' cR' p7' p8' p9'
      have z4 := cell_heap (k := 4) (v := .int .i64 0) hC rfl
      have x4 := blk_frozen (j := 4) hC
      have hC' : (((((yk.setCell ⟨w.heap.size, 0, none⟩ (.int .i64 r0.1)).setCell ⟨w.heap.size, 1, none⟩ (.int .i64 r1.1)).setCell ⟨w.heap.size, 2, none⟩ (.int .i64 r2.1)).setCell ⟨w.heap.size, 3, none⟩ (.int .i64 r3.1)).setCell ⟨w.heap.size, 4, none⟩ (.int .i64 r4.1)).heap[w.heap.size]? = some (.cells #[.int .i64 r0.1, .int .i64 r1.1, .int .i64 r2.1, .int .i64 r3.1, .int .i64 r4.1, .int .i64 0, .int .i64 0] 32 (0, 0)) := heap_setCell_same ((((yk.setCell ⟨w.heap.size, 0, none⟩ (.int .i64 r0.1)).setCell ⟨w.heap.size, 1, none⟩ (.int .i64 r1.1)).setCell ⟨w.heap.size, 2, none⟩ (.int .i64 r2.1)).setCell ⟨w.heap.size, 3, none⟩ (.int .i64 r3.1)) (w.heap.size) 4 _ _ _ hC
      have hS' : (((((yk.setCell ⟨w.heap.size, 0, none⟩ (.int .i64 r0.1)).setCell ⟨w.heap.size, 1, none⟩ (.int .i64 r1.1)).setCell ⟨w.heap.size, 2, none⟩ (.int .i64 r2.1)).setCell ⟨w.heap.size, 3, none⟩ (.int .i64 r3.1)).setCell ⟨w.heap.size, 4, none⟩ (.int .i64 r4.1)).heap[w.heap.size + 1]? = some (.cells #[.slice none 0 0, .slice none 0 0, .slice none 0 0] 71 (0, 0)) := heap_set_far hS (by omega)
      have hc' : (((((yk.setCell ⟨w.heap.size, 0, none⟩ (.int .i64 r0.1)).setCell ⟨w.heap.size, 1, none⟩ (.int .i64 r1.1)).setCell ⟨w.heap.size, 2, none⟩ (.int .i64 r2.1)).setCell ⟨w.heap.size, 3, none⟩ (.int .i64 r3.1)).setCell ⟨w.heap.size, 4, none⟩ (.int .i64 r4.1)).heap[y6.heap.size]? = some (.cells #[.int .i64 r0.1, .int .i64 r1.1, .int .i64 r2.1, .int .i64 r3.1, .int .i64 r4.1, .int .i64 r5.1, .int .i64 r6.1] 32 (0, 0)) := heap_set_far hc (by omega)
      have hs' : (((((yk.setCell ⟨w.heap.size, 0, none⟩ (.int .i64 r0.1)).setCell ⟨w.heap.size, 1, none⟩ (.int .i64 r1.1)).setCell ⟨w.heap.size, 2, none⟩ (.int .i64 r2.1)).setCell ⟨w.heap.size, 3, none⟩ (.int .i64 r3.1)).setCell ⟨w.heap.size, 4, none⟩ (.int .i64 r4.1)).heap[y6.heap.size + 1]? = some (.cells #[.slice a7 L7.length k7, .slice a8 L8.length k8, .slice a9 L9.length k9] 71 (0, 0)) := heap_set_far hs (by omega)
      have hG' := gb_set hG (b := w.heap.size) (by omega) 4 (.int .i64 r4.1)
      have cR' : (((((yk.setCell ⟨w.heap.size, 0, none⟩ (.int .i64 r0.1)).setCell ⟨w.heap.size, 1, none⟩ (.int .i64 r1.1)).setCell ⟨w.heap.size, 2, none⟩ (.int .i64 r2.1)).setCell ⟨w.heap.size, 3, none⟩ (.int .i64 r3.1)).setCell ⟨w.heap.size, 4, none⟩ (.int .i64 r4.1)).cell? ⟨w.heap.size + 1 + 1, 1, none⟩ = some (.int .i64 S9.1) := cell_set_far cR (by omega)
      have p7' := owns_set p7 (b := w.heap.size) (by omega) 4 (.int .i64 r4.1)
      have p8' := owns_set p8 (b := w.heap.size) (by omega) 4 (.int .i64 r4.1)
      have p9' := owns_set p9 (b := w.heap.size) (by omega) 4 (.int .i64 r4.1)
      clear hC hS hc hs hG cR p7 p8 p9
      have hC := hC'
      have hS := hS'
      have hc := hc'
      have hs := hs'
      have hG := hG'
      have cR := cR'
      have p7 := p7'
      have p8 := p8'
      have p9 := p9'
      clear hC' hS' hc' hs' hG' cR' p7' p8' p9'
      have z5 := cell_heap (k := 5) (v := .int .i64 0) hC rfl
      have x5 := blk_frozen (j := 5) hC
      have hC' : ((((((yk.setCell ⟨w.heap.size, 0, none⟩ (.int .i64 r0.1)).setCell ⟨w.heap.size, 1, none⟩ (.int .i64 r1.1)).setCell ⟨w.heap.size, 2, none⟩ (.int .i64 r2.1)).setCell ⟨w.heap.size, 3, none⟩ (.int .i64 r3.1)).setCell ⟨w.heap.size, 4, none⟩ (.int .i64 r4.1)).setCell ⟨w.heap.size, 5, none⟩ (.int .i64 r5.1)).heap[w.heap.size]? = some (.cells #[.int .i64 r0.1, .int .i64 r1.1, .int .i64 r2.1, .int .i64 r3.1, .int .i64 r4.1, .int .i64 r5.1, .int .i64 0] 32 (0, 0)) := heap_setCell_same (((((yk.setCell ⟨w.heap.size, 0, none⟩ (.int .i64 r0.1)).setCell ⟨w.heap.size, 1, none⟩ (.int .i64 r1.1)).setCell ⟨w.heap.size, 2, none⟩ (.int .i64 r2.1)).setCell ⟨w.heap.size, 3, none⟩ (.int .i64 r3.1)).setCell ⟨w.heap.size, 4, none⟩ (.int .i64 r4.1)) (w.heap.size) 5 _ _ _ hC
      have hS' : ((((((yk.setCell ⟨w.heap.size, 0, none⟩ (.int .i64 r0.1)).setCell ⟨w.heap.size, 1, none⟩ (.int .i64 r1.1)).setCell ⟨w.heap.size, 2, none⟩ (.int .i64 r2.1)).setCell ⟨w.heap.size, 3, none⟩ (.int .i64 r3.1)).setCell ⟨w.heap.size, 4, none⟩ (.int .i64 r4.1)).setCell ⟨w.heap.size, 5, none⟩ (.int .i64 r5.1)).heap[w.heap.size + 1]? = some (.cells #[.slice none 0 0, .slice none 0 0, .slice none 0 0] 71 (0, 0)) := heap_set_far hS (by omega)
      have hc' : ((((((yk.setCell ⟨w.heap.size, 0, none⟩ (.int .i64 r0.1)).setCell ⟨w.heap.size, 1, none⟩ (.int .i64 r1.1)).setCell ⟨w.heap.size, 2, none⟩ (.int .i64 r2.1)).setCell ⟨w.heap.size, 3, none⟩ (.int .i64 r3.1)).setCell ⟨w.heap.size, 4, none⟩ (.int .i64 r4.1)).setCell ⟨w.heap.size, 5, none⟩ (.int .i64 r5.1)).heap[y6.heap.size]? = some (.cells #[.int .i64 r0.1, .int .i64 r1.1, .int .i64 r2.1, .int .i64 r3.1, .int .i64 r4.1, .int .i64 r5.1, .int .i64 r6.1] 32 (0, 0)) := heap_set_far hc (by omega)
      have hs' : ((((((yk.setCell ⟨w.heap.size, 0, none⟩ (.int .i64 r0.1)).setCell ⟨w.heap.size, 1, none⟩ (.int .i64 r1.1)).setCell ⟨w.heap.size, 2, none⟩ (.int .i64 r2.1)).setCell ⟨w.heap.size, 3, none⟩ (.int .i64 r3.1)).setCell ⟨w.heap.size, 4, none⟩ (.int .i64 r4.1)).setCell ⟨w.heap.size, 5, none⟩ (.int .i64 r5.1)).heap[y6.heap.size + 1]? = some (.cells #[.slice a7 L7.length k7, .slice a8 L8.length k8, .slice a9 L9.length k9] 71 (0, 0)) := heap_set_far hs (by omega)
      have hG' := gb_set hG (b := w.heap.size) (by omega) 5 (.int .i64 r5.1)
      have cR' : ((((((yk.setCell ⟨w.heap.size, 0, none⟩ (.int .i64 r0.1)).setCell ⟨w.heap.size, 1, none⟩ (.int .i64 r1.1)).setCell ⟨w.heap.size, 2, none⟩ (.int .i64 r2.1)).setCell ⟨w.heap.size, 3, none⟩ (.int .i64 r3.1)).setCell ⟨w.heap.size, 4, none⟩ (.int .i64 r4.1)).setCell ⟨w.heap.size, 5, none⟩ (.int .i64 r5.1)).cell? ⟨w.heap.size + 1 + 1, 1, none⟩ = some (.int .i64 S9.1) := cell_set_far cR (by omega)
      have p7' := owns_set p7 (b := w.heap.size) (by omega) 5 (.int .i64 r5.1)
      have p8' := owns_set p8 (b := w.heap.size) (by omega) 5 (.int .i64 r5.1)
      have p9' := owns_set p9 (b := w.heap.size) (by omega) 5 (.int .i64 r5.1)
      clear hC hS hc hs hG cR p7 p8 p9
      have hC := hC'
      have hS := hS'
      have hc := hc'
      have hs := hs'
      have hG := hG'
      have cR := cR'
      have p7 := p7'
      have p8 := p8'
      have p9 := p9'
      clear hC' hS' hc' hs' hG' cR' p7' p8' p9'
      have z6 := cell_heap (k := 6) (v := .int .i64 0) hC rfl
      have x6 := blk_frozen (j := 6) hC
      have hC' : (((((((yk.setCell ⟨w.heap.size, 0, none⟩ (.int .i64 r0.1)).setCell ⟨w.heap.size, 1, none⟩ (.int .i64 r1.1)).setCell ⟨w.heap.size, 2, none⟩ (.int .i64 r2.1)).setCell ⟨w.heap.size, 3, none⟩ (.int .i64 r3.1)).setCell ⟨w.heap.size, 4, none⟩ (.int .i64 r4.1)).setCell ⟨w.heap.size, 5, none⟩ (.int .i64 r5.1)).setCell ⟨w.heap.size, 6, none⟩ (.int .i64 r6.1)).heap[w.heap.size]? = some (.cells #[.int .i64 r0.1, .int .i64 r1.1, .int .i64 r2.1, .int .i64 r3.1, .int .i64 r4.1, .int .i64 r5.1, .int .i64 r6.1] 32 (0, 0)) := heap_setCell_same ((((((yk.setCell ⟨w.heap.size, 0, none⟩ (.int .i64 r0.1)).setCell ⟨w.heap.size, 1, none⟩ (.int .i64 r1.1)).setCell ⟨w.heap.size, 2, none⟩ (.int .i64 r2.1)).setCell ⟨w.heap.size, 3, none⟩ (.int .i64 r3.1)).setCell ⟨w.heap.size, 4, none⟩ (.int .i64 r4.1)).setCell ⟨w.heap.size, 5, none⟩ (.int .i64 r5.1)) (w.heap.size) 6 _ _ _ hC
      have hS' : (((((((yk.setCell ⟨w.heap.size, 0, none⟩ (.int .i64 r0.1)).setCell ⟨w.heap.size, 1, none⟩ (.int .i64 r1.1)).setCell ⟨w.heap.size, 2, none⟩ (.int .i64 r2.1)).setCell ⟨w.heap.size, 3, none⟩ (.int .i64 r3.1)).setCell ⟨w.heap.size, 4, none⟩ (.int .i64 r4.1)).setCell ⟨w.heap.size, 5, none⟩ (.int .i64 r5.1)).setCell ⟨w.heap.size, 6, none⟩ (.int .i64 r6.1)).heap[w.heap.size + 1]? = some (.cells #[.slice none 0 0, .slice none 0 0, .slice none 0 0] 71 (0, 0)) := heap_set_far hS (by omega)
      have hc' : (((((((yk.setCell ⟨w.heap.size, 0, none⟩ (.int .i64 r0.1)).setCell ⟨w.heap.size, 1, none⟩ (.int .i64 r1.1)).setCell ⟨w.heap.size, 2, none⟩ (.int .i64 r2.1)).setCell ⟨w.heap.size, 3, none⟩ (.int .i64 r3.1)).setCell ⟨w.heap.size, 4, none⟩ (.int .i64 r4.1)).setCell ⟨w.heap.size, 5, none⟩ (.int .i64 r5.1)).setCell ⟨w.heap.size, 6, none⟩ (.int .i64 r6.1)).heap[y6.heap.size]? = some (.cells #[.int .i64 r0.1, .int .i64 r1.1, .int .i64 r2.1, .int .i64 r3.1, .int .i64 r4.1, .int .i64 r5.1, .int .i64 r6.1] 32 (0, 0)) := heap_set_far hc (by omega)
      have hs' : (((((((yk.setCell ⟨w.heap.size, 0, none⟩ (.int .i64 r0.1)).setCell ⟨w.heap.size, 1, none⟩ (.int .i64 r1.1)).setCell ⟨w.heap.size, 2, none⟩ (.int .i64 r2.1)).setCell ⟨w.heap.size, 3, none⟩ (.int .i64 r3.1)).setCell ⟨w.heap.size, 4, none⟩ (.int .i64 r4.1)).setCell ⟨w.heap.size, 5, none⟩ (.int .i64 r5.1)).setCell ⟨w.heap.size, 6, none⟩ (.int .i64 r6.1)).heap[y6.heap.size + 1]? = some (.cells #[.slice a7 L7.length k7, .slice a8 L8.length k8, .slice a9 L9.length k9] 71 (0, 0)) := heap_set_far hs (by omega)
      have hG' := gb_set hG (b := w.heap.size) (by omega) 6 (.int .i64 r6.1)
      have cR' : (((((((yk.setCell ⟨w.heap.size, 0, none⟩ (.int .i64 r0.1)).setCell ⟨w.heap.size, 1, none⟩ (.int .i64 r1.1)).setCell ⟨w.heap.size, 2, none⟩ (.int .i64 r2.1)).setCell ⟨w.heap.size, 3, none⟩ (.int .i64 r3.1)).setCell ⟨w.heap.size, 4, none⟩ (.int .i64 r4.1)).setCell ⟨w.heap.size, 5, none⟩ (.int .i64 r5.1)).setCell ⟨w.heap.size, 6, none⟩ (.int .i64 r6.1)).cell? ⟨w.heap.size + 1 + 1, 1, none⟩ = some (.int .i64 S9.1) := cell_set_far cR (by omega)
      have p7' := owns_set p7 (b := w.heap.size) (by omega) 6 (.int .i64 r6.1)
      have p8' := owns_set p8 (b := w.heap.size) (by omega) 6 (.int .i64 r6.1)
      have p9' := owns_set p9 (b := w.heap.size) (by omega) 6 (.int .i64 r6.1)
      clear hC hS hc hs hG cR p7 p8 p9
      have hC := hC'
      have hS := hS'
      have hc := hc'
      have hs := hs'
      have hG := hG'
      have cR := cR'
      have p7 := p7'
      have p8 := p8'
      have p9 := p9'
      clear hC' hS' hc' hs' hG' cR' p7' p8' p9'
      have FA := Lib.hid (show _ from (⟨dr_cell (cell_heap (k := 0) (v := .int .i64 r0.1) hc rfl), dr_cell (cell_heap (k := 1) (v := .int .i64 r1.1) hc rfl), dr_cell (cell_heap (k := 2) (v := .int .i64 r2.1) hc rfl), dr_cell (cell_heap (k := 3) (v := .int .i64 r3.1) hc rfl), dr_cell (cell_heap (k := 4) (v := .int .i64 r4.1) hc rfl), dr_cell (cell_heap (k := 5) (v := .int .i64 r5.1) hc rfl), dr_cell (cell_heap (k := 6) (v := .int .i64 r6.1) hc rfl), dr_cell (cell_heap (k := 0) (v := .slice a7 L7.length k7) hs rfl), dr_cell (cell_heap (k := 1) (v := .slice a8 L8.length k8) hs rfl), dr_cell (cell_heap (k := 2) (v := .slice a9 L9.length k9) hs rfl), dr_cell cR⟩ : (((((((yk.setCell ⟨w.heap.size, 0, none⟩ (.int .i64 r0.1)).setCell ⟨w.heap.size, 1, none⟩ (.int .i64 r1.1)).setCell ⟨w.heap.size, 2, none⟩ (.int .i64 r2.1)).setCell ⟨w.heap.size, 3, none⟩ (.int .i64 r3.1)).setCell ⟨w.heap.size, 4, none⟩ (.int .i64 r4.1)).setCell ⟨w.heap.size, 5, none⟩ (.int .i64 r5.1)).setCell ⟨w.heap.size, 6, none⟩ (.int .i64 r6.1)).drew.cell? ⟨y6.heap.size, 0, none⟩ = some (.int .i64 r0.1) ∧ (((((((yk.setCell ⟨w.heap.size, 0, none⟩ (.int .i64 r0.1)).setCell ⟨w.heap.size, 1, none⟩ (.int .i64 r1.1)).setCell ⟨w.heap.size, 2, none⟩ (.int .i64 r2.1)).setCell ⟨w.heap.size, 3, none⟩ (.int .i64 r3.1)).setCell ⟨w.heap.size, 4, none⟩ (.int .i64 r4.1)).setCell ⟨w.heap.size, 5, none⟩ (.int .i64 r5.1)).setCell ⟨w.heap.size, 6, none⟩ (.int .i64 r6.1)).drew.cell? ⟨y6.heap.size, 1, none⟩ = some (.int .i64 r1.1) ∧ (((((((yk.setCell ⟨w.heap.size, 0, none⟩ (.int .i64 r0.1)).setCell ⟨w.heap.size, 1, none⟩ (.int .i64 r1.1)).setCell ⟨w.heap.size, 2, none⟩ (.int .i64 r2.1)).setCell ⟨w.heap.size, 3, none⟩ (.int .i64 r3.1)).setCell ⟨w.heap.size, 4, none⟩ (.int .i64 r4.1)).setCell ⟨w.heap.size, 5, none⟩ (.int .i64 r5.1)).setCell ⟨w.heap.size, 6, none⟩ (.int .i64 r6.1)).drew.cell? ⟨y6.heap.size, 2, none⟩ = some (.int .i64 r2.1) ∧ (((((((yk.setCell ⟨w.heap.size, 0, none⟩ (.int .i64 r0.1)).setCell ⟨w.heap.size, 1, none⟩ (.int .i64 r1.1)).setCell ⟨w.heap.size, 2, none⟩ (.int .i64 r2.1)).setCell ⟨w.heap.size, 3, none⟩ (.int .i64 r3.1)).setCell ⟨w.heap.size, 4, none⟩ (.int .i64 r4.1)).setCell ⟨w.heap.size, 5, none⟩ (.int .i64 r5.1)).setCell ⟨w.heap.size, 6, none⟩ (.int .i64 r6.1)).drew.cell? ⟨y6.heap.size, 3, none⟩ = some (.int .i64 r3.1) ∧ (((((((yk.setCell ⟨w.heap.size, 0, none⟩ (.int .i64 r0.1)).setCell ⟨w.heap.size, 1, none⟩ (.int .i64 r1.1)).setCell ⟨w.heap.size, 2, none⟩ (.int .i64 r2.1)).setCell ⟨w.heap.size, 3, none⟩ (.int .i64 r3.1)).setCell ⟨w.heap.size, 4, none⟩ (.int .i64 r4.1)).setCell ⟨w.heap.size, 5, none⟩ (.int .i64 r5.1)).setCell ⟨w.heap.size, 6, none⟩ (.int .i64 r6.1)).drew.cell? ⟨y6.heap.size, 4, none⟩ = some (.int .i64 r4.1) ∧ (((((((yk.setCell ⟨w.heap.size, 0, none⟩ (.int .i64 r0.1)).setCell ⟨w.heap.size, 1, none⟩ (.int .i64 r1.1)).setCell ⟨w.heap.size, 2, none⟩ (.int .i64 r2.1)).setCell ⟨w.heap.size, 3, none⟩ (.int .i64 r3.1)).setCell ⟨w.heap.size, 4, none⟩ (.int .i64 r4.1)).setCell ⟨w.heap.size, 5, none⟩ (.int .i64 r5.1)).setCell ⟨w.heap.size, 6, none⟩ (.int .i64 r6.1)).drew.cell? ⟨y6.heap.size, 5, none⟩ = some (.int .i64 r5.1) ∧ (((((((yk.setCell ⟨w.heap.size, 0, none⟩ (.int .i64 r0.1)).setCell ⟨w.heap.size, 1, none⟩ (.int .i64 r1.1)).setCell ⟨w.heap.size, 2, none⟩ (.int .i64 r2.1)).setCell ⟨w.heap.size, 3, none⟩ (.int .i64 r3.1)).setCell ⟨w.heap.size, 4, none⟩ (.int .i64 r4.1)).setCell ⟨w.heap.size, 5, none⟩ (.int .i64 r5.1)).setCell ⟨w.heap.size, 6, none⟩ (.int .i64 r6.1)).drew.cell? ⟨y6.heap.size, 6, none⟩ = some (.int .i64 r6.1) ∧ (((((((yk.setCell ⟨w.heap.size, 0, none⟩ (.int .i64 r0.1)).setCell ⟨w.heap.size, 1, none⟩ (.int .i64 r1.1)).setCell ⟨w.heap.size, 2, none⟩ (.int .i64 r2.1)).setCell ⟨w.heap.size, 3, none⟩ (.int .i64 r3.1)).setCell ⟨w.heap.size, 4, none⟩ (.int .i64 r4.1)).setCell ⟨w.heap.size, 5, none⟩ (.int .i64 r5.1)).setCell ⟨w.heap.size, 6, none⟩ (.int .i64 r6.1)).drew.cell? ⟨y6.heap.size + 1, 0, none⟩ = some (.slice a7 L7.length k7) ∧ (((((((yk.setCell ⟨w.heap.size, 0, none⟩ (.int .i64 r0.1)).setCell ⟨w.heap.size, 1, none⟩ (.int .i64 r1.1)).setCell ⟨w.heap.size, 2, none⟩ (.int .i64 r2.1)).setCell ⟨w.heap.size, 3, none⟩ (.int .i64 r3.1)).setCell ⟨w.heap.size, 4, none⟩ (.int .i64 r4.1)).setCell ⟨w.heap.size, 5, none⟩ (.int .i64 r5.1)).setCell ⟨w.heap.size, 6, none⟩ (.int .i64 r6.1)).drew.cell? ⟨y6.heap.size + 1, 1, none⟩ = some (.slice a8 L8.length k8) ∧ (((((((yk.setCell ⟨w.heap.size, 0, none⟩ (.int .i64 r0.1)).setCell ⟨w.heap.size, 1, none⟩ (.int .i64 r1.1)).setCell ⟨w.heap.size, 2, none⟩ (.int .i64 r2.1)).setCell ⟨w.heap.size, 3, none⟩ (.int .i64 r3.1)).setCell ⟨w.heap.size, 4, none⟩ (.int .i64 r4.1)).setCell ⟨w.heap.size, 5, none⟩ (.int .i64 r5.1)).setCell ⟨w.heap.size, 6, none⟩ (.int .i64 r6.1)).drew.cell? ⟨y6.heap.size + 1, 2, none⟩ = some (.slice a9 L9.length k9) ∧ (((((((yk.setCell ⟨w.heap.size, 0, none⟩ (.int .i64 r0.1)).setCell ⟨w.heap.size, 1, none⟩ (.int .i64 r1.1)).setCell ⟨w.heap.size, 2, none⟩ (.int .i64 r2.1)).setCell ⟨w.heap.size, 3, none⟩ (.int .i64 r3.1)).setCell ⟨w.heap.size, 4, none⟩ (.int .i64 r4.1)).setCell ⟨w.heap.size, 5, none⟩ (.int .i64 r5.1)).setCell ⟨w.heap.size, 6, none⟩ (.int .i64 r6.1)).drew.cell? ⟨w.heap.size + 1 + 1, 1, none⟩ = some (.int .i64 S9.1)))
      have z7 := cell_heap (k := 0) (v := .slice none 0 0) hS rfl
      have x7 := blk_frozen (j := 0) hS
      have hC' : ((((((((yk.setCell ⟨w.heap.size, 0, none⟩ (.int .i64 r0.1)).setCell ⟨w.heap.size, 1, none⟩ (.int .i64 r1.1)).setCell ⟨w.heap.size, 2, none⟩ (.int .i64 r2.1)).setCell ⟨w.heap.size, 3, none⟩ (.int .i64 r3.1)).setCell ⟨w.heap.size, 4, none⟩ (.int .i64 r4.1)).setCell ⟨w.heap.size, 5, none⟩ (.int .i64 r5.1)).setCell ⟨w.heap.size, 6, none⟩ (.int .i64 r6.1)).setCell ⟨w.heap.size + 1, 0, none⟩ (.slice a7 L7.length k7)).heap[w.heap.size]? = some (.cells #[.int .i64 r0.1, .int .i64 r1.1, .int .i64 r2.1, .int .i64 r3.1, .int .i64 r4.1, .int .i64 r5.1, .int .i64 r6.1] 32 (0, 0)) := heap_set_far hC (by omega)
      have hS' : ((((((((yk.setCell ⟨w.heap.size, 0, none⟩ (.int .i64 r0.1)).setCell ⟨w.heap.size, 1, none⟩ (.int .i64 r1.1)).setCell ⟨w.heap.size, 2, none⟩ (.int .i64 r2.1)).setCell ⟨w.heap.size, 3, none⟩ (.int .i64 r3.1)).setCell ⟨w.heap.size, 4, none⟩ (.int .i64 r4.1)).setCell ⟨w.heap.size, 5, none⟩ (.int .i64 r5.1)).setCell ⟨w.heap.size, 6, none⟩ (.int .i64 r6.1)).setCell ⟨w.heap.size + 1, 0, none⟩ (.slice a7 L7.length k7)).heap[w.heap.size + 1]? = some (.cells #[.slice a7 L7.length k7, .slice none 0 0, .slice none 0 0] 71 (0, 0)) := heap_setCell_same (((((((yk.setCell ⟨w.heap.size, 0, none⟩ (.int .i64 r0.1)).setCell ⟨w.heap.size, 1, none⟩ (.int .i64 r1.1)).setCell ⟨w.heap.size, 2, none⟩ (.int .i64 r2.1)).setCell ⟨w.heap.size, 3, none⟩ (.int .i64 r3.1)).setCell ⟨w.heap.size, 4, none⟩ (.int .i64 r4.1)).setCell ⟨w.heap.size, 5, none⟩ (.int .i64 r5.1)).setCell ⟨w.heap.size, 6, none⟩ (.int .i64 r6.1)) (w.heap.size + 1) 0 _ _ _ hS
      have hc' : ((((((((yk.setCell ⟨w.heap.size, 0, none⟩ (.int .i64 r0.1)).setCell ⟨w.heap.size, 1, none⟩ (.int .i64 r1.1)).setCell ⟨w.heap.size, 2, none⟩ (.int .i64 r2.1)).setCell ⟨w.heap.size, 3, none⟩ (.int .i64 r3.1)).setCell ⟨w.heap.size, 4, none⟩ (.int .i64 r4.1)).setCell ⟨w.heap.size, 5, none⟩ (.int .i64 r5.1)).setCell ⟨w.heap.size, 6, none⟩ (.int .i64 r6.1)).setCell ⟨w.heap.size + 1, 0, none⟩ (.slice a7 L7.length k7)).heap[y6.heap.size]? = some (.cells #[.int .i64 r0.1, .int .i64 r1.1, .int .i64 r2.1, .int .i64 r3.1, .int .i64 r4.1, .int .i64 r5.1, .int .i64 r6.1] 32 (0, 0)) := heap_set_far hc (by omega)
      have hs' : ((((((((yk.setCell ⟨w.heap.size, 0, none⟩ (.int .i64 r0.1)).setCell ⟨w.heap.size, 1, none⟩ (.int .i64 r1.1)).setCell ⟨w.heap.size, 2, none⟩ (.int .i64 r2.1)).setCell ⟨w.heap.size, 3, none⟩ (.int .i64 r3.1)).setCell ⟨w.heap.size, 4, none⟩ (.int .i64 r4.1)).setCell ⟨w.heap.size, 5, none⟩ (.int .i64 r5.1)).setCell ⟨w.heap.size, 6, none⟩ (.int .i64 r6.1)).setCell ⟨w.heap.size + 1, 0, none⟩ (.slice a7 L7.length k7)).heap[y6.heap.size + 1]? = some (.cells #[.slice a7 L7.length k7, .slice a8 L8.length k8, .slice a9 L9.length k9] 71 (0, 0)) := heap_set_far hs (by omega)
      have hG' := gb_set hG (b := w.heap.size + 1) (by omega) 0 (.slice a7 L7.length k7)
      have cR' : ((((((((yk.setCell ⟨w.heap.size, 0, none⟩ (.int .i64 r0.1)).setCell ⟨w.heap.size, 1, none⟩ (.int .i64 r1.1)).setCell ⟨w.heap.size, 2, none⟩ (.int .i64 r2.1)).setCell ⟨w.heap.size, 3, none⟩ (.int .i64 r3.1)).setCell ⟨w.heap.size, 4, none⟩ (.int .i64 r4.1)).setCell ⟨w.heap.size, 5, none⟩ (.int .i64 r5.1)).setCell ⟨w.heap.size, 6, none⟩ (.int .i64 r6.1)).setCell ⟨w.heap.size + 1, 0, none⟩ (.slice a7 L7.length k7)).cell? ⟨w.heap.size + 1 + 1, 1, none⟩ = some (.int .i64 S9.1) := cell_set_far cR (by omega)
      have p7' := owns_set p7 (b := w.heap.size + 1) (by omega) 0 (.slice a7 L7.length k7)
      have p8' := owns_set p8 (b := w.heap.size + 1) (by omega) 0 (.slice a7 L7.length k7)
      have p9' := owns_set p9 (b := w.heap.size + 1) (by omega) 0 (.slice a7 L7.length k7)
      clear hC hS hc hs hG cR p7 p8 p9
      have hC := hC'
      have hS := hS'
      have hc := hc'
      have hs := hs'
      have hG := hG'
      have cR := cR'
      have p7 := p7'
      have p8 := p8'
      have p9 := p9'
      clear hC' hS' hc' hs' hG' cR' p7' p8' p9'
      have z8 := cell_heap (k := 1) (v := .slice none 0 0) hS rfl
      have x8 := blk_frozen (j := 1) hS
      have hC' : (((((((((yk.setCell ⟨w.heap.size, 0, none⟩ (.int .i64 r0.1)).setCell ⟨w.heap.size, 1, none⟩ (.int .i64 r1.1)).setCell ⟨w.heap.size, 2, none⟩ (.int .i64 r2.1)).setCell ⟨w.heap.size, 3, none⟩ (.int .i64 r3.1)).setCell ⟨w.heap.size, 4, none⟩ (.int .i64 r4.1)).setCell ⟨w.heap.size, 5, none⟩ (.int .i64 r5.1)).setCell ⟨w.heap.size, 6, none⟩ (.int .i64 r6.1)).setCell ⟨w.heap.size + 1, 0, none⟩ (.slice a7 L7.length k7)).setCell ⟨w.heap.size + 1, 1, none⟩ (.slice a8 L8.length k8)).heap[w.heap.size]? = some (.cells #[.int .i64 r0.1, .int .i64 r1.1, .int .i64 r2.1, .int .i64 r3.1, .int .i64 r4.1, .int .i64 r5.1, .int .i64 r6.1] 32 (0, 0)) := heap_set_far hC (by omega)
      have hS' : (((((((((yk.setCell ⟨w.heap.size, 0, none⟩ (.int .i64 r0.1)).setCell ⟨w.heap.size, 1, none⟩ (.int .i64 r1.1)).setCell ⟨w.heap.size, 2, none⟩ (.int .i64 r2.1)).setCell ⟨w.heap.size, 3, none⟩ (.int .i64 r3.1)).setCell ⟨w.heap.size, 4, none⟩ (.int .i64 r4.1)).setCell ⟨w.heap.size, 5, none⟩ (.int .i64 r5.1)).setCell ⟨w.heap.size, 6, none⟩ (.int .i64 r6.1)).setCell ⟨w.heap.size + 1, 0, none⟩ (.slice a7 L7.length k7)).setCell ⟨w.heap.size + 1, 1, none⟩ (.slice a8 L8.length k8)).heap[w.heap.size + 1]? = some (.cells #[.slice a7 L7.length k7, .slice a8 L8.length k8, .slice none 0 0] 71 (0, 0)) := heap_setCell_same ((((((((yk.setCell ⟨w.heap.size, 0, none⟩ (.int .i64 r0.1)).setCell ⟨w.heap.size, 1, none⟩ (.int .i64 r1.1)).setCell ⟨w.heap.size, 2, none⟩ (.int .i64 r2.1)).setCell ⟨w.heap.size, 3, none⟩ (.int .i64 r3.1)).setCell ⟨w.heap.size, 4, none⟩ (.int .i64 r4.1)).setCell ⟨w.heap.size, 5, none⟩ (.int .i64 r5.1)).setCell ⟨w.heap.size, 6, none⟩ (.int .i64 r6.1)).setCell ⟨w.heap.size + 1, 0, none⟩ (.slice a7 L7.length k7)) (w.heap.size + 1) 1 _ _ _ hS
      have hc' : (((((((((yk.setCell ⟨w.heap.size, 0, none⟩ (.int .i64 r0.1)).setCell ⟨w.heap.size, 1, none⟩ (.int .i64 r1.1)).setCell ⟨w.heap.size, 2, none⟩ (.int .i64 r2.1)).setCell ⟨w.heap.size, 3, none⟩ (.int .i64 r3.1)).setCell ⟨w.heap.size, 4, none⟩ (.int .i64 r4.1)).setCell ⟨w.heap.size, 5, none⟩ (.int .i64 r5.1)).setCell ⟨w.heap.size, 6, none⟩ (.int .i64 r6.1)).setCell ⟨w.heap.size + 1, 0, none⟩ (.slice a7 L7.length k7)).setCell ⟨w.heap.size + 1, 1, none⟩ (.slice a8 L8.length k8)).heap[y6.heap.size]? = some (.cells #[.int .i64 r0.1, .int .i64 r1.1, .int .i64 r2.1, .int .i64 r3.1, .int .i64 r4.1, .int .i64 r5.1, .int .i64 r6.1] 32 (0, 0)) := heap_set_far hc (by omega)
      have hs' : (((((((((yk.setCell ⟨w.heap.size, 0, none⟩ (.int .i64 r0.1)).setCell ⟨w.heap.size, 1, none⟩ (.int .i64 r1.1)).setCell ⟨w.heap.size, 2, none⟩ (.int .i64 r2.1)).setCell ⟨w.heap.size, 3, none⟩ (.int .i64 r3.1)).setCell ⟨w.heap.size, 4, none⟩ (.int .i64 r4.1)).setCell ⟨w.heap.size, 5, none⟩ (.int .i64 r5.1)).setCell ⟨w.heap.size, 6, none⟩ (.int .i64 r6.1)).setCell ⟨w.heap.size + 1, 0, none⟩ (.slice a7 L7.length k7)).setCell ⟨w.heap.size + 1, 1, none⟩ (.slice a8 L8.length k8)).heap[y6.heap.size + 1]? = some (.cells #[.slice a7 L7.length k7, .slice a8 L8.length k8, .slice a9 L9.length k9] 71 (0, 0)) := heap_set_far hs (by omega)
      have hG' := gb_set hG (b := w.heap.size + 1) (by omega) 1 (.slice a8 L8.length k8)
      have cR' : (((((((((yk.setCell ⟨w.heap.size, 0, none⟩ (.int .i64 r0.1)).setCell ⟨w.heap.size, 1, none⟩ (.int .i64 r1.1)).setCell ⟨w.heap.size, 2, none⟩ (.int .i64 r2.1)).setCell ⟨w.heap.size, 3, none⟩ (.int .i64 r3.1)).setCell ⟨w.heap.size, 4, none⟩ (.int .i64 r4.1)).setCell ⟨w.heap.size, 5, none⟩ (.int .i64 r5.1)).setCell ⟨w.heap.size, 6, none⟩ (.int .i64 r6.1)).setCell ⟨w.heap.size + 1, 0, none⟩ (.slice a7 L7.length k7)).setCell ⟨w.heap.size + 1, 1, none⟩ (.slice a8 L8.length k8)).cell? ⟨w.heap.size + 1 + 1, 1, none⟩ = some (.int .i64 S9.1) := cell_set_far cR (by omega)
      have p7' := owns_set p7 (b := w.heap.size + 1) (by omega) 1 (.slice a8 L8.length k8)
      have p8' := owns_set p8 (b := w.heap.size + 1) (by omega) 1 (.slice a8 L8.length k8)
      have p9' := owns_set p9 (b := w.heap.size + 1) (by omega) 1 (.slice a8 L8.length k8)
      clear hC hS hc hs hG cR p7 p8 p9
      have hC := hC'
      have hS := hS'
      have hc := hc'
      have hs := hs'
      have hG := hG'
      have cR := cR'
      have p7 := p7'
      have p8 := p8'
      have p9 := p9'
      clear hC' hS' hc' hs' hG' cR' p7' p8' p9'
      have z9 := cell_heap (k := 2) (v := .slice none 0 0) hS rfl
      have x9 := blk_frozen (j := 2) hS
      have hC' : ((((((((((yk.setCell ⟨w.heap.size, 0, none⟩ (.int .i64 r0.1)).setCell ⟨w.heap.size, 1, none⟩ (.int .i64 r1.1)).setCell ⟨w.heap.size, 2, none⟩ (.int .i64 r2.1)).setCell ⟨w.heap.size, 3, none⟩ (.int .i64 r3.1)).setCell ⟨w.heap.size, 4, none⟩ (.int .i64 r4.1)).setCell ⟨w.heap.size, 5, none⟩ (.int .i64 r5.1)).setCell ⟨w.heap.size, 6, none⟩ (.int .i64 r6.1)).setCell ⟨w.heap.size + 1, 0, none⟩ (.slice a7 L7.length k7)).setCell ⟨w.heap.size + 1, 1, none⟩ (.slice a8 L8.length k8)).setCell ⟨w.heap.size + 1, 2, none⟩ (.slice a9 L9.length k9)).heap[w.heap.size]? = some (.cells #[.int .i64 r0.1, .int .i64 r1.1, .int .i64 r2.1, .int .i64 r3.1, .int .i64 r4.1, .int .i64 r5.1, .int .i64 r6.1] 32 (0, 0)) := heap_set_far hC (by omega)
      have hS' : ((((((((((yk.setCell ⟨w.heap.size, 0, none⟩ (.int .i64 r0.1)).setCell ⟨w.heap.size, 1, none⟩ (.int .i64 r1.1)).setCell ⟨w.heap.size, 2, none⟩ (.int .i64 r2.1)).setCell ⟨w.heap.size, 3, none⟩ (.int .i64 r3.1)).setCell ⟨w.heap.size, 4, none⟩ (.int .i64 r4.1)).setCell ⟨w.heap.size, 5, none⟩ (.int .i64 r5.1)).setCell ⟨w.heap.size, 6, none⟩ (.int .i64 r6.1)).setCell ⟨w.heap.size + 1, 0, none⟩ (.slice a7 L7.length k7)).setCell ⟨w.heap.size + 1, 1, none⟩ (.slice a8 L8.length k8)).setCell ⟨w.heap.size + 1, 2, none⟩ (.slice a9 L9.length k9)).heap[w.heap.size + 1]? = some (.cells #[.slice a7 L7.length k7, .slice a8 L8.length k8, .slice a9 L9.length k9] 71 (0, 0)) := heap_setCell_same (((((((((yk.setCell ⟨w.heap.size, 0, none⟩ (.int .i64 r0.1)).setCell ⟨w.heap.size, 1, none⟩ (.int .i64 r1.1)).setCell ⟨w.heap.size, 2, none⟩ (.int .i64 r2.1)).setCell ⟨w.heap.size, 3, none⟩ (.int .i64 r3.1)).setCell ⟨w.heap.size, 4, none⟩ (.int .i64 r4.1)).setCell ⟨w.heap.size, 5, none⟩ (.int .i64 r5.1)).setCell ⟨w.heap.size, 6, none⟩ (.int .i64 r6.1)).setCell ⟨w.heap.size + 1, 0, none⟩ (.slice a7 L7.length k7)).setCell ⟨w.heap.size + 1, 1, none⟩ (.slice a8 L8.length k8)) (w.heap.size + 1) 2 _ _ _ hS
      have hc' : ((((((((((yk.setCell ⟨w.heap.size, 0, none⟩ (.int .i64 r0.1)).setCell ⟨w.heap.size, 1, none⟩ (.int .i64 r1.1)).setCell ⟨w.heap.size, 2, none⟩ (.int .i64 r2.1)).setCell ⟨w.heap.size, 3, none⟩ (.int .i64 r3.1)).setCell ⟨w.heap.size, 4, none⟩ (.int .i64 r4.1)).setCell ⟨w.heap.size, 5, none⟩ (.int .i64 r5.1)).setCell ⟨w.heap.size, 6, none⟩ (.int .i64 r6.1)).setCell ⟨w.heap.size + 1, 0, none⟩ (.slice a7 L7.length k7)).setCell ⟨w.heap.size + 1, 1, none⟩ (.slice a8 L8.length k8)).setCell ⟨w.heap.size + 1, 2, none⟩ (.slice a9 L9.length k9)).heap[y6.heap.size]? = some (.cells #[.int .i64 r0.1, .int .i64 r1.1, .int .i64 r2.1, .int .i64 r3.1, .int .i64 r4.1, .int .i64 r5.1, .int .i64 r6.1] 32 (0, 0)) := heap_set_far hc (by omega)
      have hs' : ((((((((((yk.setCell ⟨w.heap.size, 0, none⟩ (.int .i64 r0.1)).setCell ⟨w.heap.size, 1, none⟩ (.int .i64 r1.1)).setCell ⟨w.heap.size, 2, none⟩ (.int .i64 r2.1)).setCell ⟨w.heap.size, 3, none⟩ (.int .i64 r3.1)).setCell ⟨w.heap.size, 4, none⟩ (.int .i64 r4.1)).setCell ⟨w.heap.size, 5, none⟩ (.int .i64 r5.1)).setCell ⟨w.heap.size, 6, none⟩ (.int .i64 r6.1)).setCell ⟨w.heap.size + 1, 0, none⟩ (.slice a7 L7.length k7)).setCell ⟨w.heap.size + 1, 1, none⟩ (.slice a8 L8.length k8)).setCell ⟨w.heap.size + 1, 2, none⟩ (.slice a9 L9.length k9)).heap[y6.heap.size + 1]? = some (.cells #[.slice a7 L7.length k7, .slice a8 L8.length k8, .slice a9 L9.length k9] 71 (0, 0)) := heap_set_far hs (by omega)
      have hG' := gb_set hG (b := w.heap.size + 1) (by omega) 2 (.slice a9 L9.length k9)
      have cR' : ((((((((((yk.setCell ⟨w.heap.size, 0, none⟩ (.int .i64 r0.1)).setCell ⟨w.heap.size, 1, none⟩ (.int .i64 r1.1)).setCell ⟨w.heap.size, 2, none⟩ (.int .i64 r2.1)).setCell ⟨w.heap.size, 3, none⟩ (.int .i64 r3.1)).setCell ⟨w.heap.size, 4, none⟩ (.int .i64 r4.1)).setCell ⟨w.heap.size, 5, none⟩ (.int .i64 r5.1)).setCell ⟨w.heap.size, 6, none⟩ (.int .i64 r6.1)).setCell ⟨w.heap.size + 1, 0, none⟩ (.slice a7 L7.length k7)).setCell ⟨w.heap.size + 1, 1, none⟩ (.slice a8 L8.length k8)).setCell ⟨w.heap.size + 1, 2, none⟩ (.slice a9 L9.length k9)).cell? ⟨w.heap.size + 1 + 1, 1, none⟩ = some (.int .i64 S9.1) := cell_set_far cR (by omega)
      have p7' := owns_set p7 (b := w.heap.size + 1) (by omega) 2 (.slice a9 L9.length k9)
      have p8' := owns_set p8 (b := w.heap.size + 1) (by omega) 2 (.slice a9 L9.length k9)
      have p9' := owns_set p9 (b := w.heap.size + 1) (by omega) 2 (.slice a9 L9.length k9)
      clear hC hS hc hs hG cR p7 p8 p9
      have hC := hC'
      have hS := hS'
      have hc := hc'
      have hs := hs'
      have hG := hG'
      have cR := cR'
      have p7 := p7'
      have p8 := p8'
      have p9 := p9'
      clear hC' hS' hc' hs' hG' cR' p7' p8' p9'
      have FB := Lib.hid (show _ from (⟨dr_cell (cell_heap (k := 0) (v := .int .i64 r0.1) hc rfl), dr_cell (cell_heap (k := 1) (v := .int .i64 r1.1) hc rfl), dr_cell (cell_heap (k := 2) (v := .int .i64 r2.1) hc rfl), dr_cell (cell_heap (k := 3) (v := .int .i64 r3.1) hc rfl), dr_cell (cell_heap (k := 4) (v := .int .i64 r4.1) hc rfl), dr_cell (cell_heap (k := 5) (v := .int .i64 r5.1) hc rfl), dr_cell (cell_heap (k := 6) (v := .int .i64 r6.1) hc rfl), dr_cell (cell_heap (k := 0) (v := .slice a7 L7.length k7) hs rfl), dr_cell (cell_heap (k := 1) (v := .slice a8 L8.length k8) hs rfl), dr_cell (cell_heap (k := 2) (v := .slice a9 L9.length k9) hs rfl), dr_cell cR⟩ : ((((((((((yk.setCell ⟨w.heap.size, 0, none⟩ (.int .i64 r0.1)).setCell ⟨w.heap.size, 1, none⟩ (.int .i64 r1.1)).setCell ⟨w.heap.size, 2, none⟩ (.int .i64 r2.1)).setCell ⟨w.heap.size, 3, none⟩ (.int .i64 r3.1)).setCell ⟨w.heap.size, 4, none⟩ (.int .i64 r4.1)).setCell ⟨w.heap.size, 5, none⟩ (.int .i64 r5.1)).setCell ⟨w.heap.size, 6, none⟩ (.int .i64 r6.1)).setCell ⟨w.heap.size + 1, 0, none⟩ (.slice a7 L7.length k7)).setCell ⟨w.heap.size + 1, 1, none⟩ (.slice a8 L8.length k8)).setCell ⟨w.heap.size + 1, 2, none⟩ (.slice a9 L9.length k9)).drew.cell? ⟨y6.heap.size, 0, none⟩ = some (.int .i64 r0.1) ∧ ((((((((((yk.setCell ⟨w.heap.size, 0, none⟩ (.int .i64 r0.1)).setCell ⟨w.heap.size, 1, none⟩ (.int .i64 r1.1)).setCell ⟨w.heap.size, 2, none⟩ (.int .i64 r2.1)).setCell ⟨w.heap.size, 3, none⟩ (.int .i64 r3.1)).setCell ⟨w.heap.size, 4, none⟩ (.int .i64 r4.1)).setCell ⟨w.heap.size, 5, none⟩ (.int .i64 r5.1)).setCell ⟨w.heap.size, 6, none⟩ (.int .i64 r6.1)).setCell ⟨w.heap.size + 1, 0, none⟩ (.slice a7 L7.length k7)).setCell ⟨w.heap.size + 1, 1, none⟩ (.slice a8 L8.length k8)).setCell ⟨w.heap.size + 1, 2, none⟩ (.slice a9 L9.length k9)).drew.cell? ⟨y6.heap.size, 1, none⟩ = some (.int .i64 r1.1) ∧ ((((((((((yk.setCell ⟨w.heap.size, 0, none⟩ (.int .i64 r0.1)).setCell ⟨w.heap.size, 1, none⟩ (.int .i64 r1.1)).setCell ⟨w.heap.size, 2, none⟩ (.int .i64 r2.1)).setCell ⟨w.heap.size, 3, none⟩ (.int .i64 r3.1)).setCell ⟨w.heap.size, 4, none⟩ (.int .i64 r4.1)).setCell ⟨w.heap.size, 5, none⟩ (.int .i64 r5.1)).setCell ⟨w.heap.size, 6, none⟩ (.int .i64 r6.1)).setCell ⟨w.heap.size + 1, 0, none⟩ (.slice a7 L7.length k7)).setCell ⟨w.heap.size + 1, 1, none⟩ (.slice a8 L8.length k8)).setCell ⟨w.heap.size + 1, 2, none⟩ (.slice a9 L9.length k9)).drew.cell? ⟨y6.heap.size, 2, none⟩ = some (.int .i64 r2.1) ∧ ((((((((((yk.setCell ⟨w.heap.size, 0, none⟩ (.int .i64 r0.1)).setCell ⟨w.heap.size, 1, none⟩ (.int .i64 r1.1)).setCell ⟨w.heap.size, 2, none⟩ (.int .i64 r2.1)).setCell ⟨w.heap.size, 3, none⟩ (.int .i64 r3.1)).setCell ⟨w.heap.size, 4, none⟩ (.int .i64 r4.1)).setCell ⟨w.heap.size, 5, none⟩ (.int .i64 r5.1)).setCell ⟨w.heap.size, 6, none⟩ (.int .i64 r6.1)).setCell ⟨w.heap.size + 1, 0, none⟩ (.slice a7 L7.length k7)).setCell ⟨w.heap.size + 1, 1, none⟩ (.slice a8 L8.length k8)).setCell ⟨w.heap.size + 1, 2, none⟩ (.slice a9 L9.length k9)).drew.cell? ⟨y6.heap.size, 3, none⟩ = some (.int .i64 r3.1) ∧ ((((((((((yk.setCell ⟨w.heap.size, 0, none⟩ (.int .i64 r0.1)).setCell ⟨w.heap.size, 1, none⟩ (.int .i64 r1.1)).setCell ⟨w.heap.size, 2, none⟩ (.int .i64 r2.1)).setCell ⟨w.heap.size, 3, none⟩ (.int .i64 r3.1)).setCell ⟨w.heap.size, 4, none⟩ (.int .i64 r4.1)).setCell ⟨w.heap.size, 5, none⟩ (.int .i64 r5.1)).setCell ⟨w.heap.size, 6, none⟩ (.int .i64 r6.1)).setCell ⟨w.heap.size + 1, 0, none⟩ (.slice a7 L7.length k7)).setCell ⟨w.heap.size + 1, 1, none⟩ (.slice a8 L8.length k8)).setCell ⟨w.heap.size + 1, 2, none⟩ (.slice a9 L9.length k9)).drew.cell? ⟨y6.heap.size, 4, none⟩ = some (.int .i64 r4.1) ∧ ((((((((((yk.setCell ⟨w.heap.size, 0, none⟩ (.int .i64 r0.1)).setCell ⟨w.heap.size, 1, none⟩ (.int .i64 r1.1)).setCell ⟨w.heap.size, 2, none⟩ (.int .i64 r2.1)).setCell ⟨w.heap.size, 3, none⟩ (.int .i64 r3.1)).setCell ⟨w.heap.size, 4, none⟩ (.int .i64 r4.1)).setCell ⟨w.heap.size, 5, none⟩ (.int .i64 r5.1)).setCell ⟨w.heap.size, 6, none⟩ (.int .i64 r6.1)).setCell ⟨w.heap.size + 1, 0, none⟩ (.slice a7 L7.length k7)).setCell ⟨w.heap.size + 1, 1, none⟩ (.slice a8 L8.length k8)).setCell ⟨w.heap.size + 1, 2, none⟩ (.slice a9 L9.length k9)).drew.cell? ⟨y6.heap.size, 5, none⟩ = some (.int .i64 r5.1) ∧ ((((((((((yk.setCell ⟨w.heap.size, 0, none⟩ (.int .i64 r0.1)).setCell ⟨w.heap.size, 1, none⟩ (.int .i64 r1.1)).setCell ⟨w.heap.size, 2, none⟩ (.int .i64 r2.1)).setCell ⟨w.heap.size, 3, none⟩ (.int .i64 r3.1)).setCell ⟨w.heap.size, 4, none⟩ (.int .i64 r4.1)).setCell ⟨w.heap.size, 5, none⟩ (.int .i64 r5.1)).setCell ⟨w.heap.size, 6, none⟩ (.int .i64 r6.1)).setCell ⟨w.heap.size + 1, 0, none⟩ (.slice a7 L7.length k7)).setCell ⟨w.heap.size + 1, 1, none⟩ (.slice a8 L8.length k8)).setCell ⟨w.heap.size + 1, 2, none⟩ (.slice a9 L9.length k9)).drew.cell? ⟨y6.heap.size, 6, none⟩ = some (.int .i64 r6.1) ∧ ((((((((((yk.setCell ⟨w.heap.size, 0, none⟩ (.int .i64 r0.1)).setCell ⟨w.heap.size, 1, none⟩ (.int .i64 r1.1)).setCell ⟨w.heap.size, 2, none⟩ (.int .i64 r2.1)).setCell ⟨w.heap.size, 3, none⟩ (.int .i64 r3.1)).setCell ⟨w.heap.size, 4, none⟩ (.int .i64 r4.1)).setCell ⟨w.heap.size, 5, none⟩ (.int .i64 r5.1)).setCell ⟨w.heap.size, 6, none⟩ (.int .i64 r6.1)).setCell ⟨w.heap.size + 1, 0, none⟩ (.slice a7 L7.length k7)).setCell ⟨w.heap.size + 1, 1, none⟩ (.slice a8 L8.length k8)).setCell ⟨w.heap.size + 1, 2, none⟩ (.slice a9 L9.length k9)).drew.cell? ⟨y6.heap.size + 1, 0, none⟩ = some (.slice a7 L7.length k7) ∧ ((((((((((yk.setCell ⟨w.heap.size, 0, none⟩ (.int .i64 r0.1)).setCell ⟨w.heap.size, 1, none⟩ (.int .i64 r1.1)).setCell ⟨w.heap.size, 2, none⟩ (.int .i64 r2.1)).setCell ⟨w.heap.size, 3, none⟩ (.int .i64 r3.1)).setCell ⟨w.heap.size, 4, none⟩ (.int .i64 r4.1)).setCell ⟨w.heap.size, 5, none⟩ (.int .i64 r5.1)).setCell ⟨w.heap.size, 6, none⟩ (.int .i64 r6.1)).setCell ⟨w.heap.size + 1, 0, none⟩ (.slice a7 L7.length k7)).setCell ⟨w.heap.size + 1, 1, none⟩ (.slice a8 L8.length k8)).setCell ⟨w.heap.size + 1, 2, none⟩ (.slice a9 L9.length k9)).drew.cell? ⟨y6.heap.size + 1, 1, none⟩ = some (.slice a8 L8.length k8) ∧ ((((((((((yk.setCell ⟨w.heap.size, 0, none⟩ (.int .i64 r0.1)).setCell ⟨w.heap.size, 1, none⟩ (.int .i64 r1.1)).setCell ⟨w.heap.size, 2, none⟩ (.int .i64 r2.1)).setCell ⟨w.heap.size, 3, none⟩ (.int .i64 r3.1)).setCell ⟨w.heap.size, 4, none⟩ (.int .i64 r4.1)).setCell ⟨w.heap.size, 5, none⟩ (.int .i64 r5.1)).setCell ⟨w.heap.size, 6, none⟩ (.int .i64 r6.1)).setCell ⟨w.heap.size + 1, 0, none⟩ (.slice a7 L7.length k7)).setCell ⟨w.heap.size + 1, 1, none⟩ (.slice a8 L8.length k8)).setCell ⟨w.heap.size + 1, 2, none⟩ (.slice a9 L9.length k9)).drew.cell? ⟨y6.heap.size + 1, 2, none⟩ = some (.slice a9 L9.length k9) ∧ ((((((((((yk.setCell ⟨w.heap.size, 0, none⟩ (.int .i64 r0.1)).setCell ⟨w.heap.size, 1, none⟩ (.int .i64 r1.1)).setCell ⟨w.heap.size, 2, none⟩ (.int .i64 r2.1)).setCell ⟨w.heap.size, 3, none⟩ (.int .i64 r3.1)).setCell ⟨w.heap.size, 4, none⟩ (.int .i64 r4.1)).setCell ⟨w.heap.size, 5, none⟩ (.int .i64 r5.1)).setCell ⟨w.heap.size, 6, none⟩ (.int .i64 r6.1)).setCell ⟨w.heap.size + 1, 0, none⟩ (.slice a7 L7.length k7)).setCell ⟨w.heap.size + 1, 1, none⟩ (.slice a8 L8.length k8)).setCell ⟨w.heap.size + 1, 2, none⟩ (.slice a9 L9.length k9)).drew.cell? ⟨w.heap.size + 1 + 1, 1, none⟩ = some (.int .i64 S9.1)))
      have HCF := Lib.hid hC
      have HSF := Lib.hid hS
      have HGF := Lib.hid hG
      have P7 := Lib.hid p7
      have P8 := Lib.hid p8
      have P9 := Lib.hid p9
      clear hC hS hc hs hG cR p7 p8 p9
      go_wp2_with fail
      go_region_held3 (fun WW => WW.cell? ⟨y6.heap.size, 0, none⟩ = some (.int .i64 r0.1) ∧ WW.cell? ⟨y6.heap.size, 1, none⟩ = some (.int .i64 r1.1) ∧ WW.cell? ⟨y6.heap.size, 2, none⟩ = some (.int .i64 r2.1) ∧ WW.cell? ⟨y6.heap.size, 3, none⟩ = some (.int .i64 r3.1) ∧ WW.cell? ⟨y6.heap.size, 4, none⟩ = some (.int .i64 r4.1) ∧ WW.cell? ⟨y6.heap.size, 5, none⟩ = some (.int .i64 r5.1) ∧ WW.cell? ⟨y6.heap.size, 6, none⟩ = some (.int .i64 r6.1) ∧ WW.cell? ⟨y6.heap.size + 1, 0, none⟩ = some (.slice a7 L7.length k7) ∧ WW.cell? ⟨y6.heap.size + 1, 1, none⟩ = some (.slice a8 L8.length k8) ∧ WW.cell? ⟨y6.heap.size + 1, 2, none⟩ = some (.slice a9 L9.length k9) ∧ WW.cell? ⟨w.heap.size + 1 + 1, 1, none⟩ = some (.int .i64 S9.1))
        (first
          | with_reducible exact F0.out
          | with_reducible exact FA.out
          | with_reducible exact FB.out
          | fail)
        (fail)
      rename_i hH
      clear hH F0 FA FB
      go_wp2
      refine bodyPost_ret (results_cct rfl _ _ w.heap.size 32 #[.int .i64 r0.1, .int .i64 r1.1, .int .i64 r2.1, .int .i64 r3.1, .int .i64 r4.1, .int .i64 r5.1, .int .i64 r6.1] (0, 0) _ (w.heap.size + 1) 71 #[.slice a7 L7.length k7, .slice a8 L8.length k8, .slice a9 L9.length k9] (0, 0) _ rfl (dr_heap HCF.out) Try.underlying32 rfl (by kernel_rfl) rfl (dr_heap HSF.out) Try.underlying71 rfl (by kernel_rfl)) rfl ?_
      unfold rdPost
      rw [HW.out]
      exact ⟨⟨a7, L7.length, k7⟩, ⟨a8, L8.length, k8⟩, ⟨a9, L9.length, k9⟩, rfl, ⟨dr_slr (f := triC) (fun _ => rfl) rfl P7.out, dr_slr (f := bxC) (fun _ => rfl) rfl P8.out, dr_slr (f := hpC) (fun _ => rfl) rfl P9.out⟩, gn_below HGF.out.drew⟩
  · have HW : Hid (V = (cfg0, sou0, 0, 3)) := by show _ = _; rw [HV.out, rdSoup, if_pos (by omega)]
    have hI : (131072 : Int) < (n : Int) := by omega
    clear HV hn
    have hG := World.grownBy.refl w none
    have hG' := gb_alloc hG (.cells #[.int .i64 0, .int .i64 0, .int .i64 0, .int .i64 0, .int .i64 0, .int .i64 0, .int .i64 0] 32)
    have hC : (w.alloc (.cells #[.int .i64 0, .int .i64 0, .int .i64 0, .int .i64 0, .int .i64 0, .int .i64 0, .int .i64 0] 32)).heap[w.heap.size]? = some (.cells #[.int .i64 0, .int .i64 0, .int .i64 0, .int .i64 0, .int .i64 0, .int .i64 0, .int .i64 0] 32 (0, 0)) := rd_at _ (by simp)
    clear hG
    have hG := hG'
    clear hG'
    have hC' := rd_past (.cells #[.slice none 0 0, .slice none 0 0, .slice none 0 0] 71) hC
    have hG' := gb_alloc hG (.cells #[.slice none 0 0, .slice none 0 0, .slice none 0 0] 71)
    have hS : ((w.alloc (.cells #[.int .i64 0, .int .i64 0, .int .i64 0, .int .i64 0, .int .i64 0, .int .i64 0, .int .i64 0] 32)).alloc (.cells #[.slice none 0 0, .slice none 0 0, .slice none 0 0] 71)).heap[w.heap.size + 1]? = some (.cells #[.slice none 0 0, .slice none 0 0, .slice none 0 0] 71 (0, 0)) := rd_at _ (by simp)
    clear hC hG
    have hC := hC'
    have hG := hG'
    clear hC' hG'
    go_enter Try.func54, Try.ntmps54
    go_wp2
    refine bodyPost_ret (results_cct rfl _ _ w.heap.size 32 #[.int .i64 0, .int .i64 0, .int .i64 0, .int .i64 0, .int .i64 0, .int .i64 0, .int .i64 0] (0, 0) _ (w.heap.size + 1) 71 #[.slice none 0 0, .slice none 0 0, .slice none 0 0] (0, 0) _ rfl hC Try.underlying32 rfl (by kernel_rfl) rfl hS Try.underlying71 rfl (by kernel_rfl)) rfl ?_
    unfold rdPost
    rw [HW.out]
    exact ⟨⟨none, 0, 0⟩, ⟨none, 0, 0⟩, ⟨none, 0, 0⟩, rfl, ⟨SlR.nil _ _ _, SlR.nil _ _ _, SlR.nil _ _ _⟩, gn_below hG⟩

end Go.Proofs.Ytilhmlapbifbbaa
