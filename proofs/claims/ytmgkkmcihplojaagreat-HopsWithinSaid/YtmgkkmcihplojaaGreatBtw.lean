/- Walks: doors.Between. -/
import Derived.Test.YtmgkkmcihplojaaGreatLl
import Derived.Test.YtmgkkmcihplojaaGreatKg
import Derived.Test.YtmgkkmcihplojaaGreatKf
namespace Go.Proofs.YtmgkkmcihplojaaGreat
open Go.RowKit Go.Shelf Go.Sort
attribute [local go_sem] Oper.semAt_some Instr.index

theorem PrsAt.mono {H H' : Nat} {cf : Cfg} {ha : RHd} {a : Rc} {hb : RHd} {b : Rc} {up : Bool} {s : Value} {w : World} (h : PrsAt H cf ha a hb b up s w) (hH : H' ≤ H) : PrsAt H' cf ha a hb b up s w := by
  obtain ⟨pf, pt, pa, ps, pc, p5, p6, e, ⟨h1, h2, h3, h4, h5, h6, h7⟩, hi⟩ := h
  exact ⟨pf, pt, pa, ps, pc, p5, p6, e, ⟨by omega, by omega, by omega, by omega, by omega, by omega, by omega⟩, hi⟩
theorem results_c1s {P : Program} {fn : Func} {p : Tmp} {ty e : TypeId} (h : fn.results = #[.cell p ty]) (tmps : Array Value) (w : World) (g : Nat) (v : Value)
    (hp : tmps.getD p undef = .pointer (some ⟨g, 0, none⟩)) (hg : w.cell? ⟨g, 0, none⟩ = some v)
    (hu : P.underlying ty = some (.slice e)) : (results fn tmps).run P w = .ok v w := by
  have e1 : tmps[p]?.getD undef = .pointer (some ⟨g, 0, none⟩) := by simpa using hp
  simp [results, h, e1, asAddr, loadVar, isAgg, Sem.run_bind, run_underlying hu, Result.andThen, hg, go_sem]
def BtInv (T : Nat) (cf : Cfg) (ha : RHd) (ra : Rc) (hb : RHd) (rb : Rc) (H : Nat) (w1 : World) (F : Value → Value → Value → Value → Value → Value → Value → Value → Value → Value → Value → Value → Value → Value → Value → Value → Value → Value → Value → Array Value) (D : List Deferred) (L : Array Bool) (a : Act) (w : World) : Prop :=
  ∃ (s0 s1 s2 s3 s4 s5 s6 s7 s8 s9 s10 s11 s12 s13 s14 s15 s16 s17 s18 : Value) (p16 : Nat), a = { tmps := F s0 s1 s2 s3 s4 s5 s6 s7 s8 s9 s10 s11 s12 s13 s14 s15 s16 s17 s18, defers := D } ∧
    Below H w1 w ∧
    w.heap[T]? = some (cfO cf) ∧
    w.heap[T + 1]? = some (rcO ha ra) ∧
    w.heap[T + 2]? = some (rcO hb rb) ∧
    w.heap[T + 3]? = some (.cells #[.slice none 0 0] 36 (0, 0)) ∧
    (L.getD 0 false = true → s0 = .agg #[.int .i64 cf.clear, .int .i64 cf.climb, .int .i64 cf.height, .int .i64 cf.rise, .int .i64 cf.run, .int .i64 cf.w, .int .i64 cf.d]) ∧
    (L.getD 1 false = true → s1 = rcV ha ra) ∧
    (L.getD 2 false = true → s2 = rcV hb rb) ∧
    (L.getD 3 false = true → PrsAt w1.heap.size cf ha ra hb rb true s3 w) ∧
    (L.getD 4 false = true → s4 = .agg #[.int .i64 cf.clear, .int .i64 cf.climb, .int .i64 cf.height, .int .i64 cf.rise, .int .i64 cf.run, .int .i64 cf.w, .int .i64 cf.d]) ∧
    (L.getD 5 false = true → s5 = rcV hb rb) ∧
    (L.getD 6 false = true → s6 = rcV ha ra) ∧
    (L.getD 7 false = true → PrsAt w1.heap.size cf hb rb ha ra true s7 w) ∧
    (L.getD 8 false = true → s8 = .agg #[.int .i64 cf.clear, .int .i64 cf.climb, .int .i64 cf.height, .int .i64 cf.rise, .int .i64 cf.run, .int .i64 cf.w, .int .i64 cf.d]) ∧
    (L.getD 9 false = true → s9 = rcV ha ra) ∧
    (L.getD 10 false = true → s10 = rcV hb rb) ∧
    (L.getD 11 false = true → PrsAt w1.heap.size cf ha ra hb rb false s11 w) ∧
    (L.getD 12 false = true → s12 = .agg #[.int .i64 cf.clear, .int .i64 cf.climb, .int .i64 cf.height, .int .i64 cf.rise, .int .i64 cf.run, .int .i64 cf.w, .int .i64 cf.d]) ∧
    (L.getD 13 false = true → s13 = rcV hb rb) ∧
    (L.getD 14 false = true → s14 = rcV ha ra) ∧
    (L.getD 15 false = true → PrsAt w1.heap.size cf hb rb ha ra false s15 w) ∧
    (L.getD 16 false = true → s16 = .slice (some ⟨p16, 0, none⟩) 4 4 ∧ w1.heap.size ≤ p16 ∧ w.heap[p16]? = some (.cells #[s3, s7, s11, s15] 162 (0, 0))) ∧
    (L.getD 17 false = true → s17 = .int .i64 4) ∧
    (L.getD 18 false = true → s18 = .int .i64 0) ∧
    (L.getD 16 false = true → L.getD 3 false = true) ∧
    (L.getD 16 false = true → L.getD 7 false = true) ∧
    (L.getD 16 false = true → L.getD 11 false = true) ∧
    (L.getD 16 false = true → L.getD 15 false = true)
/-- The open pairs of the first k borders. -/
def segL (cf : Cfg) (a b : Rc) (k : Nat) : List Dr := match k with
  | 0 => []
  | 1 => prs cf a b true
  | 2 => prs cf a b true ++ prs cf b a true
  | 3 => prs cf a b true ++ prs cf b a true ++ prs cf a b false
  | _ => prs cf a b true ++ prs cf b a true ++ prs cf a b false ++ prs cf b a false
theorem segL_four (cf : Cfg) (a b : Rc) : segL cf a b 4 = betwL cf a b := by
  unfold segL betwL
  simp only [List.append_assoc]
theorem prLen_le {a b : Rc} {up : Bool} (ha : rcBd a = true) (hb : rcBd b = true) : prLen a b up ≤ 32 := by
  obtain ⟨u1, u2, u3, u4, u5, u6, _, _⟩ := rcBd_iff.1 ha
  obtain ⟨v1, v2, v3, v4, v5, v6, _, _⟩ := rcBd_iff.1 hb
  unfold prLen prFrom prTo
  split
  · cases up <;> simp <;> omega
  · omega
theorem prs_len {cf : Cfg} {a b : Rc} {up : Bool} (ha : rcBd a = true) (hb : rcBd b = true) : (prs cf a b up).length ≤ 32 := Nat.le_trans (prsTo_len cf a b up _) (prLen_le ha hb)
theorem segL_len {cf : Cfg} {a b : Rc} {k : Nat} (ha : rcBd a = true) (hb : rcBd b = true) : (segL cf a b k).length ≤ 128 := by
  have h1 := prs_len (cf := cf) (up := true) ha hb
  have h2 := prs_len (cf := cf) (up := true) hb ha
  have h3 := prs_len (cf := cf) (up := false) ha hb
  have h4 := prs_len (cf := cf) (up := false) hb ha
  unfold segL
  split <;> simp <;> omega
theorem joinD_app (l m : List Dr) : joinD (l ++ m) = m.foldl addD (joinD l) := by unfold joinD; rw [List.foldl_append]
theorem joinD_len (l : List Dr) : (joinD l).length ≤ l.length := by have := foldD_len l []; simpa [joinD] using this
theorem foldl_snoc (l : List Dr) (pre : List Dr) (d : Dr) : (pre ++ [d]).foldl addD l = addD (pre.foldl addD l) d := by rw [List.foldl_append]; rfl
theorem PrsIn.low {pf pt pa ps pc p5 p6 : Nat} {cf : Cfg} {ha : RHd} {a : Rc} {hb : RHd} {b : Rc} {up : Bool} {w : World} {H : Nat} {S : Nat → Prop} (h : PrsIn pf pt pa ps pc p5 p6 cf ha a hb b up w) (hp : H ≤ pf ∧ H ≤ pt ∧ H ≤ pa ∧ H ≤ ps ∧ H ≤ pc ∧ H ≤ p5 ∧ H ≤ p6) (hS : ∀ j, H ≤ j → ¬ S j)
    (h1 : ∀ ad, ha.ya = some ad → a.ys.length = 0 ∨ (ad.block < w.heap.size ∧ ¬ S ad.block)) (h2 : ∀ ad, ha.ta = some ad → a.ts.length = 0 ∨ (ad.block < w.heap.size ∧ ¬ S ad.block)) (h3 : ∀ ad, hb.ya = some ad → b.ys.length = 0 ∨ (ad.block < w.heap.size ∧ ¬ S ad.block)) (h4 : ∀ ad, hb.ta = some ad → b.ts.length = 0 ∨ (ad.block < w.heap.size ∧ ¬ S ad.block)) :
    PrsLow w.heap.size S pf pt pa ps pc p5 p6 ha a hb b :=
  ⟨⟨hblt h.f, hS _ hp.1⟩, ⟨hblt h.t, hS _ hp.2.1⟩, ⟨hblt h.x, hS _ hp.2.2.1⟩, ⟨hblt h.s, hS _ hp.2.2.2.1⟩, ⟨hblt h.c, hS _ hp.2.2.2.2.1⟩, ⟨hblt h.ra, hS _ hp.2.2.2.2.2.1⟩, ⟨hblt h.rb, hS _ hp.2.2.2.2.2.2⟩, h1, h2, h3, h4⟩
theorem ownsRow_ne_of {w : World} {B : Nat} {e : TypeId} {sz : Nat} {v : Value} {n : Nat} {xs : List Value} {D : Nat} {o : Obj} (h : w.ownsRow B e sz v n xs) (hd : w.heap[D]? = some o) (ho : o.isCells = false) : v.ownBlock ≠ some D := by
  intro he
  rcases h.2 with ⟨rfl, _⟩ | ⟨g, cap, cur, rfl, _, hg, _⟩
  · cases he
  · have e1 : g = D := by simpa [Value.ownBlock] using he
    subst e1
    rw [hd] at hg
    cases hg
    cases ho
theorem Marks.keeps {H B : Nat} {W W' : World} {Ds : List Nat} (h : Marks H B W Ds) (hk : KeepsFrom 0 W W') : Marks H B W' Ds :=
  h.kept fun D _ _ hd => (hk.same D _ (Nat.zero_le _) hd rfl).trans hd.symm
theorem getLast_some {l : List Dr} {n : Nat} (h : l.length = n + 1) : ∃ e, l[n]? = some e ∧ l.getLast? = some e := by
  have hlt : n < l.length := by omega
  obtain ⟨e, he⟩ : ∃ e, l[n]? = some e := ⟨l[n], List.getElem?_eq_getElem hlt⟩
  refine ⟨e, he, ?_⟩
  have h2 : l.length - 1 = n := by omega
  rw [List.getLast?_eq_getElem?, h2, he]
theorem grownBy_setCellI (w : World) (b i : Nat) (v : Value) : w.grownBy (w.setCell ⟨b, i, none⟩ v) (some b) :=
  ⟨rfl, rfl, rfl, by simp, fun k _ hk => Below.heap_setCell _ _ _ _ (fun e => hk (by simp [e]))⟩
theorem ownsRow_ne_new {w : World} {B : Nat} {e : TypeId} {sz : Nat} {v : Value} {n : Nat} {xs : List Value} (h : w.ownsRow B e sz v n xs) : v.ownBlock ≠ some w.heap.size := by
  intro he
  rcases h.2 with ⟨rfl, _⟩ | ⟨g, cap, cur, rfl, _, hg, _⟩
  · cases he
  · have e1 : g = w.heap.size := by simpa [Value.ownBlock] using he
    have := hblt hg
    omega
def BtS (J : Bool → Bool → World → Prop) (g N m Bx : Nat) (cp : Nat) (dx1 dz1 : Int) (F : Value → Value → Value → Value → Value → Value → Value → Value → Value → Value → Value → Value → Value → Value → Array Value) (D : List Deferred) (L : Array Bool) (a : Act) (w : World) : Prop :=
  ∃ (s0 s1 s2 s3 s4 s5 s6 s7 s8 s9 s10 s11 s13 s14 : Value), a = { tmps := F s0 s1 s2 s3 s4 s5 s6 s7 s8 s9 s10 s11 s13 s14, defers := D } ∧ J (L.getD 12 false) (L.getD 15 false) w ∧
    (L.getD 0 false = true → s0 = .slice (some ⟨g, 0, none⟩) N cp) ∧
    (L.getD 1 false = true → s1 = .int .i64 N) ∧
    (L.getD 2 false = true → s2 = .int .i64 m) ∧
    (L.getD 3 false = true → s3 = .slice (some ⟨g, 0, none⟩) N cp) ∧
    (L.getD 4 false = true → s4 = .int .i64 N) ∧
    (L.getD 5 false = true → s5 = .int .i64 m) ∧
    (L.getD 6 false = true → s6 = .pointer (some ⟨Bx, 4, none⟩)) ∧
    (L.getD 7 false = true → s7 = .int .i64 dx1) ∧
    (L.getD 8 false = true → s8 = .pointer (some ⟨Bx, 5, none⟩)) ∧
    (L.getD 9 false = true → s9 = .int .i64 dz1) ∧
    (L.getD 10 false = true → s10 = .pointer (some ⟨g, m * 6, none⟩)) ∧
    (L.getD 11 false = true → s11 = .pointer (some ⟨g, m * 6 + 4, none⟩)) ∧
    (L.getD 13 false = true → s13 = .pointer (some ⟨g, m * 6, none⟩)) ∧
    (L.getD 14 false = true → s14 = .pointer (some ⟨g, m * 6 + 5, none⟩))
def BtwPost (cf : Cfg) (ra rb : Rc) (w : World) (e : Ending) (w' : World) : Prop :=
  ∃ v, e = .returned v ∧ OwnR drC 6 110 w.heap.size w' v (betw cf ra rb).length (betw cf ra rb) ∧ Below w.heap.size w w'
set_option maxRecDepth 100000 in
set_option maxHeartbeats 32000000 in
theorem betw_any (cf : Cfg) (ha : RHd) (ra : Rc) (hb : RHd) (rb : Rc) (w : World) (hs : RcSl w ha ra) (ht : RcSl w hb rb) :
    Calls Tryz.prog 62 #[cfgV cf, rcV ha ra, rcV hb rb] w (BtwPost cf ra rb w) := by
  unfold BtwPost
  have CA := Lib.hid (fun W hW => rccheck_any cf ha ra W hW)
  have CB := Lib.hid (fun W hW => rccheck_any cf hb rb W hW)
  obtain ⟨W1, hW1⟩ : ∃ W, W = (((w.alloc (cfO cf)).alloc (rcO ha ra)).alloc (rcO hb rb)).alloc (.cells #[.slice none 0 0] 36) := ⟨_, rfl⟩
  have hC := halloc (halloc (halloc (World.alloc_heap_new w (cfO cf)) (rcO ha ra)) (rcO hb rb)) (.cells #[.slice none 0 0] 36)
  have hA := halloc (halloc (World.alloc_heap_new (w.alloc (cfO cf)) (rcO ha ra)) (rcO hb rb)) (.cells #[.slice none 0 0] 36)
  have hBB := halloc (World.alloc_heap_new ((w.alloc (cfO cf)).alloc (rcO ha ra)) (rcO hb rb)) (.cells #[.slice none 0 0] 36)
  have hR := World.alloc_heap_new (((w.alloc (cfO cf)).alloc (rcO ha ra)).alloc (rcO hb rb)) (.cells #[.slice none 0 0] 36)
  have hB : Below w.heap.size w ((((w.alloc (cfO cf)).alloc (rcO ha ra)).alloc (rcO hb rb)).alloc (.cells #[.slice none 0 0] 36)) := ((((Below.refl _ _).alloc (Nat.le_refl _) _).alloc (by simp) _).alloc (by simp; omega) _).alloc (by simp; omega) _
  simp only [World.size_alloc] at hA hBB hR
  rw [← hW1] at hC hA hBB hR hB
  obtain ⟨T, hTT⟩ : ∃ T, T = w.heap.size := ⟨_, rfl⟩
  rw [← hTT] at hC hA hBB hR
  have hT0 : w.heap.size ≤ T := by omega
  have HTT := Lib.hid hTT
  clear hTT
  have hRSa : ∀ W', Below w.heap.size w W' → RcSl W' ha ra := fun W' hb' => hs.below hb' (Nat.le_refl _)
  have hRSb : ∀ W', Below w.heap.size w W' → RcSl W' hb rb := fun W' hb' => ht.below hb' (Nat.le_refl _)
  have HSa := Lib.hid hRSa
  have HSb := Lib.hid hRSb
  have hfya := hs.y.far
  have hfta := hs.t.far
  have hfyb := ht.y.far
  have hftb := ht.t.far
  have HFar := Lib.hid (And.intro (And.intro hfya hfta) (And.intro hfyb hftb))
  clear hs ht hRSa hRSb hfya hfta hfyb hftb
  by_cases h1 : rcE cf ra = 0
  rotate_left
  · rw [betw_no (fun q => h1 q.1)]
    have hea : (rcE cf ra != 0) = true := by simpa using h1
    generalize rcE cf ra = ea at CA hea
    dsimp only [cfO, rcO, rcV, cfgV] at hC hA hBB hR hB hW1 CA ⊢
    have c0 := hcell (k := 0) (v := .int .i64 cf.clear) hC rfl
    have c1 := hcell (k := 1) (v := .int .i64 cf.climb) hC rfl
    have c2 := hcell (k := 2) (v := .int .i64 cf.height) hC rfl
    have c3 := hcell (k := 3) (v := .int .i64 cf.rise) hC rfl
    have c4 := hcell (k := 4) (v := .int .i64 cf.run) hC rfl
    have c5 := hcell (k := 5) (v := .int .i64 cf.w) hC rfl
    have c6 := hcell (k := 6) (v := .int .i64 cf.d) hC rfl
    have a0 := hcell (k := 0) (v := .int .i64 ra.x0) hA rfl
    have a1 := hcell (k := 1) (v := .int .i64 ra.z0) hA rfl
    have a2 := hcell (k := 2) (v := .int .i64 ra.x1) hA rfl
    have a3 := hcell (k := 3) (v := .int .i64 ra.z1) hA rfl
    have a4 := hcell (k := 4) (v := .int .i64 ra.area) hA rfl
    have a5 := hcell (k := 5) (v := .slice ha.ya ra.ys.length ha.yc) hA rfl
    have a6 := hcell (k := 6) (v := .slice ha.ta ra.ts.length ha.tc) hA rfl
    go_enter Tryz.func62, Tryz.ntmps62
    go_upto_region 1 with fail
    rw [← hW1, ← HTT.out]
    clear hW1
    go_wp2_with fail
    refine (CA.out _ (HSa.out _ hB)).mono ?_
    rintro e w1 ⟨rfl, hb1⟩
    have hR1 := hkeep hb1 hR
    clear c0 c1 c2 c3 c4 c5 c6 a0 a1 a2 a3 a4 a5 a6
    have hB1 := hB.trans (hb1.mono hB.size)
    have f0 := hfroz (k := 0) hR1
    have z0 := hcell (k := 0) (v := .slice none 0 0) hR1 rfl
    have hN := bx1_set hR1 (.slice none 0 0)
    have n0 := hcell (k := 0) (v := .slice none 0 0) hN rfl
    have hB9 := hB1.grown (bx1_grown (w := w1) (b := T + 3) (.slice none 0 0)) hB1.size (fun j hj => by cases hj; omega)
    go_wp2
    refine bodyPost_ret (results_c1s rfl _ _ (T + 3) (.slice none 0 0) rfl n0 Tryz.underlying36) rfl ⟨_, rfl, OwnR.nil _ _ _ _ _, hB9⟩
  by_cases h2 : rcE cf rb = 0
  rotate_left
  · rw [betw_no (fun q => h2 q.2)]
    have heb : (rcE cf rb != 0) = true := by simpa using h2
    rw [h1] at CA
    generalize rcE cf rb = eb at CB heb
    dsimp only [cfO, rcO, rcV, cfgV] at hC hA hBB hR hB hW1 CA CB ⊢
    have c0 := hcell (k := 0) (v := .int .i64 cf.clear) hC rfl
    have c1 := hcell (k := 1) (v := .int .i64 cf.climb) hC rfl
    have c2 := hcell (k := 2) (v := .int .i64 cf.height) hC rfl
    have c3 := hcell (k := 3) (v := .int .i64 cf.rise) hC rfl
    have c4 := hcell (k := 4) (v := .int .i64 cf.run) hC rfl
    have c5 := hcell (k := 5) (v := .int .i64 cf.w) hC rfl
    have c6 := hcell (k := 6) (v := .int .i64 cf.d) hC rfl
    have a0 := hcell (k := 0) (v := .int .i64 ra.x0) hA rfl
    have a1 := hcell (k := 1) (v := .int .i64 ra.z0) hA rfl
    have a2 := hcell (k := 2) (v := .int .i64 ra.x1) hA rfl
    have a3 := hcell (k := 3) (v := .int .i64 ra.z1) hA rfl
    have a4 := hcell (k := 4) (v := .int .i64 ra.area) hA rfl
    have a5 := hcell (k := 5) (v := .slice ha.ya ra.ys.length ha.yc) hA rfl
    have a6 := hcell (k := 6) (v := .slice ha.ta ra.ts.length ha.tc) hA rfl
    go_enter Tryz.func62, Tryz.ntmps62
    go_upto_region 1 with fail
    rw [← hW1, ← HTT.out]
    clear hW1
    go_wp2_with fail
    refine (CA.out _ (HSa.out _ hB)).mono ?_
    rintro e w1 ⟨rfl, hb1⟩
    have hR1 := hkeep hb1 hR
    have hC1 := hkeep hb1 hC
    have hBB1 := hkeep hb1 hBB
    have hB1 := hB.trans (hb1.mono hB.size)
    clear c0 c1 c2 c3 c4 c5 c6 a0 a1 a2 a3 a4 a5 a6 hC hBB hR hB hb1 hA
    have c0 := hcell (k := 0) (v := .int .i64 cf.clear) hC1 rfl
    have c1 := hcell (k := 1) (v := .int .i64 cf.climb) hC1 rfl
    have c2 := hcell (k := 2) (v := .int .i64 cf.height) hC1 rfl
    have c3 := hcell (k := 3) (v := .int .i64 cf.rise) hC1 rfl
    have c4 := hcell (k := 4) (v := .int .i64 cf.run) hC1 rfl
    have c5 := hcell (k := 5) (v := .int .i64 cf.w) hC1 rfl
    have c6 := hcell (k := 6) (v := .int .i64 cf.d) hC1 rfl
    have a0 := hcell (k := 0) (v := .int .i64 rb.x0) hBB1 rfl
    have a1 := hcell (k := 1) (v := .int .i64 rb.z0) hBB1 rfl
    have a2 := hcell (k := 2) (v := .int .i64 rb.x1) hBB1 rfl
    have a3 := hcell (k := 3) (v := .int .i64 rb.z1) hBB1 rfl
    have a4 := hcell (k := 4) (v := .int .i64 rb.area) hBB1 rfl
    have a5 := hcell (k := 5) (v := .slice hb.ya rb.ys.length hb.yc) hBB1 rfl
    have a6 := hcell (k := 6) (v := .slice hb.ta rb.ts.length hb.tc) hBB1 rfl
    go_wp2_with fail
    refine (CB.out _ (HSb.out _ hB1)).mono ?_
    rintro e w2 ⟨rfl, hb2⟩
    have hR2 := hkeep hb2 hR1
    clear c0 c1 c2 c3 c4 c5 c6 a0 a1 a2 a3 a4 a5 a6
    have hB2 := hB1.trans (hb2.mono hB1.size)
    have f0 := hfroz (k := 0) hR2
    have z0 := hcell (k := 0) (v := .slice none 0 0) hR2 rfl
    have hN := bx1_set hR2 (.slice none 0 0)
    have n0 := hcell (k := 0) (v := .slice none 0 0) hN rfl
    have hB9 := hB2.grown (bx1_grown (w := w2) (b := T + 3) (.slice none 0 0)) hB2.size (fun j hj => by cases hj; omega)
    go_wp2
    refine bodyPost_ret (results_c1s rfl _ _ (T + 3) (.slice none 0 0) rfl n0 Tryz.underlying36) rfl ⟨_, rfl, OwnR.nil _ _ _ _ _, hB9⟩
  have hbda := rcOk_bd h1
  have hbdb := rcOk_bd h2
  have hBT : Hid (betw cf ra rb = joinD (betwL cf ra rb)) := by show _ = _; unfold betw; rw [if_pos ⟨h1, h2⟩]
  rw [h1] at CA
  rw [h2] at CB
  clear h1 h2
  have PRS := Lib.hid (fun hx x hy y up W h1 h2 h3 h4 => prs_any cf hx x hy y up W h1 h2 h3 h4)
  dsimp only [cfO, rcO, rcV, cfgV] at hC hA hBB hR hB hW1 CA CB PRS ⊢
  have c0 := hcell (k := 0) (v := .int .i64 cf.clear) hC rfl
  have c1 := hcell (k := 1) (v := .int .i64 cf.climb) hC rfl
  have c2 := hcell (k := 2) (v := .int .i64 cf.height) hC rfl
  have c3 := hcell (k := 3) (v := .int .i64 cf.rise) hC rfl
  have c4 := hcell (k := 4) (v := .int .i64 cf.run) hC rfl
  have c5 := hcell (k := 5) (v := .int .i64 cf.w) hC rfl
  have c6 := hcell (k := 6) (v := .int .i64 cf.d) hC rfl
  have a0 := hcell (k := 0) (v := .int .i64 ra.x0) hA rfl
  have a1 := hcell (k := 1) (v := .int .i64 ra.z0) hA rfl
  have a2 := hcell (k := 2) (v := .int .i64 ra.x1) hA rfl
  have a3 := hcell (k := 3) (v := .int .i64 ra.z1) hA rfl
  have a4 := hcell (k := 4) (v := .int .i64 ra.area) hA rfl
  have a5 := hcell (k := 5) (v := .slice ha.ya ra.ys.length ha.yc) hA rfl
  have a6 := hcell (k := 6) (v := .slice ha.ta ra.ts.length ha.tc) hA rfl
  refine (callsIn_wide (n := 6)).1 ?_
  refine callsIn_of_wp_marks Tryz.func62 rfl trivial ?_ rfl
  simp only [Tryz.ntmps62, List.size_toArray, List.length_cons, List.length_nil, Nat.reduceAdd, Nat.reduceSub, Array.replicate_succ, Array.replicate_zero, List.push_toArray, List.append_toArray, List.nil_append, List.cons_append]
  gi_wp2_with fail
  rw [← hW1, ← HTT.out]
  clear hW1
  refine ⟨trivial, ?_⟩
  gi_at_call 41
  refine (callsIn_wide.2 (CA.out _ (HSa.out _ hB))).mono ?_
  rintro e w1 ⟨rfl, hb1⟩
  have hR1 := hkeep hb1 hR
  have hC1 := hkeep hb1 hC
  have hA1 := hkeep hb1 hA
  have hBB1 := hkeep hb1 hBB
  have hB1 := hB.trans (hb1.mono hB.size)
  clear c0 c1 c2 c3 c4 c5 c6 a0 a1 a2 a3 a4 a5 a6 hC hBB hR hB hb1 hA CA
  have c0 := hcell (k := 0) (v := .int .i64 cf.clear) hC1 rfl
  have c1 := hcell (k := 1) (v := .int .i64 cf.climb) hC1 rfl
  have c2 := hcell (k := 2) (v := .int .i64 cf.height) hC1 rfl
  have c3 := hcell (k := 3) (v := .int .i64 cf.rise) hC1 rfl
  have c4 := hcell (k := 4) (v := .int .i64 cf.run) hC1 rfl
  have c5 := hcell (k := 5) (v := .int .i64 cf.w) hC1 rfl
  have c6 := hcell (k := 6) (v := .int .i64 cf.d) hC1 rfl
  have a0 := hcell (k := 0) (v := .int .i64 rb.x0) hBB1 rfl
  have a1 := hcell (k := 1) (v := .int .i64 rb.z0) hBB1 rfl
  have a2 := hcell (k := 2) (v := .int .i64 rb.x1) hBB1 rfl
  have a3 := hcell (k := 3) (v := .int .i64 rb.z1) hBB1 rfl
  have a4 := hcell (k := 4) (v := .int .i64 rb.area) hBB1 rfl
  have a5 := hcell (k := 5) (v := .slice hb.ya rb.ys.length hb.yc) hBB1 rfl
  have a6 := hcell (k := 6) (v := .slice hb.ta rb.ts.length hb.tc) hBB1 rfl
  gi_wp2_with fail
  refine ⟨trivial, ?_⟩
  gi_at_call 41
  refine (callsIn_wide.2 (CB.out _ (HSb.out _ hB1))).mono ?_
  rintro e w2 ⟨rfl, hb2⟩
  have hR3 := hkeep hb2 hR1
  have hC3 := hkeep hb2 hC1
  have hA3 := hkeep hb2 hA1
  have hBB3 := hkeep hb2 hBB1
  have hB3 := hB1.trans (hb2.mono hB1.size)
  have hTl := hblt hR3
  have hRSa := HSa.out
  have hRSb := HSb.out
  obtain ⟨w3, rfl⟩ : ∃ W, W = w2 := ⟨_, rfl⟩
  clear c0 c1 c2 c3 c4 c5 c6 a0 a1 a2 a3 a4 a5 a6 hC1 hBB1 hR1 hB1 hb2 hA1 CB
  gi_wp2
  refine wpIn_wide.2 ?_
  refine wp_region_inv (BtInv T cf ha ra hb rb w.heap.size w3 (fun s0 s1 s2 s3 s4 s5 s6 s7 s8 s9 s10 s11 s12 s13 s14 s15 s16 s17 s18 => #[Value.agg #[Value.int IntKind.i64 cf.clear, Value.int IntKind.i64 cf.climb, Value.int IntKind.i64 cf.height, Value.int IntKind.i64 cf.rise, Value.int IntKind.i64 cf.run, Value.int IntKind.i64 cf.w, Value.int IntKind.i64 cf.d], Value.agg #[Value.int IntKind.i64 ra.x0, Value.int IntKind.i64 ra.z0, Value.int IntKind.i64 ra.x1, Value.int IntKind.i64 ra.z1, Value.int IntKind.i64 ra.area, Value.slice ha.ya ra.ys.length ha.yc, Value.slice ha.ta ra.ts.length ha.tc], Value.agg #[Value.int IntKind.i64 rb.x0, Value.int IntKind.i64 rb.z0, Value.int IntKind.i64 rb.x1, Value.int IntKind.i64 rb.z1, Value.int IntKind.i64 rb.area, Value.slice hb.ya rb.ys.length hb.yc, Value.slice hb.ta rb.ts.length hb.tc], Value.pointer (some { block := T, off := 0 }), Value.pointer (some { block := T + 1, off := 0 }), Value.pointer (some { block := T + 2, off := 0 }), Value.pointer (some { block := T + 3, off := 0 }), undef, undef, undef, undef, Value.agg #[Value.int IntKind.i64 cf.clear, Value.int IntKind.i64 cf.climb, Value.int IntKind.i64 cf.height, Value.int IntKind.i64 cf.rise, Value.int IntKind.i64 cf.run, Value.int IntKind.i64 cf.w, Value.int IntKind.i64 cf.d], Value.agg #[Value.int IntKind.i64 ra.x0, Value.int IntKind.i64 ra.z0, Value.int IntKind.i64 ra.x1, Value.int IntKind.i64 ra.z1, Value.int IntKind.i64 ra.area, Value.slice ha.ya ra.ys.length ha.yc, Value.slice ha.ta ra.ts.length ha.tc], Value.int IntKind.i64 0, Value.bool false, Value.bool false, Value.agg #[Value.int IntKind.i64 cf.clear, Value.int IntKind.i64 cf.climb, Value.int IntKind.i64 cf.height, Value.int IntKind.i64 cf.rise, Value.int IntKind.i64 cf.run, Value.int IntKind.i64 cf.w, Value.int IntKind.i64 cf.d], Value.agg #[Value.int IntKind.i64 rb.x0, Value.int IntKind.i64 rb.z0, Value.int IntKind.i64 rb.x1, Value.int IntKind.i64 rb.z1, Value.int IntKind.i64 rb.area, Value.slice hb.ya rb.ys.length hb.yc, Value.slice hb.ta rb.ts.length hb.tc], Value.int IntKind.i64 0, Value.bool false, Value.bool false, s0, s1, s2, s3, s4, s5, s6, s7, s8, s9, s10, s11, s12, s13, s14, s15, s16, s17, s18, undef, undef, undef, undef, undef, undef, undef, undef, undef, undef, undef, undef, undef, undef, undef, undef, undef, undef, undef, undef, undef, undef, undef, undef, undef, undef, undef, undef, undef, undef, undef, undef, undef, undef, undef, undef, undef, undef, undef, undef, undef, undef, undef, undef, undef, undef, undef, undef, undef, undef, undef]) []) (by kernel_rfl) (by kernel_rfl) ?_ ?_ ?_
  · unfold BtInv
    refine ⟨_, _, _, _, _, _, _, _, _, _, _, _, _, _, _, _, _, _, _, 0, rfl, (Below.refl _ _).drew, hC3, hA3, hBB3, hR3, (fun h => by cases (show false = true from h)), (fun h => by cases (show false = true from h)), (fun h => by cases (show false = true from h)), (fun h => by cases (show false = true from h)), (fun h => by cases (show false = true from h)), (fun h => by cases (show false = true from h)), (fun h => by cases (show false = true from h)), (fun h => by cases (show false = true from h)), (fun h => by cases (show false = true from h)), (fun h => by cases (show false = true from h)), (fun h => by cases (show false = true from h)), (fun h => by cases (show false = true from h)), (fun h => by cases (show false = true from h)), (fun h => by cases (show false = true from h)), (fun h => by cases (show false = true from h)), (fun h => by cases (show false = true from h)), (fun h => by cases (show false = true from h)), (fun h => by cases (show false = true from h)), (fun h => by cases (show false = true from h)), (fun h => by cases (show false = true from h)), (fun h => by cases (show false = true from h)), (fun h => by cases (show false = true from h)), (fun h => by cases (show false = true from h))⟩
  · intro L a wi i hs hI hi
    have hsN : L.size = 19 := hs
    have hn := ready_elim hi
    have hlt : i < 19 := by
        obtain ⟨o, ho, _⟩ := hn.2
        exact (Array.getElem?_eq_some_iff.1 ho).1
    have hi' := ready_not hi false (by rw [hs]; exact hlt)
    clear hn
    unfold BtInv at hI
    obtain ⟨s0, s1, s2, s3, s4, s5, s6, s7, s8, s9, s10, s11, s12, s13, s14, s15, s16, s17, s18, p16, rfl, hB, hF_C, hF_A, hF_B, hF_R, h0, h1, h2, h3, h4, h5, h6, h7, h8, h9, h10, h11, h12, h13, h14, h15, h16, h17, h18, hR16_3, hR16_7, hR16_11, hR16_15⟩ := hI
    rcases (by omega : i = 0 ∨ i = 1 ∨ i = 2 ∨ i = 3 ∨ i = 4 ∨ i = 5 ∨ i = 6 ∨ i = 7 ∨ i = 8 ∨ i = 9 ∨ i = 10 ∨ i = 11 ∨ i = 12 ∨ i = 13 ∨ i = 14 ∨ i = 15 ∨ i = 16 ∨ i = 17 ∨ i = 18) with rfl | rfl | rfl | rfl | rfl | rfl | rfl | rfl | rfl | rfl | rfl | rfl | rfl | rfl | rfl | rfl | rfl | rfl | rfl
    · skip
      have c0 := hcell (k := 0) (v := .int .i64 cf.clear) hF_C rfl
      have c1 := hcell (k := 1) (v := .int .i64 cf.climb) hF_C rfl
      have c2 := hcell (k := 2) (v := .int .i64 cf.height) hF_C rfl
      have c3 := hcell (k := 3) (v := .int .i64 cf.rise) hF_C rfl
      have c4 := hcell (k := 4) (v := .int .i64 cf.run) hF_C rfl
      have c5 := hcell (k := 5) (v := .int .i64 cf.w) hF_C rfl
      have c6 := hcell (k := 6) (v := .int .i64 cf.d) hF_C rfl
      refine wpOp_of rfl rfl ?_
      go_simp
      unfold BtInv
      exact ⟨_, _, _, _, _, _, _, _, _, _, _, _, _, _, _, _, _, _, _, p16, rfl, (hB), (hF_C), (hF_A), (hF_B), (hF_R), (fun _ => rfl), (fun h => h1 (by rwa [getD_set_ne (by decide)] at h)), (fun h => h2 (by rwa [getD_set_ne (by decide)] at h)), (fun h => h3 (by rwa [getD_set_ne (by decide)] at h)), (fun h => h4 (by rwa [getD_set_ne (by decide)] at h)), (fun h => h5 (by rwa [getD_set_ne (by decide)] at h)), (fun h => h6 (by rwa [getD_set_ne (by decide)] at h)), (fun h => h7 (by rwa [getD_set_ne (by decide)] at h)), (fun h => h8 (by rwa [getD_set_ne (by decide)] at h)), (fun h => h9 (by rwa [getD_set_ne (by decide)] at h)), (fun h => h10 (by rwa [getD_set_ne (by decide)] at h)), (fun h => h11 (by rwa [getD_set_ne (by decide)] at h)), (fun h => h12 (by rwa [getD_set_ne (by decide)] at h)), (fun h => h13 (by rwa [getD_set_ne (by decide)] at h)), (fun h => h14 (by rwa [getD_set_ne (by decide)] at h)), (fun h => h15 (by rwa [getD_set_ne (by decide)] at h)), (fun h => by rw [getD_set_ne (by decide)] at h; exact h16 h), (fun h => h17 (by rwa [getD_set_ne (by decide)] at h)), (fun h => h18 (by rwa [getD_set_ne (by decide)] at h)), (fun h => by rw [getD_set_ne (by decide)] at h ⊢; exact hR16_3 h), (fun h => by rw [getD_set_ne (by decide)] at h ⊢; exact hR16_7 h), (fun h => by rw [getD_set_ne (by decide)] at h ⊢; exact hR16_11 h), (fun h => by rw [getD_set_ne (by decide)] at h ⊢; exact hR16_15 h)⟩
    · skip
      have c0 := hcell (k := 0) (v := .int .i64 ra.x0) hF_A rfl
      have c1 := hcell (k := 1) (v := .int .i64 ra.z0) hF_A rfl
      have c2 := hcell (k := 2) (v := .int .i64 ra.x1) hF_A rfl
      have c3 := hcell (k := 3) (v := .int .i64 ra.z1) hF_A rfl
      have c4 := hcell (k := 4) (v := .int .i64 ra.area) hF_A rfl
      have c5 := hcell (k := 5) (v := .slice ha.ya ra.ys.length ha.yc) hF_A rfl
      have c6 := hcell (k := 6) (v := .slice ha.ta ra.ts.length ha.tc) hF_A rfl
      refine wpOp_of rfl rfl ?_
      go_simp
      unfold BtInv
      exact ⟨_, _, _, _, _, _, _, _, _, _, _, _, _, _, _, _, _, _, _, p16, rfl, (hB), (hF_C), (hF_A), (hF_B), (hF_R), (fun h => h0 (by rwa [getD_set_ne (by decide)] at h)), (fun _ => rfl), (fun h => h2 (by rwa [getD_set_ne (by decide)] at h)), (fun h => h3 (by rwa [getD_set_ne (by decide)] at h)), (fun h => h4 (by rwa [getD_set_ne (by decide)] at h)), (fun h => h5 (by rwa [getD_set_ne (by decide)] at h)), (fun h => h6 (by rwa [getD_set_ne (by decide)] at h)), (fun h => h7 (by rwa [getD_set_ne (by decide)] at h)), (fun h => h8 (by rwa [getD_set_ne (by decide)] at h)), (fun h => h9 (by rwa [getD_set_ne (by decide)] at h)), (fun h => h10 (by rwa [getD_set_ne (by decide)] at h)), (fun h => h11 (by rwa [getD_set_ne (by decide)] at h)), (fun h => h12 (by rwa [getD_set_ne (by decide)] at h)), (fun h => h13 (by rwa [getD_set_ne (by decide)] at h)), (fun h => h14 (by rwa [getD_set_ne (by decide)] at h)), (fun h => h15 (by rwa [getD_set_ne (by decide)] at h)), (fun h => by rw [getD_set_ne (by decide)] at h; exact h16 h), (fun h => h17 (by rwa [getD_set_ne (by decide)] at h)), (fun h => h18 (by rwa [getD_set_ne (by decide)] at h)), (fun h => by rw [getD_set_ne (by decide)] at h ⊢; exact hR16_3 h), (fun h => by rw [getD_set_ne (by decide)] at h ⊢; exact hR16_7 h), (fun h => by rw [getD_set_ne (by decide)] at h ⊢; exact hR16_11 h), (fun h => by rw [getD_set_ne (by decide)] at h ⊢; exact hR16_15 h)⟩
    · skip
      have c0 := hcell (k := 0) (v := .int .i64 rb.x0) hF_B rfl
      have c1 := hcell (k := 1) (v := .int .i64 rb.z0) hF_B rfl
      have c2 := hcell (k := 2) (v := .int .i64 rb.x1) hF_B rfl
      have c3 := hcell (k := 3) (v := .int .i64 rb.z1) hF_B rfl
      have c4 := hcell (k := 4) (v := .int .i64 rb.area) hF_B rfl
      have c5 := hcell (k := 5) (v := .slice hb.ya rb.ys.length hb.yc) hF_B rfl
      have c6 := hcell (k := 6) (v := .slice hb.ta rb.ts.length hb.tc) hF_B rfl
      refine wpOp_of rfl rfl ?_
      go_simp
      unfold BtInv
      exact ⟨_, _, _, _, _, _, _, _, _, _, _, _, _, _, _, _, _, _, _, p16, rfl, (hB), (hF_C), (hF_A), (hF_B), (hF_R), (fun h => h0 (by rwa [getD_set_ne (by decide)] at h)), (fun h => h1 (by rwa [getD_set_ne (by decide)] at h)), (fun _ => rfl), (fun h => h3 (by rwa [getD_set_ne (by decide)] at h)), (fun h => h4 (by rwa [getD_set_ne (by decide)] at h)), (fun h => h5 (by rwa [getD_set_ne (by decide)] at h)), (fun h => h6 (by rwa [getD_set_ne (by decide)] at h)), (fun h => h7 (by rwa [getD_set_ne (by decide)] at h)), (fun h => h8 (by rwa [getD_set_ne (by decide)] at h)), (fun h => h9 (by rwa [getD_set_ne (by decide)] at h)), (fun h => h10 (by rwa [getD_set_ne (by decide)] at h)), (fun h => h11 (by rwa [getD_set_ne (by decide)] at h)), (fun h => h12 (by rwa [getD_set_ne (by decide)] at h)), (fun h => h13 (by rwa [getD_set_ne (by decide)] at h)), (fun h => h14 (by rwa [getD_set_ne (by decide)] at h)), (fun h => h15 (by rwa [getD_set_ne (by decide)] at h)), (fun h => by rw [getD_set_ne (by decide)] at h; exact h16 h), (fun h => h17 (by rwa [getD_set_ne (by decide)] at h)), (fun h => h18 (by rwa [getD_set_ne (by decide)] at h)), (fun h => by rw [getD_set_ne (by decide)] at h ⊢; exact hR16_3 h), (fun h => by rw [getD_set_ne (by decide)] at h ⊢; exact hR16_7 h), (fun h => by rw [getD_set_ne (by decide)] at h ⊢; exact hR16_11 h), (fun h => by rw [getD_set_ne (by decide)] at h ⊢; exact hR16_15 h)⟩
    · skip
      have e0 := h0 (ready_dep hi (by kernel_rfl))
      subst e0
      have e1 := h1 (ready_dep hi (by kernel_rfl))
      subst e1
      have e2 := h2 (ready_dep hi (by kernel_rfl))
      subst e2
      refine wpOp_of rfl rfl ?_
      go_simp
      go_at_call 84
      refine (PRS.out _ _ _ _ true wi (hRSa _ (hB3.trans hB)) (hRSb _ (hB3.trans hB)) hbda hbdb).mono ?_
      rintro e wz ⟨s, rfl, hsat, hbz⟩
      (try go_simp)
      unfold BtInv
      exact ⟨_, _, _, _, _, _, _, _, _, _, _, _, _, _, _, _, _, _, _, p16, rfl, (hB.trans (hbz.mono (Nat.le_trans (hB3.size) hB.size))), (hkeep hbz hF_C), (hkeep hbz hF_A), (hkeep hbz hF_B), (hkeep hbz hF_R), (fun h => h0 (by rwa [getD_set_ne (by decide)] at h)), (fun h => h1 (by rwa [getD_set_ne (by decide)] at h)), (fun h => h2 (by rwa [getD_set_ne (by decide)] at h)), (fun _ => hsat.mono hB.size), (fun h => h4 (by rwa [getD_set_ne (by decide)] at h)), (fun h => h5 (by rwa [getD_set_ne (by decide)] at h)), (fun h => h6 (by rwa [getD_set_ne (by decide)] at h)), (fun h => PrsAt.below (h7 (by rwa [getD_set_ne (by decide)] at h)) (hbz)), (fun h => h8 (by rwa [getD_set_ne (by decide)] at h)), (fun h => h9 (by rwa [getD_set_ne (by decide)] at h)), (fun h => h10 (by rwa [getD_set_ne (by decide)] at h)), (fun h => PrsAt.below (h11 (by rwa [getD_set_ne (by decide)] at h)) (hbz)), (fun h => h12 (by rwa [getD_set_ne (by decide)] at h)), (fun h => h13 (by rwa [getD_set_ne (by decide)] at h)), (fun h => h14 (by rwa [getD_set_ne (by decide)] at h)), (fun h => PrsAt.below (h15 (by rwa [getD_set_ne (by decide)] at h)) (hbz)), (fun h => by rw [getD_set_ne (by decide)] at h; rw [hR16_3 h] at hi'; cases hi'), (fun h => h17 (by rwa [getD_set_ne (by decide)] at h)), (fun h => h18 (by rwa [getD_set_ne (by decide)] at h)), (fun _ => getD_set_eq (by omega) _), (fun h => by rw [getD_set_ne (by decide)] at h ⊢; exact hR16_7 h), (fun h => by rw [getD_set_ne (by decide)] at h ⊢; exact hR16_11 h), (fun h => by rw [getD_set_ne (by decide)] at h ⊢; exact hR16_15 h)⟩
    · skip
      have c0 := hcell (k := 0) (v := .int .i64 cf.clear) hF_C rfl
      have c1 := hcell (k := 1) (v := .int .i64 cf.climb) hF_C rfl
      have c2 := hcell (k := 2) (v := .int .i64 cf.height) hF_C rfl
      have c3 := hcell (k := 3) (v := .int .i64 cf.rise) hF_C rfl
      have c4 := hcell (k := 4) (v := .int .i64 cf.run) hF_C rfl
      have c5 := hcell (k := 5) (v := .int .i64 cf.w) hF_C rfl
      have c6 := hcell (k := 6) (v := .int .i64 cf.d) hF_C rfl
      refine wpOp_of rfl rfl ?_
      go_simp
      unfold BtInv
      exact ⟨_, _, _, _, _, _, _, _, _, _, _, _, _, _, _, _, _, _, _, p16, rfl, (hB), (hF_C), (hF_A), (hF_B), (hF_R), (fun h => h0 (by rwa [getD_set_ne (by decide)] at h)), (fun h => h1 (by rwa [getD_set_ne (by decide)] at h)), (fun h => h2 (by rwa [getD_set_ne (by decide)] at h)), (fun h => h3 (by rwa [getD_set_ne (by decide)] at h)), (fun _ => rfl), (fun h => h5 (by rwa [getD_set_ne (by decide)] at h)), (fun h => h6 (by rwa [getD_set_ne (by decide)] at h)), (fun h => h7 (by rwa [getD_set_ne (by decide)] at h)), (fun h => h8 (by rwa [getD_set_ne (by decide)] at h)), (fun h => h9 (by rwa [getD_set_ne (by decide)] at h)), (fun h => h10 (by rwa [getD_set_ne (by decide)] at h)), (fun h => h11 (by rwa [getD_set_ne (by decide)] at h)), (fun h => h12 (by rwa [getD_set_ne (by decide)] at h)), (fun h => h13 (by rwa [getD_set_ne (by decide)] at h)), (fun h => h14 (by rwa [getD_set_ne (by decide)] at h)), (fun h => h15 (by rwa [getD_set_ne (by decide)] at h)), (fun h => by rw [getD_set_ne (by decide)] at h; exact h16 h), (fun h => h17 (by rwa [getD_set_ne (by decide)] at h)), (fun h => h18 (by rwa [getD_set_ne (by decide)] at h)), (fun h => by rw [getD_set_ne (by decide)] at h ⊢; exact hR16_3 h), (fun h => by rw [getD_set_ne (by decide)] at h ⊢; exact hR16_7 h), (fun h => by rw [getD_set_ne (by decide)] at h ⊢; exact hR16_11 h), (fun h => by rw [getD_set_ne (by decide)] at h ⊢; exact hR16_15 h)⟩
    · skip
      have c0 := hcell (k := 0) (v := .int .i64 rb.x0) hF_B rfl
      have c1 := hcell (k := 1) (v := .int .i64 rb.z0) hF_B rfl
      have c2 := hcell (k := 2) (v := .int .i64 rb.x1) hF_B rfl
      have c3 := hcell (k := 3) (v := .int .i64 rb.z1) hF_B rfl
      have c4 := hcell (k := 4) (v := .int .i64 rb.area) hF_B rfl
      have c5 := hcell (k := 5) (v := .slice hb.ya rb.ys.length hb.yc) hF_B rfl
      have c6 := hcell (k := 6) (v := .slice hb.ta rb.ts.length hb.tc) hF_B rfl
      refine wpOp_of rfl rfl ?_
      go_simp
      unfold BtInv
      exact ⟨_, _, _, _, _, _, _, _, _, _, _, _, _, _, _, _, _, _, _, p16, rfl, (hB), (hF_C), (hF_A), (hF_B), (hF_R), (fun h => h0 (by rwa [getD_set_ne (by decide)] at h)), (fun h => h1 (by rwa [getD_set_ne (by decide)] at h)), (fun h => h2 (by rwa [getD_set_ne (by decide)] at h)), (fun h => h3 (by rwa [getD_set_ne (by decide)] at h)), (fun h => h4 (by rwa [getD_set_ne (by decide)] at h)), (fun _ => rfl), (fun h => h6 (by rwa [getD_set_ne (by decide)] at h)), (fun h => h7 (by rwa [getD_set_ne (by decide)] at h)), (fun h => h8 (by rwa [getD_set_ne (by decide)] at h)), (fun h => h9 (by rwa [getD_set_ne (by decide)] at h)), (fun h => h10 (by rwa [getD_set_ne (by decide)] at h)), (fun h => h11 (by rwa [getD_set_ne (by decide)] at h)), (fun h => h12 (by rwa [getD_set_ne (by decide)] at h)), (fun h => h13 (by rwa [getD_set_ne (by decide)] at h)), (fun h => h14 (by rwa [getD_set_ne (by decide)] at h)), (fun h => h15 (by rwa [getD_set_ne (by decide)] at h)), (fun h => by rw [getD_set_ne (by decide)] at h; exact h16 h), (fun h => h17 (by rwa [getD_set_ne (by decide)] at h)), (fun h => h18 (by rwa [getD_set_ne (by decide)] at h)), (fun h => by rw [getD_set_ne (by decide)] at h ⊢; exact hR16_3 h), (fun h => by rw [getD_set_ne (by decide)] at h ⊢; exact hR16_7 h), (fun h => by rw [getD_set_ne (by decide)] at h ⊢; exact hR16_11 h), (fun h => by rw [getD_set_ne (by decide)] at h ⊢; exact hR16_15 h)⟩
    · skip
      have c0 := hcell (k := 0) (v := .int .i64 ra.x0) hF_A rfl
      have c1 := hcell (k := 1) (v := .int .i64 ra.z0) hF_A rfl
      have c2 := hcell (k := 2) (v := .int .i64 ra.x1) hF_A rfl
      have c3 := hcell (k := 3) (v := .int .i64 ra.z1) hF_A rfl
      have c4 := hcell (k := 4) (v := .int .i64 ra.area) hF_A rfl
      have c5 := hcell (k := 5) (v := .slice ha.ya ra.ys.length ha.yc) hF_A rfl
      have c6 := hcell (k := 6) (v := .slice ha.ta ra.ts.length ha.tc) hF_A rfl
      refine wpOp_of rfl rfl ?_
      go_simp
      unfold BtInv
      exact ⟨_, _, _, _, _, _, _, _, _, _, _, _, _, _, _, _, _, _, _, p16, rfl, (hB), (hF_C), (hF_A), (hF_B), (hF_R), (fun h => h0 (by rwa [getD_set_ne (by decide)] at h)), (fun h => h1 (by rwa [getD_set_ne (by decide)] at h)), (fun h => h2 (by rwa [getD_set_ne (by decide)] at h)), (fun h => h3 (by rwa [getD_set_ne (by decide)] at h)), (fun h => h4 (by rwa [getD_set_ne (by decide)] at h)), (fun h => h5 (by rwa [getD_set_ne (by decide)] at h)), (fun _ => rfl), (fun h => h7 (by rwa [getD_set_ne (by decide)] at h)), (fun h => h8 (by rwa [getD_set_ne (by decide)] at h)), (fun h => h9 (by rwa [getD_set_ne (by decide)] at h)), (fun h => h10 (by rwa [getD_set_ne (by decide)] at h)), (fun h => h11 (by rwa [getD_set_ne (by decide)] at h)), (fun h => h12 (by rwa [getD_set_ne (by decide)] at h)), (fun h => h13 (by rwa [getD_set_ne (by decide)] at h)), (fun h => h14 (by rwa [getD_set_ne (by decide)] at h)), (fun h => h15 (by rwa [getD_set_ne (by decide)] at h)), (fun h => by rw [getD_set_ne (by decide)] at h; exact h16 h), (fun h => h17 (by rwa [getD_set_ne (by decide)] at h)), (fun h => h18 (by rwa [getD_set_ne (by decide)] at h)), (fun h => by rw [getD_set_ne (by decide)] at h ⊢; exact hR16_3 h), (fun h => by rw [getD_set_ne (by decide)] at h ⊢; exact hR16_7 h), (fun h => by rw [getD_set_ne (by decide)] at h ⊢; exact hR16_11 h), (fun h => by rw [getD_set_ne (by decide)] at h ⊢; exact hR16_15 h)⟩
    · skip
      have e4 := h4 (ready_dep hi (by kernel_rfl))
      subst e4
      have e5 := h5 (ready_dep hi (by kernel_rfl))
      subst e5
      have e6 := h6 (ready_dep hi (by kernel_rfl))
      subst e6
      refine wpOp_of rfl rfl ?_
      go_simp
      go_at_call 84
      refine (PRS.out _ _ _ _ true wi (hRSb _ (hB3.trans hB)) (hRSa _ (hB3.trans hB)) hbdb hbda).mono ?_
      rintro e wz ⟨s, rfl, hsat, hbz⟩
      (try go_simp)
      unfold BtInv
      exact ⟨_, _, _, _, _, _, _, _, _, _, _, _, _, _, _, _, _, _, _, p16, rfl, (hB.trans (hbz.mono (Nat.le_trans (hB3.size) hB.size))), (hkeep hbz hF_C), (hkeep hbz hF_A), (hkeep hbz hF_B), (hkeep hbz hF_R), (fun h => h0 (by rwa [getD_set_ne (by decide)] at h)), (fun h => h1 (by rwa [getD_set_ne (by decide)] at h)), (fun h => h2 (by rwa [getD_set_ne (by decide)] at h)), (fun h => PrsAt.below (h3 (by rwa [getD_set_ne (by decide)] at h)) (hbz)), (fun h => h4 (by rwa [getD_set_ne (by decide)] at h)), (fun h => h5 (by rwa [getD_set_ne (by decide)] at h)), (fun h => h6 (by rwa [getD_set_ne (by decide)] at h)), (fun _ => hsat.mono hB.size), (fun h => h8 (by rwa [getD_set_ne (by decide)] at h)), (fun h => h9 (by rwa [getD_set_ne (by decide)] at h)), (fun h => h10 (by rwa [getD_set_ne (by decide)] at h)), (fun h => PrsAt.below (h11 (by rwa [getD_set_ne (by decide)] at h)) (hbz)), (fun h => h12 (by rwa [getD_set_ne (by decide)] at h)), (fun h => h13 (by rwa [getD_set_ne (by decide)] at h)), (fun h => h14 (by rwa [getD_set_ne (by decide)] at h)), (fun h => PrsAt.below (h15 (by rwa [getD_set_ne (by decide)] at h)) (hbz)), (fun h => by rw [getD_set_ne (by decide)] at h; rw [hR16_7 h] at hi'; cases hi'), (fun h => h17 (by rwa [getD_set_ne (by decide)] at h)), (fun h => h18 (by rwa [getD_set_ne (by decide)] at h)), (fun h => by rw [getD_set_ne (by decide)] at h ⊢; exact hR16_3 h), (fun _ => getD_set_eq (by omega) _), (fun h => by rw [getD_set_ne (by decide)] at h ⊢; exact hR16_11 h), (fun h => by rw [getD_set_ne (by decide)] at h ⊢; exact hR16_15 h)⟩
    · skip
      have c0 := hcell (k := 0) (v := .int .i64 cf.clear) hF_C rfl
      have c1 := hcell (k := 1) (v := .int .i64 cf.climb) hF_C rfl
      have c2 := hcell (k := 2) (v := .int .i64 cf.height) hF_C rfl
      have c3 := hcell (k := 3) (v := .int .i64 cf.rise) hF_C rfl
      have c4 := hcell (k := 4) (v := .int .i64 cf.run) hF_C rfl
      have c5 := hcell (k := 5) (v := .int .i64 cf.w) hF_C rfl
      have c6 := hcell (k := 6) (v := .int .i64 cf.d) hF_C rfl
      refine wpOp_of rfl rfl ?_
      go_simp
      unfold BtInv
      exact ⟨_, _, _, _, _, _, _, _, _, _, _, _, _, _, _, _, _, _, _, p16, rfl, (hB), (hF_C), (hF_A), (hF_B), (hF_R), (fun h => h0 (by rwa [getD_set_ne (by decide)] at h)), (fun h => h1 (by rwa [getD_set_ne (by decide)] at h)), (fun h => h2 (by rwa [getD_set_ne (by decide)] at h)), (fun h => h3 (by rwa [getD_set_ne (by decide)] at h)), (fun h => h4 (by rwa [getD_set_ne (by decide)] at h)), (fun h => h5 (by rwa [getD_set_ne (by decide)] at h)), (fun h => h6 (by rwa [getD_set_ne (by decide)] at h)), (fun h => h7 (by rwa [getD_set_ne (by decide)] at h)), (fun _ => rfl), (fun h => h9 (by rwa [getD_set_ne (by decide)] at h)), (fun h => h10 (by rwa [getD_set_ne (by decide)] at h)), (fun h => h11 (by rwa [getD_set_ne (by decide)] at h)), (fun h => h12 (by rwa [getD_set_ne (by decide)] at h)), (fun h => h13 (by rwa [getD_set_ne (by decide)] at h)), (fun h => h14 (by rwa [getD_set_ne (by decide)] at h)), (fun h => h15 (by rwa [getD_set_ne (by decide)] at h)), (fun h => by rw [getD_set_ne (by decide)] at h; exact h16 h), (fun h => h17 (by rwa [getD_set_ne (by decide)] at h)), (fun h => h18 (by rwa [getD_set_ne (by decide)] at h)), (fun h => by rw [getD_set_ne (by decide)] at h ⊢; exact hR16_3 h), (fun h => by rw [getD_set_ne (by decide)] at h ⊢; exact hR16_7 h), (fun h => by rw [getD_set_ne (by decide)] at h ⊢; exact hR16_11 h), (fun h => by rw [getD_set_ne (by decide)] at h ⊢; exact hR16_15 h)⟩
    · skip
      have c0 := hcell (k := 0) (v := .int .i64 ra.x0) hF_A rfl
      have c1 := hcell (k := 1) (v := .int .i64 ra.z0) hF_A rfl
      have c2 := hcell (k := 2) (v := .int .i64 ra.x1) hF_A rfl
      have c3 := hcell (k := 3) (v := .int .i64 ra.z1) hF_A rfl
      have c4 := hcell (k := 4) (v := .int .i64 ra.area) hF_A rfl
      have c5 := hcell (k := 5) (v := .slice ha.ya ra.ys.length ha.yc) hF_A rfl
      have c6 := hcell (k := 6) (v := .slice ha.ta ra.ts.length ha.tc) hF_A rfl
      refine wpOp_of rfl rfl ?_
      go_simp
      unfold BtInv
      exact ⟨_, _, _, _, _, _, _, _, _, _, _, _, _, _, _, _, _, _, _, p16, rfl, (hB), (hF_C), (hF_A), (hF_B), (hF_R), (fun h => h0 (by rwa [getD_set_ne (by decide)] at h)), (fun h => h1 (by rwa [getD_set_ne (by decide)] at h)), (fun h => h2 (by rwa [getD_set_ne (by decide)] at h)), (fun h => h3 (by rwa [getD_set_ne (by decide)] at h)), (fun h => h4 (by rwa [getD_set_ne (by decide)] at h)), (fun h => h5 (by rwa [getD_set_ne (by decide)] at h)), (fun h => h6 (by rwa [getD_set_ne (by decide)] at h)), (fun h => h7 (by rwa [getD_set_ne (by decide)] at h)), (fun h => h8 (by rwa [getD_set_ne (by decide)] at h)), (fun _ => rfl), (fun h => h10 (by rwa [getD_set_ne (by decide)] at h)), (fun h => h11 (by rwa [getD_set_ne (by decide)] at h)), (fun h => h12 (by rwa [getD_set_ne (by decide)] at h)), (fun h => h13 (by rwa [getD_set_ne (by decide)] at h)), (fun h => h14 (by rwa [getD_set_ne (by decide)] at h)), (fun h => h15 (by rwa [getD_set_ne (by decide)] at h)), (fun h => by rw [getD_set_ne (by decide)] at h; exact h16 h), (fun h => h17 (by rwa [getD_set_ne (by decide)] at h)), (fun h => h18 (by rwa [getD_set_ne (by decide)] at h)), (fun h => by rw [getD_set_ne (by decide)] at h ⊢; exact hR16_3 h), (fun h => by rw [getD_set_ne (by decide)] at h ⊢; exact hR16_7 h), (fun h => by rw [getD_set_ne (by decide)] at h ⊢; exact hR16_11 h), (fun h => by rw [getD_set_ne (by decide)] at h ⊢; exact hR16_15 h)⟩
    · skip
      have c0 := hcell (k := 0) (v := .int .i64 rb.x0) hF_B rfl
      have c1 := hcell (k := 1) (v := .int .i64 rb.z0) hF_B rfl
      have c2 := hcell (k := 2) (v := .int .i64 rb.x1) hF_B rfl
      have c3 := hcell (k := 3) (v := .int .i64 rb.z1) hF_B rfl
      have c4 := hcell (k := 4) (v := .int .i64 rb.area) hF_B rfl
      have c5 := hcell (k := 5) (v := .slice hb.ya rb.ys.length hb.yc) hF_B rfl
      have c6 := hcell (k := 6) (v := .slice hb.ta rb.ts.length hb.tc) hF_B rfl
      refine wpOp_of rfl rfl ?_
      go_simp
      unfold BtInv
      exact ⟨_, _, _, _, _, _, _, _, _, _, _, _, _, _, _, _, _, _, _, p16, rfl, (hB), (hF_C), (hF_A), (hF_B), (hF_R), (fun h => h0 (by rwa [getD_set_ne (by decide)] at h)), (fun h => h1 (by rwa [getD_set_ne (by decide)] at h)), (fun h => h2 (by rwa [getD_set_ne (by decide)] at h)), (fun h => h3 (by rwa [getD_set_ne (by decide)] at h)), (fun h => h4 (by rwa [getD_set_ne (by decide)] at h)), (fun h => h5 (by rwa [getD_set_ne (by decide)] at h)), (fun h => h6 (by rwa [getD_set_ne (by decide)] at h)), (fun h => h7 (by rwa [getD_set_ne (by decide)] at h)), (fun h => h8 (by rwa [getD_set_ne (by decide)] at h)), (fun h => h9 (by rwa [getD_set_ne (by decide)] at h)), (fun _ => rfl), (fun h => h11 (by rwa [getD_set_ne (by decide)] at h)), (fun h => h12 (by rwa [getD_set_ne (by decide)] at h)), (fun h => h13 (by rwa [getD_set_ne (by decide)] at h)), (fun h => h14 (by rwa [getD_set_ne (by decide)] at h)), (fun h => h15 (by rwa [getD_set_ne (by decide)] at h)), (fun h => by rw [getD_set_ne (by decide)] at h; exact h16 h), (fun h => h17 (by rwa [getD_set_ne (by decide)] at h)), (fun h => h18 (by rwa [getD_set_ne (by decide)] at h)), (fun h => by rw [getD_set_ne (by decide)] at h ⊢; exact hR16_3 h), (fun h => by rw [getD_set_ne (by decide)] at h ⊢; exact hR16_7 h), (fun h => by rw [getD_set_ne (by decide)] at h ⊢; exact hR16_11 h), (fun h => by rw [getD_set_ne (by decide)] at h ⊢; exact hR16_15 h)⟩
    · skip
      have e8 := h8 (ready_dep hi (by kernel_rfl))
      subst e8
      have e9 := h9 (ready_dep hi (by kernel_rfl))
      subst e9
      have e10 := h10 (ready_dep hi (by kernel_rfl))
      subst e10
      refine wpOp_of rfl rfl ?_
      go_simp
      go_at_call 84
      refine (PRS.out _ _ _ _ false wi (hRSa _ (hB3.trans hB)) (hRSb _ (hB3.trans hB)) hbda hbdb).mono ?_
      rintro e wz ⟨s, rfl, hsat, hbz⟩
      (try go_simp)
      unfold BtInv
      exact ⟨_, _, _, _, _, _, _, _, _, _, _, _, _, _, _, _, _, _, _, p16, rfl, (hB.trans (hbz.mono (Nat.le_trans (hB3.size) hB.size))), (hkeep hbz hF_C), (hkeep hbz hF_A), (hkeep hbz hF_B), (hkeep hbz hF_R), (fun h => h0 (by rwa [getD_set_ne (by decide)] at h)), (fun h => h1 (by rwa [getD_set_ne (by decide)] at h)), (fun h => h2 (by rwa [getD_set_ne (by decide)] at h)), (fun h => PrsAt.below (h3 (by rwa [getD_set_ne (by decide)] at h)) (hbz)), (fun h => h4 (by rwa [getD_set_ne (by decide)] at h)), (fun h => h5 (by rwa [getD_set_ne (by decide)] at h)), (fun h => h6 (by rwa [getD_set_ne (by decide)] at h)), (fun h => PrsAt.below (h7 (by rwa [getD_set_ne (by decide)] at h)) (hbz)), (fun h => h8 (by rwa [getD_set_ne (by decide)] at h)), (fun h => h9 (by rwa [getD_set_ne (by decide)] at h)), (fun h => h10 (by rwa [getD_set_ne (by decide)] at h)), (fun _ => hsat.mono hB.size), (fun h => h12 (by rwa [getD_set_ne (by decide)] at h)), (fun h => h13 (by rwa [getD_set_ne (by decide)] at h)), (fun h => h14 (by rwa [getD_set_ne (by decide)] at h)), (fun h => PrsAt.below (h15 (by rwa [getD_set_ne (by decide)] at h)) (hbz)), (fun h => by rw [getD_set_ne (by decide)] at h; rw [hR16_11 h] at hi'; cases hi'), (fun h => h17 (by rwa [getD_set_ne (by decide)] at h)), (fun h => h18 (by rwa [getD_set_ne (by decide)] at h)), (fun h => by rw [getD_set_ne (by decide)] at h ⊢; exact hR16_3 h), (fun h => by rw [getD_set_ne (by decide)] at h ⊢; exact hR16_7 h), (fun _ => getD_set_eq (by omega) _), (fun h => by rw [getD_set_ne (by decide)] at h ⊢; exact hR16_15 h)⟩
    · skip
      have c0 := hcell (k := 0) (v := .int .i64 cf.clear) hF_C rfl
      have c1 := hcell (k := 1) (v := .int .i64 cf.climb) hF_C rfl
      have c2 := hcell (k := 2) (v := .int .i64 cf.height) hF_C rfl
      have c3 := hcell (k := 3) (v := .int .i64 cf.rise) hF_C rfl
      have c4 := hcell (k := 4) (v := .int .i64 cf.run) hF_C rfl
      have c5 := hcell (k := 5) (v := .int .i64 cf.w) hF_C rfl
      have c6 := hcell (k := 6) (v := .int .i64 cf.d) hF_C rfl
      refine wpOp_of rfl rfl ?_
      go_simp
      unfold BtInv
      exact ⟨_, _, _, _, _, _, _, _, _, _, _, _, _, _, _, _, _, _, _, p16, rfl, (hB), (hF_C), (hF_A), (hF_B), (hF_R), (fun h => h0 (by rwa [getD_set_ne (by decide)] at h)), (fun h => h1 (by rwa [getD_set_ne (by decide)] at h)), (fun h => h2 (by rwa [getD_set_ne (by decide)] at h)), (fun h => h3 (by rwa [getD_set_ne (by decide)] at h)), (fun h => h4 (by rwa [getD_set_ne (by decide)] at h)), (fun h => h5 (by rwa [getD_set_ne (by decide)] at h)), (fun h => h6 (by rwa [getD_set_ne (by decide)] at h)), (fun h => h7 (by rwa [getD_set_ne (by decide)] at h)), (fun h => h8 (by rwa [getD_set_ne (by decide)] at h)), (fun h => h9 (by rwa [getD_set_ne (by decide)] at h)), (fun h => h10 (by rwa [getD_set_ne (by decide)] at h)), (fun h => h11 (by rwa [getD_set_ne (by decide)] at h)), (fun _ => rfl), (fun h => h13 (by rwa [getD_set_ne (by decide)] at h)), (fun h => h14 (by rwa [getD_set_ne (by decide)] at h)), (fun h => h15 (by rwa [getD_set_ne (by decide)] at h)), (fun h => by rw [getD_set_ne (by decide)] at h; exact h16 h), (fun h => h17 (by rwa [getD_set_ne (by decide)] at h)), (fun h => h18 (by rwa [getD_set_ne (by decide)] at h)), (fun h => by rw [getD_set_ne (by decide)] at h ⊢; exact hR16_3 h), (fun h => by rw [getD_set_ne (by decide)] at h ⊢; exact hR16_7 h), (fun h => by rw [getD_set_ne (by decide)] at h ⊢; exact hR16_11 h), (fun h => by rw [getD_set_ne (by decide)] at h ⊢; exact hR16_15 h)⟩
    · skip
      have c0 := hcell (k := 0) (v := .int .i64 rb.x0) hF_B rfl
      have c1 := hcell (k := 1) (v := .int .i64 rb.z0) hF_B rfl
      have c2 := hcell (k := 2) (v := .int .i64 rb.x1) hF_B rfl
      have c3 := hcell (k := 3) (v := .int .i64 rb.z1) hF_B rfl
      have c4 := hcell (k := 4) (v := .int .i64 rb.area) hF_B rfl
      have c5 := hcell (k := 5) (v := .slice hb.ya rb.ys.length hb.yc) hF_B rfl
      have c6 := hcell (k := 6) (v := .slice hb.ta rb.ts.length hb.tc) hF_B rfl
      refine wpOp_of rfl rfl ?_
      go_simp
      unfold BtInv
      exact ⟨_, _, _, _, _, _, _, _, _, _, _, _, _, _, _, _, _, _, _, p16, rfl, (hB), (hF_C), (hF_A), (hF_B), (hF_R), (fun h => h0 (by rwa [getD_set_ne (by decide)] at h)), (fun h => h1 (by rwa [getD_set_ne (by decide)] at h)), (fun h => h2 (by rwa [getD_set_ne (by decide)] at h)), (fun h => h3 (by rwa [getD_set_ne (by decide)] at h)), (fun h => h4 (by rwa [getD_set_ne (by decide)] at h)), (fun h => h5 (by rwa [getD_set_ne (by decide)] at h)), (fun h => h6 (by rwa [getD_set_ne (by decide)] at h)), (fun h => h7 (by rwa [getD_set_ne (by decide)] at h)), (fun h => h8 (by rwa [getD_set_ne (by decide)] at h)), (fun h => h9 (by rwa [getD_set_ne (by decide)] at h)), (fun h => h10 (by rwa [getD_set_ne (by decide)] at h)), (fun h => h11 (by rwa [getD_set_ne (by decide)] at h)), (fun h => h12 (by rwa [getD_set_ne (by decide)] at h)), (fun _ => rfl), (fun h => h14 (by rwa [getD_set_ne (by decide)] at h)), (fun h => h15 (by rwa [getD_set_ne (by decide)] at h)), (fun h => by rw [getD_set_ne (by decide)] at h; exact h16 h), (fun h => h17 (by rwa [getD_set_ne (by decide)] at h)), (fun h => h18 (by rwa [getD_set_ne (by decide)] at h)), (fun h => by rw [getD_set_ne (by decide)] at h ⊢; exact hR16_3 h), (fun h => by rw [getD_set_ne (by decide)] at h ⊢; exact hR16_7 h), (fun h => by rw [getD_set_ne (by decide)] at h ⊢; exact hR16_11 h), (fun h => by rw [getD_set_ne (by decide)] at h ⊢; exact hR16_15 h)⟩
    · skip
      have c0 := hcell (k := 0) (v := .int .i64 ra.x0) hF_A rfl
      have c1 := hcell (k := 1) (v := .int .i64 ra.z0) hF_A rfl
      have c2 := hcell (k := 2) (v := .int .i64 ra.x1) hF_A rfl
      have c3 := hcell (k := 3) (v := .int .i64 ra.z1) hF_A rfl
      have c4 := hcell (k := 4) (v := .int .i64 ra.area) hF_A rfl
      have c5 := hcell (k := 5) (v := .slice ha.ya ra.ys.length ha.yc) hF_A rfl
      have c6 := hcell (k := 6) (v := .slice ha.ta ra.ts.length ha.tc) hF_A rfl
      refine wpOp_of rfl rfl ?_
      go_simp
      unfold BtInv
      exact ⟨_, _, _, _, _, _, _, _, _, _, _, _, _, _, _, _, _, _, _, p16, rfl, (hB), (hF_C), (hF_A), (hF_B), (hF_R), (fun h => h0 (by rwa [getD_set_ne (by decide)] at h)), (fun h => h1 (by rwa [getD_set_ne (by decide)] at h)), (fun h => h2 (by rwa [getD_set_ne (by decide)] at h)), (fun h => h3 (by rwa [getD_set_ne (by decide)] at h)), (fun h => h4 (by rwa [getD_set_ne (by decide)] at h)), (fun h => h5 (by rwa [getD_set_ne (by decide)] at h)), (fun h => h6 (by rwa [getD_set_ne (by decide)] at h)), (fun h => h7 (by rwa [getD_set_ne (by decide)] at h)), (fun h => h8 (by rwa [getD_set_ne (by decide)] at h)), (fun h => h9 (by rwa [getD_set_ne (by decide)] at h)), (fun h => h10 (by rwa [getD_set_ne (by decide)] at h)), (fun h => h11 (by rwa [getD_set_ne (by decide)] at h)), (fun h => h12 (by rwa [getD_set_ne (by decide)] at h)), (fun h => h13 (by rwa [getD_set_ne (by decide)] at h)), (fun _ => rfl), (fun h => h15 (by rwa [getD_set_ne (by decide)] at h)), (fun h => by rw [getD_set_ne (by decide)] at h; exact h16 h), (fun h => h17 (by rwa [getD_set_ne (by decide)] at h)), (fun h => h18 (by rwa [getD_set_ne (by decide)] at h)), (fun h => by rw [getD_set_ne (by decide)] at h ⊢; exact hR16_3 h), (fun h => by rw [getD_set_ne (by decide)] at h ⊢; exact hR16_7 h), (fun h => by rw [getD_set_ne (by decide)] at h ⊢; exact hR16_11 h), (fun h => by rw [getD_set_ne (by decide)] at h ⊢; exact hR16_15 h)⟩
    · skip
      have e12 := h12 (ready_dep hi (by kernel_rfl))
      subst e12
      have e13 := h13 (ready_dep hi (by kernel_rfl))
      subst e13
      have e14 := h14 (ready_dep hi (by kernel_rfl))
      subst e14
      refine wpOp_of rfl rfl ?_
      go_simp
      go_at_call 84
      refine (PRS.out _ _ _ _ false wi (hRSb _ (hB3.trans hB)) (hRSa _ (hB3.trans hB)) hbdb hbda).mono ?_
      rintro e wz ⟨s, rfl, hsat, hbz⟩
      (try go_simp)
      unfold BtInv
      exact ⟨_, _, _, _, _, _, _, _, _, _, _, _, _, _, _, _, _, _, _, p16, rfl, (hB.trans (hbz.mono (Nat.le_trans (hB3.size) hB.size))), (hkeep hbz hF_C), (hkeep hbz hF_A), (hkeep hbz hF_B), (hkeep hbz hF_R), (fun h => h0 (by rwa [getD_set_ne (by decide)] at h)), (fun h => h1 (by rwa [getD_set_ne (by decide)] at h)), (fun h => h2 (by rwa [getD_set_ne (by decide)] at h)), (fun h => PrsAt.below (h3 (by rwa [getD_set_ne (by decide)] at h)) (hbz)), (fun h => h4 (by rwa [getD_set_ne (by decide)] at h)), (fun h => h5 (by rwa [getD_set_ne (by decide)] at h)), (fun h => h6 (by rwa [getD_set_ne (by decide)] at h)), (fun h => PrsAt.below (h7 (by rwa [getD_set_ne (by decide)] at h)) (hbz)), (fun h => h8 (by rwa [getD_set_ne (by decide)] at h)), (fun h => h9 (by rwa [getD_set_ne (by decide)] at h)), (fun h => h10 (by rwa [getD_set_ne (by decide)] at h)), (fun h => PrsAt.below (h11 (by rwa [getD_set_ne (by decide)] at h)) (hbz)), (fun h => h12 (by rwa [getD_set_ne (by decide)] at h)), (fun h => h13 (by rwa [getD_set_ne (by decide)] at h)), (fun h => h14 (by rwa [getD_set_ne (by decide)] at h)), (fun _ => hsat.mono hB.size), (fun h => by rw [getD_set_ne (by decide)] at h; rw [hR16_15 h] at hi'; cases hi'), (fun h => h17 (by rwa [getD_set_ne (by decide)] at h)), (fun h => h18 (by rwa [getD_set_ne (by decide)] at h)), (fun h => by rw [getD_set_ne (by decide)] at h ⊢; exact hR16_3 h), (fun h => by rw [getD_set_ne (by decide)] at h ⊢; exact hR16_7 h), (fun h => by rw [getD_set_ne (by decide)] at h ⊢; exact hR16_11 h), (fun _ => getD_set_eq (by omega) _)⟩
    · skip
      have g3 := h3 (ready_dep hi (by kernel_rfl))
      obtain ⟨x1_3, x2_3, x3_3, x4_3, x5_3, x6_3, x7_3, es3, -⟩ := g3
      subst es3
      have g7 := h7 (ready_dep hi (by kernel_rfl))
      obtain ⟨x1_7, x2_7, x3_7, x4_7, x5_7, x6_7, x7_7, es7, -⟩ := g7
      subst es7
      have g11 := h11 (ready_dep hi (by kernel_rfl))
      obtain ⟨x1_11, x2_11, x3_11, x4_11, x5_11, x6_11, x7_11, es11, -⟩ := g11
      subst es11
      have g15 := h15 (ready_dep hi (by kernel_rfl))
      obtain ⟨x1_15, x2_15, x3_15, x4_15, x5_15, x6_15, x7_15, es15, -⟩ := g15
      subst es15
      refine wpOp_of rfl rfl ?_
      go_simp
      unfold BtInv
      exact ⟨_, _, _, _, _, _, _, _, _, _, _, _, _, _, _, _, _, _, _, wi.heap.size, rfl, (hB.alloc (Nat.le_trans (hB3.size) hB.size) _), (halloc hF_C _), (halloc hF_A _), (halloc hF_B _), (halloc hF_R _), (fun h => h0 (by rwa [getD_set_ne (by decide)] at h)), (fun h => h1 (by rwa [getD_set_ne (by decide)] at h)), (fun h => h2 (by rwa [getD_set_ne (by decide)] at h)), (fun h => PrsAt.below (h3 (by rwa [getD_set_ne (by decide)] at h)) ((Below.refl _ _).alloc (Nat.le_refl _) _)), (fun h => h4 (by rwa [getD_set_ne (by decide)] at h)), (fun h => h5 (by rwa [getD_set_ne (by decide)] at h)), (fun h => h6 (by rwa [getD_set_ne (by decide)] at h)), (fun h => PrsAt.below (h7 (by rwa [getD_set_ne (by decide)] at h)) ((Below.refl _ _).alloc (Nat.le_refl _) _)), (fun h => h8 (by rwa [getD_set_ne (by decide)] at h)), (fun h => h9 (by rwa [getD_set_ne (by decide)] at h)), (fun h => h10 (by rwa [getD_set_ne (by decide)] at h)), (fun h => PrsAt.below (h11 (by rwa [getD_set_ne (by decide)] at h)) ((Below.refl _ _).alloc (Nat.le_refl _) _)), (fun h => h12 (by rwa [getD_set_ne (by decide)] at h)), (fun h => h13 (by rwa [getD_set_ne (by decide)] at h)), (fun h => h14 (by rwa [getD_set_ne (by decide)] at h)), (fun h => PrsAt.below (h15 (by rwa [getD_set_ne (by decide)] at h)) ((Below.refl _ _).alloc (Nat.le_refl _) _)), (fun _ => ⟨rfl, hB.size, World.alloc_heap_new _ _⟩), (fun h => h17 (by rwa [getD_set_ne (by decide)] at h)), (fun h => h18 (by rwa [getD_set_ne (by decide)] at h)), (fun _ => by rw [getD_set_ne (by decide)]; exact ready_dep hi (by kernel_rfl)), (fun _ => by rw [getD_set_ne (by decide)]; exact ready_dep hi (by kernel_rfl)), (fun _ => by rw [getD_set_ne (by decide)]; exact ready_dep hi (by kernel_rfl)), (fun _ => by rw [getD_set_ne (by decide)]; exact ready_dep hi (by kernel_rfl))⟩
    · skip
      have e16 := (h16 (ready_dep hi (by kernel_rfl))).1
      subst e16
      refine wpOp_of rfl rfl ?_
      go_simp
      unfold BtInv
      exact ⟨_, _, _, _, _, _, _, _, _, _, _, _, _, _, _, _, _, _, _, p16, rfl, (hB), (hF_C), (hF_A), (hF_B), (hF_R), (fun h => h0 (by rwa [getD_set_ne (by decide)] at h)), (fun h => h1 (by rwa [getD_set_ne (by decide)] at h)), (fun h => h2 (by rwa [getD_set_ne (by decide)] at h)), (fun h => h3 (by rwa [getD_set_ne (by decide)] at h)), (fun h => h4 (by rwa [getD_set_ne (by decide)] at h)), (fun h => h5 (by rwa [getD_set_ne (by decide)] at h)), (fun h => h6 (by rwa [getD_set_ne (by decide)] at h)), (fun h => h7 (by rwa [getD_set_ne (by decide)] at h)), (fun h => h8 (by rwa [getD_set_ne (by decide)] at h)), (fun h => h9 (by rwa [getD_set_ne (by decide)] at h)), (fun h => h10 (by rwa [getD_set_ne (by decide)] at h)), (fun h => h11 (by rwa [getD_set_ne (by decide)] at h)), (fun h => h12 (by rwa [getD_set_ne (by decide)] at h)), (fun h => h13 (by rwa [getD_set_ne (by decide)] at h)), (fun h => h14 (by rwa [getD_set_ne (by decide)] at h)), (fun h => h15 (by rwa [getD_set_ne (by decide)] at h)), (fun h => by rw [getD_set_ne (by decide)] at h; exact h16 h), (fun _ => rfl), (fun h => h18 (by rwa [getD_set_ne (by decide)] at h)), (fun h => by rw [getD_set_ne (by decide)] at h ⊢; exact hR16_3 h), (fun h => by rw [getD_set_ne (by decide)] at h ⊢; exact hR16_7 h), (fun h => by rw [getD_set_ne (by decide)] at h ⊢; exact hR16_11 h), (fun h => by rw [getD_set_ne (by decide)] at h ⊢; exact hR16_15 h)⟩
    · skip
      refine wpOp_of rfl rfl ?_
      go_simp
      unfold BtInv
      exact ⟨_, _, _, _, _, _, _, _, _, _, _, _, _, _, _, _, _, _, _, p16, rfl, (hB), (hF_C), (hF_A), (hF_B), (hF_R), (fun h => h0 (by rwa [getD_set_ne (by decide)] at h)), (fun h => h1 (by rwa [getD_set_ne (by decide)] at h)), (fun h => h2 (by rwa [getD_set_ne (by decide)] at h)), (fun h => h3 (by rwa [getD_set_ne (by decide)] at h)), (fun h => h4 (by rwa [getD_set_ne (by decide)] at h)), (fun h => h5 (by rwa [getD_set_ne (by decide)] at h)), (fun h => h6 (by rwa [getD_set_ne (by decide)] at h)), (fun h => h7 (by rwa [getD_set_ne (by decide)] at h)), (fun h => h8 (by rwa [getD_set_ne (by decide)] at h)), (fun h => h9 (by rwa [getD_set_ne (by decide)] at h)), (fun h => h10 (by rwa [getD_set_ne (by decide)] at h)), (fun h => h11 (by rwa [getD_set_ne (by decide)] at h)), (fun h => h12 (by rwa [getD_set_ne (by decide)] at h)), (fun h => h13 (by rwa [getD_set_ne (by decide)] at h)), (fun h => h14 (by rwa [getD_set_ne (by decide)] at h)), (fun h => h15 (by rwa [getD_set_ne (by decide)] at h)), (fun h => by rw [getD_set_ne (by decide)] at h; exact h16 h), (fun h => h17 (by rwa [getD_set_ne (by decide)] at h)), (fun _ => rfl), (fun h => by rw [getD_set_ne (by decide)] at h ⊢; exact hR16_3 h), (fun h => by rw [getD_set_ne (by decide)] at h ⊢; exact hR16_7 h), (fun h => by rw [getD_set_ne (by decide)] at h ⊢; exact hR16_11 h), (fun h => by rw [getD_set_ne (by decide)] at h ⊢; exact hR16_15 h)⟩
  · intro L a wi hI hall
    unfold BtInv at hI
    obtain ⟨s0, s1, s2, s3, s4, s5, s6, s7, s8, s9, s10, s11, s12, s13, s14, s15, s16, s17, s18, p16, rfl, hB, hF_C, hF_A, hF_B, hF_R, h0, h1, h2, h3, h4, h5, h6, h7, h8, h9, h10, h11, h12, h13, h14, h15, h16, h17, h18, hR16_3, hR16_7, hR16_11, hR16_15⟩ := hI
    have e0 := h0 (hall 0 (by decide))
    subst e0
    have e1 := h1 (hall 1 (by decide))
    subst e1
    have e2 := h2 (hall 2 (by decide))
    subst e2
    have g3 := h3 (hall 3 (by decide))
    have e4 := h4 (hall 4 (by decide))
    subst e4
    have e5 := h5 (hall 5 (by decide))
    subst e5
    have e6 := h6 (hall 6 (by decide))
    subst e6
    have g7 := h7 (hall 7 (by decide))
    have e8 := h8 (hall 8 (by decide))
    subst e8
    have e9 := h9 (hall 9 (by decide))
    subst e9
    have e10 := h10 (hall 10 (by decide))
    subst e10
    have g11 := h11 (hall 11 (by decide))
    have e12 := h12 (hall 12 (by decide))
    subst e12
    have e13 := h13 (hall 13 (by decide))
    subst e13
    have e14 := h14 (hall 14 (by decide))
    subst e14
    have g15 := h15 (hall 15 (by decide))
    obtain ⟨e16, b16, g16⟩ := h16 (hall 16 (by decide))
    subst e16
    have e17 := h17 (hall 17 (by decide))
    subst e17
    have e18 := h18 (hall 18 (by decide))
    subst e18
    clear hall h3 h7 h11 h15 h16 hR16_3 hR16_7 hR16_11 hR16_15
    obtain ⟨i0, hi, hz0, hz1, hz2⟩ := info_parts info_dr
    have hmo : Tryz.prog.follows .mixedOrders = true := by kernel_rfl
    have hB4 := hB3.trans hB
    have hB4s := hB4.size
    have hs34 := hB.size
    have hTw : T + 3 < w3.heap.size := hTl
    have hT1 : w.heap.size ≤ T + 3 := by omega
    have PK : ∀ k, k < 4 → ∃ (hx : RHd) (x : Rc) (hy : RHd) (y : Rc) (up : Bool) (s : Value), (#[s3, s7, s11, s15] : Array Value)[k]? = some s ∧ PrsAt w3.heap.size cf hx x hy y up s wi ∧ segL cf ra rb (k + 1) = segL cf ra rb k ++ prs cf x y up ∧ rcBd x = true ∧ rcBd y = true ∧ ((∀ ad, hx.ya = some ad → x.ys.length = 0 ∨ ad.block < w.heap.size) ∧ ∀ ad, hx.ta = some ad → x.ts.length = 0 ∨ ad.block < w.heap.size) ∧ ((∀ ad, hy.ya = some ad → y.ys.length = 0 ∨ ad.block < w.heap.size) ∧ ∀ ad, hy.ta = some ad → y.ts.length = 0 ∨ ad.block < w.heap.size) := by
      intro k hk
      obtain rfl | rfl | rfl | rfl : k = 0 ∨ k = 1 ∨ k = 2 ∨ k = 3 := by omega
      · exact ⟨ha, ra, hb, rb, true, s3, rfl, g3, (List.nil_append _).symm, hbda, hbdb, HFar.out.1, HFar.out.2⟩
      · exact ⟨hb, rb, ha, ra, true, s7, rfl, g7, rfl, hbdb, hbda, HFar.out.2, HFar.out.1⟩
      · exact ⟨ha, ra, hb, rb, false, s11, rfl, g11, rfl, hbda, hbdb, HFar.out.1, HFar.out.2⟩
      · exact ⟨hb, rb, ha, ra, false, s15, rfl, g15, rfl, hbdb, hbda, HFar.out.2, HFar.out.1⟩
    have HPK := Lib.hid PK
    have HJL := Lib.hid (fun k => Nat.le_trans (joinD_len (segL cf ra rb k)) (segL_len (k := k) hbda hbdb))
    have HEnd : Hid (joinD (segL cf ra rb 4) = betw cf ra rb) := by show _ = _; rw [hBT.out, segL_four]
    have hp16 : p16 < wi.heap.size := hblt g16
    clear PK g3 g7 g11 g15 hF_A hF_B hF_C hA3 hBB3 hC3 hR3 PRS hRSa hRSb HSa HSb hBT hbda hbdb HFar
    gi_wp2
    refine wpIn_loop (fun a' wr => ∃ (tm : Array Value) (Ds : List Nat), (∃ (k : Nat) (l0 : List Dr), (tm.size = 91 ∧ slot tm 6 = .pointer (some ⟨T + 3, 0, none⟩) ∧ slot tm 37 = .slice (some ⟨p16, 0, none⟩) 4 4 ∧ slot tm 38 = .int .i64 4 ∧ slot tm 39 = .int .i64 k) ∧ k ≤ 4 ∧ Hid (l0 = joinD (segL cf ra rb k)) ∧ (∃ v, Boxed wr (T + 3) 36 v ∧ wr.ownsRow wi.heap.size 110 6 v l0.length (l0.flatMap drC) ∧ True) ∧ KeepEx wi.heap.size (fun j => j = T + 3) wi wr ∧ Below w.heap.size w wr ∧ Marks w.heap.size wr.heap.size wr Ds) ∧ a' = { tmps := tm, defers := Ds.map mark }) (fun a' _ => 4 - (intOf (slot a'.tmps 39)).toNat) ?atStart ?round
    case atStart =>
      refine ⟨_, [], ?_, rfl⟩
      exact ⟨0, [], ⟨rfl, rfl, rfl, rfl, rfl⟩, Nat.zero_le _, rfl, ⟨_, hF_R, World.ownsRow_nil _ _ _ _, trivial⟩, KeepEx.refl _ _ _, hB4, Marks.nil _ _ _⟩
    case round =>
      rintro a' wr ⟨tm, Ds, ⟨k, l0, ⟨hsz, t6, t37, t38, t39⟩, hk, Hl0, ⟨v, hv, hrow, _⟩, hke, hBr, hMk⟩, rfl⟩
      obtain ⟨wq, rfl⟩ : ∃ wq : World, wq = wr := ⟨_, rfl⟩
      have hmeas : (intOf (slot tm 39)).toNat = k := by rw [t39]; simp [intOf]
      have Hmeas := Lib.hid hmeas
      clear hmeas
      clear hF_R hB hB3 hB4
      have hsW := hke.size
      have hcS : wq.heap[p16]? = some (.cells #[s3, s7, s11, s15] 162 (0, 0)) := (hke.block p16 hp16 (by omega)).trans g16
      dsimp only
      rw [Hmeas.out]
      have etm : tm = #[slot tm 0, slot tm 1, slot tm 2, slot tm 3, slot tm 4, slot tm 5, slot tm 6, slot tm 7, slot tm 8, slot tm 9, slot tm 10, slot tm 11, slot tm 12, slot tm 13, slot tm 14, slot tm 15, slot tm 16, slot tm 17, slot tm 18, slot tm 19, slot tm 20, slot tm 21, slot tm 22, slot tm 23, slot tm 24, slot tm 25, slot tm 26, slot tm 27, slot tm 28, slot tm 29, slot tm 30, slot tm 31, slot tm 32, slot tm 33, slot tm 34, slot tm 35, slot tm 36, slot tm 37, slot tm 38, slot tm 39, slot tm 40, slot tm 41, slot tm 42, slot tm 43, slot tm 44, slot tm 45, slot tm 46, slot tm 47, slot tm 48, slot tm 49, slot tm 50, slot tm 51, slot tm 52, slot tm 53, slot tm 54, slot tm 55, slot tm 56, slot tm 57, slot tm 58, slot tm 59, slot tm 60, slot tm 61, slot tm 62, slot tm 63, slot tm 64, slot tm 65, slot tm 66, slot tm 67, slot tm 68, slot tm 69, slot tm 70, slot tm 71, slot tm 72, slot tm 73, slot tm 74, slot tm 75, slot tm 76, slot tm 77, slot tm 78, slot tm 79, slot tm 80, slot tm 81, slot tm 82, slot tm 83, slot tm 84, slot tm 85, slot tm 86, slot tm 87, slot tm 88, slot tm 89, slot tm 90] := (slots_eq hsz).trans rfl
      rw [t6, t37, t38, t39] at etm
      rw [etm]
      clear etm t6 t37 t38 t39 hsz
      by_cases hlt : k < 4
      · have hltI : (k : Int) < 4 := by omega
        obtain ⟨hx, x, hy, y, up, s, hsk, hat, hseg, hbx, hby, ⟨fx1, fx2⟩, fy1, fy2⟩ := HPK.out k hlt
        have hl128 := HJL.out k
        rw [← Hl0.out] at hl128
        have HSeg : Hid (∀ m : List Dr, m = prs cf x y up → m.foldl addD l0 = joinD (segL cf ra rb (k + 1))) := fun m hm => by rw [hseg, joinD_app, ← Hl0.out, hm]
        have HPre := Lib.hid (fun (pre : List Dr) (hp : pre.length < prLen x y up) => show (pre.foldl addD l0).length ≤ 160 from by have := foldD_len pre l0; have := prLen_le (up := up) hbx hby; omega)
        obtain ⟨pf, pt, pa, ps, pc, p5, p6, hse, hpp, hin⟩ := hat
        have hlow := hin.low (S := fun j => j = T + 3) hpp (fun j hj => by omega) (fun ad h => (fx1 ad h).imp id (fun q => ⟨by omega, by omega⟩)) (fun ad h => (fx2 ad h).imp id (fun q => ⟨by omega, by omega⟩)) (fun ad h => (fy1 ad h).imp id (fun q => ⟨by omega, by omega⟩)) (fun ad h => (fy2 ad h).imp id (fun q => ⟨by omega, by omega⟩))
        have hinq := hin.keep hke hlow
        subst hse
        have c1 : wq.cell? ⟨p16, k, none⟩ = some (.func (.func 93) #[] #[.pointer (some ⟨pf, 0, none⟩), .pointer (some ⟨pt, 0, none⟩), .pointer (some ⟨pa, 0, none⟩), .pointer (some ⟨ps, 0, none⟩), .pointer (some ⟨pc, 0, none⟩)]) := by simp only [World.cell?, hcS]; exact hsk
        clear hsk hseg hin hcS fx1 fx2 fy1 fy2
        gi_wp2
        clear c1
        refine wpIn_rangeFunc_ownH rfl (by decide) (gf := 93) (lb := #[.pointer (some ⟨pf, 0, none⟩), .pointer (some ⟨pt, 0, none⟩), .pointer (some ⟨pa, 0, none⟩), .pointer (some ⟨ps, 0, none⟩), .pointer (some ⟨pc, 0, none⟩)]) rfl trivial (enters_of Tryz.func93 (by kernel_rfl) rfl)
          (prs_stops 5 (by decide) pf pt pa ps pc p5 p6 wi.heap.size (fun j => j = T + 3) cf hx x hy y up wq hbx hby hinq hlow) keepEx_t (keepEx_b hsW) (Below.refl _ _) (fun _ => rfl)
          (fun pre W => (∃ v, Boxed W (T + 3) 36 v ∧ W.ownsRow wi.heap.size 110 6 v (pre.foldl addD l0).length ((pre.foldl addD l0).flatMap drC) ∧ True) ∧ (KeepEx wi.heap.size (fun j => j = T + 3) wi W ∧ Below w.heap.size w W ∧ wq.heap.size ≤ W.heap.size ∧ Marks w.heap.size wq.heap.size W Ds))
          (fun _ _ _ => False)
          (OwnFrom.and (Own.from (holdsRow_own wi.heap.size (T + 3) 36 110 6 (fun pre : List Dr => (pre.foldl addD l0).length) (fun pre => (pre.foldl addD l0).flatMap drC) (fun _ _ => True)) _) (OwnFrom.and (ownFrom_keepEx hsW (Nat.le_refl _)) (OwnFrom.and (ownFrom_below (Nat.le_refl _) hBr.size) (OwnFrom.and (fun _ _ _ _ hs hg _ => Nat.le_trans hs hg.size) (ownFrom_marks (Nat.le_refl _))))))
          (fun _ _ _ _ _ hs _ _ => hs)
          ⟨⟨v, hv, hrow, trivial⟩, hke, hBr, Nat.le_refl _, hMk⟩
          (fun d a' W => ∃ (Bx : Nat) (tm : Array Value), (wq.heap.size ≤ Bx ∧ W.heap[Bx]? = some (.cells #[.int .i64 d.a, .int .i64 d.b, .int .i64 d.x0, .int .i64 d.z0, .int .i64 d.x1, .int .i64 d.z1] 110 (0, 0)) ∧ tm.size = 91 ∧ slot tm 6 = .pointer (some ⟨T + 3, 0, none⟩) ∧ slot tm 9 = .pointer (some ⟨Bx, 0, none⟩) ∧ ∃ v, Boxed W (T + 3) 36 v ∧ v.ownBlock ≠ some Bx) ∧ a' = { tmps := tm, defers := [] })
          (fun d a' _ A B row hs hg hr => by
            obtain ⟨Bx, tm, ⟨h1, h2, h3, h4, h5, v, h7, h8⟩, h6⟩ := hs
            have h7' : A.heap[T + 3]? = _ := h7
            refine ⟨Bx, tm, ⟨h1, (hg.block Bx (Array.getElem?_eq_some_iff.1 h2).1 (fun e => ?_)).trans h2, h3, h4, h5, v, (hg.block (T + 3) (Array.getElem?_eq_some_iff.1 h7').1 (fun e => ?_)).trans h7, h8⟩, h6⟩
            · obtain ⟨_, o, ho, hc⟩ := hr Bx e.symm
              rw [h2] at ho
              cases ho
              cases hc
            · obtain ⟨_, o, ho, hc⟩ := hr (T + 3) e.symm
              rw [h7'] at ho
              cases ho
              cases hc) ?assign ?body ?done ?stop
        case assign =>
          rintro l pre d W K ⟨⟨v3, hv3, hrow3, _⟩, hke3, hB3, hsW3, hMk3⟩ hK
          gi_wp2
          refine hK _ _ ((KeepsOthers.alloc _ _).from _) (KeepEx.of_below ((Below.refl _ _).alloc (Nat.le_refl _) _) (by omega)) ⟨⟨v3, hv3.alloc _, hrow3.alloc _, trivial⟩, hke3.trans (KeepEx.of_below ((Below.refl _ _).alloc (Nat.le_refl _) _) (by omega)), hB3.alloc hB3.size _, by simp; omega, hMk3.alloc _⟩ ⟨W.heap.size, _, ⟨hsW3, World.alloc_heap_new W _, rfl, rfl, rfl, v3, hv3.alloc _, ownsRow_ne_new hrow3⟩, rfl⟩
        case body =>
          rintro l pre d a' W hl _ ⟨⟨v3, hv3, hrow3, _⟩, hke3, hB3, hsW3, hMk3⟩ ⟨Bx, tm, ⟨hBx, hd, hsz, t6, t9, vb, hvb, hnb⟩, rfl⟩ hlt3
          have hnb3 : v3.ownBlock ≠ some Bx := by
            have h9 : W.heap[T + 3]? = _ := hvb
            rw [show W.heap[T + 3]? = _ from hv3] at h9
            cases h9
            exact hnb
          clear hvb hnb
          have etm : tm = #[slot tm 0, slot tm 1, slot tm 2, slot tm 3, slot tm 4, slot tm 5, slot tm 6, slot tm 7, slot tm 8, slot tm 9, slot tm 10, slot tm 11, slot tm 12, slot tm 13, slot tm 14, slot tm 15, slot tm 16, slot tm 17, slot tm 18, slot tm 19, slot tm 20, slot tm 21, slot tm 22, slot tm 23, slot tm 24, slot tm 25, slot tm 26, slot tm 27, slot tm 28, slot tm 29, slot tm 30, slot tm 31, slot tm 32, slot tm 33, slot tm 34, slot tm 35, slot tm 36, slot tm 37, slot tm 38, slot tm 39, slot tm 40, slot tm 41, slot tm 42, slot tm 43, slot tm 44, slot tm 45, slot tm 46, slot tm 47, slot tm 48, slot tm 49, slot tm 50, slot tm 51, slot tm 52, slot tm 53, slot tm 54, slot tm 55, slot tm 56, slot tm 57, slot tm 58, slot tm 59, slot tm 60, slot tm 61, slot tm 62, slot tm 63, slot tm 64, slot tm 65, slot tm 66, slot tm 67, slot tm 68, slot tm 69, slot tm 70, slot tm 71, slot tm 72, slot tm 73, slot tm 74, slot tm 75, slot tm 76, slot tm 77, slot tm 78, slot tm 79, slot tm 80, slot tm 81, slot tm 82, slot tm 83, slot tm 84, slot tm 85, slot tm 86, slot tm 87, slot tm 88, slot tm 89, slot tm 90] := (slots_eq hsz).trans rfl
          rw [t6, t9] at etm
          rw [etm]
          clear etm t6 t9 hsz
          have hl160 := HPre.out pre hlt3
          obtain ⟨L3, hL3⟩ : ∃ L, L = pre.foldl addD l0 := ⟨_, rfl⟩
          have HFold : Hid ((pre ++ [d]).foldl addD l0 = addD L3 d) := by show _ = _; rw [foldl_snoc, hL3]
          rw [← hL3] at hrow3 hl160
          clear hL3
          have hsWi : wi.heap.size ≤ W.heap.size := by omega
          have hBs := hB3.size
          have hBx2 := hblt hd
          obtain ⟨ad, cp, rfl, hsl⟩ := OwnR.reads drC_len (⟨rfl, hrow3⟩ : OwnR drC 6 110 wi.heap.size W _ L3.length L3)
          obtain ⟨N, hN⟩ : ∃ N, N = L3.length := ⟨_, rfl⟩
          have HN := Lib.hid hN
          have hmax := hsl.max
          have hle := hsl.le
          rw [← hN] at hv3 hrow3 hsl hl160 hle
          clear hN
          have hown3 : OwnR drC 6 110 wi.heap.size W (.slice ad N cp) N L3 := ⟨HN.out.symm, hrow3⟩
          obtain ⟨da, db, dx0, dz0, dx1, dz1⟩ := d
          dsimp only at hd
          have hc := hv3.cell
          have e_c := fun d os => cell_regrown hc d os
          have e_2 := fun d os => cell_regrown (hcell (k := 2) (v := .int .i64 dx0) hd rfl) d os
          have e_3 := fun d os => cell_regrown (hcell (k := 3) (v := .int .i64 dz0) hd rfl) d os
          have Hd := Lib.hid hd
          clear hd
          by_cases hN0 : N = 0
          · have hL0 : L3 = [] := List.eq_nil_of_length_eq_zero (by rw [← HN.out]; exact hN0)
            have HRes : Hid (addD L3 ⟨da, db, dx0, dz0, dx1, dz1⟩ = L3 ++ [⟨da, db, dx0, dz0, dx1, dz1⟩]) := by show _ = _; rw [hL0]; rfl
            have g0 : decide ((0 : Int) < (N : Int)) = false := decide_eq_false (by omega)
            have g1 : decide (0 < N) = false := decide_eq_false (by omega)
            clear hN0 hL0
            gi_wp2
            refine wpIn_round_quiet_below hmo (by kernel_rfl) (by kernel_rfl) ?_
            repeat (gi_big_quiet_step (fail))
            refine wpQuietIn_nil ?_
            rintro W5 ⟨⟨dq, osq⟩, hw5⟩
            have hst : Below W.heap.size W W5 := by rw [hw5]; exact below_regrown W dq osq
            clear hw5 e_c e_2 e_3 hc
            have hd5 := hkeep hst Hd.out
            have hv5 : Boxed W5 (T + 3) 36 (.slice ad N cp) := (hst.block _ (by omega)).trans hv3
            have hown5 := hown3.below hst (Nat.le_refl _)
            have hsW5 : wi.heap.size ≤ W5.heap.size := Nat.le_trans hsWi hst.size
            have hke5 := hke3.trans (KeepEx.of_below hst hsWi)
            have hB5 := hB3.trans (hst.mono hB3.size)
            have hM5 := hMk3.below hst hsW3
            have hsq5 : wq.heap.size ≤ W5.heap.size := Nat.le_trans hsW3 hst.size
            have KF5 : KeepsFrom wq.heap.size W W5 := KeepsFrom.of_below hst _
            have KE5 : KeepEx wi.heap.size (fun j => j = T + 3) W W5 := KeepEx.of_below hst hsWi
            clear hst hv3 hrow3 hown3 hsl hke3 hB3 hMk3
            clear g0 g1
            have hc5 := hv5.cell
            have d0 := hcell (k := 0) (v := .int .i64 da) hd5 rfl
            have d1 := hcell (k := 1) (v := .int .i64 db) hd5 rfl
            have d2 := hcell (k := 2) (v := .int .i64 dx0) hd5 rfl
            have d3 := hcell (k := 3) (v := .int .i64 dz0) hd5 rfl
            have d4 := hcell (k := 4) (v := .int .i64 dx1) hd5 rfl
            have d5 := hcell (k := 5) (v := .int .i64 dz1) hd5 rfl
            gi_wp2_with (gi_at_builtin; refine wpListIn_append_own _ rfl _ _ 36 rfl wi.heap.size 110 i0 (.agg #[.int .i64 0, .int .i64 0, .int .i64 0, .int .i64 0, .int .i64 0, .int .i64 0]) 6 48 Tryz.underlying36 hi hz0 hz1 hz2 rfl (by decide) _ _ _ rfl (hown5.2.alloc _) ⟨W5.heap.size, 0, none⟩ 1 1 [.int .i64 da, .int .i64 db, .int .i64 dx0, .int .i64 dz0, .int .i64 dx1, .int .i64 dz1] rfl rfl (fun j u hu => by rw [Addr.add_lit, Nat.zero_add, World.cell?_alloc_at _ _ _ _ rfl]; simpa using hu) (by simp [Value.oneCell']) (by unfold maxLen; omega) (by omega) (by simp; omega) ?_; intro v' w1 hown' hgrow _; obtain ⟨g', cap', rfl⟩ := ownsRow_succ hown'; obtain ⟨hv1, hv2, hr2, hk2, hkk, hb2⟩ := boxed_appendedK (S := fun j => j = T + 3) hv5 (by decide) hown5.2 hsW5 hB4s hT1 rfl hown' hgrow; have hc1 := hv1.cell; have hf1 := hv1.frozen)
            refine ⟨KF5.trans (hk2.from _), KE5.trans hkk, ⟨⟨_, hv2, ?_, trivial⟩, hke5.trans hkk, hB5.trans hb2, Nat.le_trans hsq5 hk2.size, hM5.keeps (hk2.from _)⟩⟩
            rw [HFold.out, HRes.out, List.length_append, List.flatMap_append, ← HN.out]
            exact hr2
          · obtain ⟨m, hm⟩ := Nat.exists_eq_succ_of_ne_zero hN0
            obtain ⟨⟨ea, eb, ex0, ez0, ex1, ez1⟩, he1, he2⟩ := getLast_some (HN.out.symm.trans hm)
            obtain ⟨g, off, hae, hgl, _⟩ := hsl.at0 (by omega)
            have hown3' := hown3
            rw [hae] at hown3'
            have hoff : off = 0 := by
              rcases hrow3.2 with ⟨h0, _⟩ | ⟨g', cap, cur, h0, _⟩
              · rw [hae] at h0; cases h0
              · rw [hae] at h0; cases h0; rfl
            subst hoff
            subst hae
            clear hown3'
            have x4 := hown3.cellAt drC_len (j := 4) he1 rfl
            have x5 := hown3.cellAt drC_len (j := 5) he1 rfl
            have e_4 := fun d os => cell_regrown x4 d os
            have e_5 := fun d os => cell_regrown x5 d os
            have g0 : decide ((0 : Int) < (N : Int)) = true := decide_eq_true (by omega)
            have g1 : decide (0 < N) = true := decide_eq_true (by omega)
            have q1 : IntKind.i64.wrap ((N : Int) - 1) = (m : Int) := by rw [IntKind.wrap_i64]; omega
            have q2 : (m : Int) < (N : Int) := by omega
            have q3 : (0 : Int) ≤ (m : Int) := by omega
            have He1 := Lib.hid he1
            have hmN : m < N := by omega
            have HM : Hid (m = L3.length - 1) := by show _ = _; rw [← HN.out]; omega
            clear hN0 hm he1 x4 x5
            have HJn := Lib.hid (fun (h1 : ex1 = dx0) (h2 : ez1 = dz0) => addD_join (d := ⟨da, db, dx0, dz0, dx1, dz1⟩) he2 h1 h2)
            have HMo := Lib.hid (fun (h1 : ¬ (ex1 = dx0 ∧ ez1 = dz0)) => addD_more (d := ⟨da, db, dx0, dz0, dx1, dz1⟩) he2 h1)
            clear he2
            by_cases hx1 : ex1 = dx0
            rotate_left
            · have HRes := Lib.hid (HMo.out (fun q => hx1 q.1))
              have y1 : (ex1 == dx0) = false := by simpa using hx1
              clear hx1 HMo HJn
              gi_wp2
              refine wpIn_round_quiet_below hmo (by kernel_rfl) (by kernel_rfl) ?_
              repeat (gi_big_quiet_step (fail))
              refine wpQuietIn_nil ?_
              rintro W5 ⟨⟨dq, osq⟩, hw5⟩
              have hst : Below W.heap.size W W5 := by rw [hw5]; exact below_regrown W dq osq
              clear hw5 e_c e_2 e_3 e_4 e_5 hc
              have hd5 := hkeep hst Hd.out
              have hv5 : Boxed W5 (T + 3) 36 (.slice (some ⟨g, 0, none⟩) N cp) := (hst.block _ (by omega)).trans hv3
              have hown5 := hown3.below hst (Nat.le_refl _)
              have hsW5 : wi.heap.size ≤ W5.heap.size := Nat.le_trans hsWi hst.size
              have hke5 := hke3.trans (KeepEx.of_below hst hsWi)
              have hB5 := hB3.trans (hst.mono hB3.size)
              have hM5 := hMk3.below hst hsW3
              have hsq5 : wq.heap.size ≤ W5.heap.size := Nat.le_trans hsW3 hst.size
              have KF5 : KeepsFrom wq.heap.size W W5 := KeepsFrom.of_below hst _
              have KE5 : KeepEx wi.heap.size (fun j => j = T + 3) W W5 := KeepEx.of_below hst hsWi
              clear hst hv3 hrow3 hown3 hsl hke3 hB3 hMk3
              clear g0 g1 q1 q2 q3 y1
              have hc5 := hv5.cell
              have d0 := hcell (k := 0) (v := .int .i64 da) hd5 rfl
              have d1 := hcell (k := 1) (v := .int .i64 db) hd5 rfl
              have d2 := hcell (k := 2) (v := .int .i64 dx0) hd5 rfl
              have d3 := hcell (k := 3) (v := .int .i64 dz0) hd5 rfl
              have d4 := hcell (k := 4) (v := .int .i64 dx1) hd5 rfl
              have d5 := hcell (k := 5) (v := .int .i64 dz1) hd5 rfl
              gi_wp2_with (gi_at_builtin; refine wpListIn_append_own _ rfl _ _ 36 rfl wi.heap.size 110 i0 (.agg #[.int .i64 0, .int .i64 0, .int .i64 0, .int .i64 0, .int .i64 0, .int .i64 0]) 6 48 Tryz.underlying36 hi hz0 hz1 hz2 rfl (by decide) _ _ _ rfl (hown5.2.alloc _) ⟨W5.heap.size, 0, none⟩ 1 1 [.int .i64 da, .int .i64 db, .int .i64 dx0, .int .i64 dz0, .int .i64 dx1, .int .i64 dz1] rfl rfl (fun j u hu => by rw [Addr.add_lit, Nat.zero_add, World.cell?_alloc_at _ _ _ _ rfl]; simpa using hu) (by simp [Value.oneCell']) (by unfold maxLen; omega) (by omega) (by simp; omega) ?_; intro v' w1 hown' hgrow _; obtain ⟨g', cap', rfl⟩ := ownsRow_succ hown'; obtain ⟨hv1, hv2, hr2, hk2, hkk, hb2⟩ := boxed_appendedK (S := fun j => j = T + 3) hv5 (by decide) hown5.2 hsW5 hB4s hT1 rfl hown' hgrow; have hc1 := hv1.cell; have hf1 := hv1.frozen)
              refine ⟨KF5.trans (hk2.from _), KE5.trans hkk, ⟨⟨_, hv2, ?_, trivial⟩, hke5.trans hkk, hB5.trans hb2, Nat.le_trans hsq5 hk2.size, hM5.keeps (hk2.from _)⟩⟩
              rw [HFold.out, HRes.out, List.length_append, List.flatMap_append, ← HN.out]
              exact hr2
            by_cases hz1 : ez1 = dz0
            rotate_left
            · have HRes := Lib.hid (HMo.out (fun q => hz1 q.2))
              have y1 : (ex1 == dx0) = true := by simpa using hx1
              have y2 : (ez1 == dz0) = false := by simpa using hz1
              clear hx1 hz1 HMo HJn
              gi_wp2
              refine wpIn_round_quiet_below hmo (by kernel_rfl) (by kernel_rfl) ?_
              repeat (gi_big_quiet_step (fail))
              refine wpQuietIn_nil ?_
              rintro W5 ⟨⟨dq, osq⟩, hw5⟩
              have hst : Below W.heap.size W W5 := by rw [hw5]; exact below_regrown W dq osq
              clear hw5 e_c e_2 e_3 e_4 e_5 hc
              have hd5 := hkeep hst Hd.out
              have hv5 : Boxed W5 (T + 3) 36 (.slice (some ⟨g, 0, none⟩) N cp) := (hst.block _ (by omega)).trans hv3
              have hown5 := hown3.below hst (Nat.le_refl _)
              have hsW5 : wi.heap.size ≤ W5.heap.size := Nat.le_trans hsWi hst.size
              have hke5 := hke3.trans (KeepEx.of_below hst hsWi)
              have hB5 := hB3.trans (hst.mono hB3.size)
              have hM5 := hMk3.below hst hsW3
              have hsq5 : wq.heap.size ≤ W5.heap.size := Nat.le_trans hsW3 hst.size
              have KF5 : KeepsFrom wq.heap.size W W5 := KeepsFrom.of_below hst _
              have KE5 : KeepEx wi.heap.size (fun j => j = T + 3) W W5 := KeepEx.of_below hst hsWi
              clear hst hv3 hrow3 hown3 hsl hke3 hB3 hMk3
              clear g0 g1 q1 q2 q3 y1 y2
              have hc5 := hv5.cell
              have d0 := hcell (k := 0) (v := .int .i64 da) hd5 rfl
              have d1 := hcell (k := 1) (v := .int .i64 db) hd5 rfl
              have d2 := hcell (k := 2) (v := .int .i64 dx0) hd5 rfl
              have d3 := hcell (k := 3) (v := .int .i64 dz0) hd5 rfl
              have d4 := hcell (k := 4) (v := .int .i64 dx1) hd5 rfl
              have d5 := hcell (k := 5) (v := .int .i64 dz1) hd5 rfl
              gi_wp2_with (gi_at_builtin; refine wpListIn_append_own _ rfl _ _ 36 rfl wi.heap.size 110 i0 (.agg #[.int .i64 0, .int .i64 0, .int .i64 0, .int .i64 0, .int .i64 0, .int .i64 0]) 6 48 Tryz.underlying36 hi hz0 hz1 hz2 rfl (by decide) _ _ _ rfl (hown5.2.alloc _) ⟨W5.heap.size, 0, none⟩ 1 1 [.int .i64 da, .int .i64 db, .int .i64 dx0, .int .i64 dz0, .int .i64 dx1, .int .i64 dz1] rfl rfl (fun j u hu => by rw [Addr.add_lit, Nat.zero_add, World.cell?_alloc_at _ _ _ _ rfl]; simpa using hu) (by simp [Value.oneCell']) (by unfold maxLen; omega) (by omega) (by simp; omega) ?_; intro v' w1 hown' hgrow _; obtain ⟨g', cap', rfl⟩ := ownsRow_succ hown'; obtain ⟨hv1, hv2, hr2, hk2, hkk, hb2⟩ := boxed_appendedK (S := fun j => j = T + 3) hv5 (by decide) hown5.2 hsW5 hB4s hT1 rfl hown' hgrow; have hc1 := hv1.cell; have hf1 := hv1.frozen)
              refine ⟨KF5.trans (hk2.from _), KE5.trans hkk, ⟨⟨_, hv2, ?_, trivial⟩, hke5.trans hkk, hB5.trans hb2, Nat.le_trans hsq5 hk2.size, hM5.keeps (hk2.from _)⟩⟩
              rw [HFold.out, HRes.out, List.length_append, List.flatMap_append, ← HN.out]
              exact hr2
            have HRes := Lib.hid (HJn.out hx1 hz1)
            have y1 : (ex1 == dx0) = true := by simpa using hx1
            have y2 : (ez1 == dz0) = true := by simpa using hz1
            clear hx1 hz1 HMo HJn
            gi_wp2
            refine wpIn_round_quiet_below hmo (by kernel_rfl) (by kernel_rfl) ?_
            repeat (gi_big_quiet_step (fail))
            refine wpQuietIn_nil ?_
            rintro W5 ⟨⟨dq, osq⟩, hw5⟩
            have hst : Below W.heap.size W W5 := by rw [hw5]; exact below_regrown W dq osq
            clear hw5 e_c e_2 e_3 e_4 e_5 hc
            have hd5 := hkeep hst Hd.out
            have hv5 : Boxed W5 (T + 3) 36 (.slice (some ⟨g, 0, none⟩) N cp) := (hst.block _ (by omega)).trans hv3
            have hown5 := hown3.below hst (Nat.le_refl _)
            have hsW5 : wi.heap.size ≤ W5.heap.size := Nat.le_trans hsWi hst.size
            have hke5 := hke3.trans (KeepEx.of_below hst hsWi)
            have hB5 := hB3.trans (hst.mono hB3.size)
            have hM5 := hMk3.below hst hsW3
            have hsq5 : wq.heap.size ≤ W5.heap.size := Nat.le_trans hsW3 hst.size
            have KF5 : KeepsFrom wq.heap.size W W5 := KeepsFrom.of_below hst _
            have KE5 : KeepEx wi.heap.size (fun j => j = T + 3) W W5 := KeepEx.of_below hst hsWi
            clear hst hv3 hrow3 hown3 hsl hke3 hB3 hMk3
            clear g0 g1 y1 y2
            obtain ⟨J, hJd⟩ : ∃ J : Bool → Bool → World → Prop, J = fun p q X => Boxed X (T + 3) 36 (.slice (some ⟨g, 0, none⟩) N cp) ∧ X.heap[Bx]? = some (.cells #[.int .i64 da, .int .i64 db, .int .i64 dx0, .int .i64 dz0, .int .i64 dx1, .int .i64 dz1] 110 (0, 0)) ∧ OwnR drC 6 110 wi.heap.size X (.slice (some ⟨g, 0, none⟩) N cp) N (L3.set m ⟨ea, eb, ex0, ez0, if p then dx1 else ex1, if q then dz1 else ez1⟩) ∧ KeepEx wi.heap.size (fun j => j = T + 3) W5 X ∧ Below w.heap.size W5 X ∧ KeepsFrom wq.heap.size W5 X ∧ W5.heap.size ≤ X.heap.size ∧ Marks w.heap.size wq.heap.size X Ds := ⟨_, rfl⟩
            have hgB : wi.heap.size ≤ g := by
              rcases hown5.2.2 with ⟨h0, _⟩ | ⟨g', cap, cur, h0, hB', _⟩
              · cases h0
              · cases h0; exact hB'
            have hLm : ∀ e : Dr, (L3.set m e)[m]? = some e := fun e => by rw [List.getElem?_set_self (by rw [← HN.out]; exact hmN)]
            have HJ0 : Hid (J false false W5.drew) := by
              show J false false W5.drew
              rw [hJd]
              have hself : L3.set m ⟨ea, eb, ex0, ez0, ex1, ez1⟩ = L3 := by
                have h2 := He1.out
                obtain ⟨h3, h4⟩ := List.getElem?_eq_some_iff.1 h2
                rw [← h4, List.set_getElem_self]
              have hst : Below W5.heap.size W5 W5.drew := (Below.refl _ _).drew
              refine ⟨hv5, hd5, ?_, KeepEx.of_below hst hsW5, hst.mono (by omega), (KeepsOthers.drew _).from _, Nat.le_refl _, hM5.below hst hsq5⟩
              simp only [Bool.false_eq_true, if_false]
              rw [hself]
              exact hown5
            have HJr : Hid (∀ p q X, J p q X → X.cell? ⟨T + 3, 0, none⟩ = some (.slice (some ⟨g, 0, none⟩) N cp) ∧ X.cell? ⟨Bx, 4, none⟩ = some (.int .i64 dx1) ∧ X.cell? ⟨Bx, 5, none⟩ = some (.int .i64 dz1) ∧ X.cell? ⟨g, m * 6 + 4, none⟩ = some (.int .i64 (if p then dx1 else ex1)) ∧ X.cell? ⟨g, m * 6 + 5, none⟩ = some (.int .i64 (if q then dz1 else ez1)) ∧ ∀ k, X.frozen? ⟨g, k, none⟩ = false) := by
              show ∀ p q X, _ → _
              intro p q X h
              rw [hJd] at h
              obtain ⟨a1, a2, a3, _⟩ := h
              exact ⟨a1.cell, hcell (k := 4) (v := .int .i64 dx1) a2 rfl, hcell (k := 5) (v := .int .i64 dz1) a2 rfl, a3.cellAt drC_len (j := 4) (hLm _) rfl, a3.cellAt drC_len (j := 5) (hLm _) rfl, fun k => a3.frozen k⟩
            have hstep : ∀ (X : World) (k : Nat) (u : Value) (xs : List Dr), Boxed X (T + 3) 36 (.slice (some ⟨g, 0, none⟩) N cp) ∧ X.heap[Bx]? = some (.cells #[.int .i64 da, .int .i64 db, .int .i64 dx0, .int .i64 dz0, .int .i64 dx1, .int .i64 dz1] 110 (0, 0)) ∧ OwnR drC 6 110 wi.heap.size X (.slice (some ⟨g, 0, none⟩) N cp) N xs ∧ KeepEx wi.heap.size (fun j => j = T + 3) W5 X ∧ Below w.heap.size W5 X ∧ KeepsFrom wq.heap.size W5 X ∧ W5.heap.size ≤ X.heap.size ∧ Marks w.heap.size wq.heap.size X Ds → g ≠ Bx → ∀ ys, OwnR drC 6 110 wi.heap.size (X.setCell ⟨g, k, none⟩ u) (.slice (some ⟨g, 0, none⟩) N cp) N ys →
                Boxed (X.setCell ⟨g, k, none⟩ u) (T + 3) 36 (.slice (some ⟨g, 0, none⟩) N cp) ∧ (X.setCell ⟨g, k, none⟩ u).heap[Bx]? = some (.cells #[.int .i64 da, .int .i64 db, .int .i64 dx0, .int .i64 dz0, .int .i64 dx1, .int .i64 dz1] 110 (0, 0)) ∧ OwnR drC 6 110 wi.heap.size (X.setCell ⟨g, k, none⟩ u) (.slice (some ⟨g, 0, none⟩) N cp) N ys ∧ KeepEx wi.heap.size (fun j => j = T + 3) W5 (X.setCell ⟨g, k, none⟩ u) ∧ Below w.heap.size W5 (X.setCell ⟨g, k, none⟩ u) ∧ KeepsFrom wq.heap.size W5 (X.setCell ⟨g, k, none⟩ u) ∧ W5.heap.size ≤ (X.setCell ⟨g, k, none⟩ u).heap.size ∧ Marks w.heap.size wq.heap.size (X.setCell ⟨g, k, none⟩ u) Ds := by
              intro X k u xs ⟨a1, a2, a3, a4, a5, a6, a7, a8⟩ hgb ys hy
              have hG := grownBy_setCellI X g k u
              have hng : some (T + 3) ≠ (some g : Option Nat) := by simp only [ne_eq, Option.some.injEq]; omega
              refine ⟨a1.kept hG hng, hgrown hG a2 (by simp only [ne_eq, Option.some.injEq]; exact hgb), hy, a4.trans (KeepEx.setCell (.inl hgB) u), a5.setCell (p := ⟨g, k, none⟩) (by show _ ≤ g; omega) u, a6.trans ((KeepsOthers.setCell _ _ _).from _), Nat.le_trans a7 hG.size, a8.setCell (p := ⟨g, k, none⟩) (fun o ho => ?_) u⟩
              have h2 : X.heap[g]? = some o := ho
              rcases a3.2.2 with ⟨h0, _⟩ | ⟨g', cap, cur, h0, _, hg', _⟩
              · cases h0
              · cases h0
                rw [hg'] at h2
                cases h2
                rfl
            have hgBx : g ≠ Bx := fun e => hnb3 (by rw [e]; rfl)
            have HJa : Hid (∀ q X, J false q X → J true q (X.setCell ⟨g, m * 6 + 4, none⟩ (.int .i64 dx1))) := by
              show ∀ q X, _ → _
              intro q X h
              rw [hJd] at h ⊢
              refine hstep X _ _ _ h hgBx _ ?_
              have h3 := h.2.2.1.setAt drC_len (j := 4) (y := ⟨ea, eb, ex0, ez0, dx1, if q then dz1 else ez1⟩) (u := .int .i64 dx1) (hLm _) (by decide) rfl
              rw [List.set_set] at h3
              exact h3
            have HJb : Hid (∀ p X, J p false X → J p true (X.setCell ⟨g, m * 6 + 5, none⟩ (.int .i64 dz1))) := by
              show ∀ p X, _ → _
              intro p X h
              rw [hJd] at h ⊢
              refine hstep X _ _ _ h hgBx _ ?_
              have h3 := h.2.2.1.setAt drC_len (j := 5) (y := ⟨ea, eb, ex0, ez0, if p then dx1 else ex1, dz1⟩) (u := .int .i64 dz1) (hLm _) (by decide) rfl
              rw [List.set_set] at h3
              exact h3
            have HJe : Hid (∀ X, J true true X → Boxed X (T + 3) 36 (.slice (some ⟨g, 0, none⟩) N cp) ∧ True ∧ OwnR drC 6 110 wi.heap.size X (.slice (some ⟨g, 0, none⟩) N cp) N (L3.set m ⟨ea, eb, ex0, ez0, dx1, dz1⟩) ∧ KeepEx wi.heap.size (fun j => j = T + 3) W5 X ∧ Below w.heap.size W5 X ∧ KeepsFrom wq.heap.size W5 X ∧ W5.heap.size ≤ X.heap.size ∧ Marks w.heap.size wq.heap.size X Ds) := by
              show ∀ X, _ → _
              intro X h
              rw [hJd] at h
              exact ⟨h.1, trivial, h.2.2⟩
            clear hJd hstep hLm
            gi_wp2
            refine wpIn_round_inv (BtS J g N m Bx cp dx1 dz1 (fun s0 s1 s2 s3 s4 s5 s6 s7 s8 s9 s10 s11 s13 s14 => #[slot tm 0, slot tm 1, slot tm 2, slot tm 3, slot tm 4, slot tm 5, Value.pointer (some ⟨T + 3, 0, none⟩), slot tm 7, slot tm 8, Value.pointer (some ⟨Bx, 0, none⟩), Value.int IntKind.i64 (N : Int), slot tm 11, slot tm 12, slot tm 13, slot tm 14, slot tm 15, slot tm 16, slot tm 17, slot tm 18, slot tm 19, slot tm 20, slot tm 21, slot tm 22, slot tm 23, slot tm 24, slot tm 25, slot tm 26, slot tm 27, slot tm 28, slot tm 29, slot tm 30, slot tm 31, slot tm 32, slot tm 33, slot tm 34, slot tm 35, slot tm 36, slot tm 37, slot tm 38, slot tm 39, slot tm 40, slot tm 41, slot tm 42, slot tm 43, slot tm 44, Value.slice (some ⟨g, 0, none⟩) N cp, Value.int IntKind.i64 (N : Int), Value.int IntKind.i64 (N : Int), Value.bool true, Value.bool true, Value.slice (some ⟨g, 0, none⟩) N cp, Value.int IntKind.i64 (N : Int), Value.int IntKind.i64 (m : Int), Value.pointer (some ⟨g, m * 6, none⟩), Value.pointer (some ⟨g, m * 6 + 4, none⟩), Value.int IntKind.i64 ex1, Value.pointer (some ⟨Bx, 2, none⟩), Value.int IntKind.i64 dx0, Value.bool true, Value.bool true, Value.bool true, Value.slice (some ⟨g, 0, none⟩) N cp, Value.int IntKind.i64 (N : Int), Value.int IntKind.i64 (m : Int), Value.pointer (some ⟨g, m * 6, none⟩), Value.pointer (some ⟨g, m * 6 + 5, none⟩), Value.int IntKind.i64 ez1, Value.pointer (some ⟨Bx, 3, none⟩), Value.int IntKind.i64 dz0, Value.bool true, Value.bool true, s0, s1, s2, s3, s4, s5, s6, s7, s8, s9, s10, s11, s13, s14, slot tm 85, slot tm 86, slot tm 87, slot tm 88, slot tm 89, slot tm 90]) []) hmo (by kernel_rfl) (by kernel_rfl) ?_ ?_ ?_
            · unfold BtS
              refine ⟨_, _, _, _, _, _, _, _, _, _, _, _, _, _, rfl, HJ0.out, (fun h => by cases (show false = true from h)), (fun h => by cases (show false = true from h)), (fun h => by cases (show false = true from h)), (fun h => by cases (show false = true from h)), (fun h => by cases (show false = true from h)), (fun h => by cases (show false = true from h)), (fun h => by cases (show false = true from h)), (fun h => by cases (show false = true from h)), (fun h => by cases (show false = true from h)), (fun h => by cases (show false = true from h)), (fun h => by cases (show false = true from h)), (fun h => by cases (show false = true from h)), (fun h => by cases (show false = true from h)), (fun h => by cases (show false = true from h))⟩
            · intro L a wi2 i hs hI hi
              have hsN : L.size = 16 := hs
              have hn := ready_elim hi
              have hlt : i < 16 := by
                  obtain ⟨o, ho, _⟩ := hn.2
                  exact (Array.getElem?_eq_some_iff.1 ho).1
              have hi' := ready_not hi false (by rw [hs]; exact hlt)
              clear hn
              unfold BtS at hI
              obtain ⟨s0, s1, s2, s3, s4, s5, s6, s7, s8, s9, s10, s11, s13, s14, rfl, hJ, h0, h1, h2, h3, h4, h5, h6, h7, h8, h9, h10, h11, h13, h14⟩ := hI
              obtain ⟨cc, cd4, cd5, cx4, cx5, cf⟩ := HJr.out _ _ _ hJ
              rcases (by omega : i = 0 ∨ i = 1 ∨ i = 2 ∨ i = 3 ∨ i = 4 ∨ i = 5 ∨ i = 6 ∨ i = 7 ∨ i = 8 ∨ i = 9 ∨ i = 10 ∨ i = 11 ∨ i = 12 ∨ i = 13 ∨ i = 14 ∨ i = 15) with rfl | rfl | rfl | rfl | rfl | rfl | rfl | rfl | rfl | rfl | rfl | rfl | rfl | rfl | rfl | rfl
              · skip
                refine wpOpIn_of rfl rfl (by intro c hc'; cases hc') ?_
                go_simp
                unfold BtS
                exact ⟨_, _, _, _, _, _, _, _, _, _, _, _, _, _, rfl, (by rw [getD_set_ne (by decide), getD_set_ne (by decide)]; exact hJ), (fun _ => rfl), (fun h => h1 (by rwa [getD_set_ne (by decide)] at h)), (fun h => h2 (by rwa [getD_set_ne (by decide)] at h)), (fun h => h3 (by rwa [getD_set_ne (by decide)] at h)), (fun h => h4 (by rwa [getD_set_ne (by decide)] at h)), (fun h => h5 (by rwa [getD_set_ne (by decide)] at h)), (fun h => h6 (by rwa [getD_set_ne (by decide)] at h)), (fun h => h7 (by rwa [getD_set_ne (by decide)] at h)), (fun h => h8 (by rwa [getD_set_ne (by decide)] at h)), (fun h => h9 (by rwa [getD_set_ne (by decide)] at h)), (fun h => h10 (by rwa [getD_set_ne (by decide)] at h)), (fun h => h11 (by rwa [getD_set_ne (by decide)] at h)), (fun h => h13 (by rwa [getD_set_ne (by decide)] at h)), (fun h => h14 (by rwa [getD_set_ne (by decide)] at h))⟩
              · skip
                refine wpOpIn_of rfl rfl (by intro c hc'; cases hc') ?_
                go_simp
                unfold BtS
                exact ⟨_, _, _, _, _, _, _, _, _, _, _, _, _, _, rfl, (by rw [getD_set_ne (by decide), getD_set_ne (by decide)]; exact hJ), (fun h => h0 (by rwa [getD_set_ne (by decide)] at h)), (fun _ => rfl), (fun h => h2 (by rwa [getD_set_ne (by decide)] at h)), (fun h => h3 (by rwa [getD_set_ne (by decide)] at h)), (fun h => h4 (by rwa [getD_set_ne (by decide)] at h)), (fun h => h5 (by rwa [getD_set_ne (by decide)] at h)), (fun h => h6 (by rwa [getD_set_ne (by decide)] at h)), (fun h => h7 (by rwa [getD_set_ne (by decide)] at h)), (fun h => h8 (by rwa [getD_set_ne (by decide)] at h)), (fun h => h9 (by rwa [getD_set_ne (by decide)] at h)), (fun h => h10 (by rwa [getD_set_ne (by decide)] at h)), (fun h => h11 (by rwa [getD_set_ne (by decide)] at h)), (fun h => h13 (by rwa [getD_set_ne (by decide)] at h)), (fun h => h14 (by rwa [getD_set_ne (by decide)] at h))⟩
              · skip
                have e1 := h1 (ready_dep hi (by kernel_rfl))
                subst e1
                refine wpOpIn_of rfl rfl (by intro c hc'; cases hc') ?_
                go_simp
                unfold BtS
                exact ⟨_, _, _, _, _, _, _, _, _, _, _, _, _, _, rfl, (by rw [getD_set_ne (by decide), getD_set_ne (by decide)]; exact hJ), (fun h => h0 (by rwa [getD_set_ne (by decide)] at h)), (fun h => h1 (by rwa [getD_set_ne (by decide)] at h)), (fun _ => rfl), (fun h => h3 (by rwa [getD_set_ne (by decide)] at h)), (fun h => h4 (by rwa [getD_set_ne (by decide)] at h)), (fun h => h5 (by rwa [getD_set_ne (by decide)] at h)), (fun h => h6 (by rwa [getD_set_ne (by decide)] at h)), (fun h => h7 (by rwa [getD_set_ne (by decide)] at h)), (fun h => h8 (by rwa [getD_set_ne (by decide)] at h)), (fun h => h9 (by rwa [getD_set_ne (by decide)] at h)), (fun h => h10 (by rwa [getD_set_ne (by decide)] at h)), (fun h => h11 (by rwa [getD_set_ne (by decide)] at h)), (fun h => h13 (by rwa [getD_set_ne (by decide)] at h)), (fun h => h14 (by rwa [getD_set_ne (by decide)] at h))⟩
              · skip
                refine wpOpIn_of rfl rfl (by intro c hc'; cases hc') ?_
                go_simp
                unfold BtS
                exact ⟨_, _, _, _, _, _, _, _, _, _, _, _, _, _, rfl, (by rw [getD_set_ne (by decide), getD_set_ne (by decide)]; exact hJ), (fun h => h0 (by rwa [getD_set_ne (by decide)] at h)), (fun h => h1 (by rwa [getD_set_ne (by decide)] at h)), (fun h => h2 (by rwa [getD_set_ne (by decide)] at h)), (fun _ => rfl), (fun h => h4 (by rwa [getD_set_ne (by decide)] at h)), (fun h => h5 (by rwa [getD_set_ne (by decide)] at h)), (fun h => h6 (by rwa [getD_set_ne (by decide)] at h)), (fun h => h7 (by rwa [getD_set_ne (by decide)] at h)), (fun h => h8 (by rwa [getD_set_ne (by decide)] at h)), (fun h => h9 (by rwa [getD_set_ne (by decide)] at h)), (fun h => h10 (by rwa [getD_set_ne (by decide)] at h)), (fun h => h11 (by rwa [getD_set_ne (by decide)] at h)), (fun h => h13 (by rwa [getD_set_ne (by decide)] at h)), (fun h => h14 (by rwa [getD_set_ne (by decide)] at h))⟩
              · skip
                refine wpOpIn_of rfl rfl (by intro c hc'; cases hc') ?_
                go_simp
                unfold BtS
                exact ⟨_, _, _, _, _, _, _, _, _, _, _, _, _, _, rfl, (by rw [getD_set_ne (by decide), getD_set_ne (by decide)]; exact hJ), (fun h => h0 (by rwa [getD_set_ne (by decide)] at h)), (fun h => h1 (by rwa [getD_set_ne (by decide)] at h)), (fun h => h2 (by rwa [getD_set_ne (by decide)] at h)), (fun h => h3 (by rwa [getD_set_ne (by decide)] at h)), (fun _ => rfl), (fun h => h5 (by rwa [getD_set_ne (by decide)] at h)), (fun h => h6 (by rwa [getD_set_ne (by decide)] at h)), (fun h => h7 (by rwa [getD_set_ne (by decide)] at h)), (fun h => h8 (by rwa [getD_set_ne (by decide)] at h)), (fun h => h9 (by rwa [getD_set_ne (by decide)] at h)), (fun h => h10 (by rwa [getD_set_ne (by decide)] at h)), (fun h => h11 (by rwa [getD_set_ne (by decide)] at h)), (fun h => h13 (by rwa [getD_set_ne (by decide)] at h)), (fun h => h14 (by rwa [getD_set_ne (by decide)] at h))⟩
              · skip
                have e4 := h4 (ready_dep hi (by kernel_rfl))
                subst e4
                refine wpOpIn_of rfl rfl (by intro c hc'; cases hc') ?_
                go_simp
                unfold BtS
                exact ⟨_, _, _, _, _, _, _, _, _, _, _, _, _, _, rfl, (by rw [getD_set_ne (by decide), getD_set_ne (by decide)]; exact hJ), (fun h => h0 (by rwa [getD_set_ne (by decide)] at h)), (fun h => h1 (by rwa [getD_set_ne (by decide)] at h)), (fun h => h2 (by rwa [getD_set_ne (by decide)] at h)), (fun h => h3 (by rwa [getD_set_ne (by decide)] at h)), (fun h => h4 (by rwa [getD_set_ne (by decide)] at h)), (fun _ => rfl), (fun h => h6 (by rwa [getD_set_ne (by decide)] at h)), (fun h => h7 (by rwa [getD_set_ne (by decide)] at h)), (fun h => h8 (by rwa [getD_set_ne (by decide)] at h)), (fun h => h9 (by rwa [getD_set_ne (by decide)] at h)), (fun h => h10 (by rwa [getD_set_ne (by decide)] at h)), (fun h => h11 (by rwa [getD_set_ne (by decide)] at h)), (fun h => h13 (by rwa [getD_set_ne (by decide)] at h)), (fun h => h14 (by rwa [getD_set_ne (by decide)] at h))⟩
              · skip
                refine wpOpIn_of rfl rfl (by intro c hc'; cases hc') ?_
                go_simp
                unfold BtS
                exact ⟨_, _, _, _, _, _, _, _, _, _, _, _, _, _, rfl, (by rw [getD_set_ne (by decide), getD_set_ne (by decide)]; exact hJ), (fun h => h0 (by rwa [getD_set_ne (by decide)] at h)), (fun h => h1 (by rwa [getD_set_ne (by decide)] at h)), (fun h => h2 (by rwa [getD_set_ne (by decide)] at h)), (fun h => h3 (by rwa [getD_set_ne (by decide)] at h)), (fun h => h4 (by rwa [getD_set_ne (by decide)] at h)), (fun h => h5 (by rwa [getD_set_ne (by decide)] at h)), (fun _ => rfl), (fun h => h7 (by rwa [getD_set_ne (by decide)] at h)), (fun h => h8 (by rwa [getD_set_ne (by decide)] at h)), (fun h => h9 (by rwa [getD_set_ne (by decide)] at h)), (fun h => h10 (by rwa [getD_set_ne (by decide)] at h)), (fun h => h11 (by rwa [getD_set_ne (by decide)] at h)), (fun h => h13 (by rwa [getD_set_ne (by decide)] at h)), (fun h => h14 (by rwa [getD_set_ne (by decide)] at h))⟩
              · skip
                have e6 := h6 (ready_dep hi (by kernel_rfl))
                subst e6
                refine wpOpIn_of rfl rfl (by intro c hc'; cases hc') ?_
                go_simp
                unfold BtS
                exact ⟨_, _, _, _, _, _, _, _, _, _, _, _, _, _, rfl, (by rw [getD_set_ne (by decide), getD_set_ne (by decide)]; exact hJ), (fun h => h0 (by rwa [getD_set_ne (by decide)] at h)), (fun h => h1 (by rwa [getD_set_ne (by decide)] at h)), (fun h => h2 (by rwa [getD_set_ne (by decide)] at h)), (fun h => h3 (by rwa [getD_set_ne (by decide)] at h)), (fun h => h4 (by rwa [getD_set_ne (by decide)] at h)), (fun h => h5 (by rwa [getD_set_ne (by decide)] at h)), (fun h => h6 (by rwa [getD_set_ne (by decide)] at h)), (fun _ => rfl), (fun h => h8 (by rwa [getD_set_ne (by decide)] at h)), (fun h => h9 (by rwa [getD_set_ne (by decide)] at h)), (fun h => h10 (by rwa [getD_set_ne (by decide)] at h)), (fun h => h11 (by rwa [getD_set_ne (by decide)] at h)), (fun h => h13 (by rwa [getD_set_ne (by decide)] at h)), (fun h => h14 (by rwa [getD_set_ne (by decide)] at h))⟩
              · skip
                refine wpOpIn_of rfl rfl (by intro c hc'; cases hc') ?_
                go_simp
                unfold BtS
                exact ⟨_, _, _, _, _, _, _, _, _, _, _, _, _, _, rfl, (by rw [getD_set_ne (by decide), getD_set_ne (by decide)]; exact hJ), (fun h => h0 (by rwa [getD_set_ne (by decide)] at h)), (fun h => h1 (by rwa [getD_set_ne (by decide)] at h)), (fun h => h2 (by rwa [getD_set_ne (by decide)] at h)), (fun h => h3 (by rwa [getD_set_ne (by decide)] at h)), (fun h => h4 (by rwa [getD_set_ne (by decide)] at h)), (fun h => h5 (by rwa [getD_set_ne (by decide)] at h)), (fun h => h6 (by rwa [getD_set_ne (by decide)] at h)), (fun h => h7 (by rwa [getD_set_ne (by decide)] at h)), (fun _ => rfl), (fun h => h9 (by rwa [getD_set_ne (by decide)] at h)), (fun h => h10 (by rwa [getD_set_ne (by decide)] at h)), (fun h => h11 (by rwa [getD_set_ne (by decide)] at h)), (fun h => h13 (by rwa [getD_set_ne (by decide)] at h)), (fun h => h14 (by rwa [getD_set_ne (by decide)] at h))⟩
              · skip
                have e8 := h8 (ready_dep hi (by kernel_rfl))
                subst e8
                refine wpOpIn_of rfl rfl (by intro c hc'; cases hc') ?_
                go_simp
                unfold BtS
                exact ⟨_, _, _, _, _, _, _, _, _, _, _, _, _, _, rfl, (by rw [getD_set_ne (by decide), getD_set_ne (by decide)]; exact hJ), (fun h => h0 (by rwa [getD_set_ne (by decide)] at h)), (fun h => h1 (by rwa [getD_set_ne (by decide)] at h)), (fun h => h2 (by rwa [getD_set_ne (by decide)] at h)), (fun h => h3 (by rwa [getD_set_ne (by decide)] at h)), (fun h => h4 (by rwa [getD_set_ne (by decide)] at h)), (fun h => h5 (by rwa [getD_set_ne (by decide)] at h)), (fun h => h6 (by rwa [getD_set_ne (by decide)] at h)), (fun h => h7 (by rwa [getD_set_ne (by decide)] at h)), (fun h => h8 (by rwa [getD_set_ne (by decide)] at h)), (fun _ => rfl), (fun h => h10 (by rwa [getD_set_ne (by decide)] at h)), (fun h => h11 (by rwa [getD_set_ne (by decide)] at h)), (fun h => h13 (by rwa [getD_set_ne (by decide)] at h)), (fun h => h14 (by rwa [getD_set_ne (by decide)] at h))⟩
              · skip
                have e0 := h0 (ready_dep hi (by kernel_rfl))
                subst e0
                have e2 := h2 (ready_dep hi (by kernel_rfl))
                subst e2
                refine wpOpIn_of rfl rfl (by intro c hc'; cases hc') ?_
                go_simp
                unfold BtS
                exact ⟨_, _, _, _, _, _, _, _, _, _, _, _, _, _, rfl, (by rw [getD_set_ne (by decide), getD_set_ne (by decide)]; exact hJ), (fun h => h0 (by rwa [getD_set_ne (by decide)] at h)), (fun h => h1 (by rwa [getD_set_ne (by decide)] at h)), (fun h => h2 (by rwa [getD_set_ne (by decide)] at h)), (fun h => h3 (by rwa [getD_set_ne (by decide)] at h)), (fun h => h4 (by rwa [getD_set_ne (by decide)] at h)), (fun h => h5 (by rwa [getD_set_ne (by decide)] at h)), (fun h => h6 (by rwa [getD_set_ne (by decide)] at h)), (fun h => h7 (by rwa [getD_set_ne (by decide)] at h)), (fun h => h8 (by rwa [getD_set_ne (by decide)] at h)), (fun h => h9 (by rwa [getD_set_ne (by decide)] at h)), (fun _ => rfl), (fun h => h11 (by rwa [getD_set_ne (by decide)] at h)), (fun h => h13 (by rwa [getD_set_ne (by decide)] at h)), (fun h => h14 (by rwa [getD_set_ne (by decide)] at h))⟩
              · skip
                have e10 := h10 (ready_dep hi (by kernel_rfl))
                subst e10
                refine wpOpIn_of rfl rfl (by intro c hc'; cases hc') ?_
                go_simp
                unfold BtS
                exact ⟨_, _, _, _, _, _, _, _, _, _, _, _, _, _, rfl, (by rw [getD_set_ne (by decide), getD_set_ne (by decide)]; exact hJ), (fun h => h0 (by rwa [getD_set_ne (by decide)] at h)), (fun h => h1 (by rwa [getD_set_ne (by decide)] at h)), (fun h => h2 (by rwa [getD_set_ne (by decide)] at h)), (fun h => h3 (by rwa [getD_set_ne (by decide)] at h)), (fun h => h4 (by rwa [getD_set_ne (by decide)] at h)), (fun h => h5 (by rwa [getD_set_ne (by decide)] at h)), (fun h => h6 (by rwa [getD_set_ne (by decide)] at h)), (fun h => h7 (by rwa [getD_set_ne (by decide)] at h)), (fun h => h8 (by rwa [getD_set_ne (by decide)] at h)), (fun h => h9 (by rwa [getD_set_ne (by decide)] at h)), (fun h => h10 (by rwa [getD_set_ne (by decide)] at h)), (fun _ => rfl), (fun h => h13 (by rwa [getD_set_ne (by decide)] at h)), (fun h => h14 (by rwa [getD_set_ne (by decide)] at h))⟩
              · skip
                have e11 := h11 (ready_dep hi (by kernel_rfl))
                subst e11
                have e7 := h7 (ready_dep hi (by kernel_rfl))
                subst e7
                rw [hi'] at hJ
                refine wpOpIn_of rfl rfl (by intro c hc'; cases hc') ?_
                go_simp
                unfold BtS
                exact ⟨_, _, _, _, _, _, _, _, _, _, _, _, _, _, rfl, (by rw [getD_set_eq (by omega), getD_set_ne (by decide)]; exact HJa.out _ _ hJ), (fun h => h0 (by rwa [getD_set_ne (by decide)] at h)), (fun h => h1 (by rwa [getD_set_ne (by decide)] at h)), (fun h => h2 (by rwa [getD_set_ne (by decide)] at h)), (fun h => h3 (by rwa [getD_set_ne (by decide)] at h)), (fun h => h4 (by rwa [getD_set_ne (by decide)] at h)), (fun h => h5 (by rwa [getD_set_ne (by decide)] at h)), (fun h => h6 (by rwa [getD_set_ne (by decide)] at h)), (fun h => h7 (by rwa [getD_set_ne (by decide)] at h)), (fun h => h8 (by rwa [getD_set_ne (by decide)] at h)), (fun h => h9 (by rwa [getD_set_ne (by decide)] at h)), (fun h => h10 (by rwa [getD_set_ne (by decide)] at h)), (fun h => h11 (by rwa [getD_set_ne (by decide)] at h)), (fun h => h13 (by rwa [getD_set_ne (by decide)] at h)), (fun h => h14 (by rwa [getD_set_ne (by decide)] at h))⟩
              · skip
                have e3 := h3 (ready_dep hi (by kernel_rfl))
                subst e3
                have e5 := h5 (ready_dep hi (by kernel_rfl))
                subst e5
                refine wpOpIn_of rfl rfl (by intro c hc'; cases hc') ?_
                go_simp
                unfold BtS
                exact ⟨_, _, _, _, _, _, _, _, _, _, _, _, _, _, rfl, (by rw [getD_set_ne (by decide), getD_set_ne (by decide)]; exact hJ), (fun h => h0 (by rwa [getD_set_ne (by decide)] at h)), (fun h => h1 (by rwa [getD_set_ne (by decide)] at h)), (fun h => h2 (by rwa [getD_set_ne (by decide)] at h)), (fun h => h3 (by rwa [getD_set_ne (by decide)] at h)), (fun h => h4 (by rwa [getD_set_ne (by decide)] at h)), (fun h => h5 (by rwa [getD_set_ne (by decide)] at h)), (fun h => h6 (by rwa [getD_set_ne (by decide)] at h)), (fun h => h7 (by rwa [getD_set_ne (by decide)] at h)), (fun h => h8 (by rwa [getD_set_ne (by decide)] at h)), (fun h => h9 (by rwa [getD_set_ne (by decide)] at h)), (fun h => h10 (by rwa [getD_set_ne (by decide)] at h)), (fun h => h11 (by rwa [getD_set_ne (by decide)] at h)), (fun _ => rfl), (fun h => h14 (by rwa [getD_set_ne (by decide)] at h))⟩
              · skip
                have e13 := h13 (ready_dep hi (by kernel_rfl))
                subst e13
                refine wpOpIn_of rfl rfl (by intro c hc'; cases hc') ?_
                go_simp
                unfold BtS
                exact ⟨_, _, _, _, _, _, _, _, _, _, _, _, _, _, rfl, (by rw [getD_set_ne (by decide), getD_set_ne (by decide)]; exact hJ), (fun h => h0 (by rwa [getD_set_ne (by decide)] at h)), (fun h => h1 (by rwa [getD_set_ne (by decide)] at h)), (fun h => h2 (by rwa [getD_set_ne (by decide)] at h)), (fun h => h3 (by rwa [getD_set_ne (by decide)] at h)), (fun h => h4 (by rwa [getD_set_ne (by decide)] at h)), (fun h => h5 (by rwa [getD_set_ne (by decide)] at h)), (fun h => h6 (by rwa [getD_set_ne (by decide)] at h)), (fun h => h7 (by rwa [getD_set_ne (by decide)] at h)), (fun h => h8 (by rwa [getD_set_ne (by decide)] at h)), (fun h => h9 (by rwa [getD_set_ne (by decide)] at h)), (fun h => h10 (by rwa [getD_set_ne (by decide)] at h)), (fun h => h11 (by rwa [getD_set_ne (by decide)] at h)), (fun h => h13 (by rwa [getD_set_ne (by decide)] at h)), (fun _ => rfl)⟩
              · skip
                have e14 := h14 (ready_dep hi (by kernel_rfl))
                subst e14
                have e9 := h9 (ready_dep hi (by kernel_rfl))
                subst e9
                rw [hi'] at hJ
                refine wpOpIn_of rfl rfl (by intro c hc'; cases hc') ?_
                go_simp
                unfold BtS
                exact ⟨_, _, _, _, _, _, _, _, _, _, _, _, _, _, rfl, (by rw [getD_set_ne (by decide), getD_set_eq (by omega)]; exact HJb.out _ _ hJ), (fun h => h0 (by rwa [getD_set_ne (by decide)] at h)), (fun h => h1 (by rwa [getD_set_ne (by decide)] at h)), (fun h => h2 (by rwa [getD_set_ne (by decide)] at h)), (fun h => h3 (by rwa [getD_set_ne (by decide)] at h)), (fun h => h4 (by rwa [getD_set_ne (by decide)] at h)), (fun h => h5 (by rwa [getD_set_ne (by decide)] at h)), (fun h => h6 (by rwa [getD_set_ne (by decide)] at h)), (fun h => h7 (by rwa [getD_set_ne (by decide)] at h)), (fun h => h8 (by rwa [getD_set_ne (by decide)] at h)), (fun h => h9 (by rwa [getD_set_ne (by decide)] at h)), (fun h => h10 (by rwa [getD_set_ne (by decide)] at h)), (fun h => h11 (by rwa [getD_set_ne (by decide)] at h)), (fun h => h13 (by rwa [getD_set_ne (by decide)] at h)), (fun h => h14 (by rwa [getD_set_ne (by decide)] at h))⟩
            · intro L a wi2 hI hall
              unfold BtS at hI
              obtain ⟨s0, s1, s2, s3, s4, s5, s6, s7, s8, s9, s10, s11, s13, s14, rfl, hJ, h0, h1, h2, h3, h4, h5, h6, h7, h8, h9, h10, h11, h13, h14⟩ := hI
              have e0 := h0 (hall 0 (by decide))
              subst e0
              have e1 := h1 (hall 1 (by decide))
              subst e1
              have e2 := h2 (hall 2 (by decide))
              subst e2
              have e3 := h3 (hall 3 (by decide))
              subst e3
              have e4 := h4 (hall 4 (by decide))
              subst e4
              have e5 := h5 (hall 5 (by decide))
              subst e5
              have e6 := h6 (hall 6 (by decide))
              subst e6
              have e7 := h7 (hall 7 (by decide))
              subst e7
              have e8 := h8 (hall 8 (by decide))
              subst e8
              have e9 := h9 (hall 9 (by decide))
              subst e9
              have e10 := h10 (hall 10 (by decide))
              subst e10
              have e11 := h11 (hall 11 (by decide))
              subst e11
              have e13 := h13 (hall 13 (by decide))
              subst e13
              have e14 := h14 (hall 14 (by decide))
              subst e14
              rw [hall 12 (by decide), hall 15 (by decide)] at hJ
              clear hall h0 h1 h2 h3 h4 h5 h6 h7 h8 h9 h10 h11 h13 h14
              obtain ⟨jv, jd, jo, jk, jb, jf, js, jm⟩ := HJe.out _ hJ
              clear hJ HJr HJa HJb HJ0 HJe
              gi_wp2
              refine ⟨KF5.trans jf, KE5.trans jk, ⟨⟨_, jv, ?_, trivial⟩, hke5.trans jk, hB5.trans jb, Nat.le_trans hsq5 js, jm⟩⟩
              rw [HFold.out, HRes.out, List.set_set, ← HM.out, List.length_set, ← HN.out]
              exact jo.2
        case done =>
          rintro D ys W hD hys ⟨⟨v3, hv3, hrow3, _⟩, hke3, hB3, hsW3, hMk3⟩ hK
          have hMk4 : Marks w.heap.size W.heap.size W (D :: Ds) := hMk3.cons (by have := hBr.size; omega) (by omega) (Array.getElem?_eq_some_iff.1 hK).1 hK
          have hfin := HSeg.out ys hys
          gi_wp2
          refine ⟨⟨_, D :: Ds, ?_, rfl⟩, ?_⟩
          · exact ⟨k + 1, ys.foldl addD l0, ⟨rfl, rfl, rfl, rfl, by go_num⟩, by omega, hfin, ⟨v3, hv3, hrow3, trivial⟩, hke3, hB3, hMk4⟩
          · simp [intOf, slot]; omega
        case stop =>
          rintro D c pre W _ _ h _
          exact h.elim
      · obtain rfl : k = 4 := by omega
        have hltI : ¬ ((4 : Nat) : Int) < 4 := by omega
        obtain ⟨ad, cp, rfl, _⟩ := OwnR.reads drC_len ⟨rfl, hrow⟩
        have hc := hv.cell
        have hf := hv.frozen
        have hv9 := hv.set (.slice ad l0.length cp)
        have hr9 := hrow.kept (grownBy_setCell' wq (T + 3) (.slice ad l0.length cp)) (.inr (hv.not_row (by decide) hrow).symm)
        have hB9 := hBr.setCell (p := ⟨T + 3, 0, none⟩) hT1 (.slice ad l0.length cp)
        have hM9 := hMk.setCell (p := ⟨T + 3, 0, none⟩) (fun o ho => by have h2 : wq.heap[T + 3]? = some o := ho; have h3 : wq.heap[T + 3]? = _ := hv; rw [h3] at h2; cases h2; rfl) (.slice ad l0.length cp)
        have HlE := Lib.hid (Hl0.out.trans HEnd.out)
        gi_wp2
        refine leaves_marks (B := wq.heap.size) (fun W => Boxed W (T + 3) 36 (.slice ad l0.length cp) ∧ W.ownsRow wi.heap.size 110 6 (.slice ad l0.length cp) l0.length (l0.flatMap drC) ∧ Below w.heap.size w W) (by simp) (fun W D hj hD hd => ⟨((grownBy_putObj' W D _).block _ (Array.getElem?_eq_some_iff.1 hj.1).1 (fun e => by cases e; have h3 : W.heap[T + 3]? = _ := hj.1; rw [h3] at hd; cases hd)).trans hj.1, hj.2.1.kept (grownBy_putObj' W D _) (.inr (ownsRow_ne_of hj.2.1 hd rfl)), hj.2.2.grown (grownBy_putObj' W D _) hj.2.2.size (fun k ek => by cases ek; exact hD)⟩) Ds _ hM9 ⟨hv9, hr9, hB9⟩ (fun W' hj => ?_)
        refine ⟨.slice ad l0.length cp, results_c1s rfl _ _ (T + 3) _ rfl hj.1.cell Tryz.underlying36, _, rfl, ?_, hj.2.2⟩
        rw [← HlE.out]
        exact OwnR.mono ⟨rfl, hj.2.1⟩ (by omega)
end Go.Proofs.YtmgkkmcihplojaaGreat
