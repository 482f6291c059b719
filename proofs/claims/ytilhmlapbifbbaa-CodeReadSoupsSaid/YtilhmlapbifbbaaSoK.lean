/- Walks: may a soup be? -/
import Derived.Test.YtilhmlapbifbbaaSoB3
import Derived.Test.YtilhmlapbifbbaaSoH3
import Derived.Deep.RegionHeld3
namespace Go.Proofs.Ytilhmlapbifbbaa
open Go.RowKit Go.Sort

/-- A slice's head. -/
structure SHead where
  a : Option Addr
  n : Nat
  c : Nat
def SHead.v (s : SHead) : Value := .slice s.a s.n s.c
/-- A soup, plain. -/
structure Sou where
  t : List Tri3
  b : List Bx
  h : List Hp
deriving DecidableEq
structure SoupAt (w : World) (p q r : SHead) (s : Sou) : Prop where
  t : SlR triC 10 w p.a p.n p.c s.t
  b : SlR bxC 8 w q.a q.n q.c s.b
  h : SlR hpC 10 w r.a r.n r.c s.h
theorem SoupAt.below {w w' : World} {p q r : SHead} {s : Sou} (h : SoupAt w p q r s) (hb : Below w.heap.size w w') : SoupAt w' p q r s := ⟨h.t.below hb (Nat.le_refl _), h.b.below hb (Nat.le_refl _), h.h.below hb (Nat.le_refl _)⟩
def soupV (p q r : SHead) : Value := .agg #[p.v, q.v, r.v]
def trisOk (c : Cfg) (l : List Tri3) : Bool := decide (l.length ≤ 200) && rowOk Tri3.id (triOk c.w c.d) 0 l
def boxesOk (c : Cfg) (l : List Bx) : Bool := decide (l.length ≤ 16) && rowOk Bx.id (bxOk c.w c.d) 0 l
def hopsOk (c : Cfg) (l : List Hp) : Bool := decide (l.length ≤ 16) && rowOk Hp.id (hpOk c.w c.d) 0 l
def soupE (c : Cfg) (s : Sou) : Int := if cfgOk c then (if trisOk c s.t && boxesOk c s.b && hopsOk c s.h then 0 else 2) else 20
theorem cfgOk_side {c : Cfg} (h : cfgOk c = true) : (0 ≤ c.w ∧ c.w ≤ 32) ∧ (0 ≤ c.d ∧ c.d ≤ 32) := by
  unfold cfgOk at h
  have := of_decide_eq_true h
  omega
theorem below_step {w0 W W2 : World} (h : Below w0.heap.size w0 W) (h2 : Below W.heap.size W W2) : Below w0.heap.size w0 W2 := h.trans (h2.mono h.size)

theorem below_step2 {w w1 W : World} (h : Below w.heap.size w w1) (h2 : Below w1.heap.size w1 W) : Below w.heap.size w W := below_step h h2

set_option maxRecDepth 100000 in
set_option maxHeartbeats 4000000 in
theorem soupcheck_any (c : Cfg) (p q r : SHead) (s : Sou) (w : World) (hs : SoupAt w p q r s) :
    Calls Try.prog 78 #[cfgV c, soupV p q r] w fun e w' => e = .returned (.int .i64 (soupE c s)) ∧ Below w.heap.size w w' := by
  obtain ⟨pa, pn, pc⟩ := p
  obtain ⟨qa, qn, qc⟩ := q
  obtain ⟨ra, rn, rc⟩ := r
  obtain ⟨E, hE⟩ : ∃ E, E = soupE c s := ⟨_, rfl⟩
  rw [← hE]
  have HE0 := Lib.hid hE
  clear hE
  have Hs := Lib.hid hs
  have Hc := Lib.hid (fun w' : World => cfgcheck_any c w')
  have lt := Lib.hid hs.t.len
  have lb := Lib.hid hs.b.len
  have lh := Lib.hid hs.h.len
  clear hs
  unfold soupV SHead.v cfgV
  go_enter Try.func78, Try.ntmps78
  go_wp2_with fail
  refine (Hc.out _).mono ?_
  rintro e w1 ⟨rfl, hb1⟩
  have hb1s := hb1.size
  simp only [World.size_alloc] at hb1s
  have hA : w1.heap[w.heap.size]? = some (.cells #[.int .i64 c.clear, .int .i64 c.climb, .int .i64 c.height, .int .i64 c.rise, .int .i64 c.run, .int .i64 c.w, .int .i64 c.d] 32 (0, 0)) :=
    (hb1.block w.heap.size (by simp; omega)).trans ((Below.heap_alloc _ _ w.heap.size (by simp)).trans (World.alloc_heap_new _ _))
  have hB : w1.heap[w.heap.size + 1]? = some (.cells #[.slice pa pn pc, .slice qa qn qc, .slice ra rn rc] 71 (0, 0)) := by
    refine (hb1.block (w.heap.size + 1) (by simp)).trans ?_
    simpa only [World.size_alloc] using World.alloc_heap_new (w.alloc (.cells #[.int .i64 c.clear, .int .i64 c.climb, .int .i64 c.height, .int .i64 c.rise, .int .i64 c.run, .int .i64 c.w, .int .i64 c.d] 32)) (.cells #[.slice pa pn pc, .slice qa qn qc, .slice ra rn rc] 71)
  have hbw : Below w.heap.size w w1 := (by (repeat (first | exact Below.refl _ _ | refine Below.alloc ?_ (by simp; try omega) _)) : Below w.heap.size w _).trans (hb1.mono (by simp; omega))
  clear hb1
  have HA := Lib.hid (fun (W : World) (hW : Below w1.heap.size w1 W) => (hW.block w.heap.size (by omega)).trans hA)
  have HB := Lib.hid (fun (W : World) (hW : Below w1.heap.size w1 W) => (hW.block (w.heap.size + 1) (by omega)).trans hB)
  have Hbw := Lib.hid hbw
  have HS := Lib.hid (fun (W : World) (hW : Below w1.heap.size w1 W) => (Hs.out.below (below_step hbw hW)))
  clear hA hB hbw hb1s
  cases hok : cfgOk c with
  | false =>
    have HE : Hid (E = 20) := by show _ = _; rw [HE0.out, soupE, hok]; rfl
    rw [show cfgE c = 20 by rw [cfgE, hok]; rfl]
    clear hok HE0
    go_wp2
    go_ret
    exact ⟨ret_int HE.out.symm, Hbw.out⟩
  | true =>
    have HE : Hid (E = if trisOk c s.t && boxesOk c s.b && hopsOk c s.h then 0 else 2) := by show _ = _; rw [HE0.out, soupE, hok]; rfl
    have Hside := Lib.hid (cfgOk_side hok)
    rw [show cfgE c = 0 by rw [cfgE, hok]; rfl]
    clear hok HE0
    obtain ⟨T1, hT1⟩ : ∃ T, T = trisOk c s.t := ⟨_, rfl⟩
    obtain ⟨T2, hT2⟩ : ∃ T, T = boxesOk c s.b := ⟨_, rfl⟩
    obtain ⟨T3, hT3⟩ : ∃ T, T = hopsOk c s.h := ⟨_, rfl⟩
    rw [← hT1, ← hT2, ← hT3] at HE
    have C1 := Lib.hid (fun (W : World) (hW : Below w1.heap.size w1 W) (Bw Bd : Nat) h1 h2 => by
      have := check_tri c.w c.d pa pn pc s.t Bw Bd W (HS.out W hW).t h1 h2 Hside.out.1 Hside.out.2
      rwa [show (decide (pn ≤ 200) && rowOk Tri3.id (triOk c.w c.d) 0 s.t) = T1 by rw [hT1, trisOk, lt.out]] at this)
    have C2 := Lib.hid (fun (W : World) (hW : Below w1.heap.size w1 W) (Bc : Nat) h1 h2 => by
      have := check_bx c.w c.d qa qn qc s.b Bc W (HS.out W hW).b h1 h2
      rwa [show (decide (qn ≤ 16) && rowOk Bx.id (bxOk c.w c.d) 0 s.b) = T2 by rw [hT2, boxesOk, lb.out]] at this)
    have C3 := Lib.hid (fun (W : World) (hW : Below w1.heap.size w1 W) (Bc Bf : Nat) h1 h2 h3 => by
      have := check_hp c.w c.d ra rn rc s.h Bc Bf W (HS.out W hW).h h1 h2 h3
      rwa [show (decide (rn ≤ 16) && rowOk Hp.id (hpOk c.w c.d) 0 s.h) = T3 by rw [hT3, hopsOk, lh.out]] at this)
    have D1 := Lib.hid (fun w' : World => tris_any c.w c.d w')
    have D2 := Lib.hid (fun w' : World => boxes_any c w')
    have D3 := Lib.hid (fun w' : World => hops_any c w')
    clear hT1 hT2 hT3 lt lb lh HS
    go_wp2_with fail
    have KF := Lib.hid (fun (W : World) (hW : Below w1.heap.size w1 W) => (⟨cell_heap (HA.out W hW) rfl, cell_heap (HA.out W hW) rfl, cell_heap (HA.out W hW) rfl, cell_heap (HA.out W hW) rfl, cell_heap (HA.out W hW) rfl, cell_heap (HA.out W hW) rfl, cell_heap (HA.out W hW) rfl, cell_heap (HB.out W hW) rfl, hW⟩ :
      W.cell? ⟨w.heap.size, 0, none⟩ = some (.int .i64 c.clear) ∧ W.cell? ⟨w.heap.size, 1, none⟩ = some (.int .i64 c.climb) ∧ W.cell? ⟨w.heap.size, 2, none⟩ = some (.int .i64 c.height) ∧ W.cell? ⟨w.heap.size, 3, none⟩ = some (.int .i64 c.rise) ∧ W.cell? ⟨w.heap.size, 4, none⟩ = some (.int .i64 c.run) ∧ W.cell? ⟨w.heap.size, 5, none⟩ = some (.int .i64 c.w) ∧ W.cell? ⟨w.heap.size, 6, none⟩ = some (.int .i64 c.d) ∧ W.cell? ⟨w.heap.size + 1, 0, none⟩ = some (.slice pa pn pc) ∧ Below w1.heap.size w1 W))
    go_region_held3 (fun W => W.cell? ⟨w.heap.size, 0, none⟩ = some (.int .i64 c.clear) ∧ W.cell? ⟨w.heap.size, 1, none⟩ = some (.int .i64 c.climb) ∧ W.cell? ⟨w.heap.size, 2, none⟩ = some (.int .i64 c.height) ∧ W.cell? ⟨w.heap.size, 3, none⟩ = some (.int .i64 c.rise) ∧ W.cell? ⟨w.heap.size, 4, none⟩ = some (.int .i64 c.run) ∧ W.cell? ⟨w.heap.size, 5, none⟩ = some (.int .i64 c.w) ∧ W.cell? ⟨w.heap.size, 6, none⟩ = some (.int .i64 c.d) ∧ W.cell? ⟨w.heap.size + 1, 0, none⟩ = some (.slice pa pn pc) ∧ Below w1.heap.size w1 W)
      (first
        | exact KF.out _ (Below.refl _ _).drew
        | (go_split_ands; exact KF.out _ (below_step (by assumption) hb2)))
      (first
        | (go_at_call 107; refine (D1.out _).mono ?_; rintro e w2 ⟨rfl, hw2, hd2, hb2⟩)
        | (go_at_call 108; go_split_ands; refine (C1.out _ (by assumption) _ _ hw2 hd2).mono ?_; rintro e w2 ⟨rfl, hb2⟩))
    rename_i hH
    have hb3 := hH.2.2.2.2.2.2.2.2
    clear hH KF
    cases T1 with
    | false =>
      have HF : Hid (E = 2) := by show _ = _; rw [HE.out]; simp
      go_wp2
      go_ret
      exact ⟨ret_int HF.out.symm, below_step2 Hbw.out hb3⟩
    | true =>
      go_wp2_with fail
      have KF := Lib.hid (fun (W : World) (hW : Below w1.heap.size w1 W) => (⟨cell_heap (HA.out W hW) rfl, cell_heap (HA.out W hW) rfl, cell_heap (HA.out W hW) rfl, cell_heap (HA.out W hW) rfl, cell_heap (HA.out W hW) rfl, cell_heap (HA.out W hW) rfl, cell_heap (HA.out W hW) rfl, cell_heap (HB.out W hW) rfl, hW⟩ :
        W.cell? ⟨w.heap.size, 0, none⟩ = some (.int .i64 c.clear) ∧ W.cell? ⟨w.heap.size, 1, none⟩ = some (.int .i64 c.climb) ∧ W.cell? ⟨w.heap.size, 2, none⟩ = some (.int .i64 c.height) ∧ W.cell? ⟨w.heap.size, 3, none⟩ = some (.int .i64 c.rise) ∧ W.cell? ⟨w.heap.size, 4, none⟩ = some (.int .i64 c.run) ∧ W.cell? ⟨w.heap.size, 5, none⟩ = some (.int .i64 c.w) ∧ W.cell? ⟨w.heap.size, 6, none⟩ = some (.int .i64 c.d) ∧ W.cell? ⟨w.heap.size + 1, 1, none⟩ = some (.slice qa qn qc) ∧ Below w1.heap.size w1 W))
      go_region_held3 (fun W => W.cell? ⟨w.heap.size, 0, none⟩ = some (.int .i64 c.clear) ∧ W.cell? ⟨w.heap.size, 1, none⟩ = some (.int .i64 c.climb) ∧ W.cell? ⟨w.heap.size, 2, none⟩ = some (.int .i64 c.height) ∧ W.cell? ⟨w.heap.size, 3, none⟩ = some (.int .i64 c.rise) ∧ W.cell? ⟨w.heap.size, 4, none⟩ = some (.int .i64 c.run) ∧ W.cell? ⟨w.heap.size, 5, none⟩ = some (.int .i64 c.w) ∧ W.cell? ⟨w.heap.size, 6, none⟩ = some (.int .i64 c.d) ∧ W.cell? ⟨w.heap.size + 1, 1, none⟩ = some (.slice qa qn qc) ∧ Below w1.heap.size w1 W)
        (first
          | exact KF.out _ (hb3).drew
          | (go_split_ands; exact KF.out _ (below_step (by assumption) hb2)))
        (first
          | (go_at_call 109; refine (D2.out _).mono ?_; rintro e w2 ⟨rfl, hw2, hd2, hb2⟩)
          | (go_at_call 110; go_split_ands; refine (C2.out _ (by assumption) _ hw2 hd2).mono ?_; rintro e w2 ⟨rfl, hb2⟩))
      rename_i hH
      have hb4 := hH.2.2.2.2.2.2.2.2
      clear hH KF
      cases T2 with
      | false =>
        have HF : Hid (E = 2) := by show _ = _; rw [HE.out]; simp
        go_wp2
        go_ret
        exact ⟨ret_int HF.out.symm, below_step2 Hbw.out hb4⟩
      | true =>
        go_wp2_with fail
        have KF := Lib.hid (fun (W : World) (hW : Below w1.heap.size w1 W) => (⟨cell_heap (HA.out W hW) rfl, cell_heap (HA.out W hW) rfl, cell_heap (HA.out W hW) rfl, cell_heap (HA.out W hW) rfl, cell_heap (HA.out W hW) rfl, cell_heap (HA.out W hW) rfl, cell_heap (HA.out W hW) rfl, cell_heap (HB.out W hW) rfl, hW⟩ :
          W.cell? ⟨w.heap.size, 0, none⟩ = some (.int .i64 c.clear) ∧ W.cell? ⟨w.heap.size, 1, none⟩ = some (.int .i64 c.climb) ∧ W.cell? ⟨w.heap.size, 2, none⟩ = some (.int .i64 c.height) ∧ W.cell? ⟨w.heap.size, 3, none⟩ = some (.int .i64 c.rise) ∧ W.cell? ⟨w.heap.size, 4, none⟩ = some (.int .i64 c.run) ∧ W.cell? ⟨w.heap.size, 5, none⟩ = some (.int .i64 c.w) ∧ W.cell? ⟨w.heap.size, 6, none⟩ = some (.int .i64 c.d) ∧ W.cell? ⟨w.heap.size + 1, 2, none⟩ = some (.slice ra rn rc) ∧ Below w1.heap.size w1 W))
        go_region_held3 (fun W => W.cell? ⟨w.heap.size, 0, none⟩ = some (.int .i64 c.clear) ∧ W.cell? ⟨w.heap.size, 1, none⟩ = some (.int .i64 c.climb) ∧ W.cell? ⟨w.heap.size, 2, none⟩ = some (.int .i64 c.height) ∧ W.cell? ⟨w.heap.size, 3, none⟩ = some (.int .i64 c.rise) ∧ W.cell? ⟨w.heap.size, 4, none⟩ = some (.int .i64 c.run) ∧ W.cell? ⟨w.heap.size, 5, none⟩ = some (.int .i64 c.w) ∧ W.cell? ⟨w.heap.size, 6, none⟩ = some (.int .i64 c.d) ∧ W.cell? ⟨w.heap.size + 1, 2, none⟩ = some (.slice ra rn rc) ∧ Below w1.heap.size w1 W)
          (first
            | exact KF.out _ (hb4).drew
            | (go_split_ands; exact KF.out _ (below_step (by assumption) hb2)))
          (first
            | (go_at_call 111; refine (D3.out _).mono ?_; rintro e w2 ⟨rfl, hw2, hd2, hf2, hb2⟩)
            | (go_at_call 112; go_split_ands; refine (C3.out _ (by assumption) _ _ hw2 hd2 hf2).mono ?_; rintro e w2 ⟨rfl, hb2⟩))
        rename_i hH
        have hb5 := hH.2.2.2.2.2.2.2.2
        clear hH KF
        cases T3 with
        | false =>
          have HF : Hid (E = 2) := by show _ = _; rw [HE.out]; simp
          go_wp2
          go_ret
          exact ⟨ret_int HF.out.symm, below_step2 Hbw.out hb5⟩
        | true =>
          have HF : Hid (E = 0) := by show _ = _; rw [HE.out]; simp
          go_wp2
          go_ret
          exact ⟨ret_int HF.out.symm, below_step2 Hbw.out hb5⟩

end Go.Proofs.Ytilhmlapbifbbaa
