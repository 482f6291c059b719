/- Walk: whether a rectangle may not be: the closure of doors.Build. -/
import Derived.Test.YtmgkkmcihplojaaGreatDrL
import Derived.Test.YtmgkkmcihplojaaGreatRctC
import Derived.Test.YtmgkkmcihplojaaGreatKg
import Derived.Test.YtmgkkmcihplojaaGreatKc
import Derived.Test.YtmgkkmcihplojaaGreatSrt
namespace Go.Proofs.YtmgkkmcihplojaaGreat
open Go.RowKit Go.Sort

set_option maxHeartbeats 800000 in
theorem build1_any (cf : Cfg) (T : Nat) (h : RHd) (r : Rc) (w : World) (hT : w.heap[T]? = some (cfO cf)) (hs : RcSl w h r) :
    Calls Tryz.prog 61 #[rcV h r, .pointer (some ⟨T, 0, none⟩)] w fun e w' => e = .returned (.bool (rcE cf r != 0)) ∧ Below w.heap.size w w' := by
  have CA := Lib.hid (fun W hW => rccheck_any cf h r W hW)
  have hB : Below w.heap.size w (w.alloc (rcO h r)) := (Below.refl _ _).alloc (Nat.le_refl _) _
  have HS := Lib.hid (hs.below hB (Nat.le_refl _))
  have hC := halloc hT (rcO h r)
  have hA := World.alloc_heap_new w (rcO h r)
  obtain ⟨W1, hW1⟩ : ∃ W, W = w.alloc (rcO h r) := ⟨_, rfl⟩
  rw [← hW1] at hB HS hC hA
  clear hs hT
  generalize rcE cf r = ea at CA
  dsimp only [cfO, rcO, rcV, cfgV] at hC hA hW1 CA ⊢
  have c0 := hcell (k := 0) (v := .int .i64 cf.clear) hC rfl
  have c1 := hcell (k := 1) (v := .int .i64 cf.climb) hC rfl
  have c2 := hcell (k := 2) (v := .int .i64 cf.height) hC rfl
  have c3 := hcell (k := 3) (v := .int .i64 cf.rise) hC rfl
  have c4 := hcell (k := 4) (v := .int .i64 cf.run) hC rfl
  have c5 := hcell (k := 5) (v := .int .i64 cf.w) hC rfl
  have c6 := hcell (k := 6) (v := .int .i64 cf.d) hC rfl
  have a0 := hcell (k := 0) (v := .int .i64 r.x0) hA rfl
  have a1 := hcell (k := 1) (v := .int .i64 r.z0) hA rfl
  have a2 := hcell (k := 2) (v := .int .i64 r.x1) hA rfl
  have a3 := hcell (k := 3) (v := .int .i64 r.z1) hA rfl
  have a4 := hcell (k := 4) (v := .int .i64 r.area) hA rfl
  have a5 := hcell (k := 5) (v := .slice h.ya r.ys.length h.yc) hA rfl
  have a6 := hcell (k := 6) (v := .slice h.ta r.ts.length h.tc) hA rfl
  clear hC hA
  go_enter Tryz.func61, Tryz.ntmps61
  go_upto_region 1 with fail
  rw [← hW1]
  clear hW1
  go_wp2_with fail
  refine (CA.out _ HS.out).mono ?_
  rintro e w1 ⟨rfl, hb1⟩
  clear c0 c1 c2 c3 c4 c5 c6 a0 a1 a2 a3 a4 a5 a6
  have hB1 := hB.trans (hb1.mono hB.size)
  go_wp2
  go_ret
  exact ⟨rfl, hB1⟩
abbrev RK (w : World) := { x : RHd × Rc // RcSl w x.1 x.2 }
instance (w : World) : Inhabited (RK w) := ⟨⟨(⟨none, 0, none, 0⟩, ⟨0, 0, 0, 0, 0, [], []⟩), ⟨SlI.nil _ _, SlI.nil _ _⟩⟩⟩
end Go.Proofs.YtmgkkmcihplojaaGreat

namespace Go.Proofs.YtmgkkmcihplojaaGreat
open Go.RowKit Go.Sort

abbrev rcF7 (x : RHd × Rc) : List Value := rcL x.1 x.2
theorem rcF7_len (x : RHd × Rc) : (rcF7 x).length = 7 := rfl
/-- A row of rectangles, and all their rows. -/
structure SlRc (w : World) (a : Option Addr) (n c : Nat) (xs : List (RHd × Rc)) : Prop where
  sl : SlR rcF7 7 w a n c xs
  each : ∀ x ∈ xs, RcSl w x.1 x.2
theorem SlRc.below {w w' : World} {a : Option Addr} {n c : Nat} {xs : List (RHd × Rc)} (h : SlRc w a n c xs) {B : Nat} (hb : Below B w w') (hB : w.heap.size ≤ B) : SlRc w' a n c xs :=
  ⟨h.sl.below hb hB, fun x hx => (h.each x hx).below hb hB⟩
theorem SlRc.at {w : World} {b off n c : Nat} {xs : List (RHd × Rc)} {k : Nat} {x : RHd × Rc} (h : SlRc w (some ⟨b, off, none⟩) n c xs) (hx : xs[k]? = some x) : ∀ j u, (rcF7 x)[j]? = some u → w.cell? ⟨b, off + k * 7 + j, none⟩ = some u := by
  intro j u hu
  have hk : k < xs.length := (List.getElem?_eq_some_iff.1 hx).1
  have hlen := h.sl.len
  obtain ⟨b', off', e, _, hc⟩ := h.sl.at0 (by omega)
  cases e
  exact hc k x hx j u hu
theorem SlRc.one {w : World} {a : Option Addr} {n c : Nat} {xs : List (RHd × Rc)} {k : Nat} {x : RHd × Rc} (h : SlRc w a n c xs) (hx : xs[k]? = some x) : RcSl w x.1 x.2 := h.each x (List.mem_of_getElem? hx)
/-- With their rows. -/
def RKs (w : World) (xs : List (RHd × Rc)) (h : ∀ x ∈ xs, RcSl w x.1 x.2) : List (RK w) := xs.pmap Subtype.mk h
theorem RKs_map (w : World) (xs : List (RHd × Rc)) (h : ∀ x ∈ xs, RcSl w x.1 x.2) : (RKs w xs h).map Subtype.val = xs := by
  unfold RKs
  rw [List.map_pmap]
  simp
theorem contrct_any (cf : Cfg) (T : Nat) (a : Option Addr) (n c : Nat) (xs : List (RHd × Rc)) (w : World) (hT : w.heap[T]? = some (cfO cf)) (hx : SlRc w a n c xs) :
    Calls Tryz.prog 60 #[.slice a n c, .func (.func 61) #[] #[.pointer (some ⟨T, 0, none⟩)]] w fun e w' => e = .returned (.bool (xs.any fun x => rcE cf x.2 != 0)) ∧ Below w.heap.size w w' := by
  by_cases h0 : n = 0
  · subst h0
    obtain rfl := List.eq_nil_of_length_eq_zero hx.sl.len
    clear hx
    go_enter Tryz.func60, Tryz.ntmps60
    go_wp2_with fail
    refine Calls.mono (R := fun e w' => e = .returned (.int .i64 (-1)) ∧ w' = w) ?_ ?_
    · go_enter Tryz.func83, Tryz.ntmps83
      go_wp2
      refine wp_loop_rounds 1 ?_
      rw [rounds_succ]
      go_wp2
      go_ret
      exact ⟨rfl, rfl⟩
    · rintro e w' ⟨rfl, rfl⟩
      go_wp2
      go_ret
      exact ⟨rfl, Below.refl _ _⟩
  obtain ⟨b, off, rfl, hb, hc⟩ := hx.sl.at0 (by omega)
  have hl := hx.sl.len
  have hle := hx.sl.le
  have hmax := hx.sl.max
  have hm := RKs_map w xs hx.each
  obtain ⟨ks, hks⟩ : ∃ ks, ks = RKs w xs hx.each := ⟨_, rfl⟩
  rw [← hks] at hm
  have hkl : ks.length = n := by rw [← hl, ← hm, List.length_map]
  have eg : ∀ args w, (callFunc 61 args).run Tryz.prog w = .ok (.enter 61 args) w := enters_of Tryz.func61 (by kernel_rfl) rfl
  have h := AnyQ.slices_ContainsFunc Tryz.lContRct 7 Tryz.isAgg55 Tryz.sizeOf55 (fun x : RK w => rcF7 x.1) (fun _ => rfl) (fun x => rcE cf x.1.2 != 0) 61 #[.pointer (some ⟨T, 0, none⟩)] eg b off n c ks w
    (fun W x hb' => (build1_any cf T x.1.1 x.1.2 W (hkeep hb' hT) (x.2.below hb' (Nat.le_refl _))).mono fun _ _ h => ⟨h.1, hb'.trans (h.2.mono hb'.size)⟩) (by omega) (by omega) hb (fun j hj i v hi => by
      have hg : ks[j]? = some ks[j]! := by rw [List.getElem?_eq_getElem hj, getElem!_pos ks j hj]
      have hg2 : xs[j]? = some (ks[j]!).1 := by rw [← hm, List.getElem?_map, hg]; rfl
      exact hc j _ hg2 i v hi)
  refine Calls.mono h ?_
  rintro e w' ⟨rfl, hb'⟩
  refine ⟨?_, hb'⟩
  rw [List.take_of_length_le (by omega), ← hm, List.any_map]
  rfl
end Go.Proofs.YtmgkkmcihplojaaGreat

namespace Go.Proofs.YtmgkkmcihplojaaGreat
open Go.RowKit Go.Sort Go.Lib Go.Shelf

theorem sortdr_none (p : Option Addr) (cap : Nat) (fv : Value) (w : World) :
    Calls Tryz.prog 63 #[.slice p 0 cap, fv] w fun e w' => e = .returned (.tuple #[]) ∧ w' = w := AnyF.slices_SortFunc_none Tryz.lSortDr p cap fv w
end Go.Proofs.YtmgkkmcihplojaaGreat

namespace Go.Proofs.YtmgkkmcihplojaaGreat
open Go.RowKit Go.Sort

theorem ltDb (c d : Dr) : ltOf cmpD c d = true ↔ ltD c d := by
  unfold ltOf
  rw [decide_eq_true_eq, cmpD_neg]
theorem ltDb_false (c d : Dr) : ltOf cmpD c d = false ↔ ¬ ltD c d := by
  rw [← ltDb]; simp
theorem swoD : SWO (ltOf cmpD) where
  irrefl x := by rw [ltDb_false]; exact ltD_irrefl _
  trans x y z h1 h2 := by
    rw [ltDb] at *
    exact ltD_trans h1 h2
  ntrans x y z h1 h2 := by
    rw [ltDb_false] at *
    exact ltD_ntrans h1 h2
instance : Inhabited Dr := ⟨⟨0, 0, 0, 0, 0, 0⟩⟩
theorem sortdr_any (v : Value) (n : Nat) (xs : List Dr) (B : Nat) (w : World) (hown : OwnR drC 6 110 B w v n xs) (hn : n ≤ 100000) :
    Calls Tryz.prog 63 #[v, .func (.func 64) #[] #[]] w fun e w' => e = .returned (.tuple #[]) ∧ ∃ ys a c, v = .slice a n c ∧ ys.Perm xs ∧ ys.Pairwise (fun p q => ¬ ltD q p) ∧ SlR drC 6 w' a n c ys ∧ Below B w w' := by
  have hl := hown.1
  by_cases h0 : n = 0
  · subst h0
    obtain rfl := List.eq_nil_of_length_eq_zero hl
    obtain ⟨a, c, rfl, hs⟩ := OwnR.reads drC_len hown
    refine (sortdr_none a c _ w).mono ?_
    rintro e w' ⟨rfl, rfl⟩
    exact ⟨rfl, [], a, c, rfl, List.Perm.refl _, List.Pairwise.nil, hs, Below.refl _ _⟩
  rcases hown.2.2 with ⟨_, hx⟩ | ⟨g, cap, cur, rfl, hBg, hg, h1, h2, h3, h4⟩
  · exact absurd hx h0
  have hH := holdsK_of_own drC_len hown
  have hgs : g < w.heap.size := (Array.getElem?_eq_some_iff.1 hg).1
  have eg : ∀ args w, (callFunc 64 args).run Tryz.prog w = .ok (.enter 64 args) w := enters_of Tryz.func64 (by kernel_rfl) rfl
  have h := AnyQ.slices_SortFunc Tryz.lSortDr 6 Tryz.isAgg110 Tryz.sizeOf110 drC drC_len drC_one cmpD swoD 64 #[] g 0 cap xs.toArray w eg (fun _ _ _ _ x y => cmpdr_any x y _) hH hgs (by simp; omega)
  have hsz : xs.toArray.size = n := by simpa using hl
  rw [hsz] at h
  refine Calls.mono h ?_
  rintro e w' ⟨rfl, d', m, os, hp, hs, rfl⟩
  have hds : d'.size = xs.toArray.size := hp.1
  have hr := sortK_reads drC_len (m := m) (cap := cap) (os := os) hH hgs hds (by omega) (by simpa [maxLen] using h2)
  rw [hds, hsz] at hr
  have hp' : PermIn 0 xs.toArray.size xs.toArray d' := by rw [hsz]; exact hp
  have hs' : SortedIn (ltOf cmpD) 0 xs.toArray.size d' := by rw [hsz]; exact hs
  have q1 : d'.toList.Perm xs := by simpa using permIn_perm hp'
  have q2 := sortedIn_pairwise hds hs'
  refine ⟨rfl, d'.toList, _, _, rfl, q1, ?_, hr, sortK_below hgs hBg⟩
  exact q2.imp fun {p q} hpq => (ltDb_false q p).1 hpq
end Go.Proofs.YtmgkkmcihplojaaGreat
