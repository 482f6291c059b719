/- Walks: the pairs of columns across a border, as an iterator. -/
import Derived.Test.YtgfmdgiepomkiaaSde
import Derived.Test.YtgfmdgiepomkiaaGh
namespace Go.Proofs.Ytgfmdgiepomkiaa
open Go.RowKit Go.Shelf Go.Sort
attribute [local go_sem] Oper.semAt_some Instr.index

theorem RcSl.keepEx {w w' : World} {h : RHd} {r : Rc} (hs : RcSl w h r) {L : Nat} {S : Nat → Prop} (hk : KeepEx L S w w') (hy : ∀ ad, h.ya = some ad → r.ys.length = 0 ∨ (ad.block < L ∧ ¬ S ad.block)) (ht : ∀ ad, h.ta = some ad → r.ts.length = 0 ∨ (ad.block < L ∧ ¬ S ad.block)) : RcSl w' h r := ⟨hs.y.keepEx hk hy, hs.t.keepEx hk ht⟩
/-- All that pairs has laid lies below L and does not turn. -/
structure PrsLow (L : Nat) (S : Nat → Prop) (pf pt pa ps pc p5 p6 : Nat) (ha : RHd) (a : Rc) (hb : RHd) (b : Rc) : Prop where
  f : pf < L ∧ ¬ S pf
  t : pt < L ∧ ¬ S pt
  x : pa < L ∧ ¬ S pa
  s : ps < L ∧ ¬ S ps
  c : pc < L ∧ ¬ S pc
  ra : p5 < L ∧ ¬ S p5
  rb : p6 < L ∧ ¬ S p6
  ya : ∀ ad, ha.ya = some ad → a.ys.length = 0 ∨ (ad.block < L ∧ ¬ S ad.block)
  ta : ∀ ad, ha.ta = some ad → a.ts.length = 0 ∨ (ad.block < L ∧ ¬ S ad.block)
  yb : ∀ ad, hb.ya = some ad → b.ys.length = 0 ∨ (ad.block < L ∧ ¬ S ad.block)
  tb : ∀ ad, hb.ta = some ad → b.ts.length = 0 ∨ (ad.block < L ∧ ¬ S ad.block)
theorem PrsIn.keep {pf pt pa ps pc p5 p6 : Nat} {cf : Cfg} {ha : RHd} {a : Rc} {hb : RHd} {b : Rc} {up : Bool} {w w' : World} {L : Nat} {S : Nat → Prop} (h : PrsIn pf pt pa ps pc p5 p6 cf ha a hb b up w) (hk : KeepEx L S w w') (hl : PrsLow L S pf pt pa ps pc p5 p6 ha a hb b) : PrsIn pf pt pa ps pc p5 p6 cf ha a hb b up w' :=
  ⟨(hk.block _ hl.f.1 hl.f.2).trans h.f, (hk.block _ hl.t.1 hl.t.2).trans h.t, (hk.block _ hl.x.1 hl.x.2).trans h.x, (hk.block _ hl.s.1 hl.s.2).trans h.s, (hk.block _ hl.c.1 hl.c.2).trans h.c, (hk.block _ hl.ra.1 hl.ra.2).trans h.ra, (hk.block _ hl.rb.1 hl.rb.2).trans h.rb, h.sa.keepEx hk hl.ya hl.ta, h.sb.keepEx hk hl.yb hl.tb⟩
theorem prsTo_len (cf : Cfg) (a b : Rc) (up : Bool) (k : Nat) : (prsTo cf a b up k).length ≤ k := by
  induction k with
  | zero => exact Nat.le_refl _
  | succ k ih =>
    rw [prsTo_succ, List.length_append]
    have : (prOne cf a b up (prFrom a b up + (k : Int))).length ≤ 1 := by unfold prOne; split <;> simp
    omega
theorem prsTo_prefix (cf : Cfg) (a b : Rc) (up : Bool) {k m : Nat} (h : k ≤ m) : prsTo cf a b up k <+: prsTo cf a b up m := by
  obtain ⟨j, rfl⟩ := Nat.exists_eq_add_of_le h
  clear h
  induction j with
  | zero => exact List.prefix_refl _
  | succ j ih =>
    rw [← Nat.add_assoc, prsTo_succ]
    exact ih.trans (List.prefix_append _ _)
theorem prOne_yes {cf : Cfg} {a b : Rc} {up : Bool} {n : Int} (h : lnk cf (prF a up n) (prG b up n) = true) : prOne cf a b up n = [prD b up n] := by unfold prOne; rw [if_pos h]
theorem prOne_no {cf : Cfg} {a b : Rc} {up : Bool} {n : Int} (h : lnk cf (prF a up n) (prG b up n) = false) : prOne cf a b up n = [] := by unfold prOne; rw [h]; rfl
set_option maxRecDepth 100000 in
set_option maxHeartbeats 16000000 in
theorem prs_stops (m : Nat) (hm : 1 ≤ m) (pf pt pa ps pc p5 p6 L : Nat) (S : Nat → Prop) (cf : Cfg) (ha : RHd) (a : Rc) (hb : RHd) (b : Rc) (up : Bool) (w : World) (hda : rcBd a = true) (hdb : rcBd b = true) (he : PrsIn pf pt pa ps pc p5 p6 cf ha a hb b up w) (hl : PrsLow L S pf pt pa ps pc p5 p6 ha a hb b) :
    SeqStopsK Fence.wide m Try.prog 110 #[.pointer (some ⟨pf, 0, none⟩), .pointer (some ⟨pt, 0, none⟩), .pointer (some ⟨pa, 0, none⟩), .pointer (some ⟨ps, 0, none⟩), .pointer (some ⟨pc, 0, none⟩)] (fun d : Dr => #[drV d]) (KeepEx L S) (fun ys => ys = prs cf a b up) (fun pre => pre <+: prs cf a b up) (prLen a b up) w := fun l J Jx W hW hJ hJx hY h0' => by
  have he' := he.below hW
  have HJ := Lib.hid hJ; clear hJ hJx
  have HY := Lib.hid hY; clear hY
  have HLo := Lib.hid hl; clear hl
  obtain ⟨u1, u2, u3, u4, u5, u6, _, _⟩ := rcBd_iff.1 hda
  obtain ⟨v1, v2, v3, v4, v5, v6, _, _⟩ := rcBd_iff.1 hdb
  have hfb : 0 ≤ prFrom a b up ∧ prFrom a b up ≤ 31 := by unfold prFrom; cases up <;> simp <;> omega
  have htb : 0 ≤ prTo a b up ∧ prTo a b up ≤ 31 := by unfold prTo; cases up <;> simp <;> omega
  have HPL : Hid (prLen a b up = if prAcross a b up then (prTo a b up + 1 - prFrom a b up).toNat else 0) := rfl
  have PS := Lib.hid (fun k => prsTo_succ cf a b up k)
  have PL := Lib.hid (fun k => prsTo_len cf a b up k)
  have PX := Lib.hid (fun (k : Nat) (h : k ≤ prLen a b up) => show prsTo cf a b up k <+: prs cf a b up from prsTo_prefix cf a b up h)
  have PE : Hid (prs cf a b up = prsTo cf a b up (prLen a b up)) := rfl
  have P0 : Hid (prsTo cf a b up 0 = []) := rfl
  have OY := Lib.hid (fun n (h : lnk cf (prF a up n) (prG b up n) = true) => prOne_yes h)
  have ON := Lib.hid (fun n (h : lnk cf (prF a up n) (prG b up n) = false) => prOne_no h)
  have LK := Lib.hid (fun f g W => linked_any cf f g W)
  obtain ⟨N, hN⟩ : ∃ N, N = prLen a b up := ⟨_, rfl⟩
  rw [← hN] at HPL PX PE HY
  clear hN hda hdb u1 u2 u3 u4 u5 u6 v1 v2 v3 v4 v5 v6
  obtain ⟨fr, hfr⟩ : ∃ v, v = prFrom a b up := ⟨_, rfl⟩
  obtain ⟨to_, hto⟩ : ∃ v, v = prTo a b up := ⟨_, rfl⟩
  obtain ⟨ac, hac⟩ : ∃ v, v = prAcross a b up := ⟨_, rfl⟩
  have F1 := Lib.hid (fun W' (h' : PrsIn pf pt pa ps pc p5 p6 cf ha a hb b up W') => show W'.heap[pf]? = some (.cells #[.int .i64 fr] 3 (0, 0)) from by rw [hfr]; exact h'.f)
  have F2 := Lib.hid (fun W' (h' : PrsIn pf pt pa ps pc p5 p6 cf ha a hb b up W') => show W'.heap[pt]? = some (.cells #[.int .i64 to_] 3 (0, 0)) from by rw [hto]; exact h'.t)
  have F3 := Lib.hid (fun W' (h' : PrsIn pf pt pa ps pc p5 p6 cf ha a hb b up W') => show W'.heap[pa]? = some (.cells #[.bool ac] 4 (0, 0)) from by rw [hac]; exact h'.x)
  rw [← hfr] at hfb HPL PS
  rw [← hto] at htb HPL
  rw [← hac] at HPL
  clear hfr hto hac
  obtain ⟨PR, hPR⟩ : ∃ PR, PR = prs cf a b up := ⟨_, rfl⟩
  rw [← hPR] at PX PE ⊢
  clear hPR
  obtain ⟨PT, hPT⟩ : ∃ PT : Nat → List Dr, PT = prsTo cf a b up := ⟨_, rfl⟩
  rw [← hPT] at PS PL PX PE P0
  clear hPT
  obtain ⟨LN, hLN⟩ : ∃ LN : Flr → Flr → Bool, LN = lnk cf := ⟨_, rfl⟩
  have hLNx : ∀ f g, lnk cf f g = LN f g := fun f g => by rw [hLN]
  simp only [hLNx] at LK OY ON
  clear hLN hLNx
  obtain ⟨PO, hPO⟩ : ∃ PO : Int → List Dr, PO = prOne cf a b up := ⟨_, rfl⟩
  have hPOx : ∀ n, prOne cf a b up n = PO n := fun n => by rw [hPO]
  simp only [hPOx] at PS OY ON
  clear hPO hPOx
  refine callsIn_of_wp Try.func110 rfl trivial ?_ rfl
  simp only [Try.ntmps110, List.size_toArray, List.length_cons, List.length_nil, Nat.reduceAdd, Nat.reduceSub, Array.replicate_succ, Array.replicate_zero, List.push_toArray, List.append_toArray, List.nil_append, List.cons_append]
  have q1 := hcell (k := 0) (v := .int .i64 fr) (F1.out _ he') rfl
  gi_wp2
  clear q1
  gi_loopw [7] (fun s7 wr => ∃ (k : Nat) (n : Int) (pre : List Dr), s7 = .int .i64 n ∧ Hid (n = fr + (k : Int)) ∧ k ≤ N ∧ PrsIn pf pt pa ps pc p5 p6 cf ha a hb b up wr ∧ pre = PT k ∧ J pre wr) (fun s7 _ => (to_ + 1 - intOf s7).toNat)
  case atStart => exact ⟨0, fr, [], rfl, by show _ = _; simp, Nat.zero_le _, he', P0.out.symm, h0'⟩
  case round =>
    clear he' h0'
    obtain ⟨k, n, pre, rfl, Hn, hk, he2, hpre, hJs⟩ := hrel
    have Hpre := Lib.hid hpre; clear hpre
    have q2 := hcell (k := 0) (v := .int .i64 to_) (F2.out _ he2) rfl
    have q3 := hcell (k := 0) (v := .bool ac) (F3.out _ he2) rfl
    by_cases hlt : k < N
    · have hac : ac = true := by
        cases ac with
        | true => rfl
        | false => have := HPL.out; simp at this; omega
      subst hac
      have hNe : N = (to_ + 1 - fr).toNat := by have := HPL.out; simpa using this
      have hnto : n ≤ to_ := by have := Hn.out; omega
      have hnb : -100000 ≤ n ∧ n ≤ 100000 := by have := Hn.out; omega
      have hn1 : IntKind.i64.wrap (n + 1) = n + 1 := by rw [IntKind.wrap_i64]; omega
      have hkl : pre.length ≤ k := by rw [Hpre.out]; exact PL.out k
      have hq4 := he2.s
      have PSk := Lib.hid (PS.out k)
      have OYn := Lib.hid (OY.out n)
      have ONn := Lib.hid (ON.out n)
      rw [← Hn.out] at PSk
      have hmeas : (to_ + 1 - (n + 1)).toNat < (to_ + 1 - n).toNat := by omega
      cases up with
      | false =>
        have SD := Lib.hid (fun W' (h' : PrsIn pf pt pa ps pc p5 p6 cf ha a hb b false W') => side1_any ha a hb b p5 p6 n W' h'.ra h'.rb h'.sa h'.sb hnb)
        obtain ⟨f, hf⟩ : ∃ f, f = prF a false n := ⟨_, rfl⟩
        obtain ⟨g, hg⟩ : ∃ g, g = prG b false n := ⟨_, rfl⟩
        obtain ⟨d, hd⟩ : ∃ d, d = prD b false n := ⟨_, rfl⟩
        rw [← hf, ← hg, ← hd] at SD
        rw [← hf, ← hg] at OYn ONn
        rw [← hd] at OYn
        clear hf hg hd
        have q4 : wr.cell? ⟨ps, 0, none⟩ = some (.func (.func 108) #[] #[.pointer (some ⟨p5, 0, none⟩), .pointer (some ⟨p6, 0, none⟩)]) := hcell (k := 0) hq4 rfl
        clear hq4
        dsimp only [flrV, drV] at SD
        gi_wp2_with fail
        refine ⟨trivial, ?_⟩
        gi_at_call 108
        refine (callsIn_wide.2 (SD.out _ he2)).mono ?_
        rintro e w5 ⟨rfl, hb5⟩
        have he5 := he2.below hb5
        have hJ5 : J pre w5 := AbidesFrom.below HJ.out hJs hb5
        clear q2 q3 q4 SD he2 hJs hb5
        have hF8 := halloc (halloc (World.alloc_heap_new w5 (.cells #[.int .i64 f.y, .int .i64 f.top, .int .i64 f.area] 102 (0, 0))) (.cells #[.int .i64 g.y, .int .i64 g.top, .int .i64 g.area] 102 (0, 0))) (.cells #[.int .i64 d.a, .int .i64 d.b, .int .i64 d.x0, .int .i64 d.z0, .int .i64 d.x1, .int .i64 d.z1] 96 (0, 0))
        have hG8 := halloc (World.alloc_heap_new (w5.alloc (.cells #[.int .i64 f.y, .int .i64 f.top, .int .i64 f.area] 102 (0, 0))) (.cells #[.int .i64 g.y, .int .i64 g.top, .int .i64 g.area] 102 (0, 0))) (.cells #[.int .i64 d.a, .int .i64 d.b, .int .i64 d.x0, .int .i64 d.z0, .int .i64 d.x1, .int .i64 d.z1] 96 (0, 0))
        have hD8 := World.alloc_heap_new ((w5.alloc (.cells #[.int .i64 f.y, .int .i64 f.top, .int .i64 f.area] 102 (0, 0))).alloc (.cells #[.int .i64 g.y, .int .i64 g.top, .int .i64 g.area] 102 (0, 0))) (.cells #[.int .i64 d.a, .int .i64 d.b, .int .i64 d.x0, .int .i64 d.z0, .int .i64 d.x1, .int .i64 d.z1] 96 (0, 0))
        have hb8 : Below w5.heap.size w5 (((w5.alloc (.cells #[.int .i64 f.y, .int .i64 f.top, .int .i64 f.area] 102 (0, 0))).alloc (.cells #[.int .i64 g.y, .int .i64 g.top, .int .i64 g.area] 102 (0, 0))).alloc (.cells #[.int .i64 d.a, .int .i64 d.b, .int .i64 d.x0, .int .i64 d.z0, .int .i64 d.x1, .int .i64 d.z1] 96 (0, 0))) := (((Below.refl _ _).alloc (Nat.le_refl _) _).alloc (by simp) _).alloc (by simp; omega) _
        simp only [World.size_alloc] at hG8 hD8
        have he8 := he5.below hb8
        have hJ8 : J pre (((w5.alloc (.cells #[.int .i64 f.y, .int .i64 f.top, .int .i64 f.area] 102 (0, 0))).alloc (.cells #[.int .i64 g.y, .int .i64 g.top, .int .i64 g.area] 102 (0, 0))).alloc (.cells #[.int .i64 d.a, .int .i64 d.b, .int .i64 d.x0, .int .i64 d.z0, .int .i64 d.x1, .int .i64 d.z1] 96 (0, 0))) := AbidesFrom.below HJ.out hJ5 hb8
        have hC8 := he8.c
        obtain ⟨fy, ft, fa⟩ := f
        obtain ⟨gy, gt, ga⟩ := g
        obtain ⟨da, db, dx0, dz0, dx1, dz1⟩ := d
        obtain ⟨cl, climb, height, rise, run, cw, cd⟩ := cf
        dsimp only [cfO, cfgV, flrV, drV] at hF8 hG8 hD8 hC8 he8 hJ8 LK hb8 ⊢
        have c0 := hcell (k := 0) (v := .int .i64 cl) hC8 rfl
        have c1 := hcell (k := 1) (v := .int .i64 climb) hC8 rfl
        have c2 := hcell (k := 2) (v := .int .i64 height) hC8 rfl
        have c3 := hcell (k := 3) (v := .int .i64 rise) hC8 rfl
        have c4 := hcell (k := 4) (v := .int .i64 run) hC8 rfl
        have c5 := hcell (k := 5) (v := .int .i64 cw) hC8 rfl
        have c6 := hcell (k := 6) (v := .int .i64 cd) hC8 rfl
        have f0 := hcell (k := 0) (v := .int .i64 fy) hF8 rfl
        have f1 := hcell (k := 1) (v := .int .i64 ft) hF8 rfl
        have f2 := hcell (k := 2) (v := .int .i64 fa) hF8 rfl
        have g0 := hcell (k := 0) (v := .int .i64 gy) hG8 rfl
        have g1 := hcell (k := 1) (v := .int .i64 gt) hG8 rfl
        have g2 := hcell (k := 2) (v := .int .i64 ga) hG8 rfl
        have LK2 := Lib.hid (LK.out ⟨fy, ft, fa⟩ ⟨gy, gt, ga⟩)
        dsimp only at LK2
        generalize LN ⟨fy, ft, fa⟩ ⟨gy, gt, ga⟩ = bb at LK2 OYn ONn
        clear LK
        gi_wp2_with fail
        refine ⟨trivial, ?_⟩
        gi_at_call 67
        refine (callsIn_wide.2 (LK2.out _)).mono ?_
        rintro e w9 ⟨rfl, hb9⟩
        have he9 := he8.below hb9
        have hJ9 : J pre w9 := AbidesFrom.below HJ.out hJ8 hb9
        have hD9 := hkeep hb9 hD8
        have hP9 : w5.heap.size ≤ w9.heap.size := Nat.le_trans hb8.size hb9.size
        clear c0 c1 c2 c3 c4 c5 c6 f0 f1 f2 g0 g1 g2 hF8 hG8 hD8 hC8 he8 hJ8 hb8 hb9 he5 hJ5 LK2
        cases bb with
        | false =>
          have HNo := Lib.hid (ONn.out (by first | rfl | trivial))
          clear ONn OYn
          gi_wp2
          refine ⟨fun _ h => (by cases h), ?_⟩
          gi_wp2
          go_roundw
          case rel => exact ⟨k + 1, n + 1, pre, rfl, by show _ = _; have := Hn.out; push_cast; omega, by omega, he9, by rw [PSk.out, HNo.out, List.append_nil]; exact Hpre.out, hJ9⟩
          case measure => simp [intOf]; omega
        | true =>
          have HYs := Lib.hid (OYn.out (by first | rfl | trivial))
          clear ONn OYn
          have d0 := hcell (k := 0) (v := .int .i64 da) hD9 rfl
          have d1 := hcell (k := 1) (v := .int .i64 db) hD9 rfl
          have d2 := hcell (k := 2) (v := .int .i64 dx0) hD9 rfl
          have d3 := hcell (k := 3) (v := .int .i64 dz0) hD9 rfl
          have d4 := hcell (k := 4) (v := .int .i64 dx1) hD9 rfl
          have d5 := hcell (k := 5) (v := .int .i64 dz1) hD9 rfl
          obtain ⟨fn, tmps, assign, body, hy, hR⟩ := HY.out pre ⟨da, db, dx0, dz0, dx1, dz1⟩ w9 hJ9 (by omega)
          dsimp only [drV] at hy
          have HR := Lib.hid hR
          clear hR
          gi_wp2
          refine HR.out.mono ?_
          rintro e W3 (⟨rfl, hJ3, hk3⟩ | ⟨rfl, hJx3⟩)
          · clear hJ9 hy HR d0 d1 d2 d3 d4 d5 hD9
            gi_wp2
            go_roundw
            case rel => exact ⟨k + 1, n + 1, pre ++ [⟨da, db, dx0, dz0, dx1, dz1⟩], rfl, by show _ = _; have := Hn.out; push_cast; omega, by omega, he9.keep hk3 HLo.out, by rw [PSk.out, HYs.out, Hpre.out], hJ3⟩
            case measure => simp [intOf]; omega
          · clear hJ9 hy HR d0 d1 d2 d3 d4 d5 hD9
            gi_wp2
            refine bodyPost_ret (results_none rfl _ _ _) rfl ?_
            refine ⟨⟨_, rfl⟩, .inr ⟨_, ?_, hJx3⟩⟩
            rw [Hpre.out, ← HYs.out, ← PSk.out]
            exact PX.out _ (by omega)
      | true =>
        have SD := Lib.hid (fun W' (h' : PrsIn pf pt pa ps pc p5 p6 cf ha a hb b true W') => side2_any ha a hb b p5 p6 n W' h'.ra h'.rb h'.sa h'.sb hnb)
        obtain ⟨f, hf⟩ : ∃ f, f = prF a true n := ⟨_, rfl⟩
        obtain ⟨g, hg⟩ : ∃ g, g = prG b true n := ⟨_, rfl⟩
        obtain ⟨d, hd⟩ : ∃ d, d = prD b true n := ⟨_, rfl⟩
        rw [← hf, ← hg, ← hd] at SD
        rw [← hf, ← hg] at OYn ONn
        rw [← hd] at OYn
        clear hf hg hd
        have q4 : wr.cell? ⟨ps, 0, none⟩ = some (.func (.func 109) #[] #[.pointer (some ⟨p5, 0, none⟩), .pointer (some ⟨p6, 0, none⟩)]) := hcell (k := 0) hq4 rfl
        clear hq4
        dsimp only [flrV, drV] at SD
        gi_wp2_with fail
        refine ⟨trivial, ?_⟩
        gi_at_call 109
        refine (callsIn_wide.2 (SD.out _ he2)).mono ?_
        rintro e w5 ⟨rfl, hb5⟩
        have he5 := he2.below hb5
        have hJ5 : J pre w5 := AbidesFrom.below HJ.out hJs hb5
        clear q2 q3 q4 SD he2 hJs hb5
        have hF8 := halloc (halloc (World.alloc_heap_new w5 (.cells #[.int .i64 f.y, .int .i64 f.top, .int .i64 f.area] 102 (0, 0))) (.cells #[.int .i64 g.y, .int .i64 g.top, .int .i64 g.area] 102 (0, 0))) (.cells #[.int .i64 d.a, .int .i64 d.b, .int .i64 d.x0, .int .i64 d.z0, .int .i64 d.x1, .int .i64 d.z1] 96 (0, 0))
        have hG8 := halloc (World.alloc_heap_new (w5.alloc (.cells #[.int .i64 f.y, .int .i64 f.top, .int .i64 f.area] 102 (0, 0))) (.cells #[.int .i64 g.y, .int .i64 g.top, .int .i64 g.area] 102 (0, 0))) (.cells #[.int .i64 d.a, .int .i64 d.b, .int .i64 d.x0, .int .i64 d.z0, .int .i64 d.x1, .int .i64 d.z1] 96 (0, 0))
        have hD8 := World.alloc_heap_new ((w5.alloc (.cells #[.int .i64 f.y, .int .i64 f.top, .int .i64 f.area] 102 (0, 0))).alloc (.cells #[.int .i64 g.y, .int .i64 g.top, .int .i64 g.area] 102 (0, 0))) (.cells #[.int .i64 d.a, .int .i64 d.b, .int .i64 d.x0, .int .i64 d.z0, .int .i64 d.x1, .int .i64 d.z1] 96 (0, 0))
        have hb8 : Below w5.heap.size w5 (((w5.alloc (.cells #[.int .i64 f.y, .int .i64 f.top, .int .i64 f.area] 102 (0, 0))).alloc (.cells #[.int .i64 g.y, .int .i64 g.top, .int .i64 g.area] 102 (0, 0))).alloc (.cells #[.int .i64 d.a, .int .i64 d.b, .int .i64 d.x0, .int .i64 d.z0, .int .i64 d.x1, .int .i64 d.z1] 96 (0, 0))) := (((Below.refl _ _).alloc (Nat.le_refl _) _).alloc (by simp) _).alloc (by simp; omega) _
        simp only [World.size_alloc] at hG8 hD8
        have he8 := he5.below hb8
        have hJ8 : J pre (((w5.alloc (.cells #[.int .i64 f.y, .int .i64 f.top, .int .i64 f.area] 102 (0, 0))).alloc (.cells #[.int .i64 g.y, .int .i64 g.top, .int .i64 g.area] 102 (0, 0))).alloc (.cells #[.int .i64 d.a, .int .i64 d.b, .int .i64 d.x0, .int .i64 d.z0, .int .i64 d.x1, .int .i64 d.z1] 96 (0, 0))) := AbidesFrom.below HJ.out hJ5 hb8
        have hC8 := he8.c
        obtain ⟨fy, ft, fa⟩ := f
        obtain ⟨gy, gt, ga⟩ := g
        obtain ⟨da, db, dx0, dz0, dx1, dz1⟩ := d
        obtain ⟨cl, climb, height, rise, run, cw, cd⟩ := cf
        dsimp only [cfO, cfgV, flrV, drV] at hF8 hG8 hD8 hC8 he8 hJ8 LK hb8 ⊢
        have c0 := hcell (k := 0) (v := .int .i64 cl) hC8 rfl
        have c1 := hcell (k := 1) (v := .int .i64 climb) hC8 rfl
        have c2 := hcell (k := 2) (v := .int .i64 height) hC8 rfl
        have c3 := hcell (k := 3) (v := .int .i64 rise) hC8 rfl
        have c4 := hcell (k := 4) (v := .int .i64 run) hC8 rfl
        have c5 := hcell (k := 5) (v := .int .i64 cw) hC8 rfl
        have c6 := hcell (k := 6) (v := .int .i64 cd) hC8 rfl
        have f0 := hcell (k := 0) (v := .int .i64 fy) hF8 rfl
        have f1 := hcell (k := 1) (v := .int .i64 ft) hF8 rfl
        have f2 := hcell (k := 2) (v := .int .i64 fa) hF8 rfl
        have g0 := hcell (k := 0) (v := .int .i64 gy) hG8 rfl
        have g1 := hcell (k := 1) (v := .int .i64 gt) hG8 rfl
        have g2 := hcell (k := 2) (v := .int .i64 ga) hG8 rfl
        have LK2 := Lib.hid (LK.out ⟨fy, ft, fa⟩ ⟨gy, gt, ga⟩)
        dsimp only at LK2
        generalize LN ⟨fy, ft, fa⟩ ⟨gy, gt, ga⟩ = bb at LK2 OYn ONn
        clear LK
        gi_wp2_with fail
        refine ⟨trivial, ?_⟩
        gi_at_call 67
        refine (callsIn_wide.2 (LK2.out _)).mono ?_
        rintro e w9 ⟨rfl, hb9⟩
        have he9 := he8.below hb9
        have hJ9 : J pre w9 := AbidesFrom.below HJ.out hJ8 hb9
        have hD9 := hkeep hb9 hD8
        have hP9 : w5.heap.size ≤ w9.heap.size := Nat.le_trans hb8.size hb9.size
        clear c0 c1 c2 c3 c4 c5 c6 f0 f1 f2 g0 g1 g2 hF8 hG8 hD8 hC8 he8 hJ8 hb8 hb9 he5 hJ5 LK2
        cases bb with
        | false =>
          have HNo := Lib.hid (ONn.out (by first | rfl | trivial))
          clear ONn OYn
          gi_wp2
          refine ⟨fun _ h => (by cases h), ?_⟩
          gi_wp2
          go_roundw
          case rel => exact ⟨k + 1, n + 1, pre, rfl, by show _ = _; have := Hn.out; push_cast; omega, by omega, he9, by rw [PSk.out, HNo.out, List.append_nil]; exact Hpre.out, hJ9⟩
          case measure => simp [intOf]; omega
        | true =>
          have HYs := Lib.hid (OYn.out (by first | rfl | trivial))
          clear ONn OYn
          have d0 := hcell (k := 0) (v := .int .i64 da) hD9 rfl
          have d1 := hcell (k := 1) (v := .int .i64 db) hD9 rfl
          have d2 := hcell (k := 2) (v := .int .i64 dx0) hD9 rfl
          have d3 := hcell (k := 3) (v := .int .i64 dz0) hD9 rfl
          have d4 := hcell (k := 4) (v := .int .i64 dx1) hD9 rfl
          have d5 := hcell (k := 5) (v := .int .i64 dz1) hD9 rfl
          obtain ⟨fn, tmps, assign, body, hy, hR⟩ := HY.out pre ⟨da, db, dx0, dz0, dx1, dz1⟩ w9 hJ9 (by omega)
          dsimp only [drV] at hy
          have HR := Lib.hid hR
          clear hR
          gi_wp2
          refine HR.out.mono ?_
          rintro e W3 (⟨rfl, hJ3, hk3⟩ | ⟨rfl, hJx3⟩)
          · clear hJ9 hy HR d0 d1 d2 d3 d4 d5 hD9
            gi_wp2
            go_roundw
            case rel => exact ⟨k + 1, n + 1, pre ++ [⟨da, db, dx0, dz0, dx1, dz1⟩], rfl, by show _ = _; have := Hn.out; push_cast; omega, by omega, he9.keep hk3 HLo.out, by rw [PSk.out, HYs.out, Hpre.out], hJ3⟩
            case measure => simp [intOf]; omega
          · clear hJ9 hy HR d0 d1 d2 d3 d4 d5 hD9
            gi_wp2
            refine bodyPost_ret (results_none rfl _ _ _) rfl ?_
            refine ⟨⟨_, rfl⟩, .inr ⟨_, ?_, hJx3⟩⟩
            rw [Hpre.out, ← HYs.out, ← PSk.out]
            exact PX.out _ (by omega)
    · -- it ends
      have hex : ¬ n ≤ to_ ∨ ac = false := by
        have := HPL.out
        have := Hn.out
        cases ac with
        | false => exact .inr rfl
        | true => left; simp at *; omega
      have hkN : k = N := by omega
      have HEnd : Hid (pre = PR) := by show _ = _; rw [Hpre.out, PE.out, hkN]
      clear hkN
      by_cases hnt : n ≤ to_
      · have hac : ac = false := by rcases hex with h | h; exact absurd hnt h; exact h
        subst hac
        clear hex
        gi_wp2
        go_end0
        first | exact ⟨⟨_, rfl⟩, .inl ⟨pre, HEnd.out, hJs⟩⟩ | exact ⟨⟨_, rfl⟩, .inl (by rw [← HEnd.out]; exact hJs)⟩
      · clear hex
        gi_wp2
        go_end0
        first | exact ⟨⟨_, rfl⟩, .inl ⟨pre, HEnd.out, hJs⟩⟩ | exact ⟨⟨_, rfl⟩, .inl (by rw [← HEnd.out]; exact hJs)⟩
end Go.Proofs.Ytgfmdgiepomkiaa
