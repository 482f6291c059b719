/- Walks: the floors of a column that are near a height: hops.floors. -/
import Derived.Test.YtmgkkmcihplojaaGreatHpP
import Derived.Test.YtmgkkmcihplojaaGreatKg
import Derived.Test.YtmgkkmcihplojaaGreatKe
import Derived.Test.YtmgkkmcihplojaaGreatRctA
namespace Go.Proofs.YtmgkkmcihplojaaGreat
open Go.RowKit Go.Sort
attribute [local go_sem] Instr.index

def clY (y : Int) : Int := min (max y (-1099511627776)) 1099511627776
theorem clY_bd (y : Int) : -1099511627776 ≤ clY y ∧ clY y ≤ 1099511627776 := by unfold clY; omega
def fdC (x z Y : Int) (d : Fd) : List Value := [.int .i64 (d.i : Int), .int .i64 (d.k : Int), .int .i64 x, .int .i64 z, .int .i64 d.y, .int .i64 (offD Y d.y)]
theorem fdC_len (x z Y : Int) (d : Fd) : (fdC x z Y d).length = 6 := rfl
theorem fdC_one (x z Y : Int) (d : Fd) : ∀ u ∈ fdC x z Y d, u.oneCell' = true := by
  intro u hu
  simp only [fdC, List.mem_cons, List.not_mem_nil, or_false] at hu
  rcases hu with rfl | rfl | rfl | rfl | rfl | rfl <;> rfl
theorem info_fd : (Tryz.prog.info? 63).map (fun i => (i.zero, i.size, i.bytes)) = some (some (.agg #[.int .i64 0, .int .i64 0, .int .i64 0, .int .i64 0, .int .i64 0, .int .i64 0]), 6, 48) := by kernel_rfl
/-- While floors are gathered: S holds the spot; what is one's own lies from L on. -/
structure FlAt (w0 : World) (S : Nat) (x z y Y : Int) (L : Nat) (va : Option Addr) (m vc : Nat) (ds : List Fd) (W : World) : Prop where
  bel : Below w0.heap.size w0 W
  s : W.heap[S]? = some (.cells #[.int .i64 x, .int .i64 z, .int .i64 y] 26 (0, 0))
  own : OwnR (fdC x z Y) 6 63 L W (.slice va m vc) m ds
  sL : S < L
  wL : w0.heap.size ≤ L
  lw : L ≤ W.heap.size
section
variable {w0 : World} {S : Nat} {x z y Y : Int} {L : Nat} {va : Option Addr} {m vc : Nat} {ds : List Fd} {W W' : World}
theorem FlAt.below (h : FlAt w0 S x z y Y L va m vc ds W) (hb : Below W.heap.size W W') : FlAt w0 S x z y Y L va m vc ds W' :=
  ⟨h.bel.trans (hb.mono h.bel.size), hkeep hb h.s, h.own.below hb (Nat.le_refl _), h.sL, h.wL, Nat.le_trans h.lw hb.size⟩
theorem FlAt.app {va' : Option Addr} {m' vc' : Nat} {ds' : List Fd} (h : FlAt w0 S x z y Y L va m vc ds W) (ho : OwnR (fdC x z Y) 6 63 L W' (.slice va' m' vc') m' ds') (hp : Appd W W' (.slice va m vc) (.slice va' m' vc')) : FlAt w0 S x z y Y L va' m' vc' ds' W' := by
  have hg := hp.grown
  have hsL := h.sL
  have hwL := h.wL
  exact ⟨h.bel.trans (hp.below (B := w0.heap.size) h.bel.size (fun i hi => by have := h.own.le i hi; omega)), hgrown hg h.s (fun e => by have := h.own.le _ e; omega), ho, hsL, hwL, Nat.le_trans h.lw hg.size⟩
end
/-- What hops.floors tells. -/
def FlPost (x z Y wi : Int) (ts : List Tl) (n : Nat) (w : World) (e : Ending) (w' : World) : Prop := (∃ va m vc ds, e = .returned (.slice va m vc) ∧ SlR (fdC x z Y) 6 w' va m vc ds ∧ ds = fdTo x z Y wi (tlRs ts) n ∧ m ≤ 540) ∧ Below w.heap.size w w'
theorem tlRs_get {ts : List Tl} {i : Nat} {t : Tl} (h : ts[i]? = some t) : (tlRs ts).getD i [] = t.rs.map Prod.snd := by
  unfold tlRs
  rw [List.getD_eq_getElem?_getD, List.getElem?_map, h]
  rfl
theorem rsm_get {rs : List (RHd × Rc)} {k : Nat} {h : RHd} {r : Rc} (e : rs[k]? = some (h, r)) : (rs.map Prod.snd).getD k rcN0 = r := by
  rw [List.getD_eq_getElem?_getD, List.getElem?_map, e]
  rfl
set_option maxRecDepth 100000 in
set_option maxHeartbeats 16000000 in
theorem hpfloors_any (a : Option Addr) (n c : Nat) (ts : List Tl) (x z y wi : Int) (w : World) (hx : SlTl w a n c ts) (hn9 : n ≤ 9) (hr : ∀ t ∈ ts, t.rn ≤ 60) (hg : ∀ t ∈ ts, ∀ p ∈ t.rs, ∀ f, rcAt p.2 x z = some f → -2048 ≤ f.y ∧ f.y ≤ 2048) :
    Calls Tryz.prog 17 #[.slice a n c, .agg #[.int .i64 x, .int .i64 z, .int .i64 y], .int .i64 wi] w (FlPost x z (clY y) wi ts n w) := by
  have Hl := Lib.hid hx.sl.len
  have hmax := hx.sl.max
  have hle := hx.sl.le
  have HX := Lib.hid (fun W (hb : Below w.heap.size w W) => hx.below hb (Nat.le_refl _))
  have HR := Lib.hid hr
  have HG := Lib.hid hg
  have AT := Lib.hid (fun h r W hs => rcat_any h r x z W hs)
  clear hx hr hg
  have hYb := clY_bd y
  obtain ⟨Y, hY⟩ : ∃ Y, Y = clY y := ⟨_, rfl⟩
  rw [← hY] at hYb ⊢
  have HY : Hid (min (max y (-1099511627776)) 1099511627776 = Y) := hY.symm
  clear hY
  obtain ⟨S0, hS0⟩ : ∃ S, S = w.heap.size := ⟨_, rfl⟩
  obtain ⟨W1, hW1⟩ : ∃ W, W = w.alloc (.cells #[.int .i64 x, .int .i64 z, .int .i64 y] 26 (0, 0)) := ⟨_, rfl⟩
  have hF : FlAt w S0 x z y Y W1.heap.size none 0 0 [] W1 := by
    have hs : W1.heap.size = w.heap.size + 1 := by rw [hW1, World.size_alloc]
    refine ⟨?_, ?_, OwnR.nil _ _ _ _ _, by omega, by omega, Nat.le_refl _⟩
    · rw [hW1]; exact (Below.refl _ _).alloc (Nat.le_refl _) _
    · rw [hW1, hS0]; exact World.alloc_heap_new w (.cells #[.int .i64 x, .int .i64 z, .int .i64 y] 26 (0, 0))
  obtain ⟨L, hL⟩ : ∃ L, L = W1.heap.size := ⟨_, rfl⟩
  rw [← hL] at hF
  clear hL
  have s2 := hcell (k := 2) (v := .int .i64 y) hF.s rfl
  dsimp only [rcV, flrV] at AT
  go_enter Tryz.func17, Tryz.ntmps17
  go_upto_region 2 with fail
  rw [← hW1, ← hS0]
  clear hW1 hS0
  go_upto_region 3 with fail
  clear s2
  rw [HY.out]
  clear HY
  go_wp2_with fail
  go_loopw [7, 22] (fun s7 s22 wr => ∃ (i : Nat) (va : Option Addr) (m vc : Nat) (ds : List Fd), s7 = .slice va m vc ∧ s22 = .int .i64 i ∧ i ≤ n ∧ Hid (ds = fdTo x z Y wi (tlRs ts) i) ∧ m ≤ i * 60 ∧ FlAt w S0 x z y Y L va m vc ds wr) (fun _ s22 _ => n - (intOf s22).toNat)
  case atStart => exact ⟨0, none, 0, 0, [], rfl, rfl, Nat.zero_le _, rfl, Nat.le_refl _, hF⟩
  case round =>
    clear hF
    obtain ⟨i, va, m, vc, ds, rfl, rfl, hi, HD, hm, hF⟩ := hrel
    by_cases hin : i < n
    case neg =>
      obtain rfl : i = n := by omega
      have hI : ¬ (i : Int) < (i : Int) := by omega
      go_wp2
      go_ret
      obtain ⟨xa, xc, e, hsl⟩ := OwnR.reads (fdC_len x z Y) hF.own
      cases e
      exact And.intro ⟨_, _, _, ds, rfl, hsl, HD.out, by omega⟩ hF.bel
    have hI : (i : Int) < (n : Int) := by omega
    have wi1 : IntKind.i64.wrap ((i : Int) + 1) = ((i + 1 : Nat) : Int) := by rw [IntKind.wrap_i64]; omega
    obtain ⟨t, hti⟩ : ∃ t, ts[i]? = some t := ⟨_, List.getElem?_eq_getElem (by rw [Hl.out]; exact hin)⟩
    have htm := List.mem_of_getElem? hti
    have hrn := HR.out t htm
    have HGT := Lib.hid (HG.out t htm)
    have HTI := Lib.hid (tlRs_get hti)
    have hw := HX.out _ hF.bel
    have HTW := Lib.hid (fun W (hb : Below w.heap.size w W) => (HX.out W hb).each t htm |>.1)
    obtain ⟨B, off, rfl, _, _⟩ := hw.sl.at0 (by omega)
    have r0 := hw.sl.cells hti 0 _ rfl
    have r1 := hw.sl.cells hti 1 _ rfl
    have r2 := hw.sl.cells hti 2 _ rfl
    have r3 := hw.sl.cells hti 3 _ rfl
    simp only [Nat.add_zero] at r0
    have hrl := (HTW.out _ hF.bel).sl.len
    have hrle := (HTW.out _ hF.bel).sl.le
    have hrmax := (HTW.out _ hF.bel).sl.max
    have hA : Below wr.heap.size wr (wr.alloc (.cells #[.int .i64 t.x, .int .i64 t.z, .slice t.ra t.rn t.rc, .slice t.da t.dn t.dc] 38 (0, 0))) := (Below.refl _ _).alloc (Nat.le_refl _) _
    have hN := World.alloc_heap_new wr (.cells #[.int .i64 t.x, .int .i64 t.z, .slice t.ra t.rn t.rc, .slice t.da t.dn t.dc] 38 (0, 0))
    have hF2 := hF.below hA
    have q2 := hcell (k := 2) (v := .slice t.ra t.rn t.rc) hN rfl
    obtain ⟨W2, hW2⟩ : ∃ W, W = wr.alloc (.cells #[.int .i64 t.x, .int .i64 t.z, .slice t.ra t.rn t.rc, .slice t.da t.dn t.dc] 38 (0, 0)) := ⟨_, rfl⟩
    obtain ⟨T2, hT2⟩ : ∃ T, T = wr.heap.size := ⟨_, rfl⟩
    rw [← hW2] at hF2 q2
    rw [← hT2] at q2
    have Hti := Lib.hid hti
    have Hrl := Lib.hid hrl
    clear hA hN hF hw hti htm hrl
    go_upto_region 6 with fail
    rw [← hW2, ← hT2]
    clear hW2 hT2 r0 r1 r2 r3
    go_wp2_with fail
    clear q2
    go_loopw [7, 30] (fun s7 s30 wr => ∃ (k : Nat) (va : Option Addr) (m2 vc : Nat) (ds : List Fd), s7 = .slice va m2 vc ∧ s30 = .int .i64 k ∧ k ≤ t.rn ∧ Hid (ds = fdTo x z Y wi (tlRs ts) i ++ fdRow x z Y wi i (t.rs.map Prod.snd) k) ∧ m2 ≤ m + k ∧ FlAt w S0 x z y Y L va m2 vc ds wr) (fun _ s30 _ => t.rn - (intOf s30).toNat)
    case atStart => exact ⟨0, va, m, vc, ds, rfl, rfl, Nat.zero_le _, (by show _ = _; rw [HD.out]; simp [fdRow]), Nat.le_refl _, hF2⟩
    case round =>
      clear hF2 HD
      obtain ⟨k, va, m2, vc, ds, rfl, rfl, hk, HD, hm2, hF⟩ := hrel
      by_cases hkn : k < t.rn
      case neg =>
        obtain rfl : k = t.rn := by omega
        have hK : ¬ (t.rn : Int) < (t.rn : Int) := by omega
        have HD2 : Hid (ds = fdTo x z Y wi (tlRs ts) (i + 1)) := by
          show _ = _
          rw [fdTo_succ, HTI.out, List.length_map, Hrl.out]
          exact HD.out
        go_wp2
        go_roundw
        case rel => exact ⟨i + 1, va, m2, vc, ds, rfl, by go_num, by omega, HD2, by omega, hF⟩
        case measure => simp [intOf]; omega
      have hK : (k : Int) < (t.rn : Int) := by omega
      have wk1 : IntKind.i64.wrap ((k : Int) + 1) = ((k + 1 : Nat) : Int) := by rw [IntKind.wrap_i64]; omega
      have hR := HTW.out _ hF.bel
      obtain ⟨⟨h, r⟩, hrk⟩ : ∃ p, t.rs[k]? = some p := ⟨_, List.getElem?_eq_getElem (by rw [Hrl.out]; exact hkn)⟩
      have hgr := HGT.out (h, r) (List.mem_of_getElem? hrk)
      have HRK := Lib.hid (rsm_get hrk)
      obtain ⟨B2, off2, hra, _, _⟩ := hR.sl.at0 (by omega)
      have hR2 := hR
      rw [hra] at hR2
      have hrr := fun j u (hu : (rcF7 (h, r))[j]? = some u) => hR2.at hrk j u hu
      have hone := fun W (hb : Below wr.heap.size wr W) => (hR.below hb (Nat.le_refl _)).one hrk
      have p0 := hrr 0 _ rfl
      have p1 := hrr 1 _ rfl
      have p2 := hrr 2 _ rfl
      have p3 := hrr 3 _ rfl
      have p4 := hrr 4 _ rfl
      have p5 := hrr 5 _ rfl
      have p6 := hrr 6 _ rfl
      simp only [Nat.add_zero] at p0
      have HON := Lib.hid hone
      have HRA := Lib.hid hra
      have hrw : t.ra = some ⟨B2, off2, none⟩ := hra
      have hA : Below wr.heap.size wr (wr.alloc (rcO h r)) := (Below.refl _ _).alloc (Nat.le_refl _) _
      have hN := World.alloc_heap_new wr (rcO h r)
      dsimp only [rcO] at hA hN
      have hF2 := hF.below hA
      obtain ⟨W3, hW3⟩ : ∃ W, W = wr.alloc (.cells #[.int .i64 r.x0, .int .i64 r.z0, .int .i64 r.x1, .int .i64 r.z1, .int .i64 r.area, .slice h.ya r.ys.length h.yc, .slice h.ta r.ts.length h.tc] 55 (0, 0)) := ⟨_, rfl⟩
      obtain ⟨T3, hT3⟩ : ∃ T, T = wr.heap.size := ⟨_, rfl⟩
      rw [← hW3] at hF2 hA hN
      rw [← hT3] at hN
      have hAT := AT.out h r W3 (HON.out _ hA)
      clear hrr hone hR hR2 hrk hra hF hA
      rw [hrw]
      go_upto_region 9 with fail
      rw [← hW3, ← hT3]
      clear hW3 hT3 p0 p1 p2 p3 p4 p5 p6 hrw
      have c0 := hcell (k := 0) (v := .int .i64 r.x0) hN rfl
      have c1 := hcell (k := 1) (v := .int .i64 r.z0) hN rfl
      have c2 := hcell (k := 2) (v := .int .i64 r.x1) hN rfl
      have c3 := hcell (k := 3) (v := .int .i64 r.z1) hN rfl
      have c4 := hcell (k := 4) (v := .int .i64 r.area) hN rfl
      have c5 := hcell (k := 5) (v := .slice h.ya r.ys.length h.yc) hN rfl
      have c6 := hcell (k := 6) (v := .slice h.ta r.ts.length h.tc) hN rfl
      have s0 := hcell (k := 0) (v := .int .i64 x) hF2.s rfl
      have s1 := hcell (k := 1) (v := .int .i64 z) hF2.s rfl
      clear hN
      obtain ⟨f, hf⟩ : ∃ f, f = rcF r x z := ⟨_, rfl⟩
      obtain ⟨ok, hok⟩ : ∃ o, o = (rcAt r x z).isSome := ⟨_, rfl⟩
      rw [← hf, ← hok] at hAT
      have hfb : -2048 ≤ f.y ∧ f.y ≤ 2048 := by
        rw [hf]
        unfold rcF
        cases e : rcAt r x z with
        | none => exact ⟨by decide, by decide⟩
        | some g => exact hgr g e
      have HNO : Hid (ok = false → fdOne x z Y wi i k r = []) := fun h => fdOne_no (by rw [← hok]; exact h)
      have HFAR : Hid (¬ offD Y f.y ≤ wi → fdOne x z Y wi i k r = []) := fun h => fdOne_far (by rw [← hf]; exact h)
      have HIN : Hid (ok = true → offD Y f.y ≤ wi → fdOne x z Y wi i k r = [⟨i, k, f.y⟩]) := fun h1 h2 => by
        rw [fdOne_in (by rw [← hok]; exact h1) (by rw [← hf]; exact h2), hf]
      clear hf hok hgr
      obtain ⟨fy, ft, fa⟩ := f
      dsimp only at hAT hfb HFAR HIN
      have HDS : Hid (∀ l, fdOne x z Y wi i k r = l → ds ++ l = fdTo x z Y wi (tlRs ts) i ++ fdRow x z Y wi i (t.rs.map Prod.snd) (k + 1)) := fun l hl => by
        rw [fdRow_succ, HRK.out, hl, HD.out, List.append_assoc]
      clear HD HRK
      have wa : IntKind.i64.wrap (fy - Y) = fy - Y := by rw [IntKind.wrap_i64]; omega
      have wb : IntKind.i64.wrap (Y - fy) = Y - fy := by rw [IntKind.wrap_i64]; omega
      go_wp2_with fail
      refine hAT.mono ?_
      rintro e w4 ⟨rfl, hb4⟩
      have hF4 := hF2.below hb4
      clear s0 s1 hAT hF2 hb4 c0 c1 c2 c3 c4 c5 c6
      have hA : Below w4.heap.size w4 (w4.alloc (.cells #[.int .i64 fy, .int .i64 ft, .int .i64 fa] 84 (0, 0))) := (Below.refl _ _).alloc (Nat.le_refl _) _
      have hN := World.alloc_heap_new w4 (.cells #[.int .i64 fy, .int .i64 ft, .int .i64 fa] 84 (0, 0))
      have hF5 := hF4.below hA
      obtain ⟨W5, hW5⟩ : ∃ W, W = w4.alloc (.cells #[.int .i64 fy, .int .i64 ft, .int .i64 fa] 84 (0, 0)) := ⟨_, rfl⟩
      obtain ⟨T5, hT5⟩ : ∃ T, T = w4.heap.size := ⟨_, rfl⟩
      rw [← hW5] at hF5 hN
      rw [← hT5] at hN
      go_upto_region 10 with fail
      rw [← hW5, ← hT5]
      clear hW5 hT5 hA hF4
      have g0 := hcell (k := 0) (v := .int .i64 fy) hN rfl
      have Hmx : Hid (max (fy - Y) (Y - fy) = offD Y fy) := rfl
      go_upto_region 11 with fail
      rw [Hmx.out]
      obtain ⟨O, hO⟩ : ∃ O, O = offD Y fy := ⟨_, rfl⟩
      rw [← hO] at HFAR HIN ⊢
      have HO := Lib.hid hO
      clear hO Hmx wa wb
      cases ok with
      | false =>
        have HD2 : Hid (ds = fdTo x z Y wi (tlRs ts) i ++ fdRow x z Y wi i (t.rs.map Prod.snd) (k + 1)) := by have := HDS.out [] (HNO.out rfl); rwa [List.append_nil] at this
        go_wp2
        go_roundw
        case rel => exact ⟨k + 1, va, m2, vc, ds, rfl, by go_num, by omega, HD2, by omega, hF5⟩
        case measure => simp [intOf]; omega
      | true =>
      by_cases hfar : O ≤ wi
      case neg =>
        have HD2 : Hid (ds = fdTo x z Y wi (tlRs ts) i ++ fdRow x z Y wi i (t.rs.map Prod.snd) (k + 1)) := by have := HDS.out [] (HFAR.out (by omega)); rwa [List.append_nil] at this
        go_wp2
        go_roundw
        case rel => exact ⟨k + 1, va, m2, vc, ds, rfl, by go_num, by omega, HD2, by omega, hF5⟩
        case measure => simp [intOf]; omega
      have HD2 : Hid (ds ++ [⟨i, k, fy⟩] = fdTo x z Y wi (tlRs ts) i ++ fdRow x z Y wi i (t.rs.map Prod.snd) (k + 1)) := HDS.out _ (HIN.out rfl hfar)
      have s0 := hcell (k := 0) (v := .int .i64 x) hF5.s rfl
      have s1 := hcell (k := 1) (v := .int .i64 z) hF5.s rfl
      have HF5 := Lib.hid hF5
      have hown := hF5.own
      have hlw := hF5.lw
      have HOE : Hid (fdC x z Y ⟨i, k, fy⟩ = [.int .i64 (i : Int), .int .i64 (k : Int), .int .i64 x, .int .i64 z, .int .i64 fy, .int .i64 O]) := by show _ = _; rw [HO.out]; rfl
      clear hF5 HNO HFAR HIN HDS
      go_wp2_with (at_builtin; rw [show (#[.int .i64 (i : Int), .int .i64 (k : Int), .int .i64 x, .int .i64 z, .int .i64 fy, .int .i64 O] : Array Value) = (fdC x z Y ⟨i, k, fy⟩).toArray from by rw [HOE.out]]; refine wpList_appR (f := fdC x z Y) (sz := 6) (e := 63) (B := L) (n := m2) (xs := ds) _ (fdC_len x z Y) (fdC_one x z Y) rfl _ _ 66 rfl (.agg #[.int .i64 0, .int .i64 0, .int .i64 0, .int .i64 0, .int .i64 0, .int .i64 0]) 48 Tryz.underlying66 info_fd rfl (by decide) ⟨i, k, fy⟩ 63 hown rfl rfl (by omega) (by omega) hlw ?_; intro v' w' hown' happ; obtain ⟨xa, xc, rfl, _⟩ := OwnR.reads (fdC_len x z Y) hown')
      have hF6 := HF5.out.app hown' happ
      clear s0 s1 g0 happ hown' hown HF5 hlw hN
      go_wp2
      go_roundw
      case rel => exact ⟨k + 1, xa, m2 + 1, xc, _, rfl, by go_num, by omega, HD2, by omega, hF6⟩
      case measure => simp [intOf]; omega
end Go.Proofs.YtmgkkmcihplojaaGreat
