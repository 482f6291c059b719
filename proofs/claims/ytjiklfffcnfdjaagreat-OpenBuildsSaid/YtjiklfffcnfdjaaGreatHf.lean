/- Walks: open.Build. -/
import Derived.Test.YtjiklfffcnfdjaaGreatHe
import Derived.Test.YtjiklfffcnfdjaaGreatHc
import Derived.Test.YtjiklfffcnfdjaaGreatGf
namespace Go.Proofs.YtjiklfffcnfdjaaGreat
open Go.RowKit
attribute [local go_sem] Instr.index

abbrev grdV (x z w d : Int) (v : Value) : Value := .agg #[.int .i64 x, .int .i64 z, .int .i64 w, .int .i64 d, v]
abbrev grdO (x z w d : Int) (v : Value) : Obj := .cells #[.int .i64 x, .int .i64 z, .int .i64 w, .int .i64 d, v] 34 (0, 0)
theorem info_flrs : (Tryz.prog.info? 28).map (fun i => (i.zero, i.size, i.bytes)) = some (some (.slice none 0 0), 1, 24) := by kernel_rfl
theorem map_take_succ {α β : Type} {l : List α} {g : α → β} {k : Nat} {x : α} (h : l[k]? = some x) : (l.take (k + 1)).map g = (l.take k).map g ++ [g x] := by
  rw [List.take_add_one, h]
  simp
/-- Where it is refused. -/
theorem build_err (cf : Cfg) (a : Option Addr) (n c : Nat) (xs : List Tr) (x z bw bd : Int) (w : World) (hx : SlTr w a n c xs) (h0 : (boxR cf xs x z bw bd).2 ≠ 0) :
    Calls Tryz.prog 8 #[cfgV cf, .slice a n c, .int .i64 x, .int .i64 z, .int .i64 bw, .int .i64 bd] w fun e w' => e = .returned (.tuple #[grdV 0 0 0 0 (.slice none 0 0), .int .i64 (boxR cf xs x z bw bd).2]) ∧ Below w.heap.size w w' := by
  have BX := Lib.hid (fun W hW => box_any cf a n c xs x z bw bd W hW)
  have hC := halloc (World.alloc_heap_new w (cfgO cf)) (grdO 0 0 0 0 (.slice none 0 0))
  have hG := World.alloc_heap_new (w.alloc (cfgO cf)) (grdO 0 0 0 0 (.slice none 0 0))
  have hB : Below w.heap.size w ((w.alloc (cfgO cf)).alloc (grdO 0 0 0 0 (.slice none 0 0))) := ((Below.refl _ _).alloc (Nat.le_refl _) _).alloc (by simp) _
  have hS := (hx.alloc (cfgO cf)).alloc (grdO 0 0 0 0 (.slice none 0 0))
  simp only [World.size_alloc] at hG
  clear hx
  generalize boxR cf xs x z bw bd = R at BX h0 ⊢
  obtain ⟨rows, er⟩ := R
  dsimp only at h0 ⊢
  have h0' : (er != 0) = true := by simpa using h0
  obtain ⟨cl, climb, height, rise, run, cw, cd⟩ := cf
  dsimp only [cfgO, cfgV, grdO, grdV] at BX hC hG hB hS ⊢
  go_enter Tryz.func8, Tryz.ntmps8
  go_wp2_with fail
  refine (BX.out _ hS).mono ?_
  rintro e w1 ⟨v, rfl, _, hb1⟩
  have hG1 := hkeep hb1 hG
  have hB1 := hB.trans (hb1.mono hB.size)
  clear hC hG hB hS hb1
  dsimp only
  have f0 := hfroz (k := 0) hG1
  have f1 := hfroz (k := 1) hG1
  have f2 := hfroz (k := 2) hG1
  have f3 := hfroz (k := 3) hG1
  have f4 := hfroz (k := 4) hG1
  have z0 := hcell (k := 0) (v := .int .i64 0) hG1 rfl
  have z1 := hcell (k := 1) (v := .int .i64 0) hG1 rfl
  have z2 := hcell (k := 2) (v := .int .i64 0) hG1 rfl
  have z3 := hcell (k := 3) (v := .int .i64 0) hG1 rfl
  have z4 := hcell (k := 4) (v := .slice none 0 0) hG1 rfl
  have hG2 := box5_set hG1 (.int .i64 0) (.int .i64 0) (.int .i64 0) (.int .i64 0) (.slice none 0 0)
  have hB2 := hB1.grown (box5_grown (b := w.heap.size + 1) (.int .i64 0) (.int .i64 0) (.int .i64 0) (.int .i64 0) (.slice none 0 0)) hB1.size (fun j hj => by cases hj; omega)
  go_wp2
  (try simp only [Exit.inBlock, Exit.then])
  refine bodyPost_ret (results_ct1 rfl _ _ (w.heap.size + 1) 34 #[.int .i64 0, .int .i64 0, .int .i64 0, .int .i64 0, .slice none 0 0] (0, 0) _ rfl hG2 Tryz.underlying34 rfl (by kernel_rfl)) rfl ⟨?_, hB2⟩
  rfl
set_option maxRecDepth 100000 in
set_option maxHeartbeats 4000000 in
theorem build_ok (cf : Cfg) (a : Option Addr) (n c : Nat) (xs : List Tr) (x z bw bd : Int) (w : World) (hx : SlTr w a n c xs) (h0 : (boxR cf xs x z bw bd).2 = 0) (hl : (boxR cf xs x z bw bd).1.length ≤ 4096) :
    Calls Tryz.prog 8 #[cfgV cf, .slice a n c, .int .i64 x, .int .i64 z, .int .i64 bw, .int .i64 bd] w fun e w' => ∃ sv, e = .returned (.tuple #[grdV x z bw bd sv, .int .i64 0]) ∧ OwnRR flrC 3 28 w.heap.size w' sv ((boxR cf xs x z bw bd).1.map (flrs cf)) ∧ Below w.heap.size w w' := by
  have BX := Lib.hid (fun W hW => box_any cf a n c xs x z bw bd W hW)
  have FL := Lib.hid (fun (a' : Option Addr) (n' c' : Nat) (l : List Spn) (W : World) hW => floors_any cf a' n' c' l W hW)
  have hC := halloc (World.alloc_heap_new w (cfgO cf)) (grdO 0 0 0 0 (.slice none 0 0))
  have hG := World.alloc_heap_new (w.alloc (cfgO cf)) (grdO 0 0 0 0 (.slice none 0 0))
  have hB : Below w.heap.size w ((w.alloc (cfgO cf)).alloc (grdO 0 0 0 0 (.slice none 0 0))) := ((Below.refl _ _).alloc (Nat.le_refl _) _).alloc (by simp) _
  have hS := (hx.alloc (cfgO cf)).alloc (grdO 0 0 0 0 (.slice none 0 0))
  simp only [World.size_alloc] at hG
  clear hx
  generalize boxR cf xs x z bw bd = R at BX h0 hl ⊢
  obtain ⟨rows, er⟩ := R
  dsimp only at h0 hl ⊢
  subst h0
  obtain ⟨F, hF⟩ : ∃ F : List Spn → List Flr, F = flrs cf := ⟨_, rfl⟩
  rw [← hF]
  have FL2 : Hid (∀ (a' : Option Addr) (n' c' : Nat) (l : List Spn) (W : World), SlSp W a' n' c' l → Calls Tryz.prog 6 #[cfgV cf, .slice a' n' c'] W fun e w' => ∃ v er, e = .returned (.tuple #[v, .int .i64 er]) ∧ OwnR flrC 3 43 W.heap.size w' v (F l).length (F l) ∧ Below W.heap.size W w') := by
    intro a' n' c' l W hW
    refine (FL.out a' n' c' l W hW).mono ?_
    rintro e w' ⟨v, h1, h2, h3⟩
    exact ⟨v, _, h1, by rw [hF]; exact h2, h3⟩
  clear FL hF
  obtain ⟨cl, climb, height, rise, run, cw, cd⟩ := cf
  dsimp only [cfgO, cfgV, grdO, grdV] at BX FL2 hC hG hB hS ⊢
  go_enter Tryz.func8, Tryz.ntmps8
  go_wp2_with fail
  refine (BX.out _ hS).mono ?_
  rintro e w1 ⟨v, rfl, hv, hb1⟩
  have hG1 := hkeep hb1 hG
  have hC1 := hkeep hb1 hC
  have hB1 := hB.trans (hb1.mono hB.size)
  obtain ⟨ra, rc, hs, rfl, hr1⟩ := hv.reads
  dsimp only at hr1 ⊢
  have HRR := Lib.hid hr1
  clear hC hG hB hS hb1 hv BX hr1
  obtain ⟨N, hN⟩ : ∃ N, N = rows.length := ⟨_, rfl⟩
  rw [← hN] at HRR hl ⊢
  have HN := Lib.hid hN
  clear hN
  have hrm := HRR.out.out.max
  have hrle := HRR.out.out.le
  obtain ⟨T, hTT⟩ : ∃ T, T = w.heap.size := ⟨_, rfl⟩
  rw [← hTT] at hC1 hG1
  have HTT := Lib.hid hTT
  clear hTT
  rw [← HTT.out]
  have hTl := hblt hG1
  have hC2 := halloc hC1 (.cells #[.int .i64 x, .int .i64 z, .int .i64 bw, .int .i64 bd, .slice none 0 0] 34)
  have hG2 := halloc hG1 (.cells #[.int .i64 x, .int .i64 z, .int .i64 bw, .int .i64 bd, .slice none 0 0] 34)
  have hg2 := World.alloc_heap_new w1 (.cells #[.int .i64 x, .int .i64 z, .int .i64 bw, .int .i64 bd, .slice none 0 0] 34)
  have hb2 : Below w1.heap.size w1 (w1.alloc (.cells #[.int .i64 x, .int .i64 z, .int .i64 bw, .int .i64 bd, .slice none 0 0] 34)) := (Below.refl _ _).alloc (Nat.le_refl _) _
  have hsz2 : (w1.alloc (.cells #[.int .i64 x, .int .i64 z, .int .i64 bw, .int .i64 bd, .slice none 0 0] 34)).heap.size = w1.heap.size + 1 := by simp
  go_wp2
  generalize w1.alloc (.cells #[.int .i64 x, .int .i64 z, .int .i64 bw, .int .i64 bd, .slice none 0 0] 34) = w2 at hC2 hG2 hg2 hb2 hsz2 ⊢
  obtain ⟨G, hGG⟩ : ∃ G, G = w1.heap.size := ⟨_, rfl⟩
  have HGG := Lib.hid hGG
  have hs2 : G + 1 ≤ w2.heap.size := by omega
  rw [← hGG] at hg2 ⊢
  clear hGG hsz2
  go_loopw [42] (fun s42 wr => ∃ (k : Nat) (sv : Value), s42 = .int .i64 k ∧ k ≤ N ∧ wr.heap[G]? = some (.cells #[.int .i64 x, .int .i64 z, .int .i64 bw, .int .i64 bd, sv] 34 (0, 0)) ∧ OwnRR flrC 3 28 (G + 1) wr sv ((rows.take k).map F) ∧ Below w1.heap.size w1 wr) (fun s42 _ => N - (intOf s42).toNat)
  case atStart => exact ⟨0, _, rfl, Nat.zero_le _, hg2, OwnRR.nil _ _ _ _ _, hb2⟩
  case round =>
    clear hg2 hb2 hC2 hG2 hs2
    obtain ⟨k, sv, rfl, hk, hg, hown, hbr⟩ := hrel
    obtain ⟨sa, sc, _, hsv, -⟩ := hown.reads
    obtain ⟨sn, hsn⟩ : ∃ sn, sn = ((rows.take k).map F).length := ⟨_, rfl⟩
    rw [← hsn] at hsv
    clear hsn
    subst hsv
    have hGw : w1.heap.size ≤ G := by have := HGG.out; omega
    by_cases hlt : k < N
    · have hltI : (k : Int) < (N : Int) := by omega
      obtain ⟨r, hrk⟩ : ∃ r, rows[k]? = some r := ⟨_, List.getElem?_eq_getElem (by rw [← HN.out]; exact hlt)⟩
      have hrr := HRR.out.below hbr (Nat.le_refl _)
      obtain ⟨bk, off, rfl, hbl, _⟩ := hrr.out.at0 (by omega)
      obtain ⟨h5, hcell5, hsl5⟩ := hrr.at hrk
      obtain ⟨ha5, hn5, hc5⟩ := h5
      dsimp only at hcell5 hsl5
      have HMT : Hid ((rows.take (k + 1)).map F = (rows.take k).map F ++ [F r]) := map_take_succ hrk
      have hCr := hkeep hbr hC1
      have e0 := hcell (k := 0) (v := .int .i64 cl) hCr rfl
      have e1 := hcell (k := 1) (v := .int .i64 climb) hCr rfl
      have e2 := hcell (k := 2) (v := .int .i64 height) hCr rfl
      have e3 := hcell (k := 3) (v := .int .i64 rise) hCr rfl
      have e4 := hcell (k := 4) (v := .int .i64 run) hCr rfl
      have e5 := hcell (k := 5) (v := .int .i64 cw) hCr rfl
      have e6 := hcell (k := 6) (v := .int .i64 cd) hCr rfl
      have FL3 := Lib.hid (FL2.out ha5 hn5 hc5 r wr hsl5)
      have hml : ((rows.take k).map F).length ≤ k := by simp; omega
      generalize (rows.take k).map F = MT at hown HMT hml
      clear hrr hsl5 hrk FL2
      go_wp2_with fail
      refine FL3.out.mono ?_
      rintro e w5 ⟨v5, er5, rfl, hv5, hb5⟩
      obtain ⟨a5, k5, rfl, r5⟩ := OwnR.reads (f := flrC) (sz := 3) (fun _ => rfl) hv5
      have had := own_addr hv5
      have hg5 := hkeep hb5 hg
      have hglt := hblt hg
      obtain ⟨hs5, ho5, hr5⟩ := hown.below hb5 (Nat.le_refl _)
      obtain ⟨_, ho0, _⟩ := hown
      have hB5 := hbr.trans (hb5.mono hbr.size)
      have hsz5 := hb5.size
      have hl5 : hs5.length ≤ 4096 := by rw [hr5.1]; omega
      have hne : (Value.slice sa sn sc).ownBlock ≠ some G := fun e => by have := (ho5.lt G e).1; omega
      have hlt5 : ∀ j, (Value.slice sa sn sc).ownBlock = some j → j < wr.heap.size := fun j e => (ho0.lt j e).2
      clear e0 e1 e2 e3 e4 e5 e6 hcell5 hg hv5 FL3 ho0
      have z4 := hcell (k := 4) (v := .slice sa sn sc) hg5 rfl
      have hbase : G + 1 ≤ w5.heap.size := by omega
      go_upto_region 9 with fail
      go_wp2_with (at_builtin; refine wpList_appR (f := hdC) (sz := 1) (e := 28) (B := G + 1) (n := hs5.length) (xs := hs5) _ hdC_len hdC_one rfl _ _ 32 rfl (.slice none 0 0) 24 Tryz.underlying32 info_flrs rfl (by decide) (⟨a5, (F r).length, k5⟩ : Hd) 28 ho5 rfl rfl (by omega) (by omega) hbase ?_; intro vq wq hownq hAppd; obtain ⟨qa, qc, rfl, _⟩ := OwnR.reads hdC_len hownq; have hgq := hgrown hAppd.grown hg5 hne; have fq := hfroz (k := 4) hgq; have zq := hcell (k := 4) (v := .slice sa sn sc) hgq rfl)
      have hBq := (hB5.grown hAppd.grown hB5.size (fun j hj => by have := (ho5.lt j hj).1; omega)).setCell (p := ⟨G, 4, none⟩) hGw (.slice qa (hs5.length + 1) qc)
      have hOq := (OwnRR.app (h := ⟨a5, (F r).length, k5⟩) hr5 r5 (fun ad hh => ⟨by have := (had ad hh).1; omega, (had ad hh).2, fun e => by have := hlt5 _ e; have := (had ad hh).1; omega⟩) (by simpa using hownq) hAppd).grown (grown_set wq G 4 (.slice qa (hs5.length + 1) qc)) (Nat.lt_succ_self G)
      rw [← HMT.out] at hOq
      go_roundw
      case rel => exact ⟨k + 1, _, by go_num, by omega, box5_last hgq _, hOq, hBq⟩
      case measure => simp [intOf]; omega
    · obtain rfl : k = N := by omega
      rw [List.take_of_length_le (by rw [← HN.out]; exact Nat.le_refl _)] at hown
      have hGr := hkeep hbr hG1
      have hB3 := hB1.trans (hbr.mono hB1.size)
      have hTT2 := HTT.out
      have z0 := hcell (k := 0) (v := .int .i64 x) hg rfl
      have z1 := hcell (k := 1) (v := .int .i64 z) hg rfl
      have z2 := hcell (k := 2) (v := .int .i64 bw) hg rfl
      have z3 := hcell (k := 3) (v := .int .i64 bd) hg rfl
      have z4 := hcell (k := 4) (v := .slice sa sn sc) hg rfl
      have f0 := hfroz (k := 0) hGr
      have f1 := hfroz (k := 1) hGr
      have f2 := hfroz (k := 2) hGr
      have f3 := hfroz (k := 3) hGr
      have f4 := hfroz (k := 4) hGr
      have y0 := hcell (k := 0) (v := .int .i64 0) hGr rfl
      have y1 := hcell (k := 1) (v := .int .i64 0) hGr rfl
      have y2 := hcell (k := 2) (v := .int .i64 0) hGr rfl
      have y3 := hcell (k := 3) (v := .int .i64 0) hGr rfl
      have y4 := hcell (k := 4) (v := .slice none 0 0) hGr rfl
      have hGs := box5_set hGr (.int .i64 x) (.int .i64 z) (.int .i64 bw) (.int .i64 bd) (.slice sa sn sc)
      have hGg := box5_grown (w := wr) (b := T + 1) (.int .i64 x) (.int .i64 z) (.int .i64 bw) (.int .i64 bd) (.slice sa sn sc)
      have hBs := hB3.grown hGg hB3.size (fun j hj => by cases hj; omega)
      have hOs := (hown.grown hGg (by omega)).mono (B' := w.heap.size) (by omega)
      clear hTT2 hB3 hown hg hGr hGg hbr HRR hG1 hC1
      go_wp2
      (try simp only [Exit.inBlock, Exit.then])
      refine bodyPost_ret (results_ct1 rfl _ _ (T + 1) 34 #[.int .i64 x, .int .i64 z, .int .i64 bw, .int .i64 bd, .slice sa sn sc] (0, 0) _ rfl hGs Tryz.underlying34 rfl (by kernel_rfl)) rfl ⟨_, rfl, hOs, hBs⟩
end Go.Proofs.YtjiklfffcnfdjaaGreat

namespace Go.Proofs.YtjiklfffcnfdjaaGreat

/-- May they be a column's floors? -/
def flrAt (fs : List Flr) (i : Nat) : Bool := match fs[i]? with
  | none => true
  | some f => decide ((match i with | 0 => -2048 | j + 1 => match fs[j]? with | none => 0 | some g => g.top) ≤ f.y) && decide (f.y ≤ 2048) && decide (f.y < f.top) && decide (f.top ≤ 1048576) && decide (0 ≤ f.area) && decide (f.area ≤ 7)
/-- What the grid that is built asks of its floors. -/
structure FlrsGood (cf : Cfg) (fs : List Flr) : Prop where
  len : fs.length ≤ 8
  each : ∀ (i : Nat) (f : Flr), fs[i]? = some f → (-2048 ≤ f.y ∧ f.y ≤ 2048 ∧ f.y < f.top ∧ f.top ≤ 1048576 ∧ f.area = 1 ∧ cf.height ≤ f.top - f.y)
  rises : ∀ (i : Nat) (f g : Flr), fs[i]? = some g → fs[i + 1]? = some f → g.top ≤ f.y
theorem eachUp_len_le (cf : Cfg) (xs : List Spn) (k : Nat) : (eachUp cf xs k).length ≤ k := eachUp_len cf xs k
theorem flrs_good (cf : Cfg) (xs : List Spn) : FlrsGood cf (flrs cf xs) := by
  cases h : (cfgOk cf && spOk xs) with
  | false =>
    have e : flrs cf xs = [] := by unfold flrs; rw [h]; rfl
    rw [e]
    exact ⟨by simp, fun i f hf => by simp at hf, fun i f g hg => by simp at hg⟩
  | true =>
    have hs : spOk xs = true := by simp only [Bool.and_eq_true] at h; exact h.2
    have hc : cfgOk cf = true := by simp only [Bool.and_eq_true] at h; exact h.1
    have hl8 : xs.length ≤ 8 := by simp only [spOk, Bool.and_eq_true, decide_eq_true_eq] at hs; exact hs.1
    have hfl : flrs cf xs = (eachL cf xs).map (flrOf xs) := by unfold flrs; rw [h]; rfl
    refine ⟨?_, ?_, ?_⟩
    · rw [hfl, List.length_map]
      have := eachUp_len cf xs xs.length
      unfold eachL
      omega
    · intro i f hf
      rw [hfl, List.getElem?_map] at hf
      cases hp : (eachL cf xs)[i]? with
      | none => rw [hp] at hf; cases hf
      | some p =>
        rw [hp] at hf
        have hf' : flrOf xs p = f := by simpa using hf
        have hmem := List.mem_of_getElem? hp
        have ho := eachUp_open cf xs xs.length p hmem
        obtain ⟨hrb, hri⟩ := eachUp_room cf xs xs.length p hmem
        obtain ⟨x, hx⟩ : ∃ x, xs[p.1]? = some x := ⟨_, List.getElem?_eq_getElem (openAt_lt ho)⟩
        have hfe : f = ⟨x.hi, p.2, 1⟩ := by rw [← hf']; simp [flrOf, hx]
        have htop : p.2 = roomN xs p.1 := by rw [hri, roomI_true hrb, Int.toNat_natCast]
        have hfit : fitsI cf xs p.1 = true := by
          unfold openAt at ho
          rw [hx] at ho
          simp only [Bool.and_eq_true] at ho
          exact ho.2
        have hh : cf.height ≤ roomN xs p.1 - x.hi := by
          unfold fitsI fitsN at hfit
          rw [Int.toNat_natCast, hx] at hfit
          simp only [Bool.and_eq_true, decide_eq_true_eq] at hfit
          exact hfit.2.2
        have hmx := spOk_may hs hx
        have hht : 1 ≤ cf.height := by
          unfold cfgOk at hc
          simp only [decide_eq_true_eq] at hc
          omega
        have hsky : roomN xs p.1 ≤ 1048576 := by
          unfold roomN
          split
          · omega
          · rename_i y hy
            have := spOk_may hs hy
            omega
        subst hfe
        dsimp only
        refine ⟨?_, ?_, ?_, ?_, ?_, ?_⟩ <;> first | rfl | omega
    · intro i f g hg hf
      exact (flr_good h hf).rises g (by omega) (by simpa using hg)
end Go.Proofs.YtjiklfffcnfdjaaGreat
