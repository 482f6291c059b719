/- Walks: where an end stands: mesh.Place; whether a hop may be: mesh.stands. -/
import Derived.Test.YtgfmdgiepomkiaaSmF
import Derived.Test.YtgfmdgiepomkiaaKo
import Derived.Lib.QuietBelow
namespace Go.Proofs.Ytgfmdgiepomkiaa
open Go.RowKit Go.Sort
attribute [local go_sem] Instr.index

theorem cas24 {P : (i : Nat) → i < 24 → Prop} (h0 : P 0 (by decide)) (h1 : P 1 (by decide)) (h2 : P 2 (by decide)) (h3 : P 3 (by decide)) (h4 : P 4 (by decide)) (h5 : P 5 (by decide)) (h6 : P 6 (by decide)) (h7 : P 7 (by decide)) (h8 : P 8 (by decide)) (h9 : P 9 (by decide)) (h10 : P 10 (by decide)) (h11 : P 11 (by decide)) (h12 : P 12 (by decide)) (h13 : P 13 (by decide)) (h14 : P 14 (by decide)) (h15 : P 15 (by decide)) (h16 : P 16 (by decide)) (h17 : P 17 (by decide)) (h18 : P 18 (by decide)) (h19 : P 19 (by decide)) (h20 : P 20 (by decide)) (h21 : P 21 (by decide)) (h22 : P 22 (by decide)) (h23 : P 23 (by decide)) (i : Nat) (h : i < 24) : P i h := by
  by_cases e : i < 12
  · rcases (by omega : i = 0 ∨ i = 1 ∨ i = 2 ∨ i = 3 ∨ i = 4 ∨ i = 5 ∨ i = 6 ∨ i = 7 ∨ i = 8 ∨ i = 9 ∨ i = 10 ∨ i = 11) with rfl | rfl | rfl | rfl | rfl | rfl | rfl | rfl | rfl | rfl | rfl | rfl <;> assumption
  · rcases (by omega : i = 12 ∨ i = 13 ∨ i = 14 ∨ i = 15 ∨ i = 16 ∨ i = 17 ∨ i = 18 ∨ i = 19 ∨ i = 20 ∨ i = 21 ∨ i = 22 ∨ i = 23) with rfl | rfl | rfl | rfl | rfl | rfl | rfl | rfl | rfl | rfl | rfl | rfl <;> assumption
theorem cas12 {P : (i : Nat) → i < 12 → Prop} (h0 : P 0 (by decide)) (h1 : P 1 (by decide)) (h2 : P 2 (by decide)) (h3 : P 3 (by decide)) (h4 : P 4 (by decide)) (h5 : P 5 (by decide)) (h6 : P 6 (by decide)) (h7 : P 7 (by decide)) (h8 : P 8 (by decide)) (h9 : P 9 (by decide)) (h10 : P 10 (by decide)) (h11 : P 11 (by decide)) (i : Nat) (h : i < 12) : P i h := by
  by_cases e : i < 6
  · rcases (by omega : i = 0 ∨ i = 1 ∨ i = 2 ∨ i = 3 ∨ i = 4 ∨ i = 5) with rfl | rfl | rfl | rfl | rfl | rfl <;> assumption
  · rcases (by omega : i = 6 ∨ i = 7 ∨ i = 8 ∨ i = 9 ∨ i = 10 ∨ i = 11) with rfl | rfl | rfl | rfl | rfl | rfl <;> assumption
theorem results_tct {P : Program} {fn : Func} {p q u : Tmp} {ty : TypeId} (h : fn.results = #[.tmp p, .cell q ty, .tmp u]) (tmps : Array Value) (w : World) (g : Nat) (t : TypeId) (cs : Array Value) (fr : Nat × Nat) (d : TypeDesc)
    (hp : tmps.getD q undef = .pointer (some ⟨g, 0, none⟩)) (hg : w.heap[g]? = some (.cells cs t fr))
    (hu : P.underlying ty = some d) (hd : (match d with | .struct _ | .array _ _ => true | _ => false) = true) (hi : (P.info? ty).map (·.size) = some cs.size) :
    (results fn tmps).run P w = .ok (.tuple #[tmps.getD p undef, .agg cs, tmps.getD u undef]) w := by
  have e1 : tmps[q]?.getD undef = .pointer (some ⟨g, 0, none⟩) := by simpa using hp
  simp [results, h, e1, asAddr, run_loadVar_row w g t ty cs fr d hg hu hd hi, Result.andThen]
theorem below_setP {w w1 w2 : World} {P : Nat} (h : Below w.heap.size w w1) (hP : w.heap.size ≤ P) (g : w1.grownBy w2 (some P)) : Below w.heap.size w w2 :=
  ⟨g.os.trans h.os, g.tape.trans h.tape, g.output.trans h.output, Nat.le_trans h.size g.size, fun i hi => (g.block i (Nat.lt_of_lt_of_le hi h.size) (fun e => by cases e; omega)).trans (h.block i hi)⟩
theorem grown_set3P (w : World) (g : Nat) (x y z : Value) : w.grownBy (((w.setCell ⟨g, 0, none⟩ x).setCell ⟨g, 1, none⟩ y).setCell ⟨g, 2, none⟩ z) (some g) := ((grown_set w g 0 x).trans (grown_set _ g 1 y)).trans (grown_set _ g 2 z)
def PlPost (w : World) (e : Ending) (w' : World) : Prop := (∃ (x fy ft fa : Int) (q : Bool), e = .returned (.tuple #[.int .i64 x, .agg #[.int .i64 fy, .int .i64 ft, .int .i64 fa], .bool q])) ∧ Below w.heap.size w w'
theorem setCell_idQ {w : World} {b i : Nat} {cs : Array Value} {t : TypeId} {fr : Nat × Nat} {v : Value} (h : w.heap[b]? = some (.cells cs t fr)) (hv : cs[i]? = some v) : w.setCell ⟨b, i, none⟩ v = w := by
  obtain ⟨hb, hbe⟩ := Array.getElem?_eq_some_iff.1 h
  obtain ⟨hi, hve⟩ := Array.getElem?_eq_some_iff.1 hv
  have e : w.heap.modify b (fun o => match o with | .cells c elem frozen => .cells (if (none : Option Nat).isSome then c else c.setIfInBounds i v) elem frozen | o => o) = w.heap := by
    apply Array.ext
    · simp
    · intro k h1 h2
      rw [Array.getElem_modify]
      split
      · rename_i hk
        subst hk
        rw [hbe]
        subst hve
        simp [Array.setIfInBounds, hi]
      · rfl
  unfold World.setCell
  exact congrArg (fun H => { w with heap := H }) e
set_option maxRecDepth 100000 in
set_option maxHeartbeats 32000000 in
theorem msplace_any (m : Msh) (e : En) (w : World) (hm : MshAt w m) :
    Calls Try.prog 105 #[mshV m, .agg #[.int .i64 e.tile, .int .i64 e.rect, .int .i64 e.x, .int .i64 e.z, .int .i64 e.y]] w (PlPost w) := by
  obtain ⟨et, er, ex, ez, ey⟩ := e
  obtain ⟨cf, ta, n, tc, ts, ra, rn, rc, rs, da, dn, dc, ds, ha, hn, hc, hs⟩ := m
  have hx := hm.t
  clear hm
  dsimp only at hx
  have Hl := Lib.hid hx.sl.len
  have hmax := hx.sl.max
  have hle := hx.sl.le
  have HX := Lib.hid (fun W (hb : Below w.heap.size w W) => hx.below hb (Nat.le_refl _))
  have FI := Lib.hid (fun q W (hb : Below w.heap.size w W) => smfirst_any ta n tc ts q W (hx.below hb (Nat.le_refl _)))
  clear hx
  dsimp only [mshV, mshA]
  have hB : Below w.heap.size w (((w.alloc (.cells #[.int .i64 cf.clear, .int .i64 cf.climb, .int .i64 cf.height, .int .i64 cf.rise, .int .i64 cf.run, .int .i64 cf.w, .int .i64 cf.d, .slice ta n tc, .slice ra rn rc, .slice da dn dc, .slice ha hn hc] 43 (0, 0))).alloc (.cells #[.int .i64 et, .int .i64 er, .int .i64 ex, .int .i64 ez, .int .i64 ey] 121 (0, 0))).alloc (.cells #[.int .i64 0, .int .i64 0, .int .i64 0] 102 (0, 0))) := (((Below.refl _ _).alloc (Nat.le_refl _) _).alloc (by simp) _).alloc (by simp; omega) _
  have hM := halloc (halloc (World.alloc_heap_new w (.cells #[.int .i64 cf.clear, .int .i64 cf.climb, .int .i64 cf.height, .int .i64 cf.rise, .int .i64 cf.run, .int .i64 cf.w, .int .i64 cf.d, .slice ta n tc, .slice ra rn rc, .slice da dn dc, .slice ha hn hc] 43 (0, 0))) (.cells #[.int .i64 et, .int .i64 er, .int .i64 ex, .int .i64 ez, .int .i64 ey] 121 (0, 0))) (.cells #[.int .i64 0, .int .i64 0, .int .i64 0] 102 (0, 0))
  have hE := halloc (World.alloc_heap_new (w.alloc (.cells #[.int .i64 cf.clear, .int .i64 cf.climb, .int .i64 cf.height, .int .i64 cf.rise, .int .i64 cf.run, .int .i64 cf.w, .int .i64 cf.d, .slice ta n tc, .slice ra rn rc, .slice da dn dc, .slice ha hn hc] 43 (0, 0))) (.cells #[.int .i64 et, .int .i64 er, .int .i64 ex, .int .i64 ez, .int .i64 ey] 121 (0, 0))) (.cells #[.int .i64 0, .int .i64 0, .int .i64 0] 102 (0, 0))
  have hF := World.alloc_heap_new ((w.alloc (.cells #[.int .i64 cf.clear, .int .i64 cf.climb, .int .i64 cf.height, .int .i64 cf.rise, .int .i64 cf.run, .int .i64 cf.w, .int .i64 cf.d, .slice ta n tc, .slice ra rn rc, .slice da dn dc, .slice ha hn hc] 43 (0, 0))).alloc (.cells #[.int .i64 et, .int .i64 er, .int .i64 ex, .int .i64 ez, .int .i64 ey] 121 (0, 0))) (.cells #[.int .i64 0, .int .i64 0, .int .i64 0] 102 (0, 0))
  simp only [World.size_alloc] at hE hF
  obtain ⟨W1, hW1⟩ : ∃ W, W = ((w.alloc (.cells #[.int .i64 cf.clear, .int .i64 cf.climb, .int .i64 cf.height, .int .i64 cf.rise, .int .i64 cf.run, .int .i64 cf.w, .int .i64 cf.d, .slice ta n tc, .slice ra rn rc, .slice da dn dc, .slice ha hn hc] 43 (0, 0))).alloc (.cells #[.int .i64 et, .int .i64 er, .int .i64 ex, .int .i64 ez, .int .i64 ey] 121 (0, 0))).alloc (.cells #[.int .i64 0, .int .i64 0, .int .i64 0] 102 (0, 0)) := ⟨_, rfl⟩
  rw [← hW1] at hB hM hE hF
  obtain ⟨S0, hS0⟩ : ∃ S, S = w.heap.size := ⟨_, rfl⟩
  obtain ⟨S1, hS1⟩ : ∃ S, S = S0 + 1 := ⟨_, rfl⟩
  obtain ⟨S2, hS2⟩ : ∃ S, S = S1 + 1 := ⟨_, rfl⟩
  rw [← hS0] at hM hE hF
  rw [← hS1] at hE hF
  rw [← hS2] at hF
  have HM := Lib.hid hM
  have HE := Lib.hid hE
  have HF := Lib.hid hF
  have h2w : w.heap.size ≤ S2 := by omega
  have h20 : S0 ≠ S2 := by omega
  have h21 : S1 ≠ S2 := by omega
  go_enter Try.func105, Try.ntmps105
  go_upto_region 1 with fail
  rw [← hW1, ← hS0, ← hS1, ← hS2]
  clear hW1 hS0 hS1 hS2
  have c7 := hcell (k := 7) (v := .slice ta n tc) hM rfl
  have d0 := hcell (k := 0) (v := .int .i64 et) hE rfl
  have d1 := hcell (k := 1) (v := .int .i64 er) hE rfl
  have e_c7 := fun d os => cell_regrown c7 d os
  have e_d0 := fun d os => cell_regrown d0 d os
  have e_d1 := fun d os => cell_regrown d1 d os
  clear c7 d0 d1 hM hE hF
  by_cases h1 : et < 0
  case pos =>
    refine wp_region_quiet_below (by kernel_rfl) (by kernel_rfl) ?_
    repeat (go_big_quiet_step (fail))
    refine wpQuiet_nil ?_
    rintro w4 ⟨⟨dq, osq⟩, hw4⟩
    have hb4 : Below W1.heap.size W1 w4 := by rw [hw4]; exact below_regrown W1 dq osq
    have hB4 := hB.trans (hb4.mono hB.size)
    have hF4 := hkeep hb4 HF.out
    clear hw4 hb4 hB e_c7 e_d0 e_d1
    have z0 := hcell (k := 0) (v := .int .i64 0) hF4 rfl
    have z1 := hcell (k := 1) (v := .int .i64 0) hF4 rfl
    have z2 := hcell (k := 2) (v := .int .i64 0) hF4 rfl
    have f0 := hfroz (k := 0) hF4
    have f1 := hfroz (k := 1) hF4
    have f2 := hfroz (k := 2) hF4
    have i0 := setCell_idQ (v := .int .i64 0) (i := 0) hF4 rfl
    have i1 := setCell_idQ (v := .int .i64 0) (i := 1) hF4 rfl
    have i2 := setCell_idQ (v := .int .i64 0) (i := 2) hF4 rfl
    have HF4 := Lib.hid hF4
    clear hF4
    go_wp2
    refine bodyPost_ret (results_tct rfl _ _ S2 102 #[.int .i64 0, .int .i64 0, .int .i64 0] (0, 0) _ rfl HF4.out Try.underlying102 rfl (by kernel_rfl)) rfl ?_
    exact And.intro ⟨_, _, _, _, _, rfl⟩ hB4
  obtain ⟨x, rfl⟩ : ∃ x : Nat, et = (x : Int) := ⟨et.toNat, by omega⟩
  clear h1
  have h1 : ¬ (x : Int) < 0 := by omega
  by_cases h2 : (n : Int) ≤ (x : Int)
  case pos =>
    refine wp_region_quiet_below (by kernel_rfl) (by kernel_rfl) ?_
    repeat (go_big_quiet_step (fail))
    refine wpQuiet_nil ?_
    rintro w4 ⟨⟨dq, osq⟩, hw4⟩
    have hb4 : Below W1.heap.size W1 w4 := by rw [hw4]; exact below_regrown W1 dq osq
    have hB4 := hB.trans (hb4.mono hB.size)
    have hF4 := hkeep hb4 HF.out
    clear hw4 hb4 hB e_c7 e_d0 e_d1
    have z0 := hcell (k := 0) (v := .int .i64 0) hF4 rfl
    have z1 := hcell (k := 1) (v := .int .i64 0) hF4 rfl
    have z2 := hcell (k := 2) (v := .int .i64 0) hF4 rfl
    have f0 := hfroz (k := 0) hF4
    have f1 := hfroz (k := 1) hF4
    have f2 := hfroz (k := 2) hF4
    have i0 := setCell_idQ (v := .int .i64 0) (i := 0) hF4 rfl
    have i1 := setCell_idQ (v := .int .i64 0) (i := 1) hF4 rfl
    have i2 := setCell_idQ (v := .int .i64 0) (i := 2) hF4 rfl
    have HF4 := Lib.hid hF4
    clear hF4
    go_wp2
    refine bodyPost_ret (results_tct rfl _ _ S2 102 #[.int .i64 0, .int .i64 0, .int .i64 0] (0, 0) _ rfl HF4.out Try.underlying102 rfl (by kernel_rfl)) rfl ?_
    exact And.intro ⟨_, _, _, _, _, rfl⟩ hB4
  have hxn : x < n := by omega
  by_cases h3 : er < 0
  case pos =>
    refine wp_region_quiet_below (by kernel_rfl) (by kernel_rfl) ?_
    repeat (go_big_quiet_step (fail))
    refine wpQuiet_nil ?_
    rintro w4 ⟨⟨dq, osq⟩, hw4⟩
    have hb4 : Below W1.heap.size W1 w4 := by rw [hw4]; exact below_regrown W1 dq osq
    have hB4 := hB.trans (hb4.mono hB.size)
    have hF4 := hkeep hb4 HF.out
    clear hw4 hb4 hB e_c7 e_d0 e_d1
    have z0 := hcell (k := 0) (v := .int .i64 0) hF4 rfl
    have z1 := hcell (k := 1) (v := .int .i64 0) hF4 rfl
    have z2 := hcell (k := 2) (v := .int .i64 0) hF4 rfl
    have f0 := hfroz (k := 0) hF4
    have f1 := hfroz (k := 1) hF4
    have f2 := hfroz (k := 2) hF4
    have i0 := setCell_idQ (v := .int .i64 0) (i := 0) hF4 rfl
    have i1 := setCell_idQ (v := .int .i64 0) (i := 1) hF4 rfl
    have i2 := setCell_idQ (v := .int .i64 0) (i := 2) hF4 rfl
    have HF4 := Lib.hid hF4
    clear hF4
    go_wp2
    refine bodyPost_ret (results_tct rfl _ _ S2 102 #[.int .i64 0, .int .i64 0, .int .i64 0] (0, 0) _ rfl HF4.out Try.underlying102 rfl (by kernel_rfl)) rfl ?_
    exact And.intro ⟨_, _, _, _, _, rfl⟩ hB4
  obtain ⟨y, rfl⟩ : ∃ y : Nat, er = (y : Int) := ⟨er.toNat, by omega⟩
  clear h3
  have h3 : ¬ (y : Int) < 0 := by omega
  have hxI : (x : Int) < (n : Int) := by omega
  obtain ⟨⟨tx, tz, pa, pn, pc, ps, qa, qn, qc, qs⟩, htk⟩ : ∃ t, ts[x]? = some t := ⟨_, List.getElem?_eq_getElem (by rw [Hl.out]; exact hxn)⟩
  have hT := HX.out _ hB
  obtain ⟨G, off, rfl, _, _⟩ := hT.sl.at0 (by omega)
  have r2 := hT.sl.cells htk 2 _ rfl
  dsimp only [tlC] at r2
  have e_r2 := fun d os => cell_regrown r2 d os
  have HTK := Lib.hid htk
  clear htk r2 hT
  by_cases h4 : (pn : Int) ≤ (y : Int)
  case pos =>
    refine wp_region_quiet_below (by kernel_rfl) (by kernel_rfl) ?_
    repeat (go_big_quiet_step (fail))
    refine wpQuiet_nil ?_
    rintro w4 ⟨⟨dq, osq⟩, hw4⟩
    have hb4 : Below W1.heap.size W1 w4 := by rw [hw4]; exact below_regrown W1 dq osq
    have hB4 := hB.trans (hb4.mono hB.size)
    have hF4 := hkeep hb4 HF.out
    clear hw4 hb4 hB e_c7 e_d0 e_d1 e_r2
    have z0 := hcell (k := 0) (v := .int .i64 0) hF4 rfl
    have z1 := hcell (k := 1) (v := .int .i64 0) hF4 rfl
    have z2 := hcell (k := 2) (v := .int .i64 0) hF4 rfl
    have f0 := hfroz (k := 0) hF4
    have f1 := hfroz (k := 1) hF4
    have f2 := hfroz (k := 2) hF4
    have i0 := setCell_idQ (v := .int .i64 0) (i := 0) hF4 rfl
    have i1 := setCell_idQ (v := .int .i64 0) (i := 1) hF4 rfl
    have i2 := setCell_idQ (v := .int .i64 0) (i := 2) hF4 rfl
    have HF4 := Lib.hid hF4
    clear hF4
    go_wp2
    refine bodyPost_ret (results_tct rfl _ _ S2 102 #[.int .i64 0, .int .i64 0, .int .i64 0] (0, 0) _ rfl HF4.out Try.underlying102 rfl (by kernel_rfl)) rfl ?_
    exact And.intro ⟨_, _, _, _, _, rfl⟩ hB4
  refine wp_region_quiet_below (by kernel_rfl) (by kernel_rfl) ?_
  repeat (go_big_quiet_step (fail))
  refine wpQuiet_nil ?_
  rintro w4 ⟨⟨dq, osq⟩, hw4⟩
  have hb4 : Below W1.heap.size W1 w4 := by rw [hw4]; exact below_regrown W1 dq osq
  have hB4 := hB.trans (hb4.mono hB.size)
  have hM4 := hkeep hb4 HM.out
  have hE4 := hkeep hb4 HE.out
  have hF4 := hkeep hb4 HF.out
  clear hw4 hb4 hB e_c7 e_d0 e_d1 e_r2 HM HE HF
  have hyn : y < pn := by omega
  have hT4 := HX.out _ hB4
  have hR4 := (hT4.one HTK.out).1
  dsimp only at hR4
  obtain ⟨⟨h, r⟩, hyk⟩ : ∃ z, ps[y]? = some z := ⟨_, List.getElem?_eq_getElem (by rw [hR4.sl.len]; exact hyn)⟩
  obtain ⟨R, ro, rfl, _, _⟩ := hR4.sl.at0 (by omega)
  have hpm : pn ≤ 9223372036854775807 := Nat.le_trans hR4.sl.le hR4.sl.max
  have hyI : (y : Int) < (pn : Int) := by omega
  have HTC := Lib.hid (fun W (hW : Below w4.heap.size w4 W) => (hT4.below hW (Nat.le_refl _)).sl.cells HTK.out 2 _ rfl)
  dsimp only [tlC] at HTC
  have HRC := Lib.hid (fun W (hW : Below w4.heap.size w4 W) => (hR4.below hW (Nat.le_refl _)).at hyk)
  have AT := Lib.hid (fun W (hW : Below w4.heap.size w4 W) => rcat_any h r ex ez W ((hR4.below hW (Nat.le_refl _)).one hyk))
  obtain ⟨⟨fy, ft, fa⟩, hf⟩ : ∃ f, f = rcF r ex ez := ⟨_, rfl⟩
  obtain ⟨q, hq⟩ : ∃ q, q = (rcAt r ex ez).isSome := ⟨_, rfl⟩
  rw [← hf, ← hq] at AT
  dsimp only [flrV, rcV] at AT
  have HM4 := Lib.hid hM4
  have HE4 := Lib.hid hE4
  have HF4 := Lib.hid hF4
  clear hf hq hT4 hR4 hyk hM4 hE4 hF4 HTK
  go_upto_region 3 with fail
  refine wp_region_fun ([none, none, none, none, none, none, none, some 21, some 23, none, none, none, none, none, none, none, none, none, none, none, none, none, none, none, none, none, none, none, none, none, none, none, none, none, none, none, none, none, none, some 18, some 0, some 1, some 2, some 3, some 4, some 5, some 6, some 7, some 8, some 9, some 10, some 11, some 12, some 13, some 14, some 15, some 16, some 17, some 19, some 20, none, none, none, none, none, none, none, none, none, none, none, none, none, none, none, none, none, none, none, none]) (fun (b : Nat → Bool) (vals : Nat → Value) (W : World) => Below w4.heap.size w4 W ∧ (b 22 = true → b 21 = true) ∧ (b 21 = true → ∃ P, vals 21 = .pointer (some ⟨P, 0, none⟩) ∧ w4.heap.size ≤ P ∧ W.heap[P]? = some (.cells (bif b 22 then #[.int .i64 fy, .int .i64 ft, .int .i64 fa] else #[.int .i64 0, .int .i64 0, .int .i64 0]) 102 (0, 0))) ∧ (b 0 = true → vals 0 = .pointer (some ⟨S0, 7, none⟩)) ∧ (b 1 = true → vals 1 = .slice (some ⟨G, off, none⟩) n tc) ∧ (b 2 = true → vals 2 = .pointer (some ⟨S1, 0, none⟩)) ∧ (b 3 = true → vals 3 = .int .i64 (x : Nat)) ∧ (b 4 = true → vals 4 = .pointer (some ⟨G, off + x * 4, none⟩)) ∧ (b 5 = true → vals 5 = .pointer (some ⟨G, off + x * 4 + 2, none⟩)) ∧ (b 6 = true → vals 6 = .slice (some ⟨R, ro, none⟩) pn pc) ∧ (b 7 = true → vals 7 = .pointer (some ⟨S1, 1, none⟩)) ∧ (b 8 = true → vals 8 = .int .i64 (y : Nat)) ∧ (b 9 = true → vals 9 = .pointer (some ⟨R, ro + y * 7, none⟩)) ∧ (b 10 = true → vals 10 = .agg #[.int .i64 r.x0, .int .i64 r.z0, .int .i64 r.x1, .int .i64 r.z1, .int .i64 r.area, .slice h.ya r.ys.length h.yc, .slice h.ta r.ts.length h.tc]) ∧ (b 11 = true → vals 11 = .pointer (some ⟨S1, 2, none⟩)) ∧ (b 12 = true → vals 12 = .pointer (some ⟨S1, 2, none⟩)) ∧ (b 13 = true → vals 13 = .int .i64 ex) ∧ (b 14 = true → vals 14 = .pointer (some ⟨S1, 2, none⟩)) ∧ (b 15 = true → vals 15 = .pointer (some ⟨S1, 3, none⟩)) ∧ (b 16 = true → vals 16 = .int .i64 ez) ∧ (b 17 = true → vals 17 = .tuple #[.agg #[.int .i64 fy, .int .i64 ft, .int .i64 fa], .bool q]) ∧ (b 18 = true → vals 18 = .tuple #[.agg #[.int .i64 fy, .int .i64 ft, .int .i64 fa], .bool q]) ∧ (b 19 = true → vals 19 = .agg #[.int .i64 fy, .int .i64 ft, .int .i64 fa]) ∧ (b 20 = true → vals 20 = .bool q) ∧ (b 23 = true → vals 23 = .bool q)) (by kernel_rfl) (by kernel_rfl) (by kernel_rfl) (by kernel_rfl) ?_ ?_ ?_
  · intro vals
    exact ⟨(Below.refl _ _).drew, (fun h => by cases (show false = true from h)), (fun h => by cases (show false = true from h)), (fun h => by cases (show false = true from h)), (fun h => by cases (show false = true from h)), (fun h => by cases (show false = true from h)), (fun h => by cases (show false = true from h)), (fun h => by cases (show false = true from h)), (fun h => by cases (show false = true from h)), (fun h => by cases (show false = true from h)), (fun h => by cases (show false = true from h)), (fun h => by cases (show false = true from h)), (fun h => by cases (show false = true from h)), (fun h => by cases (show false = true from h)), (fun h => by cases (show false = true from h)), (fun h => by cases (show false = true from h)), (fun h => by cases (show false = true from h)), (fun h => by cases (show false = true from h)), (fun h => by cases (show false = true from h)), (fun h => by cases (show false = true from h)), (fun h => by cases (show false = true from h)), (fun h => by cases (show false = true from h)), (fun h => by cases (show false = true from h)), (fun h => by cases (show false = true from h)), (fun h => by cases (show false = true from h))⟩
  · intro Q' K t b vals wi hoff hon i hlt hR hb hd hK
    have hlt : i < 24 := hlt
    obtain ⟨hW, i22, hA, h0, h1, h2, h3, h4, h5, h6, h7, h8, h9, h10, h11, h12, h13, h14, h15, h16, h17, h18, h19, h20, h23⟩ := hR
    revert hb hd hK
    cases i, hlt using cas24
    · intro hb hd hK
      have g2 : t[(2 : Nat)]? = some (.pointer (some ⟨S0, 0, none⟩)) := hoff 2 _ rfl rfl
      clear hoff hon hd
      refine wpOp_of rfl rfl ?_
      go_simp
      exact hK.out _ _ ⟨(hW), (i22), (hA), (fun _ => rfl), (h1), (h2), (h3), (h4), (h5), (h6), (h7), (h8), (h9), (h10), (h11), (h12), (h13), (h14), (h15), (h16), (h17), (h18), (h19), (h20), (h23)⟩
    · intro hb hd hK
      have d0 := hd 0 (by kernel_rfl)
      have g40 : t[(40 : Nat)]? = some (.pointer (some ⟨S0, 7, none⟩)) := (hon 0 40 rfl).trans (congrArg some (h0 d0))
      have c0 := hcell (k := 7) (v := .slice (some ⟨G, off, none⟩) n tc) (hkeep hW HM4.out) rfl
      clear hoff hon hd
      refine wpOp_of rfl rfl ?_
      go_simp
      exact hK.out _ _ ⟨(hW), (i22), (hA), (h0), (fun _ => rfl), (h2), (h3), (h4), (h5), (h6), (h7), (h8), (h9), (h10), (h11), (h12), (h13), (h14), (h15), (h16), (h17), (h18), (h19), (h20), (h23)⟩
    · intro hb hd hK
      have g3 : t[(3 : Nat)]? = some (.pointer (some ⟨S1, 0, none⟩)) := hoff 3 _ rfl rfl
      clear hoff hon hd
      refine wpOp_of rfl rfl ?_
      go_simp
      exact hK.out _ _ ⟨(hW), (i22), (hA), (h0), (h1), (fun _ => rfl), (h3), (h4), (h5), (h6), (h7), (h8), (h9), (h10), (h11), (h12), (h13), (h14), (h15), (h16), (h17), (h18), (h19), (h20), (h23)⟩
    · intro hb hd hK
      have d2 := hd 2 (by kernel_rfl)
      have g42 : t[(42 : Nat)]? = some (.pointer (some ⟨S1, 0, none⟩)) := (hon 2 42 rfl).trans (congrArg some (h2 d2))
      have c0 := hcell (k := 0) (v := .int .i64 (x : Nat)) (hkeep hW HE4.out) rfl
      clear hoff hon hd
      refine wpOp_of rfl rfl ?_
      go_simp
      exact hK.out _ _ ⟨(hW), (i22), (hA), (h0), (h1), (h2), (fun _ => rfl), (h4), (h5), (h6), (h7), (h8), (h9), (h10), (h11), (h12), (h13), (h14), (h15), (h16), (h17), (h18), (h19), (h20), (h23)⟩
    · intro hb hd hK
      have d1 := hd 1 (by kernel_rfl)
      have g41 : t[(41 : Nat)]? = some (.slice (some ⟨G, off, none⟩) n tc) := (hon 1 41 rfl).trans (congrArg some (h1 d1))
      have d3 := hd 3 (by kernel_rfl)
      have g43 : t[(43 : Nat)]? = some (.int .i64 (x : Nat)) := (hon 3 43 rfl).trans (congrArg some (h3 d3))
      clear hoff hon hd
      refine wpOp_of rfl rfl ?_
      go_simp
      exact hK.out _ _ ⟨(hW), (i22), (hA), (h0), (h1), (h2), (h3), (fun _ => rfl), (h5), (h6), (h7), (h8), (h9), (h10), (h11), (h12), (h13), (h14), (h15), (h16), (h17), (h18), (h19), (h20), (h23)⟩
    · intro hb hd hK
      have d4 := hd 4 (by kernel_rfl)
      have g44 : t[(44 : Nat)]? = some (.pointer (some ⟨G, off + x * 4, none⟩)) := (hon 4 44 rfl).trans (congrArg some (h4 d4))
      clear hoff hon hd
      refine wpOp_of rfl rfl ?_
      go_simp
      exact hK.out _ _ ⟨(hW), (i22), (hA), (h0), (h1), (h2), (h3), (h4), (fun _ => rfl), (h6), (h7), (h8), (h9), (h10), (h11), (h12), (h13), (h14), (h15), (h16), (h17), (h18), (h19), (h20), (h23)⟩
    · intro hb hd hK
      have d5 := hd 5 (by kernel_rfl)
      have g45 : t[(45 : Nat)]? = some (.pointer (some ⟨G, off + x * 4 + 2, none⟩)) := (hon 5 45 rfl).trans (congrArg some (h5 d5))
      have c0 := HTC.out _ hW
      clear hoff hon hd
      refine wpOp_of rfl rfl ?_
      go_simp
      exact hK.out _ _ ⟨(hW), (i22), (hA), (h0), (h1), (h2), (h3), (h4), (h5), (fun _ => rfl), (h7), (h8), (h9), (h10), (h11), (h12), (h13), (h14), (h15), (h16), (h17), (h18), (h19), (h20), (h23)⟩
    · intro hb hd hK
      have g3 : t[(3 : Nat)]? = some (.pointer (some ⟨S1, 0, none⟩)) := hoff 3 _ rfl rfl
      clear hoff hon hd
      refine wpOp_of rfl rfl ?_
      go_simp
      exact hK.out _ _ ⟨(hW), (i22), (hA), (h0), (h1), (h2), (h3), (h4), (h5), (h6), (fun _ => rfl), (h8), (h9), (h10), (h11), (h12), (h13), (h14), (h15), (h16), (h17), (h18), (h19), (h20), (h23)⟩
    · intro hb hd hK
      have d7 := hd 7 (by kernel_rfl)
      have g47 : t[(47 : Nat)]? = some (.pointer (some ⟨S1, 1, none⟩)) := (hon 7 47 rfl).trans (congrArg some (h7 d7))
      have c0 := hcell (k := 1) (v := .int .i64 (y : Nat)) (hkeep hW HE4.out) rfl
      clear hoff hon hd
      refine wpOp_of rfl rfl ?_
      go_simp
      exact hK.out _ _ ⟨(hW), (i22), (hA), (h0), (h1), (h2), (h3), (h4), (h5), (h6), (h7), (fun _ => rfl), (h9), (h10), (h11), (h12), (h13), (h14), (h15), (h16), (h17), (h18), (h19), (h20), (h23)⟩
    · intro hb hd hK
      have d6 := hd 6 (by kernel_rfl)
      have g46 : t[(46 : Nat)]? = some (.slice (some ⟨R, ro, none⟩) pn pc) := (hon 6 46 rfl).trans (congrArg some (h6 d6))
      have d8 := hd 8 (by kernel_rfl)
      have g48 : t[(48 : Nat)]? = some (.int .i64 (y : Nat)) := (hon 8 48 rfl).trans (congrArg some (h8 d8))
      clear hoff hon hd
      refine wpOp_of rfl rfl ?_
      go_simp
      exact hK.out _ _ ⟨(hW), (i22), (hA), (h0), (h1), (h2), (h3), (h4), (h5), (h6), (h7), (h8), (fun _ => rfl), (h10), (h11), (h12), (h13), (h14), (h15), (h16), (h17), (h18), (h19), (h20), (h23)⟩
    · intro hb hd hK
      have d9 := hd 9 (by kernel_rfl)
      have g49 : t[(49 : Nat)]? = some (.pointer (some ⟨R, ro + y * 7, none⟩)) := (hon 9 49 rfl).trans (congrArg some (h9 d9))
      have hat := HRC.out _ hW
      have r0 := hat 0 _ rfl
      have r1 := hat 1 _ rfl
      have r2 := hat 2 _ rfl
      have r3 := hat 3 _ rfl
      have r4 := hat 4 _ rfl
      have r5 := hat 5 _ rfl
      have r6 := hat 6 _ rfl
      simp only [Nat.add_zero] at r0
      clear hoff hon hd
      refine wpOp_of rfl rfl ?_
      go_simp
      exact hK.out _ _ ⟨(hW), (i22), (hA), (h0), (h1), (h2), (h3), (h4), (h5), (h6), (h7), (h8), (h9), (fun _ => rfl), (h11), (h12), (h13), (h14), (h15), (h16), (h17), (h18), (h19), (h20), (h23)⟩
    · intro hb hd hK
      have g3 : t[(3 : Nat)]? = some (.pointer (some ⟨S1, 0, none⟩)) := hoff 3 _ rfl rfl
      clear hoff hon hd
      refine wpOp_of rfl rfl ?_
      go_simp
      exact hK.out _ _ ⟨(hW), (i22), (hA), (h0), (h1), (h2), (h3), (h4), (h5), (h6), (h7), (h8), (h9), (h10), (fun _ => rfl), (h12), (h13), (h14), (h15), (h16), (h17), (h18), (h19), (h20), (h23)⟩
    · intro hb hd hK
      have d11 := hd 11 (by kernel_rfl)
      have g51 : t[(51 : Nat)]? = some (.pointer (some ⟨S1, 2, none⟩)) := (hon 11 51 rfl).trans (congrArg some (h11 d11))
      clear hoff hon hd
      refine wpOp_of rfl rfl ?_
      go_simp
      exact hK.out _ _ ⟨(hW), (i22), (hA), (h0), (h1), (h2), (h3), (h4), (h5), (h6), (h7), (h8), (h9), (h10), (h11), (fun _ => rfl), (h13), (h14), (h15), (h16), (h17), (h18), (h19), (h20), (h23)⟩
    · intro hb hd hK
      have d12 := hd 12 (by kernel_rfl)
      have g52 : t[(52 : Nat)]? = some (.pointer (some ⟨S1, 2, none⟩)) := (hon 12 52 rfl).trans (congrArg some (h12 d12))
      have c0 := hcell (k := 2) (v := .int .i64 ex) (hkeep hW HE4.out) rfl
      clear hoff hon hd
      refine wpOp_of rfl rfl ?_
      go_simp
      exact hK.out _ _ ⟨(hW), (i22), (hA), (h0), (h1), (h2), (h3), (h4), (h5), (h6), (h7), (h8), (h9), (h10), (h11), (h12), (fun _ => rfl), (h14), (h15), (h16), (h17), (h18), (h19), (h20), (h23)⟩
    · intro hb hd hK
      have g3 : t[(3 : Nat)]? = some (.pointer (some ⟨S1, 0, none⟩)) := hoff 3 _ rfl rfl
      clear hoff hon hd
      refine wpOp_of rfl rfl ?_
      go_simp
      exact hK.out _ _ ⟨(hW), (i22), (hA), (h0), (h1), (h2), (h3), (h4), (h5), (h6), (h7), (h8), (h9), (h10), (h11), (h12), (h13), (fun _ => rfl), (h15), (h16), (h17), (h18), (h19), (h20), (h23)⟩
    · intro hb hd hK
      have d14 := hd 14 (by kernel_rfl)
      have g54 : t[(54 : Nat)]? = some (.pointer (some ⟨S1, 2, none⟩)) := (hon 14 54 rfl).trans (congrArg some (h14 d14))
      clear hoff hon hd
      refine wpOp_of rfl rfl ?_
      go_simp
      exact hK.out _ _ ⟨(hW), (i22), (hA), (h0), (h1), (h2), (h3), (h4), (h5), (h6), (h7), (h8), (h9), (h10), (h11), (h12), (h13), (h14), (fun _ => rfl), (h16), (h17), (h18), (h19), (h20), (h23)⟩
    · intro hb hd hK
      have d15 := hd 15 (by kernel_rfl)
      have g55 : t[(55 : Nat)]? = some (.pointer (some ⟨S1, 3, none⟩)) := (hon 15 55 rfl).trans (congrArg some (h15 d15))
      have c0 := hcell (k := 3) (v := .int .i64 ez) (hkeep hW HE4.out) rfl
      clear hoff hon hd
      refine wpOp_of rfl rfl ?_
      go_simp
      exact hK.out _ _ ⟨(hW), (i22), (hA), (h0), (h1), (h2), (h3), (h4), (h5), (h6), (h7), (h8), (h9), (h10), (h11), (h12), (h13), (h14), (h15), (fun _ => rfl), (h17), (h18), (h19), (h20), (h23)⟩
    · intro hb hd hK
      have d10 := hd 10 (by kernel_rfl)
      have g50 : t[(50 : Nat)]? = some (.agg #[.int .i64 r.x0, .int .i64 r.z0, .int .i64 r.x1, .int .i64 r.z1, .int .i64 r.area, .slice h.ya r.ys.length h.yc, .slice h.ta r.ts.length h.tc]) := (hon 10 50 rfl).trans (congrArg some (h10 d10))
      have d13 := hd 13 (by kernel_rfl)
      have g53 : t[(53 : Nat)]? = some (.int .i64 ex) := (hon 13 53 rfl).trans (congrArg some (h13 d13))
      have d16 := hd 16 (by kernel_rfl)
      have g56 : t[(56 : Nat)]? = some (.int .i64 ez) := (hon 16 56 rfl).trans (congrArg some (h16 d16))
      clear hoff hon hd
      refine wpOp_of rfl rfl ?_
      go_simp
      go_at_call 65
      refine (AT.out _ hW).mono ?_
      rintro e wz ⟨rfl, hbz⟩
      (try go_simp)
      exact hK.out _ _ ⟨(hW.trans (hbz.mono hW.size)), (i22), (fun h => by obtain ⟨P, e, k1, k2⟩ := hA h; exact ⟨P, e, k1, hkeep hbz k2⟩), (h0), (h1), (h2), (h3), (h4), (h5), (h6), (h7), (h8), (h9), (h10), (h11), (h12), (h13), (h14), (h15), (h16), (fun _ => rfl), (h18), (h19), (h20), (h23)⟩
    · intro hb hd hK
      have d17 := hd 17 (by kernel_rfl)
      have g57 : t[(57 : Nat)]? = some (.tuple #[.agg #[.int .i64 fy, .int .i64 ft, .int .i64 fa], .bool q]) := (hon 17 57 rfl).trans (congrArg some (h17 d17))
      clear hoff hon hd
      refine wpOp_of rfl rfl ?_
      go_simp
      exact hK.out _ _ ⟨(hW), (i22), (hA), (h0), (h1), (h2), (h3), (h4), (h5), (h6), (h7), (h8), (h9), (h10), (h11), (h12), (h13), (h14), (h15), (h16), (h17), (fun _ => rfl), (h19), (h20), (h23)⟩
    · intro hb hd hK
      have d18 := hd 18 (by kernel_rfl)
      have g39 : t[(39 : Nat)]? = some (.tuple #[.agg #[.int .i64 fy, .int .i64 ft, .int .i64 fa], .bool q]) := (hon 18 39 rfl).trans (congrArg some (h18 d18))
      clear hoff hon hd
      refine wpOp_of rfl rfl ?_
      go_simp
      exact hK.out _ _ ⟨(hW), (i22), (hA), (h0), (h1), (h2), (h3), (h4), (h5), (h6), (h7), (h8), (h9), (h10), (h11), (h12), (h13), (h14), (h15), (h16), (h17), (h18), (fun _ => rfl), (h20), (h23)⟩
    · intro hb hd hK
      have d18 := hd 18 (by kernel_rfl)
      have g39 : t[(39 : Nat)]? = some (.tuple #[.agg #[.int .i64 fy, .int .i64 ft, .int .i64 fa], .bool q]) := (hon 18 39 rfl).trans (congrArg some (h18 d18))
      clear hoff hon hd
      refine wpOp_of rfl rfl ?_
      go_simp
      exact hK.out _ _ ⟨(hW), (i22), (hA), (h0), (h1), (h2), (h3), (h4), (h5), (h6), (h7), (h8), (h9), (h10), (h11), (h12), (h13), (h14), (h15), (h16), (h17), (h18), (h19), (fun _ => rfl), (h23)⟩
    · intro hb hd hK
      have n22 : b 22 = false := by cases h : b 22 with | false => rfl | true => exact absurd (i22 h) (by rw [hb]; decide)
      clear hoff hon hd
      refine wpOp_of rfl rfl ?_
      go_simp
      have hbz : Below wi.heap.size wi (wi.alloc (.cells #[.int .i64 0, .int .i64 0, .int .i64 0] 102 (0, 0))) := (Below.refl _ _).alloc (Nat.le_refl _) _
      exact hK.out _ _ ⟨(hW.trans (hbz.mono hW.size)), (fun _ => rfl), (fun _ => ⟨wi.heap.size, rfl, hW.size, by rw [show updB b 21 22 = b 22 from rfl, n22]; exact World.alloc_heap_new _ _⟩), (h0), (h1), (h2), (h3), (h4), (h5), (h6), (h7), (h8), (h9), (h10), (h11), (h12), (h13), (h14), (h15), (h16), (h17), (h18), (h19), (h20), (h23)⟩
    · intro hb hd hK
      have d21 := hd 21 (by kernel_rfl)
      have g7 : t[(7 : Nat)]? = some (vals 21) := hon 21 7 rfl
      have d19 := hd 19 (by kernel_rfl)
      have g58 : t[(58 : Nat)]? = some (.agg #[.int .i64 fy, .int .i64 ft, .int .i64 fa]) := (hon 19 58 rfl).trans (congrArg some (h19 d19))
      obtain ⟨P, e9, k1, k2⟩ := hA d21
      rw [hb] at k2
      replace k2 : wi.heap[P]? = some (.cells #[.int .i64 0, .int .i64 0, .int .i64 0] 102 (0, 0)) := k2
      rw [e9] at g7
      have x0 := hfroz (k := 0) k2
      have z0 := hcell (k := 0) (v := .int .i64 0) k2 rfl
      have hP0 := heap_setCell_same _ P 0 _ _ (.int .i64 fy) k2
      have x1 := hfroz (k := 1) hP0
      have z1 := hcell (k := 1) (v := .int .i64 0) hP0 rfl
      have hP1 := heap_setCell_same _ P 1 _ _ (.int .i64 ft) hP0
      have x2 := hfroz (k := 2) hP1
      have z2 := hcell (k := 2) (v := .int .i64 0) hP1 rfl
      have hP2 := heap_setCell_same _ P 2 _ _ (.int .i64 fa) hP1
      have hgw := grown_set3P wi P (.int .i64 fy) (.int .i64 ft) (.int .i64 fa)
      clear k2 hP0 hP1
      clear hoff hon hd
      refine wpOp_of rfl rfl ?_
      go_simp
      exact hK.out undef _ ⟨(below_setP hW k1 hgw), (fun _ => d21), (fun _ => ⟨P, e9, k1, by rw [show updB b 22 22 = true from rfl]; exact hP2⟩), (h0), (h1), (h2), (h3), (h4), (h5), (h6), (h7), (h8), (h9), (h10), (h11), (h12), (h13), (h14), (h15), (h16), (h17), (h18), (h19), (h20), (h23)⟩
    · intro hb hd hK
      have d20 := hd 20 (by kernel_rfl)
      have g59 : t[(59 : Nat)]? = some (.bool q) := (hon 20 59 rfl).trans (congrArg some (h20 d20))
      clear hoff hon hd
      refine wpOp_of rfl rfl ?_
      go_simp
      exact hK.out _ _ ⟨(hW), (i22), (hA), (h0), (h1), (h2), (h3), (h4), (h5), (h6), (h7), (h8), (h9), (h10), (h11), (h12), (h13), (h14), (h15), (h16), (h17), (h18), (h19), (h20), (fun _ => rfl)⟩
  · intro b vals wi hR hall
    obtain ⟨hW, i22, hA, h0, h1, h2, h3, h4, h5, h6, h7, h8, h9, h10, h11, h12, h13, h14, h15, h16, h17, h18, h19, h20, h23⟩ := hR
    obtain ⟨P, e21, hPs, hP⟩ := hA (hall 21 (by decide))
    rw [hall 22 (by decide)] at hP
    replace hP : wi.heap[P]? = some (.cells #[.int .i64 fy, .int .i64 ft, .int .i64 fa] 102 (0, 0)) := hP
    have e23 := h23 (hall 23 (by decide))
    dsimp only [over]
    rw [e21, e23]
    have hP2 : P ≠ S2 := by have := hblt HF4.out; omega
    have hM5 := hkeep hW HM4.out
    have hE5 := hkeep hW HE4.out
    have hF5 := hkeep hW HF4.out
    have hB5 := hB4.trans (hW.mono hB4.size)
    clear h0 h1 h2 h3 h4 h5 h6 h7 h8 h9 h10 h11 h12 h13 h14 h15 h16 h17 h18 h19 h20 h23 hall HTC HRC AT HM4 HE4 HF4 hA i22 hPs hB4 hW e21 e23
    have p0 := hcell (k := 0) (v := .int .i64 fy) hP rfl
    have u4 := hcell (k := 4) (v := .int .i64 ey) hE5 rfl
    have HM5 := Lib.hid hM5
    have HE5 := Lib.hid hE5
    have HP5 := Lib.hid hP
    clear hM5 hE5 hP
    cases q with
    | false =>
      have z0 := hcell (k := 0) (v := .int .i64 0) hF5 rfl
      have z1 := hcell (k := 1) (v := .int .i64 0) hF5 rfl
      have z2 := hcell (k := 2) (v := .int .i64 0) hF5 rfl
      have f0 := hfroz (k := 0) hF5
      have f1 := hfroz (k := 1) hF5
      have f2 := hfroz (k := 2) hF5
      have i0 := setCell_idQ (v := .int .i64 0) (i := 0) hF5 rfl
      have i1 := setCell_idQ (v := .int .i64 0) (i := 1) hF5 rfl
      have i2 := setCell_idQ (v := .int .i64 0) (i := 2) hF5 rfl
      have HF5 := Lib.hid hF5
      clear hF5
      go_wp2
      refine bodyPost_ret (results_tct rfl _ _ S2 102 #[.int .i64 0, .int .i64 0, .int .i64 0] (0, 0) _ rfl HF5.out Try.underlying102 rfl (by kernel_rfl)) rfl ?_
      exact And.intro ⟨_, _, _, _, _, rfl⟩ hB5
    | true =>
    by_cases hfe : fy = ey
    case neg =>
      have qq : (fy != ey) = true := by simp [hfe]
      have z0 := hcell (k := 0) (v := .int .i64 0) hF5 rfl
      have z1 := hcell (k := 1) (v := .int .i64 0) hF5 rfl
      have z2 := hcell (k := 2) (v := .int .i64 0) hF5 rfl
      have f0 := hfroz (k := 0) hF5
      have f1 := hfroz (k := 1) hF5
      have f2 := hfroz (k := 2) hF5
      have i0 := setCell_idQ (v := .int .i64 0) (i := 0) hF5 rfl
      have i1 := setCell_idQ (v := .int .i64 0) (i := 1) hF5 rfl
      have i2 := setCell_idQ (v := .int .i64 0) (i := 2) hF5 rfl
      have HF5 := Lib.hid hF5
      clear hF5
      go_wp2
      refine bodyPost_ret (results_tct rfl _ _ S2 102 #[.int .i64 0, .int .i64 0, .int .i64 0] (0, 0) _ rfl HF5.out Try.underlying102 rfl (by kernel_rfl)) rfl ?_
      exact And.intro ⟨_, _, _, _, _, rfl⟩ hB5
    have qq : (fy != ey) = false := by simp [hfe]
    have HF5 := Lib.hid hF5
    clear hfe hF5
    go_upto_region 6 with fail
    clear qq p0 u4
    refine wp_region_fun ([none, none, none, none, some 9, none, some 11, none, none, none, none, none, none, none, none, none, none, none, none, none, none, none, none, none, none, none, none, none, none, none, none, none, none, none, none, none, none, none, none, none, none, none, none, none, none, none, none, none, none, none, none, none, none, none, none, none, none, none, none, none, none, none, none, none, none, none, none, none, none, none, none, some 0, some 1, some 2, some 3, some 4, some 5, some 6, some 7, some 8]) (fun (b : Nat → Bool) (vals : Nat → Value) (W : World) => Below w.heap.size w W ∧ W.heap[S0]? = some (.cells #[.int .i64 cf.clear, .int .i64 cf.climb, .int .i64 cf.height, .int .i64 cf.rise, .int .i64 cf.run, .int .i64 cf.w, .int .i64 cf.d, .slice (some ⟨G, off, none⟩) n tc, .slice ra rn rc, .slice da dn dc, .slice ha hn hc] 43 (0, 0)) ∧ W.heap[S1]? = some (.cells #[.int .i64 (x : Nat), .int .i64 (y : Nat), .int .i64 ex, .int .i64 ez, .int .i64 ey] 121 (0, 0)) ∧ W.heap[P]? = some (.cells #[.int .i64 fy, .int .i64 ft, .int .i64 fa] 102 (0, 0)) ∧ W.heap[S2]? = some (.cells (bif b 10 then #[.int .i64 fy, .int .i64 ft, .int .i64 fa] else #[.int .i64 0, .int .i64 0, .int .i64 0]) 102 (0, 0)) ∧ (b 4 = true → ∃ F : Int, vals 4 = .int .i64 F) ∧ (b 7 = true → ∃ F : Int, vals 7 = .int .i64 F) ∧ (b 9 = true → ∃ F : Int, vals 9 = .int .i64 F) ∧ (b 0 = true → vals 0 = .pointer (some ⟨S0, 7, none⟩)) ∧ (b 1 = true → vals 1 = .slice (some ⟨G, off, none⟩) n tc) ∧ (b 2 = true → vals 2 = .pointer (some ⟨S1, 0, none⟩)) ∧ (b 3 = true → vals 3 = .int .i64 (x : Nat)) ∧ (b 5 = true → vals 5 = .pointer (some ⟨S1, 1, none⟩)) ∧ (b 6 = true → vals 6 = .int .i64 (y : Nat)) ∧ (b 8 = true → vals 8 = .agg #[.int .i64 fy, .int .i64 ft, .int .i64 fa]) ∧ (b 11 = true → vals 11 = .bool true)) (by kernel_rfl) (by kernel_rfl) (by kernel_rfl) (by kernel_rfl) ?_ ?_ ?_
    · intro vals
      exact ⟨hB5.drew, HM5.out, HE5.out, HP5.out, HF5.out, (fun h => by cases (show false = true from h)), (fun h => by cases (show false = true from h)), (fun h => by cases (show false = true from h)), (fun h => by cases (show false = true from h)), (fun h => by cases (show false = true from h)), (fun h => by cases (show false = true from h)), (fun h => by cases (show false = true from h)), (fun h => by cases (show false = true from h)), (fun h => by cases (show false = true from h)), (fun h => by cases (show false = true from h)), (fun h => by cases (show false = true from h))⟩
    · intro Q' K t b vals wi hoff hon i hlt hR hb hd hK
      have hlt : i < 12 := hlt
      obtain ⟨hW, hM, hE, hP, hF, e4, e7, e9, h0, h1, h2, h3, h5, h6, h8, h11⟩ := hR
      revert hb hd hK
      cases i, hlt using cas12
      · intro hb hd hK
        have g2 : t[(2 : Nat)]? = some (.pointer (some ⟨S0, 0, none⟩)) := hoff 2 _ rfl rfl
        clear hoff hon hd
        refine wpOp_of rfl rfl ?_
        go_simp
        exact hK.out _ _ ⟨(hW), (hM), (hE), (hP), (hF), (e4), (e7), (e9), (fun _ => rfl), (h1), (h2), (h3), (h5), (h6), (h8), (h11)⟩
      · intro hb hd hK
        have d0 := hd 0 (by kernel_rfl)
        have g71 : t[(71 : Nat)]? = some (.pointer (some ⟨S0, 7, none⟩)) := (hon 0 71 rfl).trans (congrArg some (h0 d0))
        have c0 := hcell (k := 7) (v := .slice (some ⟨G, off, none⟩) n tc) hM rfl
        clear hoff hon hd
        refine wpOp_of rfl rfl ?_
        go_simp
        exact hK.out _ _ ⟨(hW), (hM), (hE), (hP), (hF), (e4), (e7), (e9), (h0), (fun _ => rfl), (h2), (h3), (h5), (h6), (h8), (h11)⟩
      · intro hb hd hK
        have g3 : t[(3 : Nat)]? = some (.pointer (some ⟨S1, 0, none⟩)) := hoff 3 _ rfl rfl
        clear hoff hon hd
        refine wpOp_of rfl rfl ?_
        go_simp
        exact hK.out _ _ ⟨(hW), (hM), (hE), (hP), (hF), (e4), (e7), (e9), (h0), (h1), (fun _ => rfl), (h3), (h5), (h6), (h8), (h11)⟩
      · intro hb hd hK
        have d2 := hd 2 (by kernel_rfl)
        have g73 : t[(73 : Nat)]? = some (.pointer (some ⟨S1, 0, none⟩)) := (hon 2 73 rfl).trans (congrArg some (h2 d2))
        have c0 := hcell (k := 0) (v := .int .i64 (x : Nat)) hE rfl
        clear hoff hon hd
        refine wpOp_of rfl rfl ?_
        go_simp
        exact hK.out _ _ ⟨(hW), (hM), (hE), (hP), (hF), (e4), (e7), (e9), (h0), (h1), (h2), (fun _ => rfl), (h5), (h6), (h8), (h11)⟩
      · intro hb hd hK
        have d1 := hd 1 (by kernel_rfl)
        have g72 : t[(72 : Nat)]? = some (.slice (some ⟨G, off, none⟩) n tc) := (hon 1 72 rfl).trans (congrArg some (h1 d1))
        have d3 := hd 3 (by kernel_rfl)
        have g74 : t[(74 : Nat)]? = some (.int .i64 (x : Nat)) := (hon 3 74 rfl).trans (congrArg some (h3 d3))
        clear hoff hon hd
        refine wpOp_of rfl rfl ?_
        go_simp
        go_at_call 103
        refine (FI.out _ _ hW).mono ?_
        rintro e wz ⟨⟨F, rfl⟩, hbz⟩
        (try go_simp)
        exact hK.out _ _ ⟨(hW.trans (hbz.mono hW.size)), (hkeep hbz hM), (hkeep hbz hE), (hkeep hbz hP), (hkeep hbz hF), (fun _ => ⟨F, rfl⟩), (e7), (e9), (h0), (h1), (h2), (h3), (h5), (h6), (h8), (h11)⟩
      · intro hb hd hK
        have g3 : t[(3 : Nat)]? = some (.pointer (some ⟨S1, 0, none⟩)) := hoff 3 _ rfl rfl
        clear hoff hon hd
        refine wpOp_of rfl rfl ?_
        go_simp
        exact hK.out _ _ ⟨(hW), (hM), (hE), (hP), (hF), (e4), (e7), (e9), (h0), (h1), (h2), (h3), (fun _ => rfl), (h6), (h8), (h11)⟩
      · intro hb hd hK
        have d5 := hd 5 (by kernel_rfl)
        have g76 : t[(76 : Nat)]? = some (.pointer (some ⟨S1, 1, none⟩)) := (hon 5 76 rfl).trans (congrArg some (h5 d5))
        have c0 := hcell (k := 1) (v := .int .i64 (y : Nat)) hE rfl
        clear hoff hon hd
        refine wpOp_of rfl rfl ?_
        go_simp
        exact hK.out _ _ ⟨(hW), (hM), (hE), (hP), (hF), (e4), (e7), (e9), (h0), (h1), (h2), (h3), (h5), (fun _ => rfl), (h8), (h11)⟩
      · intro hb hd hK
        have d4 := hd 4 (by kernel_rfl)
        have g75 : t[(75 : Nat)]? = some (vals 4) := hon 4 75 rfl
        have d6 := hd 6 (by kernel_rfl)
        have g77 : t[(77 : Nat)]? = some (.int .i64 (y : Nat)) := (hon 6 77 rfl).trans (congrArg some (h6 d6))
        obtain ⟨F, eF⟩ := e4 d4
        rw [eF] at g75
        clear hoff hon hd
        refine wpOp_of rfl rfl ?_
        go_simp
        exact hK.out _ _ ⟨(hW), (hM), (hE), (hP), (hF), (e4), (fun _ => ⟨_, rfl⟩), (e9), (h0), (h1), (h2), (h3), (h5), (h6), (h8), (h11)⟩
      · intro hb hd hK
        have g7 : t[(7 : Nat)]? = some (.pointer (some ⟨P, 0, none⟩)) := hoff 7 _ rfl rfl
        have c0 := hcell (k := 0) (v := .int .i64 fy) hP rfl
        have c1 := hcell (k := 1) (v := .int .i64 ft) hP rfl
        have c2 := hcell (k := 2) (v := .int .i64 fa) hP rfl
        clear hoff hon hd
        refine wpOp_of rfl rfl ?_
        go_simp
        exact hK.out _ _ ⟨(hW), (hM), (hE), (hP), (hF), (e4), (e7), (e9), (h0), (h1), (h2), (h3), (h5), (h6), (fun _ => rfl), (h11)⟩
      · intro hb hd hK
        have d7 := hd 7 (by kernel_rfl)
        have g78 : t[(78 : Nat)]? = some (vals 7) := hon 7 78 rfl
        obtain ⟨F, eF⟩ := e7 d7
        rw [eF] at g78
        clear hoff hon hd
        refine wpOp_of rfl rfl ?_
        go_simp
        exact hK.out _ _ ⟨(hW), (hM), (hE), (hP), (hF), (e4), (e7), (fun _ => ⟨_, rfl⟩), (h0), (h1), (h2), (h3), (h5), (h6), (h8), (h11)⟩
      · intro hb hd hK
        have g5 : t[(5 : Nat)]? = some (.pointer (some ⟨S2, 0, none⟩)) := hoff 5 _ rfl rfl
        have d8 := hd 8 (by kernel_rfl)
        have g79 : t[(79 : Nat)]? = some (.agg #[.int .i64 fy, .int .i64 ft, .int .i64 fa]) := (hon 8 79 rfl).trans (congrArg some (h8 d8))
        have k2 := hF
        rw [hb] at k2
        replace k2 : wi.heap[S2]? = some (.cells #[.int .i64 0, .int .i64 0, .int .i64 0] 102 (0, 0)) := k2
        have x0 := hfroz (k := 0) k2
        have z0 := hcell (k := 0) (v := .int .i64 0) k2 rfl
        have hN0 := heap_setCell_same _ S2 0 _ _ (.int .i64 fy) k2
        have x1 := hfroz (k := 1) hN0
        have z1 := hcell (k := 1) (v := .int .i64 0) hN0 rfl
        have hN1 := heap_setCell_same _ S2 1 _ _ (.int .i64 ft) hN0
        have x2 := hfroz (k := 2) hN1
        have z2 := hcell (k := 2) (v := .int .i64 0) hN1 rfl
        have hN2 := heap_setCell_same _ S2 2 _ _ (.int .i64 fa) hN1
        have hgw := grown_set3P wi S2 (.int .i64 fy) (.int .i64 ft) (.int .i64 fa)
        clear k2 hN0 hN1
        clear hoff hon hd
        refine wpOp_of rfl rfl ?_
        go_simp
        exact hK.out undef _ ⟨(below_setP hW h2w hgw), (hgrown hgw hM (fun e => h20 (Option.some.inj e).symm)), (hgrown hgw hE (fun e => h21 (Option.some.inj e).symm)), (hgrown hgw hP (fun e => hP2 (Option.some.inj e).symm)), ((by rw [show updB b 10 10 = true from rfl]; exact hN2)), (e4), (e7), (e9), (h0), (h1), (h2), (h3), (h5), (h6), (h8), (h11)⟩
      · intro hb hd hK
        clear hoff hon hd
        refine wpOp_of rfl rfl ?_
        go_simp
        exact hK.out _ _ ⟨(hW), (hM), (hE), (hP), (hF), (e4), (e7), (e9), (h0), (h1), (h2), (h3), (h5), (h6), (h8), (fun _ => rfl)⟩
    · intro b vals wi hR hall
      obtain ⟨hW, hM, hE, hP, hF, e4, e7, e9, h0, h1, h2, h3, h5, h6, h8, h11⟩ := hR
      obtain ⟨z, ez⟩ := e9 (hall 9 (by decide))
      have e11 := h11 (hall 11 (by decide))
      rw [hall 10 (by decide)] at hF
      replace hF : wi.heap[S2]? = some (.cells #[.int .i64 fy, .int .i64 ft, .int .i64 fa] 102 (0, 0)) := hF
      dsimp only [over]
      rw [ez, e11]
      have HFX := Lib.hid hF
      clear h0 h1 h2 h3 h5 h6 h8 h11 e4 e7 e9 ez e11 hM hE hP hF hall
      go_wp2
      refine bodyPost_ret (results_tct rfl _ _ S2 102 #[.int .i64 fy, .int .i64 ft, .int .i64 fa] (0, 0) _ rfl HFX.out Try.underlying102 rfl (by kernel_rfl)) rfl ?_
      exact And.intro ⟨_, _, _, _, _, rfl⟩ hW
end Go.Proofs.Ytgfmdgiepomkiaa
