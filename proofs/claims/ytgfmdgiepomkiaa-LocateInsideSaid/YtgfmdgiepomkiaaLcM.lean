/- Walk: locate.Nearest. -/
import Derived.Test.YtgfmdgiepomkiaaMsC
import Derived.Test.YtgfmdgiepomkiaaLcN
namespace Go.Proofs.Ytgfmdgiepomkiaa
open Go.RowKit Go.Sort
attribute [local go_sem] Instr.index

/-- What locate.Nearest tells: where it tells a place, the first of the least stands there. -/
def NePost (F : RHd × Rc → Int) (G : RHd × Rc → Bool) (rs : List (RHd × Rc)) (n : Nat) (w : World) (e : Ending) (w' : World) : Prop := (∃ k d E : Int, e = .returned (.tuple #[.int .i64 k, .int .i64 d, .int .i64 E]) ∧ (E = 0 → LeastAt F G rs n k d true)) ∧ Below w.heap.size w w'
set_option maxRecDepth 100000 in
set_option maxHeartbeats 16000000 in
theorem lnearest_any (m : Msh) (f : Flt) (px pz : Int) (w : World) (hm : MshAt w m) (hr : ∀ t ∈ m.ts, t.rn ≤ 60 ∧ t.dn ≤ 500) (hn9 : m.tn ≤ 9) :
    Calls Try.prog 16 #[mshV m, fltV f, .agg #[.int .i64 px, .int .i64 pz]] w (NePost (fun x : RHd × Rc => farF x.2 px pz) (fun x => admF f x.2.area) m.rs m.rn w) := by
  have hB : Below w.heap.size w (((w.alloc (.cells #[.int .i64 m.cf.clear, .int .i64 m.cf.climb, .int .i64 m.cf.height, .int .i64 m.cf.rise, .int .i64 m.cf.run, .int .i64 m.cf.w, .int .i64 m.cf.d, .slice m.ta m.tn m.tc, .slice m.ra m.rn m.rc, .slice m.da m.dn m.dc, .slice m.ha m.hn m.hc] 43 (0, 0))).alloc (.cells #[.int .i64 f.areas, .int .i64 f.c0, .int .i64 f.c1, .int .i64 f.c2, .int .i64 f.c3, .int .i64 f.c4, .int .i64 f.c5, .int .i64 f.c6, .int .i64 f.c7] 46 (0, 0))).alloc (.cells #[.int .i64 px, .int .i64 pz] 48 (0, 0))) := (((Below.refl _ _).alloc (Nat.le_refl _) _).alloc (by simp) _).alloc (by simp; omega) _
  have hM := halloc (halloc (World.alloc_heap_new w (.cells #[.int .i64 m.cf.clear, .int .i64 m.cf.climb, .int .i64 m.cf.height, .int .i64 m.cf.rise, .int .i64 m.cf.run, .int .i64 m.cf.w, .int .i64 m.cf.d, .slice m.ta m.tn m.tc, .slice m.ra m.rn m.rc, .slice m.da m.dn m.dc, .slice m.ha m.hn m.hc] 43 (0, 0))) (.cells #[.int .i64 f.areas, .int .i64 f.c0, .int .i64 f.c1, .int .i64 f.c2, .int .i64 f.c3, .int .i64 f.c4, .int .i64 f.c5, .int .i64 f.c6, .int .i64 f.c7] 46 (0, 0))) (.cells #[.int .i64 px, .int .i64 pz] 48 (0, 0))
  have hF := halloc (World.alloc_heap_new (w.alloc (.cells #[.int .i64 m.cf.clear, .int .i64 m.cf.climb, .int .i64 m.cf.height, .int .i64 m.cf.rise, .int .i64 m.cf.run, .int .i64 m.cf.w, .int .i64 m.cf.d, .slice m.ta m.tn m.tc, .slice m.ra m.rn m.rc, .slice m.da m.dn m.dc, .slice m.ha m.hn m.hc] 43 (0, 0))) (.cells #[.int .i64 f.areas, .int .i64 f.c0, .int .i64 f.c1, .int .i64 f.c2, .int .i64 f.c3, .int .i64 f.c4, .int .i64 f.c5, .int .i64 f.c6, .int .i64 f.c7] 46 (0, 0))) (.cells #[.int .i64 px, .int .i64 pz] 48 (0, 0))
  have hP := World.alloc_heap_new ((w.alloc (.cells #[.int .i64 m.cf.clear, .int .i64 m.cf.climb, .int .i64 m.cf.height, .int .i64 m.cf.rise, .int .i64 m.cf.run, .int .i64 m.cf.w, .int .i64 m.cf.d, .slice m.ta m.tn m.tc, .slice m.ra m.rn m.rc, .slice m.da m.dn m.dc, .slice m.ha m.hn m.hc] 43 (0, 0))).alloc (.cells #[.int .i64 f.areas, .int .i64 f.c0, .int .i64 f.c1, .int .i64 f.c2, .int .i64 f.c3, .int .i64 f.c4, .int .i64 f.c5, .int .i64 f.c6, .int .i64 f.c7] 46 (0, 0))) (.cells #[.int .i64 px, .int .i64 pz] 48 (0, 0))
  simp only [World.size_alloc] at hF hP
  obtain ⟨W1, hW1⟩ : ∃ W, W = ((w.alloc (.cells #[.int .i64 m.cf.clear, .int .i64 m.cf.climb, .int .i64 m.cf.height, .int .i64 m.cf.rise, .int .i64 m.cf.run, .int .i64 m.cf.w, .int .i64 m.cf.d, .slice m.ta m.tn m.tc, .slice m.ra m.rn m.rc, .slice m.da m.dn m.dc, .slice m.ha m.hn m.hc] 43 (0, 0))).alloc (.cells #[.int .i64 f.areas, .int .i64 f.c0, .int .i64 f.c1, .int .i64 f.c2, .int .i64 f.c3, .int .i64 f.c4, .int .i64 f.c5, .int .i64 f.c6, .int .i64 f.c7] 46 (0, 0))).alloc (.cells #[.int .i64 px, .int .i64 pz] 48 (0, 0)) := ⟨_, rfl⟩
  obtain ⟨S0, hS0⟩ : ∃ S, S = w.heap.size := ⟨_, rfl⟩
  obtain ⟨S1, hS1⟩ : ∃ S, S = S0 + 1 := ⟨_, rfl⟩
  obtain ⟨S2, hS2⟩ : ∃ S, S = S1 + 1 := ⟨_, rfl⟩
  rw [← hW1] at hB hM hF hP
  rw [← hS0] at hM hF hP
  rw [← hS1] at hF hP
  rw [← hS2] at hP
  have CK := Lib.hid (fun W (hb : Below w.heap.size w W) => mscheck_any m W (hm.below hb) hr hn9)
  have MY := Lib.hid (fun W => lmay_any f W)
  have LE := Lib.hid (fun W (hb : Below w.heap.size w W) hQ hT => least_any m.ra m.rn m.rc m.rs px pz f S2 S1 W (hm.below hb).r hQ hT)
  unfold InPost at CK
  unfold LeastPost at LE
  generalize (fun x : RHd × Rc => farF x.2 px pz) = FF at LE ⊢
  generalize (fun x : RHd × Rc => admF f x.2.area) = GG at LE ⊢
  generalize fltMay f = may at MY
  clear hm hr
  dsimp only [mshV, mshA, fltV, fltA, ptO, fltO, nearV] at CK MY LE ⊢
  go_enter Try.func16, Try.ntmps16
  go_upto_region 1 with fail
  rw [← hW1, ← hS0, ← hS1, ← hS2]
  clear hW1 hS0 hS1 hS2
  have HM := Lib.hid hM
  have HF := Lib.hid hF
  have HP := Lib.hid hP
  have c0 := hcell (k := 0) (v := .int .i64 m.cf.clear) hM rfl
  have c1 := hcell (k := 1) (v := .int .i64 m.cf.climb) hM rfl
  have c2 := hcell (k := 2) (v := .int .i64 m.cf.height) hM rfl
  have c3 := hcell (k := 3) (v := .int .i64 m.cf.rise) hM rfl
  have c4 := hcell (k := 4) (v := .int .i64 m.cf.run) hM rfl
  have c5 := hcell (k := 5) (v := .int .i64 m.cf.w) hM rfl
  have c6 := hcell (k := 6) (v := .int .i64 m.cf.d) hM rfl
  have c7 := hcell (k := 7) (v := .slice m.ta m.tn m.tc) hM rfl
  have c8 := hcell (k := 8) (v := .slice m.ra m.rn m.rc) hM rfl
  have c9 := hcell (k := 9) (v := .slice m.da m.dn m.dc) hM rfl
  have c10 := hcell (k := 10) (v := .slice m.ha m.hn m.hc) hM rfl
  clear hM hF hP
  go_wp2_with fail
  refine (CK.out _ hB).mono ?_
  rintro e w1 ⟨⟨E, rfl⟩, hb1⟩
  have hB1 := hB.trans (hb1.mono hB.size)
  clear c0 c1 c2 c3 c4 c5 c6 c7 c8 c9 c10
  by_cases hE0 : E = 0
  case neg =>
    have qq : (E != 0) = true := by simp [hE0]
    go_wp2
    refine bodyPost_ret (results_tmp3L rfl _ _ _) rfl ?_
    exact And.intro ⟨0, 0, 2, rfl, fun h => absurd h (by decide)⟩ hB1
  subst hE0
  have hF1 := hkeep hb1 HF.out
  have d0 := hcell (k := 0) (v := .int .i64 f.areas) hF1 rfl
  have d1 := hcell (k := 1) (v := .int .i64 f.c0) hF1 rfl
  have d2 := hcell (k := 2) (v := .int .i64 f.c1) hF1 rfl
  have d3 := hcell (k := 3) (v := .int .i64 f.c2) hF1 rfl
  have d4 := hcell (k := 4) (v := .int .i64 f.c3) hF1 rfl
  have d5 := hcell (k := 5) (v := .int .i64 f.c4) hF1 rfl
  have d6 := hcell (k := 6) (v := .int .i64 f.c5) hF1 rfl
  have d7 := hcell (k := 7) (v := .int .i64 f.c6) hF1 rfl
  have d8 := hcell (k := 8) (v := .int .i64 f.c7) hF1 rfl
  clear hF1
  go_wp2_with fail
  refine (MY.out _).mono ?_
  rintro e w2 ⟨rfl, hb2⟩
  have hR2 := hb1.trans (hb2.mono hb1.size)
  have hB2 := hB.trans (hR2.mono hB.size)
  clear d0 d1 d2 d3 d4 d5 d6 d7 d8
  cases may with
  | false =>
    go_wp2
    refine bodyPost_ret (results_tmp3L rfl _ _ _) rfl ?_
    exact And.intro ⟨0, 0, 2, rfl, fun h => absurd h (by decide)⟩ hB2
  | true =>
  have c8 := hcell (k := 8) (v := .slice m.ra m.rn m.rc) (hkeep hR2 HM.out) rfl
  go_wp2_with fail
  refine (LE.out _ hB2 (hkeep hR2 HP.out) (hkeep hR2 HF.out)).mono ?_
  rintro e w3 ⟨⟨k, d, ok, rfl, hL⟩, hb3⟩
  have hB3 := hB2.trans (hb3.mono hB2.size)
  have HL := Lib.hid hL
  clear c8 hL
  cases ok with
  | false =>
    go_wp2
    refine bodyPost_ret (results_tmp3L rfl _ _ _) rfl ?_
    exact And.intro ⟨0, 0, 4, rfl, fun h => absurd h (by decide)⟩ hB3
  | true =>
    go_wp2
    refine bodyPost_ret (results_tmp3L rfl _ _ _) rfl ?_
    exact And.intro ⟨k, d, 0, rfl, fun _ => HL.out⟩ hB3
end Go.Proofs.Ytgfmdgiepomkiaa
