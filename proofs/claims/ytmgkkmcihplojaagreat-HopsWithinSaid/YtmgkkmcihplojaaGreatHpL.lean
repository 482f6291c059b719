/- Walks: where a spot locates: hops.locate, Locate. -/
import Derived.Test.YtmgkkmcihplojaaGreatHpN
import Derived.Test.YtmgkkmcihplojaaGreatHpC
namespace Go.Proofs.YtmgkkmcihplojaaGreat
open Go.RowKit Go.Sort
attribute [local go_sem] Instr.index

/-- An end's cells: of the floor that was found. -/
def enA (x z : Int) (o : Option Fd) : Array Value := match o with
  | none => #[.int .i64 0, .int .i64 0, .int .i64 0, .int .i64 0, .int .i64 0]
  | some d => #[.int .i64 (d.i : Int), .int .i64 (d.k : Int), .int .i64 x, .int .i64 z, .int .i64 d.y]
/-- What locate tells. -/
def LoPost (x z : Int) (o : Option Fd) (w : World) (e : Ending) (w' : World) : Prop := e = .returned (.tuple #[.agg (enA x z o), .bool o.isSome]) ∧ Below w.heap.size w w'
set_option maxRecDepth 100000 in
set_option maxHeartbeats 8000000 in
theorem hploc_any (a : Option Addr) (n c : Nat) (ts : List Tl) (x z y wi : Int) (w : World) (hx : SlTl w a n c ts) (hn9 : n ≤ 9) (hr : ∀ t ∈ ts, t.rn ≤ 60) (hg : ∀ t ∈ ts, ∀ p ∈ t.rs, ∀ f, rcAt p.2 x z = some f → -2048 ≤ f.y ∧ f.y ≤ 2048) :
    Calls Tryz.prog 12 #[.slice a n c, .agg #[.int .i64 x, .int .i64 z, .int .i64 y], .int .i64 wi] w (LoPost x z (locD x z (clY y) wi (tlRs ts)) w) := by
  have Hl := Lib.hid hx.sl.len
  have FL := Lib.hid (fun W (hb : Below w.heap.size w W) => hpfloors_any a n c ts x z y wi W (hx.below hb (Nat.le_refl _)) hn9 hr hg)
  clear hx hn9 hr hg
  have NR := Lib.hid (fun va m vc ds W hs => hpnear_any x z (clY y) va m vc ds W hs)
  unfold FlPost at FL
  unfold NrPost at NR
  have HLO : Hid (locD x z (clY y) wi (tlRs ts) = nrL (clY y) (fdTo x z (clY y) wi (tlRs ts) n)) := by
    show _ = _
    unfold locD
    rw [show (tlRs ts).length = n from by unfold tlRs; rw [List.length_map, Hl.out]]
  rw [HLO.out]
  clear HLO
  obtain ⟨Y, hY⟩ : ∃ Y, Y = clY y := ⟨_, rfl⟩
  rw [← hY] at FL NR ⊢
  clear hY
  obtain ⟨O, hO⟩ : ∃ O, O = nrL Y (fdTo x z Y wi (tlRs ts) n) := ⟨_, rfl⟩
  rw [← hO]
  have HO := Lib.hid hO
  clear hO
  have hB : Below w.heap.size w ((w.alloc (.cells #[.int .i64 x, .int .i64 z, .int .i64 y] 26 (0, 0))).alloc (.cells #[.int .i64 0, .int .i64 0, .int .i64 0, .int .i64 0, .int .i64 0] 30 (0, 0))) := ((Below.refl _ _).alloc (Nat.le_refl _) _).alloc (by simp) _
  have hS := halloc (World.alloc_heap_new w (.cells #[.int .i64 x, .int .i64 z, .int .i64 y] 26 (0, 0))) (.cells #[.int .i64 0, .int .i64 0, .int .i64 0, .int .i64 0, .int .i64 0] 30 (0, 0))
  have hE := World.alloc_heap_new (w.alloc (.cells #[.int .i64 x, .int .i64 z, .int .i64 y] 26 (0, 0))) (.cells #[.int .i64 0, .int .i64 0, .int .i64 0, .int .i64 0, .int .i64 0] 30 (0, 0))
  rw [World.size_alloc] at hE
  obtain ⟨W1, hW1⟩ : ∃ W, W = (w.alloc (.cells #[.int .i64 x, .int .i64 z, .int .i64 y] 26 (0, 0))).alloc (.cells #[.int .i64 0, .int .i64 0, .int .i64 0, .int .i64 0, .int .i64 0] 30 (0, 0)) := ⟨_, rfl⟩
  obtain ⟨S0, hS0⟩ : ∃ S, S = w.heap.size := ⟨_, rfl⟩
  obtain ⟨S1, hS1⟩ : ∃ S, S = S0 + 1 := ⟨_, rfl⟩
  rw [← hW1] at hB hS hE
  rw [← hS0] at hS hE
  rw [← hS1] at hE
  have hwS : w.heap.size ≤ S1 := by omega
  have s0 := hcell (k := 0) (v := .int .i64 x) hS rfl
  have s1 := hcell (k := 1) (v := .int .i64 z) hS rfl
  have s2 := hcell (k := 2) (v := .int .i64 y) hS rfl
  clear hS
  go_enter Tryz.func12, Tryz.ntmps12
  go_upto_region 1 with fail
  rw [← hW1, ← hS0, ← hS1]
  clear hW1 hS0 hS1
  go_wp2_with fail
  refine (FL.out _ hB).mono ?_
  rintro e w2 ⟨⟨va, m, vc, ds, rfl, hsl, hds, _⟩, hb2⟩
  have hE2 := hkeep hb2 hE
  have hB2 := hB.trans (hb2.mono hB.size)
  have Hds := Lib.hid hds
  clear s0 s1 s2 hB hE hb2 FL hds
  go_wp2_with fail
  refine (NR.out va m vc ds _ hsl).mono ?_
  rintro e w3 ⟨rfl, hb3⟩
  have hE3 := hkeep hb3 hE2
  have hB3 := hB2.trans (hb3.mono hB2.size)
  clear hE2 hB2 hb3 hsl NR
  have e0 : nrL Y ds = O := by rw [Hds.out, HO.out]
  rw [e0]
  clear e0 HO Hds
  cases O with
  | none =>
    dsimp only [bsA, enA, Option.isSome]
    have hA : Below w3.heap.size w3 (w3.alloc (.cells #[.int .i64 0, .int .i64 0, .int .i64 0, .int .i64 0, .int .i64 0, .int .i64 0] 63 (0, 0))) := (Below.refl _ _).alloc (Nat.le_refl _) _
    have hN := World.alloc_heap_new w3 (.cells #[.int .i64 0, .int .i64 0, .int .i64 0, .int .i64 0, .int .i64 0, .int .i64 0] 63 (0, 0))
    have hE4 := hkeep hA hE3
    have hB4 := hB3.trans (hA.mono hB3.size)
    obtain ⟨W4, hW4⟩ : ∃ W, W = w3.alloc (.cells #[.int .i64 0, .int .i64 0, .int .i64 0, .int .i64 0, .int .i64 0, .int .i64 0] 63 (0, 0)) := ⟨_, rfl⟩
    obtain ⟨T4, hT4⟩ : ∃ T, T = w3.heap.size := ⟨_, rfl⟩
    rw [← hW4] at hN hE4 hB4
    rw [← hT4] at hN
    clear hA hE3 hB3
    go_upto_region 2 with fail
    rw [← hW4, ← hT4]
    clear hW4 hT4
    have n0 := hcell (k := 0) (v := .int .i64 0) hN rfl
    have n1 := hcell (k := 1) (v := .int .i64 0) hN rfl
    have n2 := hcell (k := 2) (v := .int .i64 0) hN rfl
    have n3 := hcell (k := 3) (v := .int .i64 0) hN rfl
    have n4 := hcell (k := 4) (v := .int .i64 0) hN rfl
    clear hN
    have f0 := hfroz (k := 0) hE4
    have z0 := hcell (k := 0) (v := .int .i64 0) hE4 rfl
    have f1 := hfroz (k := 1) hE4
    have z1 := hcell (k := 1) (v := .int .i64 0) hE4 rfl
    have f2 := hfroz (k := 2) hE4
    have z2 := hcell (k := 2) (v := .int .i64 0) hE4 rfl
    have f3 := hfroz (k := 3) hE4
    have z3 := hcell (k := 3) (v := .int .i64 0) hE4 rfl
    have f4 := hfroz (k := 4) hE4
    have z4 := hcell (k := 4) (v := .int .i64 0) hE4 rfl
    have hE9 := hbox5_set hE4 (.int .i64 0) (.int .i64 0) (.int .i64 0) (.int .i64 0) (.int .i64 0)
    have hB9 := hB4.grown (hbox5_grown (w := W4) (b := S1) (.int .i64 0) (.int .i64 0) (.int .i64 0) (.int .i64 0) (.int .i64 0)) hB4.size (fun j hj => by cases hj; omega)
    clear hE4 hB4
    go_wp2
    refine bodyPost_ret (results_c1t rfl _ _ S1 30 #[.int .i64 0, .int .i64 0, .int .i64 0, .int .i64 0, .int .i64 0] (0, 0) _ rfl hE9 Tryz.underlying30 rfl (by kernel_rfl)) rfl ?_
    exact And.intro rfl hB9
  | some d =>
    dsimp only [bsA, fdA, enA, Option.isSome]
    have hA : Below w3.heap.size w3 (w3.alloc (.cells #[.int .i64 (d.i : Int), .int .i64 (d.k : Int), .int .i64 x, .int .i64 z, .int .i64 d.y, .int .i64 (offD Y d.y)] 63 (0, 0))) := (Below.refl _ _).alloc (Nat.le_refl _) _
    have hN := World.alloc_heap_new w3 (.cells #[.int .i64 (d.i : Int), .int .i64 (d.k : Int), .int .i64 x, .int .i64 z, .int .i64 d.y, .int .i64 (offD Y d.y)] 63 (0, 0))
    have hE4 := hkeep hA hE3
    have hB4 := hB3.trans (hA.mono hB3.size)
    obtain ⟨W4, hW4⟩ : ∃ W, W = w3.alloc (.cells #[.int .i64 (d.i : Int), .int .i64 (d.k : Int), .int .i64 x, .int .i64 z, .int .i64 d.y, .int .i64 (offD Y d.y)] 63 (0, 0)) := ⟨_, rfl⟩
    obtain ⟨T4, hT4⟩ : ∃ T, T = w3.heap.size := ⟨_, rfl⟩
    rw [← hW4] at hN hE4 hB4
    rw [← hT4] at hN
    clear hA hE3 hB3
    go_upto_region 2 with fail
    rw [← hW4, ← hT4]
    clear hW4 hT4
    have n0 := hcell (k := 0) (v := .int .i64 (d.i : Int)) hN rfl
    have n1 := hcell (k := 1) (v := .int .i64 (d.k : Int)) hN rfl
    have n2 := hcell (k := 2) (v := .int .i64 x) hN rfl
    have n3 := hcell (k := 3) (v := .int .i64 z) hN rfl
    have n4 := hcell (k := 4) (v := .int .i64 d.y) hN rfl
    clear hN
    have f0 := hfroz (k := 0) hE4
    have z0 := hcell (k := 0) (v := .int .i64 0) hE4 rfl
    have f1 := hfroz (k := 1) hE4
    have z1 := hcell (k := 1) (v := .int .i64 0) hE4 rfl
    have f2 := hfroz (k := 2) hE4
    have z2 := hcell (k := 2) (v := .int .i64 0) hE4 rfl
    have f3 := hfroz (k := 3) hE4
    have z3 := hcell (k := 3) (v := .int .i64 0) hE4 rfl
    have f4 := hfroz (k := 4) hE4
    have z4 := hcell (k := 4) (v := .int .i64 0) hE4 rfl
    have hE9 := hbox5_set hE4 (.int .i64 (d.i : Int)) (.int .i64 (d.k : Int)) (.int .i64 x) (.int .i64 z) (.int .i64 d.y)
    have hB9 := hB4.grown (hbox5_grown (w := W4) (b := S1) (.int .i64 (d.i : Int)) (.int .i64 (d.k : Int)) (.int .i64 x) (.int .i64 z) (.int .i64 d.y)) hB4.size (fun j hj => by cases hj; omega)
    clear hE4 hB4
    go_wp2
    refine bodyPost_ret (results_c1t rfl _ _ S1 30 #[.int .i64 (d.i : Int), .int .i64 (d.k : Int), .int .i64 x, .int .i64 z, .int .i64 d.y] (0, 0) _ rfl hE9 Tryz.underlying30 rfl (by kernel_rfl)) rfl ?_
    exact And.intro rfl hB9
set_option maxHeartbeats 4000000 in
theorem hpcheck_any (cf : Cfg) (a : Option Addr) (n c : Nat) (ts : List Tl) (w : World) (hx : SlTl w a n c ts) :
    Calls Tryz.prog 11 #[cfgV cf, .slice a n c] w fun e w' => e = .returned (.int .i64 (smE cf ts)) ∧ Below w.heap.size w w' := by
  have hB : Below w.heap.size w (w.alloc (cfO cf)) := (Below.refl _ _).alloc (Nat.le_refl _) _
  have hC := World.alloc_heap_new w (cfO cf)
  have SC := Lib.hid (smcheckv_any cf a n c ts _ (hx.below hB (Nat.le_refl _)))
  clear hx
  generalize smE cf ts = E at SC ⊢
  dsimp only [cfO, cfgV] at hB hC SC ⊢
  have c0 := hcell (k := 0) (v := .int .i64 cf.clear) hC rfl
  have c1 := hcell (k := 1) (v := .int .i64 cf.climb) hC rfl
  have c2 := hcell (k := 2) (v := .int .i64 cf.height) hC rfl
  have c3 := hcell (k := 3) (v := .int .i64 cf.rise) hC rfl
  have c4 := hcell (k := 4) (v := .int .i64 cf.run) hC rfl
  have c5 := hcell (k := 5) (v := .int .i64 cf.w) hC rfl
  have c6 := hcell (k := 6) (v := .int .i64 cf.d) hC rfl
  clear hC
  go_enter Tryz.func11, Tryz.ntmps11
  go_wp2_with fail
  refine SC.out.mono ?_
  rintro e w2 ⟨rfl, hb2⟩
  have hB2 := hB.trans (hb2.mono hB.size)
  clear c0 c1 c2 c3 c4 c5 c6
  go_wp2
  go_ret
  exact ⟨rfl, hB2⟩
/-- Where a spot locates, on tiles. -/
def lcE (cf : Cfg) (x z y wi : Int) (ts : List Tl) : Option Fd := if smE cf ts = 0 then locD x z (clY y) wi (tlRs ts) else none
set_option maxRecDepth 100000 in
set_option maxHeartbeats 8000000 in
theorem hplocate_any (cf : Cfg) (a : Option Addr) (n c : Nat) (ts : List Tl) (x z y wi : Int) (w : World) (hx : SlTl w a n c ts) (hn9 : n ≤ 9) (hr : ∀ t ∈ ts, t.rn ≤ 60) :
    Calls Tryz.prog 6 #[cfgV cf, .slice a n c, .agg #[.int .i64 x, .int .i64 z, .int .i64 y], .int .i64 wi] w (LoPost x z (lcE cf x z y wi ts) w) := by
  have CK := Lib.hid (fun W (hb : Below w.heap.size w W) => hpcheck_any cf a n c ts W (hx.below hb (Nat.le_refl _)))
  have LO := Lib.hid (fun W (hb : Below w.heap.size w W) (hg : ∀ t ∈ ts, ∀ p ∈ t.rs, ∀ f, rcAt p.2 x z = some f → -2048 ≤ f.y ∧ f.y ≤ 2048) => hploc_any a n c ts x z y wi W (hx.below hb (Nat.le_refl _)) hn9 hr hg)
  have HG : Hid (smE cf ts = 0 → ∀ t ∈ ts, ∀ p ∈ t.rs, ∀ f, rcAt p.2 x z = some f → -2048 ≤ f.y ∧ f.y ≤ 2048) := fun h0 t ht p hp f hf => rcAt_hgt (smE_rc h0 ht hp) hf
  clear hx hn9 hr
  unfold LoPost at LO
  have H0 : Hid (smE cf ts = 0 → lcE cf x z y wi ts = locD x z (clY y) wi (tlRs ts)) := fun h => by unfold lcE; rw [if_pos h]
  have H1 : Hid (smE cf ts ≠ 0 → lcE cf x z y wi ts = none) := fun h => by unfold lcE; rw [if_neg h]
  generalize lcE cf x z y wi ts = R at H0 H1 ⊢
  generalize locD x z (clY y) wi (tlRs ts) = O at LO H0
  generalize smE cf ts = E at CK HG H0 H1
  have hB : Below w.heap.size w (((w.alloc (cfO cf)).alloc (.cells #[.int .i64 x, .int .i64 z, .int .i64 y] 26 (0, 0))).alloc (.cells #[.int .i64 0, .int .i64 0, .int .i64 0, .int .i64 0, .int .i64 0] 30 (0, 0))) := (((Below.refl _ _).alloc (Nat.le_refl _) _).alloc (by simp) _).alloc (by simp; omega) _
  have hC := halloc (halloc (World.alloc_heap_new w (cfO cf)) (.cells #[.int .i64 x, .int .i64 z, .int .i64 y] 26 (0, 0))) (.cells #[.int .i64 0, .int .i64 0, .int .i64 0, .int .i64 0, .int .i64 0] 30 (0, 0))
  have hS := halloc (World.alloc_heap_new (w.alloc (cfO cf)) (.cells #[.int .i64 x, .int .i64 z, .int .i64 y] 26 (0, 0))) (.cells #[.int .i64 0, .int .i64 0, .int .i64 0, .int .i64 0, .int .i64 0] 30 (0, 0))
  have hE := World.alloc_heap_new ((w.alloc (cfO cf)).alloc (.cells #[.int .i64 x, .int .i64 z, .int .i64 y] 26 (0, 0))) (.cells #[.int .i64 0, .int .i64 0, .int .i64 0, .int .i64 0, .int .i64 0] 30 (0, 0))
  simp only [World.size_alloc] at hS hE
  obtain ⟨W1, hW1⟩ : ∃ W, W = ((w.alloc (cfO cf)).alloc (.cells #[.int .i64 x, .int .i64 z, .int .i64 y] 26 (0, 0))).alloc (.cells #[.int .i64 0, .int .i64 0, .int .i64 0, .int .i64 0, .int .i64 0] 30 (0, 0)) := ⟨_, rfl⟩
  obtain ⟨S0, hS0⟩ : ∃ S, S = w.heap.size := ⟨_, rfl⟩
  obtain ⟨S1, hS1⟩ : ∃ S, S = S0 + 1 := ⟨_, rfl⟩
  obtain ⟨S2, hS2⟩ : ∃ S, S = S1 + 1 := ⟨_, rfl⟩
  rw [← hW1] at hB hC hS hE
  rw [← hS0] at hC hS hE
  rw [← hS1] at hS hE
  rw [← hS2] at hE
  have hwS : w.heap.size ≤ S2 := by omega
  dsimp only [cfO, cfgV] at hC hW1 CK ⊢
  have c0 := hcell (k := 0) (v := .int .i64 cf.clear) hC rfl
  have c1 := hcell (k := 1) (v := .int .i64 cf.climb) hC rfl
  have c2 := hcell (k := 2) (v := .int .i64 cf.height) hC rfl
  have c3 := hcell (k := 3) (v := .int .i64 cf.rise) hC rfl
  have c4 := hcell (k := 4) (v := .int .i64 cf.run) hC rfl
  have c5 := hcell (k := 5) (v := .int .i64 cf.w) hC rfl
  have c6 := hcell (k := 6) (v := .int .i64 cf.d) hC rfl
  clear hC
  go_enter Tryz.func6, Tryz.ntmps6
  go_upto_region 1 with fail
  rw [← hW1, ← hS0, ← hS1, ← hS2]
  clear hW1 hS0 hS1 hS2
  go_wp2_with fail
  refine (CK.out _ hB).mono ?_
  rintro e w2 ⟨rfl, hb2⟩
  have hE2 := hkeep hb2 hE
  have hS2 := hkeep hb2 hS
  have hB2 := hB.trans (hb2.mono hB.size)
  clear c0 c1 c2 c3 c4 c5 c6 hB hE hS hb2 CK
  by_cases hE0 : E = 0
  case neg =>
    have HR := H1.out hE0
    have hq : (E != 0) = true := by simp [hE0]
    subst HR
    clear H0 H1 HG LO
    dsimp only [enA, Option.isSome]
    have f0 := hfroz (k := 0) hE2
    have z0 := hcell (k := 0) (v := .int .i64 0) hE2 rfl
    have f1 := hfroz (k := 1) hE2
    have z1 := hcell (k := 1) (v := .int .i64 0) hE2 rfl
    have f2 := hfroz (k := 2) hE2
    have z2 := hcell (k := 2) (v := .int .i64 0) hE2 rfl
    have f3 := hfroz (k := 3) hE2
    have z3 := hcell (k := 3) (v := .int .i64 0) hE2 rfl
    have f4 := hfroz (k := 4) hE2
    have z4 := hcell (k := 4) (v := .int .i64 0) hE2 rfl
    have hE9 := hbox5_set hE2 (.int .i64 0) (.int .i64 0) (.int .i64 0) (.int .i64 0) (.int .i64 0)
    have hB9 := hB2.grown (hbox5_grown (w := w2) (b := S2) (.int .i64 0) (.int .i64 0) (.int .i64 0) (.int .i64 0) (.int .i64 0)) hB2.size (fun j hj => by cases hj; omega)
    clear hE2 hB2
    go_wp2
    refine bodyPost_ret (results_c1t rfl _ _ S2 30 #[.int .i64 0, .int .i64 0, .int .i64 0, .int .i64 0, .int .i64 0] (0, 0) _ rfl hE9 Tryz.underlying30 rfl (by kernel_rfl)) rfl ?_
    exact And.intro rfl hB9
  have HR := H0.out hE0
  have hgg := HG.out hE0
  have LO2 := Lib.hid (fun W hb => LO.out W hb hgg)
  subst hE0
  subst HR
  clear H0 H1 HG hgg LO
  have s0 := hcell (k := 0) (v := .int .i64 x) hS2 rfl
  have s1 := hcell (k := 1) (v := .int .i64 z) hS2 rfl
  have s2 := hcell (k := 2) (v := .int .i64 y) hS2 rfl
  clear hS2
  go_wp2_with fail
  refine (LO2.out _ hB2).mono ?_
  rintro e w3 ⟨rfl, hb3⟩
  have hE3 := hkeep hb3 hE2
  have hB3 := hB2.trans (hb3.mono hB2.size)
  clear hE2 hB2 hb3 LO2 s0 s1 s2
  cases R with
  | none =>
    dsimp only [enA, Option.isSome]
    have f0 := hfroz (k := 0) hE3
    have z0 := hcell (k := 0) (v := .int .i64 0) hE3 rfl
    have f1 := hfroz (k := 1) hE3
    have z1 := hcell (k := 1) (v := .int .i64 0) hE3 rfl
    have f2 := hfroz (k := 2) hE3
    have z2 := hcell (k := 2) (v := .int .i64 0) hE3 rfl
    have f3 := hfroz (k := 3) hE3
    have z3 := hcell (k := 3) (v := .int .i64 0) hE3 rfl
    have f4 := hfroz (k := 4) hE3
    have z4 := hcell (k := 4) (v := .int .i64 0) hE3 rfl
    have hE9 := hbox5_set hE3 (.int .i64 0) (.int .i64 0) (.int .i64 0) (.int .i64 0) (.int .i64 0)
    have hB9 := hB3.grown (hbox5_grown (w := w3) (b := S2) (.int .i64 0) (.int .i64 0) (.int .i64 0) (.int .i64 0) (.int .i64 0)) hB3.size (fun j hj => by cases hj; omega)
    clear hE3 hB3
    go_wp2
    refine bodyPost_ret (results_c1t rfl _ _ S2 30 #[.int .i64 0, .int .i64 0, .int .i64 0, .int .i64 0, .int .i64 0] (0, 0) _ rfl hE9 Tryz.underlying30 rfl (by kernel_rfl)) rfl ?_
    exact And.intro rfl hB9
  | some d =>
    dsimp only [enA, Option.isSome]
    have f0 := hfroz (k := 0) hE3
    have z0 := hcell (k := 0) (v := .int .i64 0) hE3 rfl
    have f1 := hfroz (k := 1) hE3
    have z1 := hcell (k := 1) (v := .int .i64 0) hE3 rfl
    have f2 := hfroz (k := 2) hE3
    have z2 := hcell (k := 2) (v := .int .i64 0) hE3 rfl
    have f3 := hfroz (k := 3) hE3
    have z3 := hcell (k := 3) (v := .int .i64 0) hE3 rfl
    have f4 := hfroz (k := 4) hE3
    have z4 := hcell (k := 4) (v := .int .i64 0) hE3 rfl
    have hE9 := hbox5_set hE3 (.int .i64 (d.i : Int)) (.int .i64 (d.k : Int)) (.int .i64 x) (.int .i64 z) (.int .i64 d.y)
    have hB9 := hB3.grown (hbox5_grown (w := w3) (b := S2) (.int .i64 (d.i : Int)) (.int .i64 (d.k : Int)) (.int .i64 x) (.int .i64 z) (.int .i64 d.y)) hB3.size (fun j hj => by cases hj; omega)
    clear hE3 hB3
    go_wp2
    refine bodyPost_ret (results_c1t rfl _ _ S2 30 #[.int .i64 (d.i : Int), .int .i64 (d.k : Int), .int .i64 x, .int .i64 z, .int .i64 d.y] (0, 0) _ rfl hE9 Tryz.underlying30 rfl (by kernel_rfl)) rfl ?_
    exact And.intro rfl hB9
end Go.Proofs.YtmgkkmcihplojaaGreat
