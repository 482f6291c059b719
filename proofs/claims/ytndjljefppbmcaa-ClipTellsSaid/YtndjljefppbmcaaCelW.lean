/- Walks: the cells' small functions. -/
import Derived.Test.YtndjljefppbmcaaCelP
import Derived.Test.YtndjljefppbmcaaOwnR
import Derived.Test.YtndjljefppbmcaaTail
import Derived.Test.YtndjljefppbmcaaSlf
import Derived.Outline
namespace Go.Proofs.Ytndjljefppbmcaa
open Go.RowKit

abbrev rtA (r : Rt) : Value := .agg #[.int .i64 r.n, .int .i64 r.d]
abbrev ptA (p : Pt) : Value := .agg #[.int .i64 p.x, .int .i64 p.z]
abbrev ceA (c : Cel) : Value := .agg #[.int .i64 c.x, .int .i64 c.z, .int .i64 c.p.n, .int .i64 c.p.d, .int .i64 c.q.n, .int .i64 c.q.d]

theorem box2_set {w : World} {b : Nat} {t : TypeId} {x y : Value} (h : w.heap[b]? = some (.cells #[x, y] t (0, 0))) (x' y' : Value) : ((w.setCell ⟨b, 0, none⟩ x').setCell ⟨b, 1, none⟩ y').heap[b]? = some (.cells #[x', y'] t (0, 0)) :=
  heap_setCell_same _ b 1 _ _ _ (heap_setCell_same _ b 0 _ _ _ h)
theorem box2_grown {w : World} {b : Nat} (x' y' : Value) : w.grownBy ((w.setCell ⟨b, 0, none⟩ x').setCell ⟨b, 1, none⟩ y') (some b) :=
  (grown_set w b 0 x').trans (grown_set _ b 1 y')

theorem dr_heap {w : World} {b : Nat} {u : Obj} (h : w.heap[b]? = some u) : w.drew.heap[b]? = some u := h
theorem gcd_step {A B : Nat} (_h : B ≠ 0) : Nat.gcd B (A % B) = Nat.gcd A B := by
  rw [Nat.gcd_comm A B, Nat.gcd_rec B A, Nat.gcd_comm]

set_option maxHeartbeats 1000000 in
/-- The ratio, its lower number above 0. -/
theorem ratio_core (n d n1 d1 : Int) (w : World) (hd : 0 < d1) (hn : -1000 ≤ n1 ∧ n1 ≤ 1000) (hd2 : d1 ≤ 1000) (hs : (d < 0 ∧ n1 = -n ∧ d1 = -d) ∨ (¬ d < 0 ∧ n1 = n ∧ d1 = d)) :
    Calls Try.prog 139 #[.int .i64 n, .int .i64 d] w fun e w' => e = .returned (.agg #[.int .i64 (n1.tdiv (Int.gcd n1 d1 : Nat)), .int .i64 (d1.tdiv (Int.gcd n1 d1 : Nat))]) ∧ Below w.heap.size w w' := by
  obtain ⟨G, hG⟩ : ∃ G, Hid (G = Int.gcd n1 d1) := ⟨_, rfl⟩
  rw [← hG.out]
  have hG0 : 0 < G := by rw [hG.out]; exact Int.gcd_pos_of_ne_zero_right _ (by omega)
  have hB0 : Below w.heap.size w (w.alloc (.cells #[.int .i64 0, .int .i64 0] 41)) := (Below.refl _ _).alloc (Nat.le_refl _) _
  have hbox0 := World.alloc_heap_new w (.cells #[.int .i64 0, .int .i64 0] 41)
  rcases hs with ⟨hs, e1, e2⟩ | ⟨hs, e1, e2⟩
  · obtain rfl : n = -n1 := by omega
    obtain rfl : d = -d1 := by omega
    clear e1 e2
    go_enter Try.func139, Try.ntmps139
    go_wp2
    go_loopw [5, 6] (fun s t wr => ∃ A B : Nat, s = .int .i64 A ∧ t = .int .i64 B ∧ A ≤ 1000 ∧ B ≤ 1000 ∧ Hid (Nat.gcd A B = G) ∧ wr.heap[w.heap.size]? = some (.cells #[.int .i64 0, .int .i64 0] 41 (0, 0)) ∧ Below w.heap.size w wr) (fun _ t _ => (intOf t).toNat)
    case atStart => exact ⟨n1.natAbs, d1.natAbs, by congr 1; omega, by congr 1; omega, by omega, by omega, hG.out.symm, hbox0, hB0⟩
    case round =>
      obtain ⟨A, B, rfl, rfl, hA, hB, HG, hbox, hb⟩ := hrel
      by_cases hb0 : B = 0
      · subst hb0
        obtain rfl : A = G := by have := HG.out; rwa [Nat.gcd_zero_right] at this
        clear HG
        have hA1 : ¬ (A : Int) = 0 := by omega
        have d1' := hcell (k := 0) (v := .int .i64 0) hbox rfl
        have d2' := hcell (k := 1) (v := .int .i64 0) hbox rfl
        have f1 := hfroz (k := 0) hbox
        have f2 := hfroz (k := 1) hbox
        have hq1 : -1000 ≤ n1.tdiv (A : Int) ∧ n1.tdiv (A : Int) ≤ 1000 := by
          have h1 : ((A : Nat) : Int) ∣ n1 := by rw [hG.out]; exact Int.gcd_dvd_left ..
          have h2 := Int.mul_tdiv_cancel' h1
          exact abs_le_of_mul (g := (A : Int)) (by omega) (by omega) (by omega) (by omega)
        have hq2 : -1000 ≤ d1.tdiv (A : Int) ∧ d1.tdiv (A : Int) ≤ 1000 := by
          have h1 : ((A : Nat) : Int) ∣ d1 := by rw [hG.out]; exact Int.gcd_dvd_right ..
          have h2 := Int.mul_tdiv_cancel' h1
          exact abs_le_of_mul (g := (A : Int)) (by omega) (by omega) (by omega) (by omega)
        have hbox1 := box2_set hbox (.int .i64 (n1.tdiv (A : Int))) (.int .i64 (d1.tdiv (A : Int)))
        have hb1 := hb.grown (box2_grown (w := wr) (b := w.heap.size) (.int .i64 (n1.tdiv (A : Int))) (.int .i64 (d1.tdiv (A : Int)))) hb.size (fun j hj => by cases hj; exact Nat.le_refl _)
        go_wp2
        go_region
        all_goals
          go_wp2
          refine bodyPost_ret (results_cell_row rfl _ _ w.heap.size 41 #[.int .i64 (n1.tdiv (A : Int)), .int .i64 (d1.tdiv (A : Int))] (0, 0) _ rfl (dr_heap hbox1) Try.underlying41 rfl (by kernel_rfl)) rfl ⟨rfl, hb1.drew⟩
      · have hb1 : ¬ (B : Int) = 0 := by omega
        have hm : A % B < B := Nat.mod_lt _ (by omega)
        have hmE : ((A : Int)).tmod (B : Int) = ((A % B : Nat) : Int) := by rw [Int.tmod_eq_emod_of_nonneg (by omega)]; rfl
        have HG2 : Hid (Nat.gcd B (A % B) = G) := by show _ = _; rw [gcd_step hb0]; exact HG.out
        go_wp2
        refine wp_region_quiet_below (by kernel_rfl) (by kernel_rfl) ?_
        repeat (go_big_quiet_step (fail))
        refine wpQuiet_nil ?_
        rintro w2 ⟨⟨dq, osq⟩, hw''⟩
        have hb2 : Below w.heap.size w w2 := by rw [hw'']; exact hb.trans ((below_regrown wr dq osq).mono hb.size)
        have hstep : Below wr.heap.size wr w2 := by rw [hw'']; exact below_regrown wr dq osq
        clear hw''
        have hbox2 := hkeep hstep hbox
        clear hstep hbox hb
        go_wp2
        go_roundw
        case rel => exact ⟨B, A % B, rfl, by first | rfl | (rw [hmE]; rfl) | (congr 1; omega), hB, by omega, HG2, hbox2, hb2⟩
        case measure => simp [intOf]; omega
  · subst e1 e2
    go_enter Try.func139, Try.ntmps139
    go_wp2
    go_loopw [5, 6] (fun s t wr => ∃ A B : Nat, s = .int .i64 A ∧ t = .int .i64 B ∧ A ≤ 1000 ∧ B ≤ 1000 ∧ Hid (Nat.gcd A B = G) ∧ wr.heap[w.heap.size]? = some (.cells #[.int .i64 0, .int .i64 0] 41 (0, 0)) ∧ Below w.heap.size w wr) (fun _ t _ => (intOf t).toNat)
    case atStart => exact ⟨n1.natAbs, d1.natAbs, by congr 1; omega, by congr 1; omega, by omega, by omega, hG.out.symm, hbox0, hB0⟩
    case round =>
      obtain ⟨A, B, rfl, rfl, hA, hB, HG, hbox, hb⟩ := hrel
      by_cases hb0 : B = 0
      · subst hb0
        obtain rfl : A = G := by have := HG.out; rwa [Nat.gcd_zero_right] at this
        clear HG
        have hA1 : ¬ (A : Int) = 0 := by omega
        have d1' := hcell (k := 0) (v := .int .i64 0) hbox rfl
        have d2' := hcell (k := 1) (v := .int .i64 0) hbox rfl
        have f1 := hfroz (k := 0) hbox
        have f2 := hfroz (k := 1) hbox
        have hq1 : -1000 ≤ n1.tdiv (A : Int) ∧ n1.tdiv (A : Int) ≤ 1000 := by
          have h1 : ((A : Nat) : Int) ∣ n1 := by rw [hG.out]; exact Int.gcd_dvd_left ..
          have h2 := Int.mul_tdiv_cancel' h1
          exact abs_le_of_mul (g := (A : Int)) (by omega) (by omega) (by omega) (by omega)
        have hq2 : -1000 ≤ d1.tdiv (A : Int) ∧ d1.tdiv (A : Int) ≤ 1000 := by
          have h1 : ((A : Nat) : Int) ∣ d1 := by rw [hG.out]; exact Int.gcd_dvd_right ..
          have h2 := Int.mul_tdiv_cancel' h1
          exact abs_le_of_mul (g := (A : Int)) (by omega) (by omega) (by omega) (by omega)
        have hbox1 := box2_set hbox (.int .i64 (n1.tdiv (A : Int))) (.int .i64 (d1.tdiv (A : Int)))
        have hb1 := hb.grown (box2_grown (w := wr) (b := w.heap.size) (.int .i64 (n1.tdiv (A : Int))) (.int .i64 (d1.tdiv (A : Int)))) hb.size (fun j hj => by cases hj; exact Nat.le_refl _)
        go_wp2
        go_region
        all_goals
          go_wp2
          refine bodyPost_ret (results_cell_row rfl _ _ w.heap.size 41 #[.int .i64 (n1.tdiv (A : Int)), .int .i64 (d1.tdiv (A : Int))] (0, 0) _ rfl (dr_heap hbox1) Try.underlying41 rfl (by kernel_rfl)) rfl ⟨rfl, hb1.drew⟩
      · have hb1 : ¬ (B : Int) = 0 := by omega
        have hm : A % B < B := Nat.mod_lt _ (by omega)
        have hmE : ((A : Int)).tmod (B : Int) = ((A % B : Nat) : Int) := by rw [Int.tmod_eq_emod_of_nonneg (by omega)]; rfl
        have HG2 : Hid (Nat.gcd B (A % B) = G) := by show _ = _; rw [gcd_step hb0]; exact HG.out
        go_wp2
        refine wp_region_quiet_below (by kernel_rfl) (by kernel_rfl) ?_
        repeat (go_big_quiet_step (fail))
        refine wpQuiet_nil ?_
        rintro w2 ⟨⟨dq, osq⟩, hw''⟩
        have hb2 : Below w.heap.size w w2 := by rw [hw'']; exact hb.trans ((below_regrown wr dq osq).mono hb.size)
        have hstep : Below wr.heap.size wr w2 := by rw [hw'']; exact below_regrown wr dq osq
        clear hw''
        have hbox2 := hkeep hstep hbox
        clear hstep hbox hb
        go_wp2
        go_roundw
        case rel => exact ⟨B, A % B, rfl, by first | rfl | (rw [hmE]; rfl) | (congr 1; omega), hB, by omega, HG2, hbox2, hb2⟩
        case measure => simp [intOf]; omega
theorem ratio_any (n d : Int) (w : World) (hd : d ≠ 0) (hn : -1000 ≤ n ∧ n ≤ 1000) (hd2 : -1000 ≤ d ∧ d ≤ 1000) :
    Calls Try.prog 139 #[.int .i64 n, .int .i64 d] w fun e w' => e = .returned (rtA (ratioS n d)) ∧ Below w.heap.size w w' := by
  by_cases h : d < 0
  · have e : ratioS n d = ⟨(-n).tdiv (Int.gcd (-n) (-d) : Nat), (-d).tdiv (Int.gcd (-n) (-d) : Nat)⟩ := if_pos h
    rw [e]
    exact ratio_core n d (-n) (-d) w (by omega) (by omega) (by omega) (.inl ⟨h, rfl, rfl⟩)
  · have e : ratioS n d = ⟨n.tdiv (Int.gcd n d : Nat), d.tdiv (Int.gcd n d : Nat)⟩ := if_neg h
    rw [e]
    exact ratio_core n d n d w (by omega) (by omega) (by omega) (.inr ⟨h, rfl, rfl⟩)

theorem mul_bound {x y K : Int} (hK : 0 ≤ K) (hx : -K ≤ x ∧ x ≤ K) (hy : 0 ≤ y ∧ y ≤ K) : -(K * K) ≤ x * y ∧ x * y ≤ K * K := by
  constructor
  · have h1 := Int.mul_le_mul_of_nonneg_right (a := -K) (b := x) (c := y) hx.1 hy.1
    have h2 := Int.mul_le_mul_of_nonneg_left (a := y) (b := K) (c := K) hy.2 hK
    rw [Int.neg_mul] at h1
    omega
  · have h1 := Int.mul_le_mul_of_nonneg_right (a := x) (b := K) (c := y) hx.2 hy.1
    have h2 := Int.mul_le_mul_of_nonneg_left (a := y) (b := K) (c := K) hy.2 hK
    omega
set_option maxHeartbeats 1000000 in
theorem compare_any (p q : Rt) (w : World) (hp : RtSmall 1073741824 p) (hq : RtSmall 1073741824 q) :
    Calls Try.prog 57 #[rtA p, rtA q] w fun e w' => e = .returned (.int .i64 (cmpR p q)) ∧ Below w.heap.size w w' := by
  have h1 := mul_bound (x := p.n) (y := q.d) (K := 1073741824) (by omega) ⟨hp.1, hp.2.1⟩ ⟨by have := hq.2.2.1; omega, hq.2.2.2⟩
  have h2 := mul_bound (x := q.n) (y := p.d) (K := 1073741824) (by omega) ⟨hq.1, hq.2.1⟩ ⟨by have := hp.2.2.1; omega, hp.2.2.2⟩
  have hcon := fun W' => AnyG.cmp_Compare_int Try.lCmpInt (p.n * q.d) (q.n * p.d) W'
  change ∀ W', Calls Try.prog 47 _ _ _ at hcon
  have hB : Below w.heap.size w ((w.alloc (.cells #[.int .i64 p.n, .int .i64 p.d] 41)).alloc (.cells #[.int .i64 q.n, .int .i64 q.d] 41)) := ((Below.refl _ _).alloc (Nat.le_refl _) _).alloc (by simp) _
  obtain ⟨r, hr⟩ : ∃ r, Hid (r = cmpR p q) := ⟨_, rfl⟩
  rw [← hr.out]
  have HC := Lib.hid hcon
  clear hcon hp hq
  obtain ⟨pn, pd⟩ := p
  obtain ⟨qn, qd⟩ := q
  simp only at h1 h2 hB HC
  go_enter Try.func57, Try.ntmps57
  go_wp2_with fail
  refine (HC.out _).mono ?_
  rintro e w1 ⟨rfl, rfl⟩
  go_wp2
  go_ret
  exact ⟨ret_int hr.out.symm, hB⟩

theorem results_cct1 {P : Program} {fn : Func} {p q u : Tmp} {ty ty' : TypeId} (h : fn.results = #[.cell p ty, .cell q ty', .tmp u]) (tmps : Array Value) (w : World) (g : Nat) (t : TypeId) (cs : Array Value) (fr : Nat × Nat) (d : TypeDesc)
    (g' : Nat) (t' : TypeId) (cs' : Array Value) (fr' : Nat × Nat) (d' : TypeDesc)
    (hp : tmps.getD p undef = .pointer (some ⟨g, 0, none⟩)) (hg : w.heap[g]? = some (.cells cs t fr))
    (hu : P.underlying ty = some d) (hd : (match d with | .struct _ | .array _ _ => true | _ => false) = true) (hi : (P.info? ty).map (·.size) = some cs.size)
    (hp' : tmps.getD q undef = .pointer (some ⟨g', 0, none⟩)) (hg' : w.heap[g']? = some (.cells cs' t' fr'))
    (hu' : P.underlying ty' = some d') (hd' : (match d' with | .struct _ | .array _ _ => true | _ => false) = true) (hi' : (P.info? ty').map (·.size) = some cs'.size) :
    (results fn tmps).run P w = .ok (.tuple #[.agg cs, .agg cs', tmps.getD u undef]) w := by
  have e1 : tmps[p]?.getD undef = .pointer (some ⟨g, 0, none⟩) := by simpa using hp
  have e2 : tmps[q]?.getD undef = .pointer (some ⟨g', 0, none⟩) := by simpa using hp'
  simp [results, h, e1, e2, asAddr, run_loadVar_row w g t ty cs fr d hg hu hd hi, run_loadVar_row w g' t' ty' cs' fr' d' hg' hu' hd' hi', Sem.run_bind, Result.andThen]
theorem results_ct1 {P : Program} {fn : Func} {p u : Tmp} {ty : TypeId} (h : fn.results = #[.cell p ty, .tmp u]) (tmps : Array Value) (w : World) (g : Nat) (t : TypeId) (cs : Array Value) (fr : Nat × Nat) (d : TypeDesc)
    (hp : tmps.getD p undef = .pointer (some ⟨g, 0, none⟩)) (hg : w.heap[g]? = some (.cells cs t fr))
    (hu : P.underlying ty = some d) (hd : (match d with | .struct _ | .array _ _ => true | _ => false) = true) (hi : (P.info? ty).map (·.size) = some cs.size) :
    (results fn tmps).run P w = .ok (.tuple #[.agg cs, tmps.getD u undef]) w := by
  have e1 : tmps[p]?.getD undef = .pointer (some ⟨g, 0, none⟩) := by simpa using hp
  simp [results, h, e1, asAddr, run_loadVar_row w g t ty cs fr d hg hu hd hi, Sem.run_bind, Result.andThen]

set_option maxHeartbeats 400000 in
theorem cpoint_any (p : Pt) (w : World) :
    Calls Try.prog 52 #[ptA p] w fun e w' => e = .returned (.bool (pointOk p)) ∧ Below w.heap.size w w' := by
  have hB : Below w.heap.size w (w.alloc (.cells #[.int .i64 p.x, .int .i64 p.z] 36)) := (Below.refl _ _).alloc (Nat.le_refl _) _
  obtain ⟨r, hr⟩ : ∃ r, Hid (r = pointOk p) := ⟨_, rfl⟩
  rw [← hr.out]
  obtain ⟨px, pz⟩ := p
  simp only at hB
  go_enter Try.func52, Try.ntmps52
  go_wp2
  all_goals
    go_ret
    refine ⟨ret_bool ?_, hB⟩
    rw [hr.out]
    clear hr
    simp only [pointOk]
    grind
end Go.Proofs.Ytndjljefppbmcaa
