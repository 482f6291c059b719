/- Walks: which of two doors comes ahead. -/
import Derived.Test.YtmgkkmcihplojaaGreatDrL2
import Derived.Test.YtmgkkmcihplojaaGreatKg
import Derived.Test.YtmgkkmcihplojaaGreatKa
import Derived.Test.YtmgkkmcihplojaaGreatHh
import Derived.Test.YtmgkkmcihplojaaGreatLnk
import Derived.BigQuiet
import Derived.Lib.QuietBelow
namespace Go.Proofs.YtmgkkmcihplojaaGreat
open Go.RowKit Go.Sort

theorem compareInt_eq (a : Int) : Lib.compareInt a a = 0 := by unfold Lib.compareInt; simp
theorem compareInt_ne {a b : Int} (h : a ≠ b) : Lib.compareInt a b ≠ 0 := by
  unfold Lib.compareInt
  split
  · omega
  · split <;> omega
theorem compareInt_lt {a b : Int} : Lib.compareInt a b < 0 ↔ a < b := by
  unfold Lib.compareInt
  split
  · omega
  · split <;> omega
def c4 (x0 x1 x2 x3 y0 y1 y2 y3 : Int) : Int := if x0 = y0 then if x1 = y1 then if x2 = y2 then if x3 = y3 then 0 else Lib.compareInt x3 y3 else Lib.compareInt x2 y2 else Lib.compareInt x1 y1 else Lib.compareInt x0 y0
theorem c4_lt (d e : Dr) : decide (c4 d.a d.b d.x0 d.z0 e.a e.b e.x0 e.z0 < 0) = decide (ltD d e) := by
  rw [decide_eq_decide]
  unfold c4 ltD
  split
  · split
    · split
      · split
        · omega
        · rw [compareInt_lt]; omega
      · rw [compareInt_lt]; omega
    · rw [compareInt_lt]; omega
  · rw [compareInt_lt]; omega
theorem cmp4_any (x0 x1 x2 x3 y0 y1 y2 y3 : Int) (p q : Nat) (t u : TypeId) (w : World) (hp : w.heap[p]? = some (.cells #[.int .i64 x0, .int .i64 x1, .int .i64 x2, .int .i64 x3] t (0, 0))) (hq : w.heap[q]? = some (.cells #[.int .i64 y0, .int .i64 y1, .int .i64 y2, .int .i64 y3] u (0, 0))) :
    Calls Tryz.prog 104 #[.slice (some ⟨p, 0, none⟩) 4 4, .slice (some ⟨q, 0, none⟩) 4 4] w fun e w' => e = .returned (.int .i64 (c4 x0 x1 x2 x3 y0 y1 y2 y3)) ∧ w' = w := by
  have hcon := fun a b W' => AnyG.cmp_Compare_int Tryz.lCmpInt a b W'
  change ∀ a b W', Calls Tryz.prog 43 _ _ _ at hcon
  obtain ⟨r, hr⟩ : ∃ r, Hid (r = c4 x0 x1 x2 x3 y0 y1 y2 y3) := ⟨_, rfl⟩
  rw [← hr.out]
  have p0 := hcell (k := 0) (v := .int .i64 x0) hp rfl
  have p1 := hcell (k := 1) (v := .int .i64 x1) hp rfl
  have p2 := hcell (k := 2) (v := .int .i64 x2) hp rfl
  have p3 := hcell (k := 3) (v := .int .i64 x3) hp rfl
  have q0 := hcell (k := 0) (v := .int .i64 y0) hq rfl
  have q1 := hcell (k := 1) (v := .int .i64 y1) hq rfl
  have q2 := hcell (k := 2) (v := .int .i64 y2) hq rfl
  have q3 := hcell (k := 3) (v := .int .i64 y3) hq rfl
  clear hp hq
  by_cases h0 : x0 = y0
  case neg =>
    have HR : Hid (r = Lib.compareInt x0 y0) := by show _ = _; rw [hr.out]; unfold c4; rw [if_neg h0]
    have hne := compareInt_ne h0
    have HC0 := Lib.hid (hcon x0 y0)
    generalize Lib.compareInt x0 y0 = rr at HR hne HC0
    have hneB : (rr != 0) = true := by simpa using hne
    clear hcon hr
    go_enter Tryz.func104, Tryz.ntmps104
    go_wp2
    refine wp_loop_rounds 5 ?_
    rw [rounds_succ]
    go_wp2_with fail
    refine (HC0.out _).mono ?_
    rintro e w1 ⟨rfl, rfl⟩
    go_wp2
    go_ret
    exact ⟨ret_int HR.out.symm, rfl⟩
  by_cases h1 : x1 = y1
  case neg =>
    have HR : Hid (r = Lib.compareInt x1 y1) := by show _ = _; rw [hr.out]; unfold c4; rw [if_pos h0]; rw [if_neg h1]
    have hne := compareInt_ne h1
    have HC1 := Lib.hid (hcon x1 y1)
    generalize Lib.compareInt x1 y1 = rr at HR hne HC1
    have hneB : (rr != 0) = true := by simpa using hne
    subst h0
    have HC0 := Lib.hid (hcon x0 x0)
    rw [compareInt_eq] at HC0
    clear hcon hr
    go_enter Tryz.func104, Tryz.ntmps104
    go_wp2
    refine wp_loop_rounds 5 ?_
    rw [rounds_succ]
    go_wp2_with fail
    refine (HC0.out _).mono ?_
    rintro e w1 ⟨rfl, rfl⟩
    go_wp2
    rw [rounds_succ]
    go_wp2_with fail
    refine (HC1.out _).mono ?_
    rintro e w2 ⟨rfl, rfl⟩
    go_wp2
    go_ret
    exact ⟨ret_int HR.out.symm, rfl⟩
  by_cases h2 : x2 = y2
  case neg =>
    have HR : Hid (r = Lib.compareInt x2 y2) := by show _ = _; rw [hr.out]; unfold c4; rw [if_pos h0]; rw [if_pos h1]; rw [if_neg h2]
    have hne := compareInt_ne h2
    have HC2 := Lib.hid (hcon x2 y2)
    generalize Lib.compareInt x2 y2 = rr at HR hne HC2
    have hneB : (rr != 0) = true := by simpa using hne
    subst h0
    have HC0 := Lib.hid (hcon x0 x0)
    rw [compareInt_eq] at HC0
    subst h1
    have HC1 := Lib.hid (hcon x1 x1)
    rw [compareInt_eq] at HC1
    clear hcon hr
    go_enter Tryz.func104, Tryz.ntmps104
    go_wp2
    refine wp_loop_rounds 5 ?_
    rw [rounds_succ]
    go_wp2_with fail
    refine (HC0.out _).mono ?_
    rintro e w1 ⟨rfl, rfl⟩
    go_wp2
    rw [rounds_succ]
    go_wp2_with fail
    refine (HC1.out _).mono ?_
    rintro e w2 ⟨rfl, rfl⟩
    go_wp2
    rw [rounds_succ]
    go_wp2_with fail
    refine (HC2.out _).mono ?_
    rintro e w3 ⟨rfl, rfl⟩
    go_wp2
    go_ret
    exact ⟨ret_int HR.out.symm, rfl⟩
  by_cases h3 : x3 = y3
  case neg =>
    have HR : Hid (r = Lib.compareInt x3 y3) := by show _ = _; rw [hr.out]; unfold c4; rw [if_pos h0]; rw [if_pos h1]; rw [if_pos h2]; rw [if_neg h3]
    have hne := compareInt_ne h3
    have HC3 := Lib.hid (hcon x3 y3)
    generalize Lib.compareInt x3 y3 = rr at HR hne HC3
    have hneB : (rr != 0) = true := by simpa using hne
    subst h0
    have HC0 := Lib.hid (hcon x0 x0)
    rw [compareInt_eq] at HC0
    subst h1
    have HC1 := Lib.hid (hcon x1 x1)
    rw [compareInt_eq] at HC1
    subst h2
    have HC2 := Lib.hid (hcon x2 x2)
    rw [compareInt_eq] at HC2
    clear hcon hr
    go_enter Tryz.func104, Tryz.ntmps104
    go_wp2
    refine wp_loop_rounds 5 ?_
    rw [rounds_succ]
    go_wp2_with fail
    refine (HC0.out _).mono ?_
    rintro e w1 ⟨rfl, rfl⟩
    go_wp2
    rw [rounds_succ]
    go_wp2_with fail
    refine (HC1.out _).mono ?_
    rintro e w2 ⟨rfl, rfl⟩
    go_wp2
    rw [rounds_succ]
    go_wp2_with fail
    refine (HC2.out _).mono ?_
    rintro e w3 ⟨rfl, rfl⟩
    go_wp2
    rw [rounds_succ]
    go_wp2_with fail
    refine (HC3.out _).mono ?_
    rintro e w4 ⟨rfl, rfl⟩
    go_wp2
    go_ret
    exact ⟨ret_int HR.out.symm, rfl⟩
  have HR : Hid (r = 0) := by show _ = _; rw [hr.out]; unfold c4; rw [if_pos h0]; rw [if_pos h1]; rw [if_pos h2]; rw [if_pos h3]
  subst h0
  have HC0 := Lib.hid (hcon x0 x0)
  rw [compareInt_eq] at HC0
  subst h1
  have HC1 := Lib.hid (hcon x1 x1)
  rw [compareInt_eq] at HC1
  subst h2
  have HC2 := Lib.hid (hcon x2 x2)
  rw [compareInt_eq] at HC2
  subst h3
  have HC3 := Lib.hid (hcon x3 x3)
  rw [compareInt_eq] at HC3
  clear hcon hr
  go_enter Tryz.func104, Tryz.ntmps104
  go_wp2
  refine wp_loop_rounds 5 ?_
  rw [rounds_succ]
  go_wp2_with fail
  refine (HC0.out _).mono ?_
  rintro e w1 ⟨rfl, rfl⟩
  go_wp2
  rw [rounds_succ]
  go_wp2_with fail
  refine (HC1.out _).mono ?_
  rintro e w2 ⟨rfl, rfl⟩
  go_wp2
  rw [rounds_succ]
  go_wp2_with fail
  refine (HC2.out _).mono ?_
  rintro e w3 ⟨rfl, rfl⟩
  go_wp2
  rw [rounds_succ]
  go_wp2_with fail
  refine (HC3.out _).mono ?_
  rintro e w4 ⟨rfl, rfl⟩
  go_wp2
  rw [rounds_succ]
  go_wp2
  go_ret
  exact ⟨ret_int HR.out.symm, rfl⟩
def LsInv (T : Nat) (x y : Dr) (H : Nat) (w1 : World) (F : Value → Value → Value → Value → Value → Value → Value → Value → Value → Value → Value → Value → Value → Value → Value → Value → Value → Value → Value → Value → Array Value) (D : List Deferred) (L : Array Bool) (a : Act) (w : World) : Prop :=
  ∃ (s0 s1 s2 s3 s4 s5 s6 s7 s8 s9 s10 s11 s12 s13 s14 s15 s16 s17 s18 s19 : Value) (p18 p19 : Nat), a = { tmps := F s0 s1 s2 s3 s4 s5 s6 s7 s8 s9 s10 s11 s12 s13 s14 s15 s16 s17 s18 s19, defers := D } ∧
    Below H w1 w ∧
    w1.drawn ≤ w.drawn ∧
    w.heap[T]? = some (.cells #[.int .i64 x.a, .int .i64 x.b, .int .i64 x.x0, .int .i64 x.z0, .int .i64 x.x1, .int .i64 x.z1] 168 (0, 0)) ∧
    w.heap[T + 1]? = some (.cells #[.int .i64 y.a, .int .i64 y.b, .int .i64 y.x0, .int .i64 y.z0, .int .i64 y.x1, .int .i64 y.z1] 110 (0, 0)) ∧
    (L.getD 0 false = true → s0 = .pointer (some ⟨T, 0, none⟩)) ∧
    (L.getD 1 false = true → s1 = .int .i64 x.a) ∧
    (L.getD 2 false = true → s2 = .pointer (some ⟨T, 1, none⟩)) ∧
    (L.getD 3 false = true → s3 = .int .i64 x.b) ∧
    (L.getD 4 false = true → s4 = .pointer (some ⟨T, 2, none⟩)) ∧
    (L.getD 5 false = true → s5 = .int .i64 x.x0) ∧
    (L.getD 6 false = true → s6 = .pointer (some ⟨T, 3, none⟩)) ∧
    (L.getD 7 false = true → s7 = .int .i64 x.z0) ∧
    (L.getD 8 false = true → s8 = .agg #[.int .i64 x.a, .int .i64 x.b, .int .i64 x.x0, .int .i64 x.z0]) ∧
    (L.getD 9 false = true → s9 = .pointer (some ⟨T + 1, 0, none⟩)) ∧
    (L.getD 10 false = true → s10 = .int .i64 y.a) ∧
    (L.getD 11 false = true → s11 = .pointer (some ⟨T + 1, 1, none⟩)) ∧
    (L.getD 12 false = true → s12 = .int .i64 y.b) ∧
    (L.getD 13 false = true → s13 = .pointer (some ⟨T + 1, 2, none⟩)) ∧
    (L.getD 14 false = true → s14 = .int .i64 y.x0) ∧
    (L.getD 15 false = true → s15 = .pointer (some ⟨T + 1, 3, none⟩)) ∧
    (L.getD 16 false = true → s16 = .int .i64 y.z0) ∧
    (L.getD 17 false = true → s17 = .agg #[.int .i64 y.a, .int .i64 y.b, .int .i64 y.x0, .int .i64 y.z0]) ∧
    (L.getD 18 false = true → s18 = .pointer (some ⟨p18, 0, none⟩) ∧ w1.heap.size ≤ p18 ∧ w.heap[p18]? = some (.cells (if L.getD 20 false = true then #[.int .i64 x.a, .int .i64 x.b, .int .i64 x.x0, .int .i64 x.z0] else #[.int .i64 0, .int .i64 0, .int .i64 0, .int .i64 0]) 159 (0, 0))) ∧
    (L.getD 19 false = true → s19 = .pointer (some ⟨p19, 0, none⟩) ∧ w1.heap.size ≤ p19 ∧ w.heap[p19]? = some (.cells (if L.getD 21 false = true then #[.int .i64 y.a, .int .i64 y.b, .int .i64 y.x0, .int .i64 y.z0] else #[.int .i64 0, .int .i64 0, .int .i64 0, .int .i64 0]) 159 (0, 0))) ∧
    (L.getD 18 false = true → L.getD 19 false = true → p18 ≠ p19) ∧
    (L.getD 20 false = true → L.getD 18 false = true) ∧
    (L.getD 21 false = true → L.getD 19 false = true)
set_option maxRecDepth 100000 in
set_option maxHeartbeats 8000000 in
theorem drless_any (x y : Dr) (w : World) :
    Calls Tryz.prog 87 #[.agg #[.int .i64 x.a, .int .i64 x.b, .int .i64 x.x0, .int .i64 x.z0, .int .i64 x.x1, .int .i64 x.z1], .agg #[.int .i64 y.a, .int .i64 y.b, .int .i64 y.x0, .int .i64 y.z0, .int .i64 y.x1, .int .i64 y.z1]] w fun e w' => e = .returned (.bool (decide (ltD x y))) ∧ Below w.heap.size w w' ∧ w.drawn ≤ w'.drawn := by
  have hB : Below w.heap.size w ((w.alloc (.cells #[.int .i64 x.a, .int .i64 x.b, .int .i64 x.x0, .int .i64 x.z0, .int .i64 x.x1, .int .i64 x.z1] 168 (0, 0))).alloc (.cells #[.int .i64 y.a, .int .i64 y.b, .int .i64 y.x0, .int .i64 y.z0, .int .i64 y.x1, .int .i64 y.z1] 110 (0, 0))) := ((Below.refl _ _).alloc (Nat.le_refl _) _).alloc (by simp) _
  have hX := halloc (World.alloc_heap_new w (.cells #[.int .i64 x.a, .int .i64 x.b, .int .i64 x.x0, .int .i64 x.z0, .int .i64 x.x1, .int .i64 x.z1] 168 (0, 0))) (.cells #[.int .i64 y.a, .int .i64 y.b, .int .i64 y.x0, .int .i64 y.z0, .int .i64 y.x1, .int .i64 y.z1] 110 (0, 0))
  have hY := World.alloc_heap_new (w.alloc (.cells #[.int .i64 x.a, .int .i64 x.b, .int .i64 x.x0, .int .i64 x.z0, .int .i64 x.x1, .int .i64 x.z1] 168 (0, 0))) (.cells #[.int .i64 y.a, .int .i64 y.b, .int .i64 y.x0, .int .i64 y.z0, .int .i64 y.x1, .int .i64 y.z1] 110 (0, 0))
  have hdr : w.drawn ≤ ((w.alloc (.cells #[.int .i64 x.a, .int .i64 x.b, .int .i64 x.x0, .int .i64 x.z0, .int .i64 x.x1, .int .i64 x.z1] 168 (0, 0))).alloc (.cells #[.int .i64 y.a, .int .i64 y.b, .int .i64 y.x0, .int .i64 y.z0, .int .i64 y.x1, .int .i64 y.z1] 110 (0, 0))).drawn := Nat.le_refl _
  have hszz : ((w.alloc (.cells #[.int .i64 x.a, .int .i64 x.b, .int .i64 x.x0, .int .i64 x.z0, .int .i64 x.x1, .int .i64 x.z1] 168 (0, 0))).alloc (.cells #[.int .i64 y.a, .int .i64 y.b, .int .i64 y.x0, .int .i64 y.z0, .int .i64 y.x1, .int .i64 y.z1] 110 (0, 0))).heap.size = w.heap.size + 2 := by simp
  obtain ⟨W1, hW1⟩ : ∃ W, W = ((w.alloc (.cells #[.int .i64 x.a, .int .i64 x.b, .int .i64 x.x0, .int .i64 x.z0, .int .i64 x.x1, .int .i64 x.z1] 168 (0, 0))).alloc (.cells #[.int .i64 y.a, .int .i64 y.b, .int .i64 y.x0, .int .i64 y.z0, .int .i64 y.x1, .int .i64 y.z1] 110 (0, 0))) := ⟨_, rfl⟩
  rw [World.size_alloc] at hY
  rw [← hW1] at hB hX hY hdr hszz
  go_enter Tryz.func87, Tryz.ntmps87
  go_upto_region 1 with fail
  rw [← hW1]
  clear hW1
  have hB0 := hB
  have hz0 := hB.size
  have hsz1 : W1.heap.size = w.heap.size + 2 := hszz
  clear hB hszz
  refine wp_region_inv (LsInv w.heap.size x y w.heap.size W1 (fun s0 s1 s2 s3 s4 s5 s6 s7 s8 s9 s10 s11 s12 s13 s14 s15 s16 s17 s18 s19 => #[Value.agg #[Value.int IntKind.i64 x.a, Value.int IntKind.i64 x.b, Value.int IntKind.i64 x.x0, Value.int IntKind.i64 x.z0, Value.int IntKind.i64 x.x1, Value.int IntKind.i64 x.z1], Value.agg #[Value.int IntKind.i64 y.a, Value.int IntKind.i64 y.b, Value.int IntKind.i64 y.x0, Value.int IntKind.i64 y.z0, Value.int IntKind.i64 y.x1, Value.int IntKind.i64 y.z1], Value.pointer (some { block := w.heap.size, off := 0 }), Value.pointer (some { block := w.heap.size + 1, off := 0 }), Value.bool false, s18, s19, s0, s1, s2, s3, s4, s5, s6, s7, s8, s9, s10, s11, s12, s13, s14, s15, s16, s17, undef, undef, undef, undef]) []) (by kernel_rfl) (by kernel_rfl) ?_ ?_ ?_
  · unfold LsInv
    refine ⟨_, _, _, _, _, _, _, _, _, _, _, _, _, _, _, _, _, _, _, _, 0, 0, rfl, (Below.refl _ _).drew, Nat.le_succ _, hX, hY, (fun h => by cases (show false = true from h)), (fun h => by cases (show false = true from h)), (fun h => by cases (show false = true from h)), (fun h => by cases (show false = true from h)), (fun h => by cases (show false = true from h)), (fun h => by cases (show false = true from h)), (fun h => by cases (show false = true from h)), (fun h => by cases (show false = true from h)), (fun h => by cases (show false = true from h)), (fun h => by cases (show false = true from h)), (fun h => by cases (show false = true from h)), (fun h => by cases (show false = true from h)), (fun h => by cases (show false = true from h)), (fun h => by cases (show false = true from h)), (fun h => by cases (show false = true from h)), (fun h => by cases (show false = true from h)), (fun h => by cases (show false = true from h)), (fun h => by cases (show false = true from h)), (fun h => by cases (show false = true from h)), (fun h => by cases (show false = true from h)), (fun h => by cases (show false = true from h)), (fun h => by cases (show false = true from h)), (fun h => by cases (show false = true from h))⟩
  · intro L a wi i hs hI hi
    have hsN : L.size = 22 := hs
    have hn := ready_elim hi
    have hlt : i < 22 := by
        obtain ⟨o, ho, _⟩ := hn.2
        exact (Array.getElem?_eq_some_iff.1 ho).1
    have hi' := ready_not hi false (by rw [hs]; exact hlt)
    clear hn
    unfold LsInv at hI
    obtain ⟨s0, s1, s2, s3, s4, s5, s6, s7, s8, s9, s10, s11, s12, s13, s14, s15, s16, s17, s18, s19, p18, p19, rfl, hB, hE_D, hF_X, hF_Y, h0, h1, h2, h3, h4, h5, h6, h7, h8, h9, h10, h11, h12, h13, h14, h15, h16, h17, h18, h19, hD18_19, hS18, hS19⟩ := hI
    rcases (by omega : i = 0 ∨ i = 1 ∨ i = 2 ∨ i = 3 ∨ i = 4 ∨ i = 5 ∨ i = 6 ∨ i = 7 ∨ i = 8 ∨ i = 9 ∨ i = 10 ∨ i = 11 ∨ i = 12 ∨ i = 13 ∨ i = 14 ∨ i = 15 ∨ i = 16 ∨ i = 17 ∨ i = 18 ∨ i = 19 ∨ i = 20 ∨ i = 21) with rfl | rfl | rfl | rfl | rfl | rfl | rfl | rfl | rfl | rfl | rfl | rfl | rfl | rfl | rfl | rfl | rfl | rfl | rfl | rfl | rfl | rfl
    · skip
      refine wpOp_of rfl rfl ?_
      go_simp
      unfold LsInv
      exact ⟨_, _, _, _, _, _, _, _, _, _, _, _, _, _, _, _, _, _, _, _, p18, p19, rfl, (hB), (hE_D), (hF_X), (hF_Y), (fun _ => rfl), (fun h => h1 (by rwa [getD_set_ne (by decide)] at h)), (fun h => h2 (by rwa [getD_set_ne (by decide)] at h)), (fun h => h3 (by rwa [getD_set_ne (by decide)] at h)), (fun h => h4 (by rwa [getD_set_ne (by decide)] at h)), (fun h => h5 (by rwa [getD_set_ne (by decide)] at h)), (fun h => h6 (by rwa [getD_set_ne (by decide)] at h)), (fun h => h7 (by rwa [getD_set_ne (by decide)] at h)), (fun h => h8 (by rwa [getD_set_ne (by decide)] at h)), (fun h => h9 (by rwa [getD_set_ne (by decide)] at h)), (fun h => h10 (by rwa [getD_set_ne (by decide)] at h)), (fun h => h11 (by rwa [getD_set_ne (by decide)] at h)), (fun h => h12 (by rwa [getD_set_ne (by decide)] at h)), (fun h => h13 (by rwa [getD_set_ne (by decide)] at h)), (fun h => h14 (by rwa [getD_set_ne (by decide)] at h)), (fun h => h15 (by rwa [getD_set_ne (by decide)] at h)), (fun h => h16 (by rwa [getD_set_ne (by decide)] at h)), (fun h => h17 (by rwa [getD_set_ne (by decide)] at h)), (fun h => by rw [getD_set_ne (by decide)] at h; rw [getD_set_ne (by decide)]; exact h18 h), (fun h => by rw [getD_set_ne (by decide)] at h; rw [getD_set_ne (by decide)]; exact h19 h), (fun h h2 => hD18_19 (by rwa [getD_set_ne (by decide)] at h) (by rwa [getD_set_ne (by decide)] at h2)), (fun h => by rw [getD_set_ne (by decide)] at h ⊢; exact hS18 h), (fun h => by rw [getD_set_ne (by decide)] at h ⊢; exact hS19 h)⟩
    · skip
      have e0 := h0 (ready_dep hi (by kernel_rfl))
      subst e0
      have c := hcell (k := 0) (v := .int .i64 x.a) hF_X rfl
      refine wpOp_of rfl rfl ?_
      go_simp
      unfold LsInv
      exact ⟨_, _, _, _, _, _, _, _, _, _, _, _, _, _, _, _, _, _, _, _, p18, p19, rfl, (hB), (hE_D), (hF_X), (hF_Y), (fun h => h0 (by rwa [getD_set_ne (by decide)] at h)), (fun _ => rfl), (fun h => h2 (by rwa [getD_set_ne (by decide)] at h)), (fun h => h3 (by rwa [getD_set_ne (by decide)] at h)), (fun h => h4 (by rwa [getD_set_ne (by decide)] at h)), (fun h => h5 (by rwa [getD_set_ne (by decide)] at h)), (fun h => h6 (by rwa [getD_set_ne (by decide)] at h)), (fun h => h7 (by rwa [getD_set_ne (by decide)] at h)), (fun h => h8 (by rwa [getD_set_ne (by decide)] at h)), (fun h => h9 (by rwa [getD_set_ne (by decide)] at h)), (fun h => h10 (by rwa [getD_set_ne (by decide)] at h)), (fun h => h11 (by rwa [getD_set_ne (by decide)] at h)), (fun h => h12 (by rwa [getD_set_ne (by decide)] at h)), (fun h => h13 (by rwa [getD_set_ne (by decide)] at h)), (fun h => h14 (by rwa [getD_set_ne (by decide)] at h)), (fun h => h15 (by rwa [getD_set_ne (by decide)] at h)), (fun h => h16 (by rwa [getD_set_ne (by decide)] at h)), (fun h => h17 (by rwa [getD_set_ne (by decide)] at h)), (fun h => by rw [getD_set_ne (by decide)] at h; rw [getD_set_ne (by decide)]; exact h18 h), (fun h => by rw [getD_set_ne (by decide)] at h; rw [getD_set_ne (by decide)]; exact h19 h), (fun h h2 => hD18_19 (by rwa [getD_set_ne (by decide)] at h) (by rwa [getD_set_ne (by decide)] at h2)), (fun h => by rw [getD_set_ne (by decide)] at h ⊢; exact hS18 h), (fun h => by rw [getD_set_ne (by decide)] at h ⊢; exact hS19 h)⟩
    · skip
      refine wpOp_of rfl rfl ?_
      go_simp
      unfold LsInv
      exact ⟨_, _, _, _, _, _, _, _, _, _, _, _, _, _, _, _, _, _, _, _, p18, p19, rfl, (hB), (hE_D), (hF_X), (hF_Y), (fun h => h0 (by rwa [getD_set_ne (by decide)] at h)), (fun h => h1 (by rwa [getD_set_ne (by decide)] at h)), (fun _ => rfl), (fun h => h3 (by rwa [getD_set_ne (by decide)] at h)), (fun h => h4 (by rwa [getD_set_ne (by decide)] at h)), (fun h => h5 (by rwa [getD_set_ne (by decide)] at h)), (fun h => h6 (by rwa [getD_set_ne (by decide)] at h)), (fun h => h7 (by rwa [getD_set_ne (by decide)] at h)), (fun h => h8 (by rwa [getD_set_ne (by decide)] at h)), (fun h => h9 (by rwa [getD_set_ne (by decide)] at h)), (fun h => h10 (by rwa [getD_set_ne (by decide)] at h)), (fun h => h11 (by rwa [getD_set_ne (by decide)] at h)), (fun h => h12 (by rwa [getD_set_ne (by decide)] at h)), (fun h => h13 (by rwa [getD_set_ne (by decide)] at h)), (fun h => h14 (by rwa [getD_set_ne (by decide)] at h)), (fun h => h15 (by rwa [getD_set_ne (by decide)] at h)), (fun h => h16 (by rwa [getD_set_ne (by decide)] at h)), (fun h => h17 (by rwa [getD_set_ne (by decide)] at h)), (fun h => by rw [getD_set_ne (by decide)] at h; rw [getD_set_ne (by decide)]; exact h18 h), (fun h => by rw [getD_set_ne (by decide)] at h; rw [getD_set_ne (by decide)]; exact h19 h), (fun h h2 => hD18_19 (by rwa [getD_set_ne (by decide)] at h) (by rwa [getD_set_ne (by decide)] at h2)), (fun h => by rw [getD_set_ne (by decide)] at h ⊢; exact hS18 h), (fun h => by rw [getD_set_ne (by decide)] at h ⊢; exact hS19 h)⟩
    · skip
      have e2 := h2 (ready_dep hi (by kernel_rfl))
      subst e2
      have c := hcell (k := 1) (v := .int .i64 x.b) hF_X rfl
      refine wpOp_of rfl rfl ?_
      go_simp
      unfold LsInv
      exact ⟨_, _, _, _, _, _, _, _, _, _, _, _, _, _, _, _, _, _, _, _, p18, p19, rfl, (hB), (hE_D), (hF_X), (hF_Y), (fun h => h0 (by rwa [getD_set_ne (by decide)] at h)), (fun h => h1 (by rwa [getD_set_ne (by decide)] at h)), (fun h => h2 (by rwa [getD_set_ne (by decide)] at h)), (fun _ => rfl), (fun h => h4 (by rwa [getD_set_ne (by decide)] at h)), (fun h => h5 (by rwa [getD_set_ne (by decide)] at h)), (fun h => h6 (by rwa [getD_set_ne (by decide)] at h)), (fun h => h7 (by rwa [getD_set_ne (by decide)] at h)), (fun h => h8 (by rwa [getD_set_ne (by decide)] at h)), (fun h => h9 (by rwa [getD_set_ne (by decide)] at h)), (fun h => h10 (by rwa [getD_set_ne (by decide)] at h)), (fun h => h11 (by rwa [getD_set_ne (by decide)] at h)), (fun h => h12 (by rwa [getD_set_ne (by decide)] at h)), (fun h => h13 (by rwa [getD_set_ne (by decide)] at h)), (fun h => h14 (by rwa [getD_set_ne (by decide)] at h)), (fun h => h15 (by rwa [getD_set_ne (by decide)] at h)), (fun h => h16 (by rwa [getD_set_ne (by decide)] at h)), (fun h => h17 (by rwa [getD_set_ne (by decide)] at h)), (fun h => by rw [getD_set_ne (by decide)] at h; rw [getD_set_ne (by decide)]; exact h18 h), (fun h => by rw [getD_set_ne (by decide)] at h; rw [getD_set_ne (by decide)]; exact h19 h), (fun h h2 => hD18_19 (by rwa [getD_set_ne (by decide)] at h) (by rwa [getD_set_ne (by decide)] at h2)), (fun h => by rw [getD_set_ne (by decide)] at h ⊢; exact hS18 h), (fun h => by rw [getD_set_ne (by decide)] at h ⊢; exact hS19 h)⟩
    · skip
      refine wpOp_of rfl rfl ?_
      go_simp
      unfold LsInv
      exact ⟨_, _, _, _, _, _, _, _, _, _, _, _, _, _, _, _, _, _, _, _, p18, p19, rfl, (hB), (hE_D), (hF_X), (hF_Y), (fun h => h0 (by rwa [getD_set_ne (by decide)] at h)), (fun h => h1 (by rwa [getD_set_ne (by decide)] at h)), (fun h => h2 (by rwa [getD_set_ne (by decide)] at h)), (fun h => h3 (by rwa [getD_set_ne (by decide)] at h)), (fun _ => rfl), (fun h => h5 (by rwa [getD_set_ne (by decide)] at h)), (fun h => h6 (by rwa [getD_set_ne (by decide)] at h)), (fun h => h7 (by rwa [getD_set_ne (by decide)] at h)), (fun h => h8 (by rwa [getD_set_ne (by decide)] at h)), (fun h => h9 (by rwa [getD_set_ne (by decide)] at h)), (fun h => h10 (by rwa [getD_set_ne (by decide)] at h)), (fun h => h11 (by rwa [getD_set_ne (by decide)] at h)), (fun h => h12 (by rwa [getD_set_ne (by decide)] at h)), (fun h => h13 (by rwa [getD_set_ne (by decide)] at h)), (fun h => h14 (by rwa [getD_set_ne (by decide)] at h)), (fun h => h15 (by rwa [getD_set_ne (by decide)] at h)), (fun h => h16 (by rwa [getD_set_ne (by decide)] at h)), (fun h => h17 (by rwa [getD_set_ne (by decide)] at h)), (fun h => by rw [getD_set_ne (by decide)] at h; rw [getD_set_ne (by decide)]; exact h18 h), (fun h => by rw [getD_set_ne (by decide)] at h; rw [getD_set_ne (by decide)]; exact h19 h), (fun h h2 => hD18_19 (by rwa [getD_set_ne (by decide)] at h) (by rwa [getD_set_ne (by decide)] at h2)), (fun h => by rw [getD_set_ne (by decide)] at h ⊢; exact hS18 h), (fun h => by rw [getD_set_ne (by decide)] at h ⊢; exact hS19 h)⟩
    · skip
      have e4 := h4 (ready_dep hi (by kernel_rfl))
      subst e4
      have c := hcell (k := 2) (v := .int .i64 x.x0) hF_X rfl
      refine wpOp_of rfl rfl ?_
      go_simp
      unfold LsInv
      exact ⟨_, _, _, _, _, _, _, _, _, _, _, _, _, _, _, _, _, _, _, _, p18, p19, rfl, (hB), (hE_D), (hF_X), (hF_Y), (fun h => h0 (by rwa [getD_set_ne (by decide)] at h)), (fun h => h1 (by rwa [getD_set_ne (by decide)] at h)), (fun h => h2 (by rwa [getD_set_ne (by decide)] at h)), (fun h => h3 (by rwa [getD_set_ne (by decide)] at h)), (fun h => h4 (by rwa [getD_set_ne (by decide)] at h)), (fun _ => rfl), (fun h => h6 (by rwa [getD_set_ne (by decide)] at h)), (fun h => h7 (by rwa [getD_set_ne (by decide)] at h)), (fun h => h8 (by rwa [getD_set_ne (by decide)] at h)), (fun h => h9 (by rwa [getD_set_ne (by decide)] at h)), (fun h => h10 (by rwa [getD_set_ne (by decide)] at h)), (fun h => h11 (by rwa [getD_set_ne (by decide)] at h)), (fun h => h12 (by rwa [getD_set_ne (by decide)] at h)), (fun h => h13 (by rwa [getD_set_ne (by decide)] at h)), (fun h => h14 (by rwa [getD_set_ne (by decide)] at h)), (fun h => h15 (by rwa [getD_set_ne (by decide)] at h)), (fun h => h16 (by rwa [getD_set_ne (by decide)] at h)), (fun h => h17 (by rwa [getD_set_ne (by decide)] at h)), (fun h => by rw [getD_set_ne (by decide)] at h; rw [getD_set_ne (by decide)]; exact h18 h), (fun h => by rw [getD_set_ne (by decide)] at h; rw [getD_set_ne (by decide)]; exact h19 h), (fun h h2 => hD18_19 (by rwa [getD_set_ne (by decide)] at h) (by rwa [getD_set_ne (by decide)] at h2)), (fun h => by rw [getD_set_ne (by decide)] at h ⊢; exact hS18 h), (fun h => by rw [getD_set_ne (by decide)] at h ⊢; exact hS19 h)⟩
    · skip
      refine wpOp_of rfl rfl ?_
      go_simp
      unfold LsInv
      exact ⟨_, _, _, _, _, _, _, _, _, _, _, _, _, _, _, _, _, _, _, _, p18, p19, rfl, (hB), (hE_D), (hF_X), (hF_Y), (fun h => h0 (by rwa [getD_set_ne (by decide)] at h)), (fun h => h1 (by rwa [getD_set_ne (by decide)] at h)), (fun h => h2 (by rwa [getD_set_ne (by decide)] at h)), (fun h => h3 (by rwa [getD_set_ne (by decide)] at h)), (fun h => h4 (by rwa [getD_set_ne (by decide)] at h)), (fun h => h5 (by rwa [getD_set_ne (by decide)] at h)), (fun _ => rfl), (fun h => h7 (by rwa [getD_set_ne (by decide)] at h)), (fun h => h8 (by rwa [getD_set_ne (by decide)] at h)), (fun h => h9 (by rwa [getD_set_ne (by decide)] at h)), (fun h => h10 (by rwa [getD_set_ne (by decide)] at h)), (fun h => h11 (by rwa [getD_set_ne (by decide)] at h)), (fun h => h12 (by rwa [getD_set_ne (by decide)] at h)), (fun h => h13 (by rwa [getD_set_ne (by decide)] at h)), (fun h => h14 (by rwa [getD_set_ne (by decide)] at h)), (fun h => h15 (by rwa [getD_set_ne (by decide)] at h)), (fun h => h16 (by rwa [getD_set_ne (by decide)] at h)), (fun h => h17 (by rwa [getD_set_ne (by decide)] at h)), (fun h => by rw [getD_set_ne (by decide)] at h; rw [getD_set_ne (by decide)]; exact h18 h), (fun h => by rw [getD_set_ne (by decide)] at h; rw [getD_set_ne (by decide)]; exact h19 h), (fun h h2 => hD18_19 (by rwa [getD_set_ne (by decide)] at h) (by rwa [getD_set_ne (by decide)] at h2)), (fun h => by rw [getD_set_ne (by decide)] at h ⊢; exact hS18 h), (fun h => by rw [getD_set_ne (by decide)] at h ⊢; exact hS19 h)⟩
    · skip
      have e6 := h6 (ready_dep hi (by kernel_rfl))
      subst e6
      have c := hcell (k := 3) (v := .int .i64 x.z0) hF_X rfl
      refine wpOp_of rfl rfl ?_
      go_simp
      unfold LsInv
      exact ⟨_, _, _, _, _, _, _, _, _, _, _, _, _, _, _, _, _, _, _, _, p18, p19, rfl, (hB), (hE_D), (hF_X), (hF_Y), (fun h => h0 (by rwa [getD_set_ne (by decide)] at h)), (fun h => h1 (by rwa [getD_set_ne (by decide)] at h)), (fun h => h2 (by rwa [getD_set_ne (by decide)] at h)), (fun h => h3 (by rwa [getD_set_ne (by decide)] at h)), (fun h => h4 (by rwa [getD_set_ne (by decide)] at h)), (fun h => h5 (by rwa [getD_set_ne (by decide)] at h)), (fun h => h6 (by rwa [getD_set_ne (by decide)] at h)), (fun _ => rfl), (fun h => h8 (by rwa [getD_set_ne (by decide)] at h)), (fun h => h9 (by rwa [getD_set_ne (by decide)] at h)), (fun h => h10 (by rwa [getD_set_ne (by decide)] at h)), (fun h => h11 (by rwa [getD_set_ne (by decide)] at h)), (fun h => h12 (by rwa [getD_set_ne (by decide)] at h)), (fun h => h13 (by rwa [getD_set_ne (by decide)] at h)), (fun h => h14 (by rwa [getD_set_ne (by decide)] at h)), (fun h => h15 (by rwa [getD_set_ne (by decide)] at h)), (fun h => h16 (by rwa [getD_set_ne (by decide)] at h)), (fun h => h17 (by rwa [getD_set_ne (by decide)] at h)), (fun h => by rw [getD_set_ne (by decide)] at h; rw [getD_set_ne (by decide)]; exact h18 h), (fun h => by rw [getD_set_ne (by decide)] at h; rw [getD_set_ne (by decide)]; exact h19 h), (fun h h2 => hD18_19 (by rwa [getD_set_ne (by decide)] at h) (by rwa [getD_set_ne (by decide)] at h2)), (fun h => by rw [getD_set_ne (by decide)] at h ⊢; exact hS18 h), (fun h => by rw [getD_set_ne (by decide)] at h ⊢; exact hS19 h)⟩
    · skip
      have e1 := h1 (ready_dep hi (by kernel_rfl))
      subst e1
      have e3 := h3 (ready_dep hi (by kernel_rfl))
      subst e3
      have e5 := h5 (ready_dep hi (by kernel_rfl))
      subst e5
      have e7 := h7 (ready_dep hi (by kernel_rfl))
      subst e7
      refine wpOp_of rfl rfl ?_
      go_simp
      unfold LsInv
      exact ⟨_, _, _, _, _, _, _, _, _, _, _, _, _, _, _, _, _, _, _, _, p18, p19, rfl, (hB), (hE_D), (hF_X), (hF_Y), (fun h => h0 (by rwa [getD_set_ne (by decide)] at h)), (fun h => h1 (by rwa [getD_set_ne (by decide)] at h)), (fun h => h2 (by rwa [getD_set_ne (by decide)] at h)), (fun h => h3 (by rwa [getD_set_ne (by decide)] at h)), (fun h => h4 (by rwa [getD_set_ne (by decide)] at h)), (fun h => h5 (by rwa [getD_set_ne (by decide)] at h)), (fun h => h6 (by rwa [getD_set_ne (by decide)] at h)), (fun h => h7 (by rwa [getD_set_ne (by decide)] at h)), (fun _ => rfl), (fun h => h9 (by rwa [getD_set_ne (by decide)] at h)), (fun h => h10 (by rwa [getD_set_ne (by decide)] at h)), (fun h => h11 (by rwa [getD_set_ne (by decide)] at h)), (fun h => h12 (by rwa [getD_set_ne (by decide)] at h)), (fun h => h13 (by rwa [getD_set_ne (by decide)] at h)), (fun h => h14 (by rwa [getD_set_ne (by decide)] at h)), (fun h => h15 (by rwa [getD_set_ne (by decide)] at h)), (fun h => h16 (by rwa [getD_set_ne (by decide)] at h)), (fun h => h17 (by rwa [getD_set_ne (by decide)] at h)), (fun h => by rw [getD_set_ne (by decide)] at h; rw [getD_set_ne (by decide)]; exact h18 h), (fun h => by rw [getD_set_ne (by decide)] at h; rw [getD_set_ne (by decide)]; exact h19 h), (fun h h2 => hD18_19 (by rwa [getD_set_ne (by decide)] at h) (by rwa [getD_set_ne (by decide)] at h2)), (fun h => by rw [getD_set_ne (by decide)] at h ⊢; exact hS18 h), (fun h => by rw [getD_set_ne (by decide)] at h ⊢; exact hS19 h)⟩
    · skip
      refine wpOp_of rfl rfl ?_
      go_simp
      unfold LsInv
      exact ⟨_, _, _, _, _, _, _, _, _, _, _, _, _, _, _, _, _, _, _, _, p18, p19, rfl, (hB), (hE_D), (hF_X), (hF_Y), (fun h => h0 (by rwa [getD_set_ne (by decide)] at h)), (fun h => h1 (by rwa [getD_set_ne (by decide)] at h)), (fun h => h2 (by rwa [getD_set_ne (by decide)] at h)), (fun h => h3 (by rwa [getD_set_ne (by decide)] at h)), (fun h => h4 (by rwa [getD_set_ne (by decide)] at h)), (fun h => h5 (by rwa [getD_set_ne (by decide)] at h)), (fun h => h6 (by rwa [getD_set_ne (by decide)] at h)), (fun h => h7 (by rwa [getD_set_ne (by decide)] at h)), (fun h => h8 (by rwa [getD_set_ne (by decide)] at h)), (fun _ => rfl), (fun h => h10 (by rwa [getD_set_ne (by decide)] at h)), (fun h => h11 (by rwa [getD_set_ne (by decide)] at h)), (fun h => h12 (by rwa [getD_set_ne (by decide)] at h)), (fun h => h13 (by rwa [getD_set_ne (by decide)] at h)), (fun h => h14 (by rwa [getD_set_ne (by decide)] at h)), (fun h => h15 (by rwa [getD_set_ne (by decide)] at h)), (fun h => h16 (by rwa [getD_set_ne (by decide)] at h)), (fun h => h17 (by rwa [getD_set_ne (by decide)] at h)), (fun h => by rw [getD_set_ne (by decide)] at h; rw [getD_set_ne (by decide)]; exact h18 h), (fun h => by rw [getD_set_ne (by decide)] at h; rw [getD_set_ne (by decide)]; exact h19 h), (fun h h2 => hD18_19 (by rwa [getD_set_ne (by decide)] at h) (by rwa [getD_set_ne (by decide)] at h2)), (fun h => by rw [getD_set_ne (by decide)] at h ⊢; exact hS18 h), (fun h => by rw [getD_set_ne (by decide)] at h ⊢; exact hS19 h)⟩
    · skip
      have e9 := h9 (ready_dep hi (by kernel_rfl))
      subst e9
      have c := hcell (k := 0) (v := .int .i64 y.a) hF_Y rfl
      refine wpOp_of rfl rfl ?_
      go_simp
      unfold LsInv
      exact ⟨_, _, _, _, _, _, _, _, _, _, _, _, _, _, _, _, _, _, _, _, p18, p19, rfl, (hB), (hE_D), (hF_X), (hF_Y), (fun h => h0 (by rwa [getD_set_ne (by decide)] at h)), (fun h => h1 (by rwa [getD_set_ne (by decide)] at h)), (fun h => h2 (by rwa [getD_set_ne (by decide)] at h)), (fun h => h3 (by rwa [getD_set_ne (by decide)] at h)), (fun h => h4 (by rwa [getD_set_ne (by decide)] at h)), (fun h => h5 (by rwa [getD_set_ne (by decide)] at h)), (fun h => h6 (by rwa [getD_set_ne (by decide)] at h)), (fun h => h7 (by rwa [getD_set_ne (by decide)] at h)), (fun h => h8 (by rwa [getD_set_ne (by decide)] at h)), (fun h => h9 (by rwa [getD_set_ne (by decide)] at h)), (fun _ => rfl), (fun h => h11 (by rwa [getD_set_ne (by decide)] at h)), (fun h => h12 (by rwa [getD_set_ne (by decide)] at h)), (fun h => h13 (by rwa [getD_set_ne (by decide)] at h)), (fun h => h14 (by rwa [getD_set_ne (by decide)] at h)), (fun h => h15 (by rwa [getD_set_ne (by decide)] at h)), (fun h => h16 (by rwa [getD_set_ne (by decide)] at h)), (fun h => h17 (by rwa [getD_set_ne (by decide)] at h)), (fun h => by rw [getD_set_ne (by decide)] at h; rw [getD_set_ne (by decide)]; exact h18 h), (fun h => by rw [getD_set_ne (by decide)] at h; rw [getD_set_ne (by decide)]; exact h19 h), (fun h h2 => hD18_19 (by rwa [getD_set_ne (by decide)] at h) (by rwa [getD_set_ne (by decide)] at h2)), (fun h => by rw [getD_set_ne (by decide)] at h ⊢; exact hS18 h), (fun h => by rw [getD_set_ne (by decide)] at h ⊢; exact hS19 h)⟩
    · skip
      refine wpOp_of rfl rfl ?_
      go_simp
      unfold LsInv
      exact ⟨_, _, _, _, _, _, _, _, _, _, _, _, _, _, _, _, _, _, _, _, p18, p19, rfl, (hB), (hE_D), (hF_X), (hF_Y), (fun h => h0 (by rwa [getD_set_ne (by decide)] at h)), (fun h => h1 (by rwa [getD_set_ne (by decide)] at h)), (fun h => h2 (by rwa [getD_set_ne (by decide)] at h)), (fun h => h3 (by rwa [getD_set_ne (by decide)] at h)), (fun h => h4 (by rwa [getD_set_ne (by decide)] at h)), (fun h => h5 (by rwa [getD_set_ne (by decide)] at h)), (fun h => h6 (by rwa [getD_set_ne (by decide)] at h)), (fun h => h7 (by rwa [getD_set_ne (by decide)] at h)), (fun h => h8 (by rwa [getD_set_ne (by decide)] at h)), (fun h => h9 (by rwa [getD_set_ne (by decide)] at h)), (fun h => h10 (by rwa [getD_set_ne (by decide)] at h)), (fun _ => rfl), (fun h => h12 (by rwa [getD_set_ne (by decide)] at h)), (fun h => h13 (by rwa [getD_set_ne (by decide)] at h)), (fun h => h14 (by rwa [getD_set_ne (by decide)] at h)), (fun h => h15 (by rwa [getD_set_ne (by decide)] at h)), (fun h => h16 (by rwa [getD_set_ne (by decide)] at h)), (fun h => h17 (by rwa [getD_set_ne (by decide)] at h)), (fun h => by rw [getD_set_ne (by decide)] at h; rw [getD_set_ne (by decide)]; exact h18 h), (fun h => by rw [getD_set_ne (by decide)] at h; rw [getD_set_ne (by decide)]; exact h19 h), (fun h h2 => hD18_19 (by rwa [getD_set_ne (by decide)] at h) (by rwa [getD_set_ne (by decide)] at h2)), (fun h => by rw [getD_set_ne (by decide)] at h ⊢; exact hS18 h), (fun h => by rw [getD_set_ne (by decide)] at h ⊢; exact hS19 h)⟩
    · skip
      have e11 := h11 (ready_dep hi (by kernel_rfl))
      subst e11
      have c := hcell (k := 1) (v := .int .i64 y.b) hF_Y rfl
      refine wpOp_of rfl rfl ?_
      go_simp
      unfold LsInv
      exact ⟨_, _, _, _, _, _, _, _, _, _, _, _, _, _, _, _, _, _, _, _, p18, p19, rfl, (hB), (hE_D), (hF_X), (hF_Y), (fun h => h0 (by rwa [getD_set_ne (by decide)] at h)), (fun h => h1 (by rwa [getD_set_ne (by decide)] at h)), (fun h => h2 (by rwa [getD_set_ne (by decide)] at h)), (fun h => h3 (by rwa [getD_set_ne (by decide)] at h)), (fun h => h4 (by rwa [getD_set_ne (by decide)] at h)), (fun h => h5 (by rwa [getD_set_ne (by decide)] at h)), (fun h => h6 (by rwa [getD_set_ne (by decide)] at h)), (fun h => h7 (by rwa [getD_set_ne (by decide)] at h)), (fun h => h8 (by rwa [getD_set_ne (by decide)] at h)), (fun h => h9 (by rwa [getD_set_ne (by decide)] at h)), (fun h => h10 (by rwa [getD_set_ne (by decide)] at h)), (fun h => h11 (by rwa [getD_set_ne (by decide)] at h)), (fun _ => rfl), (fun h => h13 (by rwa [getD_set_ne (by decide)] at h)), (fun h => h14 (by rwa [getD_set_ne (by decide)] at h)), (fun h => h15 (by rwa [getD_set_ne (by decide)] at h)), (fun h => h16 (by rwa [getD_set_ne (by decide)] at h)), (fun h => h17 (by rwa [getD_set_ne (by decide)] at h)), (fun h => by rw [getD_set_ne (by decide)] at h; rw [getD_set_ne (by decide)]; exact h18 h), (fun h => by rw [getD_set_ne (by decide)] at h; rw [getD_set_ne (by decide)]; exact h19 h), (fun h h2 => hD18_19 (by rwa [getD_set_ne (by decide)] at h) (by rwa [getD_set_ne (by decide)] at h2)), (fun h => by rw [getD_set_ne (by decide)] at h ⊢; exact hS18 h), (fun h => by rw [getD_set_ne (by decide)] at h ⊢; exact hS19 h)⟩
    · skip
      refine wpOp_of rfl rfl ?_
      go_simp
      unfold LsInv
      exact ⟨_, _, _, _, _, _, _, _, _, _, _, _, _, _, _, _, _, _, _, _, p18, p19, rfl, (hB), (hE_D), (hF_X), (hF_Y), (fun h => h0 (by rwa [getD_set_ne (by decide)] at h)), (fun h => h1 (by rwa [getD_set_ne (by decide)] at h)), (fun h => h2 (by rwa [getD_set_ne (by decide)] at h)), (fun h => h3 (by rwa [getD_set_ne (by decide)] at h)), (fun h => h4 (by rwa [getD_set_ne (by decide)] at h)), (fun h => h5 (by rwa [getD_set_ne (by decide)] at h)), (fun h => h6 (by rwa [getD_set_ne (by decide)] at h)), (fun h => h7 (by rwa [getD_set_ne (by decide)] at h)), (fun h => h8 (by rwa [getD_set_ne (by decide)] at h)), (fun h => h9 (by rwa [getD_set_ne (by decide)] at h)), (fun h => h10 (by rwa [getD_set_ne (by decide)] at h)), (fun h => h11 (by rwa [getD_set_ne (by decide)] at h)), (fun h => h12 (by rwa [getD_set_ne (by decide)] at h)), (fun _ => rfl), (fun h => h14 (by rwa [getD_set_ne (by decide)] at h)), (fun h => h15 (by rwa [getD_set_ne (by decide)] at h)), (fun h => h16 (by rwa [getD_set_ne (by decide)] at h)), (fun h => h17 (by rwa [getD_set_ne (by decide)] at h)), (fun h => by rw [getD_set_ne (by decide)] at h; rw [getD_set_ne (by decide)]; exact h18 h), (fun h => by rw [getD_set_ne (by decide)] at h; rw [getD_set_ne (by decide)]; exact h19 h), (fun h h2 => hD18_19 (by rwa [getD_set_ne (by decide)] at h) (by rwa [getD_set_ne (by decide)] at h2)), (fun h => by rw [getD_set_ne (by decide)] at h ⊢; exact hS18 h), (fun h => by rw [getD_set_ne (by decide)] at h ⊢; exact hS19 h)⟩
    · skip
      have e13 := h13 (ready_dep hi (by kernel_rfl))
      subst e13
      have c := hcell (k := 2) (v := .int .i64 y.x0) hF_Y rfl
      refine wpOp_of rfl rfl ?_
      go_simp
      unfold LsInv
      exact ⟨_, _, _, _, _, _, _, _, _, _, _, _, _, _, _, _, _, _, _, _, p18, p19, rfl, (hB), (hE_D), (hF_X), (hF_Y), (fun h => h0 (by rwa [getD_set_ne (by decide)] at h)), (fun h => h1 (by rwa [getD_set_ne (by decide)] at h)), (fun h => h2 (by rwa [getD_set_ne (by decide)] at h)), (fun h => h3 (by rwa [getD_set_ne (by decide)] at h)), (fun h => h4 (by rwa [getD_set_ne (by decide)] at h)), (fun h => h5 (by rwa [getD_set_ne (by decide)] at h)), (fun h => h6 (by rwa [getD_set_ne (by decide)] at h)), (fun h => h7 (by rwa [getD_set_ne (by decide)] at h)), (fun h => h8 (by rwa [getD_set_ne (by decide)] at h)), (fun h => h9 (by rwa [getD_set_ne (by decide)] at h)), (fun h => h10 (by rwa [getD_set_ne (by decide)] at h)), (fun h => h11 (by rwa [getD_set_ne (by decide)] at h)), (fun h => h12 (by rwa [getD_set_ne (by decide)] at h)), (fun h => h13 (by rwa [getD_set_ne (by decide)] at h)), (fun _ => rfl), (fun h => h15 (by rwa [getD_set_ne (by decide)] at h)), (fun h => h16 (by rwa [getD_set_ne (by decide)] at h)), (fun h => h17 (by rwa [getD_set_ne (by decide)] at h)), (fun h => by rw [getD_set_ne (by decide)] at h; rw [getD_set_ne (by decide)]; exact h18 h), (fun h => by rw [getD_set_ne (by decide)] at h; rw [getD_set_ne (by decide)]; exact h19 h), (fun h h2 => hD18_19 (by rwa [getD_set_ne (by decide)] at h) (by rwa [getD_set_ne (by decide)] at h2)), (fun h => by rw [getD_set_ne (by decide)] at h ⊢; exact hS18 h), (fun h => by rw [getD_set_ne (by decide)] at h ⊢; exact hS19 h)⟩
    · skip
      refine wpOp_of rfl rfl ?_
      go_simp
      unfold LsInv
      exact ⟨_, _, _, _, _, _, _, _, _, _, _, _, _, _, _, _, _, _, _, _, p18, p19, rfl, (hB), (hE_D), (hF_X), (hF_Y), (fun h => h0 (by rwa [getD_set_ne (by decide)] at h)), (fun h => h1 (by rwa [getD_set_ne (by decide)] at h)), (fun h => h2 (by rwa [getD_set_ne (by decide)] at h)), (fun h => h3 (by rwa [getD_set_ne (by decide)] at h)), (fun h => h4 (by rwa [getD_set_ne (by decide)] at h)), (fun h => h5 (by rwa [getD_set_ne (by decide)] at h)), (fun h => h6 (by rwa [getD_set_ne (by decide)] at h)), (fun h => h7 (by rwa [getD_set_ne (by decide)] at h)), (fun h => h8 (by rwa [getD_set_ne (by decide)] at h)), (fun h => h9 (by rwa [getD_set_ne (by decide)] at h)), (fun h => h10 (by rwa [getD_set_ne (by decide)] at h)), (fun h => h11 (by rwa [getD_set_ne (by decide)] at h)), (fun h => h12 (by rwa [getD_set_ne (by decide)] at h)), (fun h => h13 (by rwa [getD_set_ne (by decide)] at h)), (fun h => h14 (by rwa [getD_set_ne (by decide)] at h)), (fun _ => rfl), (fun h => h16 (by rwa [getD_set_ne (by decide)] at h)), (fun h => h17 (by rwa [getD_set_ne (by decide)] at h)), (fun h => by rw [getD_set_ne (by decide)] at h; rw [getD_set_ne (by decide)]; exact h18 h), (fun h => by rw [getD_set_ne (by decide)] at h; rw [getD_set_ne (by decide)]; exact h19 h), (fun h h2 => hD18_19 (by rwa [getD_set_ne (by decide)] at h) (by rwa [getD_set_ne (by decide)] at h2)), (fun h => by rw [getD_set_ne (by decide)] at h ⊢; exact hS18 h), (fun h => by rw [getD_set_ne (by decide)] at h ⊢; exact hS19 h)⟩
    · skip
      have e15 := h15 (ready_dep hi (by kernel_rfl))
      subst e15
      have c := hcell (k := 3) (v := .int .i64 y.z0) hF_Y rfl
      refine wpOp_of rfl rfl ?_
      go_simp
      unfold LsInv
      exact ⟨_, _, _, _, _, _, _, _, _, _, _, _, _, _, _, _, _, _, _, _, p18, p19, rfl, (hB), (hE_D), (hF_X), (hF_Y), (fun h => h0 (by rwa [getD_set_ne (by decide)] at h)), (fun h => h1 (by rwa [getD_set_ne (by decide)] at h)), (fun h => h2 (by rwa [getD_set_ne (by decide)] at h)), (fun h => h3 (by rwa [getD_set_ne (by decide)] at h)), (fun h => h4 (by rwa [getD_set_ne (by decide)] at h)), (fun h => h5 (by rwa [getD_set_ne (by decide)] at h)), (fun h => h6 (by rwa [getD_set_ne (by decide)] at h)), (fun h => h7 (by rwa [getD_set_ne (by decide)] at h)), (fun h => h8 (by rwa [getD_set_ne (by decide)] at h)), (fun h => h9 (by rwa [getD_set_ne (by decide)] at h)), (fun h => h10 (by rwa [getD_set_ne (by decide)] at h)), (fun h => h11 (by rwa [getD_set_ne (by decide)] at h)), (fun h => h12 (by rwa [getD_set_ne (by decide)] at h)), (fun h => h13 (by rwa [getD_set_ne (by decide)] at h)), (fun h => h14 (by rwa [getD_set_ne (by decide)] at h)), (fun h => h15 (by rwa [getD_set_ne (by decide)] at h)), (fun _ => rfl), (fun h => h17 (by rwa [getD_set_ne (by decide)] at h)), (fun h => by rw [getD_set_ne (by decide)] at h; rw [getD_set_ne (by decide)]; exact h18 h), (fun h => by rw [getD_set_ne (by decide)] at h; rw [getD_set_ne (by decide)]; exact h19 h), (fun h h2 => hD18_19 (by rwa [getD_set_ne (by decide)] at h) (by rwa [getD_set_ne (by decide)] at h2)), (fun h => by rw [getD_set_ne (by decide)] at h ⊢; exact hS18 h), (fun h => by rw [getD_set_ne (by decide)] at h ⊢; exact hS19 h)⟩
    · skip
      have e10 := h10 (ready_dep hi (by kernel_rfl))
      subst e10
      have e12 := h12 (ready_dep hi (by kernel_rfl))
      subst e12
      have e14 := h14 (ready_dep hi (by kernel_rfl))
      subst e14
      have e16 := h16 (ready_dep hi (by kernel_rfl))
      subst e16
      refine wpOp_of rfl rfl ?_
      go_simp
      unfold LsInv
      exact ⟨_, _, _, _, _, _, _, _, _, _, _, _, _, _, _, _, _, _, _, _, p18, p19, rfl, (hB), (hE_D), (hF_X), (hF_Y), (fun h => h0 (by rwa [getD_set_ne (by decide)] at h)), (fun h => h1 (by rwa [getD_set_ne (by decide)] at h)), (fun h => h2 (by rwa [getD_set_ne (by decide)] at h)), (fun h => h3 (by rwa [getD_set_ne (by decide)] at h)), (fun h => h4 (by rwa [getD_set_ne (by decide)] at h)), (fun h => h5 (by rwa [getD_set_ne (by decide)] at h)), (fun h => h6 (by rwa [getD_set_ne (by decide)] at h)), (fun h => h7 (by rwa [getD_set_ne (by decide)] at h)), (fun h => h8 (by rwa [getD_set_ne (by decide)] at h)), (fun h => h9 (by rwa [getD_set_ne (by decide)] at h)), (fun h => h10 (by rwa [getD_set_ne (by decide)] at h)), (fun h => h11 (by rwa [getD_set_ne (by decide)] at h)), (fun h => h12 (by rwa [getD_set_ne (by decide)] at h)), (fun h => h13 (by rwa [getD_set_ne (by decide)] at h)), (fun h => h14 (by rwa [getD_set_ne (by decide)] at h)), (fun h => h15 (by rwa [getD_set_ne (by decide)] at h)), (fun h => h16 (by rwa [getD_set_ne (by decide)] at h)), (fun _ => rfl), (fun h => by rw [getD_set_ne (by decide)] at h; rw [getD_set_ne (by decide)]; exact h18 h), (fun h => by rw [getD_set_ne (by decide)] at h; rw [getD_set_ne (by decide)]; exact h19 h), (fun h h2 => hD18_19 (by rwa [getD_set_ne (by decide)] at h) (by rwa [getD_set_ne (by decide)] at h2)), (fun h => by rw [getD_set_ne (by decide)] at h ⊢; exact hS18 h), (fun h => by rw [getD_set_ne (by decide)] at h ⊢; exact hS19 h)⟩
    · skip
      refine wpOp_of rfl rfl ?_
      go_simp
      unfold LsInv
      exact ⟨_, _, _, _, _, _, _, _, _, _, _, _, _, _, _, _, _, _, _, _, wi.heap.size, p19, rfl, (hB.alloc (Nat.le_trans (hz0) hB.size) _), (hE_D), (halloc hF_X _), (halloc hF_Y _), (fun h => h0 (by rwa [getD_set_ne (by decide)] at h)), (fun h => h1 (by rwa [getD_set_ne (by decide)] at h)), (fun h => h2 (by rwa [getD_set_ne (by decide)] at h)), (fun h => h3 (by rwa [getD_set_ne (by decide)] at h)), (fun h => h4 (by rwa [getD_set_ne (by decide)] at h)), (fun h => h5 (by rwa [getD_set_ne (by decide)] at h)), (fun h => h6 (by rwa [getD_set_ne (by decide)] at h)), (fun h => h7 (by rwa [getD_set_ne (by decide)] at h)), (fun h => h8 (by rwa [getD_set_ne (by decide)] at h)), (fun h => h9 (by rwa [getD_set_ne (by decide)] at h)), (fun h => h10 (by rwa [getD_set_ne (by decide)] at h)), (fun h => h11 (by rwa [getD_set_ne (by decide)] at h)), (fun h => h12 (by rwa [getD_set_ne (by decide)] at h)), (fun h => h13 (by rwa [getD_set_ne (by decide)] at h)), (fun h => h14 (by rwa [getD_set_ne (by decide)] at h)), (fun h => h15 (by rwa [getD_set_ne (by decide)] at h)), (fun h => h16 (by rwa [getD_set_ne (by decide)] at h)), (fun h => h17 (by rwa [getD_set_ne (by decide)] at h)), (fun _ => ⟨rfl, hB.size, by rw [getD_set_ne (by decide)]; have n20 : L.getD 20 false = false := (by cases h : L.getD 20 false with | false => rfl | true => rw [hS18 h] at hi'; cases hi'); rw [n20]; exact World.alloc_heap_new _ _⟩), (fun h => by rw [getD_set_ne (by decide)] at h; rw [getD_set_ne (by decide)]; obtain ⟨e1, e2, e3⟩ := h19 h; exact ⟨e1, e2, halloc e3 _⟩), (fun _ h => by rw [getD_set_ne (by decide)] at h; have := hblt (h19 h).2.2; omega), (fun _ => getD_set_eq (by omega) _), (fun h => by rw [getD_set_ne (by decide)] at h ⊢; exact hS19 h)⟩
    · skip
      refine wpOp_of rfl rfl ?_
      go_simp
      unfold LsInv
      exact ⟨_, _, _, _, _, _, _, _, _, _, _, _, _, _, _, _, _, _, _, _, p18, wi.heap.size, rfl, (hB.alloc (Nat.le_trans (hz0) hB.size) _), (hE_D), (halloc hF_X _), (halloc hF_Y _), (fun h => h0 (by rwa [getD_set_ne (by decide)] at h)), (fun h => h1 (by rwa [getD_set_ne (by decide)] at h)), (fun h => h2 (by rwa [getD_set_ne (by decide)] at h)), (fun h => h3 (by rwa [getD_set_ne (by decide)] at h)), (fun h => h4 (by rwa [getD_set_ne (by decide)] at h)), (fun h => h5 (by rwa [getD_set_ne (by decide)] at h)), (fun h => h6 (by rwa [getD_set_ne (by decide)] at h)), (fun h => h7 (by rwa [getD_set_ne (by decide)] at h)), (fun h => h8 (by rwa [getD_set_ne (by decide)] at h)), (fun h => h9 (by rwa [getD_set_ne (by decide)] at h)), (fun h => h10 (by rwa [getD_set_ne (by decide)] at h)), (fun h => h11 (by rwa [getD_set_ne (by decide)] at h)), (fun h => h12 (by rwa [getD_set_ne (by decide)] at h)), (fun h => h13 (by rwa [getD_set_ne (by decide)] at h)), (fun h => h14 (by rwa [getD_set_ne (by decide)] at h)), (fun h => h15 (by rwa [getD_set_ne (by decide)] at h)), (fun h => h16 (by rwa [getD_set_ne (by decide)] at h)), (fun h => h17 (by rwa [getD_set_ne (by decide)] at h)), (fun h => by rw [getD_set_ne (by decide)] at h; rw [getD_set_ne (by decide)]; obtain ⟨e1, e2, e3⟩ := h18 h; exact ⟨e1, e2, halloc e3 _⟩), (fun _ => ⟨rfl, hB.size, by rw [getD_set_ne (by decide)]; have n21 : L.getD 21 false = false := (by cases h : L.getD 21 false with | false => rfl | true => rw [hS19 h] at hi'; cases hi'); rw [n21]; exact World.alloc_heap_new _ _⟩), (fun h _ => by rw [getD_set_ne (by decide)] at h; have := hblt (h18 h).2.2; omega), (fun h => by rw [getD_set_ne (by decide)] at h ⊢; exact hS18 h), (fun _ => getD_set_eq (by omega) _)⟩
    · skip
      have e8 := h8 (ready_dep hi (by kernel_rfl))
      subst e8
      obtain ⟨e1, e2, e3⟩ := h18 (ready_dep hi (by kernel_rfl))
      subst e1
      rw [hi'] at e3
      have e3 : wi.heap[p18]? = some (.cells #[.int .i64 0, .int .i64 0, .int .i64 0, .int .i64 0] 159 (0, 0)) := e3
      have f0 := hfroz (k := 0) e3
      have z0 := hcell (k := 0) (v := .int .i64 0) e3 rfl
      have f1 := hfroz (k := 1) e3
      have z1 := hcell (k := 1) (v := .int .i64 0) e3 rfl
      have f2 := hfroz (k := 2) e3
      have z2 := hcell (k := 2) (v := .int .i64 0) e3 rfl
      have f3 := hfroz (k := 3) e3
      have z3 := hcell (k := 3) (v := .int .i64 0) e3 rfl
      have hG := bx4_grown (w := wi) (b := p18) (.int .i64 x.a) (.int .i64 x.b) (.int .i64 x.x0) (.int .i64 x.z0)
      have hN := bx4_set e3 (.int .i64 x.a) (.int .i64 x.b) (.int .i64 x.x0) (.int .i64 x.z0)
      refine wpOp_of rfl rfl ?_
      go_simp
      unfold LsInv
      exact ⟨_, _, _, _, _, _, _, _, _, _, _, _, _, _, _, _, _, _, _, _, p18, p19, rfl, (hB.grown hG (Nat.le_trans (hz0) hB.size) (fun j hj => by cases hj; omega)), (hE_D), (hgrown hG hF_X (by simp only [ne_eq, Option.some.injEq]; omega)), (hgrown hG hF_Y (by simp only [ne_eq, Option.some.injEq]; omega)), (fun h => h0 (by rwa [getD_set_ne (by decide)] at h)), (fun h => h1 (by rwa [getD_set_ne (by decide)] at h)), (fun h => h2 (by rwa [getD_set_ne (by decide)] at h)), (fun h => h3 (by rwa [getD_set_ne (by decide)] at h)), (fun h => h4 (by rwa [getD_set_ne (by decide)] at h)), (fun h => h5 (by rwa [getD_set_ne (by decide)] at h)), (fun h => h6 (by rwa [getD_set_ne (by decide)] at h)), (fun h => h7 (by rwa [getD_set_ne (by decide)] at h)), (fun h => h8 (by rwa [getD_set_ne (by decide)] at h)), (fun h => h9 (by rwa [getD_set_ne (by decide)] at h)), (fun h => h10 (by rwa [getD_set_ne (by decide)] at h)), (fun h => h11 (by rwa [getD_set_ne (by decide)] at h)), (fun h => h12 (by rwa [getD_set_ne (by decide)] at h)), (fun h => h13 (by rwa [getD_set_ne (by decide)] at h)), (fun h => h14 (by rwa [getD_set_ne (by decide)] at h)), (fun h => h15 (by rwa [getD_set_ne (by decide)] at h)), (fun h => h16 (by rwa [getD_set_ne (by decide)] at h)), (fun h => h17 (by rwa [getD_set_ne (by decide)] at h)), (fun _ => ⟨rfl, e2, by rw [getD_set_eq (by omega)]; exact hN⟩), (fun h => by rw [getD_set_ne (by decide)] at h; rw [getD_set_ne (by decide)]; obtain ⟨e1, e2, e3⟩ := h19 h; exact ⟨e1, e2, hgrown hG e3 (fun e => hD18_19 (ready_dep hi (by kernel_rfl)) h (Option.some.inj e))⟩), (fun h h2 => hD18_19 (by rwa [getD_set_ne (by decide)] at h) (by rwa [getD_set_ne (by decide)] at h2)), (fun _ => by rw [getD_set_ne (by decide)]; exact ready_dep hi (by kernel_rfl)), (fun h => by rw [getD_set_ne (by decide)] at h ⊢; exact hS19 h)⟩
    · skip
      have e17 := h17 (ready_dep hi (by kernel_rfl))
      subst e17
      obtain ⟨e1, e2, e3⟩ := h19 (ready_dep hi (by kernel_rfl))
      subst e1
      rw [hi'] at e3
      have e3 : wi.heap[p19]? = some (.cells #[.int .i64 0, .int .i64 0, .int .i64 0, .int .i64 0] 159 (0, 0)) := e3
      have f0 := hfroz (k := 0) e3
      have z0 := hcell (k := 0) (v := .int .i64 0) e3 rfl
      have f1 := hfroz (k := 1) e3
      have z1 := hcell (k := 1) (v := .int .i64 0) e3 rfl
      have f2 := hfroz (k := 2) e3
      have z2 := hcell (k := 2) (v := .int .i64 0) e3 rfl
      have f3 := hfroz (k := 3) e3
      have z3 := hcell (k := 3) (v := .int .i64 0) e3 rfl
      have hG := bx4_grown (w := wi) (b := p19) (.int .i64 y.a) (.int .i64 y.b) (.int .i64 y.x0) (.int .i64 y.z0)
      have hN := bx4_set e3 (.int .i64 y.a) (.int .i64 y.b) (.int .i64 y.x0) (.int .i64 y.z0)
      refine wpOp_of rfl rfl ?_
      go_simp
      unfold LsInv
      exact ⟨_, _, _, _, _, _, _, _, _, _, _, _, _, _, _, _, _, _, _, _, p18, p19, rfl, (hB.grown hG (Nat.le_trans (hz0) hB.size) (fun j hj => by cases hj; omega)), (hE_D), (hgrown hG hF_X (by simp only [ne_eq, Option.some.injEq]; omega)), (hgrown hG hF_Y (by simp only [ne_eq, Option.some.injEq]; omega)), (fun h => h0 (by rwa [getD_set_ne (by decide)] at h)), (fun h => h1 (by rwa [getD_set_ne (by decide)] at h)), (fun h => h2 (by rwa [getD_set_ne (by decide)] at h)), (fun h => h3 (by rwa [getD_set_ne (by decide)] at h)), (fun h => h4 (by rwa [getD_set_ne (by decide)] at h)), (fun h => h5 (by rwa [getD_set_ne (by decide)] at h)), (fun h => h6 (by rwa [getD_set_ne (by decide)] at h)), (fun h => h7 (by rwa [getD_set_ne (by decide)] at h)), (fun h => h8 (by rwa [getD_set_ne (by decide)] at h)), (fun h => h9 (by rwa [getD_set_ne (by decide)] at h)), (fun h => h10 (by rwa [getD_set_ne (by decide)] at h)), (fun h => h11 (by rwa [getD_set_ne (by decide)] at h)), (fun h => h12 (by rwa [getD_set_ne (by decide)] at h)), (fun h => h13 (by rwa [getD_set_ne (by decide)] at h)), (fun h => h14 (by rwa [getD_set_ne (by decide)] at h)), (fun h => h15 (by rwa [getD_set_ne (by decide)] at h)), (fun h => h16 (by rwa [getD_set_ne (by decide)] at h)), (fun h => h17 (by rwa [getD_set_ne (by decide)] at h)), (fun h => by rw [getD_set_ne (by decide)] at h; rw [getD_set_ne (by decide)]; obtain ⟨e1, e2, e3⟩ := h18 h; exact ⟨e1, e2, hgrown hG e3 (fun e => hD18_19 h (ready_dep hi (by kernel_rfl)) (Option.some.inj e).symm)⟩), (fun _ => ⟨rfl, e2, by rw [getD_set_eq (by omega)]; exact hN⟩), (fun h h2 => hD18_19 (by rwa [getD_set_ne (by decide)] at h) (by rwa [getD_set_ne (by decide)] at h2)), (fun h => by rw [getD_set_ne (by decide)] at h ⊢; exact hS18 h), (fun _ => by rw [getD_set_ne (by decide)]; exact ready_dep hi (by kernel_rfl))⟩
  · intro L a wi hI hall
    unfold LsInv at hI
    obtain ⟨s0, s1, s2, s3, s4, s5, s6, s7, s8, s9, s10, s11, s12, s13, s14, s15, s16, s17, s18, s19, p18, p19, rfl, hB, hE_D, hF_X, hF_Y, h0, h1, h2, h3, h4, h5, h6, h7, h8, h9, h10, h11, h12, h13, h14, h15, h16, h17, h18, h19, hD18_19, hS18, hS19⟩ := hI
    have e0 := h0 (hall 0 (by decide))
    subst e0
    have e1 := h1 (hall 1 (by decide))
    subst e1
    have e2 := h2 (hall 2 (by decide))
    subst e2
    have e3 := h3 (hall 3 (by decide))
    subst e3
    have e4 := h4 (hall 4 (by decide))
    subst e4
    have e5 := h5 (hall 5 (by decide))
    subst e5
    have e6 := h6 (hall 6 (by decide))
    subst e6
    have e7 := h7 (hall 7 (by decide))
    subst e7
    have e8 := h8 (hall 8 (by decide))
    subst e8
    have e9 := h9 (hall 9 (by decide))
    subst e9
    have e10 := h10 (hall 10 (by decide))
    subst e10
    have e11 := h11 (hall 11 (by decide))
    subst e11
    have e12 := h12 (hall 12 (by decide))
    subst e12
    have e13 := h13 (hall 13 (by decide))
    subst e13
    have e14 := h14 (hall 14 (by decide))
    subst e14
    have e15 := h15 (hall 15 (by decide))
    subst e15
    have e16 := h16 (hall 16 (by decide))
    subst e16
    have e17 := h17 (hall 17 (by decide))
    subst e17
    obtain ⟨e18, b18, g18⟩ := h18 (hall 18 (by decide))
    rw [if_pos (hall 20 (by decide))] at g18
    subst e18
    obtain ⟨e19, b19, g19⟩ := h19 (hall 19 (by decide))
    rw [if_pos (hall 21 (by decide))] at g19
    subst e19
    replace hD18_19 := hD18_19 (hall 18 (by decide)) (hall 19 (by decide))
    clear hall h18 h19 hS18 hS19
    have C4 := Lib.hid (fun n => cmp4_any x.a x.b x.x0 x.z0 y.a y.b y.x0 y.z0 p18 p19 _ _ (wi.drewN n) g18 g19)
    have HQ := Lib.hid (c4_lt x y)
    generalize c4 x.a x.b x.x0 x.z0 y.a y.b y.x0 y.z0 = r at C4 HQ
    clear g18 g19 hF_X hF_Y hD18_19 b18 b19
    have hB9 := hB0.trans hB
    have hD9 := Nat.le_trans hdr hE_D
    go_upto_region 2 with fail
    go_quiet ((go_at_call 104; exact (C4.out _).mono fun _ _ h => ⟨h.1, _, h.2⟩))
    go_wp2
    go_ret
    refine ⟨?_, hB9.trans ⟨rfl, rfl, rfl, Nat.le_refl _, fun _ _ => rfl⟩, Nat.le_trans hD9 (Nat.le_add_right _ _)⟩
    exact congrArg (fun b => Ending.returned (.bool b)) HQ.out
end Go.Proofs.YtmgkkmcihplojaaGreat

namespace Go.Proofs.YtmgkkmcihplojaaGreat
open Go.RowKit Go.Sort

set_option maxHeartbeats 1000000 in
theorem dless_any (x y : Dr) (w : World) :
    Calls Tryz.prog 65 #[.agg #[.int .i64 x.a, .int .i64 x.b, .int .i64 x.x0, .int .i64 x.z0, .int .i64 x.x1, .int .i64 x.z1], .agg #[.int .i64 y.a, .int .i64 y.b, .int .i64 y.x0, .int .i64 y.z0, .int .i64 y.x1, .int .i64 y.z1]] w fun e w' => e = .returned (.bool (decide (ltD x y))) ∧ Below w.heap.size w w' ∧ w.drawn ≤ w'.drawn := by
  have LS := Lib.hid (fun W => drless_any x y W)
  have HO : Hid (∀ b, Ending.returned (Value.bool b) = Ending.returned (Value.bool b)) := fun _ => rfl
  generalize decide (ltD x y) = r at LS ⊢
  have hB : Below w.heap.size w ((w.alloc (.cells #[.int .i64 x.a, .int .i64 x.b, .int .i64 x.x0, .int .i64 x.z0, .int .i64 x.x1, .int .i64 x.z1] 110 (0, 0))).alloc (.cells #[.int .i64 y.a, .int .i64 y.b, .int .i64 y.x0, .int .i64 y.z0, .int .i64 y.x1, .int .i64 y.z1] 110 (0, 0))) := ((Below.refl _ _).alloc (Nat.le_refl _) _).alloc (by simp) _
  have hX := halloc (World.alloc_heap_new w (.cells #[.int .i64 x.a, .int .i64 x.b, .int .i64 x.x0, .int .i64 x.z0, .int .i64 x.x1, .int .i64 x.z1] 110 (0, 0))) (.cells #[.int .i64 y.a, .int .i64 y.b, .int .i64 y.x0, .int .i64 y.z0, .int .i64 y.x1, .int .i64 y.z1] 110 (0, 0))
  have hY := World.alloc_heap_new (w.alloc (.cells #[.int .i64 x.a, .int .i64 x.b, .int .i64 x.x0, .int .i64 x.z0, .int .i64 x.x1, .int .i64 x.z1] 110 (0, 0))) (.cells #[.int .i64 y.a, .int .i64 y.b, .int .i64 y.x0, .int .i64 y.z0, .int .i64 y.x1, .int .i64 y.z1] 110 (0, 0))
  have hdr : w.drawn ≤ ((w.alloc (.cells #[.int .i64 x.a, .int .i64 x.b, .int .i64 x.x0, .int .i64 x.z0, .int .i64 x.x1, .int .i64 x.z1] 110 (0, 0))).alloc (.cells #[.int .i64 y.a, .int .i64 y.b, .int .i64 y.x0, .int .i64 y.z0, .int .i64 y.x1, .int .i64 y.z1] 110 (0, 0))).drawn := Nat.le_refl _
  obtain ⟨W1, hW1⟩ : ∃ W, W = ((w.alloc (.cells #[.int .i64 x.a, .int .i64 x.b, .int .i64 x.x0, .int .i64 x.z0, .int .i64 x.x1, .int .i64 x.z1] 110 (0, 0))).alloc (.cells #[.int .i64 y.a, .int .i64 y.b, .int .i64 y.x0, .int .i64 y.z0, .int .i64 y.x1, .int .i64 y.z1] 110 (0, 0))) := ⟨_, rfl⟩
  rw [World.size_alloc] at hY
  rw [← hW1] at hB hX hY hdr
  have x0 := hcell (k := 0) (v := .int .i64 x.a) hX rfl
  have x1 := hcell (k := 1) (v := .int .i64 x.b) hX rfl
  have x2 := hcell (k := 2) (v := .int .i64 x.x0) hX rfl
  have x3 := hcell (k := 3) (v := .int .i64 x.z0) hX rfl
  have x4 := hcell (k := 4) (v := .int .i64 x.x1) hX rfl
  have x5 := hcell (k := 5) (v := .int .i64 x.z1) hX rfl
  have y0 := hcell (k := 0) (v := .int .i64 y.a) hY rfl
  have y1 := hcell (k := 1) (v := .int .i64 y.b) hY rfl
  have y2 := hcell (k := 2) (v := .int .i64 y.x0) hY rfl
  have y3 := hcell (k := 3) (v := .int .i64 y.z0) hY rfl
  have y4 := hcell (k := 4) (v := .int .i64 y.x1) hY rfl
  have y5 := hcell (k := 5) (v := .int .i64 y.z1) hY rfl
  clear hX hY
  go_enter Tryz.func65, Tryz.ntmps65
  go_upto_region 1 with fail
  rw [← hW1]
  clear hW1
  go_wp2_with fail
  refine (LS.out _).mono ?_
  rintro e w1 ⟨rfl, hb1, hd1⟩
  have hB1 := hB.trans (hb1.mono hB.size)
  go_wp2
  go_ret
  exact ⟨rfl, hB1, Nat.le_trans hdr hd1⟩
theorem grown_of {w w' : World} (hb : Below w.heap.size w w') (hd : w.drawn ≤ w'.drawn) : ∃ q os', w' = grow (w.drewN q) os' := by
  obtain ⟨p, hp⟩ := regrown_of_below hb
  have e : p.d = w'.drawn := by rw [hp]; rfl
  refine ⟨p.d - w.drawn, p.os, ?_⟩
  rw [hp]
  unfold redrawn World.drewN
  congr 2
  omega
set_option maxHeartbeats 1000000 in
theorem cmpdr_any (x y : Dr) (w : World) :
    Calls Tryz.prog 64 #[.agg #[.int .i64 x.a, .int .i64 x.b, .int .i64 x.x0, .int .i64 x.z0, .int .i64 x.x1, .int .i64 x.z1], .agg #[.int .i64 y.a, .int .i64 y.b, .int .i64 y.x0, .int .i64 y.z0, .int .i64 y.x1, .int .i64 y.z1]] w fun e w' => e = .returned (.int .i64 (cmpD x y)) ∧ ∃ q os', w' = grow (w.drewN q) os' := by
  refine Calls.mono (R := fun e w' => e = .returned (.int .i64 (cmpD x y)) ∧ Below w.heap.size w w' ∧ w.drawn ≤ w'.drawn) ?_ (fun e w' h => ⟨h.1, grown_of h.2.1 h.2.2⟩)
  have LS := Lib.hid (fun W => dless_any x y W)
  have LT := Lib.hid (fun W => dless_any y x W)
  have HC : Hid (cmpD x y = if decide (ltD x y) then -1 else if decide (ltD y x) then 1 else 0) := by show _ = _; unfold cmpD; simp
  generalize cmpD x y = c at HC ⊢
  generalize decide (ltD x y) = r at LS HC
  generalize decide (ltD y x) = s at LT HC
  have hB : Below w.heap.size w ((w.alloc (.cells #[.int .i64 x.a, .int .i64 x.b, .int .i64 x.x0, .int .i64 x.z0, .int .i64 x.x1, .int .i64 x.z1] 110 (0, 0))).alloc (.cells #[.int .i64 y.a, .int .i64 y.b, .int .i64 y.x0, .int .i64 y.z0, .int .i64 y.x1, .int .i64 y.z1] 110 (0, 0))) := ((Below.refl _ _).alloc (Nat.le_refl _) _).alloc (by simp) _
  have hX := halloc (World.alloc_heap_new w (.cells #[.int .i64 x.a, .int .i64 x.b, .int .i64 x.x0, .int .i64 x.z0, .int .i64 x.x1, .int .i64 x.z1] 110 (0, 0))) (.cells #[.int .i64 y.a, .int .i64 y.b, .int .i64 y.x0, .int .i64 y.z0, .int .i64 y.x1, .int .i64 y.z1] 110 (0, 0))
  have hY := World.alloc_heap_new (w.alloc (.cells #[.int .i64 x.a, .int .i64 x.b, .int .i64 x.x0, .int .i64 x.z0, .int .i64 x.x1, .int .i64 x.z1] 110 (0, 0))) (.cells #[.int .i64 y.a, .int .i64 y.b, .int .i64 y.x0, .int .i64 y.z0, .int .i64 y.x1, .int .i64 y.z1] 110 (0, 0))
  have hdr : w.drawn ≤ ((w.alloc (.cells #[.int .i64 x.a, .int .i64 x.b, .int .i64 x.x0, .int .i64 x.z0, .int .i64 x.x1, .int .i64 x.z1] 110 (0, 0))).alloc (.cells #[.int .i64 y.a, .int .i64 y.b, .int .i64 y.x0, .int .i64 y.z0, .int .i64 y.x1, .int .i64 y.z1] 110 (0, 0))).drawn := Nat.le_refl _
  obtain ⟨W1, hW1⟩ : ∃ W, W = ((w.alloc (.cells #[.int .i64 x.a, .int .i64 x.b, .int .i64 x.x0, .int .i64 x.z0, .int .i64 x.x1, .int .i64 x.z1] 110 (0, 0))).alloc (.cells #[.int .i64 y.a, .int .i64 y.b, .int .i64 y.x0, .int .i64 y.z0, .int .i64 y.x1, .int .i64 y.z1] 110 (0, 0))) := ⟨_, rfl⟩
  rw [World.size_alloc] at hY
  rw [← hW1] at hB hX hY hdr
  have x0 := hcell (k := 0) (v := .int .i64 x.a) hX rfl
  have x1 := hcell (k := 1) (v := .int .i64 x.b) hX rfl
  have x2 := hcell (k := 2) (v := .int .i64 x.x0) hX rfl
  have x3 := hcell (k := 3) (v := .int .i64 x.z0) hX rfl
  have x4 := hcell (k := 4) (v := .int .i64 x.x1) hX rfl
  have x5 := hcell (k := 5) (v := .int .i64 x.z1) hX rfl
  have y0 := hcell (k := 0) (v := .int .i64 y.a) hY rfl
  have y1 := hcell (k := 1) (v := .int .i64 y.b) hY rfl
  have y2 := hcell (k := 2) (v := .int .i64 y.x0) hY rfl
  have y3 := hcell (k := 3) (v := .int .i64 y.z0) hY rfl
  have y4 := hcell (k := 4) (v := .int .i64 y.x1) hY rfl
  have y5 := hcell (k := 5) (v := .int .i64 y.z1) hY rfl
  go_enter Tryz.func64, Tryz.ntmps64
  go_upto_region 1 with fail
  rw [← hW1]
  clear hW1
  go_wp2_with fail
  refine (LS.out _).mono ?_
  rintro e w1 ⟨rfl, hb1, hd1⟩
  have hB1 := hB.trans (hb1.mono hB.size)
  have hD1 := Nat.le_trans hdr hd1
  have hX1 := hkeep hb1 hX
  have hY1 := hkeep hb1 hY
  clear x0 x1 x2 x3 x4 x5 y0 y1 y2 y3 y4 y5 hX hY
  have x0 := hcell (k := 0) (v := .int .i64 x.a) hX1 rfl
  have x1 := hcell (k := 1) (v := .int .i64 x.b) hX1 rfl
  have x2 := hcell (k := 2) (v := .int .i64 x.x0) hX1 rfl
  have x3 := hcell (k := 3) (v := .int .i64 x.z0) hX1 rfl
  have x4 := hcell (k := 4) (v := .int .i64 x.x1) hX1 rfl
  have x5 := hcell (k := 5) (v := .int .i64 x.z1) hX1 rfl
  have y0 := hcell (k := 0) (v := .int .i64 y.a) hY1 rfl
  have y1 := hcell (k := 1) (v := .int .i64 y.b) hY1 rfl
  have y2 := hcell (k := 2) (v := .int .i64 y.x0) hY1 rfl
  have y3 := hcell (k := 3) (v := .int .i64 y.z0) hY1 rfl
  have y4 := hcell (k := 4) (v := .int .i64 y.x1) hY1 rfl
  have y5 := hcell (k := 5) (v := .int .i64 y.z1) hY1 rfl
  clear hX1 hY1
  cases r with
  | true =>
    clear x0 x1 x2 x3 x4 x5 y0 y1 y2 y3 y4 y5
    go_wp2
    go_ret
    exact ⟨ret_int (by rw [HC.out]; rfl), hB1, hD1⟩
  | false =>
    go_wp2_with fail
    refine (LT.out _).mono ?_
    rintro e w2 ⟨rfl, hb2, hd2⟩
    have hB2 := hB1.trans (hb2.mono hB1.size)
    have hD2 := Nat.le_trans hD1 hd2
    clear x0 x1 x2 x3 x4 x5 y0 y1 y2 y3 y4 y5
    cases s with
    | true =>
      go_wp2
      go_ret
      exact ⟨ret_int (by rw [HC.out]; rfl), hB2, hD2⟩
    | false =>
      go_wp2
      go_ret
      exact ⟨ret_int (by rw [HC.out]; rfl), hB2, hD2⟩
end Go.Proofs.YtmgkkmcihplojaaGreat
