/- Walks: the nearest floor of a column: hops.locate. -/
import Derived.Test.YtmgkkmcihplojaaGreatHpF
namespace Go.Proofs.YtmgkkmcihplojaaGreat
open Go.RowKit Go.Sort
attribute [local go_sem] Instr.index

theorem ret_eqb {a b : Bool} (h : b = a) : Ending.returned (.bool a) = Ending.returned (.bool b) := by rw [h]
theorem hbox6_set {w : World} {b : Nat} {t : TypeId} {u0 u1 u2 u3 u4 u5 : Value} (h : w.heap[b]? = some (.cells #[u0, u1, u2, u3, u4, u5] t (0, 0))) (v0 v1 v2 v3 v4 v5 : Value) :
    ((((((w.setCell ⟨b, 0, none⟩ v0).setCell ⟨b, 1, none⟩ v1).setCell ⟨b, 2, none⟩ v2).setCell ⟨b, 3, none⟩ v3).setCell ⟨b, 4, none⟩ v4).setCell ⟨b, 5, none⟩ v5).heap[b]? = some (.cells #[v0, v1, v2, v3, v4, v5] t (0, 0)) := by
  have h0 := heap_setCell_same _ b 0 _ _ v0 h
  have h1 := heap_setCell_same _ b 1 _ _ v1 h0
  have h2 := heap_setCell_same _ b 2 _ _ v2 h1
  have h3 := heap_setCell_same _ b 3 _ _ v3 h2
  have h4 := heap_setCell_same _ b 4 _ _ v4 h3
  have h5 := heap_setCell_same _ b 5 _ _ v5 h4
  simpa using h5
theorem hbox6_grown {w : World} {b : Nat} (v0 v1 v2 v3 v4 v5 : Value) : w.grownBy ((((((w.setCell ⟨b, 0, none⟩ v0).setCell ⟨b, 1, none⟩ v1).setCell ⟨b, 2, none⟩ v2).setCell ⟨b, 3, none⟩ v3).setCell ⟨b, 4, none⟩ v4).setCell ⟨b, 5, none⟩ v5) (some b) :=
  (((((grown_set w b 0 v0).trans (grown_set _ b 1 v1)).trans (grown_set _ b 2 v2)).trans (grown_set _ b 3 v3)).trans (grown_set _ b 4 v4)).trans (grown_set _ b 5 v5)
theorem hbox5_set {w : World} {b : Nat} {t : TypeId} {u0 u1 u2 u3 u4 : Value} (h : w.heap[b]? = some (.cells #[u0, u1, u2, u3, u4] t (0, 0))) (v0 v1 v2 v3 v4 : Value) :
    (((((w.setCell ⟨b, 0, none⟩ v0).setCell ⟨b, 1, none⟩ v1).setCell ⟨b, 2, none⟩ v2).setCell ⟨b, 3, none⟩ v3).setCell ⟨b, 4, none⟩ v4).heap[b]? = some (.cells #[v0, v1, v2, v3, v4] t (0, 0)) := by
  have h0 := heap_setCell_same _ b 0 _ _ v0 h
  have h1 := heap_setCell_same _ b 1 _ _ v1 h0
  have h2 := heap_setCell_same _ b 2 _ _ v2 h1
  have h3 := heap_setCell_same _ b 3 _ _ v3 h2
  have h4 := heap_setCell_same _ b 4 _ _ v4 h3
  simpa using h4
theorem hbox5_grown {w : World} {b : Nat} (v0 v1 v2 v3 v4 : Value) : w.grownBy (((((w.setCell ⟨b, 0, none⟩ v0).setCell ⟨b, 1, none⟩ v1).setCell ⟨b, 2, none⟩ v2).setCell ⟨b, 3, none⟩ v3).setCell ⟨b, 4, none⟩ v4) (some b) :=
  ((((grown_set w b 0 v0).trans (grown_set _ b 1 v1)).trans (grown_set _ b 2 v2)).trans (grown_set _ b 3 v3)).trans (grown_set _ b 4 v4)
abbrev fdA (x z Y : Int) (d : Fd) : Array Value := #[.int .i64 (d.i : Int), .int .i64 (d.k : Int), .int .i64 x, .int .i64 z, .int .i64 d.y, .int .i64 (offD Y d.y)]
set_option maxRecDepth 100000 in
set_option maxHeartbeats 8000000 in
theorem hpless_any (x z Y : Int) (a b : Fd) (w : World) :
    Calls Tryz.prog 18 #[.agg (fdA x z Y a), .agg (fdA x z Y b)] w fun e w' => e = .returned (.bool (lessD Y a b)) ∧ Below w.heap.size w w' := by
  have hB : Below w.heap.size w ((w.alloc (.cells (fdA x z Y a) 63 (0, 0))).alloc (.cells (fdA x z Y b) 63 (0, 0))) := ((Below.refl _ _).alloc (Nat.le_refl _) _).alloc (by simp) _
  have hA := halloc (World.alloc_heap_new w (.cells (fdA x z Y a) 63 (0, 0))) (.cells (fdA x z Y b) 63 (0, 0))
  have hC := World.alloc_heap_new (w.alloc (.cells (fdA x z Y a) 63 (0, 0))) (.cells (fdA x z Y b) 63 (0, 0))
  rw [World.size_alloc] at hC
  dsimp only [fdA] at hB hA hC ⊢
  obtain ⟨W1, hW1⟩ : ∃ W, W = (w.alloc (.cells #[.int .i64 (a.i : Int), .int .i64 (a.k : Int), .int .i64 x, .int .i64 z, .int .i64 a.y, .int .i64 (offD Y a.y)] 63 (0, 0))).alloc (.cells #[.int .i64 (b.i : Int), .int .i64 (b.k : Int), .int .i64 x, .int .i64 z, .int .i64 b.y, .int .i64 (offD Y b.y)] 63 (0, 0)) := ⟨_, rfl⟩
  obtain ⟨S0, hS0⟩ : ∃ S, S = w.heap.size := ⟨_, rfl⟩
  rw [← hW1] at hB hA hC
  rw [← hS0] at hA hC
  obtain ⟨L, hL⟩ : ∃ L, Hid (L = lessD Y a b) := ⟨_, rfl⟩
  rw [← hL.out]
  have a4 := hcell (k := 4) (v := .int .i64 a.y) hA rfl
  have a5 := hcell (k := 5) (v := .int .i64 (offD Y a.y)) hA rfl
  have b4 := hcell (k := 4) (v := .int .i64 b.y) hC rfl
  have b5 := hcell (k := 5) (v := .int .i64 (offD Y b.y)) hC rfl
  clear hA hC
  go_enter Tryz.func18, Tryz.ntmps18
  go_upto_region 1 with fail
  rw [← hW1, ← hS0]
  clear hW1 hS0
  have HL : Hid (L = (decide (offD Y a.y < offD Y b.y) || decide (offD Y a.y = offD Y b.y) && decide (a.y < b.y))) := hL.out
  clear hL
  generalize offD Y a.y = OA at a5 HL ⊢
  generalize offD Y b.y = OB at b5 HL ⊢
  generalize a.y = ay at a4 HL ⊢
  generalize b.y = bY at b4 HL ⊢
  by_cases h1 : OA < OB
  case pos =>
    have hd : decide (OA < OB) = true := by simp [h1]
    have HE : Hid (L = true) := by show _ = _; rw [HL.out, hd, Bool.true_or]
    clear HL hd
    go_wp2
    go_ret
    exact ⟨ret_eqb HE.out, hB⟩
  have hd : decide (OA < OB) = false := by simp [h1]
  by_cases h2 : OA = OB
  case neg =>
    have hd2 : (OA == OB) = false := by simp [h2]
    have HE : Hid (L = false) := by show _ = _; rw [HL.out, hd, decide_eq_false h2]; rfl
    clear HL hd
    go_wp2
    go_ret
    exact ⟨ret_eqb HE.out, hB⟩
  have hd2 : (OA == OB) = true := by simp [h2]
  by_cases h3 : ay < bY
  case pos =>
    have HE : Hid (L = true) := by show _ = _; rw [HL.out, hd, decide_eq_true h2, decide_eq_true h3]; rfl
    clear HL hd h2
    go_wp2
    go_ret
    exact ⟨ret_eqb HE.out, hB⟩
  have HE : Hid (L = false) := by show _ = _; rw [HL.out, hd, decide_eq_true h2, decide_eq_false h3]; rfl
  clear HL hd h2
  go_wp2
  go_ret
  exact ⟨ret_eqb HE.out, hB⟩
/-- The best one's cells. -/
def bsA (x z Y : Int) (o : Option Fd) : Array Value := match o with
  | none => #[.int .i64 0, .int .i64 0, .int .i64 0, .int .i64 0, .int .i64 0, .int .i64 0]
  | some d => fdA x z Y d
/-- What nearest tells. -/
def NrPost (x z Y : Int) (o : Option Fd) (w : World) (e : Ending) (w' : World) : Prop := e = .returned (.tuple #[.agg (bsA x z Y o), .bool o.isSome]) ∧ Below w.heap.size w w'
abbrev lessV : Value := .func (.func 18) #[] #[]
set_option maxRecDepth 100000 in
set_option maxHeartbeats 8000000 in
theorem hpnear_any (x z Y : Int) (va : Option Addr) (m vc : Nat) (ds : List Fd) (w : World) (hs : SlR (fdC x z Y) 6 w va m vc ds) :
    Calls Tryz.prog 16 #[.slice va m vc, lessV] w (NrPost x z Y (nrL Y ds) w) := by
  have Hl := Lib.hid hs.len
  have hmax := hs.max
  have hle := hs.le
  have HX := Lib.hid (fun W (hb : Below w.heap.size w W) => hs.below hb (Nat.le_refl _))
  clear hs
  have LS := Lib.hid (fun a b W => hpless_any x z Y a b W)
  dsimp only [fdA] at LS
  have hB : Below w.heap.size w (w.alloc (.cells #[.int .i64 0, .int .i64 0, .int .i64 0, .int .i64 0, .int .i64 0, .int .i64 0] 63 (0, 0))) := (Below.refl _ _).alloc (Nat.le_refl _) _
  have hC := World.alloc_heap_new w (.cells #[.int .i64 0, .int .i64 0, .int .i64 0, .int .i64 0, .int .i64 0, .int .i64 0] 63 (0, 0))
  obtain ⟨W1, hW1⟩ : ∃ W, W = w.alloc (.cells #[.int .i64 0, .int .i64 0, .int .i64 0, .int .i64 0, .int .i64 0, .int .i64 0] 63 (0, 0)) := ⟨_, rfl⟩
  obtain ⟨S0, hS0⟩ : ∃ S, S = w.heap.size := ⟨_, rfl⟩
  rw [← hW1] at hB hC
  rw [← hS0] at hC
  have hwS : w.heap.size ≤ S0 := by omega
  go_enter Tryz.func16, Tryz.ntmps16
  go_upto_region 1 with fail
  rw [← hW1, ← hS0]
  clear hW1 hS0
  go_wp2_with fail
  go_loopw [5, 10] (fun s5 s10 wr => ∃ (k : Nat) (o : Option Fd), s5 = .bool o.isSome ∧ s10 = .int .i64 k ∧ k ≤ m ∧ Hid (o = nrL Y (ds.take k)) ∧ Below w.heap.size w wr ∧ wr.heap[S0]? = some (.cells (bsA x z Y o) 63 (0, 0))) (fun _ s10 _ => m - (intOf s10).toNat)
  case atStart => exact ⟨0, none, rfl, rfl, Nat.zero_le _, rfl, hB, hC⟩
  case round =>
    clear hB hC
    obtain ⟨k, o, rfl, rfl, hk, HO, hB, hC⟩ := hrel
    by_cases hkm : k < m
    case neg =>
      obtain rfl : k = m := by omega
      have hK : ¬ (k : Int) < (k : Int) := by omega
      have HO2 : Hid (nrL Y ds = o) := by show _ = _; rw [HO.out, List.take_of_length_le (by rw [Hl.out]; exact Nat.le_refl _)]
      cases o with
      | none =>
        dsimp only [bsA, Option.isSome] at hC ⊢
        have c0 := hcell (k := 0) (v := .int .i64 0) hC rfl
        have c1 := hcell (k := 1) (v := .int .i64 0) hC rfl
        have c2 := hcell (k := 2) (v := .int .i64 0) hC rfl
        have c3 := hcell (k := 3) (v := .int .i64 0) hC rfl
        have c4 := hcell (k := 4) (v := .int .i64 0) hC rfl
        have c5 := hcell (k := 5) (v := .int .i64 0) hC rfl
        have f0 := hfroz (k := 0) hC
        have f1 := hfroz (k := 1) hC
        have f2 := hfroz (k := 2) hC
        have f3 := hfroz (k := 3) hC
        have f4 := hfroz (k := 4) hC
        have f5 := hfroz (k := 5) hC
        have hC2 := hbox6_set hC (.int .i64 0) (.int .i64 0) (.int .i64 0) (.int .i64 0) (.int .i64 0) (.int .i64 0)
        clear hC
        go_wp2
        refine bodyPost_ret (results_c1t rfl _ _ S0 63 #[.int .i64 0, .int .i64 0, .int .i64 0, .int .i64 0, .int .i64 0, .int .i64 0] (0, 0) _ rfl hC2 Tryz.underlying63 rfl (by kernel_rfl)) rfl ?_
        rw [HO2.out]
        exact And.intro rfl (hB.grown (hbox6_grown (.int .i64 0) (.int .i64 0) (.int .i64 0) (.int .i64 0) (.int .i64 0) (.int .i64 0)) hB.size (fun j hj => by cases hj; omega))
      | some d =>
        dsimp only [bsA, fdA, Option.isSome] at hC ⊢
        have c0 := hcell (k := 0) (v := .int .i64 (d.i : Int)) hC rfl
        have c1 := hcell (k := 1) (v := .int .i64 (d.k : Int)) hC rfl
        have c2 := hcell (k := 2) (v := .int .i64 x) hC rfl
        have c3 := hcell (k := 3) (v := .int .i64 z) hC rfl
        have c4 := hcell (k := 4) (v := .int .i64 d.y) hC rfl
        have c5 := hcell (k := 5) (v := .int .i64 (offD Y d.y)) hC rfl
        have f0 := hfroz (k := 0) hC
        have f1 := hfroz (k := 1) hC
        have f2 := hfroz (k := 2) hC
        have f3 := hfroz (k := 3) hC
        have f4 := hfroz (k := 4) hC
        have f5 := hfroz (k := 5) hC
        have hC2 := hbox6_set hC (.int .i64 (d.i : Int)) (.int .i64 (d.k : Int)) (.int .i64 x) (.int .i64 z) (.int .i64 d.y) (.int .i64 (offD Y d.y))
        clear hC
        go_wp2
        refine bodyPost_ret (results_c1t rfl _ _ S0 63 #[.int .i64 (d.i : Int), .int .i64 (d.k : Int), .int .i64 x, .int .i64 z, .int .i64 d.y, .int .i64 (offD Y d.y)] (0, 0) _ rfl hC2 Tryz.underlying63 rfl (by kernel_rfl)) rfl ?_
        rw [HO2.out]
        exact And.intro rfl (hB.grown (hbox6_grown (.int .i64 (d.i : Int)) (.int .i64 (d.k : Int)) (.int .i64 x) (.int .i64 z) (.int .i64 d.y) (.int .i64 (offD Y d.y))) hB.size (fun j hj => by cases hj; omega))
    have hK : (k : Int) < (m : Int) := by omega
    have wk1 : IntKind.i64.wrap ((k : Int) + 1) = ((k + 1 : Nat) : Int) := by rw [IntKind.wrap_i64]; omega
    obtain ⟨d, hdk⟩ : ∃ d, ds[k]? = some d := ⟨_, List.getElem?_eq_getElem (by rw [Hl.out]; exact hkm)⟩
    have hX := HX.out _ hB
    obtain ⟨G, off, rfl, _, _⟩ := hX.at0 (by omega)
    have r0 := SlR.cells hX hdk 0 _ rfl
    have r1 := SlR.cells hX hdk 1 _ rfl
    have r2 := SlR.cells hX hdk 2 _ rfl
    have r3 := SlR.cells hX hdk 3 _ rfl
    have r4 := SlR.cells hX hdk 4 _ rfl
    have r5 := SlR.cells hX hdk 5 _ rfl
    simp only [Nat.add_zero] at r0
    have hA : Below wr.heap.size wr (wr.alloc (.cells #[.int .i64 (d.i : Int), .int .i64 (d.k : Int), .int .i64 x, .int .i64 z, .int .i64 d.y, .int .i64 (offD Y d.y)] 63 (0, 0))) := (Below.refl _ _).alloc (Nat.le_refl _) _
    have hN := World.alloc_heap_new wr (.cells #[.int .i64 (d.i : Int), .int .i64 (d.k : Int), .int .i64 x, .int .i64 z, .int .i64 d.y, .int .i64 (offD Y d.y)] 63 (0, 0))
    have hB2 := hB.trans (hA.mono hB.size)
    have hC2 := hkeep hA hC
    have hTS : S0 ≠ wr.heap.size := by have := hblt hC; omega
    obtain ⟨W2, hW2⟩ : ∃ W, W = wr.alloc (.cells #[.int .i64 (d.i : Int), .int .i64 (d.k : Int), .int .i64 x, .int .i64 z, .int .i64 d.y, .int .i64 (offD Y d.y)] 63 (0, 0)) := ⟨_, rfl⟩
    obtain ⟨T2, hT2⟩ : ∃ T, T = wr.heap.size := ⟨_, rfl⟩
    rw [← hW2] at hN hB2 hC2
    rw [← hT2] at hN hTS
    have HST := Lib.hid (nrL_take Y hdk)
    clear hA hB hC hX hdk
    go_upto_region 4 with fail
    rw [← hW2, ← hT2]
    clear hW2 hT2 r0 r1 r2 r3 r4 r5
    rw [← HO.out] at HST
    cases o with
    | none =>
      have hk0 : k = 0 := by
        rcases nrL_first (y0 := Y) (ds.take k) with ⟨_, h⟩ | ⟨b, h, _⟩
        · have := congrArg List.length h
          rw [List.length_take, Hl.out, List.length_nil] at this
          omega
        · have e := HO.out
          rw [h] at e
          cases e
      subst hk0
      have hz : ((((0 : Nat) : Int)) == (0 : Int)) = true := rfl
      have HST2 : Hid (some d = nrL Y (ds.take (0 + 1))) := HST.out.symm
      dsimp only [bsA] at hC2
      have n0 := hcell (k := 0) (v := .int .i64 (d.i : Int)) hN rfl
      have n1 := hcell (k := 1) (v := .int .i64 (d.k : Int)) hN rfl
      have n2 := hcell (k := 2) (v := .int .i64 x) hN rfl
      have n3 := hcell (k := 3) (v := .int .i64 z) hN rfl
      have n4 := hcell (k := 4) (v := .int .i64 d.y) hN rfl
      have n5 := hcell (k := 5) (v := .int .i64 (offD Y d.y)) hN rfl
      have x0 := hcell (k := 0) (v := .int .i64 0) hC2 rfl
      have x1 := hcell (k := 1) (v := .int .i64 0) hC2 rfl
      have x2 := hcell (k := 2) (v := .int .i64 0) hC2 rfl
      have x3 := hcell (k := 3) (v := .int .i64 0) hC2 rfl
      have x4 := hcell (k := 4) (v := .int .i64 0) hC2 rfl
      have x5 := hcell (k := 5) (v := .int .i64 0) hC2 rfl
      have f0 := hfroz (k := 0) hC2
      have f1 := hfroz (k := 1) hC2
      have f2 := hfroz (k := 2) hC2
      have f3 := hfroz (k := 3) hC2
      have f4 := hfroz (k := 4) hC2
      have f5 := hfroz (k := 5) hC2
      have hC5 := hbox6_set hC2 (.int .i64 (d.i : Int)) (.int .i64 (d.k : Int)) (.int .i64 x) (.int .i64 z) (.int .i64 d.y) (.int .i64 (offD Y d.y))
      have hB5 := hB2.grown (hbox6_grown (w := W2) (b := S0) (.int .i64 (d.i : Int)) (.int .i64 (d.k : Int)) (.int .i64 x) (.int .i64 z) (.int .i64 d.y) (.int .i64 (offD Y d.y))) hB2.size (fun j hj => by cases hj; omega)
      clear hC2 hB2 hN
      go_wp2
      go_roundw
      case rel => exact ⟨0 + 1, some d, rfl, by go_num, by omega, HST2, hB5, hC5⟩
      case measure => simp [intOf]; omega
    | some b =>
      have hk0 : ¬ k = 0 := by
        intro h
        subst h
        have e := HO.out
        cases e
      have hz : ((k : Int) == (0 : Int)) = false := by simp; omega
      dsimp only [bsA, fdA] at hC2
      have n0 := hcell (k := 0) (v := .int .i64 (d.i : Int)) hN rfl
      have n1 := hcell (k := 1) (v := .int .i64 (d.k : Int)) hN rfl
      have n2 := hcell (k := 2) (v := .int .i64 x) hN rfl
      have n3 := hcell (k := 3) (v := .int .i64 z) hN rfl
      have n4 := hcell (k := 4) (v := .int .i64 d.y) hN rfl
      have n5 := hcell (k := 5) (v := .int .i64 (offD Y d.y)) hN rfl
      have p0 := hcell (k := 0) (v := .int .i64 (b.i : Int)) hC2 rfl
      have p1 := hcell (k := 1) (v := .int .i64 (b.k : Int)) hC2 rfl
      have p2 := hcell (k := 2) (v := .int .i64 x) hC2 rfl
      have p3 := hcell (k := 3) (v := .int .i64 z) hC2 rfl
      have p4 := hcell (k := 4) (v := .int .i64 b.y) hC2 rfl
      have p5 := hcell (k := 5) (v := .int .i64 (offD Y b.y)) hC2 rfl
      go_wp2_with fail
      refine (LS.out d b _).mono ?_
      rintro e w3 ⟨rfl, hb3⟩
      have hN3 := hkeep hb3 hN
      have hC3 := hkeep hb3 hC2
      have hB3 := hB2.trans (hb3.mono hB2.size)
      clear hN hC2 hB2 hb3 n0 n1 n2 n3 n4 n5 p0 p1 p2 p3 p4 p5
      cases hl : lessD Y d b with
      | false =>
        have HST2 : Hid (some b = nrL Y (ds.take (k + 1))) := by
          have e := HST.out
          unfold nrS at e
          dsimp only at e
          rw [hl] at e
          exact e.symm
        clear hl
        go_wp2
        go_roundw
        case rel => exact ⟨k + 1, some b, rfl, by go_num, by omega, HST2, hB3, hC3⟩
        case measure => simp [intOf]; omega
      | true =>
        have HST2 : Hid (some d = nrL Y (ds.take (k + 1))) := by
          have e := HST.out
          unfold nrS at e
          dsimp only at e
          rw [hl] at e
          exact e.symm
        clear hl
        have n0 := hcell (k := 0) (v := .int .i64 (d.i : Int)) hN3 rfl
        have n1 := hcell (k := 1) (v := .int .i64 (d.k : Int)) hN3 rfl
        have n2 := hcell (k := 2) (v := .int .i64 x) hN3 rfl
        have n3 := hcell (k := 3) (v := .int .i64 z) hN3 rfl
        have n4 := hcell (k := 4) (v := .int .i64 d.y) hN3 rfl
        have n5 := hcell (k := 5) (v := .int .i64 (offD Y d.y)) hN3 rfl
        have x0 := hcell (k := 0) (v := .int .i64 (b.i : Int)) hC3 rfl
        have x1 := hcell (k := 1) (v := .int .i64 (b.k : Int)) hC3 rfl
        have x2 := hcell (k := 2) (v := .int .i64 x) hC3 rfl
        have x3 := hcell (k := 3) (v := .int .i64 z) hC3 rfl
        have x4 := hcell (k := 4) (v := .int .i64 b.y) hC3 rfl
        have x5 := hcell (k := 5) (v := .int .i64 (offD Y b.y)) hC3 rfl
        have f0 := hfroz (k := 0) hC3
        have f1 := hfroz (k := 1) hC3
        have f2 := hfroz (k := 2) hC3
        have f3 := hfroz (k := 3) hC3
        have f4 := hfroz (k := 4) hC3
        have f5 := hfroz (k := 5) hC3
        have hC5 := hbox6_set hC3 (.int .i64 (d.i : Int)) (.int .i64 (d.k : Int)) (.int .i64 x) (.int .i64 z) (.int .i64 d.y) (.int .i64 (offD Y d.y))
        have hB5 := hB3.grown (hbox6_grown (w := w3) (b := S0) (.int .i64 (d.i : Int)) (.int .i64 (d.k : Int)) (.int .i64 x) (.int .i64 z) (.int .i64 d.y) (.int .i64 (offD Y d.y))) hB3.size (fun j hj => by cases hj; omega)
        clear hC3 hB3 hN3
        go_wp2
        go_roundw
        case rel => exact ⟨k + 1, some d, rfl, by go_num, by omega, HST2, hB5, hC5⟩
        case measure => simp [intOf]; omega
end Go.Proofs.YtmgkkmcihplojaaGreat
