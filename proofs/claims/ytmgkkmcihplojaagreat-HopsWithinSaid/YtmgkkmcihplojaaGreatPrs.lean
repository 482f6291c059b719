/- Walks: doors.pairs. -/
import Derived.Test.YtmgkkmcihplojaaGreatRctC
import Derived.Test.YtmgkkmcihplojaaGreatKa
import Derived.Test.YtmgkkmcihplojaaGreatGh
namespace Go.Proofs.YtmgkkmcihplojaaGreat
open Go.RowKit Go.Sort
attribute [local go_sem] Instr.index

def sideF (up : Bool) : FuncId := if up then 92 else 91
/-- What pairs has laid. -/
structure PrsIn (pf pt pa ps pc p5 p6 : Nat) (cf : Cfg) (ha : RHd) (a : Rc) (hb : RHd) (b : Rc) (up : Bool) (w : World) : Prop where
  f : w.heap[pf]? = some (.cells #[.int .i64 (prFrom a b up)] 3 (0, 0))
  t : w.heap[pt]? = some (.cells #[.int .i64 (prTo a b up)] 3 (0, 0))
  x : w.heap[pa]? = some (.cells #[.bool (prAcross a b up)] 4 (0, 0))
  s : w.heap[ps]? = some (.cells #[.func (.func (sideF up)) #[] #[.pointer (some ⟨p5, 0, none⟩), .pointer (some ⟨p6, 0, none⟩)]] 173 (0, 0))
  c : w.heap[pc]? = some (cfO cf)
  ra : w.heap[p5]? = some (rcO ha a)
  rb : w.heap[p6]? = some (rcO hb b)
  sa : RcSl w ha a
  sb : RcSl w hb b
theorem PrsIn.below {pf pt pa ps pc p5 p6 : Nat} {cf : Cfg} {ha : RHd} {a : Rc} {hb : RHd} {b : Rc} {up : Bool} {w w' : World} (h : PrsIn pf pt pa ps pc p5 p6 cf ha a hb b up w) (hB : Below w.heap.size w w') : PrsIn pf pt pa ps pc p5 p6 cf ha a hb b up w' :=
  ⟨hkeep hB h.f, hkeep hB h.t, hkeep hB h.x, hkeep hB h.s, hkeep hB h.c, hkeep hB h.ra, hkeep hB h.rb, h.sa.below hB (Nat.le_refl _), h.sb.below hB (Nat.le_refl _)⟩
def PrsAt (H : Nat) (cf : Cfg) (ha : RHd) (a : Rc) (hb : RHd) (b : Rc) (up : Bool) (s : Value) (w : World) : Prop :=
  ∃ pf pt pa ps pc p5 p6 : Nat, s = .func (.func 93) #[] #[.pointer (some ⟨pf, 0, none⟩), .pointer (some ⟨pt, 0, none⟩), .pointer (some ⟨pa, 0, none⟩), .pointer (some ⟨ps, 0, none⟩), .pointer (some ⟨pc, 0, none⟩)] ∧ (H ≤ pf ∧ H ≤ pt ∧ H ≤ pa ∧ H ≤ ps ∧ H ≤ pc ∧ H ≤ p5 ∧ H ≤ p6) ∧ PrsIn pf pt pa ps pc p5 p6 cf ha a hb b up w
theorem PrsAt.below {H : Nat} {cf : Cfg} {ha : RHd} {a : Rc} {hb : RHd} {b : Rc} {up : Bool} {s : Value} {w w' : World} (h : PrsAt H cf ha a hb b up s w) (hB : Below w.heap.size w w') : PrsAt H cf ha a hb b up s w' := by
  obtain ⟨pf, pt, pa, ps, pc, p5, p6, e, hh, hi⟩ := h
  exact ⟨pf, pt, pa, ps, pc, p5, p6, e, hh, hi.below hB⟩
@[local go_sem] theorem run_store_func2 (P : Program) (w : World) (a : Addr) (f : Fn) (x y : Array Value) (m : Mode) :
    (store a (.func f x y) m).run P w = match w.cell? a with
      | some _ => if w.frozen? a then .halt (.unsupported (.unsafePointer "a write to bytes that a string shares")) w else .ok () (w.setCell a (.func f x y))
      | none => match w.farStore P a (.func f x y) (m == .atomic) with
        | .ok (w', _) => .ok () w'
        | .error h => .halt h w := run_store P w a _ m rfl
theorem max_if (x y : Int) : (if x < y then y else x) = max x y := by split <;> omega
theorem min_if (x y : Int) : (if y < x then y else x) = min x y := by split <;> omega
def PrA (T : Nat) (cl climb height rise run cw cd : Int) (ax0 az0 ax1 az1 aar bx0 bz0 bx1 bz1 bar : Int) (aya ata bya bta : Option Addr) (ayn ayc atn atc byn byc btn btc : Nat) (w1 : World) (F : Value → Value → Value → Value → Value → Value → Value → Value → Value → Value → Value → Value → Value → Value → Value → Value → Value → Value → Value → Array Value) (D : List Deferred) (L : Array Bool) (a : Act) (w : World) : Prop :=
  ∃ (s0 s1 s2 s3 s4 s5 s6 s7 s8 s9 s10 s11 s12 s13 s14 s15 s16 s17 s18 : Value) (p16 p17 p18 : Nat), a = { tmps := F s0 s1 s2 s3 s4 s5 s6 s7 s8 s9 s10 s11 s12 s13 s14 s15 s16 s17 s18, defers := D } ∧
    Below w1.heap.size w1 w ∧
    w.heap[T]? = some (.cells #[.int .i64 cl, .int .i64 climb, .int .i64 height, .int .i64 rise, .int .i64 run, .int .i64 cw, .int .i64 cd] 23 (0, 0)) ∧
    w.heap[T + 1]? = some (.cells #[.int .i64 ax0, .int .i64 az0, .int .i64 ax1, .int .i64 az1, .int .i64 aar, .slice aya ayn ayc, .slice ata atn atc] 55 (0, 0)) ∧
    w.heap[T + 2]? = some (.cells #[.int .i64 bx0, .int .i64 bz0, .int .i64 bx1, .int .i64 bz1, .int .i64 bar, .slice bya byn byc, .slice bta btn btc] 55 (0, 0)) ∧
    (L.getD 0 false = true → s0 = .pointer (some ⟨T + 1, 3, none⟩)) ∧
    (L.getD 1 false = true → s1 = .int .i64 az1) ∧
    (L.getD 2 false = true → s2 = .int .i64 (az1 + 1)) ∧
    (L.getD 3 false = true → s3 = .pointer (some ⟨T + 2, 1, none⟩)) ∧
    (L.getD 4 false = true → s4 = .int .i64 bz0) ∧
    (L.getD 5 false = true → s5 = .bool (az1 + 1 == bz0)) ∧
    (L.getD 6 false = true → s6 = .pointer (some ⟨T + 1, 0, none⟩)) ∧
    (L.getD 7 false = true → s7 = .int .i64 ax0) ∧
    (L.getD 8 false = true → s8 = .pointer (some ⟨T + 2, 0, none⟩)) ∧
    (L.getD 9 false = true → s9 = .int .i64 bx0) ∧
    (L.getD 10 false = true → s10 = .int .i64 (if ax0 < bx0 then bx0 else ax0)) ∧
    (L.getD 11 false = true → s11 = .pointer (some ⟨T + 1, 2, none⟩)) ∧
    (L.getD 12 false = true → s12 = .int .i64 ax1) ∧
    (L.getD 13 false = true → s13 = .pointer (some ⟨T + 2, 2, none⟩)) ∧
    (L.getD 14 false = true → s14 = .int .i64 bx1) ∧
    (L.getD 15 false = true → s15 = .int .i64 (if bx1 < ax1 then bx1 else ax1)) ∧
    (L.getD 16 false = true → s16 = .pointer (some ⟨p16, 0, none⟩) ∧ w1.heap.size ≤ p16 ∧ w.heap[p16]? = some (.cells (if L.getD 19 false = true then #[.bool (az1 + 1 == bz0)] else #[.bool false]) 4 (0, 0))) ∧
    (L.getD 17 false = true → s17 = .pointer (some ⟨p17, 0, none⟩) ∧ w1.heap.size ≤ p17 ∧ w.heap[p17]? = some (.cells (if L.getD 20 false = true then #[.int .i64 (if ax0 < bx0 then bx0 else ax0)] else #[.int .i64 0]) 3 (0, 0))) ∧
    (L.getD 18 false = true → s18 = .pointer (some ⟨p18, 0, none⟩) ∧ w1.heap.size ≤ p18 ∧ w.heap[p18]? = some (.cells (if L.getD 21 false = true then #[.int .i64 (if bx1 < ax1 then bx1 else ax1)] else #[.int .i64 0]) 3 (0, 0))) ∧
    (L.getD 16 false = true → L.getD 17 false = true → p16 ≠ p17) ∧
    (L.getD 16 false = true → L.getD 18 false = true → p16 ≠ p18) ∧
    (L.getD 17 false = true → L.getD 18 false = true → p17 ≠ p18) ∧
    (L.getD 19 false = true → L.getD 16 false = true) ∧
    (L.getD 20 false = true → L.getD 17 false = true) ∧
    (L.getD 21 false = true → L.getD 18 false = true)
def PrB (T : Nat) (cl climb height rise run cw cd : Int) (ax0 az0 ax1 az1 aar bx0 bz0 bx1 bz1 bar : Int) (aya ata bya bta : Option Addr) (ayn ayc atn atc byn byc btn btc : Nat) (p16 p17 p18 ps : Nat) (H : Nat) (w1 : World) (F : Value → Value → Value → Value → Value → Value → Value → Value → Value → Value → Value → Value → Value → Value → Value → Value → Array Value) (D : List Deferred) (L : Array Bool) (a : Act) (w : World) : Prop :=
  ∃ (s0 s1 s2 s3 s4 s5 s6 s7 s8 s9 s10 s11 s12 s13 s14 s15 : Value), a = { tmps := F s0 s1 s2 s3 s4 s5 s6 s7 s8 s9 s10 s11 s12 s13 s14 s15, defers := D } ∧
    Below H w1 w ∧
    w.heap[T]? = some (.cells #[.int .i64 cl, .int .i64 climb, .int .i64 height, .int .i64 rise, .int .i64 run, .int .i64 cw, .int .i64 cd] 23 (0, 0)) ∧
    w.heap[T + 1]? = some (.cells #[.int .i64 ax0, .int .i64 az0, .int .i64 ax1, .int .i64 az1, .int .i64 aar, .slice aya ayn ayc, .slice ata atn atc] 55 (0, 0)) ∧
    w.heap[T + 2]? = some (.cells #[.int .i64 bx0, .int .i64 bz0, .int .i64 bx1, .int .i64 bz1, .int .i64 bar, .slice bya byn byc, .slice bta btn btc] 55 (0, 0)) ∧
    w.heap[ps]? = some (.cells #[.func (.func 91) #[] #[.pointer (some ⟨T + 1, 0, none⟩), .pointer (some ⟨T + 2, 0, none⟩)]] 173 (0, 0)) ∧
    w.heap[p16]? = some (.cells (if L.getD 16 false = true then #[.bool (ax1 + 1 == bx0)] else #[.bool (az1 + 1 == bz0)]) 4 (0, 0)) ∧
    w.heap[p17]? = some (.cells (if L.getD 17 false = true then #[.int .i64 (if az0 < bz0 then bz0 else az0)] else #[.int .i64 (max ax0 bx0)]) 3 (0, 0)) ∧
    w.heap[p18]? = some (.cells (if L.getD 18 false = true then #[.int .i64 (if bz1 < az1 then bz1 else az1)] else #[.int .i64 (min ax1 bx1)]) 3 (0, 0)) ∧
    (L.getD 0 false = true → s0 = .pointer (some ⟨T + 1, 2, none⟩)) ∧
    (L.getD 1 false = true → s1 = .int .i64 ax1) ∧
    (L.getD 2 false = true → s2 = .int .i64 (ax1 + 1)) ∧
    (L.getD 3 false = true → s3 = .pointer (some ⟨T + 2, 0, none⟩)) ∧
    (L.getD 4 false = true → s4 = .int .i64 bx0) ∧
    (L.getD 5 false = true → s5 = .bool (ax1 + 1 == bx0)) ∧
    (L.getD 6 false = true → s6 = .pointer (some ⟨T + 1, 1, none⟩)) ∧
    (L.getD 7 false = true → s7 = .int .i64 az0) ∧
    (L.getD 8 false = true → s8 = .pointer (some ⟨T + 2, 1, none⟩)) ∧
    (L.getD 9 false = true → s9 = .int .i64 bz0) ∧
    (L.getD 10 false = true → s10 = .int .i64 (if az0 < bz0 then bz0 else az0)) ∧
    (L.getD 11 false = true → s11 = .pointer (some ⟨T + 1, 3, none⟩)) ∧
    (L.getD 12 false = true → s12 = .int .i64 az1) ∧
    (L.getD 13 false = true → s13 = .pointer (some ⟨T + 2, 3, none⟩)) ∧
    (L.getD 14 false = true → s14 = .int .i64 bz1) ∧
    (L.getD 15 false = true → s15 = .int .i64 (if bz1 < az1 then bz1 else az1))
set_option maxRecDepth 100000 in
set_option maxHeartbeats 16000000 in
theorem prs_any (cf : Cfg) (ha : RHd) (a : Rc) (hb : RHd) (b : Rc) (up : Bool) (w : World) (hs : RcSl w ha a) (ht : RcSl w hb b) (hda : rcBd a = true) (hdb : rcBd b = true) :
    Calls Tryz.prog 84 #[cfgV cf, rcV ha a, rcV hb b, .bool up] w fun e w' => ∃ s, e = .returned s ∧ PrsAt w.heap.size cf ha a hb b up s w' ∧ Below w.heap.size w w' := by
  obtain ⟨W1, hW1⟩ : ∃ W, W = ((w.alloc (cfO cf)).alloc (rcO ha a)).alloc (rcO hb b) := ⟨_, rfl⟩
  have hC := halloc (halloc (World.alloc_heap_new w (cfO cf)) (rcO ha a)) (rcO hb b)
  have hA := halloc (World.alloc_heap_new (w.alloc (cfO cf)) (rcO ha a)) (rcO hb b)
  have hBB := World.alloc_heap_new ((w.alloc (cfO cf)).alloc (rcO ha a)) (rcO hb b)
  have hB : Below w.heap.size w (((w.alloc (cfO cf)).alloc (rcO ha a)).alloc (rcO hb b)) := (((Below.refl _ _).alloc (Nat.le_refl _) _).alloc (by simp) _).alloc (by simp; omega) _
  simp only [World.size_alloc] at hA hBB
  rw [← hW1] at hC hA hBB hB
  have HS := Lib.hid (fun W' (hb' : Below w.heap.size w W') => And.intro (hs.below hb' (Nat.le_refl _)) (ht.below hb' (Nat.le_refl _)))
  clear hs ht
  obtain ⟨T, hTT⟩ : ∃ T, T = w.heap.size := ⟨_, rfl⟩
  rw [← hTT] at hC hA hBB
  have hT0 : w.heap.size ≤ T := by omega
  have HTT := Lib.hid hTT
  clear hTT
  obtain ⟨k1, k2, k3, k4, k5, k6, _, _⟩ := rcBd_iff.1 hda
  obtain ⟨j1, j2, j3, j4, j5, j6, _, _⟩ := rcBd_iff.1 hdb
  clear hda hdb
  have HF := Lib.hid (show prFrom a b false = max a.x0 b.x0 ∧ prTo a b false = min a.x1 b.x1 ∧ prAcross a b false = decide (a.z1 + 1 = b.z0) from ⟨rfl, rfl, rfl⟩)
  have HT := Lib.hid (show prFrom a b true = max a.z0 b.z0 ∧ prTo a b true = min a.z1 b.z1 ∧ prAcross a b true = decide (a.x1 + 1 = b.x0) from ⟨rfl, rfl, rfl⟩)
  obtain ⟨ax0, az0, ax1, az1, aar, ays, ats⟩ := a
  obtain ⟨bx0, bz0, bx1, bz1, bar, bys, bts⟩ := b
  obtain ⟨aya, ayc, ata, atc⟩ := ha
  obtain ⟨bya, byc, bta, btc⟩ := hb
  obtain ⟨cl, climb, height, rise, run, cw, cd⟩ := cf
  dsimp only [cfO, rcO, rcV, cfgV] at hC hA hBB hB hW1 k1 k2 k3 k4 k5 k6 j1 j2 j3 j4 j5 j6 HF HT ⊢
  obtain ⟨ayn, hayn⟩ : ∃ n, n = ays.length := ⟨_, rfl⟩
  obtain ⟨atn, hatn⟩ : ∃ n, n = ats.length := ⟨_, rfl⟩
  obtain ⟨byn, hbyn⟩ : ∃ n, n = bys.length := ⟨_, rfl⟩
  obtain ⟨btn, hbtn⟩ : ∃ n, n = bts.length := ⟨_, rfl⟩
  have HL := Lib.hid (And.intro (And.intro hayn hatn) (And.intro hbyn hbtn))
  rw [← hayn, ← hatn, ← hbyn, ← hbtn] at hW1
  rw [← hayn, ← hatn] at hA
  rw [← hbyn, ← hbtn] at hBB
  rw [← hayn, ← hatn, ← hbyn, ← hbtn]
  clear hayn hatn hbyn hbtn
  have q1 : IntKind.i64.wrap (az1 + 1) = az1 + 1 := by rw [IntKind.wrap_i64]; omega
  have q2 : IntKind.i64.wrap (ax1 + 1) = ax1 + 1 := by rw [IntKind.wrap_i64]; omega
  have hTl := hblt hBB
  have hB0 := hB
  clear hB
  go_enter Tryz.func84, Tryz.ntmps84
  go_upto_region 1 with fail
  rw [← hW1, ← HTT.out]
  clear hW1
  refine wp_region_inv (PrA T cl climb height rise run cw cd ax0 az0 ax1 az1 aar bx0 bz0 bx1 bz1 bar aya ata bya bta ayn ayc atn atc byn byc btn btc W1 (fun s0 s1 s2 s3 s4 s5 s6 s7 s8 s9 s10 s11 s12 s13 s14 s15 s16 s17 s18 => #[Value.agg #[Value.int IntKind.i64 cl, Value.int IntKind.i64 climb, Value.int IntKind.i64 height, Value.int IntKind.i64 rise, Value.int IntKind.i64 run, Value.int IntKind.i64 cw, Value.int IntKind.i64 cd], Value.agg #[Value.int IntKind.i64 ax0, Value.int IntKind.i64 az0, Value.int IntKind.i64 ax1, Value.int IntKind.i64 az1, Value.int IntKind.i64 aar, Value.slice aya ayn ayc, Value.slice ata atn atc], Value.agg #[Value.int IntKind.i64 bx0, Value.int IntKind.i64 bz0, Value.int IntKind.i64 bx1, Value.int IntKind.i64 bz1, Value.int IntKind.i64 bar, Value.slice bya byn byc, Value.slice bta btn btc], Value.bool up, Value.pointer (some { block := T, off := 0 }), Value.pointer (some { block := T + 1, off := 0 }), Value.pointer (some { block := T + 1 + 1, off := 0 }), undef, Value.nilFunc, s16, s17, s18, undef, s0, s1, s2, s3, s4, s5, s6, s7, s8, s9, s10, s11, s12, s13, s14, s15, undef, undef, undef, undef, undef, undef, undef, undef, undef, undef, undef, undef, undef, undef, undef, undef, undef, undef, undef, undef]) []) (by kernel_rfl) (by kernel_rfl) ?_ ?_ ?_
  · unfold PrA
    refine ⟨_, _, _, _, _, _, _, _, _, _, _, _, _, _, _, _, _, _, _, 0, 0, 0, rfl, (Below.refl _ _).drew, hC, hA, hBB, (fun h => by cases (show false = true from h)), (fun h => by cases (show false = true from h)), (fun h => by cases (show false = true from h)), (fun h => by cases (show false = true from h)), (fun h => by cases (show false = true from h)), (fun h => by cases (show false = true from h)), (fun h => by cases (show false = true from h)), (fun h => by cases (show false = true from h)), (fun h => by cases (show false = true from h)), (fun h => by cases (show false = true from h)), (fun h => by cases (show false = true from h)), (fun h => by cases (show false = true from h)), (fun h => by cases (show false = true from h)), (fun h => by cases (show false = true from h)), (fun h => by cases (show false = true from h)), (fun h => by cases (show false = true from h)), (fun h => by cases (show false = true from h)), (fun h => by cases (show false = true from h)), (fun h => by cases (show false = true from h)), (fun h => by cases (show false = true from h)), (fun h => by cases (show false = true from h)), (fun h => by cases (show false = true from h)), (fun h => by cases (show false = true from h)), (fun h => by cases (show false = true from h)), (fun h => by cases (show false = true from h))⟩
  · intro L a wi i hs hI hi
    have hsN : L.size = 22 := hs
    have hn := ready_elim hi
    have hlt : i < 22 := by
        obtain ⟨o, ho, _⟩ := hn.2
        exact (Array.getElem?_eq_some_iff.1 ho).1
    have hi' := ready_not hi false (by rw [hs]; exact hlt)
    clear hn
    unfold PrA at hI
    obtain ⟨s0, s1, s2, s3, s4, s5, s6, s7, s8, s9, s10, s11, s12, s13, s14, s15, s16, s17, s18, p16, p17, p18, rfl, hB, hF_C, hF_A, hF_B, h0, h1, h2, h3, h4, h5, h6, h7, h8, h9, h10, h11, h12, h13, h14, h15, h16, h17, h18, hD16_17, hD16_18, hD17_18, hS16, hS17, hS18⟩ := hI
    rcases (by omega : i = 0 ∨ i = 1 ∨ i = 2 ∨ i = 3 ∨ i = 4 ∨ i = 5 ∨ i = 6 ∨ i = 7 ∨ i = 8 ∨ i = 9 ∨ i = 10 ∨ i = 11 ∨ i = 12 ∨ i = 13 ∨ i = 14 ∨ i = 15 ∨ i = 16 ∨ i = 17 ∨ i = 18 ∨ i = 19 ∨ i = 20 ∨ i = 21) with rfl | rfl | rfl | rfl | rfl | rfl | rfl | rfl | rfl | rfl | rfl | rfl | rfl | rfl | rfl | rfl | rfl | rfl | rfl | rfl | rfl | rfl
    · skip
      refine wpOp_of rfl rfl ?_
      go_simp
      unfold PrA
      exact ⟨_, _, _, _, _, _, _, _, _, _, _, _, _, _, _, _, _, _, _, p16, p17, p18, rfl, (hB), (hF_C), (hF_A), (hF_B), (fun _ => rfl), (fun h => h1 (by rwa [getD_set_ne (by decide)] at h)), (fun h => h2 (by rwa [getD_set_ne (by decide)] at h)), (fun h => h3 (by rwa [getD_set_ne (by decide)] at h)), (fun h => h4 (by rwa [getD_set_ne (by decide)] at h)), (fun h => h5 (by rwa [getD_set_ne (by decide)] at h)), (fun h => h6 (by rwa [getD_set_ne (by decide)] at h)), (fun h => h7 (by rwa [getD_set_ne (by decide)] at h)), (fun h => h8 (by rwa [getD_set_ne (by decide)] at h)), (fun h => h9 (by rwa [getD_set_ne (by decide)] at h)), (fun h => h10 (by rwa [getD_set_ne (by decide)] at h)), (fun h => h11 (by rwa [getD_set_ne (by decide)] at h)), (fun h => h12 (by rwa [getD_set_ne (by decide)] at h)), (fun h => h13 (by rwa [getD_set_ne (by decide)] at h)), (fun h => h14 (by rwa [getD_set_ne (by decide)] at h)), (fun h => h15 (by rwa [getD_set_ne (by decide)] at h)), (fun h => by rw [getD_set_ne (by decide)] at h; rw [getD_set_ne (by decide)]; exact h16 h), (fun h => by rw [getD_set_ne (by decide)] at h; rw [getD_set_ne (by decide)]; exact h17 h), (fun h => by rw [getD_set_ne (by decide)] at h; rw [getD_set_ne (by decide)]; exact h18 h), (fun h h2 => hD16_17 (by rwa [getD_set_ne (by decide)] at h) (by rwa [getD_set_ne (by decide)] at h2)), (fun h h2 => hD16_18 (by rwa [getD_set_ne (by decide)] at h) (by rwa [getD_set_ne (by decide)] at h2)), (fun h h2 => hD17_18 (by rwa [getD_set_ne (by decide)] at h) (by rwa [getD_set_ne (by decide)] at h2)), (fun h => by rw [getD_set_ne (by decide)] at h ⊢; exact hS16 h), (fun h => by rw [getD_set_ne (by decide)] at h ⊢; exact hS17 h), (fun h => by rw [getD_set_ne (by decide)] at h ⊢; exact hS18 h)⟩
    · skip
      have e0 := h0 (ready_dep hi (by kernel_rfl))
      subst e0
      have c := hcell (k := 3) (v := .int .i64 az1) hF_A rfl
      refine wpOp_of rfl rfl ?_
      go_simp
      unfold PrA
      exact ⟨_, _, _, _, _, _, _, _, _, _, _, _, _, _, _, _, _, _, _, p16, p17, p18, rfl, (hB), (hF_C), (hF_A), (hF_B), (fun h => h0 (by rwa [getD_set_ne (by decide)] at h)), (fun _ => rfl), (fun h => h2 (by rwa [getD_set_ne (by decide)] at h)), (fun h => h3 (by rwa [getD_set_ne (by decide)] at h)), (fun h => h4 (by rwa [getD_set_ne (by decide)] at h)), (fun h => h5 (by rwa [getD_set_ne (by decide)] at h)), (fun h => h6 (by rwa [getD_set_ne (by decide)] at h)), (fun h => h7 (by rwa [getD_set_ne (by decide)] at h)), (fun h => h8 (by rwa [getD_set_ne (by decide)] at h)), (fun h => h9 (by rwa [getD_set_ne (by decide)] at h)), (fun h => h10 (by rwa [getD_set_ne (by decide)] at h)), (fun h => h11 (by rwa [getD_set_ne (by decide)] at h)), (fun h => h12 (by rwa [getD_set_ne (by decide)] at h)), (fun h => h13 (by rwa [getD_set_ne (by decide)] at h)), (fun h => h14 (by rwa [getD_set_ne (by decide)] at h)), (fun h => h15 (by rwa [getD_set_ne (by decide)] at h)), (fun h => by rw [getD_set_ne (by decide)] at h; rw [getD_set_ne (by decide)]; exact h16 h), (fun h => by rw [getD_set_ne (by decide)] at h; rw [getD_set_ne (by decide)]; exact h17 h), (fun h => by rw [getD_set_ne (by decide)] at h; rw [getD_set_ne (by decide)]; exact h18 h), (fun h h2 => hD16_17 (by rwa [getD_set_ne (by decide)] at h) (by rwa [getD_set_ne (by decide)] at h2)), (fun h h2 => hD16_18 (by rwa [getD_set_ne (by decide)] at h) (by rwa [getD_set_ne (by decide)] at h2)), (fun h h2 => hD17_18 (by rwa [getD_set_ne (by decide)] at h) (by rwa [getD_set_ne (by decide)] at h2)), (fun h => by rw [getD_set_ne (by decide)] at h ⊢; exact hS16 h), (fun h => by rw [getD_set_ne (by decide)] at h ⊢; exact hS17 h), (fun h => by rw [getD_set_ne (by decide)] at h ⊢; exact hS18 h)⟩
    · skip
      have e1 := h1 (ready_dep hi (by kernel_rfl))
      subst e1
      refine wpOp_of rfl rfl ?_
      go_simp
      unfold PrA
      exact ⟨_, _, _, _, _, _, _, _, _, _, _, _, _, _, _, _, _, _, _, p16, p17, p18, rfl, (hB), (hF_C), (hF_A), (hF_B), (fun h => h0 (by rwa [getD_set_ne (by decide)] at h)), (fun h => h1 (by rwa [getD_set_ne (by decide)] at h)), (fun _ => rfl), (fun h => h3 (by rwa [getD_set_ne (by decide)] at h)), (fun h => h4 (by rwa [getD_set_ne (by decide)] at h)), (fun h => h5 (by rwa [getD_set_ne (by decide)] at h)), (fun h => h6 (by rwa [getD_set_ne (by decide)] at h)), (fun h => h7 (by rwa [getD_set_ne (by decide)] at h)), (fun h => h8 (by rwa [getD_set_ne (by decide)] at h)), (fun h => h9 (by rwa [getD_set_ne (by decide)] at h)), (fun h => h10 (by rwa [getD_set_ne (by decide)] at h)), (fun h => h11 (by rwa [getD_set_ne (by decide)] at h)), (fun h => h12 (by rwa [getD_set_ne (by decide)] at h)), (fun h => h13 (by rwa [getD_set_ne (by decide)] at h)), (fun h => h14 (by rwa [getD_set_ne (by decide)] at h)), (fun h => h15 (by rwa [getD_set_ne (by decide)] at h)), (fun h => by rw [getD_set_ne (by decide)] at h; rw [getD_set_ne (by decide)]; exact h16 h), (fun h => by rw [getD_set_ne (by decide)] at h; rw [getD_set_ne (by decide)]; exact h17 h), (fun h => by rw [getD_set_ne (by decide)] at h; rw [getD_set_ne (by decide)]; exact h18 h), (fun h h2 => hD16_17 (by rwa [getD_set_ne (by decide)] at h) (by rwa [getD_set_ne (by decide)] at h2)), (fun h h2 => hD16_18 (by rwa [getD_set_ne (by decide)] at h) (by rwa [getD_set_ne (by decide)] at h2)), (fun h h2 => hD17_18 (by rwa [getD_set_ne (by decide)] at h) (by rwa [getD_set_ne (by decide)] at h2)), (fun h => by rw [getD_set_ne (by decide)] at h ⊢; exact hS16 h), (fun h => by rw [getD_set_ne (by decide)] at h ⊢; exact hS17 h), (fun h => by rw [getD_set_ne (by decide)] at h ⊢; exact hS18 h)⟩
    · skip
      refine wpOp_of rfl rfl ?_
      go_simp
      unfold PrA
      exact ⟨_, _, _, _, _, _, _, _, _, _, _, _, _, _, _, _, _, _, _, p16, p17, p18, rfl, (hB), (hF_C), (hF_A), (hF_B), (fun h => h0 (by rwa [getD_set_ne (by decide)] at h)), (fun h => h1 (by rwa [getD_set_ne (by decide)] at h)), (fun h => h2 (by rwa [getD_set_ne (by decide)] at h)), (fun _ => rfl), (fun h => h4 (by rwa [getD_set_ne (by decide)] at h)), (fun h => h5 (by rwa [getD_set_ne (by decide)] at h)), (fun h => h6 (by rwa [getD_set_ne (by decide)] at h)), (fun h => h7 (by rwa [getD_set_ne (by decide)] at h)), (fun h => h8 (by rwa [getD_set_ne (by decide)] at h)), (fun h => h9 (by rwa [getD_set_ne (by decide)] at h)), (fun h => h10 (by rwa [getD_set_ne (by decide)] at h)), (fun h => h11 (by rwa [getD_set_ne (by decide)] at h)), (fun h => h12 (by rwa [getD_set_ne (by decide)] at h)), (fun h => h13 (by rwa [getD_set_ne (by decide)] at h)), (fun h => h14 (by rwa [getD_set_ne (by decide)] at h)), (fun h => h15 (by rwa [getD_set_ne (by decide)] at h)), (fun h => by rw [getD_set_ne (by decide)] at h; rw [getD_set_ne (by decide)]; exact h16 h), (fun h => by rw [getD_set_ne (by decide)] at h; rw [getD_set_ne (by decide)]; exact h17 h), (fun h => by rw [getD_set_ne (by decide)] at h; rw [getD_set_ne (by decide)]; exact h18 h), (fun h h2 => hD16_17 (by rwa [getD_set_ne (by decide)] at h) (by rwa [getD_set_ne (by decide)] at h2)), (fun h h2 => hD16_18 (by rwa [getD_set_ne (by decide)] at h) (by rwa [getD_set_ne (by decide)] at h2)), (fun h h2 => hD17_18 (by rwa [getD_set_ne (by decide)] at h) (by rwa [getD_set_ne (by decide)] at h2)), (fun h => by rw [getD_set_ne (by decide)] at h ⊢; exact hS16 h), (fun h => by rw [getD_set_ne (by decide)] at h ⊢; exact hS17 h), (fun h => by rw [getD_set_ne (by decide)] at h ⊢; exact hS18 h)⟩
    · skip
      have e3 := h3 (ready_dep hi (by kernel_rfl))
      subst e3
      have c := hcell (k := 1) (v := .int .i64 bz0) hF_B rfl
      refine wpOp_of rfl rfl ?_
      go_simp
      unfold PrA
      exact ⟨_, _, _, _, _, _, _, _, _, _, _, _, _, _, _, _, _, _, _, p16, p17, p18, rfl, (hB), (hF_C), (hF_A), (hF_B), (fun h => h0 (by rwa [getD_set_ne (by decide)] at h)), (fun h => h1 (by rwa [getD_set_ne (by decide)] at h)), (fun h => h2 (by rwa [getD_set_ne (by decide)] at h)), (fun h => h3 (by rwa [getD_set_ne (by decide)] at h)), (fun _ => rfl), (fun h => h5 (by rwa [getD_set_ne (by decide)] at h)), (fun h => h6 (by rwa [getD_set_ne (by decide)] at h)), (fun h => h7 (by rwa [getD_set_ne (by decide)] at h)), (fun h => h8 (by rwa [getD_set_ne (by decide)] at h)), (fun h => h9 (by rwa [getD_set_ne (by decide)] at h)), (fun h => h10 (by rwa [getD_set_ne (by decide)] at h)), (fun h => h11 (by rwa [getD_set_ne (by decide)] at h)), (fun h => h12 (by rwa [getD_set_ne (by decide)] at h)), (fun h => h13 (by rwa [getD_set_ne (by decide)] at h)), (fun h => h14 (by rwa [getD_set_ne (by decide)] at h)), (fun h => h15 (by rwa [getD_set_ne (by decide)] at h)), (fun h => by rw [getD_set_ne (by decide)] at h; rw [getD_set_ne (by decide)]; exact h16 h), (fun h => by rw [getD_set_ne (by decide)] at h; rw [getD_set_ne (by decide)]; exact h17 h), (fun h => by rw [getD_set_ne (by decide)] at h; rw [getD_set_ne (by decide)]; exact h18 h), (fun h h2 => hD16_17 (by rwa [getD_set_ne (by decide)] at h) (by rwa [getD_set_ne (by decide)] at h2)), (fun h h2 => hD16_18 (by rwa [getD_set_ne (by decide)] at h) (by rwa [getD_set_ne (by decide)] at h2)), (fun h h2 => hD17_18 (by rwa [getD_set_ne (by decide)] at h) (by rwa [getD_set_ne (by decide)] at h2)), (fun h => by rw [getD_set_ne (by decide)] at h ⊢; exact hS16 h), (fun h => by rw [getD_set_ne (by decide)] at h ⊢; exact hS17 h), (fun h => by rw [getD_set_ne (by decide)] at h ⊢; exact hS18 h)⟩
    · skip
      have e2 := h2 (ready_dep hi (by kernel_rfl))
      subst e2
      have e4 := h4 (ready_dep hi (by kernel_rfl))
      subst e4
      refine wpOp_of rfl rfl ?_
      go_simp
      unfold PrA
      exact ⟨_, _, _, _, _, _, _, _, _, _, _, _, _, _, _, _, _, _, _, p16, p17, p18, rfl, (hB), (hF_C), (hF_A), (hF_B), (fun h => h0 (by rwa [getD_set_ne (by decide)] at h)), (fun h => h1 (by rwa [getD_set_ne (by decide)] at h)), (fun h => h2 (by rwa [getD_set_ne (by decide)] at h)), (fun h => h3 (by rwa [getD_set_ne (by decide)] at h)), (fun h => h4 (by rwa [getD_set_ne (by decide)] at h)), (fun _ => rfl), (fun h => h6 (by rwa [getD_set_ne (by decide)] at h)), (fun h => h7 (by rwa [getD_set_ne (by decide)] at h)), (fun h => h8 (by rwa [getD_set_ne (by decide)] at h)), (fun h => h9 (by rwa [getD_set_ne (by decide)] at h)), (fun h => h10 (by rwa [getD_set_ne (by decide)] at h)), (fun h => h11 (by rwa [getD_set_ne (by decide)] at h)), (fun h => h12 (by rwa [getD_set_ne (by decide)] at h)), (fun h => h13 (by rwa [getD_set_ne (by decide)] at h)), (fun h => h14 (by rwa [getD_set_ne (by decide)] at h)), (fun h => h15 (by rwa [getD_set_ne (by decide)] at h)), (fun h => by rw [getD_set_ne (by decide)] at h; rw [getD_set_ne (by decide)]; exact h16 h), (fun h => by rw [getD_set_ne (by decide)] at h; rw [getD_set_ne (by decide)]; exact h17 h), (fun h => by rw [getD_set_ne (by decide)] at h; rw [getD_set_ne (by decide)]; exact h18 h), (fun h h2 => hD16_17 (by rwa [getD_set_ne (by decide)] at h) (by rwa [getD_set_ne (by decide)] at h2)), (fun h h2 => hD16_18 (by rwa [getD_set_ne (by decide)] at h) (by rwa [getD_set_ne (by decide)] at h2)), (fun h h2 => hD17_18 (by rwa [getD_set_ne (by decide)] at h) (by rwa [getD_set_ne (by decide)] at h2)), (fun h => by rw [getD_set_ne (by decide)] at h ⊢; exact hS16 h), (fun h => by rw [getD_set_ne (by decide)] at h ⊢; exact hS17 h), (fun h => by rw [getD_set_ne (by decide)] at h ⊢; exact hS18 h)⟩
    · skip
      refine wpOp_of rfl rfl ?_
      go_simp
      unfold PrA
      exact ⟨_, _, _, _, _, _, _, _, _, _, _, _, _, _, _, _, _, _, _, p16, p17, p18, rfl, (hB), (hF_C), (hF_A), (hF_B), (fun h => h0 (by rwa [getD_set_ne (by decide)] at h)), (fun h => h1 (by rwa [getD_set_ne (by decide)] at h)), (fun h => h2 (by rwa [getD_set_ne (by decide)] at h)), (fun h => h3 (by rwa [getD_set_ne (by decide)] at h)), (fun h => h4 (by rwa [getD_set_ne (by decide)] at h)), (fun h => h5 (by rwa [getD_set_ne (by decide)] at h)), (fun _ => rfl), (fun h => h7 (by rwa [getD_set_ne (by decide)] at h)), (fun h => h8 (by rwa [getD_set_ne (by decide)] at h)), (fun h => h9 (by rwa [getD_set_ne (by decide)] at h)), (fun h => h10 (by rwa [getD_set_ne (by decide)] at h)), (fun h => h11 (by rwa [getD_set_ne (by decide)] at h)), (fun h => h12 (by rwa [getD_set_ne (by decide)] at h)), (fun h => h13 (by rwa [getD_set_ne (by decide)] at h)), (fun h => h14 (by rwa [getD_set_ne (by decide)] at h)), (fun h => h15 (by rwa [getD_set_ne (by decide)] at h)), (fun h => by rw [getD_set_ne (by decide)] at h; rw [getD_set_ne (by decide)]; exact h16 h), (fun h => by rw [getD_set_ne (by decide)] at h; rw [getD_set_ne (by decide)]; exact h17 h), (fun h => by rw [getD_set_ne (by decide)] at h; rw [getD_set_ne (by decide)]; exact h18 h), (fun h h2 => hD16_17 (by rwa [getD_set_ne (by decide)] at h) (by rwa [getD_set_ne (by decide)] at h2)), (fun h h2 => hD16_18 (by rwa [getD_set_ne (by decide)] at h) (by rwa [getD_set_ne (by decide)] at h2)), (fun h h2 => hD17_18 (by rwa [getD_set_ne (by decide)] at h) (by rwa [getD_set_ne (by decide)] at h2)), (fun h => by rw [getD_set_ne (by decide)] at h ⊢; exact hS16 h), (fun h => by rw [getD_set_ne (by decide)] at h ⊢; exact hS17 h), (fun h => by rw [getD_set_ne (by decide)] at h ⊢; exact hS18 h)⟩
    · skip
      have e6 := h6 (ready_dep hi (by kernel_rfl))
      subst e6
      have c := hcell (k := 0) (v := .int .i64 ax0) hF_A rfl
      refine wpOp_of rfl rfl ?_
      go_simp
      unfold PrA
      exact ⟨_, _, _, _, _, _, _, _, _, _, _, _, _, _, _, _, _, _, _, p16, p17, p18, rfl, (hB), (hF_C), (hF_A), (hF_B), (fun h => h0 (by rwa [getD_set_ne (by decide)] at h)), (fun h => h1 (by rwa [getD_set_ne (by decide)] at h)), (fun h => h2 (by rwa [getD_set_ne (by decide)] at h)), (fun h => h3 (by rwa [getD_set_ne (by decide)] at h)), (fun h => h4 (by rwa [getD_set_ne (by decide)] at h)), (fun h => h5 (by rwa [getD_set_ne (by decide)] at h)), (fun h => h6 (by rwa [getD_set_ne (by decide)] at h)), (fun _ => rfl), (fun h => h8 (by rwa [getD_set_ne (by decide)] at h)), (fun h => h9 (by rwa [getD_set_ne (by decide)] at h)), (fun h => h10 (by rwa [getD_set_ne (by decide)] at h)), (fun h => h11 (by rwa [getD_set_ne (by decide)] at h)), (fun h => h12 (by rwa [getD_set_ne (by decide)] at h)), (fun h => h13 (by rwa [getD_set_ne (by decide)] at h)), (fun h => h14 (by rwa [getD_set_ne (by decide)] at h)), (fun h => h15 (by rwa [getD_set_ne (by decide)] at h)), (fun h => by rw [getD_set_ne (by decide)] at h; rw [getD_set_ne (by decide)]; exact h16 h), (fun h => by rw [getD_set_ne (by decide)] at h; rw [getD_set_ne (by decide)]; exact h17 h), (fun h => by rw [getD_set_ne (by decide)] at h; rw [getD_set_ne (by decide)]; exact h18 h), (fun h h2 => hD16_17 (by rwa [getD_set_ne (by decide)] at h) (by rwa [getD_set_ne (by decide)] at h2)), (fun h h2 => hD16_18 (by rwa [getD_set_ne (by decide)] at h) (by rwa [getD_set_ne (by decide)] at h2)), (fun h h2 => hD17_18 (by rwa [getD_set_ne (by decide)] at h) (by rwa [getD_set_ne (by decide)] at h2)), (fun h => by rw [getD_set_ne (by decide)] at h ⊢; exact hS16 h), (fun h => by rw [getD_set_ne (by decide)] at h ⊢; exact hS17 h), (fun h => by rw [getD_set_ne (by decide)] at h ⊢; exact hS18 h)⟩
    · skip
      refine wpOp_of rfl rfl ?_
      go_simp
      unfold PrA
      exact ⟨_, _, _, _, _, _, _, _, _, _, _, _, _, _, _, _, _, _, _, p16, p17, p18, rfl, (hB), (hF_C), (hF_A), (hF_B), (fun h => h0 (by rwa [getD_set_ne (by decide)] at h)), (fun h => h1 (by rwa [getD_set_ne (by decide)] at h)), (fun h => h2 (by rwa [getD_set_ne (by decide)] at h)), (fun h => h3 (by rwa [getD_set_ne (by decide)] at h)), (fun h => h4 (by rwa [getD_set_ne (by decide)] at h)), (fun h => h5 (by rwa [getD_set_ne (by decide)] at h)), (fun h => h6 (by rwa [getD_set_ne (by decide)] at h)), (fun h => h7 (by rwa [getD_set_ne (by decide)] at h)), (fun _ => rfl), (fun h => h9 (by rwa [getD_set_ne (by decide)] at h)), (fun h => h10 (by rwa [getD_set_ne (by decide)] at h)), (fun h => h11 (by rwa [getD_set_ne (by decide)] at h)), (fun h => h12 (by rwa [getD_set_ne (by decide)] at h)), (fun h => h13 (by rwa [getD_set_ne (by decide)] at h)), (fun h => h14 (by rwa [getD_set_ne (by decide)] at h)), (fun h => h15 (by rwa [getD_set_ne (by decide)] at h)), (fun h => by rw [getD_set_ne (by decide)] at h; rw [getD_set_ne (by decide)]; exact h16 h), (fun h => by rw [getD_set_ne (by decide)] at h; rw [getD_set_ne (by decide)]; exact h17 h), (fun h => by rw [getD_set_ne (by decide)] at h; rw [getD_set_ne (by decide)]; exact h18 h), (fun h h2 => hD16_17 (by rwa [getD_set_ne (by decide)] at h) (by rwa [getD_set_ne (by decide)] at h2)), (fun h h2 => hD16_18 (by rwa [getD_set_ne (by decide)] at h) (by rwa [getD_set_ne (by decide)] at h2)), (fun h h2 => hD17_18 (by rwa [getD_set_ne (by decide)] at h) (by rwa [getD_set_ne (by decide)] at h2)), (fun h => by rw [getD_set_ne (by decide)] at h ⊢; exact hS16 h), (fun h => by rw [getD_set_ne (by decide)] at h ⊢; exact hS17 h), (fun h => by rw [getD_set_ne (by decide)] at h ⊢; exact hS18 h)⟩
    · skip
      have e8 := h8 (ready_dep hi (by kernel_rfl))
      subst e8
      have c := hcell (k := 0) (v := .int .i64 bx0) hF_B rfl
      refine wpOp_of rfl rfl ?_
      go_simp
      unfold PrA
      exact ⟨_, _, _, _, _, _, _, _, _, _, _, _, _, _, _, _, _, _, _, p16, p17, p18, rfl, (hB), (hF_C), (hF_A), (hF_B), (fun h => h0 (by rwa [getD_set_ne (by decide)] at h)), (fun h => h1 (by rwa [getD_set_ne (by decide)] at h)), (fun h => h2 (by rwa [getD_set_ne (by decide)] at h)), (fun h => h3 (by rwa [getD_set_ne (by decide)] at h)), (fun h => h4 (by rwa [getD_set_ne (by decide)] at h)), (fun h => h5 (by rwa [getD_set_ne (by decide)] at h)), (fun h => h6 (by rwa [getD_set_ne (by decide)] at h)), (fun h => h7 (by rwa [getD_set_ne (by decide)] at h)), (fun h => h8 (by rwa [getD_set_ne (by decide)] at h)), (fun _ => rfl), (fun h => h10 (by rwa [getD_set_ne (by decide)] at h)), (fun h => h11 (by rwa [getD_set_ne (by decide)] at h)), (fun h => h12 (by rwa [getD_set_ne (by decide)] at h)), (fun h => h13 (by rwa [getD_set_ne (by decide)] at h)), (fun h => h14 (by rwa [getD_set_ne (by decide)] at h)), (fun h => h15 (by rwa [getD_set_ne (by decide)] at h)), (fun h => by rw [getD_set_ne (by decide)] at h; rw [getD_set_ne (by decide)]; exact h16 h), (fun h => by rw [getD_set_ne (by decide)] at h; rw [getD_set_ne (by decide)]; exact h17 h), (fun h => by rw [getD_set_ne (by decide)] at h; rw [getD_set_ne (by decide)]; exact h18 h), (fun h h2 => hD16_17 (by rwa [getD_set_ne (by decide)] at h) (by rwa [getD_set_ne (by decide)] at h2)), (fun h h2 => hD16_18 (by rwa [getD_set_ne (by decide)] at h) (by rwa [getD_set_ne (by decide)] at h2)), (fun h h2 => hD17_18 (by rwa [getD_set_ne (by decide)] at h) (by rwa [getD_set_ne (by decide)] at h2)), (fun h => by rw [getD_set_ne (by decide)] at h ⊢; exact hS16 h), (fun h => by rw [getD_set_ne (by decide)] at h ⊢; exact hS17 h), (fun h => by rw [getD_set_ne (by decide)] at h ⊢; exact hS18 h)⟩
    · skip
      have e7 := h7 (ready_dep hi (by kernel_rfl))
      subst e7
      have e9 := h9 (ready_dep hi (by kernel_rfl))
      subst e9
      refine wpOp_of rfl rfl ?_
      go_simp
      unfold PrA
      exact ⟨_, _, _, _, _, _, _, _, _, _, _, _, _, _, _, _, _, _, _, p16, p17, p18, rfl, (hB), (hF_C), (hF_A), (hF_B), (fun h => h0 (by rwa [getD_set_ne (by decide)] at h)), (fun h => h1 (by rwa [getD_set_ne (by decide)] at h)), (fun h => h2 (by rwa [getD_set_ne (by decide)] at h)), (fun h => h3 (by rwa [getD_set_ne (by decide)] at h)), (fun h => h4 (by rwa [getD_set_ne (by decide)] at h)), (fun h => h5 (by rwa [getD_set_ne (by decide)] at h)), (fun h => h6 (by rwa [getD_set_ne (by decide)] at h)), (fun h => h7 (by rwa [getD_set_ne (by decide)] at h)), (fun h => h8 (by rwa [getD_set_ne (by decide)] at h)), (fun h => h9 (by rwa [getD_set_ne (by decide)] at h)), (fun _ => rfl), (fun h => h11 (by rwa [getD_set_ne (by decide)] at h)), (fun h => h12 (by rwa [getD_set_ne (by decide)] at h)), (fun h => h13 (by rwa [getD_set_ne (by decide)] at h)), (fun h => h14 (by rwa [getD_set_ne (by decide)] at h)), (fun h => h15 (by rwa [getD_set_ne (by decide)] at h)), (fun h => by rw [getD_set_ne (by decide)] at h; rw [getD_set_ne (by decide)]; exact h16 h), (fun h => by rw [getD_set_ne (by decide)] at h; rw [getD_set_ne (by decide)]; exact h17 h), (fun h => by rw [getD_set_ne (by decide)] at h; rw [getD_set_ne (by decide)]; exact h18 h), (fun h h2 => hD16_17 (by rwa [getD_set_ne (by decide)] at h) (by rwa [getD_set_ne (by decide)] at h2)), (fun h h2 => hD16_18 (by rwa [getD_set_ne (by decide)] at h) (by rwa [getD_set_ne (by decide)] at h2)), (fun h h2 => hD17_18 (by rwa [getD_set_ne (by decide)] at h) (by rwa [getD_set_ne (by decide)] at h2)), (fun h => by rw [getD_set_ne (by decide)] at h ⊢; exact hS16 h), (fun h => by rw [getD_set_ne (by decide)] at h ⊢; exact hS17 h), (fun h => by rw [getD_set_ne (by decide)] at h ⊢; exact hS18 h)⟩
    · skip
      refine wpOp_of rfl rfl ?_
      go_simp
      unfold PrA
      exact ⟨_, _, _, _, _, _, _, _, _, _, _, _, _, _, _, _, _, _, _, p16, p17, p18, rfl, (hB), (hF_C), (hF_A), (hF_B), (fun h => h0 (by rwa [getD_set_ne (by decide)] at h)), (fun h => h1 (by rwa [getD_set_ne (by decide)] at h)), (fun h => h2 (by rwa [getD_set_ne (by decide)] at h)), (fun h => h3 (by rwa [getD_set_ne (by decide)] at h)), (fun h => h4 (by rwa [getD_set_ne (by decide)] at h)), (fun h => h5 (by rwa [getD_set_ne (by decide)] at h)), (fun h => h6 (by rwa [getD_set_ne (by decide)] at h)), (fun h => h7 (by rwa [getD_set_ne (by decide)] at h)), (fun h => h8 (by rwa [getD_set_ne (by decide)] at h)), (fun h => h9 (by rwa [getD_set_ne (by decide)] at h)), (fun h => h10 (by rwa [getD_set_ne (by decide)] at h)), (fun _ => rfl), (fun h => h12 (by rwa [getD_set_ne (by decide)] at h)), (fun h => h13 (by rwa [getD_set_ne (by decide)] at h)), (fun h => h14 (by rwa [getD_set_ne (by decide)] at h)), (fun h => h15 (by rwa [getD_set_ne (by decide)] at h)), (fun h => by rw [getD_set_ne (by decide)] at h; rw [getD_set_ne (by decide)]; exact h16 h), (fun h => by rw [getD_set_ne (by decide)] at h; rw [getD_set_ne (by decide)]; exact h17 h), (fun h => by rw [getD_set_ne (by decide)] at h; rw [getD_set_ne (by decide)]; exact h18 h), (fun h h2 => hD16_17 (by rwa [getD_set_ne (by decide)] at h) (by rwa [getD_set_ne (by decide)] at h2)), (fun h h2 => hD16_18 (by rwa [getD_set_ne (by decide)] at h) (by rwa [getD_set_ne (by decide)] at h2)), (fun h h2 => hD17_18 (by rwa [getD_set_ne (by decide)] at h) (by rwa [getD_set_ne (by decide)] at h2)), (fun h => by rw [getD_set_ne (by decide)] at h ⊢; exact hS16 h), (fun h => by rw [getD_set_ne (by decide)] at h ⊢; exact hS17 h), (fun h => by rw [getD_set_ne (by decide)] at h ⊢; exact hS18 h)⟩
    · skip
      have e11 := h11 (ready_dep hi (by kernel_rfl))
      subst e11
      have c := hcell (k := 2) (v := .int .i64 ax1) hF_A rfl
      refine wpOp_of rfl rfl ?_
      go_simp
      unfold PrA
      exact ⟨_, _, _, _, _, _, _, _, _, _, _, _, _, _, _, _, _, _, _, p16, p17, p18, rfl, (hB), (hF_C), (hF_A), (hF_B), (fun h => h0 (by rwa [getD_set_ne (by decide)] at h)), (fun h => h1 (by rwa [getD_set_ne (by decide)] at h)), (fun h => h2 (by rwa [getD_set_ne (by decide)] at h)), (fun h => h3 (by rwa [getD_set_ne (by decide)] at h)), (fun h => h4 (by rwa [getD_set_ne (by decide)] at h)), (fun h => h5 (by rwa [getD_set_ne (by decide)] at h)), (fun h => h6 (by rwa [getD_set_ne (by decide)] at h)), (fun h => h7 (by rwa [getD_set_ne (by decide)] at h)), (fun h => h8 (by rwa [getD_set_ne (by decide)] at h)), (fun h => h9 (by rwa [getD_set_ne (by decide)] at h)), (fun h => h10 (by rwa [getD_set_ne (by decide)] at h)), (fun h => h11 (by rwa [getD_set_ne (by decide)] at h)), (fun _ => rfl), (fun h => h13 (by rwa [getD_set_ne (by decide)] at h)), (fun h => h14 (by rwa [getD_set_ne (by decide)] at h)), (fun h => h15 (by rwa [getD_set_ne (by decide)] at h)), (fun h => by rw [getD_set_ne (by decide)] at h; rw [getD_set_ne (by decide)]; exact h16 h), (fun h => by rw [getD_set_ne (by decide)] at h; rw [getD_set_ne (by decide)]; exact h17 h), (fun h => by rw [getD_set_ne (by decide)] at h; rw [getD_set_ne (by decide)]; exact h18 h), (fun h h2 => hD16_17 (by rwa [getD_set_ne (by decide)] at h) (by rwa [getD_set_ne (by decide)] at h2)), (fun h h2 => hD16_18 (by rwa [getD_set_ne (by decide)] at h) (by rwa [getD_set_ne (by decide)] at h2)), (fun h h2 => hD17_18 (by rwa [getD_set_ne (by decide)] at h) (by rwa [getD_set_ne (by decide)] at h2)), (fun h => by rw [getD_set_ne (by decide)] at h ⊢; exact hS16 h), (fun h => by rw [getD_set_ne (by decide)] at h ⊢; exact hS17 h), (fun h => by rw [getD_set_ne (by decide)] at h ⊢; exact hS18 h)⟩
    · skip
      refine wpOp_of rfl rfl ?_
      go_simp
      unfold PrA
      exact ⟨_, _, _, _, _, _, _, _, _, _, _, _, _, _, _, _, _, _, _, p16, p17, p18, rfl, (hB), (hF_C), (hF_A), (hF_B), (fun h => h0 (by rwa [getD_set_ne (by decide)] at h)), (fun h => h1 (by rwa [getD_set_ne (by decide)] at h)), (fun h => h2 (by rwa [getD_set_ne (by decide)] at h)), (fun h => h3 (by rwa [getD_set_ne (by decide)] at h)), (fun h => h4 (by rwa [getD_set_ne (by decide)] at h)), (fun h => h5 (by rwa [getD_set_ne (by decide)] at h)), (fun h => h6 (by rwa [getD_set_ne (by decide)] at h)), (fun h => h7 (by rwa [getD_set_ne (by decide)] at h)), (fun h => h8 (by rwa [getD_set_ne (by decide)] at h)), (fun h => h9 (by rwa [getD_set_ne (by decide)] at h)), (fun h => h10 (by rwa [getD_set_ne (by decide)] at h)), (fun h => h11 (by rwa [getD_set_ne (by decide)] at h)), (fun h => h12 (by rwa [getD_set_ne (by decide)] at h)), (fun _ => rfl), (fun h => h14 (by rwa [getD_set_ne (by decide)] at h)), (fun h => h15 (by rwa [getD_set_ne (by decide)] at h)), (fun h => by rw [getD_set_ne (by decide)] at h; rw [getD_set_ne (by decide)]; exact h16 h), (fun h => by rw [getD_set_ne (by decide)] at h; rw [getD_set_ne (by decide)]; exact h17 h), (fun h => by rw [getD_set_ne (by decide)] at h; rw [getD_set_ne (by decide)]; exact h18 h), (fun h h2 => hD16_17 (by rwa [getD_set_ne (by decide)] at h) (by rwa [getD_set_ne (by decide)] at h2)), (fun h h2 => hD16_18 (by rwa [getD_set_ne (by decide)] at h) (by rwa [getD_set_ne (by decide)] at h2)), (fun h h2 => hD17_18 (by rwa [getD_set_ne (by decide)] at h) (by rwa [getD_set_ne (by decide)] at h2)), (fun h => by rw [getD_set_ne (by decide)] at h ⊢; exact hS16 h), (fun h => by rw [getD_set_ne (by decide)] at h ⊢; exact hS17 h), (fun h => by rw [getD_set_ne (by decide)] at h ⊢; exact hS18 h)⟩
    · skip
      have e13 := h13 (ready_dep hi (by kernel_rfl))
      subst e13
      have c := hcell (k := 2) (v := .int .i64 bx1) hF_B rfl
      refine wpOp_of rfl rfl ?_
      go_simp
      unfold PrA
      exact ⟨_, _, _, _, _, _, _, _, _, _, _, _, _, _, _, _, _, _, _, p16, p17, p18, rfl, (hB), (hF_C), (hF_A), (hF_B), (fun h => h0 (by rwa [getD_set_ne (by decide)] at h)), (fun h => h1 (by rwa [getD_set_ne (by decide)] at h)), (fun h => h2 (by rwa [getD_set_ne (by decide)] at h)), (fun h => h3 (by rwa [getD_set_ne (by decide)] at h)), (fun h => h4 (by rwa [getD_set_ne (by decide)] at h)), (fun h => h5 (by rwa [getD_set_ne (by decide)] at h)), (fun h => h6 (by rwa [getD_set_ne (by decide)] at h)), (fun h => h7 (by rwa [getD_set_ne (by decide)] at h)), (fun h => h8 (by rwa [getD_set_ne (by decide)] at h)), (fun h => h9 (by rwa [getD_set_ne (by decide)] at h)), (fun h => h10 (by rwa [getD_set_ne (by decide)] at h)), (fun h => h11 (by rwa [getD_set_ne (by decide)] at h)), (fun h => h12 (by rwa [getD_set_ne (by decide)] at h)), (fun h => h13 (by rwa [getD_set_ne (by decide)] at h)), (fun _ => rfl), (fun h => h15 (by rwa [getD_set_ne (by decide)] at h)), (fun h => by rw [getD_set_ne (by decide)] at h; rw [getD_set_ne (by decide)]; exact h16 h), (fun h => by rw [getD_set_ne (by decide)] at h; rw [getD_set_ne (by decide)]; exact h17 h), (fun h => by rw [getD_set_ne (by decide)] at h; rw [getD_set_ne (by decide)]; exact h18 h), (fun h h2 => hD16_17 (by rwa [getD_set_ne (by decide)] at h) (by rwa [getD_set_ne (by decide)] at h2)), (fun h h2 => hD16_18 (by rwa [getD_set_ne (by decide)] at h) (by rwa [getD_set_ne (by decide)] at h2)), (fun h h2 => hD17_18 (by rwa [getD_set_ne (by decide)] at h) (by rwa [getD_set_ne (by decide)] at h2)), (fun h => by rw [getD_set_ne (by decide)] at h ⊢; exact hS16 h), (fun h => by rw [getD_set_ne (by decide)] at h ⊢; exact hS17 h), (fun h => by rw [getD_set_ne (by decide)] at h ⊢; exact hS18 h)⟩
    · skip
      have e12 := h12 (ready_dep hi (by kernel_rfl))
      subst e12
      have e14 := h14 (ready_dep hi (by kernel_rfl))
      subst e14
      refine wpOp_of rfl rfl ?_
      go_simp
      unfold PrA
      exact ⟨_, _, _, _, _, _, _, _, _, _, _, _, _, _, _, _, _, _, _, p16, p17, p18, rfl, (hB), (hF_C), (hF_A), (hF_B), (fun h => h0 (by rwa [getD_set_ne (by decide)] at h)), (fun h => h1 (by rwa [getD_set_ne (by decide)] at h)), (fun h => h2 (by rwa [getD_set_ne (by decide)] at h)), (fun h => h3 (by rwa [getD_set_ne (by decide)] at h)), (fun h => h4 (by rwa [getD_set_ne (by decide)] at h)), (fun h => h5 (by rwa [getD_set_ne (by decide)] at h)), (fun h => h6 (by rwa [getD_set_ne (by decide)] at h)), (fun h => h7 (by rwa [getD_set_ne (by decide)] at h)), (fun h => h8 (by rwa [getD_set_ne (by decide)] at h)), (fun h => h9 (by rwa [getD_set_ne (by decide)] at h)), (fun h => h10 (by rwa [getD_set_ne (by decide)] at h)), (fun h => h11 (by rwa [getD_set_ne (by decide)] at h)), (fun h => h12 (by rwa [getD_set_ne (by decide)] at h)), (fun h => h13 (by rwa [getD_set_ne (by decide)] at h)), (fun h => h14 (by rwa [getD_set_ne (by decide)] at h)), (fun _ => rfl), (fun h => by rw [getD_set_ne (by decide)] at h; rw [getD_set_ne (by decide)]; exact h16 h), (fun h => by rw [getD_set_ne (by decide)] at h; rw [getD_set_ne (by decide)]; exact h17 h), (fun h => by rw [getD_set_ne (by decide)] at h; rw [getD_set_ne (by decide)]; exact h18 h), (fun h h2 => hD16_17 (by rwa [getD_set_ne (by decide)] at h) (by rwa [getD_set_ne (by decide)] at h2)), (fun h h2 => hD16_18 (by rwa [getD_set_ne (by decide)] at h) (by rwa [getD_set_ne (by decide)] at h2)), (fun h h2 => hD17_18 (by rwa [getD_set_ne (by decide)] at h) (by rwa [getD_set_ne (by decide)] at h2)), (fun h => by rw [getD_set_ne (by decide)] at h ⊢; exact hS16 h), (fun h => by rw [getD_set_ne (by decide)] at h ⊢; exact hS17 h), (fun h => by rw [getD_set_ne (by decide)] at h ⊢; exact hS18 h)⟩
    · skip
      refine wpOp_of rfl rfl ?_
      go_simp
      unfold PrA
      exact ⟨_, _, _, _, _, _, _, _, _, _, _, _, _, _, _, _, _, _, _, wi.heap.size, p17, p18, rfl, (hB.alloc (Nat.le_trans (Nat.le_refl _) hB.size) _), (halloc hF_C _), (halloc hF_A _), (halloc hF_B _), (fun h => h0 (by rwa [getD_set_ne (by decide)] at h)), (fun h => h1 (by rwa [getD_set_ne (by decide)] at h)), (fun h => h2 (by rwa [getD_set_ne (by decide)] at h)), (fun h => h3 (by rwa [getD_set_ne (by decide)] at h)), (fun h => h4 (by rwa [getD_set_ne (by decide)] at h)), (fun h => h5 (by rwa [getD_set_ne (by decide)] at h)), (fun h => h6 (by rwa [getD_set_ne (by decide)] at h)), (fun h => h7 (by rwa [getD_set_ne (by decide)] at h)), (fun h => h8 (by rwa [getD_set_ne (by decide)] at h)), (fun h => h9 (by rwa [getD_set_ne (by decide)] at h)), (fun h => h10 (by rwa [getD_set_ne (by decide)] at h)), (fun h => h11 (by rwa [getD_set_ne (by decide)] at h)), (fun h => h12 (by rwa [getD_set_ne (by decide)] at h)), (fun h => h13 (by rwa [getD_set_ne (by decide)] at h)), (fun h => h14 (by rwa [getD_set_ne (by decide)] at h)), (fun h => h15 (by rwa [getD_set_ne (by decide)] at h)), (fun _ => ⟨rfl, hB.size, by rw [getD_set_ne (by decide)]; have n19 : L.getD 19 false = false := (by cases h : L.getD 19 false with | false => rfl | true => rw [hS16 h] at hi'; cases hi'); rw [n19]; exact World.alloc_heap_new _ _⟩), (fun h => by rw [getD_set_ne (by decide)] at h; rw [getD_set_ne (by decide)]; obtain ⟨e1, e2, e3⟩ := h17 h; exact ⟨e1, e2, halloc e3 _⟩), (fun h => by rw [getD_set_ne (by decide)] at h; rw [getD_set_ne (by decide)]; obtain ⟨e1, e2, e3⟩ := h18 h; exact ⟨e1, e2, halloc e3 _⟩), (fun _ h => by rw [getD_set_ne (by decide)] at h; have := hblt (h17 h).2.2; omega), (fun _ h => by rw [getD_set_ne (by decide)] at h; have := hblt (h18 h).2.2; omega), (fun h h2 => hD17_18 (by rwa [getD_set_ne (by decide)] at h) (by rwa [getD_set_ne (by decide)] at h2)), (fun _ => getD_set_eq (by omega) _), (fun h => by rw [getD_set_ne (by decide)] at h ⊢; exact hS17 h), (fun h => by rw [getD_set_ne (by decide)] at h ⊢; exact hS18 h)⟩
    · skip
      refine wpOp_of rfl rfl ?_
      go_simp
      unfold PrA
      exact ⟨_, _, _, _, _, _, _, _, _, _, _, _, _, _, _, _, _, _, _, p16, wi.heap.size, p18, rfl, (hB.alloc (Nat.le_trans (Nat.le_refl _) hB.size) _), (halloc hF_C _), (halloc hF_A _), (halloc hF_B _), (fun h => h0 (by rwa [getD_set_ne (by decide)] at h)), (fun h => h1 (by rwa [getD_set_ne (by decide)] at h)), (fun h => h2 (by rwa [getD_set_ne (by decide)] at h)), (fun h => h3 (by rwa [getD_set_ne (by decide)] at h)), (fun h => h4 (by rwa [getD_set_ne (by decide)] at h)), (fun h => h5 (by rwa [getD_set_ne (by decide)] at h)), (fun h => h6 (by rwa [getD_set_ne (by decide)] at h)), (fun h => h7 (by rwa [getD_set_ne (by decide)] at h)), (fun h => h8 (by rwa [getD_set_ne (by decide)] at h)), (fun h => h9 (by rwa [getD_set_ne (by decide)] at h)), (fun h => h10 (by rwa [getD_set_ne (by decide)] at h)), (fun h => h11 (by rwa [getD_set_ne (by decide)] at h)), (fun h => h12 (by rwa [getD_set_ne (by decide)] at h)), (fun h => h13 (by rwa [getD_set_ne (by decide)] at h)), (fun h => h14 (by rwa [getD_set_ne (by decide)] at h)), (fun h => h15 (by rwa [getD_set_ne (by decide)] at h)), (fun h => by rw [getD_set_ne (by decide)] at h; rw [getD_set_ne (by decide)]; obtain ⟨e1, e2, e3⟩ := h16 h; exact ⟨e1, e2, halloc e3 _⟩), (fun _ => ⟨rfl, hB.size, by rw [getD_set_ne (by decide)]; have n20 : L.getD 20 false = false := (by cases h : L.getD 20 false with | false => rfl | true => rw [hS17 h] at hi'; cases hi'); rw [n20]; exact World.alloc_heap_new _ _⟩), (fun h => by rw [getD_set_ne (by decide)] at h; rw [getD_set_ne (by decide)]; obtain ⟨e1, e2, e3⟩ := h18 h; exact ⟨e1, e2, halloc e3 _⟩), (fun h _ => by rw [getD_set_ne (by decide)] at h; have := hblt (h16 h).2.2; omega), (fun h h2 => hD16_18 (by rwa [getD_set_ne (by decide)] at h) (by rwa [getD_set_ne (by decide)] at h2)), (fun _ h => by rw [getD_set_ne (by decide)] at h; have := hblt (h18 h).2.2; omega), (fun h => by rw [getD_set_ne (by decide)] at h ⊢; exact hS16 h), (fun _ => getD_set_eq (by omega) _), (fun h => by rw [getD_set_ne (by decide)] at h ⊢; exact hS18 h)⟩
    · skip
      refine wpOp_of rfl rfl ?_
      go_simp
      unfold PrA
      exact ⟨_, _, _, _, _, _, _, _, _, _, _, _, _, _, _, _, _, _, _, p16, p17, wi.heap.size, rfl, (hB.alloc (Nat.le_trans (Nat.le_refl _) hB.size) _), (halloc hF_C _), (halloc hF_A _), (halloc hF_B _), (fun h => h0 (by rwa [getD_set_ne (by decide)] at h)), (fun h => h1 (by rwa [getD_set_ne (by decide)] at h)), (fun h => h2 (by rwa [getD_set_ne (by decide)] at h)), (fun h => h3 (by rwa [getD_set_ne (by decide)] at h)), (fun h => h4 (by rwa [getD_set_ne (by decide)] at h)), (fun h => h5 (by rwa [getD_set_ne (by decide)] at h)), (fun h => h6 (by rwa [getD_set_ne (by decide)] at h)), (fun h => h7 (by rwa [getD_set_ne (by decide)] at h)), (fun h => h8 (by rwa [getD_set_ne (by decide)] at h)), (fun h => h9 (by rwa [getD_set_ne (by decide)] at h)), (fun h => h10 (by rwa [getD_set_ne (by decide)] at h)), (fun h => h11 (by rwa [getD_set_ne (by decide)] at h)), (fun h => h12 (by rwa [getD_set_ne (by decide)] at h)), (fun h => h13 (by rwa [getD_set_ne (by decide)] at h)), (fun h => h14 (by rwa [getD_set_ne (by decide)] at h)), (fun h => h15 (by rwa [getD_set_ne (by decide)] at h)), (fun h => by rw [getD_set_ne (by decide)] at h; rw [getD_set_ne (by decide)]; obtain ⟨e1, e2, e3⟩ := h16 h; exact ⟨e1, e2, halloc e3 _⟩), (fun h => by rw [getD_set_ne (by decide)] at h; rw [getD_set_ne (by decide)]; obtain ⟨e1, e2, e3⟩ := h17 h; exact ⟨e1, e2, halloc e3 _⟩), (fun _ => ⟨rfl, hB.size, by rw [getD_set_ne (by decide)]; have n21 : L.getD 21 false = false := (by cases h : L.getD 21 false with | false => rfl | true => rw [hS18 h] at hi'; cases hi'); rw [n21]; exact World.alloc_heap_new _ _⟩), (fun h h2 => hD16_17 (by rwa [getD_set_ne (by decide)] at h) (by rwa [getD_set_ne (by decide)] at h2)), (fun h _ => by rw [getD_set_ne (by decide)] at h; have := hblt (h16 h).2.2; omega), (fun h _ => by rw [getD_set_ne (by decide)] at h; have := hblt (h17 h).2.2; omega), (fun h => by rw [getD_set_ne (by decide)] at h ⊢; exact hS16 h), (fun h => by rw [getD_set_ne (by decide)] at h ⊢; exact hS17 h), (fun _ => getD_set_eq (by omega) _)⟩
    · skip
      have e5 := h5 (ready_dep hi (by kernel_rfl))
      subst e5
      obtain ⟨e1, e2, e3⟩ := h16 (ready_dep hi (by kernel_rfl))
      subst e1
      rw [hi'] at e3
      have e3 : wi.heap[p16]? = some (.cells #[.bool false] 4 (0, 0)) := e3
      have f0 := hfroz (k := 0) e3
      have z0 := hcell (k := 0) (v := .bool false) e3 rfl
      have hG := bx1_grown (w := wi) (b := p16) (.bool (az1 + 1 == bz0))
      have hN := bx1_set e3 (.bool (az1 + 1 == bz0))
      refine wpOp_of rfl rfl ?_
      go_simp
      unfold PrA
      exact ⟨_, _, _, _, _, _, _, _, _, _, _, _, _, _, _, _, _, _, _, p16, p17, p18, rfl, (hB.grown hG (Nat.le_trans (Nat.le_refl _) hB.size) (fun j hj => by cases hj; omega)), (hgrown hG hF_C (by simp only [ne_eq, Option.some.injEq]; omega)), (hgrown hG hF_A (by simp only [ne_eq, Option.some.injEq]; omega)), (hgrown hG hF_B (by simp only [ne_eq, Option.some.injEq]; omega)), (fun h => h0 (by rwa [getD_set_ne (by decide)] at h)), (fun h => h1 (by rwa [getD_set_ne (by decide)] at h)), (fun h => h2 (by rwa [getD_set_ne (by decide)] at h)), (fun h => h3 (by rwa [getD_set_ne (by decide)] at h)), (fun h => h4 (by rwa [getD_set_ne (by decide)] at h)), (fun h => h5 (by rwa [getD_set_ne (by decide)] at h)), (fun h => h6 (by rwa [getD_set_ne (by decide)] at h)), (fun h => h7 (by rwa [getD_set_ne (by decide)] at h)), (fun h => h8 (by rwa [getD_set_ne (by decide)] at h)), (fun h => h9 (by rwa [getD_set_ne (by decide)] at h)), (fun h => h10 (by rwa [getD_set_ne (by decide)] at h)), (fun h => h11 (by rwa [getD_set_ne (by decide)] at h)), (fun h => h12 (by rwa [getD_set_ne (by decide)] at h)), (fun h => h13 (by rwa [getD_set_ne (by decide)] at h)), (fun h => h14 (by rwa [getD_set_ne (by decide)] at h)), (fun h => h15 (by rwa [getD_set_ne (by decide)] at h)), (fun _ => ⟨rfl, e2, by rw [getD_set_eq (by omega)]; exact hN⟩), (fun h => by rw [getD_set_ne (by decide)] at h; rw [getD_set_ne (by decide)]; obtain ⟨e1, e2, e3⟩ := h17 h; exact ⟨e1, e2, hgrown hG e3 (fun e => hD16_17 (ready_dep hi (by kernel_rfl)) h (Option.some.inj e))⟩), (fun h => by rw [getD_set_ne (by decide)] at h; rw [getD_set_ne (by decide)]; obtain ⟨e1, e2, e3⟩ := h18 h; exact ⟨e1, e2, hgrown hG e3 (fun e => hD16_18 (ready_dep hi (by kernel_rfl)) h (Option.some.inj e))⟩), (fun h h2 => hD16_17 (by rwa [getD_set_ne (by decide)] at h) (by rwa [getD_set_ne (by decide)] at h2)), (fun h h2 => hD16_18 (by rwa [getD_set_ne (by decide)] at h) (by rwa [getD_set_ne (by decide)] at h2)), (fun h h2 => hD17_18 (by rwa [getD_set_ne (by decide)] at h) (by rwa [getD_set_ne (by decide)] at h2)), (fun _ => by rw [getD_set_ne (by decide)]; exact ready_dep hi (by kernel_rfl)), (fun h => by rw [getD_set_ne (by decide)] at h ⊢; exact hS17 h), (fun h => by rw [getD_set_ne (by decide)] at h ⊢; exact hS18 h)⟩
    · skip
      have e10 := h10 (ready_dep hi (by kernel_rfl))
      subst e10
      obtain ⟨e1, e2, e3⟩ := h17 (ready_dep hi (by kernel_rfl))
      subst e1
      rw [hi'] at e3
      have e3 : wi.heap[p17]? = some (.cells #[.int .i64 0] 3 (0, 0)) := e3
      have f0 := hfroz (k := 0) e3
      have z0 := hcell (k := 0) (v := .int .i64 0) e3 rfl
      have hG := bx1_grown (w := wi) (b := p17) (.int .i64 (if ax0 < bx0 then bx0 else ax0))
      have hN := bx1_set e3 (.int .i64 (if ax0 < bx0 then bx0 else ax0))
      refine wpOp_of rfl rfl ?_
      go_simp
      unfold PrA
      exact ⟨_, _, _, _, _, _, _, _, _, _, _, _, _, _, _, _, _, _, _, p16, p17, p18, rfl, (hB.grown hG (Nat.le_trans (Nat.le_refl _) hB.size) (fun j hj => by cases hj; omega)), (hgrown hG hF_C (by simp only [ne_eq, Option.some.injEq]; omega)), (hgrown hG hF_A (by simp only [ne_eq, Option.some.injEq]; omega)), (hgrown hG hF_B (by simp only [ne_eq, Option.some.injEq]; omega)), (fun h => h0 (by rwa [getD_set_ne (by decide)] at h)), (fun h => h1 (by rwa [getD_set_ne (by decide)] at h)), (fun h => h2 (by rwa [getD_set_ne (by decide)] at h)), (fun h => h3 (by rwa [getD_set_ne (by decide)] at h)), (fun h => h4 (by rwa [getD_set_ne (by decide)] at h)), (fun h => h5 (by rwa [getD_set_ne (by decide)] at h)), (fun h => h6 (by rwa [getD_set_ne (by decide)] at h)), (fun h => h7 (by rwa [getD_set_ne (by decide)] at h)), (fun h => h8 (by rwa [getD_set_ne (by decide)] at h)), (fun h => h9 (by rwa [getD_set_ne (by decide)] at h)), (fun h => h10 (by rwa [getD_set_ne (by decide)] at h)), (fun h => h11 (by rwa [getD_set_ne (by decide)] at h)), (fun h => h12 (by rwa [getD_set_ne (by decide)] at h)), (fun h => h13 (by rwa [getD_set_ne (by decide)] at h)), (fun h => h14 (by rwa [getD_set_ne (by decide)] at h)), (fun h => h15 (by rwa [getD_set_ne (by decide)] at h)), (fun h => by rw [getD_set_ne (by decide)] at h; rw [getD_set_ne (by decide)]; obtain ⟨e1, e2, e3⟩ := h16 h; exact ⟨e1, e2, hgrown hG e3 (fun e => hD16_17 h (ready_dep hi (by kernel_rfl)) (Option.some.inj e).symm)⟩), (fun _ => ⟨rfl, e2, by rw [getD_set_eq (by omega)]; exact hN⟩), (fun h => by rw [getD_set_ne (by decide)] at h; rw [getD_set_ne (by decide)]; obtain ⟨e1, e2, e3⟩ := h18 h; exact ⟨e1, e2, hgrown hG e3 (fun e => hD17_18 (ready_dep hi (by kernel_rfl)) h (Option.some.inj e))⟩), (fun h h2 => hD16_17 (by rwa [getD_set_ne (by decide)] at h) (by rwa [getD_set_ne (by decide)] at h2)), (fun h h2 => hD16_18 (by rwa [getD_set_ne (by decide)] at h) (by rwa [getD_set_ne (by decide)] at h2)), (fun h h2 => hD17_18 (by rwa [getD_set_ne (by decide)] at h) (by rwa [getD_set_ne (by decide)] at h2)), (fun h => by rw [getD_set_ne (by decide)] at h ⊢; exact hS16 h), (fun _ => by rw [getD_set_ne (by decide)]; exact ready_dep hi (by kernel_rfl)), (fun h => by rw [getD_set_ne (by decide)] at h ⊢; exact hS18 h)⟩
    · skip
      have e15 := h15 (ready_dep hi (by kernel_rfl))
      subst e15
      obtain ⟨e1, e2, e3⟩ := h18 (ready_dep hi (by kernel_rfl))
      subst e1
      rw [hi'] at e3
      have e3 : wi.heap[p18]? = some (.cells #[.int .i64 0] 3 (0, 0)) := e3
      have f0 := hfroz (k := 0) e3
      have z0 := hcell (k := 0) (v := .int .i64 0) e3 rfl
      have hG := bx1_grown (w := wi) (b := p18) (.int .i64 (if bx1 < ax1 then bx1 else ax1))
      have hN := bx1_set e3 (.int .i64 (if bx1 < ax1 then bx1 else ax1))
      refine wpOp_of rfl rfl ?_
      go_simp
      unfold PrA
      exact ⟨_, _, _, _, _, _, _, _, _, _, _, _, _, _, _, _, _, _, _, p16, p17, p18, rfl, (hB.grown hG (Nat.le_trans (Nat.le_refl _) hB.size) (fun j hj => by cases hj; omega)), (hgrown hG hF_C (by simp only [ne_eq, Option.some.injEq]; omega)), (hgrown hG hF_A (by simp only [ne_eq, Option.some.injEq]; omega)), (hgrown hG hF_B (by simp only [ne_eq, Option.some.injEq]; omega)), (fun h => h0 (by rwa [getD_set_ne (by decide)] at h)), (fun h => h1 (by rwa [getD_set_ne (by decide)] at h)), (fun h => h2 (by rwa [getD_set_ne (by decide)] at h)), (fun h => h3 (by rwa [getD_set_ne (by decide)] at h)), (fun h => h4 (by rwa [getD_set_ne (by decide)] at h)), (fun h => h5 (by rwa [getD_set_ne (by decide)] at h)), (fun h => h6 (by rwa [getD_set_ne (by decide)] at h)), (fun h => h7 (by rwa [getD_set_ne (by decide)] at h)), (fun h => h8 (by rwa [getD_set_ne (by decide)] at h)), (fun h => h9 (by rwa [getD_set_ne (by decide)] at h)), (fun h => h10 (by rwa [getD_set_ne (by decide)] at h)), (fun h => h11 (by rwa [getD_set_ne (by decide)] at h)), (fun h => h12 (by rwa [getD_set_ne (by decide)] at h)), (fun h => h13 (by rwa [getD_set_ne (by decide)] at h)), (fun h => h14 (by rwa [getD_set_ne (by decide)] at h)), (fun h => h15 (by rwa [getD_set_ne (by decide)] at h)), (fun h => by rw [getD_set_ne (by decide)] at h; rw [getD_set_ne (by decide)]; obtain ⟨e1, e2, e3⟩ := h16 h; exact ⟨e1, e2, hgrown hG e3 (fun e => hD16_18 h (ready_dep hi (by kernel_rfl)) (Option.some.inj e).symm)⟩), (fun h => by rw [getD_set_ne (by decide)] at h; rw [getD_set_ne (by decide)]; obtain ⟨e1, e2, e3⟩ := h17 h; exact ⟨e1, e2, hgrown hG e3 (fun e => hD17_18 h (ready_dep hi (by kernel_rfl)) (Option.some.inj e).symm)⟩), (fun _ => ⟨rfl, e2, by rw [getD_set_eq (by omega)]; exact hN⟩), (fun h h2 => hD16_17 (by rwa [getD_set_ne (by decide)] at h) (by rwa [getD_set_ne (by decide)] at h2)), (fun h h2 => hD16_18 (by rwa [getD_set_ne (by decide)] at h) (by rwa [getD_set_ne (by decide)] at h2)), (fun h h2 => hD17_18 (by rwa [getD_set_ne (by decide)] at h) (by rwa [getD_set_ne (by decide)] at h2)), (fun h => by rw [getD_set_ne (by decide)] at h ⊢; exact hS16 h), (fun h => by rw [getD_set_ne (by decide)] at h ⊢; exact hS17 h), (fun _ => by rw [getD_set_ne (by decide)]; exact ready_dep hi (by kernel_rfl))⟩
  · intro L a wi hI hall
    unfold PrA at hI
    obtain ⟨s0, s1, s2, s3, s4, s5, s6, s7, s8, s9, s10, s11, s12, s13, s14, s15, s16, s17, s18, p16, p17, p18, rfl, hB, hF_C, hF_A, hF_B, h0, h1, h2, h3, h4, h5, h6, h7, h8, h9, h10, h11, h12, h13, h14, h15, h16, h17, h18, hD16_17, hD16_18, hD17_18, hS16, hS17, hS18⟩ := hI
    have e0 := h0 (hall 0 (by decide))
    subst e0
    have e1 := h1 (hall 1 (by decide))
    subst e1
    have e2 := h2 (hall 2 (by decide))
    subst e2
    have e3 := h3 (hall 3 (by decide))
    subst e3
    have e4 := h4 (hall 4 (by decide))
    subst e4
    have e5 := h5 (hall 5 (by decide))
    subst e5
    have e6 := h6 (hall 6 (by decide))
    subst e6
    have e7 := h7 (hall 7 (by decide))
    subst e7
    have e8 := h8 (hall 8 (by decide))
    subst e8
    have e9 := h9 (hall 9 (by decide))
    subst e9
    have e10 := h10 (hall 10 (by decide))
    subst e10
    have e11 := h11 (hall 11 (by decide))
    subst e11
    have e12 := h12 (hall 12 (by decide))
    subst e12
    have e13 := h13 (hall 13 (by decide))
    subst e13
    have e14 := h14 (hall 14 (by decide))
    subst e14
    have e15 := h15 (hall 15 (by decide))
    subst e15
    obtain ⟨e16, b16, g16⟩ := h16 (hall 16 (by decide))
    rw [if_pos (hall 19 (by decide))] at g16
    subst e16
    obtain ⟨e17, b17, g17⟩ := h17 (hall 17 (by decide))
    rw [if_pos (hall 20 (by decide))] at g17
    subst e17
    obtain ⟨e18, b18, g18⟩ := h18 (hall 18 (by decide))
    rw [if_pos (hall 21 (by decide))] at g18
    subst e18
    replace hD16_17 := hD16_17 (hall 16 (by decide)) (hall 17 (by decide))
    replace hD16_18 := hD16_18 (hall 16 (by decide)) (hall 18 (by decide))
    replace hD17_18 := hD17_18 (hall 17 (by decide)) (hall 18 (by decide))
    clear hall h16 h17 h18 hS16 hS17 hS18
    simp only [max_if, min_if] at g17 g18 ⊢
    have hB1 := hB0.trans (hB.mono hB0.size)
    have hTi : T + 2 < wi.heap.size := hblt hF_B
    have hl16 := hblt g16
    have hl17 := hblt g17
    have hl18 := hblt g18
    have hAl : Below wi.heap.size wi (wi.alloc (.cells #[.func (.func 91) #[] #[.pointer (some ⟨T + 1, 0, none⟩), .pointer (some ⟨T + 2, 0, none⟩)]] 173 (0, 0))) := (Below.refl _ _).alloc (Nat.le_refl _) _
    have hS2 := World.alloc_heap_new wi (.cells #[.func (.func 91) #[] #[.pointer (some ⟨T + 1, 0, none⟩), .pointer (some ⟨T + 2, 0, none⟩)]] 173 (0, 0))
    obtain ⟨w2, hw2⟩ : ∃ W, W = wi.alloc (.cells #[.func (.func 91) #[] #[.pointer (some ⟨T + 1, 0, none⟩), .pointer (some ⟨T + 2, 0, none⟩)]] 173 (0, 0)) := ⟨_, rfl⟩
    rw [← hw2] at hAl hS2
    have hC2 := hkeep hAl hF_C
    have hA2 := hkeep hAl hF_A
    have hBB2 := hkeep hAl hF_B
    have hX16 := hkeep hAl g16
    have hX17 := hkeep hAl g17
    have hX18 := hkeep hAl g18
    have hB2 := hB1.trans (hAl.mono hB1.size)
    obtain ⟨ps, hps⟩ : ∃ p, p = wi.heap.size := ⟨_, rfl⟩
    rw [← hps] at hS2 hTi hl16 hl17 hl18
    have HPS := Lib.hid hps
    have hH := hB0.size
    have hwps : w.heap.size ≤ ps := by omega
    clear hps hAl hF_C hF_A hF_B g16 g17 g18 hB hB1 q1 k1 k2 k3 k4 k5 k6 j1 j2 j3 j4 j5 j6
    cases up with
    | false =>
      go_upto_region 6 with fail
      rw [← hw2, ← HPS.out]
      clear hw2 HPS
      go_wp2
      go_ret
      obtain ⟨e1, e2, e3⟩ := HF.out
      obtain ⟨⟨l1, l2⟩, l3, l4⟩ := HL.out
      obtain ⟨s1, s2⟩ := HS.out _ hB2
      refine ⟨_, rfl, ⟨p17, p18, p16, ps, T, T + 1, T + 2, rfl, ⟨by omega, by omega, by omega, by omega, by omega, by omega, by omega⟩, ⟨?_, ?_, ?_, hS2, hC2, ?_, ?_, s1, s2⟩⟩, hB2⟩
      · rw [e1]; exact hX17
      · rw [e2]; exact hX18
      · rw [e3]; exact hX16
      · dsimp only [rcO]; rw [← l1, ← l2]; exact hA2
      · dsimp only [rcO]; rw [← l3, ← l4]; exact hBB2
    | true =>
      go_upto_region 4 with fail
      rw [← hw2, ← HPS.out]
      clear hw2 HPS
      refine wp_region_inv (PrB T cl climb height rise run cw cd ax0 az0 ax1 az1 aar bx0 bz0 bx1 bz1 bar aya ata bya bta ayn ayc atn atc byn byc btn btc p16 p17 p18 ps w.heap.size w2 (fun s0 s1 s2 s3 s4 s5 s6 s7 s8 s9 s10 s11 s12 s13 s14 s15 => #[Value.agg #[Value.int IntKind.i64 cl, Value.int IntKind.i64 climb, Value.int IntKind.i64 height, Value.int IntKind.i64 rise, Value.int IntKind.i64 run, Value.int IntKind.i64 cw, Value.int IntKind.i64 cd], Value.agg #[Value.int IntKind.i64 ax0, Value.int IntKind.i64 az0, Value.int IntKind.i64 ax1, Value.int IntKind.i64 az1, Value.int IntKind.i64 aar, Value.slice aya ayn ayc, Value.slice ata atn atc], Value.agg #[Value.int IntKind.i64 bx0, Value.int IntKind.i64 bz0, Value.int IntKind.i64 bx1, Value.int IntKind.i64 bz1, Value.int IntKind.i64 bar, Value.slice bya byn byc, Value.slice bta btn btc], Value.bool true, Value.pointer (some { block := T, off := 0 }), Value.pointer (some { block := T + 1, off := 0 }), Value.pointer (some { block := T + 1 + 1, off := 0 }), undef, Value.nilFunc, Value.pointer (some { block := p16, off := 0 }), Value.pointer (some { block := p17, off := 0 }), Value.pointer (some { block := p18, off := 0 }), Value.pointer (some { block := ps, off := 0 }), Value.pointer (some { block := T + 1, off := 3 }), Value.int IntKind.i64 az1, Value.int IntKind.i64 (az1 + 1), Value.pointer (some { block := T + 2, off := 1 }), Value.int IntKind.i64 bz0, Value.bool (az1 + 1 == bz0), Value.pointer (some { block := T + 1, off := 0 }), Value.int IntKind.i64 ax0, Value.pointer (some { block := T + 2, off := 0 }), Value.int IntKind.i64 bx0, Value.int IntKind.i64 (max ax0 bx0), Value.pointer (some { block := T + 1, off := 2 }), Value.int IntKind.i64 ax1, Value.pointer (some { block := T + 2, off := 2 }), Value.int IntKind.i64 bx1, Value.int IntKind.i64 (min ax1 bx1), Value.func (Fn.func 91) #[] #[Value.pointer (some { block := T + 1, off := 0 }), Value.pointer (some { block := T + 1 + 1, off := 0 })], Value.bool true, s0, s1, s2, s3, s4, s5, s6, s7, s8, s9, s10, s11, s12, s13, s14, s15, undef, undef]) []) (by kernel_rfl) (by kernel_rfl) ?_ ?_ ?_
      · unfold PrB
        refine ⟨_, _, _, _, _, _, _, _, _, _, _, _, _, _, _, _, rfl, (Below.refl _ _).drew, hC2, hA2, hBB2, hS2, hX16, hX17, hX18, (fun h => by cases (show false = true from h)), (fun h => by cases (show false = true from h)), (fun h => by cases (show false = true from h)), (fun h => by cases (show false = true from h)), (fun h => by cases (show false = true from h)), (fun h => by cases (show false = true from h)), (fun h => by cases (show false = true from h)), (fun h => by cases (show false = true from h)), (fun h => by cases (show false = true from h)), (fun h => by cases (show false = true from h)), (fun h => by cases (show false = true from h)), (fun h => by cases (show false = true from h)), (fun h => by cases (show false = true from h)), (fun h => by cases (show false = true from h)), (fun h => by cases (show false = true from h)), (fun h => by cases (show false = true from h))⟩
      · intro L a wi i hs hI hi
        have hsN : L.size = 19 := hs
        have hn := ready_elim hi
        have hlt : i < 19 := by
            obtain ⟨o, ho, _⟩ := hn.2
            exact (Array.getElem?_eq_some_iff.1 ho).1
        have hi' := ready_not hi false (by rw [hs]; exact hlt)
        clear hn
        unfold PrB at hI
        obtain ⟨s0, s1, s2, s3, s4, s5, s6, s7, s8, s9, s10, s11, s12, s13, s14, s15, rfl, hB, hF_C, hF_A, hF_B, hF_S, hX_X0, hX_X1, hX_X2, h0, h1, h2, h3, h4, h5, h6, h7, h8, h9, h10, h11, h12, h13, h14, h15⟩ := hI
        rcases (by omega : i = 0 ∨ i = 1 ∨ i = 2 ∨ i = 3 ∨ i = 4 ∨ i = 5 ∨ i = 6 ∨ i = 7 ∨ i = 8 ∨ i = 9 ∨ i = 10 ∨ i = 11 ∨ i = 12 ∨ i = 13 ∨ i = 14 ∨ i = 15 ∨ i = 16 ∨ i = 17 ∨ i = 18) with rfl | rfl | rfl | rfl | rfl | rfl | rfl | rfl | rfl | rfl | rfl | rfl | rfl | rfl | rfl | rfl | rfl | rfl | rfl
        · skip
          refine wpOp_of rfl rfl ?_
          go_simp
          unfold PrB
          exact ⟨_, _, _, _, _, _, _, _, _, _, _, _, _, _, _, _, rfl, (hB), (hF_C), (hF_A), (hF_B), (hF_S), (by rw [getD_set_ne (by decide)]; exact hX_X0), (by rw [getD_set_ne (by decide)]; exact hX_X1), (by rw [getD_set_ne (by decide)]; exact hX_X2), (fun _ => rfl), (fun h => h1 (by rwa [getD_set_ne (by decide)] at h)), (fun h => h2 (by rwa [getD_set_ne (by decide)] at h)), (fun h => h3 (by rwa [getD_set_ne (by decide)] at h)), (fun h => h4 (by rwa [getD_set_ne (by decide)] at h)), (fun h => h5 (by rwa [getD_set_ne (by decide)] at h)), (fun h => h6 (by rwa [getD_set_ne (by decide)] at h)), (fun h => h7 (by rwa [getD_set_ne (by decide)] at h)), (fun h => h8 (by rwa [getD_set_ne (by decide)] at h)), (fun h => h9 (by rwa [getD_set_ne (by decide)] at h)), (fun h => h10 (by rwa [getD_set_ne (by decide)] at h)), (fun h => h11 (by rwa [getD_set_ne (by decide)] at h)), (fun h => h12 (by rwa [getD_set_ne (by decide)] at h)), (fun h => h13 (by rwa [getD_set_ne (by decide)] at h)), (fun h => h14 (by rwa [getD_set_ne (by decide)] at h)), (fun h => h15 (by rwa [getD_set_ne (by decide)] at h))⟩
        · skip
          have e0 := h0 (ready_dep hi (by kernel_rfl))
          subst e0
          have c := hcell (k := 2) (v := .int .i64 ax1) hF_A rfl
          refine wpOp_of rfl rfl ?_
          go_simp
          unfold PrB
          exact ⟨_, _, _, _, _, _, _, _, _, _, _, _, _, _, _, _, rfl, (hB), (hF_C), (hF_A), (hF_B), (hF_S), (by rw [getD_set_ne (by decide)]; exact hX_X0), (by rw [getD_set_ne (by decide)]; exact hX_X1), (by rw [getD_set_ne (by decide)]; exact hX_X2), (fun h => h0 (by rwa [getD_set_ne (by decide)] at h)), (fun _ => rfl), (fun h => h2 (by rwa [getD_set_ne (by decide)] at h)), (fun h => h3 (by rwa [getD_set_ne (by decide)] at h)), (fun h => h4 (by rwa [getD_set_ne (by decide)] at h)), (fun h => h5 (by rwa [getD_set_ne (by decide)] at h)), (fun h => h6 (by rwa [getD_set_ne (by decide)] at h)), (fun h => h7 (by rwa [getD_set_ne (by decide)] at h)), (fun h => h8 (by rwa [getD_set_ne (by decide)] at h)), (fun h => h9 (by rwa [getD_set_ne (by decide)] at h)), (fun h => h10 (by rwa [getD_set_ne (by decide)] at h)), (fun h => h11 (by rwa [getD_set_ne (by decide)] at h)), (fun h => h12 (by rwa [getD_set_ne (by decide)] at h)), (fun h => h13 (by rwa [getD_set_ne (by decide)] at h)), (fun h => h14 (by rwa [getD_set_ne (by decide)] at h)), (fun h => h15 (by rwa [getD_set_ne (by decide)] at h))⟩
        · skip
          have e1 := h1 (ready_dep hi (by kernel_rfl))
          subst e1
          refine wpOp_of rfl rfl ?_
          go_simp
          unfold PrB
          exact ⟨_, _, _, _, _, _, _, _, _, _, _, _, _, _, _, _, rfl, (hB), (hF_C), (hF_A), (hF_B), (hF_S), (by rw [getD_set_ne (by decide)]; exact hX_X0), (by rw [getD_set_ne (by decide)]; exact hX_X1), (by rw [getD_set_ne (by decide)]; exact hX_X2), (fun h => h0 (by rwa [getD_set_ne (by decide)] at h)), (fun h => h1 (by rwa [getD_set_ne (by decide)] at h)), (fun _ => rfl), (fun h => h3 (by rwa [getD_set_ne (by decide)] at h)), (fun h => h4 (by rwa [getD_set_ne (by decide)] at h)), (fun h => h5 (by rwa [getD_set_ne (by decide)] at h)), (fun h => h6 (by rwa [getD_set_ne (by decide)] at h)), (fun h => h7 (by rwa [getD_set_ne (by decide)] at h)), (fun h => h8 (by rwa [getD_set_ne (by decide)] at h)), (fun h => h9 (by rwa [getD_set_ne (by decide)] at h)), (fun h => h10 (by rwa [getD_set_ne (by decide)] at h)), (fun h => h11 (by rwa [getD_set_ne (by decide)] at h)), (fun h => h12 (by rwa [getD_set_ne (by decide)] at h)), (fun h => h13 (by rwa [getD_set_ne (by decide)] at h)), (fun h => h14 (by rwa [getD_set_ne (by decide)] at h)), (fun h => h15 (by rwa [getD_set_ne (by decide)] at h))⟩
        · skip
          refine wpOp_of rfl rfl ?_
          go_simp
          unfold PrB
          exact ⟨_, _, _, _, _, _, _, _, _, _, _, _, _, _, _, _, rfl, (hB), (hF_C), (hF_A), (hF_B), (hF_S), (by rw [getD_set_ne (by decide)]; exact hX_X0), (by rw [getD_set_ne (by decide)]; exact hX_X1), (by rw [getD_set_ne (by decide)]; exact hX_X2), (fun h => h0 (by rwa [getD_set_ne (by decide)] at h)), (fun h => h1 (by rwa [getD_set_ne (by decide)] at h)), (fun h => h2 (by rwa [getD_set_ne (by decide)] at h)), (fun _ => rfl), (fun h => h4 (by rwa [getD_set_ne (by decide)] at h)), (fun h => h5 (by rwa [getD_set_ne (by decide)] at h)), (fun h => h6 (by rwa [getD_set_ne (by decide)] at h)), (fun h => h7 (by rwa [getD_set_ne (by decide)] at h)), (fun h => h8 (by rwa [getD_set_ne (by decide)] at h)), (fun h => h9 (by rwa [getD_set_ne (by decide)] at h)), (fun h => h10 (by rwa [getD_set_ne (by decide)] at h)), (fun h => h11 (by rwa [getD_set_ne (by decide)] at h)), (fun h => h12 (by rwa [getD_set_ne (by decide)] at h)), (fun h => h13 (by rwa [getD_set_ne (by decide)] at h)), (fun h => h14 (by rwa [getD_set_ne (by decide)] at h)), (fun h => h15 (by rwa [getD_set_ne (by decide)] at h))⟩
        · skip
          have e3 := h3 (ready_dep hi (by kernel_rfl))
          subst e3
          have c := hcell (k := 0) (v := .int .i64 bx0) hF_B rfl
          refine wpOp_of rfl rfl ?_
          go_simp
          unfold PrB
          exact ⟨_, _, _, _, _, _, _, _, _, _, _, _, _, _, _, _, rfl, (hB), (hF_C), (hF_A), (hF_B), (hF_S), (by rw [getD_set_ne (by decide)]; exact hX_X0), (by rw [getD_set_ne (by decide)]; exact hX_X1), (by rw [getD_set_ne (by decide)]; exact hX_X2), (fun h => h0 (by rwa [getD_set_ne (by decide)] at h)), (fun h => h1 (by rwa [getD_set_ne (by decide)] at h)), (fun h => h2 (by rwa [getD_set_ne (by decide)] at h)), (fun h => h3 (by rwa [getD_set_ne (by decide)] at h)), (fun _ => rfl), (fun h => h5 (by rwa [getD_set_ne (by decide)] at h)), (fun h => h6 (by rwa [getD_set_ne (by decide)] at h)), (fun h => h7 (by rwa [getD_set_ne (by decide)] at h)), (fun h => h8 (by rwa [getD_set_ne (by decide)] at h)), (fun h => h9 (by rwa [getD_set_ne (by decide)] at h)), (fun h => h10 (by rwa [getD_set_ne (by decide)] at h)), (fun h => h11 (by rwa [getD_set_ne (by decide)] at h)), (fun h => h12 (by rwa [getD_set_ne (by decide)] at h)), (fun h => h13 (by rwa [getD_set_ne (by decide)] at h)), (fun h => h14 (by rwa [getD_set_ne (by decide)] at h)), (fun h => h15 (by rwa [getD_set_ne (by decide)] at h))⟩
        · skip
          have e2 := h2 (ready_dep hi (by kernel_rfl))
          subst e2
          have e4 := h4 (ready_dep hi (by kernel_rfl))
          subst e4
          refine wpOp_of rfl rfl ?_
          go_simp
          unfold PrB
          exact ⟨_, _, _, _, _, _, _, _, _, _, _, _, _, _, _, _, rfl, (hB), (hF_C), (hF_A), (hF_B), (hF_S), (by rw [getD_set_ne (by decide)]; exact hX_X0), (by rw [getD_set_ne (by decide)]; exact hX_X1), (by rw [getD_set_ne (by decide)]; exact hX_X2), (fun h => h0 (by rwa [getD_set_ne (by decide)] at h)), (fun h => h1 (by rwa [getD_set_ne (by decide)] at h)), (fun h => h2 (by rwa [getD_set_ne (by decide)] at h)), (fun h => h3 (by rwa [getD_set_ne (by decide)] at h)), (fun h => h4 (by rwa [getD_set_ne (by decide)] at h)), (fun _ => rfl), (fun h => h6 (by rwa [getD_set_ne (by decide)] at h)), (fun h => h7 (by rwa [getD_set_ne (by decide)] at h)), (fun h => h8 (by rwa [getD_set_ne (by decide)] at h)), (fun h => h9 (by rwa [getD_set_ne (by decide)] at h)), (fun h => h10 (by rwa [getD_set_ne (by decide)] at h)), (fun h => h11 (by rwa [getD_set_ne (by decide)] at h)), (fun h => h12 (by rwa [getD_set_ne (by decide)] at h)), (fun h => h13 (by rwa [getD_set_ne (by decide)] at h)), (fun h => h14 (by rwa [getD_set_ne (by decide)] at h)), (fun h => h15 (by rwa [getD_set_ne (by decide)] at h))⟩
        · skip
          refine wpOp_of rfl rfl ?_
          go_simp
          unfold PrB
          exact ⟨_, _, _, _, _, _, _, _, _, _, _, _, _, _, _, _, rfl, (hB), (hF_C), (hF_A), (hF_B), (hF_S), (by rw [getD_set_ne (by decide)]; exact hX_X0), (by rw [getD_set_ne (by decide)]; exact hX_X1), (by rw [getD_set_ne (by decide)]; exact hX_X2), (fun h => h0 (by rwa [getD_set_ne (by decide)] at h)), (fun h => h1 (by rwa [getD_set_ne (by decide)] at h)), (fun h => h2 (by rwa [getD_set_ne (by decide)] at h)), (fun h => h3 (by rwa [getD_set_ne (by decide)] at h)), (fun h => h4 (by rwa [getD_set_ne (by decide)] at h)), (fun h => h5 (by rwa [getD_set_ne (by decide)] at h)), (fun _ => rfl), (fun h => h7 (by rwa [getD_set_ne (by decide)] at h)), (fun h => h8 (by rwa [getD_set_ne (by decide)] at h)), (fun h => h9 (by rwa [getD_set_ne (by decide)] at h)), (fun h => h10 (by rwa [getD_set_ne (by decide)] at h)), (fun h => h11 (by rwa [getD_set_ne (by decide)] at h)), (fun h => h12 (by rwa [getD_set_ne (by decide)] at h)), (fun h => h13 (by rwa [getD_set_ne (by decide)] at h)), (fun h => h14 (by rwa [getD_set_ne (by decide)] at h)), (fun h => h15 (by rwa [getD_set_ne (by decide)] at h))⟩
        · skip
          have e6 := h6 (ready_dep hi (by kernel_rfl))
          subst e6
          have c := hcell (k := 1) (v := .int .i64 az0) hF_A rfl
          refine wpOp_of rfl rfl ?_
          go_simp
          unfold PrB
          exact ⟨_, _, _, _, _, _, _, _, _, _, _, _, _, _, _, _, rfl, (hB), (hF_C), (hF_A), (hF_B), (hF_S), (by rw [getD_set_ne (by decide)]; exact hX_X0), (by rw [getD_set_ne (by decide)]; exact hX_X1), (by rw [getD_set_ne (by decide)]; exact hX_X2), (fun h => h0 (by rwa [getD_set_ne (by decide)] at h)), (fun h => h1 (by rwa [getD_set_ne (by decide)] at h)), (fun h => h2 (by rwa [getD_set_ne (by decide)] at h)), (fun h => h3 (by rwa [getD_set_ne (by decide)] at h)), (fun h => h4 (by rwa [getD_set_ne (by decide)] at h)), (fun h => h5 (by rwa [getD_set_ne (by decide)] at h)), (fun h => h6 (by rwa [getD_set_ne (by decide)] at h)), (fun _ => rfl), (fun h => h8 (by rwa [getD_set_ne (by decide)] at h)), (fun h => h9 (by rwa [getD_set_ne (by decide)] at h)), (fun h => h10 (by rwa [getD_set_ne (by decide)] at h)), (fun h => h11 (by rwa [getD_set_ne (by decide)] at h)), (fun h => h12 (by rwa [getD_set_ne (by decide)] at h)), (fun h => h13 (by rwa [getD_set_ne (by decide)] at h)), (fun h => h14 (by rwa [getD_set_ne (by decide)] at h)), (fun h => h15 (by rwa [getD_set_ne (by decide)] at h))⟩
        · skip
          refine wpOp_of rfl rfl ?_
          go_simp
          unfold PrB
          exact ⟨_, _, _, _, _, _, _, _, _, _, _, _, _, _, _, _, rfl, (hB), (hF_C), (hF_A), (hF_B), (hF_S), (by rw [getD_set_ne (by decide)]; exact hX_X0), (by rw [getD_set_ne (by decide)]; exact hX_X1), (by rw [getD_set_ne (by decide)]; exact hX_X2), (fun h => h0 (by rwa [getD_set_ne (by decide)] at h)), (fun h => h1 (by rwa [getD_set_ne (by decide)] at h)), (fun h => h2 (by rwa [getD_set_ne (by decide)] at h)), (fun h => h3 (by rwa [getD_set_ne (by decide)] at h)), (fun h => h4 (by rwa [getD_set_ne (by decide)] at h)), (fun h => h5 (by rwa [getD_set_ne (by decide)] at h)), (fun h => h6 (by rwa [getD_set_ne (by decide)] at h)), (fun h => h7 (by rwa [getD_set_ne (by decide)] at h)), (fun _ => rfl), (fun h => h9 (by rwa [getD_set_ne (by decide)] at h)), (fun h => h10 (by rwa [getD_set_ne (by decide)] at h)), (fun h => h11 (by rwa [getD_set_ne (by decide)] at h)), (fun h => h12 (by rwa [getD_set_ne (by decide)] at h)), (fun h => h13 (by rwa [getD_set_ne (by decide)] at h)), (fun h => h14 (by rwa [getD_set_ne (by decide)] at h)), (fun h => h15 (by rwa [getD_set_ne (by decide)] at h))⟩
        · skip
          have e8 := h8 (ready_dep hi (by kernel_rfl))
          subst e8
          have c := hcell (k := 1) (v := .int .i64 bz0) hF_B rfl
          refine wpOp_of rfl rfl ?_
          go_simp
          unfold PrB
          exact ⟨_, _, _, _, _, _, _, _, _, _, _, _, _, _, _, _, rfl, (hB), (hF_C), (hF_A), (hF_B), (hF_S), (by rw [getD_set_ne (by decide)]; exact hX_X0), (by rw [getD_set_ne (by decide)]; exact hX_X1), (by rw [getD_set_ne (by decide)]; exact hX_X2), (fun h => h0 (by rwa [getD_set_ne (by decide)] at h)), (fun h => h1 (by rwa [getD_set_ne (by decide)] at h)), (fun h => h2 (by rwa [getD_set_ne (by decide)] at h)), (fun h => h3 (by rwa [getD_set_ne (by decide)] at h)), (fun h => h4 (by rwa [getD_set_ne (by decide)] at h)), (fun h => h5 (by rwa [getD_set_ne (by decide)] at h)), (fun h => h6 (by rwa [getD_set_ne (by decide)] at h)), (fun h => h7 (by rwa [getD_set_ne (by decide)] at h)), (fun h => h8 (by rwa [getD_set_ne (by decide)] at h)), (fun _ => rfl), (fun h => h10 (by rwa [getD_set_ne (by decide)] at h)), (fun h => h11 (by rwa [getD_set_ne (by decide)] at h)), (fun h => h12 (by rwa [getD_set_ne (by decide)] at h)), (fun h => h13 (by rwa [getD_set_ne (by decide)] at h)), (fun h => h14 (by rwa [getD_set_ne (by decide)] at h)), (fun h => h15 (by rwa [getD_set_ne (by decide)] at h))⟩
        · skip
          have e7 := h7 (ready_dep hi (by kernel_rfl))
          subst e7
          have e9 := h9 (ready_dep hi (by kernel_rfl))
          subst e9
          refine wpOp_of rfl rfl ?_
          go_simp
          unfold PrB
          exact ⟨_, _, _, _, _, _, _, _, _, _, _, _, _, _, _, _, rfl, (hB), (hF_C), (hF_A), (hF_B), (hF_S), (by rw [getD_set_ne (by decide)]; exact hX_X0), (by rw [getD_set_ne (by decide)]; exact hX_X1), (by rw [getD_set_ne (by decide)]; exact hX_X2), (fun h => h0 (by rwa [getD_set_ne (by decide)] at h)), (fun h => h1 (by rwa [getD_set_ne (by decide)] at h)), (fun h => h2 (by rwa [getD_set_ne (by decide)] at h)), (fun h => h3 (by rwa [getD_set_ne (by decide)] at h)), (fun h => h4 (by rwa [getD_set_ne (by decide)] at h)), (fun h => h5 (by rwa [getD_set_ne (by decide)] at h)), (fun h => h6 (by rwa [getD_set_ne (by decide)] at h)), (fun h => h7 (by rwa [getD_set_ne (by decide)] at h)), (fun h => h8 (by rwa [getD_set_ne (by decide)] at h)), (fun h => h9 (by rwa [getD_set_ne (by decide)] at h)), (fun _ => rfl), (fun h => h11 (by rwa [getD_set_ne (by decide)] at h)), (fun h => h12 (by rwa [getD_set_ne (by decide)] at h)), (fun h => h13 (by rwa [getD_set_ne (by decide)] at h)), (fun h => h14 (by rwa [getD_set_ne (by decide)] at h)), (fun h => h15 (by rwa [getD_set_ne (by decide)] at h))⟩
        · skip
          refine wpOp_of rfl rfl ?_
          go_simp
          unfold PrB
          exact ⟨_, _, _, _, _, _, _, _, _, _, _, _, _, _, _, _, rfl, (hB), (hF_C), (hF_A), (hF_B), (hF_S), (by rw [getD_set_ne (by decide)]; exact hX_X0), (by rw [getD_set_ne (by decide)]; exact hX_X1), (by rw [getD_set_ne (by decide)]; exact hX_X2), (fun h => h0 (by rwa [getD_set_ne (by decide)] at h)), (fun h => h1 (by rwa [getD_set_ne (by decide)] at h)), (fun h => h2 (by rwa [getD_set_ne (by decide)] at h)), (fun h => h3 (by rwa [getD_set_ne (by decide)] at h)), (fun h => h4 (by rwa [getD_set_ne (by decide)] at h)), (fun h => h5 (by rwa [getD_set_ne (by decide)] at h)), (fun h => h6 (by rwa [getD_set_ne (by decide)] at h)), (fun h => h7 (by rwa [getD_set_ne (by decide)] at h)), (fun h => h8 (by rwa [getD_set_ne (by decide)] at h)), (fun h => h9 (by rwa [getD_set_ne (by decide)] at h)), (fun h => h10 (by rwa [getD_set_ne (by decide)] at h)), (fun _ => rfl), (fun h => h12 (by rwa [getD_set_ne (by decide)] at h)), (fun h => h13 (by rwa [getD_set_ne (by decide)] at h)), (fun h => h14 (by rwa [getD_set_ne (by decide)] at h)), (fun h => h15 (by rwa [getD_set_ne (by decide)] at h))⟩
        · skip
          have e11 := h11 (ready_dep hi (by kernel_rfl))
          subst e11
          have c := hcell (k := 3) (v := .int .i64 az1) hF_A rfl
          refine wpOp_of rfl rfl ?_
          go_simp
          unfold PrB
          exact ⟨_, _, _, _, _, _, _, _, _, _, _, _, _, _, _, _, rfl, (hB), (hF_C), (hF_A), (hF_B), (hF_S), (by rw [getD_set_ne (by decide)]; exact hX_X0), (by rw [getD_set_ne (by decide)]; exact hX_X1), (by rw [getD_set_ne (by decide)]; exact hX_X2), (fun h => h0 (by rwa [getD_set_ne (by decide)] at h)), (fun h => h1 (by rwa [getD_set_ne (by decide)] at h)), (fun h => h2 (by rwa [getD_set_ne (by decide)] at h)), (fun h => h3 (by rwa [getD_set_ne (by decide)] at h)), (fun h => h4 (by rwa [getD_set_ne (by decide)] at h)), (fun h => h5 (by rwa [getD_set_ne (by decide)] at h)), (fun h => h6 (by rwa [getD_set_ne (by decide)] at h)), (fun h => h7 (by rwa [getD_set_ne (by decide)] at h)), (fun h => h8 (by rwa [getD_set_ne (by decide)] at h)), (fun h => h9 (by rwa [getD_set_ne (by decide)] at h)), (fun h => h10 (by rwa [getD_set_ne (by decide)] at h)), (fun h => h11 (by rwa [getD_set_ne (by decide)] at h)), (fun _ => rfl), (fun h => h13 (by rwa [getD_set_ne (by decide)] at h)), (fun h => h14 (by rwa [getD_set_ne (by decide)] at h)), (fun h => h15 (by rwa [getD_set_ne (by decide)] at h))⟩
        · skip
          refine wpOp_of rfl rfl ?_
          go_simp
          unfold PrB
          exact ⟨_, _, _, _, _, _, _, _, _, _, _, _, _, _, _, _, rfl, (hB), (hF_C), (hF_A), (hF_B), (hF_S), (by rw [getD_set_ne (by decide)]; exact hX_X0), (by rw [getD_set_ne (by decide)]; exact hX_X1), (by rw [getD_set_ne (by decide)]; exact hX_X2), (fun h => h0 (by rwa [getD_set_ne (by decide)] at h)), (fun h => h1 (by rwa [getD_set_ne (by decide)] at h)), (fun h => h2 (by rwa [getD_set_ne (by decide)] at h)), (fun h => h3 (by rwa [getD_set_ne (by decide)] at h)), (fun h => h4 (by rwa [getD_set_ne (by decide)] at h)), (fun h => h5 (by rwa [getD_set_ne (by decide)] at h)), (fun h => h6 (by rwa [getD_set_ne (by decide)] at h)), (fun h => h7 (by rwa [getD_set_ne (by decide)] at h)), (fun h => h8 (by rwa [getD_set_ne (by decide)] at h)), (fun h => h9 (by rwa [getD_set_ne (by decide)] at h)), (fun h => h10 (by rwa [getD_set_ne (by decide)] at h)), (fun h => h11 (by rwa [getD_set_ne (by decide)] at h)), (fun h => h12 (by rwa [getD_set_ne (by decide)] at h)), (fun _ => rfl), (fun h => h14 (by rwa [getD_set_ne (by decide)] at h)), (fun h => h15 (by rwa [getD_set_ne (by decide)] at h))⟩
        · skip
          have e13 := h13 (ready_dep hi (by kernel_rfl))
          subst e13
          have c := hcell (k := 3) (v := .int .i64 bz1) hF_B rfl
          refine wpOp_of rfl rfl ?_
          go_simp
          unfold PrB
          exact ⟨_, _, _, _, _, _, _, _, _, _, _, _, _, _, _, _, rfl, (hB), (hF_C), (hF_A), (hF_B), (hF_S), (by rw [getD_set_ne (by decide)]; exact hX_X0), (by rw [getD_set_ne (by decide)]; exact hX_X1), (by rw [getD_set_ne (by decide)]; exact hX_X2), (fun h => h0 (by rwa [getD_set_ne (by decide)] at h)), (fun h => h1 (by rwa [getD_set_ne (by decide)] at h)), (fun h => h2 (by rwa [getD_set_ne (by decide)] at h)), (fun h => h3 (by rwa [getD_set_ne (by decide)] at h)), (fun h => h4 (by rwa [getD_set_ne (by decide)] at h)), (fun h => h5 (by rwa [getD_set_ne (by decide)] at h)), (fun h => h6 (by rwa [getD_set_ne (by decide)] at h)), (fun h => h7 (by rwa [getD_set_ne (by decide)] at h)), (fun h => h8 (by rwa [getD_set_ne (by decide)] at h)), (fun h => h9 (by rwa [getD_set_ne (by decide)] at h)), (fun h => h10 (by rwa [getD_set_ne (by decide)] at h)), (fun h => h11 (by rwa [getD_set_ne (by decide)] at h)), (fun h => h12 (by rwa [getD_set_ne (by decide)] at h)), (fun h => h13 (by rwa [getD_set_ne (by decide)] at h)), (fun _ => rfl), (fun h => h15 (by rwa [getD_set_ne (by decide)] at h))⟩
        · skip
          have e12 := h12 (ready_dep hi (by kernel_rfl))
          subst e12
          have e14 := h14 (ready_dep hi (by kernel_rfl))
          subst e14
          refine wpOp_of rfl rfl ?_
          go_simp
          unfold PrB
          exact ⟨_, _, _, _, _, _, _, _, _, _, _, _, _, _, _, _, rfl, (hB), (hF_C), (hF_A), (hF_B), (hF_S), (by rw [getD_set_ne (by decide)]; exact hX_X0), (by rw [getD_set_ne (by decide)]; exact hX_X1), (by rw [getD_set_ne (by decide)]; exact hX_X2), (fun h => h0 (by rwa [getD_set_ne (by decide)] at h)), (fun h => h1 (by rwa [getD_set_ne (by decide)] at h)), (fun h => h2 (by rwa [getD_set_ne (by decide)] at h)), (fun h => h3 (by rwa [getD_set_ne (by decide)] at h)), (fun h => h4 (by rwa [getD_set_ne (by decide)] at h)), (fun h => h5 (by rwa [getD_set_ne (by decide)] at h)), (fun h => h6 (by rwa [getD_set_ne (by decide)] at h)), (fun h => h7 (by rwa [getD_set_ne (by decide)] at h)), (fun h => h8 (by rwa [getD_set_ne (by decide)] at h)), (fun h => h9 (by rwa [getD_set_ne (by decide)] at h)), (fun h => h10 (by rwa [getD_set_ne (by decide)] at h)), (fun h => h11 (by rwa [getD_set_ne (by decide)] at h)), (fun h => h12 (by rwa [getD_set_ne (by decide)] at h)), (fun h => h13 (by rwa [getD_set_ne (by decide)] at h)), (fun h => h14 (by rwa [getD_set_ne (by decide)] at h)), (fun _ => rfl)⟩
        · skip
          have e5 := h5 (ready_dep hi (by kernel_rfl))
          subst e5
          have e3 := hX_X0
          rw [hi'] at e3
          have e3 : wi.heap[p16]? = some (.cells #[.bool (az1 + 1 == bz0)] 4 (0, 0)) := e3
          have f0 := hfroz (k := 0) e3
          have z0 := hcell (k := 0) (v := .bool (az1 + 1 == bz0)) e3 rfl
          have hG := bx1_grown (w := wi) (b := p16) (.bool (ax1 + 1 == bx0))
          have hN := bx1_set e3 (.bool (ax1 + 1 == bx0))
          refine wpOp_of rfl rfl ?_
          go_simp
          unfold PrB
          exact ⟨_, _, _, _, _, _, _, _, _, _, _, _, _, _, _, _, rfl, (hB.grown hG (Nat.le_trans (hB2.size) hB.size) (fun j hj => by cases hj; omega)), (hgrown hG hF_C (by simp only [ne_eq, Option.some.injEq]; omega)), (hgrown hG hF_A (by simp only [ne_eq, Option.some.injEq]; omega)), (hgrown hG hF_B (by simp only [ne_eq, Option.some.injEq]; omega)), (hgrown hG hF_S (by simp only [ne_eq, Option.some.injEq]; omega)), (by rw [getD_set_eq (by omega)]; exact hN), (by rw [getD_set_ne (by decide)]; exact hgrown hG hX_X1 (by simp only [ne_eq, Option.some.injEq]; omega)), (by rw [getD_set_ne (by decide)]; exact hgrown hG hX_X2 (by simp only [ne_eq, Option.some.injEq]; omega)), (fun h => h0 (by rwa [getD_set_ne (by decide)] at h)), (fun h => h1 (by rwa [getD_set_ne (by decide)] at h)), (fun h => h2 (by rwa [getD_set_ne (by decide)] at h)), (fun h => h3 (by rwa [getD_set_ne (by decide)] at h)), (fun h => h4 (by rwa [getD_set_ne (by decide)] at h)), (fun h => h5 (by rwa [getD_set_ne (by decide)] at h)), (fun h => h6 (by rwa [getD_set_ne (by decide)] at h)), (fun h => h7 (by rwa [getD_set_ne (by decide)] at h)), (fun h => h8 (by rwa [getD_set_ne (by decide)] at h)), (fun h => h9 (by rwa [getD_set_ne (by decide)] at h)), (fun h => h10 (by rwa [getD_set_ne (by decide)] at h)), (fun h => h11 (by rwa [getD_set_ne (by decide)] at h)), (fun h => h12 (by rwa [getD_set_ne (by decide)] at h)), (fun h => h13 (by rwa [getD_set_ne (by decide)] at h)), (fun h => h14 (by rwa [getD_set_ne (by decide)] at h)), (fun h => h15 (by rwa [getD_set_ne (by decide)] at h))⟩
        · skip
          have e10 := h10 (ready_dep hi (by kernel_rfl))
          subst e10
          have e3 := hX_X1
          rw [hi'] at e3
          have e3 : wi.heap[p17]? = some (.cells #[.int .i64 (max ax0 bx0)] 3 (0, 0)) := e3
          have f0 := hfroz (k := 0) e3
          have z0 := hcell (k := 0) (v := .int .i64 (max ax0 bx0)) e3 rfl
          have hG := bx1_grown (w := wi) (b := p17) (.int .i64 (if az0 < bz0 then bz0 else az0))
          have hN := bx1_set e3 (.int .i64 (if az0 < bz0 then bz0 else az0))
          refine wpOp_of rfl rfl ?_
          go_simp
          unfold PrB
          exact ⟨_, _, _, _, _, _, _, _, _, _, _, _, _, _, _, _, rfl, (hB.grown hG (Nat.le_trans (hB2.size) hB.size) (fun j hj => by cases hj; omega)), (hgrown hG hF_C (by simp only [ne_eq, Option.some.injEq]; omega)), (hgrown hG hF_A (by simp only [ne_eq, Option.some.injEq]; omega)), (hgrown hG hF_B (by simp only [ne_eq, Option.some.injEq]; omega)), (hgrown hG hF_S (by simp only [ne_eq, Option.some.injEq]; omega)), (by rw [getD_set_ne (by decide)]; exact hgrown hG hX_X0 (by simp only [ne_eq, Option.some.injEq]; omega)), (by rw [getD_set_eq (by omega)]; exact hN), (by rw [getD_set_ne (by decide)]; exact hgrown hG hX_X2 (by simp only [ne_eq, Option.some.injEq]; omega)), (fun h => h0 (by rwa [getD_set_ne (by decide)] at h)), (fun h => h1 (by rwa [getD_set_ne (by decide)] at h)), (fun h => h2 (by rwa [getD_set_ne (by decide)] at h)), (fun h => h3 (by rwa [getD_set_ne (by decide)] at h)), (fun h => h4 (by rwa [getD_set_ne (by decide)] at h)), (fun h => h5 (by rwa [getD_set_ne (by decide)] at h)), (fun h => h6 (by rwa [getD_set_ne (by decide)] at h)), (fun h => h7 (by rwa [getD_set_ne (by decide)] at h)), (fun h => h8 (by rwa [getD_set_ne (by decide)] at h)), (fun h => h9 (by rwa [getD_set_ne (by decide)] at h)), (fun h => h10 (by rwa [getD_set_ne (by decide)] at h)), (fun h => h11 (by rwa [getD_set_ne (by decide)] at h)), (fun h => h12 (by rwa [getD_set_ne (by decide)] at h)), (fun h => h13 (by rwa [getD_set_ne (by decide)] at h)), (fun h => h14 (by rwa [getD_set_ne (by decide)] at h)), (fun h => h15 (by rwa [getD_set_ne (by decide)] at h))⟩
        · skip
          have e15 := h15 (ready_dep hi (by kernel_rfl))
          subst e15
          have e3 := hX_X2
          rw [hi'] at e3
          have e3 : wi.heap[p18]? = some (.cells #[.int .i64 (min ax1 bx1)] 3 (0, 0)) := e3
          have f0 := hfroz (k := 0) e3
          have z0 := hcell (k := 0) (v := .int .i64 (min ax1 bx1)) e3 rfl
          have hG := bx1_grown (w := wi) (b := p18) (.int .i64 (if bz1 < az1 then bz1 else az1))
          have hN := bx1_set e3 (.int .i64 (if bz1 < az1 then bz1 else az1))
          refine wpOp_of rfl rfl ?_
          go_simp
          unfold PrB
          exact ⟨_, _, _, _, _, _, _, _, _, _, _, _, _, _, _, _, rfl, (hB.grown hG (Nat.le_trans (hB2.size) hB.size) (fun j hj => by cases hj; omega)), (hgrown hG hF_C (by simp only [ne_eq, Option.some.injEq]; omega)), (hgrown hG hF_A (by simp only [ne_eq, Option.some.injEq]; omega)), (hgrown hG hF_B (by simp only [ne_eq, Option.some.injEq]; omega)), (hgrown hG hF_S (by simp only [ne_eq, Option.some.injEq]; omega)), (by rw [getD_set_ne (by decide)]; exact hgrown hG hX_X0 (by simp only [ne_eq, Option.some.injEq]; omega)), (by rw [getD_set_ne (by decide)]; exact hgrown hG hX_X1 (by simp only [ne_eq, Option.some.injEq]; omega)), (by rw [getD_set_eq (by omega)]; exact hN), (fun h => h0 (by rwa [getD_set_ne (by decide)] at h)), (fun h => h1 (by rwa [getD_set_ne (by decide)] at h)), (fun h => h2 (by rwa [getD_set_ne (by decide)] at h)), (fun h => h3 (by rwa [getD_set_ne (by decide)] at h)), (fun h => h4 (by rwa [getD_set_ne (by decide)] at h)), (fun h => h5 (by rwa [getD_set_ne (by decide)] at h)), (fun h => h6 (by rwa [getD_set_ne (by decide)] at h)), (fun h => h7 (by rwa [getD_set_ne (by decide)] at h)), (fun h => h8 (by rwa [getD_set_ne (by decide)] at h)), (fun h => h9 (by rwa [getD_set_ne (by decide)] at h)), (fun h => h10 (by rwa [getD_set_ne (by decide)] at h)), (fun h => h11 (by rwa [getD_set_ne (by decide)] at h)), (fun h => h12 (by rwa [getD_set_ne (by decide)] at h)), (fun h => h13 (by rwa [getD_set_ne (by decide)] at h)), (fun h => h14 (by rwa [getD_set_ne (by decide)] at h)), (fun h => h15 (by rwa [getD_set_ne (by decide)] at h))⟩
      · intro L a wi hI hall
        unfold PrB at hI
        obtain ⟨s0, s1, s2, s3, s4, s5, s6, s7, s8, s9, s10, s11, s12, s13, s14, s15, rfl, hB, hF_C, hF_A, hF_B, hF_S, hX_X0, hX_X1, hX_X2, h0, h1, h2, h3, h4, h5, h6, h7, h8, h9, h10, h11, h12, h13, h14, h15⟩ := hI
        have e0 := h0 (hall 0 (by decide))
        subst e0
        have e1 := h1 (hall 1 (by decide))
        subst e1
        have e2 := h2 (hall 2 (by decide))
        subst e2
        have e3 := h3 (hall 3 (by decide))
        subst e3
        have e4 := h4 (hall 4 (by decide))
        subst e4
        have e5 := h5 (hall 5 (by decide))
        subst e5
        have e6 := h6 (hall 6 (by decide))
        subst e6
        have e7 := h7 (hall 7 (by decide))
        subst e7
        have e8 := h8 (hall 8 (by decide))
        subst e8
        have e9 := h9 (hall 9 (by decide))
        subst e9
        have e10 := h10 (hall 10 (by decide))
        subst e10
        have e11 := h11 (hall 11 (by decide))
        subst e11
        have e12 := h12 (hall 12 (by decide))
        subst e12
        have e13 := h13 (hall 13 (by decide))
        subst e13
        have e14 := h14 (hall 14 (by decide))
        subst e14
        have e15 := h15 (hall 15 (by decide))
        subst e15
        rw [if_pos (hall 16 (by decide))] at hX_X0
        rw [if_pos (hall 17 (by decide))] at hX_X1
        rw [if_pos (hall 18 (by decide))] at hX_X2
        clear hall 
        simp only [max_if, min_if] at hX_X1 hX_X2 ⊢
        have hB3 := hB2.trans hB
        have z0 := hcell (k := 0) (v := .func (.func 91) #[] #[.pointer (some ⟨T + 1, 0, none⟩), .pointer (some ⟨T + 2, 0, none⟩)]) hF_S rfl
        have f0 := hfroz (k := 0) hF_S
        have hG := bx1_grown (w := wi) (b := ps) (.func (.func 92) #[] #[.pointer (some ⟨T + 1, 0, none⟩), .pointer (some ⟨T + 2, 0, none⟩)])
        have hN := bx1_set hF_S (.func (.func 92) #[] #[.pointer (some ⟨T + 1, 0, none⟩), .pointer (some ⟨T + 2, 0, none⟩)])
        have hne : ∀ q : Nat, q ≠ ps → (some ps : Option Nat) ≠ some q := fun q h e => h (Option.some.inj e).symm
        have hC9 := hgrown hG hF_C (hne _ (by omega))
        have hA9 := hgrown hG hF_A (hne _ (by omega))
        have hBB9 := hgrown hG hF_B (hne _ (by omega))
        have hX9 := hgrown hG hX_X0 (hne _ (by omega))
        have hY9 := hgrown hG hX_X1 (hne _ (by omega))
        have hZ9 := hgrown hG hX_X2 (hne _ (by omega))
        have hB9 := hB3.grown hG hB3.size (fun j hj => by cases hj; omega)
        clear hF_S hF_C hF_A hF_B hX_X0 hX_X1 hX_X2 hG hB hB2 hB3 hS2 hC2 hA2 hBB2 hX16 hX17 hX18 hne
        go_wp2
        go_ret
        obtain ⟨e1, e2, e3⟩ := HT.out
        obtain ⟨⟨l1, l2⟩, l3, l4⟩ := HL.out
        obtain ⟨s1, s2⟩ := HS.out _ hB9
        refine ⟨_, rfl, ⟨p17, p18, p16, ps, T, T + 1, T + 2, rfl, ⟨by omega, by omega, by omega, by omega, by omega, by omega, by omega⟩, ⟨?_, ?_, ?_, hN, hC9, ?_, ?_, s1, s2⟩⟩, hB9⟩
        · rw [e1]; exact hY9
        · rw [e2]; exact hZ9
        · rw [e3]; exact hX9
        · dsimp only [rcO]; rw [← l1, ← l2]; exact hA9
        · dsimp only [rcO]; rw [← l3, ← l4]; exact hBB9
end Go.Proofs.YtmgkkmcihplojaaGreat
