/- Walk: the doors across tiles: seams.Build. -/
import Derived.Test.YtgfmdgiepomkiaaSmC
import Derived.Test.YtgfmdgiepomkiaaSmF
import Derived.Test.YtgfmdgiepomkiaaSmP
import Derived.Test.YtgfmdgiepomkiaaSmS
import Derived.Test.YtgfmdgiepomkiaaMapS
import Derived.Test.YtgfmdgiepomkiaaKo
namespace Go.Proofs.Ytgfmdgiepomkiaa
open Go.RowKit Go.Sort
open Go.ChangeMaps (setBlock)
attribute [local go_sem] Instr.index

theorem cas9 {P : (i : Nat) → i < 9 → Prop} (h0 : P 0 (by decide)) (h1 : P 1 (by decide)) (h2 : P 2 (by decide)) (h3 : P 3 (by decide)) (h4 : P 4 (by decide)) (h5 : P 5 (by decide)) (h6 : P 6 (by decide)) (h7 : P 7 (by decide)) (h8 : P 8 (by decide)) (i : Nat) (h : i < 9) : P i h := by
  by_cases e : i < 4
  · rcases (by omega : i = 0 ∨ i = 1 ∨ i = 2 ∨ i = 3) with rfl | rfl | rfl | rfl <;> assumption
  · rcases (by omega : i = 4 ∨ i = 5 ∨ i = 6 ∨ i = 7 ∨ i = 8) with rfl | rfl | rfl | rfl | rfl <;> assumption
theorem below_set' {w w1 w2 : World} {P : Nat} (h : Below w.heap.size w w1) (hP : w.heap.size ≤ P) (g : w1.grownBy w2 (some P)) : Below w.heap.size w w2 :=
  ⟨g.os.trans h.os, g.tape.trans h.tape, g.output.trans h.output, Nat.le_trans h.size g.size, fun i hi => (g.block i (Nat.lt_of_lt_of_le hi h.size) (fun e => by cases e; omega)).trans (h.block i hi)⟩
/-- While the doors across tiles are gathered: C holds the config, M the map, I the place in it; what is one's own lies from L on. -/
structure BuAt (w0 : World) (cf : Cfg) (C M I : Nat) (es : Array MapEntry) (clock : Nat) (seen : Array Nat) (L : Nat) (va : Option Addr) (m vc : Nat) (ds : List Dr) (W : World) : Prop where
  bel : Below w0.heap.size w0 W
  c : W.heap[C]? = some (cfO cf)
  mp : W.heap[M]? = some (.map es clock)
  it : W.heap[I]? = some (.mapIter (some M) clock seen clock)
  own : OwnR drC 6 96 L W (.slice va m vc) m ds
  cL : C < L
  mL : M < L
  iL : I < L
  wI : w0.heap.size ≤ I
  iC : I ≠ C
  iM : I ≠ M
  lw : L ≤ W.heap.size
section
variable {w0 : World} {cf : Cfg} {C M I : Nat} {es : Array MapEntry} {clock : Nat} {seen : Array Nat} {L : Nat} {va : Option Addr} {m vc : Nat} {ds : List Dr} {W W' : World}
theorem BuAt.below (h : BuAt w0 cf C M I es clock seen L va m vc ds W) (hb : Below W.heap.size W W') : BuAt w0 cf C M I es clock seen L va m vc ds W' :=
  ⟨h.bel.trans (hb.mono h.bel.size), hkeep hb h.c, hkeep hb h.mp, hkeep hb h.it, h.own.below hb (Nat.le_refl _), h.cL, h.mL, h.iL, h.wI, h.iC, h.iM, Nat.le_trans h.lw hb.size⟩
theorem BuAt.w0L (h : BuAt w0 cf C M I es clock seen L va m vc ds W) : w0.heap.size ≤ L := Nat.le_of_lt (Nat.lt_of_le_of_lt h.wI h.iL)
theorem BuAt.next (h : BuAt w0 cf C M I es clock seen L va m vc ds W) (s2 : Array Nat) : BuAt w0 cf C M I es clock s2 L va m vc ds (setBlock W I (.mapIter (some M) clock s2 clock)) := by
  have hg := gb_setBlock W I (.mapIter (some M) clock s2 clock)
  refine ⟨below_set' h.bel h.wI hg, hgrown hg h.c (fun e => h.iC (Option.some.inj e)), hgrown hg h.mp (fun e => h.iM (Option.some.inj e)), heap_setBlock h.it, h.own.kept hg (.inr fun e => by have := h.own.le _ e; have := h.iL; omega), h.cL, h.mL, h.iL, h.wI, h.iC, h.iM, Nat.le_trans h.lw hg.size⟩
theorem BuAt.app {va' : Option Addr} {m' vc' : Nat} {ds' : List Dr} (h : BuAt w0 cf C M I es clock seen L va m vc ds W) (ho : OwnR drC 6 96 L W' (.slice va' m' vc') m' ds') (hp : Appd W W' (.slice va m vc) (.slice va' m' vc')) : BuAt w0 cf C M I es clock seen L va' m' vc' ds' W' := by
  have hg := hp.grown
  have hne : ∀ i, i < L → (Value.slice va m vc).ownBlock ≠ some i := fun i hi e => by have := h.own.le _ e; omega
  have hwL := h.w0L
  exact ⟨h.bel.trans (hp.below (B := w0.heap.size) h.bel.size (fun i hi => by have := h.own.le i hi; omega)), hgrown hg h.c (hne C h.cL), hgrown hg h.mp (hne M h.mL), hgrown hg h.it (hne I h.iL), ho, h.cL, h.mL, h.iL, h.wI, h.iC, h.iM, Nat.le_trans h.lw hg.size⟩
theorem BuAt.set (h : BuAt w0 cf C M I es clock seen L va m vc ds W) {k : Nat} (hk : L ≤ k) (hne : (Value.slice va m vc).ownBlock ≠ some k) (j : Nat) (v : Value) : BuAt w0 cf C M I es clock seen L va m vc ds (W.setCell ⟨k, j, none⟩ v) := by
  have hg := grown_set W k j v
  have hwL := h.w0L
  have hcL := h.cL
  have hmL := h.mL
  have hiL := h.iL
  exact ⟨below_set' h.bel (by omega) hg, hgrown hg h.c (fun e => by cases e; omega), hgrown hg h.mp (fun e => by cases e; omega), hgrown hg h.it (fun e => by cases e; omega), h.own.kept hg (.inr hne), hcL, hmL, hiL, h.wI, h.iC, h.iM, Nat.le_trans h.lw hg.size⟩
end
theorem SdMap.mono {n M N N' : Nat} {W : World} {es : Array MapEntry} {clock : Nat} (h : SdMap n M N W es clock) (hN : N ≤ N') : SdMap n M N' W es clock := ⟨h.blk, h.ok, h.st, Nat.le_trans h.sz hN⟩
theorem iterSeen_of {W : World} {I : Nat} {x : Option Nat} {y z : Nat} {s : Array Nat} (h : W.heap[I]? = some (.mapIter x y s z)) : W.iterSeen I = s := by
  unfold World.iterSeen
  rw [h]
theorem left_le (es : Array MapEntry) (s : Array Nat) : (leftOf es s).size ≤ es.size := by
  unfold leftOf
  exact Array.size_filter_le
theorem updB_up {b : Nat → Bool} {i j : Nat} (h : b j = true) : updB b i j = true := by
  unfold updB
  split
  · rfl
  · exact h
theorem upd8 {b : Nat → Bool} (a0 : b 0 = true) (a1 : b 1 = true) (a2 : b 2 = true) (a3 : b 3 = true) (a4 : b 4 = true) (a5 : b 5 = true) (a6 : b 6 = true) (a7 : b 7 = true) : ∀ j, j < 8 → updB b 8 j = true := by
  intro j hj
  refine updB_up ?_
  rcases (by omega : j = 0 ∨ j = 1 ∨ j = 2 ∨ j = 3 ∨ j = 4 ∨ j = 5 ∨ j = 6 ∨ j = 7) with rfl | rfl | rfl | rfl | rfl | rfl | rfl | rfl <;> assumption
/-- What seams.Build tells: a row, of at most 10000000 doors. -/
def SbPost (w : World) (e : Ending) (w' : World) : Prop := (∃ a m c ds E, e = .returned (.tuple #[.slice a m c, .int .i64 E]) ∧ SlR drC 6 w' a m c ds ∧ m ≤ 10000000) ∧ Below w.heap.size w w'
theorem mod_next {i A D : Nat} {n : Nat} (hn : (n : Int) = (A : Int) * (D : Int)) (hi : i < n) (h : 0 < ((i : Int) + 1).tmod (A : Int)) : i + 1 < n := by
  by_cases h1 : i + 1 < n
  · exact h1
  · have e : (i : Int) + 1 = (A : Int) * (D : Int) := by omega
    rw [e, Int.mul_tmod_right] at h
    omega
set_option maxRecDepth 100000 in
set_option maxHeartbeats 32000000 in
theorem smbuild_any (cf : Cfg) (a : Option Addr) (n c : Nat) (ts : List Tl) (w : World) (hx : SlTl w a n c ts) (hr : ∀ t ∈ ts, t.rn ≤ 60) (hn9 : n ≤ 9) :
    Calls Try.prog 104 #[cfgV cf, .slice a n c] w (SbPost w) := by
  have Hl := Lib.hid hx.sl.len
  have hmax := hx.sl.max
  have hle := hx.sl.le
  have HX := Lib.hid (fun W (hb : Below w.heap.size w W) => hx.below hb (Nat.le_refl _))
  have HR := Lib.hid hr
  have CK := Lib.hid (fun W (hb : Below w.heap.size w W) => smcheck_any cf a n c ts W (hx.below hb (Nat.le_refl _)))
  have FI := Lib.hid (fun q W (hb : Below w.heap.size w W) => smfirst_any a n c ts q W (hx.below hb (Nat.le_refl _)))
  have WD := Lib.hid (fun W h => smwide_any cf W h)
  clear hx hr
  have hB : Below w.heap.size w (w.alloc (cfO cf)) := (Below.refl _ _).alloc (Nat.le_refl _) _
  have hC := World.alloc_heap_new w (cfO cf)
  obtain ⟨W1, hW1⟩ : ∃ W, W = w.alloc (cfO cf) := ⟨_, rfl⟩
  rw [← hW1] at hB hC
  obtain ⟨C, hC0⟩ : ∃ S, S = w.heap.size := ⟨_, rfl⟩
  have HC0 := Lib.hid hC0
  rw [← hC0] at hC
  unfold SmPost at CK
  dsimp only [cfO, cfgV] at hC hW1 CK WD ⊢
  go_enter Try.func104, Try.ntmps104
  go_upto_region 1 with fail
  rw [← hW1, ← hC0]
  clear hW1 hC0
  have c0 := hcell (k := 0) (v := .int .i64 cf.clear) hC rfl
  have c1 := hcell (k := 1) (v := .int .i64 cf.climb) hC rfl
  have c2 := hcell (k := 2) (v := .int .i64 cf.height) hC rfl
  have c3 := hcell (k := 3) (v := .int .i64 cf.rise) hC rfl
  have c4 := hcell (k := 4) (v := .int .i64 cf.run) hC rfl
  have c5 := hcell (k := 5) (v := .int .i64 cf.w) hC rfl
  have c6 := hcell (k := 6) (v := .int .i64 cf.d) hC rfl
  go_wp2_with fail
  refine (CK.out _ hB).mono ?_
  rintro e w1 ⟨⟨E, rfl, hE⟩, hb1⟩
  clear c0 c1 c2 c3 c4 c5 c6
  have hC1 := hkeep hb1 hC
  have hB1 := hB.trans (hb1.mono hB.size)
  clear hb1 hB hC CK
  have HE := Lib.hid hE
  clear hE
  by_cases hE0 : E = 0
  case neg =>
    go_wp2
    go_ret2
    exact And.intro ⟨none, 0, 0, [], E, rfl, SlR.nil _ _ _, by omega⟩ hB1
  obtain ⟨hok, hnn⟩ := HE.out hE0
  subst hE0
  have HOK := Lib.hid hok
  clear HE hok
  have c0 := hcell (k := 0) (v := .int .i64 cf.clear) hC1 rfl
  have c1 := hcell (k := 1) (v := .int .i64 cf.climb) hC1 rfl
  have c2 := hcell (k := 2) (v := .int .i64 cf.height) hC1 rfl
  have c3 := hcell (k := 3) (v := .int .i64 cf.rise) hC1 rfl
  have c4 := hcell (k := 4) (v := .int .i64 cf.run) hC1 rfl
  have c5 := hcell (k := 5) (v := .int .i64 cf.w) hC1 rfl
  have c6 := hcell (k := 6) (v := .int .i64 cf.d) hC1 rfl
  go_wp2_with fail
  refine (WD.out _ HOK.out).mono ?_
  rintro e w2 ⟨rfl, hb2⟩
  clear c0 c1 c2 c3 c4 c5 c6
  have hC2 := hkeep hb2 hC1
  have hB2 := hB1.trans (hb2.mono hB1.size)
  clear hb2 hB1 hC1 WD
  obtain ⟨hw1, hw2, hd1, hd2⟩ : 1 ≤ tW cf.w ∧ tW cf.w ≤ 4 ∧ 1 ≤ tW cf.d ∧ tW cf.d ≤ 4 := (tW_facts HOK.out).2.2.2.2.2.2
  obtain ⟨A, hA⟩ : ∃ A : Nat, tW cf.w = (A : Int) := ⟨(tW cf.w).toNat, by omega⟩
  obtain ⟨D, hD⟩ : ∃ A : Nat, tW cf.d = (A : Int) := ⟨(tW cf.d).toNat, by omega⟩
  rw [hA] at hw1 hw2 hnn ⊢
  rw [hD] at hd1 hd2 hnn ⊢
  have HNN := Lib.hid hnn
  have hA1 : 1 ≤ A := by omega
  have hA4 : A ≤ 4 := by omega
  clear hnn hw1 hw2 hd1 hd2 hA hD HOK
  have hmm := @run_makeMap Try.prog
  have hMA : Below w2.heap.size w2 (w2.alloc (.map #[] 0)) := (Below.refl _ _).alloc (Nat.le_refl _) _
  have hM0 : SdMap n w2.heap.size 0 (w2.alloc (.map #[] 0)) #[] 0 := ⟨World.alloc_heap_new _ _, by simp, MapKept.stamped_empty 0, by simp⟩
  have hC3 := hkeep hMA hC2
  have hB3 := hB2.trans (hMA.mono hB2.size)
  have hCM : C ≠ w2.heap.size := by have := hblt hC2; omega
  have hwM : w.heap.size ≤ w2.heap.size := hB2.size
  go_wp2_with fail
  obtain ⟨W3, hW3⟩ : ∃ W, W = w2.alloc (.map #[] 0) := ⟨_, rfl⟩
  obtain ⟨M, hM⟩ : ∃ S, S = w2.heap.size := ⟨_, rfl⟩
  rw [← hW3] at hM0 hC3 hB3 ⊢
  rw [← hM] at hM0 hCM hwM ⊢
  clear hW3 hM hMA hC2 hB2 hmm
  go_loopw [29] (fun s wr => ∃ i : Nat, s = .int .i64 i ∧ i ≤ n ∧ (∃ es clock, SdMap n M (2 * i) wr es clock) ∧ wr.heap[C]? = some (cfO cf) ∧ Below w.heap.size w wr) (fun s _ => n - (intOf s).toNat)
  case atStart => exact ⟨0, rfl, Nat.zero_le _, ⟨_, _, hM0⟩, hC3, hB3⟩
  case round =>
    clear hM0 hC3 hB3
    obtain ⟨i, rfl, hi, ⟨es, clock, hS⟩, hCi, hBi⟩ := hrel
    by_cases hin : i < n
    case pos =>
      have hI : (i : Int) < (n : Int) := by omega
      have wi1 : IntKind.i64.wrap ((i : Int) + 1) = (i : Int) + 1 := by rw [IntKind.wrap_i64]; omega
      have wiA : IntKind.i64.wrap ((i : Int) + (A : Int)) = (i : Int) + (A : Int) := by rw [IntKind.wrap_i64]; omega
      obtain ⟨es1, cl1, hu1, hS1⟩ := hS.update i (i + A) (decide ((i : Int) + (A : Int) < (n : Int))) (by omega) (by omega) (fun h => by have := of_decide_eq_true h; omega)
      rw [Int.natCast_add] at hu1
      have hg1 := gb_setBlock wr M (.map es1 cl1)
      have hC5 := hgrown hg1 hCi (fun e => hCM (Option.some.inj e).symm)
      have hB5 := below_set' hBi hwM hg1
      obtain ⟨R, hR⟩ : ∃ R, ((i : Int) + 1).tmod (A : Int) = R := ⟨_, rfl⟩
      have HRn : Hid (0 < R → i + 1 < n) := fun h => mod_next HNN.out hin (by rw [hR]; exact h)
      have hA0 : ¬ (A : Int) = 0 := by omega
      go_upto_region 10 with fail
      obtain ⟨W5, hW5⟩ : ∃ W, W = setBlock wr M (.map es1 cl1) := ⟨_, rfl⟩
      rw [← hW5] at hu1 hS1 hC5 hB5 ⊢
      clear hW5 hS hCi hBi hg1 hu1
      by_cases hR0 : 0 < R
      case pos =>
        have h2 := HRn.out hR0
        obtain ⟨es2, cl2, hu2, hS2⟩ := hS1.update i (i + 1) true (by omega) (by omega) (fun _ => ⟨hin, h2⟩)
        rw [Int.natCast_add, Int.natCast_one] at hu2
        have hg2 := gb_setBlock W5 M (.map es2 cl2)
        have hC6 := hgrown hg2 hC5 (fun e => hCM (Option.some.inj e).symm)
        have hB6 := below_set' hB5 hwM hg2
        clear hg2 hS1 hC5 hB5 h2
        go_wp2
        go_roundw
        case rel => exact ⟨i + 1, by go_num, by omega, ⟨es2, cl2, hS2.mono (by omega)⟩, hC6, hB6⟩
        case measure => simp [intOf]; omega
      go_wp2
      go_roundw
      case rel => exact ⟨i + 1, by go_num, by omega, ⟨es1, cl1, hS1.mono (by omega)⟩, hC5, hB5⟩
      case measure => simp [intOf]; omega
    case neg =>
      obtain rfl : n = i := by omega
      have hI : ¬ (n : Int) < (n : Int) := by omega
      have hrr := run_range_map (P := Try.prog) wr 171 173 4 M es clock Try.underlying171 hS.blk
      have hIA : Below wr.heap.size wr (wr.alloc (.mapIter (some M) clock #[] clock)) := (Below.refl _ _).alloc (Nat.le_refl _) _
      have hBU : BuAt w cf C M wr.heap.size es clock #[] (wr.heap.size + 1) none 0 0 [] (wr.alloc (.mapIter (some M) clock #[] clock)) :=
        ⟨hBi.trans (hIA.mono hBi.size), hkeep hIA hCi, hkeep hIA hS.blk, World.alloc_heap_new _ _, OwnR.nil _ _ _ _ _, Nat.lt_succ_of_lt (hblt hCi), Nat.lt_succ_of_lt (hblt hS.blk), Nat.lt_succ_self _, hBi.size, fun e => by have := hblt hCi; omega, fun e => by have := hblt hS.blk; omega, by simp⟩
      have HSO := Lib.hid hS.ok
      have HST := Lib.hid hS.st
      have hsz := hS.sz
      obtain ⟨I, hI0⟩ : ∃ I, I = wr.heap.size := ⟨_, rfl⟩
      obtain ⟨L, hL0⟩ : ∃ I, I = wr.heap.size + 1 := ⟨_, rfl⟩
      obtain ⟨W4, hW4⟩ : ∃ W, W = wr.alloc (.mapIter (some M) clock #[] clock) := ⟨_, rfl⟩
      rw [← hL0, ← hI0, ← hW4] at hBU
      rw [← hW4] at hrr
      rw [← hI0] at hrr
      clear hS hCi hBi hIA hI0 hL0 hW4 HNN
      go_wp2_with fail
      clear hrr
      go_loopw [4] (fun s4 wr => ∃ (seen : Array Nat) (va : Option Addr) (m vc : Nat) (ds : List Dr), s4 = .slice va m vc ∧ BuAt w cf C M I es clock seen L va m vc ds wr ∧ m + 460800 * (leftOf es seen).size ≤ 460800 * 18) (fun _ wr => (leftOf es (wr.iterSeen I)).size)
      case atStart => exact ⟨#[], none, 0, 0, [], rfl, hBU, by have := left_le es #[]; omega⟩
      case round =>
        clear hBU
        obtain ⟨seen, va, m, vc, ds, rfl, hBU, hm⟩ := hrel
        have hwL := hBU.w0L
        have his := iterSeen_of hBU.it
        rcases next_at (P := Try.prog) wr 0 I M clock clock seen es clock hBU.it hBU.mp HST.out.1 (Nat.le_refl _) with ⟨h0, hrun⟩ | ⟨e, he, W2, hW2, hrun⟩
        case inl =>
          have hnx : ∀ ty, (Instr.next (.pointer (some ⟨I, 0, none⟩)) false ty).run Try.prog wr = _ := fun _ => hrun
          have HBU := Lib.hid hBU
          clear hrun hBU
          go_wp2_with fail
          refine (sortsm_any _ _ _ _ _ HBU.out.own (by omega)).mono ?_
          rintro e w5 ⟨rfl, ys, ad, cd, e, hp, hso, hsl, hb5⟩
          cases e
          clear hnx
          go_wp2
          go_ret2
          exact And.intro ⟨va, m, vc, ys, 0, rfl, hsl, by omega⟩ (HBU.out.bel.trans (hb5.mono hwL))
        case inr =>
          obtain ⟨x, y, q, hk, hv, hx1, hy1, hq⟩ := HSO.out e (mem_left he).1
          have hB2 : BuAt w cf C M I es clock seen L va m vc ds W2 := by
            rcases hW2 with rfl | rfl
            · exact hBU
            · exact hBU.below (Below.refl _ _).drew
          have hB3 := hB2.next (seen.push e.born)
          rw [hk, hv] at hrun
          have hen := entry_at (P := Try.prog) _ I M clock seen es clock e hB3.it hB3.mp (mem_left he).1 HST.out.2.1
          rw [hk, hv] at hen
          have hlt := left_shrinks es seen e he
          obtain ⟨s2, hs2⟩ : ∃ s, s = seen.push e.born := ⟨_, rfl⟩
          rw [← hs2] at hB3 hrun hlt
          obtain ⟨W5, hW5⟩ : ∃ W, W = setBlock W2 I (.mapIter (some M) clock s2 clock) := ⟨_, rfl⟩
          rw [← hs2, ← hW5] at hen
          rw [← hW5] at hB3 hrun
          have hnx : ∀ ty, (Instr.next (.pointer (some ⟨I, 0, none⟩)) false ty).run Try.prog wr = _ := fun _ => hrun
          have hA6 : Below W5.heap.size W5 (W5.alloc (.cells #[.int .i64 (x : Nat), .int .i64 (y : Nat)] 173 (0, 0))) := (Below.refl _ _).alloc (Nat.le_refl _) _
          have hP6 := World.alloc_heap_new W5 (.cells #[.int .i64 (x : Nat), .int .i64 (y : Nat)] 173 (0, 0))
          have hB6 := hB3.below hA6
          have hvP0 : (Value.slice va m vc).ownBlock ≠ some W5.heap.size := fun e => by have := (hB3.own.lt _ e).2; omega
          have hLP := hB3.lw
          obtain ⟨P, hP0⟩ : ∃ P, P = W5.heap.size := ⟨_, rfl⟩
          obtain ⟨W6, hW6⟩ : ∃ W, W = W5.alloc (.cells #[.int .i64 (x : Nat), .int .i64 (y : Nat)] 173 (0, 0)) := ⟨_, rfl⟩
          rw [← hP0] at hP6 hvP0 hLP
          rw [← hW6] at hP6 hB6
          clear hs2 hW5 hBU hB2 hB3 hA6 hrun hk hv he hW2
          go_upto_region 16 with fail
          rw [← hW6, ← hP0]
          clear hW6 hP0 hnx hen
          cases q with
          | false =>
            have his6 := iterSeen_of hB6.it
            go_wp2
            go_roundw
            case rel => exact ⟨s2, va, m, vc, ds, rfl, hB6, by omega⟩
            case measure => rw [his, his6]; exact hlt
          | true =>
          obtain ⟨hxn, hyn⟩ := hq rfl
          have hT6 := HX.out _ hB6.bel
          obtain ⟨tA, htA⟩ : ∃ t, ts[x]? = some t := ⟨_, List.getElem?_eq_getElem (by rw [Hl.out]; exact hxn)⟩
          obtain ⟨tB, htB⟩ : ∃ t, ts[y]? = some t := ⟨_, List.getElem?_eq_getElem (by rw [Hl.out]; exact hyn)⟩
          have hrA := HR.out tA (List.mem_of_getElem? htA)
          have hrB := HR.out tB (List.mem_of_getElem? htB)
          obtain ⟨G, off, rfl, _, _⟩ := hT6.sl.at0 (by omega)
          have HTA := Lib.hid (fun W (hW : Below W6.heap.size W6 W) => (hT6.below hW (Nat.le_refl _)).sl.cells htA)
          have HTB := Lib.hid (fun W (hW : Below W6.heap.size W6 W) => (hT6.below hW (Nat.le_refl _)).sl.cells htB)
          have PA := Lib.hid (fun W (hW : Below W6.heap.size W6 W) => smpair_any cf tA tB W ((hT6.one htA).1.below hW (Nat.le_refl _)) ((hT6.one htB).1.below hW (Nat.le_refl _)) hrA hrB)
          unfold PaPost at PA
          have HCC := Lib.hid hB6.c
          dsimp only [cfgV, cfO] at PA HCC
          have HPP := Lib.hid hP6
          have HB6 := Lib.hid hB6
          have hxI : (x : Int) < (n : Int) := by omega
          have hyI : (y : Int) < (n : Int) := by omega
          clear hT6 htA htB hrA hrB hP6 hB6 hq
          go_upto_region 17 with fail
          refine wp_region_fun ([none, none, none, none, none, none, none, none, none, none, none, none, none, none, none, none, none, none, none, none, none, none, none, none, none, none, none, none, none, none, none, none, none, none, none, none, none, none, none, none, none, none, none, none, none, none, none, none, none, none, none, none, none, none, none, none, none, none, none, none, none, none, none, none, some 0, some 1, some 2, some 3, some 4, some 5, some 6, some 7, some 8, some 9, some 10, some 11, some 12, some 13, none, none, none, none, none, none, none, none, none, none, none, none, none, none, none, none, none, none, none, none, none, none, none, none, none, none, none]) (fun (b : Nat → Bool) (vals : Nat → Value) (W : World) => Below W6.heap.size W6 W ∧ (b 12 = true → b 11 = true) ∧ (b 11 = true → ∃ (qa : Option Addr) (m2 qc : Nat) (es2 : List Dr), vals 11 = .slice qa m2 qc ∧ SlR drC 6 W qa m2 qc es2 ∧ m2 ≤ 460800 ∧ (∀ ad, qa = some ad → W6.heap.size ≤ ad.block) ∧ (b 12 = true → vals 12 = .int .i64 (m2 : Nat))) ∧ (b 0 = true → vals 0 = .agg #[.int .i64 cf.clear, .int .i64 cf.climb, .int .i64 cf.height, .int .i64 cf.rise, .int .i64 cf.run, .int .i64 cf.w, .int .i64 cf.d]) ∧ (b 1 = true → vals 1 = .slice (some ⟨G, off, none⟩) n c) ∧ (b 2 = true → vals 2 = .pointer (some ⟨P, 0, none⟩)) ∧ (b 3 = true → vals 3 = .int .i64 (x : Nat)) ∧ (b 4 = true → vals 4 = .pointer (some ⟨G, off + x * 4, none⟩)) ∧ (b 5 = true → vals 5 = .agg #[.int .i64 tA.x, .int .i64 tA.z, .slice tA.ra tA.rn tA.rc, .slice tA.da tA.dn tA.dc]) ∧ (b 6 = true → vals 6 = .slice (some ⟨G, off, none⟩) n c) ∧ (b 7 = true → vals 7 = .pointer (some ⟨P, 1, none⟩)) ∧ (b 8 = true → vals 8 = .int .i64 (y : Nat)) ∧ (b 9 = true → vals 9 = .pointer (some ⟨G, off + y * 4, none⟩)) ∧ (b 10 = true → vals 10 = .agg #[.int .i64 tB.x, .int .i64 tB.z, .slice tB.ra tB.rn tB.rc, .slice tB.da tB.dn tB.dc]) ∧ (b 13 = true → vals 13 = .int .i64 0)) (by kernel_rfl) (by kernel_rfl) (by kernel_rfl) (by kernel_rfl) ?_ ?_ ?_
          · intro vals
            exact ⟨(Below.refl _ _).drew, (fun h => by cases (show false = true from h)), (fun h => by cases (show false = true from h)), (fun h => by cases (show false = true from h)), (fun h => by cases (show false = true from h)), (fun h => by cases (show false = true from h)), (fun h => by cases (show false = true from h)), (fun h => by cases (show false = true from h)), (fun h => by cases (show false = true from h)), (fun h => by cases (show false = true from h)), (fun h => by cases (show false = true from h)), (fun h => by cases (show false = true from h)), (fun h => by cases (show false = true from h)), (fun h => by cases (show false = true from h)), (fun h => by cases (show false = true from h))⟩
          · intro Q' K t b vals wi hoff hon i hlt hR hb hd hK
            have hlt : i < 14 := hlt
            obtain ⟨hW, i12, h11, h0, h1, h2, h3, h4, h5, h6, h7, h8, h9, h10, h13⟩ := hR
            revert hb hd hK
            cases i, hlt using cas14
            · intro hb hd hK
              have g2 : t[(2 : Nat)]? = some (.pointer (some ⟨C, 0, none⟩)) := hoff 2 _ rfl rfl
              have hC := hkeep hW HCC.out
              have c0 := hcell (k := 0) (v := .int .i64 cf.clear) hC rfl
              have c1 := hcell (k := 1) (v := .int .i64 cf.climb) hC rfl
              have c2 := hcell (k := 2) (v := .int .i64 cf.height) hC rfl
              have c3 := hcell (k := 3) (v := .int .i64 cf.rise) hC rfl
              have c4 := hcell (k := 4) (v := .int .i64 cf.run) hC rfl
              have c5 := hcell (k := 5) (v := .int .i64 cf.w) hC rfl
              have c6 := hcell (k := 6) (v := .int .i64 cf.d) hC rfl
              clear hoff hon hd
              refine wpOp_of rfl rfl ?_
              go_simp
              exact hK.out _ _ ⟨(hW), (i12), (h11), (fun _ => rfl), (h1), (h2), (h3), (h4), (h5), (h6), (h7), (h8), (h9), (h10), (h13)⟩
            · intro hb hd hK
              have g1 : t[(1 : Nat)]? = some (.slice (some ⟨G, off, none⟩) n c) := hoff 1 _ rfl rfl
              clear hoff hon hd
              refine wpOp_of rfl rfl ?_
              go_simp
              exact hK.out _ _ ⟨(hW), (i12), (h11), (h0), (fun _ => rfl), (h2), (h3), (h4), (h5), (h6), (h7), (h8), (h9), (h10), (h13)⟩
            · intro hb hd hK
              have g11 : t[(11 : Nat)]? = some (.pointer (some ⟨P, 0, none⟩)) := hoff 11 _ rfl rfl
              clear hoff hon hd
              refine wpOp_of rfl rfl ?_
              go_simp
              exact hK.out _ _ ⟨(hW), (i12), (h11), (h0), (h1), (fun _ => rfl), (h3), (h4), (h5), (h6), (h7), (h8), (h9), (h10), (h13)⟩
            · intro hb hd hK
              have d2 := hd 2 (by kernel_rfl)
              have g66 : t[(66 : Nat)]? = some (.pointer (some ⟨P, 0, none⟩)) := (hon 2 66 rfl).trans (congrArg some (h2 d2))
              have c0 := hcell (k := 0) (v := .int .i64 (x : Nat)) (hkeep hW HPP.out) rfl
              clear hoff hon hd
              refine wpOp_of rfl rfl ?_
              go_simp
              exact hK.out _ _ ⟨(hW), (i12), (h11), (h0), (h1), (h2), (fun _ => rfl), (h4), (h5), (h6), (h7), (h8), (h9), (h10), (h13)⟩
            · intro hb hd hK
              have d1 := hd 1 (by kernel_rfl)
              have g65 : t[(65 : Nat)]? = some (.slice (some ⟨G, off, none⟩) n c) := (hon 1 65 rfl).trans (congrArg some (h1 d1))
              have d3 := hd 3 (by kernel_rfl)
              have g67 : t[(67 : Nat)]? = some (.int .i64 (x : Nat)) := (hon 3 67 rfl).trans (congrArg some (h3 d3))
              clear hoff hon hd
              refine wpOp_of rfl rfl ?_
              go_simp
              exact hK.out _ _ ⟨(hW), (i12), (h11), (h0), (h1), (h2), (h3), (fun _ => rfl), (h5), (h6), (h7), (h8), (h9), (h10), (h13)⟩
            · intro hb hd hK
              have d4 := hd 4 (by kernel_rfl)
              have g68 : t[(68 : Nat)]? = some (.pointer (some ⟨G, off + x * 4, none⟩)) := (hon 4 68 rfl).trans (congrArg some (h4 d4))
              have hat := HTA.out _ hW
              have r0 := hat 0 _ rfl
              have r1 := hat 1 _ rfl
              have r2 := hat 2 _ rfl
              have r3 := hat 3 _ rfl
              simp only [Nat.add_zero] at r0
              clear hoff hon hd
              refine wpOp_of rfl rfl ?_
              go_simp
              exact hK.out _ _ ⟨(hW), (i12), (h11), (h0), (h1), (h2), (h3), (h4), (fun _ => rfl), (h6), (h7), (h8), (h9), (h10), (h13)⟩
            · intro hb hd hK
              have g1 : t[(1 : Nat)]? = some (.slice (some ⟨G, off, none⟩) n c) := hoff 1 _ rfl rfl
              clear hoff hon hd
              refine wpOp_of rfl rfl ?_
              go_simp
              exact hK.out _ _ ⟨(hW), (i12), (h11), (h0), (h1), (h2), (h3), (h4), (h5), (fun _ => rfl), (h7), (h8), (h9), (h10), (h13)⟩
            · intro hb hd hK
              have g11 : t[(11 : Nat)]? = some (.pointer (some ⟨P, 0, none⟩)) := hoff 11 _ rfl rfl
              clear hoff hon hd
              refine wpOp_of rfl rfl ?_
              go_simp
              exact hK.out _ _ ⟨(hW), (i12), (h11), (h0), (h1), (h2), (h3), (h4), (h5), (h6), (fun _ => rfl), (h8), (h9), (h10), (h13)⟩
            · intro hb hd hK
              have d7 := hd 7 (by kernel_rfl)
              have g71 : t[(71 : Nat)]? = some (.pointer (some ⟨P, 1, none⟩)) := (hon 7 71 rfl).trans (congrArg some (h7 d7))
              have c0 := hcell (k := 1) (v := .int .i64 (y : Nat)) (hkeep hW HPP.out) rfl
              clear hoff hon hd
              refine wpOp_of rfl rfl ?_
              go_simp
              exact hK.out _ _ ⟨(hW), (i12), (h11), (h0), (h1), (h2), (h3), (h4), (h5), (h6), (h7), (fun _ => rfl), (h9), (h10), (h13)⟩
            · intro hb hd hK
              have d6 := hd 6 (by kernel_rfl)
              have g70 : t[(70 : Nat)]? = some (.slice (some ⟨G, off, none⟩) n c) := (hon 6 70 rfl).trans (congrArg some (h6 d6))
              have d8 := hd 8 (by kernel_rfl)
              have g72 : t[(72 : Nat)]? = some (.int .i64 (y : Nat)) := (hon 8 72 rfl).trans (congrArg some (h8 d8))
              clear hoff hon hd
              refine wpOp_of rfl rfl ?_
              go_simp
              exact hK.out _ _ ⟨(hW), (i12), (h11), (h0), (h1), (h2), (h3), (h4), (h5), (h6), (h7), (h8), (fun _ => rfl), (h10), (h13)⟩
            · intro hb hd hK
              have d9 := hd 9 (by kernel_rfl)
              have g73 : t[(73 : Nat)]? = some (.pointer (some ⟨G, off + y * 4, none⟩)) := (hon 9 73 rfl).trans (congrArg some (h9 d9))
              have hat := HTB.out _ hW
              have r0 := hat 0 _ rfl
              have r1 := hat 1 _ rfl
              have r2 := hat 2 _ rfl
              have r3 := hat 3 _ rfl
              simp only [Nat.add_zero] at r0
              clear hoff hon hd
              refine wpOp_of rfl rfl ?_
              go_simp
              exact hK.out _ _ ⟨(hW), (i12), (h11), (h0), (h1), (h2), (h3), (h4), (h5), (h6), (h7), (h8), (h9), (fun _ => rfl), (h13)⟩
            · intro hb hd hK
              have d0 := hd 0 (by kernel_rfl)
              have g64 : t[(64 : Nat)]? = some (.agg #[.int .i64 cf.clear, .int .i64 cf.climb, .int .i64 cf.height, .int .i64 cf.rise, .int .i64 cf.run, .int .i64 cf.w, .int .i64 cf.d]) := (hon 0 64 rfl).trans (congrArg some (h0 d0))
              have d5 := hd 5 (by kernel_rfl)
              have g69 : t[(69 : Nat)]? = some (.agg #[.int .i64 tA.x, .int .i64 tA.z, .slice tA.ra tA.rn tA.rc, .slice tA.da tA.dn tA.dc]) := (hon 5 69 rfl).trans (congrArg some (h5 d5))
              have d10 := hd 10 (by kernel_rfl)
              have g74 : t[(74 : Nat)]? = some (.agg #[.int .i64 tB.x, .int .i64 tB.z, .slice tB.ra tB.rn tB.rc, .slice tB.da tB.dn tB.dc]) := (hon 10 74 rfl).trans (congrArg some (h10 d10))
              have n12 : b 12 = false := by cases h : b 12 with | false => rfl | true => exact absurd (i12 h) (by rw [hb]; decide)
              clear hoff hon hd
              refine wpOp_of rfl rfl ?_
              go_simp
              go_at_call 123
              refine (PA.out _ hW).mono ?_
              rintro e wz ⟨⟨qa, m2, qc, es2, rfl, hown, hm2⟩, hbz⟩
              (try go_simp)
              have hsl : SlR drC 6 wz qa m2 qc es2 := by obtain ⟨q1, q2, e, hs⟩ := OwnR.reads drC_len hown; cases e; exact hs
              exact hK.out _ _ ⟨(hW.trans (hbz.mono hW.size)), (fun h => absurd (show b 12 = true from h) (by rw [n12]; decide)), (fun _ => ⟨qa, m2, qc, es2, rfl, hsl, hm2, (fun ad had => by subst had; exact Nat.le_trans hW.size (hown.le ad.block rfl)), fun h => absurd (show b 12 = true from h) (by rw [n12]; decide)⟩), (h0), (h1), (h2), (h3), (h4), (h5), (h6), (h7), (h8), (h9), (h10), (h13)⟩
            · intro hb hd hK
              have d11 := hd 11 (by kernel_rfl)
              have g75 : t[(75 : Nat)]? = some (vals 11) := hon 11 75 rfl
              obtain ⟨qa, m2, qc, es2, e11, k1, k2, k3, k4⟩ := h11 d11
              rw [e11] at g75
              clear hoff hon hd
              refine wpOp_of rfl rfl ?_
              go_simp
              exact hK.out _ _ ⟨(hW), (fun _ => d11), (fun _ => ⟨qa, m2, qc, es2, e11, k1, k2, k3, fun _ => rfl⟩), (h0), (h1), (h2), (h3), (h4), (h5), (h6), (h7), (h8), (h9), (h10), (h13)⟩
            · intro hb hd hK
              clear hoff hon hd
              refine wpOp_of rfl rfl ?_
              go_simp
              exact hK.out _ _ ⟨(hW), (i12), (h11), (h0), (h1), (h2), (h3), (h4), (h5), (h6), (h7), (h8), (h9), (h10), (fun _ => rfl)⟩
          · intro b vals wi hR hall
            obtain ⟨hW, i12, h11, h0, h1, h2, h3, h4, h5, h6, h7, h8, h9, h10, h13⟩ := hR
            obtain ⟨qa, m2, qc, es2, e11, hD, hm2, hfar, k12⟩ := h11 (hall 11 (by decide))
            have e12 := k12 (hall 12 (by decide))
            have e13 := h13 (hall 13 (by decide))
            dsimp only [over]
            rw [e11, e12, e13]
            clear h0 h1 h2 h3 h4 h5 h6 h7 h8 h9 h10 h11 h13 i12 k12 e11 e12 e13 hall PA HTA HTB HCC
            have hB7 := HB6.out.below hW
            have hP7 := hkeep hW HPP.out
            have hvD : ∀ ad, qa = some ad → (Value.slice va m vc).ownBlock ≠ some ad.block := fun ad had e => by have := (HB6.out.own.lt _ e).2; have := hfar ad had; omega
            have hvP : (Value.slice va m vc).ownBlock ≠ some P := hvP0
            have hPs : P < wi.heap.size := hblt hP7
            clear hfar HB6 HPP hW
            go_wp2_with fail
            go_loopw [4, 77] (fun s4 s77 wr => ∃ (j : Nat) (ua : Option Addr) (k uc : Nat) (us : List Dr), s4 = .slice ua k uc ∧ s77 = .int .i64 j ∧ j ≤ m2 ∧ BuAt w cf C M I es clock s2 L ua k uc us wr ∧ wr.heap[P]? = some (.cells #[.int .i64 (x : Nat), .int .i64 (y : Nat)] 173 (0, 0)) ∧ SlR drC 6 wr qa m2 qc es2 ∧ (∀ ad, qa = some ad → (Value.slice ua k uc).ownBlock ≠ some ad.block) ∧ (Value.slice ua k uc).ownBlock ≠ some P ∧ k ≤ m + j) (fun _ s77 _ => m2 - (intOf s77).toNat)
            case atStart => exact ⟨0, va, m, vc, ds, rfl, rfl, Nat.zero_le _, hB7, hP7, hD, hvD, hvP, Nat.le_refl _⟩
            case round =>
              clear hB7 hP7 hD hvD hvP hPs
              obtain ⟨j, ua, k, uc, us, rfl, rfl, hj, hB8, hP8, hD8, hvD, hvP, hk⟩ := hrel
              by_cases hjm : j < m2
              case neg =>
                obtain rfl : m2 = j := by omega
                have hJ : ¬ (m2 : Int) < (m2 : Int) := by omega
                have his8 := iterSeen_of hB8.it
                clear hP8 hD8 hvD hvP
                go_wp2
                go_roundw
                case rel => exact ⟨s2, ua, k, uc, us, rfl, hB8, by omega⟩
                case measure => rw [his, his8]; exact hlt
              have hJ : (j : Int) < (m2 : Int) := by omega
              have wj1 : IntKind.i64.wrap ((j : Int) + 1) = ((j + 1 : Nat) : Int) := by rw [IntKind.wrap_i64]; have := hD8.le; have := hD8.max; omega
              have hl2 := hD8.len
              obtain ⟨d, hdj⟩ : ∃ d, es2[j]? = some d := ⟨_, List.getElem?_eq_getElem (by omega)⟩
              obtain ⟨bd, ofd, rfl, hbd, _⟩ := hD8.at0 (by omega)
              have hl3 := Lib.hid hl2
              clear hl2
              have p0 := SlR.cells hD8 hdj 0 _ rfl
              have p1 := SlR.cells hD8 hdj 1 _ rfl
              have p2 := SlR.cells hD8 hdj 2 _ rfl
              have p3 := SlR.cells hD8 hdj 3 _ rfl
              have p4 := SlR.cells hD8 hdj 4 _ rfl
              have p5 := SlR.cells hD8 hdj 5 _ rfl
              simp only [Nat.add_zero] at p0
              have hvd := hvD _ rfl
              clear hdj hvD
              obtain ⟨da_, db_, dx0, dz0, dx1, dz1⟩ := d
              dsimp only at p0 p1 p2 p3 p4 p5
              have hA9 : Below wr.heap.size wr (wr.alloc (.cells #[.int .i64 da_, .int .i64 db_, .int .i64 dx0, .int .i64 dz0, .int .i64 dx1, .int .i64 dz1] 96 (0, 0))) := (Below.refl _ _).alloc (Nat.le_refl _) _
              have hdr := World.alloc_heap_new wr (.cells #[.int .i64 da_, .int .i64 db_, .int .i64 dx0, .int .i64 dz0, .int .i64 dx1, .int .i64 dz1] 96 (0, 0))
              have hBK := hB8.below hA9
              have hPK := hkeep hA9 hP8
              have hDK := hD8.below hA9 (Nat.le_refl _)
              have hvK : (Value.slice ua k uc).ownBlock ≠ some wr.heap.size := fun e => by have := (hB8.own.lt _ e).2; omega
              have hLK := hB8.lw
              have hPKn : P ≠ wr.heap.size := by have := hblt hP8; omega
              have hqK : ∀ ad, some (⟨bd, ofd, none⟩ : Addr) = some ad → ad.block ≠ wr.heap.size := fun ad had e => by cases had; dsimp only at e; omega
              go_upto_region 20 with fail
              obtain ⟨Kd, hK0⟩ : ∃ K, K = wr.heap.size := ⟨_, rfl⟩
              obtain ⟨W9, hW9⟩ : ∃ W, W = wr.alloc (.cells #[.int .i64 da_, .int .i64 db_, .int .i64 dx0, .int .i64 dz0, .int .i64 dx1, .int .i64 dz1] 96 (0, 0)) := ⟨_, rfl⟩
              rw [← hK0] at hdr hvK hLK hPKn hqK
              rw [← hW9] at hdr hBK hPK hDK
              rw [← hW9, ← hK0]
              have hbel := hBK.bel
              clear hW9 hK0 hA9 hB8 hP8 hD8 hbd p0 p1 p2 p3 p4 p5
              refine wp_region_fun ([none, none, none, none, none, none, none, none, none, none, none, none, none, none, none, none, none, none, none, none, none, none, none, none, none, none, none, none, none, none, none, none, none, none, none, none, none, none, none, none, none, none, none, none, none, none, none, none, none, none, none, none, none, none, none, none, none, none, none, none, none, none, none, none, none, none, none, none, none, none, none, none, none, none, none, none, none, none, none, none, none, some 0, some 1, some 2, some 3, some 4, some 5, some 6, some 7, none, none, none, none, none, none, none, none, none, none, none, none, none, none, none, none]) (fun (b : Nat → Bool) (vals : Nat → Value) (W : World) => (b 8 = false → Below W9.heap.size W9 W) ∧ (b 8 = true → ∀ j, j < 8 → b j = true) ∧ (b 8 = true → ∃ (V : World) (z : Int), Below W9.heap.size W9 V ∧ W = V.setCell ⟨Kd, 0, none⟩ (.int .i64 z)) ∧ (b 5 = true → ∃ F : Int, vals 5 = .int .i64 F) ∧ (b 6 = true → ∃ F : Int, vals 6 = .int .i64 F) ∧ (b 0 = true → vals 0 = .pointer (some ⟨Kd, 0, none⟩)) ∧ (b 1 = true → vals 1 = .int .i64 da_) ∧ (b 2 = true → vals 2 = .slice (some ⟨G, off, none⟩) n c) ∧ (b 3 = true → vals 3 = .pointer (some ⟨P, 0, none⟩)) ∧ (b 4 = true → vals 4 = .int .i64 (x : Nat)) ∧ (b 7 = true → vals 7 = .pointer (some ⟨Kd, 0, none⟩))) (by kernel_rfl) (by kernel_rfl) (by kernel_rfl) (by kernel_rfl) ?_ ?_ ?_
              · intro vals
                exact ⟨fun _ => (Below.refl _ _).drew, (fun h => by cases (show false = true from h)), (fun h => by cases (show false = true from h)), (fun h => by cases (show false = true from h)), (fun h => by cases (show false = true from h)), (fun h => by cases (show false = true from h)), (fun h => by cases (show false = true from h)), (fun h => by cases (show false = true from h)), (fun h => by cases (show false = true from h)), (fun h => by cases (show false = true from h)), (fun h => by cases (show false = true from h))⟩
              · intro Q' K t b vals wi hoff hon i hlt hR hb hd hK
                have hlt : i < 9 := hlt
                obtain ⟨hW, ik, hF, e5, e6, h0, h1, h2, h3, h4, h7⟩ := hR
                revert hb hd hK
                cases i, hlt using cas9
                · intro hb hd hK
                  have g14 : t[(14 : Nat)]? = some (.pointer (some ⟨Kd, 0, none⟩)) := hoff 14 _ rfl rfl
                  clear hoff hon hd
                  refine wpOp_of rfl rfl ?_
                  go_simp
                  exact hK.out _ _ ⟨(hW), (fun h j hj => updB_up (ik h j hj)), (hF), (e5), (e6), (fun _ => rfl), (h1), (h2), (h3), (h4), (h7)⟩
                · intro hb hd hK
                  have d0 := hd 0 (by kernel_rfl)
                  have g81 : t[(81 : Nat)]? = some (.pointer (some ⟨Kd, 0, none⟩)) := (hon 0 81 rfl).trans (congrArg some (h0 d0))
                  have n8 : b 8 = false := by cases h : b 8 with | false => rfl | true => exact absurd (ik h 1 (by omega)) (by rw [hb]; decide)
                  have c0 := hcell (k := 0) (v := .int .i64 da_) (hkeep (hW n8) hdr) rfl
                  clear hoff hon hd
                  refine wpOp_of rfl rfl ?_
                  go_simp
                  exact hK.out _ _ ⟨(hW), (fun h j hj => updB_up (ik h j hj)), (hF), (e5), (e6), (h0), (fun _ => rfl), (h2), (h3), (h4), (h7)⟩
                · intro hb hd hK
                  have g1 : t[(1 : Nat)]? = some (.slice (some ⟨G, off, none⟩) n c) := hoff 1 _ rfl rfl
                  clear hoff hon hd
                  refine wpOp_of rfl rfl ?_
                  go_simp
                  exact hK.out _ _ ⟨(hW), (fun h j hj => updB_up (ik h j hj)), (hF), (e5), (e6), (h0), (h1), (fun _ => rfl), (h3), (h4), (h7)⟩
                · intro hb hd hK
                  have g11 : t[(11 : Nat)]? = some (.pointer (some ⟨P, 0, none⟩)) := hoff 11 _ rfl rfl
                  clear hoff hon hd
                  refine wpOp_of rfl rfl ?_
                  go_simp
                  exact hK.out _ _ ⟨(hW), (fun h j hj => updB_up (ik h j hj)), (hF), (e5), (e6), (h0), (h1), (h2), (fun _ => rfl), (h4), (h7)⟩
                · intro hb hd hK
                  have d3 := hd 3 (by kernel_rfl)
                  have g84 : t[(84 : Nat)]? = some (.pointer (some ⟨P, 0, none⟩)) := (hon 3 84 rfl).trans (congrArg some (h3 d3))
                  have n8 : b 8 = false := by cases h : b 8 with | false => rfl | true => exact absurd (ik h 4 (by omega)) (by rw [hb]; decide)
                  have c0 := hcell (k := 0) (v := .int .i64 (x : Nat)) (hkeep (hW n8) hPK) rfl
                  clear hoff hon hd
                  refine wpOp_of rfl rfl ?_
                  go_simp
                  exact hK.out _ _ ⟨(hW), (fun h j hj => updB_up (ik h j hj)), (hF), (e5), (e6), (h0), (h1), (h2), (h3), (fun _ => rfl), (h7)⟩
                · intro hb hd hK
                  have d2 := hd 2 (by kernel_rfl)
                  have g83 : t[(83 : Nat)]? = some (.slice (some ⟨G, off, none⟩) n c) := (hon 2 83 rfl).trans (congrArg some (h2 d2))
                  have d4 := hd 4 (by kernel_rfl)
                  have g85 : t[(85 : Nat)]? = some (.int .i64 (x : Nat)) := (hon 4 85 rfl).trans (congrArg some (h4 d4))
                  have n8 : b 8 = false := by cases h : b 8 with | false => rfl | true => exact absurd (ik h 5 (by omega)) (by rw [hb]; decide)
                  clear hoff hon hd
                  refine wpOp_of rfl rfl ?_
                  go_simp
                  go_at_call 103
                  refine (FI.out _ _ (hbel.trans ((hW n8).mono hbel.size))).mono ?_
                  rintro e wz ⟨⟨F, rfl⟩, hbz⟩
                  (try go_simp)
                  exact hK.out _ _ ⟨(fun _ => (hW n8).trans (hbz.mono (hW n8).size)), (fun h j hj => updB_up (ik h j hj)), (fun h => absurd (show b 8 = true from h) (by rw [n8]; decide)), (fun _ => ⟨F, rfl⟩), (e6), (h0), (h1), (h2), (h3), (h4), (h7)⟩
                · intro hb hd hK
                  have d1 := hd 1 (by kernel_rfl)
                  have g82 : t[(82 : Nat)]? = some (.int .i64 da_) := (hon 1 82 rfl).trans (congrArg some (h1 d1))
                  have d5 := hd 5 (by kernel_rfl)
                  have g86 : t[(86 : Nat)]? = some (vals 5) := hon 5 86 rfl
                  obtain ⟨F, eF⟩ := e5 d5
                  rw [eF] at g86
                  clear hoff hon hd
                  refine wpOp_of rfl rfl ?_
                  go_simp
                  exact hK.out _ _ ⟨(hW), (fun h j hj => updB_up (ik h j hj)), (hF), (e5), (fun _ => ⟨_, rfl⟩), (h0), (h1), (h2), (h3), (h4), (h7)⟩
                · intro hb hd hK
                  have g14 : t[(14 : Nat)]? = some (.pointer (some ⟨Kd, 0, none⟩)) := hoff 14 _ rfl rfl
                  clear hoff hon hd
                  refine wpOp_of rfl rfl ?_
                  go_simp
                  exact hK.out _ _ ⟨(hW), (fun h j hj => updB_up (ik h j hj)), (hF), (e5), (e6), (h0), (h1), (h2), (h3), (h4), (fun _ => rfl)⟩
                · intro hb hd hK
                  have d7 := hd 7 (by kernel_rfl)
                  have g88 : t[(88 : Nat)]? = some (.pointer (some ⟨Kd, 0, none⟩)) := (hon 7 88 rfl).trans (congrArg some (h7 d7))
                  have d6 := hd 6 (by kernel_rfl)
                  have g87 : t[(87 : Nat)]? = some (vals 6) := hon 6 87 rfl
                  have a0 := hd 0 (by kernel_rfl)
                  have a1 := hd 1 (by kernel_rfl)
                  have a2 := hd 2 (by kernel_rfl)
                  have a3 := hd 3 (by kernel_rfl)
                  have a4 := hd 4 (by kernel_rfl)
                  have a5 := hd 5 (by kernel_rfl)
                  have a6 := hd 6 (by kernel_rfl)
                  have a7 := hd 7 (by kernel_rfl)
                  obtain ⟨z, ez⟩ := e6 a6
                  rw [ez] at g87
                  have hdc := hkeep (hW hb) hdr
                  have z0 := hcell (k := 0) (v := .int .i64 da_) hdc rfl
                  have f0 := hfroz (k := 0) hdc
                  clear hoff hon hd hdc
                  refine wpOp_of rfl rfl ?_
                  go_simp
                  exact hK.out undef _ ⟨(fun h => by cases (show true = false from h)), (fun _ => upd8 a0 a1 a2 a3 a4 a5 a6 a7), (fun _ => ⟨wi, z, hW hb, rfl⟩), (e5), (e6), (h0), (h1), (h2), (h3), (h4), (h7)⟩
              · intro b vals wi hR hall
                obtain ⟨hW, ik, hF, e5, e6, h0, h1, h2, h3, h4, h7⟩ := hR
                obtain ⟨V, z, hV, hVe⟩ := hF (hall 8 (by decide))
                subst hVe
                dsimp only [over]
                clear h0 h1 h2 h3 h4 h7 hW ik hF e5 e6 hall
                obtain ⟨zA, hzA⟩ : ∃ y, y = z := ⟨_, rfl⟩
                rw [← hzA]
                clear hzA
                have hBV1 := (hBK.below hV).set hLK hvK 0 (.int .i64 zA)
                have hPV1 := hgrown (grown_set V Kd 0 (.int .i64 zA)) (hkeep hV hPK) (fun e => hPKn (Option.some.inj e).symm)
                have hDV1 := (hDK.below hV (Nat.le_refl _)).grown (grown_set V Kd 0 (.int .i64 zA)) (fun ad had e => hqK ad had (Option.some.inj e).symm)
                have hdV1 := heap_setCell_same V Kd 0 _ _ (.int .i64 zA) (hkeep hV hdr)
                obtain ⟨V1, hVV⟩ : ∃ U, U = V.setCell ⟨Kd, 0, none⟩ (.int .i64 zA) := ⟨_, rfl⟩
                rw [← hVV] at hBV1 hPV1 hDV1 hdV1 ⊢
                clear hVV hV hBK hPK hDK hdr
                have hBK := hBV1
                have hPK := hPV1
                have hDK := hDV1
                have hdr : V1.heap[Kd]? = some (.cells #[.int .i64 zA, .int .i64 db_, .int .i64 dx0, .int .i64 dz0, .int .i64 dx1, .int .i64 dz1] 96 (0, 0)) := hdV1
                have hbel := hBK.bel
                clear hBV1 hPV1 hDV1 hdV1
                go_upto_region 21 with fail
                refine wp_region_fun ([none, none, none, none, none, none, none, none, none, none, none, none, none, none, none, none, none, none, none, none, none, none, none, none, none, none, none, none, none, none, none, none, none, none, none, none, none, none, none, none, none, none, none, none, none, none, none, none, none, none, none, none, none, none, none, none, none, none, none, none, none, none, none, none, none, none, none, none, none, none, none, none, none, none, none, none, none, none, none, none, none, none, none, none, none, none, none, none, none, some 0, some 1, some 2, some 3, some 4, some 5, some 6, some 7, none, none, none, none, none, none, none, none]) (fun (b : Nat → Bool) (vals : Nat → Value) (W : World) => (b 8 = false → Below V1.heap.size V1 W) ∧ (b 8 = true → ∀ j, j < 8 → b j = true) ∧ (b 8 = true → ∃ (V : World) (z : Int), Below V1.heap.size V1 V ∧ W = V.setCell ⟨Kd, 1, none⟩ (.int .i64 z)) ∧ (b 5 = true → ∃ F : Int, vals 5 = .int .i64 F) ∧ (b 6 = true → ∃ F : Int, vals 6 = .int .i64 F) ∧ (b 0 = true → vals 0 = .pointer (some ⟨Kd, 1, none⟩)) ∧ (b 1 = true → vals 1 = .int .i64 db_) ∧ (b 2 = true → vals 2 = .slice (some ⟨G, off, none⟩) n c) ∧ (b 3 = true → vals 3 = .pointer (some ⟨P, 1, none⟩)) ∧ (b 4 = true → vals 4 = .int .i64 (y : Nat)) ∧ (b 7 = true → vals 7 = .pointer (some ⟨Kd, 1, none⟩))) (by kernel_rfl) (by kernel_rfl) (by kernel_rfl) (by kernel_rfl) ?_ ?_ ?_
                · intro vals
                  exact ⟨fun _ => (Below.refl _ _).drew, (fun h => by cases (show false = true from h)), (fun h => by cases (show false = true from h)), (fun h => by cases (show false = true from h)), (fun h => by cases (show false = true from h)), (fun h => by cases (show false = true from h)), (fun h => by cases (show false = true from h)), (fun h => by cases (show false = true from h)), (fun h => by cases (show false = true from h)), (fun h => by cases (show false = true from h)), (fun h => by cases (show false = true from h))⟩
                · intro Q' K t b vals wi hoff hon i hlt hR hb hd hK
                  have hlt : i < 9 := hlt
                  obtain ⟨hW, ik, hF, e5, e6, h0, h1, h2, h3, h4, h7⟩ := hR
                  revert hb hd hK
                  cases i, hlt using cas9
                  · intro hb hd hK
                    have g14 : t[(14 : Nat)]? = some (.pointer (some ⟨Kd, 0, none⟩)) := hoff 14 _ rfl rfl
                    clear hoff hon hd
                    refine wpOp_of rfl rfl ?_
                    go_simp
                    exact hK.out _ _ ⟨(hW), (fun h j hj => updB_up (ik h j hj)), (hF), (e5), (e6), (fun _ => rfl), (h1), (h2), (h3), (h4), (h7)⟩
                  · intro hb hd hK
                    have d0 := hd 0 (by kernel_rfl)
                    have g89 : t[(89 : Nat)]? = some (.pointer (some ⟨Kd, 1, none⟩)) := (hon 0 89 rfl).trans (congrArg some (h0 d0))
                    have n8 : b 8 = false := by cases h : b 8 with | false => rfl | true => exact absurd (ik h 1 (by omega)) (by rw [hb]; decide)
                    have c0 := hcell (k := 1) (v := .int .i64 db_) (hkeep (hW n8) hdr) rfl
                    clear hoff hon hd
                    refine wpOp_of rfl rfl ?_
                    go_simp
                    exact hK.out _ _ ⟨(hW), (fun h j hj => updB_up (ik h j hj)), (hF), (e5), (e6), (h0), (fun _ => rfl), (h2), (h3), (h4), (h7)⟩
                  · intro hb hd hK
                    have g1 : t[(1 : Nat)]? = some (.slice (some ⟨G, off, none⟩) n c) := hoff 1 _ rfl rfl
                    clear hoff hon hd
                    refine wpOp_of rfl rfl ?_
                    go_simp
                    exact hK.out _ _ ⟨(hW), (fun h j hj => updB_up (ik h j hj)), (hF), (e5), (e6), (h0), (h1), (fun _ => rfl), (h3), (h4), (h7)⟩
                  · intro hb hd hK
                    have g11 : t[(11 : Nat)]? = some (.pointer (some ⟨P, 0, none⟩)) := hoff 11 _ rfl rfl
                    clear hoff hon hd
                    refine wpOp_of rfl rfl ?_
                    go_simp
                    exact hK.out _ _ ⟨(hW), (fun h j hj => updB_up (ik h j hj)), (hF), (e5), (e6), (h0), (h1), (h2), (fun _ => rfl), (h4), (h7)⟩
                  · intro hb hd hK
                    have d3 := hd 3 (by kernel_rfl)
                    have g92 : t[(92 : Nat)]? = some (.pointer (some ⟨P, 1, none⟩)) := (hon 3 92 rfl).trans (congrArg some (h3 d3))
                    have n8 : b 8 = false := by cases h : b 8 with | false => rfl | true => exact absurd (ik h 4 (by omega)) (by rw [hb]; decide)
                    have c0 := hcell (k := 1) (v := .int .i64 (y : Nat)) (hkeep (hW n8) hPK) rfl
                    clear hoff hon hd
                    refine wpOp_of rfl rfl ?_
                    go_simp
                    exact hK.out _ _ ⟨(hW), (fun h j hj => updB_up (ik h j hj)), (hF), (e5), (e6), (h0), (h1), (h2), (h3), (fun _ => rfl), (h7)⟩
                  · intro hb hd hK
                    have d2 := hd 2 (by kernel_rfl)
                    have g91 : t[(91 : Nat)]? = some (.slice (some ⟨G, off, none⟩) n c) := (hon 2 91 rfl).trans (congrArg some (h2 d2))
                    have d4 := hd 4 (by kernel_rfl)
                    have g93 : t[(93 : Nat)]? = some (.int .i64 (y : Nat)) := (hon 4 93 rfl).trans (congrArg some (h4 d4))
                    have n8 : b 8 = false := by cases h : b 8 with | false => rfl | true => exact absurd (ik h 5 (by omega)) (by rw [hb]; decide)
                    clear hoff hon hd
                    refine wpOp_of rfl rfl ?_
                    go_simp
                    go_at_call 103
                    refine (FI.out _ _ (hbel.trans ((hW n8).mono hbel.size))).mono ?_
                    rintro e wz ⟨⟨F, rfl⟩, hbz⟩
                    (try go_simp)
                    exact hK.out _ _ ⟨(fun _ => (hW n8).trans (hbz.mono (hW n8).size)), (fun h j hj => updB_up (ik h j hj)), (fun h => absurd (show b 8 = true from h) (by rw [n8]; decide)), (fun _ => ⟨F, rfl⟩), (e6), (h0), (h1), (h2), (h3), (h4), (h7)⟩
                  · intro hb hd hK
                    have d1 := hd 1 (by kernel_rfl)
                    have g90 : t[(90 : Nat)]? = some (.int .i64 db_) := (hon 1 90 rfl).trans (congrArg some (h1 d1))
                    have d5 := hd 5 (by kernel_rfl)
                    have g94 : t[(94 : Nat)]? = some (vals 5) := hon 5 94 rfl
                    obtain ⟨F, eF⟩ := e5 d5
                    rw [eF] at g94
                    clear hoff hon hd
                    refine wpOp_of rfl rfl ?_
                    go_simp
                    exact hK.out _ _ ⟨(hW), (fun h j hj => updB_up (ik h j hj)), (hF), (e5), (fun _ => ⟨_, rfl⟩), (h0), (h1), (h2), (h3), (h4), (h7)⟩
                  · intro hb hd hK
                    have g14 : t[(14 : Nat)]? = some (.pointer (some ⟨Kd, 0, none⟩)) := hoff 14 _ rfl rfl
                    clear hoff hon hd
                    refine wpOp_of rfl rfl ?_
                    go_simp
                    exact hK.out _ _ ⟨(hW), (fun h j hj => updB_up (ik h j hj)), (hF), (e5), (e6), (h0), (h1), (h2), (h3), (h4), (fun _ => rfl)⟩
                  · intro hb hd hK
                    have d7 := hd 7 (by kernel_rfl)
                    have g96 : t[(96 : Nat)]? = some (.pointer (some ⟨Kd, 1, none⟩)) := (hon 7 96 rfl).trans (congrArg some (h7 d7))
                    have d6 := hd 6 (by kernel_rfl)
                    have g95 : t[(95 : Nat)]? = some (vals 6) := hon 6 95 rfl
                    have a0 := hd 0 (by kernel_rfl)
                    have a1 := hd 1 (by kernel_rfl)
                    have a2 := hd 2 (by kernel_rfl)
                    have a3 := hd 3 (by kernel_rfl)
                    have a4 := hd 4 (by kernel_rfl)
                    have a5 := hd 5 (by kernel_rfl)
                    have a6 := hd 6 (by kernel_rfl)
                    have a7 := hd 7 (by kernel_rfl)
                    obtain ⟨z, ez⟩ := e6 a6
                    rw [ez] at g95
                    have hdc := hkeep (hW hb) hdr
                    have z0 := hcell (k := 1) (v := .int .i64 db_) hdc rfl
                    have f0 := hfroz (k := 1) hdc
                    clear hoff hon hd hdc
                    refine wpOp_of rfl rfl ?_
                    go_simp
                    exact hK.out undef _ ⟨(fun h => by cases (show true = false from h)), (fun _ => upd8 a0 a1 a2 a3 a4 a5 a6 a7), (fun _ => ⟨wi, z, hW hb, rfl⟩), (e5), (e6), (h0), (h1), (h2), (h3), (h4), (h7)⟩
                · intro b vals wi hR hall
                  obtain ⟨hW, ik, hF, e5, e6, h0, h1, h2, h3, h4, h7⟩ := hR
                  obtain ⟨V, z, hV, hVe⟩ := hF (hall 8 (by decide))
                  subst hVe
                  dsimp only [over]
                  clear h0 h1 h2 h3 h4 h7 hW ik hF e5 e6 hall
                  obtain ⟨zB, hzB⟩ : ∃ y, y = z := ⟨_, rfl⟩
                  rw [← hzB]
                  clear hzB
                  have hBV2 := (hBK.below hV).set hLK hvK 1 (.int .i64 zB)
                  have hPV2 := hgrown (grown_set V Kd 1 (.int .i64 zB)) (hkeep hV hPK) (fun e => hPKn (Option.some.inj e).symm)
                  have hDV2 := (hDK.below hV (Nat.le_refl _)).grown (grown_set V Kd 1 (.int .i64 zB)) (fun ad had e => hqK ad had (Option.some.inj e).symm)
                  have hdV2 := heap_setCell_same V Kd 1 _ _ (.int .i64 zB) (hkeep hV hdr)
                  obtain ⟨V2, hVV⟩ : ∃ U, U = V.setCell ⟨Kd, 1, none⟩ (.int .i64 zB) := ⟨_, rfl⟩
                  rw [← hVV] at hBV2 hPV2 hDV2 hdV2 ⊢
                  clear hVV hV hBK hPK hDK hdr
                  have hBK := hBV2
                  have hPK := hPV2
                  have hDK := hDV2
                  have hdr : V2.heap[Kd]? = some (.cells #[.int .i64 zA, .int .i64 zB, .int .i64 dx0, .int .i64 dz0, .int .i64 dx1, .int .i64 dz1] 96 (0, 0)) := hdV2
                  have hbel := hBK.bel
                  clear hBV2 hPV2 hDV2 hdV2
                  have hDKb : bd < V2.heap.size := by obtain ⟨b0, o0, e0, hlt0, _⟩ := hDK.at0 (by omega); cases e0; exact hlt0
                  have hown := hBK.own
                  have HBK := Lib.hid hBK
                  have hsz9 := hBK.lw
                  have n0 := hcell (k := 0) (v := .int .i64 zA) hdr rfl
                  have n1 := hcell (k := 1) (v := .int .i64 zB) hdr rfl
                  have n2 := hcell (k := 2) (v := .int .i64 dx0) hdr rfl
                  have n3 := hcell (k := 3) (v := .int .i64 dz0) hdr rfl
                  have n4 := hcell (k := 4) (v := .int .i64 dx1) hdr rfl
                  have n5 := hcell (k := 5) (v := .int .i64 dz1) hdr rfl
                  clear hdr hBK
                  go_wp2_with (at_builtin; refine wpList_appR (f := drC) (sz := 6) (e := 96) (B := L) (n := k) (xs := us) _ drC_len drC_one rfl _ _ 25 rfl (.agg #[.int .i64 0, .int .i64 0, .int .i64 0, .int .i64 0, .int .i64 0, .int .i64 0]) 48 Try.underlying25 info_dr rfl (by decide) ⟨zA, zB, dx0, dz0, dx1, dz1⟩ 96 hown rfl rfl (by omega) (by omega) hsz9 ?_; intro v' w' hown' happ; obtain ⟨xa, xc, rfl, _⟩ := OwnR.reads drC_len hown')
                  have hB11 := HBK.out.app hown' happ
                  have hP11 := hgrown happ.grown hPK hvP
                  have hD11 := hDK.grown happ.grown (fun ad had e => by cases had; exact hvd e)
                  have hvD11 : ∀ ad, some (⟨bd, ofd, none⟩ : Addr) = some ad → (Value.slice xa (k + 1) xc).ownBlock ≠ some ad.block := fun ad had e => by
                    cases had
                    rcases happ.own with h | h
                    · rw [h] at e; exact hvd e
                    · have h2 : V2.heap.size ≤ bd := h _ e
                      omega
                  have hvP11 : (Value.slice xa (k + 1) xc).ownBlock ≠ some P := fun e => by
                    rcases happ.own with h | h
                    · rw [h] at e; exact hvP e
                    · have := h _ e
                      have := hblt hPK
                      omega
                  clear n0 n1 n2 n3 n4 n5 happ hown' hown HBK hPK hDK hvd hvP hbel
                  go_wp2
                  go_roundw
                  case rel => exact ⟨j + 1, xa, k + 1, xc, _, rfl, by go_num, by omega, hB11, hP11, hD11, hvD11, hvP11, by omega⟩
                  case measure => simp [intOf]; omega
end Go.Proofs.Ytgfmdgiepomkiaa
