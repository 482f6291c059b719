/- Walks: is a mesh great? -/
import Derived.Test.YtmgkkmcihplojaaGreatSmA
namespace Go.Proofs.YtmgkkmcihplojaaGreat
open Go.RowKit Go.Sort
attribute [local go_sem] Instr.index

/-- At most nine tiles, none of them great. -/
def TlsB (n : Nat) (ts : List Tl) : Prop := n ≤ 9 ∧ ∀ t ∈ ts, t.rn ≤ 60 ∧ t.dn ≤ 500
/-- Some boolean is told; if it is false, C. -/
def GtPost (C : Prop) (w : World) (e : Ending) (w' : World) : Prop := (∃ q : Bool, e = .returned (.bool q) ∧ (q = false → C)) ∧ Below w.heap.size w w'
theorem GtPost.yes {C : Prop} {w w' : World} (hb : Below w.heap.size w w') : GtPost C w (.returned (.bool true)) w' := ⟨⟨true, rfl, fun h => by cases h⟩, hb⟩
theorem GtPost.mk {C : Prop} {w w' : World} (q : Bool) (hC : C) (hb : Below w.heap.size w w') : GtPost C w (.returned (.bool q)) w' := ⟨⟨q, rfl, fun _ => hC⟩, hb⟩
set_option maxRecDepth 100000 in
set_option maxHeartbeats 4000000 in
theorem great17_any (a : Option Addr) (n c : Nat) (xs : List (RHd × Rc)) (w : World) (hx : SlRc w a n c xs) :
    Calls Tryz.prog 13 #[.slice a n c] w (GtPost True w) := by
  have Hl := Lib.hid hx.sl.len
  have hmax := hx.sl.max
  have hle := hx.sl.le
  have HX0 := Lib.hid (fun W (hb' : Below w.heap.size w W) => hx.below hb' (Nat.le_refl _))
  clear hx
  go_enter Tryz.func13, Tryz.ntmps13
  go_wp2_with fail
  go_loopw [6] (fun s wr => ∃ i : Nat, s = .int .i64 i ∧ i ≤ n ∧ Below w.heap.size w wr) (fun s _ => n - (intOf s).toNat)
  case atStart => exact ⟨0, rfl, Nat.zero_le _, Below.refl _ _⟩
  case round =>
    obtain ⟨i, rfl, hi, hbr⟩ := hrel
    by_cases hin : i < n
    case neg =>
      obtain rfl : i = n := by omega
      have hinI : ¬ (i : Int) < (i : Int) := by omega
      go_wp2
      go_ret
      exact GtPost.mk _ trivial hbr
    have hinI : (i : Int) < (n : Int) := by omega
    have wi1 : IntKind.i64.wrap ((i : Int) + 1) = ((i + 1 : Nat) : Int) := by rw [IntKind.wrap_i64]; omega
    by_cases h0 : (100 : Int) ≤ (i : Int)
    case pos =>
      go_wp2
      go_ret
      exact GtPost.mk _ trivial hbr
    obtain ⟨⟨hr, rr⟩, hxi⟩ : ∃ x, xs[i]? = some x := ⟨_, List.getElem?_eq_getElem (by rw [Hl.out]; exact hin)⟩
    have hw := HX0.out _ hbr
    obtain ⟨G, off, rfl, _, _⟩ := hw.sl.at0 (by omega)
    have r5 := hw.at hxi 5 _ rfl
    have r6 := hw.at hxi 6 _ rfl
    clear hw hxi
    by_cases h1 : (200 : Int) < (rr.ys.length : Int)
    case pos =>
      go_wp2
      go_ret
      exact GtPost.mk _ trivial hbr
    by_cases h2 : (200 : Int) < (rr.ts.length : Int)
    case pos =>
      go_wp2
      go_ret
      exact GtPost.mk _ trivial hbr
    go_wp2
    go_roundw
    case rel => exact ⟨i + 1, by go_num, by omega, hbr⟩
    case measure => simp [intOf]; omega
set_option maxRecDepth 100000 in
set_option maxHeartbeats 4000000 in
theorem greattile_any (x z : Int) (a : Option Addr) (n c : Nat) (xs : List (RHd × Rc)) (b : Option Addr) (m d : Nat) (w : World) (hx : SlRc w a n c xs) :
    Calls Tryz.prog 7 #[.agg #[.int .i64 x, .int .i64 z, .slice a n c, .slice b m d]] w (GtPost (m ≤ 500) w) := by
  have hB : Below w.heap.size w (w.alloc (.cells #[.int .i64 x, .int .i64 z, .slice a n c, .slice b m d] 38 (0, 0))) := (Below.refl _ _).alloc (Nat.le_refl _) _
  have hT := World.alloc_heap_new w (.cells #[.int .i64 x, .int .i64 z, .slice a n c, .slice b m d] 38 (0, 0))
  have GG := Lib.hid (great17_any a n c xs _ (hx.below hB (Nat.le_refl _)))
  unfold GtPost at GG
  clear hx
  have HT := Lib.hid hT
  have c2 := hcell (k := 2) (v := .slice a n c) hT rfl
  clear hT
  go_enter Tryz.func7, Tryz.ntmps7
  go_wp2_with fail
  refine GG.out.mono ?_
  rintro e w1 ⟨⟨q, rfl, _⟩, hb1⟩
  have hB1 := hB.trans (hb1.mono hB.size)
  have c3 := hcell (k := 3) (v := .slice b m d) (hkeep hb1 HT.out) rfl
  clear c2
  cases q with
  | true =>
    go_wp2
    go_ret
    exact GtPost.yes hB1
  | false =>
  by_cases hm : (500 : Int) < (m : Int)
  case pos =>
    go_wp2
    go_ret
    exact GtPost.yes hB1
  go_wp2
  go_ret
  exact GtPost.mk _ (by omega) hB1
set_option maxRecDepth 100000 in
set_option maxHeartbeats 8000000 in
theorem great23_any (a : Option Addr) (n c : Nat) (ts : List Tl) (w : World) (hx : SlTl w a n c ts) :
    Calls Tryz.prog 4 #[.slice a n c] w (GtPost (TlsB n ts) w) := by
  have Hl := Lib.hid hx.sl.len
  have hmax := hx.sl.max
  have hle := hx.sl.le
  have HX := Lib.hid (fun W (hb : Below w.heap.size w W) => hx.below hb (Nat.le_refl _))
  clear hx
  go_enter Tryz.func4, Tryz.ntmps4
  go_wp2_with fail
  go_loopw [6] (fun s wr => ∃ i : Nat, s = .int .i64 i ∧ i ≤ n ∧ i ≤ 9 ∧ Hid (∀ (j : Nat) t, j < i → ts[j]? = some t → t.rn ≤ 60 ∧ t.dn ≤ 500) ∧ Below w.heap.size w wr) (fun s _ => n - (intOf s).toNat)
  case atStart => exact ⟨0, rfl, Nat.zero_le _, by omega, (fun j t h _ => absurd h (Nat.not_lt_zero _)), Below.refl _ _⟩
  case round =>
    obtain ⟨i, rfl, hi, hi9, HF, hbr⟩ := hrel
    by_cases hin : i < n
    case neg =>
      obtain rfl : i = n := by omega
      have hinI : ¬ (i : Int) < (i : Int) := by omega
      go_wp2
      go_ret
      exact GtPost.mk _ (show TlsB _ _ from ⟨hi9, fun t ht => by obtain ⟨j, hj, rfl⟩ := List.getElem_of_mem ht; exact HF.out j _ (by rw [← Hl.out]; exact hj) (List.getElem?_eq_getElem hj)⟩) hbr
    have hinI : (i : Int) < (n : Int) := by omega
    have wi1 : IntKind.i64.wrap ((i : Int) + 1) = ((i + 1 : Nat) : Int) := by rw [IntKind.wrap_i64]; omega
    by_cases h0 : (9 : Int) ≤ (i : Int)
    case pos =>
      go_wp2
      go_ret
      exact GtPost.yes hbr
    obtain ⟨⟨tx, tz, ra, rn, rc, rs, da, dn, dc, dl⟩, htk⟩ : ∃ t, ts[i]? = some t := ⟨_, List.getElem?_eq_getElem (by rw [Hl.out]; exact hin)⟩
    have hw := HX.out _ hbr
    obtain ⟨G, off, rfl, _, _⟩ := hw.sl.at0 (by omega)
    have r0 := hw.sl.cells htk 0 _ rfl
    have r1 := hw.sl.cells htk 1 _ rfl
    have r2 := hw.sl.cells htk 2 _ rfl
    have r3 := hw.sl.cells htk 3 _ rfl
    simp only [Nat.add_zero] at r0
    dsimp only [tlC] at r0 r1 r2 r3
    have GG := Lib.hid (greattile_any tx tz ra rn rc rs da dn dc _ (hw.one htk).1)
    unfold GtPost at GG
    have HTK := Lib.hid htk
    clear hw htk
    go_wp2_with fail
    refine GG.out.mono ?_
    rintro e w1 ⟨⟨q, rfl, hq⟩, hb1⟩
    have hb2 := hbr.trans (hb1.mono hbr.size)
    have r2' := hbc hb1 r2
    have HQ := Lib.hid hq
    clear r0 r1 r2 r3 hq hb1 hbr GG
    cases q with
    | true =>
      go_wp2
      go_ret
      exact GtPost.yes hb2
    | false =>
    have HC := Lib.hid (HQ.out rfl)
    clear HQ
    by_cases h6 : (60 : Int) < (rn : Int)
    case pos =>
      go_wp2
      go_ret
      exact GtPost.yes hb2
    have hrn : rn ≤ 60 := by omega
    have HF2 : Hid (∀ (j : Nat) t, j < i + 1 → ts[j]? = some t → t.rn ≤ 60 ∧ t.dn ≤ 500) := fun j t hj ht => by
      by_cases hji : j < i
      · exact HF.out j t hji ht
      · obtain rfl : j = i := by omega
        rw [HTK.out] at ht
        cases ht
        exact ⟨hrn, HC.out⟩
    go_wp2
    go_roundw
    case rel => exact ⟨i + 1, by go_num, by omega, by omega, HF2, hb2⟩
    case measure => simp [intOf]; omega
end Go.Proofs.YtmgkkmcihplojaaGreat
