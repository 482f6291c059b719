/- Walks: Great; the law: a tile as bytes. -/
import Derived.Test.YtgfmdgiepomkiaaTlM
import Derived.Test.YtgfmdgiepomkiaaNumL
namespace Go.Proofs.Ytgfmdgiepomkiaa
open Go.RowKit Go.Sort
attribute [local go_sem] Instr.index

def GreatPost (w : World) (e : Ending) (w' : World) : Prop := ∃ g : Bool, e = .returned (.bool g) ∧ Below w.heap.size w w'
set_option maxRecDepth 100000 in
set_option maxHeartbeats 4000000 in
theorem great18_any (a : Option Addr) (n c : Nat) (xs : List (RHd × Rc)) (k : Int) (w : World) (hx : SlRc w a n c xs) :
    Calls Try.prog 6 #[.slice a n c, .int .i64 k] w (GreatPost w) := by
  have Hl := Lib.hid hx.sl.len
  have hmax := hx.sl.max
  have hle := hx.sl.le
  have HX0 := Lib.hid (fun W (hb' : Below w.heap.size w W) => hx.below hb' (Nat.le_refl _))
  clear hx
  go_enter Try.func6, Try.ntmps6
  by_cases hk : k < (n : Int)
  case pos =>
    go_wp2
    go_ret
    exact ⟨_, rfl, Below.refl _ _⟩
  go_wp2_with fail
  go_loopw [5] (fun s wr => ∃ i : Nat, s = .int .i64 i ∧ i ≤ n ∧ Below w.heap.size w wr) (fun s _ => n - (intOf s).toNat)
  case atStart => exact ⟨0, rfl, Nat.zero_le _, Below.refl _ _⟩
  case round =>
    obtain ⟨i, rfl, hi, hbr⟩ := hrel
    by_cases hin : i < n
    case neg =>
      obtain rfl : i = n := by omega
      have hinI : ¬ (i : Int) < (i : Int) := by omega
      go_wp2
      go_ret
      exact ⟨_, rfl, hbr⟩
    have hinI : (i : Int) < (n : Int) := by omega
    have wi1 : IntKind.i64.wrap ((i : Int) + 1) = ((i + 1 : Nat) : Int) := by rw [IntKind.wrap_i64]; omega
    obtain ⟨⟨hr, rr⟩, hxi⟩ : ∃ x, xs[i]? = some x := ⟨_, List.getElem?_eq_getElem (by rw [Hl.out]; exact hin)⟩
    have hw := HX0.out _ hbr
    obtain ⟨G, off, rfl, _, _⟩ := hw.sl.at0 (by omega)
    have r5 := hw.at hxi 5 _ rfl
    have r6 := hw.at hxi 6 _ rfl
    clear hw
    by_cases h1 : (100 : Int) < (rr.ys.length : Int)
    case pos =>
      go_wp2
      go_ret
      exact ⟨_, rfl, hbr⟩
    by_cases h2 : (100 : Int) < (rr.ts.length : Int)
    case pos =>
      go_wp2
      go_ret
      exact ⟨_, rfl, hbr⟩
    go_wp2
    go_roundw
    case rel => exact ⟨i + 1, by go_num, by omega, hbr⟩
    case measure => simp [intOf]; omega

set_option maxRecDepth 100000 in
set_option maxHeartbeats 8000000 in
theorem codetiles_any (cf : Cfg) (tx tz : Int) (a : Option Addr) (n c : Nat) (xs : List (RHd × Rc)) (b : Option Addr) (m d : Nat) (ds : List Dr) (w : World) (hx : SlRc w a n c xs) (hd : SlR drC 6 w b m d ds) :
    Calls Try.prog 3 #[cfgV cf, .agg #[.int .i64 tx, .int .i64 tz, .slice a n c, .slice b m d]] w fun e w' => e = .returned (.bool true) ∧ Below w.heap.size w w' := by
  have GR := Lib.hid (fun W (hb' : Below w.heap.size w W) => great18_any a n c xs 100 W (hx.below hb' (Nat.le_refl _)))
  have C1 := Lib.hid (fun W (hb' : Below w.heap.size w W) => codetile_any cf tx tz a n c xs b m d ds W (hx.below hb' (Nat.le_refl _)) (hd.below hb' (Nat.le_refl _)))
  have C2 := Lib.hid (fun W (hb' : Below w.heap.size w W) => refTile20_any cf tx tz a n c xs b m d ds W (hx.below hb' (Nat.le_refl _)) (hd.below hb' (Nat.le_refl _)))
  clear hx hd
  unfold TilePost at C1 C2
  generalize tlE cf tx tz (xs.map Prod.snd) ds = E at C1 C2
  generalize tileB cf tx tz (xs.map Prod.snd) ds = BB at C1 C2
  have hB : Below w.heap.size w ((w.alloc (cfO cf)).alloc (.cells #[.int .i64 tx, .int .i64 tz, .slice a n c, .slice b m d] 27 (0, 0))) := ((Below.refl _ _).alloc (Nat.le_refl _) _).alloc (by simp) _
  have hC := halloc (World.alloc_heap_new w (cfO cf)) (.cells #[.int .i64 tx, .int .i64 tz, .slice a n c, .slice b m d] 27 (0, 0))
  have hT := World.alloc_heap_new (w.alloc (cfO cf)) (.cells #[.int .i64 tx, .int .i64 tz, .slice a n c, .slice b m d] 27 (0, 0))
  rw [World.size_alloc] at hT
  obtain ⟨W1, hW1⟩ : ∃ W, W = (w.alloc (cfO cf)).alloc (.cells #[.int .i64 tx, .int .i64 tz, .slice a n c, .slice b m d] 27 (0, 0)) := ⟨_, rfl⟩
  rw [← hW1] at hB hC hT
  dsimp only [cfO, cfgV] at hC hW1 C1 C2 ⊢
  have t0 := hcell (k := 0) (v := .int .i64 tx) hT rfl
  have t1 := hcell (k := 1) (v := .int .i64 tz) hT rfl
  have t2 := hcell (k := 2) (v := .slice a n c) hT rfl
  have t3 := hcell (k := 3) (v := .slice b m d) hT rfl
  go_enter Try.func3, Try.ntmps3
  go_upto_region 1 with fail
  rw [← hW1]
  clear hW1
  go_wp2_with fail
  refine (GR.out _ hB).mono ?_
  rintro e w1 ⟨g, rfl, hb1⟩
  have hB1 := hB.trans (hb1.mono hB.size)
  have HC1 := Lib.hid (hkeep hb1 hC)
  have HT1 := Lib.hid (hkeep hb1 hT)
  clear t0 t1 t2 t3 hC hT hb1 hB GR
  have hT := HT1.out
  have t0 := hcell (k := 0) (v := .int .i64 tx) hT rfl
  have t1 := hcell (k := 1) (v := .int .i64 tz) hT rfl
  have t2 := hcell (k := 2) (v := .slice a n c) hT rfl
  have t3 := hcell (k := 3) (v := .slice b m d) hT rfl
  clear hT
  cases g with
  | true =>
    clear t0 t1 t2 t3
    go_wp2_with fail
    refine (wakes20_any _).mono ?_
    rintro e w2 ⟨rfl, hb2⟩
    have hB2 := hB1.trans (hb2.mono hB1.size)
    go_wp2
    go_ret
    exact ⟨rfl, hB2⟩
  | false =>
  by_cases h500 : (500 : Int) < (m : Int)
  case pos =>
    go_wp2_with fail
    refine (wakes20_any _).mono ?_
    rintro e w2 ⟨rfl, hb2⟩
    have hB2 := hB1.trans (hb2.mono hB1.size)
    go_wp2
    go_ret
    exact ⟨rfl, hB2⟩
  have hC := HC1.out
  have c0 := hcell (k := 0) (v := .int .i64 cf.clear) hC rfl
  have c1 := hcell (k := 1) (v := .int .i64 cf.climb) hC rfl
  have c2 := hcell (k := 2) (v := .int .i64 cf.height) hC rfl
  have c3 := hcell (k := 3) (v := .int .i64 cf.rise) hC rfl
  have c4 := hcell (k := 4) (v := .int .i64 cf.run) hC rfl
  have c5 := hcell (k := 5) (v := .int .i64 cf.w) hC rfl
  have c6 := hcell (k := 6) (v := .int .i64 cf.d) hC rfl
  clear hC
  go_wp2_with fail
  refine (C1.out _ hB1).mono ?_
  rintro e w2 ⟨v1, n1, rfl, ho1, hb2⟩
  have hB2 := hB1.trans (hb2.mono hB1.size)
  obtain ⟨a1, k1, rfl, hs1⟩ := ho1.reads
  have HC2 := Lib.hid (hkeep hb2 HC1.out)
  have HT2 := Lib.hid (hkeep hb2 HT1.out)
  have Hs1 := Lib.hid hs1
  clear c0 c1 c2 c3 c4 c5 c6 t0 t1 t2 t3 ho1 hs1 hb2 hB1 HC1 HT1 C1
  have hC := HC2.out
  have hT := HT2.out
  have c0 := hcell (k := 0) (v := .int .i64 cf.clear) hC rfl
  have c1 := hcell (k := 1) (v := .int .i64 cf.climb) hC rfl
  have c2 := hcell (k := 2) (v := .int .i64 cf.height) hC rfl
  have c3 := hcell (k := 3) (v := .int .i64 cf.rise) hC rfl
  have c4 := hcell (k := 4) (v := .int .i64 cf.run) hC rfl
  have c5 := hcell (k := 5) (v := .int .i64 cf.w) hC rfl
  have c6 := hcell (k := 6) (v := .int .i64 cf.d) hC rfl
  have t0 := hcell (k := 0) (v := .int .i64 tx) hT rfl
  have t1 := hcell (k := 1) (v := .int .i64 tz) hT rfl
  have t2 := hcell (k := 2) (v := .slice a n c) hT rfl
  have t3 := hcell (k := 3) (v := .slice b m d) hT rfl
  clear hC hT
  go_wp2_with fail
  refine (C2.out _ hB2).mono ?_
  rintro e w3 ⟨v2, n2, rfl, ho2, hb3⟩
  have hB3 := hB2.trans (hb3.mono hB2.size)
  obtain ⟨a2, k2, rfl, hs2⟩ := ho2.reads
  have Hs2 := Lib.hid hs2
  have Hs12 := Lib.hid (Hs1.out.below hb3 (Nat.le_refl _))
  clear c0 c1 c2 c3 c4 c5 c6 t0 t1 t2 t3 ho2 hs2 hb3 hB2 Hs1 HC2 HT2 C2
  go_wp2_with fail
  refine (bytes_any a1 a2 _ k1 _ k2 _ _ _ Hs12.out Hs2.out).mono ?_
  rintro e w4 ⟨rfl, q, hw4⟩
  have hB4 : Below w.heap.size w w4 := by rw [hw4]; exact below_drewN hB3 _
  clear hw4
  rw [decide_eq_true (rfl : BB = BB)]
  go_wp2_with fail
  refine (wakes20_any _).mono ?_
  rintro e w5 ⟨rfl, hb5⟩
  have hB5 := hB4.trans (hb5.mono hB4.size)
  go_wp2
  go_ret
  exact ⟨rfl, hB5⟩
end Go.Proofs.Ytgfmdgiepomkiaa
