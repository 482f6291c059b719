/- Walks: filter.Each: its maker, its test, its iterator. -/
import Derived.Laws.EntriesVeiled
import Derived.Test.YtilhmlapbifbbaaIter
import Derived.Test.YtilhmlapbifbbaaFil
namespace Go.Proofs.Ytilhmlapbifbbaa
open Go.RowKit Go.Shelf Go.Sort
attribute [local go_sem] Oper.semAt_some

def cfgL (c : Cfg) : List Value := [.int .i64 c.clear, .int .i64 c.climb, .int .i64 c.height, .int .i64 c.rise, .int .i64 c.run, .int .i64 c.w, .int .i64 c.d]

/-- What Each has laid from block B on: the config, the spans, the test. -/
structure EachAt (B : Nat) (cf : Cfg) (a : Option Addr) (n c : Nat) (xs : List Spn) (w : World) : Prop where
  cfg : ∀ j v, (cfgL cf)[j]? = some v → w.cell? ⟨B, j, none⟩ = some v
  sl : w.cell? ⟨B + 1, 0, none⟩ = some (.slice a n c)
  op : w.cell? ⟨B + 2, 0, none⟩ = some (.func (.func 103) #[] #[.pointer (some ⟨B + 1, 0, none⟩), .pointer (some ⟨B, 0, none⟩)])
  xs : SlSp w a n c xs
  lt : B + 2 < w.heap.size

theorem EachAt.below {B : Nat} {cf : Cfg} {a : Option Addr} {n c : Nat} {xs : List Spn} {w w' : World} (h : EachAt B cf a n c xs w) (hb : Below w.heap.size w w') : EachAt B cf a n c xs w' :=
  ⟨fun j v hj => (hb.cell (p := ⟨B, j, none⟩) (by have := h.lt; simp; omega)).trans (h.cfg j v hj), (hb.cell (p := ⟨B + 1, 0, none⟩) (by have := h.lt; simp; omega)).trans h.sl, (hb.cell (p := ⟨B + 2, 0, none⟩) (by have := h.lt; simp; omega)).trans h.op, h.xs.below hb (Nat.le_refl _), Nat.lt_of_lt_of_le h.lt hb.size⟩

theorem EachAt.keep {B : Nat} {cf : Cfg} {a : Option Addr} {n c : Nat} {xs : List Spn} {w w' : World} (h : EachAt B cf a n c xs w) {L : Nat} {S : Nat → Prop} (hk : KeepEx L S w w') (hL : B + 2 < L) (h0 : ¬ S B) (h1 : ¬ S (B + 1)) (h2 : ¬ S (B + 2)) (ha : ∀ ad, a = some ad → n = 0 ∨ (ad.block < L ∧ ¬ S ad.block)) : EachAt B cf a n c xs w' :=
  ⟨fun j v hj => hk.cell (by simp; omega) (by simpa using h0) (h.cfg j v hj), hk.cell (by simp; omega) (by simpa using h1) h.sl, hk.cell (by simp; omega) (by simpa using h2) h.op, h.xs.keepEx hk ha, Nat.lt_of_lt_of_le h.lt hk.size⟩

set_option maxHeartbeats 400000 in
theorem each_any (cf : Cfg) (a : Option Addr) (n c : Nat) (xs : List Spn) (w : World) (hx : SlSp w a n c xs) :
    Calls Try.prog 66 #[cfgV cf, .slice a n c] w fun e w' => e = .returned (.func (.func 104) #[] #[.pointer (some ⟨w.heap.size + 1, 0, none⟩), .pointer (some ⟨w.heap.size + 2, 0, none⟩)]) ∧ Below w.heap.size w w' ∧ EachAt w.heap.size cf a n c xs w' ∧ w'.heap.size = w.heap.size + 3 := by
  obtain ⟨clear, climb, height, rise, run, cw, cd⟩ := cf
  unfold cfgV
  simp only
  have Hx := Lib.hid hx; clear hx
  go_enter Try.func66, Try.ntmps66
  go_wp2
  go_ret
  refine ⟨rfl, (((Below.refl _ _).alloc (Nat.le_refl _) _).alloc (by simp) _).alloc (by simp; omega) _, ⟨fun j v hj => ?_, ?_, ?_, ?_, by simp⟩, by simp⟩
  · rw [World.cell?_alloc_past _ _ _ (by simp; omega), World.cell?_alloc_past _ _ _ (by simp), World.cell?_alloc_at _ _ _ _ rfl]
    simpa [cfgL] using hj
  · rw [World.cell?_alloc_past _ _ _ (by simp), World.cell?_alloc_at _ _ _ _ (by simp)]
    rfl
  · rw [World.cell?_alloc_at _ _ _ _ (by simp)]
    rfl
  · exact ((Hx.out.alloc _).alloc _).alloc _

set_option maxHeartbeats 400000 in
theorem eachopen_any (cf : Cfg) (a : Option Addr) (n c : Nat) (xs : List Spn) (k : Nat) (x : Spn) (B : Nat) (w : World) (he : EachAt B cf a n c xs w) (hx : xs[k]? = some x) :
    Calls Try.prog 103 #[.int .i64 k, .pointer (some ⟨B + 1, 0, none⟩), .pointer (some ⟨B, 0, none⟩)] w fun e w' => e = .returned (.bool (x.walk && fitsI cf xs k)) ∧ Below w.heap.size w w' := by
  have hk : k < n := by rw [← he.xs.len]; exact (List.getElem?_eq_some_iff.1 hx).1
  have hle := he.xs.le
  have hmax := he.xs.max
  obtain ⟨b, off, rfl, hbl, hc⟩ := he.xs.at0 (by omega)
  have c3 := (SlSp.cells hc hx).2.2
  have q1 := he.sl
  have f0 := he.cfg 0 _ rfl
  have f1 := he.cfg 1 _ rfl
  have f2 := he.cfg 2 _ rfl
  have f3 := he.cfg 3 _ rfl
  have f4 := he.cfg 4 _ rfl
  have f5 := he.cfg 5 _ rfl
  have f6 := he.cfg 6 _ rfl
  have Hs := Lib.hid he.xs
  obtain ⟨t, ht⟩ : ∃ t, t = fitsI cf xs k := ⟨_, rfl⟩
  rw [← ht]
  have Ht := Lib.hid ht
  obtain ⟨clear, climb, height, rise, run, cw, cd⟩ := cf
  obtain ⟨xlo, xhi, xwk⟩ := x
  simp only at f0 f1 f2 f3 f4 f5 f6 c3 ⊢
  clear hc hx he ht
  have hlt : (k : Int) < (n : Int) := by omega
  cases xwk with
  | false =>
    go_enter Try.func103, Try.ntmps103
    go_wp2
    go_ret
    exact ⟨rfl, Below.refl _ _⟩
  | true =>
    go_enter Try.func103, Try.ntmps103
    go_wp2_with fail
    refine (fits_any ⟨clear, climb, height, rise, run, cw, cd⟩ _ _ _ xs k _ Hs.out).mono ?_
    rw [← Ht.out]
    rintro e w1 ⟨rfl, hb1⟩
    go_wp2
    go_ret
    exact ⟨ret_bool (by simp), hb1⟩

end Go.Proofs.Ytilhmlapbifbbaa
