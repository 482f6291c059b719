/- Walks: open.Floors. -/
import Derived.Test.YtjiklfffcnfdjaaGreatHb
import Derived.Test.YtjiklfffcnfdjaaGreatGh
import Derived.Test.YtjiklfffcnfdjaaGreatGp
import Derived.Deep.AppendLies
namespace Go.Proofs.YtjiklfffcnfdjaaGreat
open Go.RowKit Go.Shelf Go.Sort
attribute [local go_sem] Oper.semAt_some

/-- The floor on the k-th span, whose room ends at top. -/
def flrOf (xs : List Spn) (p : Nat × Int) : Flr := match xs[p.1]? with
  | none => ⟨0, p.2, 1⟩
  | some x => ⟨x.hi, p.2, 1⟩
def flrs (cf : Cfg) (xs : List Spn) : List Flr := if cfgOk cf && spOk xs then (eachL cf xs).map (flrOf xs) else []

theorem info_flr : (Tryz.prog.info? 43).map (fun i => (i.zero, i.size, i.bytes)) = some (some (.agg #[.int .i64 0, .int .i64 0, .int .i64 0]), 3, 24) := by kernel_rfl

theorem openAt_lt {cf : Cfg} {xs : List Spn} {k : Nat} (h : openAt cf xs k = true) : k < xs.length := by
  unfold openAt at h
  cases hx : xs[k]? with
  | none => rw [hx] at h; cases h
  | some x => exact (List.getElem?_eq_some_iff.1 hx).1
theorem openE_eq (cf : Cfg) (xs : List Spn) : (openE cf xs = 0 ∧ (cfgOk cf && spOk xs) = true) ∨ (∃ k, openE cf xs = k ∧ (k != 0) = true ∧ (cfgOk cf && spOk xs) = false) := by
  unfold openE
  cases h1 : cfgOk cf <;> cases h2 : spOk xs <;> simp

/-- What Floors answers. -/
def FloorsPost (cf : Cfg) (xs : List Spn) (w : World) (e : Ending) (w' : World) : Prop :=
  ∃ v, e = .returned (.tuple #[v, .int .i64 (openE cf xs)]) ∧ OwnR flrC 3 43 w.heap.size w' v (flrs cf xs).length (flrs cf xs) ∧ Below w.heap.size w w'

set_option maxRecDepth 100000 in
set_option maxHeartbeats 1000000 in
theorem floors_any (cf : Cfg) (a : Option Addr) (n c : Nat) (xs : List Spn) (w : World) (hx : SlSp w a n c xs) :
    Calls Tryz.prog 6 #[cfgV cf, .slice a n c] w (FloorsPost cf xs w) := by
  have Hl := Lib.hid hx.len
  have hmax := hx.max
  have hle := hx.le
  have Hx := Lib.hid hx; clear hx
  have hE := openE_eq cf xs
  obtain ⟨clear, climb, height, rise, run, cw, cd⟩ := cf
  show Calls Tryz.prog _ #[.agg #[.int .i64 clear, .int .i64 climb, .int .i64 height, .int .i64 rise, .int .i64 run, .int .i64 cw, .int .i64 cd], .slice a n c] w _
  refine (callsIn_wide (n := 5)).1 ?_
  refine callsIn_of_wp_marks Tryz.func6 rfl trivial ?_ rfl
  simp only [Tryz.ntmps6, List.size_toArray, List.length_cons, List.length_nil, Nat.reduceAdd, Nat.reduceSub, Array.replicate_succ, Array.replicate_zero, List.push_toArray, List.append_toArray, List.nil_append, List.cons_append]
  gi_wp2_with fail
  refine ⟨trivial, ?_⟩
  gi_at_call 12
  refine (callsIn_wide.2 (fopen_any ⟨clear, climb, height, rise, run, cw, cd⟩ a n c xs _ ((Hx.out.alloc _).alloc _))).mono ?_
  rintro e w1 ⟨v1, he, _, hb1⟩
  have bC : CfgAt w.heap.size ⟨clear, climb, height, rise, run, cw, cd⟩ w1 := ((CfgAt.new ⟨clear, climb, height, rise, run, cw, cd⟩ w 23).below ((Below.refl _ _).alloc (Nat.le_refl _) _) (by simp)).below hb1 (by simp; omega)
  have bS : Boxed w1 (w.heap.size + 1) 24 (.slice a n c) := (hb1.block (w.heap.size + 1) (by simp)).trans (by have := Boxed.new (w.alloc (.cells (cfgL ⟨clear, climb, height, rise, run, cw, cd⟩).toArray 23)) 24 (.slice a n c); simpa [Boxed, cfgL] using this)
  have hB1 : Below w.heap.size w w1 := (((Below.refl _ _).alloc (Nat.le_refl _) _).alloc (by simp) _).trans (hb1.mono (by simp; omega))
  have hs1 : w.heap.size + 2 ≤ w1.heap.size := by have := hb1.size; simp at this; omega
  clear hb1
  rcases hE with ⟨h1, h2⟩ | ⟨ke, h1, hne, h2⟩
  · have HE1 := Lib.hid h1
    have HE2 := Lib.hid h2
    clear h1 h2
    rw [HE1.out] at he
    subst he
    have HC : Hid (CfgAt w.heap.size ⟨clear, climb, height, rise, run, cw, cd⟩ (w1.alloc (.cells #[.slice none 0 0] 28))) := bC.below ((Below.refl _ _).alloc (Nat.le_refl _) _) (by omega)
    have f0 := HC.out 0 _ rfl
    have f1 := HC.out 1 _ rfl
    have f2 := HC.out 2 _ rfl
    have f3 := HC.out 3 _ rfl
    have f4 := HC.out 4 _ rfl
    have f5 := HC.out 5 _ rfl
    have f6 := HC.out 6 _ rfl
    have c1 := (bS.alloc (.cells #[.slice none 0 0] 28)).cell
    simp only at f0 f1 f2 f3 f4 f5 f6
    clear bC
    have hn8 : n ≤ 8 := by have := HE2.out; simp [spOk, Hl.out] at this; omega
    gi_wp2_with fail
    refine ⟨trivial, ?_⟩
    gi_at_call 13
    refine (callsIn_wide.2 (each_any ⟨clear, climb, height, rise, run, cw, cd⟩ a n c xs _ ((Hx.out.below hB1 (Nat.le_refl _)).alloc _))).mono ?_
    rintro e w3 ⟨rfl, hb3, he3, hs3⟩
    clear f0 f1 f2 f3 f4 f5 f6 c1
    have bO : Boxed w3 w1.heap.size 28 (.slice none 0 0) := (hb3.block _ (by simp)).trans (Boxed.new w1 28 (.slice none 0 0))
    have bS3 : Boxed w3 (w.heap.size + 1) 24 (.slice a n c) := (hb3.block _ (by simp; omega)).trans (bS.alloc _)
    have hB3 : Below w.heap.size w w3 := (hB1.alloc hB1.size _).trans (hb3.mono (by simp; omega))
    have Hx3 : Hid (SlSp w3 a n c xs) := Hx.out.below hB3 (Nat.le_refl _)
    simp only [World.size_alloc] at he3 hs3
    have hs13 : w1.heap.size + 1 + 2 < w3.heap.size := by omega
    have Hs3 := Lib.hid hs3
    clear hb3 HC bS hs3
    gi_wp2
    have ha3 : ∀ ad, a = some ad → n = 0 ∨ (ad.block < w3.heap.size ∧ ¬ ad.block = w1.heap.size) := by
      intro ad had
      have := Hx.out.far ad had
      omega
    have Ha3 := Lib.hid ha3; clear ha3
    obtain ⟨i0, hi, hz0, hz1, hz2⟩ := info_parts info_flr
    have hmo : Tryz.prog.follows .mixedOrders = true := by kernel_rfl
    refine wpIn_rangeFunc_ownG rfl (by decide) (gf := 22) (lb := #[.pointer (some ⟨w1.heap.size + 1 + 1, 0, none⟩), .pointer (some ⟨w1.heap.size + 1 + 2, 0, none⟩)]) rfl trivial (enters_of Tryz.func22 (by kernel_rfl) rfl)
      (each_stopsG (Subtype.val : { p : Nat × Int // p.1 < xs.length } → Nat × Int) 4 (by decide) (w1.heap.size + 1) w3.heap.size (fun k => k = w1.heap.size) ⟨clear, climb, height, rise, run, cw, cd⟩ a n c xs w3 (fun k hk => ⟨⟨(k, roomI xs k), openAt_lt hk⟩, rfl⟩) he3 (by omega) (by omega) (by omega) (by omega) Ha3.out) keepEx_t (keepEx_b (Nat.le_refl _)) (Below.refl _ _) (fun _ => rfl)
      (fun pre W => (∃ v, Boxed W w1.heap.size 28 v ∧ W.ownsRow w3.heap.size 43 3 v pre.length ((pre.map fun p => flrOf xs p.1).flatMap flrC) ∧ True) ∧ (KeepEx w3.heap.size (fun k => k = w1.heap.size) w3 W ∧ Below w.heap.size w W))
      (fun _ _ _ => False)
      (OwnFrom.and (Own.from (holdsRow_own w3.heap.size w1.heap.size 28 43 3 (fun pre : List { p : Nat × Int // p.1 < xs.length } => pre.length) (fun pre => (pre.map fun p => flrOf xs p.1).flatMap flrC) (fun _ _ => True)) _) (OwnFrom.and (ownFrom_keepEx (Nat.le_refl _) (Nat.le_refl _)) (ownFrom_below (Nat.le_refl _) hB3.size)))
      (fun _ _ _ _ _ hs _ _ => hs)
      ⟨⟨_, bO, World.ownsRow_nil _ _ _ _, trivial⟩, KeepEx.refl _ _ _, hB3⟩
      (fun x => { tmps := #[.agg #[.int .i64 clear, .int .i64 climb, .int .i64 height, .int .i64 rise, .int .i64 run, .int .i64 cw, .int .i64 cd], .slice a n c, .pointer (some ⟨w.heap.size, 0, none⟩), .pointer (some ⟨w.heap.size + 1, 0, none⟩), .slice none 0 0, .int .i64 0, v1, .int .i64 0, .pointer (some ⟨w1.heap.size, 0, none⟩), .int .i64 (x.1.1 : Int), .int .i64 x.1.2, .tuple #[v1, .int .i64 0], .agg #[.int .i64 clear, .int .i64 climb, .int .i64 height, .int .i64 rise, .int .i64 run, .int .i64 cw, .int .i64 cd], .slice a n c, .tuple #[v1, .int .i64 0], v1, .int .i64 0, .int .i64 0, .bool false, undef, .agg #[.int .i64 clear, .int .i64 climb, .int .i64 height, .int .i64 rise, .int .i64 run, .int .i64 cw, .int .i64 cd], .slice a n c, .func (.func 22) #[] #[.pointer (some ⟨w1.heap.size + 1 + 1, 0, none⟩), .pointer (some ⟨w1.heap.size + 1 + 2, 0, none⟩)], .int .i64 (x.1.1 : Int), .int .i64 x.1.2, undef, undef, undef, undef, undef, undef, undef, undef, undef, undef, undef], defers := [] }) ?assign ?body ?done ?stop
    case assign =>
      intro l x W K hK
      gi_wp2
      exact hK
    case body =>
      rintro l pre x W ⟨⟨v, hv, hrow, _⟩, hke, hB⟩ hlt
      obtain ⟨⟨k, top⟩, hkx⟩ := x
      simp only at hkx ⊢
      have hkn : k < n := by rw [← Hl.out]; exact hkx
      obtain ⟨y, hyk⟩ : ∃ y, xs[k]? = some y := ⟨_, List.getElem?_eq_getElem hkx⟩
      obtain ⟨bb, off, rfl, hbl, hcc⟩ := (Hx3.out.keepEx hke Ha3.out).at0 (by omega)
      have c2 := (SlSp.cells hcc hyk).2.1
      have c1 := (Boxed.keepEx bS3 hke (by omega) (by omega)).cell
      have cO := hv.cell
      have hltI : (k : Int) < (n : Int) := by omega
      obtain ⟨ylo, yhi, yw⟩ := y
      have Hyk := Lib.hid hyk
      simp only at c2
      clear hcc hyk
      gi_wp2
      refine wpIn_region_heads (late := fun j => j == 10) (S := fun w' => w'.cell? ⟨w1.heap.size, 0, none⟩ = some v ∧ w'.cell? ⟨w.heap.size + 1, 0, none⟩ = some (.slice (some ⟨bb, off, none⟩) n c) ∧ w'.cell? ⟨bb, off + k * 3 + 1, none⟩ = some (.int .i64 yhi)) 8 (fun _ => trivial) hmo (by kernel_rfl) (by kernel_rfl) ⟨cO, c1, c2⟩ ?_
      simp only [List.take_succ_cons, List.take_zero, List.drop_succ_cons, List.drop_zero]
      refine wpHeads_cons (v) rfl (fun w' ⟨s1, s2, s3⟩ => by go_simp) ?_
      refine wpHeads_cons (.slice (some ⟨bb, off, none⟩) n c) rfl (fun w' ⟨s1, s2, s3⟩ => by go_simp) ?_
      refine wpHeads_cons (.int .i64 k) rfl (fun w' ⟨s1, s2, s3⟩ => by go_simp) ?_
      refine wpHeads_cons (.pointer (some ⟨bb, off + k * 3, none⟩)) rfl (fun w' ⟨s1, s2, s3⟩ => by go_simp) ?_
      refine wpHeads_cons (.pointer (some ⟨bb, off + k * 3 + 1, none⟩)) rfl (fun w' ⟨s1, s2, s3⟩ => by go_simp) ?_
      refine wpHeads_cons (.int .i64 yhi) rfl (fun w' ⟨s1, s2, s3⟩ => by go_simp) ?_
      refine wpHeads_cons (.int .i64 top) rfl (fun w' ⟨s1, s2, s3⟩ => by go_simp) ?_
      refine wpHeads_cons (.agg #[.int .i64 yhi, .int .i64 top, .int .i64 1]) rfl (fun w' ⟨s1, s2, s3⟩ => by go_simp) ?_
      refine wpHeads_nil ?_
      go_simp
      have hsW : w3.heap.size ≤ W.heap.size := hke.size
      have hcO : (W.drew.alloc (.cells #[.int .i64 yhi, .int .i64 top, .int .i64 1] 43)).cell? ⟨w1.heap.size, 0, none⟩ = some v := (hv.alloc _).cell
      have hc1 : (W.drew.alloc (.cells #[.int .i64 yhi, .int .i64 top, .int .i64 1] 43)).cell? ⟨w.heap.size + 1, 0, none⟩ = some (.slice (some ⟨bb, off, none⟩) n c) := ((Boxed.keepEx bS3 hke (by omega) (by omega)).alloc _).cell
      have hc2 : (W.drew.alloc (.cells #[.int .i64 yhi, .int .i64 top, .int .i64 1] 43)).cell? ⟨bb, off + k * 3 + 1, none⟩ = some (.int .i64 yhi) := (World.cell?_alloc_past _ _ _ (by simpa using hbl)).trans c2
      have hrowD : W.drew.ownsRow w3.heap.size 43 3 v pre.length ((pre.map fun p => flrOf xs p.1).flatMap flrC) := hrow
      have hvD : Boxed W.drew w1.heap.size 28 v := hv
      refine wpTailT_cons rfl (fun K hK => ?_)
      gi_wp2
      refine hK _ _ (fun _ => ⟨hcO, hc1, hc2⟩) ?_
      clear hK
      refine wpTailT_cons rfl (fun K hK => ?_)
      gi_wp2_with (gi_at_builtin; refine wpListIn_append_own _ rfl _ _ 28 rfl w3.heap.size 43 i0 (.agg #[.int .i64 0, .int .i64 0, .int .i64 0]) 3 24 Tryz.underlying28 hi hz0 hz1 hz2 rfl (by decide) _ _ _ rfl (hrowD.alloc _) ⟨W.heap.size, 0, none⟩ 1 1 [.int .i64 yhi, .int .i64 top, .int .i64 1] rfl rfl (World.news_of_block (heap_alloc_new W.drew _)) (by simp [Value.oneCell']) (by unfold maxLen; omega) (by omega) (by simp; omega) ?_; intro v' w5 hown' hgrow _; obtain ⟨g', cap', rfl⟩ := ownsRow_succ hown')
      obtain ⟨hv1, hv2, hr2, hk2, hkk, hb2⟩ := boxed_appendedK (S := fun k => k = w1.heap.size) hvD (by decide) hrowD hsW hB3.size (by omega) rfl hown' hgrow
      have hS5 : w5.cell? ⟨w1.heap.size, 0, none⟩ = some v ∧ w5.cell? ⟨w.heap.size + 1, 0, none⟩ = some (.slice (some ⟨bb, off, none⟩) n c) ∧ w5.cell? ⟨bb, off + k * 3 + 1, none⟩ = some (.int .i64 yhi) := by
        have hrl := hrowD.lt
        have hbb := Hx.out.far _ rfl
        refine ⟨hv1.cell, hgrow.cell hc1 (fun e => ?_), hgrow.cell hc2 (fun e => ?_)⟩
        · have := (hrl _ e.symm).1; simp only at this; omega
        · have := (hrl _ e.symm).1; simp only at this hbb; have := hB3.size; omega
      refine hK _ _ (fun _ => hS5) ?_
      clear hK
      have hc5 := hv1.cell
      have hf5 := hv1.frozen
      refine wpTailT_cons rfl (fun K hK => ?_)
      gi_wp2
      refine hK _ _ (fun h => by cases h) ?_
      clear hK
      refine wpTailT_nil ?_
      have hk3 : KeepsFrom w3.heap.size W (w5.setCell ⟨w1.heap.size, 0, none⟩ (.slice (some ⟨g', 0, none⟩) (pre.length + 1) cap')) := ((KeepsOthers.drew W).trans hk2).from _
      have hkk' : KeepEx w3.heap.size (fun k => k = w1.heap.size) W (w5.setCell ⟨w1.heap.size, 0, none⟩ (.slice (some ⟨g', 0, none⟩) (pre.length + 1) cap')) := ⟨hkk.size, hkk.block⟩
      have hb2' : Below w.heap.size W (w5.setCell ⟨w1.heap.size, 0, none⟩ (.slice (some ⟨g', 0, none⟩) (pre.length + 1) cap')) := ⟨hb2.os, hb2.tape, hb2.output, hb2.size, hb2.block⟩
      refine ⟨hk3, hkk', ⟨_, hv2, ?_, trivial⟩, hke.trans hkk', hB.trans hb2'⟩
      rw [List.length_append, List.map_append, List.flatMap_append]
      have e1 : ([⟨(k, top), hkx⟩] : List { p : Nat × Int // p.1 < xs.length }).map (fun p => flrOf xs p.1) = [⟨yhi, top, 1⟩] := by simp [flrOf, Hyk.out]
      rw [e1]
      exact hr2
    case done =>
      rintro D ys W hD hys ⟨⟨v, hv, hrow, _⟩, hke, hB⟩ hK
      have hOwn : OwnR flrC 3 43 w3.heap.size W v ys.length (ys.map fun p => flrOf xs p.1) := ⟨by simp, hrow⟩
      obtain ⟨ad, cp, rfl, _⟩ := OwnR.reads (f := flrC) (sz := 3) (fun _ => rfl) hOwn
      have hc := hv.cell
      gi_wp2
      refine ⟨by simp, .inl ⟨_, _, rfl, run_takeDeferred hK, ?_⟩⟩
      have hfl : flrs ⟨clear, climb, height, rise, run, cw, cd⟩ xs = ys.map fun p => flrOf xs p.1 := by
        unfold flrs
        rw [HE2.out, if_pos rfl, ← hys, List.map_map]
        rfl
      refine ⟨.tuple #[.slice ad ys.length cp, .int .i64 0], ?_, ⟨_, ret_tup2 rfl HE1.out.symm, ?_, ?_⟩⟩
      · simp [results, Tryz.f6, go_sem]
      · rw [hfl, List.length_map]
        exact ⟨by simp, ownsRow_putObj (ownsRow_mono hrow hB3.size) _ hK rfl⟩
      · exact hB.trans (belowK_b (w := w3) hB3.size _ D _ _ hD hK rfl rfl)
    case stop =>
      rintro D c pre W _ _ h _
      exact h.elim
  · have HE1 := Lib.hid h1
    have HE2 := Lib.hid h2
    clear h1 h2
    rw [HE1.out] at he
    subst he
    gi_wp2
    refine ⟨.tuple #[.slice none 0 0, .int .i64 ke], ?_, ⟨_, ret_tup2 rfl HE1.out.symm, ?_, hB1⟩⟩
    · simp [results, Tryz.f6, go_sem]
    · unfold flrs
      rw [HE2.out]
      exact OwnR.nil _ _ _ _ _

end Go.Proofs.YtjiklfffcnfdjaaGreat

namespace Go.Proofs.YtjiklfffcnfdjaaGreat
open Go.RowKit

theorem spOk_good {xs : List Spn} (h : spOk xs = true) {k : Nat} (hk : k < xs.length) : goodAt xs k = true := by
  simp only [spOk, Bool.and_eq_true, List.all_eq_true] at h
  exact h.2 k (by simpa using hk)
theorem spOk_next {xs : List Spn} (h : spOk xs = true) {k : Nat} {x y : Spn} (hx : xs[k]? = some x) (hy : xs[k + 1]? = some y) : x.hi < y.lo := by
  have := spOk_good h (List.getElem?_eq_some_iff.1 hy).1
  rw [goodAt_succ (by omega) hy (by simpa using hx)] at this
  simp only [Bool.and_eq_true, decide_eq_true_eq] at this
  exact this.2
theorem spOk_lt {xs : List Spn} (h : spOk xs = true) {j : Nat} : ∀ {k : Nat} {x y : Spn}, j < k → xs[j]? = some x → xs[k]? = some y → x.hi < y.lo := by
  intro k
  induction k with
  | zero => intro x y hjk; omega
  | succ k ih =>
    intro x y hjk hx hy
    by_cases hj : j = k
    · subst hj; exact spOk_next h hx hy
    · obtain ⟨z, hz⟩ : ∃ z, xs[k]? = some z := ⟨_, List.getElem?_eq_getElem (by have := (List.getElem?_eq_some_iff.1 hy).1; omega)⟩
      have h1 := ih (by omega) hx hz
      have h2 := spOk_next h hz hy
      have h3 := spOk_may h hz
      omega

theorem eachUp_lt (cf : Cfg) (xs : List Spn) (k : Nat) : ∀ p ∈ eachUp cf xs k, p.1 < k := by
  induction k with
  | zero => intro p hp; cases hp
  | succ k ih =>
    cases h : openAt cf xs k with
    | true =>
      rw [eachUp_yes h]
      intro p hp
      rcases List.mem_append.1 hp with hp | hp
      · have := ih p hp; omega
      · simp at hp; subst hp; exact Nat.lt_succ_self k
    | false => rw [eachUp_no h]; intro p hp; have := ih p hp; omega
theorem eachUp_open (cf : Cfg) (xs : List Spn) (k : Nat) : ∀ p ∈ eachUp cf xs k, openAt cf xs p.1 = true := by
  induction k with
  | zero => intro p hp; cases hp
  | succ k ih =>
    cases h : openAt cf xs k with
    | true =>
      rw [eachUp_yes h]
      intro p hp
      rcases List.mem_append.1 hp with hp | hp
      · exact ih p hp
      · simp at hp; subst hp; exact h
    | false => rw [eachUp_no h]; exact ih
theorem eachUp_mono (cf : Cfg) (xs : List Spn) (k : Nat) : ∀ (i j : Nat) (p q : Nat × Int), i < j → (eachUp cf xs k)[i]? = some p → (eachUp cf xs k)[j]? = some q → p.1 < q.1 := by
  induction k with
  | zero => intro i j p q _ hp; cases hp
  | succ k ih =>
    cases h : openAt cf xs k with
    | true =>
      rw [eachUp_yes h]
      intro i j p q hij hp hq
      have hjl := (List.getElem?_eq_some_iff.1 hq).1
      simp at hjl
      by_cases hj : j < (eachUp cf xs k).length
      · rw [List.getElem?_append_left hj] at hq
        rw [List.getElem?_append_left (by omega)] at hp
        exact ih i j p q hij hp hq
      · obtain rfl : j = (eachUp cf xs k).length := by omega
        rw [List.getElem?_append_right (Nat.le_refl _)] at hq
        simp at hq
        rw [List.getElem?_append_left (by omega)] at hp
        rw [← hq]
        exact eachUp_lt cf xs k p (List.mem_of_getElem? hp)
    | false => rw [eachUp_no h]; exact ih

/-- What the law asks of a floor. -/
structure FlrGood (xs : List Spn) (fs : List Flr) (i : Nat) (f : Flr) : Prop where
  clear : ∀ s ∈ xs, ¬ (f.y < s.hi ∧ s.lo < f.top)
  found : (xs.any fun s => (s.hi == f.y) && s.walk) = true
  rises : ∀ g, 0 < i → fs[i - 1]? = some g → g.top ≤ f.y

theorem flr_good {cf : Cfg} {xs : List Spn} (h : (cfgOk cf && spOk xs) = true) {i : Nat} {f : Flr} (hf : (flrs cf xs)[i]? = some f) : FlrGood xs (flrs cf xs) i f := by
  have hs : spOk xs = true := by simp only [Bool.and_eq_true] at h; exact h.2
  have hfl : flrs cf xs = (eachL cf xs).map (flrOf xs) := by unfold flrs; rw [h]; rfl
  rw [hfl] at hf ⊢
  rw [List.getElem?_map] at hf
  cases hp : (eachL cf xs)[i]? with
  | none => rw [hp] at hf; cases hf
  | some p =>
    rw [hp] at hf
    have hf' : flrOf xs p = f := by simpa using hf
    have hmem := List.mem_of_getElem? hp
    have ho := eachUp_open cf xs xs.length p hmem
    obtain ⟨hrb, hri⟩ := eachUp_room cf xs xs.length p hmem
    obtain ⟨x, hx⟩ : ∃ x, xs[p.1]? = some x := ⟨_, List.getElem?_eq_getElem (openAt_lt ho)⟩
    have hfe : f = ⟨x.hi, p.2, 1⟩ := by rw [← hf']; simp [flrOf, hx]
    have hw : x.walk = true := by
      unfold openAt at ho
      rw [hx] at ho
      simp only [Bool.and_eq_true] at ho
      exact ho.1
    have htop : p.2 = roomN xs p.1 := by rw [hri, roomI_true hrb, Int.toNat_natCast]
    refine ⟨?_, ?_, ?_⟩
    · rintro s hsm ⟨h1, h2⟩
      obtain ⟨j, hj, rfl⟩ := List.getElem_of_mem hsm
      have hjs : xs[j]? = some xs[j] := List.getElem?_eq_getElem hj
      rw [hfe] at h1 h2
      simp only at h1 h2
      by_cases hjk : j ≤ p.1
      · by_cases he : j = p.1
        · subst he
          rw [hjs] at hx
          cases hx
          omega
        · have := spOk_lt hs (by omega) hjs hx
          have := spOk_may hs hx
          omega
      · rw [htop] at h2
        unfold roomN at h2
        obtain ⟨y, hy⟩ : ∃ y, xs[p.1 + 1]? = some y := ⟨_, List.getElem?_eq_getElem (by omega)⟩
        rw [hy] at h2
        simp only at h2
        by_cases he : j = p.1 + 1
        · subst he
          rw [hjs] at hy
          cases hy
          omega
        · have := spOk_lt hs (show p.1 + 1 < j by omega) hy hjs
          have := spOk_may hs hy
          omega
    · rw [List.any_eq_true]
      exact ⟨x, List.mem_of_getElem? hx, by rw [hfe]; simp [hw]⟩
    · intro g hi hg
      rw [List.getElem?_map] at hg
      cases hq : (eachL cf xs)[i - 1]? with
      | none => rw [hq] at hg; cases hg
      | some q =>
        rw [hq] at hg
        have hg' : flrOf xs q = g := by simpa using hg
        have hqm := List.mem_of_getElem? hq
        have hqo := eachUp_open cf xs xs.length q hqm
        obtain ⟨hqb, hqi⟩ := eachUp_room cf xs xs.length q hqm
        obtain ⟨z, hz⟩ : ∃ z, xs[q.1]? = some z := ⟨_, List.getElem?_eq_getElem (openAt_lt hqo)⟩
        have hge : g = ⟨z.hi, q.2, 1⟩ := by rw [← hg']; simp [flrOf, hz]
        have hlt := eachUp_mono cf xs xs.length (i - 1) i q p (by omega) hq hp
        have hqt : q.2 = roomN xs q.1 := by rw [hqi, roomI_true hqb, Int.toNat_natCast]
        rw [hge, hfe]
        simp only
        rw [hqt]
        unfold roomN
        obtain ⟨y, hy⟩ : ∃ y, xs[q.1 + 1]? = some y := ⟨_, List.getElem?_eq_getElem (by have := (List.getElem?_eq_some_iff.1 hx).1; omega)⟩
        rw [hy]
        simp only
        have hmx := spOk_may hs hx
        by_cases he : q.1 + 1 = p.1
        · rw [he, hx] at hy
          cases hy
          omega
        · have := spOk_lt hs (show q.1 + 1 < p.1 by omega) hy hx
          have := spOk_may hs hy
          omega

end Go.Proofs.YtjiklfffcnfdjaaGreat

namespace Go.Proofs.YtjiklfffcnfdjaaGreat
open Go.RowKit Go.Sort

def wakeC : List Spn := [⟨0, 1, true⟩, ⟨3, 4, true⟩]
def wakeD : List Spn := [⟨0, 1, true⟩, ⟨4, 5, false⟩]
theorem wakeC_fl : flrs ⟨0, 1, 3, 1, 1, 8, 8⟩ wakeC = [⟨4, 1048576, 1⟩] := by decide
theorem wakeC_e : openE ⟨0, 1, 3, 1, 1, 8, 8⟩ wakeC = 0 := by decide
theorem wakeD_fl : flrs ⟨0, 1, 3, 1, 1, 8, 8⟩ wakeD = [⟨1, 4, 1⟩] := by decide
theorem wakeD_e : openE ⟨0, 1, 3, 1, 1, 8, 8⟩ wakeD = 0 := by decide

theorem SlFl.cells {w : World} {b off : Nat} {xs : List Flr} (h : ∀ i x, xs[i]? = some x → ∀ j v, (flrC x)[j]? = some v → w.cell? ⟨b, off + i * 3 + j, none⟩ = some v) {k : Nat} {x : Flr} (hx : xs[k]? = some x) :
    w.cell? ⟨b, off + k * 3, none⟩ = some (.int .i64 x.y) ∧ w.cell? ⟨b, off + k * 3 + 1, none⟩ = some (.int .i64 x.top) ∧ w.cell? ⟨b, off + k * 3 + 2, none⟩ = some (.int .i64 x.area) :=
  ⟨h k x hx 0 _ rfl, h k x hx 1 _ rfl, h k x hx 2 _ rfl⟩

set_option maxHeartbeats 400000 in
theorem wakes11_any (w : World) :
    Calls Tryz.prog 5 #[] w fun e w' => e = .returned (.bool true) ∧ Below w.heap.size w w' := by
  have HA1 := Lib.hid wakeC_fl
  have HA2 := Lib.hid wakeC_e
  have HB1 := Lib.hid wakeD_fl
  have HB2 := Lib.hid wakeD_e
  go_enter Tryz.func5, Tryz.ntmps5
  go_wp2_with fail
  refine (floors_any ⟨0, 1, 3, 1, 1, 8, 8⟩ (some ⟨w.heap.size + 1, 0, none⟩) 2 2 wakeC _ (by have := SlSp.lits (w.alloc (.cells #[.int .i64 0, .int .i64 1, .int .i64 3, .int .i64 1, .int .i64 1, .int .i64 8, .int .i64 8] 23)) wakeC 41 (by decide); rw [World.size_alloc] at this; exact this)).mono ?_
  rintro e w2 ⟨v2, he, hown2, hb2⟩
  rw [HA2.out] at he
  rw [HA1.out] at hown2
  subst he
  obtain ⟨a2, k2, rfl, hs2⟩ := OwnR.reads (f := flrC) (sz := 3) (fun _ => rfl) hown2
  have hB2 : Below w.heap.size w w2 := (((Below.refl _ _).alloc (Nat.le_refl _) _).alloc (by simp) _).trans (hb2.mono (by simp; omega))
  have HC2 : Hid (CfgAt w.heap.size ⟨0, 1, 3, 1, 1, 8, 8⟩ w2) := ((CfgAt.new ⟨0, 1, 3, 1, 1, 8, 8⟩ w 23).below ((Below.refl _ _).alloc (Nat.le_refl _) _) (by simp)).below hb2 (by simp; omega)
  have hsz2 : w.heap.size + 2 ≤ w2.heap.size := by have := hb2.size; simp at this; omega
  have Hs2 := Lib.hid hs2
  clear hs2 hown2 hb2
  have f0 := HC2.out 0 _ rfl
  have f1 := HC2.out 1 _ rfl
  have f2 := HC2.out 2 _ rfl
  have f3 := HC2.out 3 _ rfl
  have f4 := HC2.out 4 _ rfl
  have f5 := HC2.out 5 _ rfl
  have f6 := HC2.out 6 _ rfl
  simp only at f0 f1 f2 f3 f4 f5 f6
  simp only [List.length_cons, List.length_nil, Nat.zero_add]
  go_wp2_with fail
  refine (floors_any ⟨0, 1, 3, 1, 1, 8, 8⟩ (some ⟨w2.heap.size, 0, none⟩) 2 2 wakeD _ (SlSp.lits w2 wakeD 41 (by decide))).mono ?_
  rintro e w4 ⟨v4, he, hown4, hb4⟩
  clear f0 f1 f2 f3 f4 f5 f6 HC2
  rw [HB2.out] at he
  rw [HB1.out] at hown4
  subst he
  obtain ⟨a4, k4, rfl, hs4⟩ := OwnR.reads (f := flrC) (sz := 3) (fun _ => rfl) hown4
  have hb24 : Below w2.heap.size w2 w4 := ((Below.refl _ _).alloc (Nat.le_refl _) _).trans (hb4.mono (by simp))
  have hB4 : Below w.heap.size w w4 := hB2.trans (hb24.mono hB2.size)
  obtain ⟨b4, off4, rfl, _, hc4⟩ := hs4.at0 (by decide)
  obtain ⟨b2, off2, rfl, _, hc2⟩ := (Hs2.out.below hb24 (Nat.le_refl _)).at0 (by decide)
  obtain ⟨g1, g2, g3⟩ := SlFl.cells (k := 0) hc4 rfl
  obtain ⟨h1, h2, h3⟩ := SlFl.cells (k := 0) hc2 rfl
  simp only [Nat.zero_mul, Nat.add_zero] at g1 g2 g3 h1 h2 h3
  clear hc2 hc4 hs4 hown4 hb4 hb24 hB2 Hs2 HA1 HA2 HB1 HB2
  simp only [List.length_cons, List.length_nil, Nat.zero_add]
  go_wp2
  go_ret
  exact ⟨rfl, hB4⟩

end Go.Proofs.YtjiklfffcnfdjaaGreat
