/- Walks: open.Floors. -/
import Derived.Test.YtilhmlapbifbbaaFilL
import Derived.Test.YtilhmlapbifbbaaRound
import Derived.Deep.AppendLies
namespace Go.Proofs.Ytilhmlapbifbbaa
open Go.RowKit Go.Shelf Go.Sort
attribute [local go_sem] Oper.semAt_some

/-- A floor. -/
structure Flr where
  y : Int
  top : Int
  area : Int
deriving DecidableEq
def flrC (f : Flr) : List Value := [.int .i64 f.y, .int .i64 f.top, .int .i64 f.area]
abbrev SlFl := SlR flrC 3
/-- The floor on the k-th span, whose room ends at top. -/
def flrOf (xs : List Spn) (p : Nat × Int) : Flr := match xs[p.1]? with
  | none => ⟨0, p.2, 1⟩
  | some x => ⟨x.hi, p.2, 1⟩
def flrs (cf : Cfg) (xs : List Spn) : List Flr := if cfgOk cf && spOk xs then (eachL cf xs).map (flrOf xs) else []

/-- The slice value v, of n records, is one's own, in a block from B on, and reads as xs. -/
def OwnR {α : Type} (f : α → List Value) (sz : Nat) (e : TypeId) (B : Nat) (w : World) (v : Value) (n : Nat) (xs : List α) : Prop := xs.length = n ∧ w.ownsRow B e sz v n (xs.flatMap f)

section
variable {α : Type} {f : α → List Value} {sz : Nat} {e : TypeId} {B : Nat} {w : World} {v : Value} {n : Nat} {xs : List α}
theorem OwnR.nil (f : α → List Value) (sz : Nat) (e : TypeId) (B : Nat) (w : World) : OwnR f sz e B w (.slice none 0 0) 0 [] := ⟨rfl, World.ownsRow_nil _ _ _ _⟩
theorem flatMap_at (hf : ∀ x, (f x).length = sz) : ∀ (l : List α) (i : Nat) (x : α) (j : Nat) (u : Value), l[i]? = some x → (f x)[j]? = some u → (l.flatMap f)[i * sz + j]? = some u := by
  intro l
  induction l with
  | nil => intro i x j u hi; cases hi
  | cons y l ih =>
    intro i x j u hi hu
    have hj : j < sz := by rw [← hf x]; exact (List.getElem?_eq_some_iff.1 hu).1
    cases i with
    | zero =>
      simp at hi
      subst hi
      rw [List.flatMap_cons, List.getElem?_append_left (by rw [hf]; omega)]
      simpa using hu
    | succ i =>
      rw [List.flatMap_cons, List.getElem?_append_right (by rw [hf]; rw [Nat.succ_mul]; omega), hf]
      have := ih i x j u (by simpa using hi) hu
      rw [← this]
      congr 1
      rw [Nat.succ_mul]; omega
theorem OwnR.reads (hf : ∀ x, (f x).length = sz) (h : OwnR f sz e B w v n xs) : ∃ a c, v = .slice a n c ∧ SlR f sz w a n c xs := by
  rcases h.2.2 with ⟨rfl, hx⟩ | ⟨g, cap, cur, rfl, _, hg, h1, h2, h3, h4⟩
  · have hl := h.1
    rw [hx] at hl ⊢
    obtain rfl := List.eq_nil_of_length_eq_zero hl
    exact ⟨none, 0, rfl, SlR.nil _ _ _⟩
  · refine ⟨_, _, rfl, h.1, h1, by simpa [maxLen] using h2, .inr ⟨g, 0, rfl, (Array.getElem?_eq_some_iff.1 hg).1, fun i x hx j u hu => ?_⟩⟩
    have hcell := h.2.cells (g := g) rfl (i * sz + j) u (flatMap_at hf xs i x j u hx hu)
    have hadd : (⟨g, 0, none⟩ : Addr).add (i * sz + j) = ⟨g, 0 + i * sz + j, none⟩ := by rw [Addr.add_lit]; congr 1; omega
    rw [hadd] at hcell
    exact hcell
theorem OwnR.kept {w' : World} {row : Option Nat} (h : OwnR f sz e B w v n xs) (hg : w.grownBy w' row) (hne : v.ownBlock = none ∨ v.ownBlock ≠ row) : OwnR f sz e B w' v n xs := ⟨h.1, h.2.kept hg hne⟩
theorem OwnR.mono {B' : Nat} (h : OwnR f sz e B w v n xs) (hB : B' ≤ B) : OwnR f sz e B' w v n xs := ⟨h.1, ownsRow_mono h.2 hB⟩
end

theorem info_flr : (Try.prog.info? 48).map (fun i => (i.zero, i.size, i.bytes)) = some (some (.agg #[.int .i64 0, .int .i64 0, .int .i64 0]), 3, 24) := by kernel_rfl

theorem openAt_lt {cf : Cfg} {xs : List Spn} {k : Nat} (h : openAt cf xs k = true) : k < xs.length := by
  unfold openAt at h
  cases hx : xs[k]? with
  | none => rw [hx] at h; cases h
  | some x => exact (List.getElem?_eq_some_iff.1 hx).1
theorem openE_eq (cf : Cfg) (xs : List Spn) : (openE cf xs = 0 ∧ (cfgOk cf && spOk xs) = true) ∨ (∃ k, openE cf xs = k ∧ (k != 0) = true ∧ (cfgOk cf && spOk xs) = false) := by
  unfold openE
  cases h1 : cfgOk cf <;> cases h2 : spOk xs <;> simp

/-- What Floors answers. -/
def FloorsPost (cf : Cfg) (xs : List Spn) (w : World) (e : Ending) (w' : World) : Prop :=
  ∃ v, e = .returned (.tuple #[v, .int .i64 (openE cf xs)]) ∧ OwnR flrC 3 48 w.heap.size w' v (flrs cf xs).length (flrs cf xs) ∧ Below w.heap.size w w'

set_option maxRecDepth 100000 in
set_option maxHeartbeats 1000000 in
theorem floors_any (cf : Cfg) (a : Option Addr) (n c : Nat) (xs : List Spn) (w : World) (hx : SlSp w a n c xs) :
    Calls Try.prog 33 #[cfgV cf, .slice a n c] w (FloorsPost cf xs w) := by
  have Hl := Lib.hid hx.len
  have hmax := hx.max
  have hle := hx.le
  have Hx := Lib.hid hx; clear hx
  have hE := openE_eq cf xs
  obtain ⟨clear, climb, height, rise, run, cw, cd⟩ := cf
  show Calls Try.prog _ #[.agg #[.int .i64 clear, .int .i64 climb, .int .i64 height, .int .i64 rise, .int .i64 run, .int .i64 cw, .int .i64 cd], .slice a n c] w _
  refine (callsIn_wide (n := 5)).1 ?_
  refine callsIn_of_wp_marks Try.func33 rfl trivial ?_ rfl
  simp only [Try.ntmps33, List.size_toArray, List.length_cons, List.length_nil, Nat.reduceAdd, Nat.reduceSub, Array.replicate_succ, Array.replicate_zero, List.push_toArray, List.append_toArray, List.nil_append, List.cons_append]
  gi_wp2_with fail
  refine ⟨trivial, ?_⟩
  gi_at_call 26
  refine (callsIn_wide.2 (open_any ⟨clear, climb, height, rise, run, cw, cd⟩ a n c xs _ ((Hx.out.alloc _).alloc _))).mono ?_
  rintro e w1 ⟨v1, he, _, hb1⟩
  have bC : CfgAt w.heap.size ⟨clear, climb, height, rise, run, cw, cd⟩ w1 := ((CfgAt.new ⟨clear, climb, height, rise, run, cw, cd⟩ w 32).below ((Below.refl _ _).alloc (Nat.le_refl _) _) (by simp)).below hb1 (by simp; omega)
  have bS : Boxed w1 (w.heap.size + 1) 33 (.slice a n c) := (hb1.block (w.heap.size + 1) (by simp)).trans (by have := Boxed.new (w.alloc (.cells (cfgL ⟨clear, climb, height, rise, run, cw, cd⟩).toArray 32)) 33 (.slice a n c); simpa [Boxed, cfgL] using this)
  have hB1 : Below w.heap.size w w1 := (((Below.refl _ _).alloc (Nat.le_refl _) _).alloc (by simp) _).trans (hb1.mono (by simp; omega))
  have hs1 : w.heap.size + 2 ≤ w1.heap.size := by have := hb1.size; simp at this; omega
  clear hb1
  rcases hE with ⟨h1, h2⟩ | ⟨ke, h1, hne, h2⟩
  · have HE1 := Lib.hid h1
    have HE2 := Lib.hid h2
    clear h1 h2
    rw [HE1.out] at he
    subst he
    have HC : Hid (CfgAt w.heap.size ⟨clear, climb, height, rise, run, cw, cd⟩ (w1.alloc (.cells #[.slice none 0 0] 43))) := bC.below ((Below.refl _ _).alloc (Nat.le_refl _) _) (by omega)
    have f0 := HC.out 0 _ rfl
    have f1 := HC.out 1 _ rfl
    have f2 := HC.out 2 _ rfl
    have f3 := HC.out 3 _ rfl
    have f4 := HC.out 4 _ rfl
    have f5 := HC.out 5 _ rfl
    have f6 := HC.out 6 _ rfl
    have c1 := (bS.alloc (.cells #[.slice none 0 0] 43)).cell
    simp only at f0 f1 f2 f3 f4 f5 f6
    clear bC
    have hn8 : n ≤ 8 := by have := HE2.out; simp [spOk, Hl.out] at this; omega
    gi_wp2_with fail
    refine ⟨trivial, ?_⟩
    gi_at_call 66
    refine (callsIn_wide.2 (each_any ⟨clear, climb, height, rise, run, cw, cd⟩ a n c xs _ ((Hx.out.below hB1 (Nat.le_refl _)).alloc _))).mono ?_
    rintro e w3 ⟨rfl, hb3, he3, hs3⟩
    clear f0 f1 f2 f3 f4 f5 f6 c1
    have bO : Boxed w3 w1.heap.size 43 (.slice none 0 0) := (hb3.block _ (by simp)).trans (Boxed.new w1 43 (.slice none 0 0))
    have bS3 : Boxed w3 (w.heap.size + 1) 33 (.slice a n c) := (hb3.block _ (by simp; omega)).trans (bS.alloc _)
    have hB3 : Below w.heap.size w w3 := (hB1.alloc hB1.size _).trans (hb3.mono (by simp; omega))
    have Hx3 : Hid (SlSp w3 a n c xs) := Hx.out.below hB3 (Nat.le_refl _)
    simp only [World.size_alloc] at he3 hs3
    have hs13 : w1.heap.size + 1 + 2 < w3.heap.size := by omega
    have Hs3 := Lib.hid hs3
    clear hb3 HC bS hs3
    gi_wp2
    have ha3 : ∀ ad, a = some ad → n = 0 ∨ (ad.block < w3.heap.size ∧ ¬ ad.block = w1.heap.size) := by
      intro ad had
      have := Hx.out.far ad had
      omega
    have Ha3 := Lib.hid ha3; clear ha3
    obtain ⟨i0, hi, hz0, hz1, hz2⟩ := info_parts info_flr
    have hmo : Try.prog.follows .mixedOrders = true := by kernel_rfl
    refine wpIn_rangeFunc_ownG rfl (by decide) (gf := 104) (lb := #[.pointer (some ⟨w1.heap.size + 1 + 1, 0, none⟩), .pointer (some ⟨w1.heap.size + 1 + 2, 0, none⟩)]) rfl trivial (enters_of Try.func104 (by kernel_rfl) rfl)
      (each_stopsG (Subtype.val : { p : Nat × Int // p.1 < xs.length } → Nat × Int) 4 (by decide) (w1.heap.size + 1) w3.heap.size (fun k => k = w1.heap.size) ⟨clear, climb, height, rise, run, cw, cd⟩ a n c xs w3 (fun k hk => ⟨⟨(k, roomI xs k), openAt_lt hk⟩, rfl⟩) he3 (by omega) (by omega) (by omega) (by omega) Ha3.out) keepEx_t (keepEx_b (Nat.le_refl _)) (Below.refl _ _) (fun _ => rfl)
      (fun pre W => (∃ v, Boxed W w1.heap.size 43 v ∧ W.ownsRow w3.heap.size 48 3 v pre.length ((pre.map fun p => flrOf xs p.1).flatMap flrC) ∧ True) ∧ (KeepEx w3.heap.size (fun k => k = w1.heap.size) w3 W ∧ Below w.heap.size w W))
      (fun _ _ _ => False)
      (OwnFrom.and (Own.from (holdsRow_own w3.heap.size w1.heap.size 43 48 3 (fun pre : List { p : Nat × Int // p.1 < xs.length } => pre.length) (fun pre => (pre.map fun p => flrOf xs p.1).flatMap flrC) (fun _ _ => True)) _) (OwnFrom.and (ownFrom_keepEx (Nat.le_refl _) (Nat.le_refl _)) (ownFrom_below (Nat.le_refl _) hB3.size)))
      (fun _ _ _ _ _ hs _ _ => hs)
      ⟨⟨_, bO, World.ownsRow_nil _ _ _ _, trivial⟩, KeepEx.refl _ _ _, hB3⟩
      (fun x => { tmps := #[.agg #[.int .i64 clear, .int .i64 climb, .int .i64 height, .int .i64 rise, .int .i64 run, .int .i64 cw, .int .i64 cd], .slice a n c, .pointer (some ⟨w.heap.size, 0, none⟩), .pointer (some ⟨w.heap.size + 1, 0, none⟩), .slice none 0 0, .int .i64 0, v1, .int .i64 0, .pointer (some ⟨w1.heap.size, 0, none⟩), .int .i64 (x.1.1 : Int), .int .i64 x.1.2, .tuple #[v1, .int .i64 0], .agg #[.int .i64 clear, .int .i64 climb, .int .i64 height, .int .i64 rise, .int .i64 run, .int .i64 cw, .int .i64 cd], .slice a n c, .tuple #[v1, .int .i64 0], v1, .int .i64 0, .int .i64 0, .bool false, undef, .agg #[.int .i64 clear, .int .i64 climb, .int .i64 height, .int .i64 rise, .int .i64 run, .int .i64 cw, .int .i64 cd], .slice a n c, .func (.func 104) #[] #[.pointer (some ⟨w1.heap.size + 1 + 1, 0, none⟩), .pointer (some ⟨w1.heap.size + 1 + 2, 0, none⟩)], .int .i64 (x.1.1 : Int), .int .i64 x.1.2, undef, undef, undef, undef, undef, undef, undef, undef, undef, undef, undef], defers := [] }) ?assign ?body ?done ?stop
    case assign =>
      intro l x W K hK
      gi_wp2
      exact hK
    case body =>
      rintro l pre x W ⟨⟨v, hv, hrow, _⟩, hke, hB⟩ hlt
      obtain ⟨⟨k, top⟩, hkx⟩ := x
      simp only at hkx ⊢
      have hkn : k < n := by rw [← Hl.out]; exact hkx
      obtain ⟨y, hyk⟩ : ∃ y, xs[k]? = some y := ⟨_, List.getElem?_eq_getElem hkx⟩
      obtain ⟨bb, off, rfl, hbl, hcc⟩ := (Hx3.out.keepEx hke Ha3.out).at0 (by omega)
      have c2 := (SlSp.cells hcc hyk).2.1
      have c1 := (Boxed.keepEx bS3 hke (by omega) (by omega)).cell
      have cO := hv.cell
      have hltI : (k : Int) < (n : Int) := by omega
      obtain ⟨ylo, yhi, yw⟩ := y
      have Hyk := Lib.hid hyk
      simp only at c2
      clear hcc hyk
      gi_wp2
      refine wpIn_region_heads (late := fun j => j == 10) (S := fun w' => w'.cell? ⟨w1.heap.size, 0, none⟩ = some v ∧ w'.cell? ⟨w.heap.size + 1, 0, none⟩ = some (.slice (some ⟨bb, off, none⟩) n c) ∧ w'.cell? ⟨bb, off + k * 3 + 1, none⟩ = some (.int .i64 yhi)) 8 (fun _ => trivial) hmo (by kernel_rfl) (by kernel_rfl) (fun _ _ _ _ _ h => h) ⟨cO, c1, c2⟩ ?_
      simp only [List.take_succ_cons, List.take_zero, List.drop_succ_cons, List.drop_zero]
      refine wpHeads_cons (v) rfl (fun w' ⟨s1, s2, s3⟩ => by go_simp) ?_
      refine wpHeads_cons (.slice (some ⟨bb, off, none⟩) n c) rfl (fun w' ⟨s1, s2, s3⟩ => by go_simp) ?_
      refine wpHeads_cons (.int .i64 k) rfl (fun w' ⟨s1, s2, s3⟩ => by go_simp) ?_
      refine wpHeads_cons (.pointer (some ⟨bb, off + k * 3, none⟩)) rfl (fun w' ⟨s1, s2, s3⟩ => by go_simp) ?_
      refine wpHeads_cons (.pointer (some ⟨bb, off + k * 3 + 1, none⟩)) rfl (fun w' ⟨s1, s2, s3⟩ => by go_simp) ?_
      refine wpHeads_cons (.int .i64 yhi) rfl (fun w' ⟨s1, s2, s3⟩ => by go_simp) ?_
      refine wpHeads_cons (.int .i64 top) rfl (fun w' ⟨s1, s2, s3⟩ => by go_simp) ?_
      refine wpHeads_cons (.agg #[.int .i64 yhi, .int .i64 top, .int .i64 1]) rfl (fun w' ⟨s1, s2, s3⟩ => by go_simp) ?_
      refine wpHeads_nil ?_
      go_simp
      have hsW : w3.heap.size ≤ W.heap.size := hke.size
      have hcO : (W.drew.alloc (.cells #[.int .i64 yhi, .int .i64 top, .int .i64 1] 48)).cell? ⟨w1.heap.size, 0, none⟩ = some v := (hv.alloc _).cell
      have hc1 : (W.drew.alloc (.cells #[.int .i64 yhi, .int .i64 top, .int .i64 1] 48)).cell? ⟨w.heap.size + 1, 0, none⟩ = some (.slice (some ⟨bb, off, none⟩) n c) := ((Boxed.keepEx bS3 hke (by omega) (by omega)).alloc _).cell
      have hc2 : (W.drew.alloc (.cells #[.int .i64 yhi, .int .i64 top, .int .i64 1] 48)).cell? ⟨bb, off + k * 3 + 1, none⟩ = some (.int .i64 yhi) := (World.cell?_alloc_past _ _ _ (by simpa using hbl)).trans c2
      have hrowD : W.drew.ownsRow w3.heap.size 48 3 v pre.length ((pre.map fun p => flrOf xs p.1).flatMap flrC) := hrow
      have hvD : Boxed W.drew w1.heap.size 43 v := hv
      refine wpTailT_cons rfl (fun K hK => ?_)
      gi_wp2
      refine hK _ _ (fun _ => ⟨hcO, hc1, hc2⟩) ?_
      clear hK
      refine wpTailT_cons rfl (fun K hK => ?_)
      gi_wp2_with (gi_at_builtin; refine wpListIn_append_own _ rfl _ _ 43 rfl w3.heap.size 48 i0 (.agg #[.int .i64 0, .int .i64 0, .int .i64 0]) 3 24 Try.underlying43 hi hz0 hz1 hz2 rfl (by decide) _ _ _ rfl (hrowD.alloc _) ⟨W.heap.size, 0, none⟩ 1 1 [.int .i64 yhi, .int .i64 top, .int .i64 1] rfl rfl (World.news_of_block (heap_alloc_new W.drew _)) (by simp [Value.oneCell']) (by unfold maxLen; omega) (by omega) (by simp; omega) ?_; intro v' w5 hown' hgrow _; obtain ⟨g', cap', rfl⟩ := ownsRow_succ hown')
      obtain ⟨hv1, hv2, hr2, hk2, hkk, hb2⟩ := boxed_appendedK (S := fun k => k = w1.heap.size) hvD (by decide) hrowD hsW hB3.size (by omega) rfl hown' hgrow
      have hS5 : w5.cell? ⟨w1.heap.size, 0, none⟩ = some v ∧ w5.cell? ⟨w.heap.size + 1, 0, none⟩ = some (.slice (some ⟨bb, off, none⟩) n c) ∧ w5.cell? ⟨bb, off + k * 3 + 1, none⟩ = some (.int .i64 yhi) := by
        have hrl := hrowD.lt
        have hbb := Hx.out.far _ rfl
        refine ⟨hv1.cell, hgrow.cell hc1 (fun e => ?_), hgrow.cell hc2 (fun e => ?_)⟩
        · have := (hrl _ e.symm).1; simp only at this; omega
        · have := (hrl _ e.symm).1; simp only at this hbb; have := hB3.size; omega
      refine hK _ _ (fun _ => hS5) ?_
      clear hK
      have hc5 := hv1.cell
      have hf5 := hv1.frozen
      refine wpTailT_cons rfl (fun K hK => ?_)
      gi_wp2
      refine hK _ _ (fun h => by cases h) ?_
      clear hK
      refine wpTailT_nil ?_
      have hk3 : KeepsFrom w3.heap.size W (w5.setCell ⟨w1.heap.size, 0, none⟩ (.slice (some ⟨g', 0, none⟩) (pre.length + 1) cap')) := ((KeepsOthers.drew W).trans hk2).from _
      have hkk' : KeepEx w3.heap.size (fun k => k = w1.heap.size) W (w5.setCell ⟨w1.heap.size, 0, none⟩ (.slice (some ⟨g', 0, none⟩) (pre.length + 1) cap')) := ⟨hkk.size, hkk.block⟩
      have hb2' : Below w.heap.size W (w5.setCell ⟨w1.heap.size, 0, none⟩ (.slice (some ⟨g', 0, none⟩) (pre.length + 1) cap')) := ⟨hb2.os, hb2.tape, hb2.output, hb2.size, hb2.block⟩
      refine ⟨hk3, hkk', ⟨_, hv2, ?_, trivial⟩, hke.trans hkk', hB.trans hb2'⟩
      rw [List.length_append, List.map_append, List.flatMap_append]
      have e1 : ([⟨(k, top), hkx⟩] : List { p : Nat × Int // p.1 < xs.length }).map (fun p => flrOf xs p.1) = [⟨yhi, top, 1⟩] := by simp [flrOf, Hyk.out]
      rw [e1]
      exact hr2
    case done =>
      rintro D ys W hD hys ⟨⟨v, hv, hrow, _⟩, hke, hB⟩ hK
      have hOwn : OwnR flrC 3 48 w3.heap.size W v ys.length (ys.map fun p => flrOf xs p.1) := ⟨by simp, hrow⟩
      obtain ⟨ad, cp, rfl, _⟩ := OwnR.reads (f := flrC) (sz := 3) (fun _ => rfl) hOwn
      have hc := hv.cell
      gi_wp2
      refine ⟨by simp, .inl ⟨_, _, rfl, run_takeDeferred hK, ?_⟩⟩
      have hfl : flrs ⟨clear, climb, height, rise, run, cw, cd⟩ xs = ys.map fun p => flrOf xs p.1 := by
        unfold flrs
        rw [HE2.out, if_pos rfl, ← hys, List.map_map]
        rfl
      refine ⟨.tuple #[.slice ad ys.length cp, .int .i64 0], ?_, ⟨_, ret_tup2 rfl HE1.out.symm, ?_, ?_⟩⟩
      · simp [results, Try.f33, go_sem]
      · rw [hfl, List.length_map]
        exact ⟨by simp, ownsRow_putObj (ownsRow_mono hrow hB3.size) _ hK rfl⟩
      · exact hB.trans (belowK_b (w := w3) hB3.size _ D _ _ hD hK rfl rfl)
    case stop =>
      rintro D c pre W _ _ h _
      exact h.elim
  · have HE1 := Lib.hid h1
    have HE2 := Lib.hid h2
    clear h1 h2
    rw [HE1.out] at he
    subst he
    gi_wp2
    refine ⟨.tuple #[.slice none 0 0, .int .i64 ke], ?_, ⟨_, ret_tup2 rfl HE1.out.symm, ?_, hB1⟩⟩
    · simp [results, Try.f33, go_sem]
    · unfold flrs
      rw [HE2.out]
      exact OwnR.nil _ _ _ _ _

end Go.Proofs.Ytilhmlapbifbbaa
