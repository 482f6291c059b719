/- Walks: the document's Open. -/
import Derived.Test.YtjiklfffcnfdjaaGreatHa
import Derived.Test.YtjiklfffcnfdjaaGreatGa
namespace Go.Proofs.YtjiklfffcnfdjaaGreat
open Go.RowKit

/-- A config lies in block B. -/
def CfgAt (B : Nat) (cf : Cfg) (w : World) : Prop := ∀ j v, (cfgL cf)[j]? = some v → w.cell? ⟨B, j, none⟩ = some v
theorem CfgAt.below {B C : Nat} {cf : Cfg} {w w' : World} (h : CfgAt B cf w) (hb : Below C w w') (hB : B < C) : CfgAt B cf w' :=
  fun j v hj => (hb.cell (p := ⟨B, j, none⟩) hB).trans (h j v hj)
theorem CfgAt.new (cf : Cfg) (w : World) (t : TypeId) : CfgAt w.heap.size cf (w.alloc (.cells (cfgL cf).toArray t)) := by
  intro j v hj
  rw [World.cell?_alloc_at _ _ _ _ rfl]
  simpa using hj

def openE (cf : Cfg) (xs : List Spn) : Int := if cfgOk cf then (if spOk xs then 0 else 2) else 20
def openKs (cf : Cfg) (xs : List Spn) : List Int := if cfgOk cf && spOk xs then (eachL cf xs).map fun p => (p.1 : Int) else []
def upKs (cf : Cfg) (xs : List Spn) (k : Nat) : List Int := (eachUp cf xs k).map fun p => (p.1 : Int)
theorem upKs_yes {cf : Cfg} {xs : List Spn} {k : Nat} (h : openAt cf xs k = true) : upKs cf xs (k + 1) = upKs cf xs k ++ [(k : Int)] := by simp [upKs, eachUp_yes h]
theorem upKs_no {cf : Cfg} {xs : List Spn} {k : Nat} (h : openAt cf xs k = false) : upKs cf xs (k + 1) = upKs cf xs k := by simp [upKs, eachUp_no h]
theorem upKs_len (cf : Cfg) (xs : List Spn) (k : Nat) : (upKs cf xs k).length ≤ k := by simpa [upKs] using eachUp_len cf xs k
theorem openKs_ok {cf : Cfg} {xs : List Spn} (h1 : cfgOk cf = true) (h2 : spOk xs = true) : openKs cf xs = upKs cf xs xs.length := by simp [openKs, h1, h2, upKs, eachL]
/-- What Open answers. -/
def OpenPost (cf : Cfg) (xs : List Spn) (w : World) (e : Ending) (w' : World) : Prop :=
  ∃ v, e = .returned (.tuple #[v, .int .i64 (openE cf xs)]) ∧ OwnI .i64 3 w.heap.size w' v (openKs cf xs).length (openKs cf xs) ∧ Below w.heap.size w w'

theorem info_i64 : (Tryz.prog.info? 3).map (fun i => (i.zero, i.size, i.bytes)) = some (some (.int .i64 0), 1, 8) := by kernel_rfl

theorem ret_tup2 {u v : Value} {k : IntKind} {x y : Int} (h1 : u = v) (h2 : x = y) : Ending.returned (.tuple #[u, .int k x]) = .returned (.tuple #[v, .int k y]) := by rw [h1, h2]
theorem OwnI.mono {k : IntKind} {e : TypeId} {B B' : Nat} {w : World} {v : Value} {n : Nat} {xs : List Int} (h : OwnI k e B w v n xs) (hB : B' ≤ B) : OwnI k e B' w v n xs := by
  refine ⟨h.1, ?_⟩
  rcases h.2 with h0 | ⟨g, cap, cur, h2, h3, h4⟩
  · exact .inl h0
  · exact .inr ⟨g, cap, cur, h2, Nat.le_trans hB h3, h4⟩

end Go.Proofs.YtjiklfffcnfdjaaGreat

namespace Go.Proofs.YtjiklfffcnfdjaaGreat
open Go.RowKit Go.Shelf Go.Sort
attribute [local go_sem] Oper.semAt_some

def fstI (l : List (Nat × Int)) : List Int := l.map fun p => (p.1 : Int)

set_option maxRecDepth 100000 in
set_option maxHeartbeats 1000000 in
theorem fopen_any (cf : Cfg) (a : Option Addr) (n c : Nat) (xs : List Spn) (w : World) (hx : SlSp w a n c xs) :
    Calls Tryz.prog 12 #[cfgV cf, .slice a n c] w (OpenPost cf xs w) := by
  have Hl := Lib.hid hx.len
  have hmax := hx.max
  have hle := hx.le
  have Hx := Lib.hid hx; clear hx
  have hcc := cfgE_eq cf
  have hsp := spE_eq xs
  obtain ⟨clear, climb, height, rise, run, cw, cd⟩ := cf
  show Calls Tryz.prog _ #[.agg #[.int .i64 clear, .int .i64 climb, .int .i64 height, .int .i64 rise, .int .i64 run, .int .i64 cw, .int .i64 cd], .slice a n c] w _
  refine (callsIn_wide (n := 5)).1 ?_
  rcases hcc with ⟨h1, h2⟩ | ⟨h1, h2⟩
  · have HC1 := Lib.hid h1
    have HC2 := Lib.hid h2
    clear h1 h2
    rcases hsp with ⟨h1, h2⟩ | ⟨h1, h2⟩
    · have HS1 := Lib.hid h1
      have HS2 := Lib.hid h2
      clear h1 h2
      have hn8 : n ≤ 8 := by have := HS2.out; simp [spOk, Hl.out] at this; omega
      refine callsIn_of_wp_marks Tryz.func12 rfl trivial ?_ rfl
      simp only [Tryz.ntmps12, List.size_toArray, List.length_cons, List.length_nil, Nat.reduceAdd, Nat.reduceSub, Array.replicate_succ, Array.replicate_zero, List.push_toArray, List.append_toArray, List.nil_append, List.cons_append]
      gi_wp2_with fail
      refine ⟨trivial, ?_⟩
      gi_at_call 18
      refine (callsIn_wide.2 (cfgcheck_any ⟨clear, climb, height, rise, run, cw, cd⟩ _)).mono ?_
      rw [HC1.out]
      rintro e w1 ⟨rfl, hb1⟩
      have hB1 : Below w.heap.size w w1 := (((Below.refl _ _).alloc (Nat.le_refl _) _).alloc (by simp) _).trans (hb1.mono (by simp; omega))
      have bO : Boxed w1 (w.heap.size + 1) 44 (.slice none 0 0) := (hb1.block (w.heap.size + 1) (by simp)).trans (by have := Boxed.new (w.alloc (.cells #[.int .i64 clear, .int .i64 climb, .int .i64 height, .int .i64 rise, .int .i64 run, .int .i64 cw, .int .i64 cd] 23)) 44 (.slice none 0 0); simpa [Boxed] using this)
      have HCA : Hid (CfgAt w.heap.size ⟨clear, climb, height, rise, run, cw, cd⟩ w1) := ((CfgAt.new ⟨clear, climb, height, rise, run, cw, cd⟩ w 23).below ((Below.refl _ _).alloc (Nat.le_refl _) _) (by simp)).below hb1 (by simp; omega)
      have hs1 : w.heap.size + 2 ≤ w1.heap.size := by have := hb1.size; simp at this; omega
      clear hb1
      gi_wp2_with fail
      refine ⟨trivial, ?_⟩
      gi_at_call 19
      refine (callsIn_wide.2 (spancheck_any a n c xs _ (Hx.out.below hB1 (Nat.le_refl _)))).mono ?_
      rw [HS1.out]
      rintro e w2 ⟨rfl, hb2⟩
      have hB2 : Below w.heap.size w w2 := hB1.trans (hb2.mono hB1.size)
      have bO2 : Boxed w2 (w.heap.size + 1) 44 (.slice none 0 0) := (hb2.block _ (by omega)).trans bO
      have HCA2 : Hid (CfgAt w.heap.size ⟨clear, climb, height, rise, run, cw, cd⟩ w2) := HCA.out.below hb2 (by omega)
      have hs2 : w.heap.size + 2 ≤ w2.heap.size := by have := hb2.size; omega
      have f0 := HCA2.out 0 _ rfl
      have f1 := HCA2.out 1 _ rfl
      have f2 := HCA2.out 2 _ rfl
      have f3 := HCA2.out 3 _ rfl
      have f4 := HCA2.out 4 _ rfl
      have f5 := HCA2.out 5 _ rfl
      have f6 := HCA2.out 6 _ rfl
      simp only at f0 f1 f2 f3 f4 f5 f6
      clear hb2 bO HCA hB1 hs1
      gi_wp2_with fail
      refine ⟨trivial, ?_⟩
      gi_at_call 13
      refine (callsIn_wide.2 (each_any ⟨clear, climb, height, rise, run, cw, cd⟩ a n c xs _ (Hx.out.below hB2 (Nat.le_refl _)))).mono ?_
      rintro e w3 ⟨rfl, hb3, he3, hs3⟩
      clear f0 f1 f2 f3 f4 f5 f6
      gi_wp2
      have hs23 := hb3.size
      have bO3 : Boxed w3 (w.heap.size + 1) 44 (.slice none 0 0) := (hb3.block _ (by omega)).trans bO2
      have hB3 : Below w.heap.size w w3 := hB2.trans (hb3.mono hB2.size)
      have ha3 : ∀ ad, a = some ad → n = 0 ∨ (ad.block < w3.heap.size ∧ ¬ ad.block = w.heap.size + 1) := by
        intro ad had
        have := Hx.out.far ad had
        omega
      obtain ⟨i0, hi, hz0, hz1, hz2⟩ := info_parts info_i64
      refine wpIn_rangeFunc_ownG rfl (by decide) (gf := 22) (lb := #[.pointer (some ⟨w2.heap.size + 1, 0, none⟩), .pointer (some ⟨w2.heap.size + 2, 0, none⟩)]) rfl trivial (enters_of Tryz.func22 (by kernel_rfl) rfl)
        (each_stops 4 (by decide) w2.heap.size w3.heap.size (fun k => k = w.heap.size + 1) ⟨clear, climb, height, rise, run, cw, cd⟩ a n c xs w3 he3 (by omega) (by omega) (by omega) (by omega) ha3) keepEx_t (keepEx_b (Nat.le_refl _)) (Below.refl _ _) (fun _ => rfl)
        (fun pre W => (∃ v, Boxed W (w.heap.size + 1) 44 v ∧ OwnI .i64 3 w3.heap.size W v pre.length (fstI pre) ∧ True) ∧ (Below w.heap.size w W ∧ w3.heap.size ≤ W.heap.size))
        (fun _ _ _ => False)
        (OwnFrom.and (Own.from (holdsRow_own w3.heap.size (w.heap.size + 1) 44 3 1 (fun pre : List (Nat × Int) => pre.length) (fun pre => (fstI pre).map (Value.int .i64)) (fun _ _ => True)) _) (OwnFrom.and (ownFrom_below (Nat.le_refl _) hB3.size) (fun _ _ _ _ hs hg _ => Nat.le_trans hs hg.size)))
        (fun _ _ _ _ _ hs _ _ => hs)
        ⟨⟨_, bO3, World.ownsRow_nil _ _ _ _, trivial⟩, hB3, Nat.le_refl _⟩
        (fun x => { tmps := #[.agg #[.int .i64 clear, .int .i64 climb, .int .i64 height, .int .i64 rise, .int .i64 run, .int .i64 cw, .int .i64 cd], .slice a n c, .pointer (some ⟨w.heap.size, 0, none⟩), undef, .pointer (some ⟨w.heap.size + 1, 0, none⟩), .int .i64 0, .int .i64 (x.1 : Int), .bool false, .agg #[.int .i64 clear, .int .i64 climb, .int .i64 height, .int .i64 rise, .int .i64 run, .int .i64 cw, .int .i64 cd], .int .i64 0, .bool false, .bool false, .slice a n c, .int .i64 0, .bool false, .agg #[.int .i64 clear, .int .i64 climb, .int .i64 height, .int .i64 rise, .int .i64 run, .int .i64 cw, .int .i64 cd], .slice a n c, .func (.func 22) #[] #[.pointer (some ⟨w2.heap.size + 1, 0, none⟩), .pointer (some ⟨w2.heap.size + 2, 0, none⟩)], .int .i64 (x.1 : Int), .int .i64 x.2, undef, undef, undef, undef, undef], defers := [] }) ?assign ?body ?done ?stop
      case assign =>
        intro l x W K hK
        gi_wp2
        exact hK
      case body =>
        rintro l pre x W ⟨⟨v, hv, hrow, _⟩, hB, hsW⟩ hlt
        have hc := hv.cell
        have hrow : W.ownsRow w3.heap.size 3 1 v pre.length ((fstI pre).map (Value.int .i64)) := hrow
        gi_wp2_with (gi_at_builtin; refine wpListIn_append_own _ rfl _ _ 44 rfl w3.heap.size 3 i0 (.int .i64 0) 1 8 Tryz.underlying44 hi hz0 hz1 hz2 rfl (by decide) _ _ _ rfl (hrow.alloc _) ⟨W.heap.size, 0, none⟩ 1 1 [.int .i64 (x.1 : Int)] rfl rfl (cell_one_new _ _ _) (by simp [Value.oneCell']) (by unfold maxLen; omega) (by omega) (by simp; omega) ?_; intro v' w1 hown' hgrow _; obtain ⟨g', cap', rfl⟩ := ownsRow_succ hown'; obtain ⟨hv1, hv2, hr2, hk2, hkk, hb2⟩ := boxed_appendedK (S := fun k => k = w.heap.size + 1) hv (by decide) hrow hsW hB3.size (Nat.le_succ _) rfl hown' hgrow; have hc1 := hv1.cell; have hf1 := hv1.frozen)
        exact ⟨hk2.from _, hkk, ⟨_, hv2, by simpa [OwnI, fstI] using hr2, trivial⟩, hB.trans hb2, Nat.le_trans hsW hb2.size⟩
      case done =>
        rintro D ys W hD rfl ⟨⟨v, hv, hrow, _⟩, hB, hsW⟩ hK
        have hlen := hrow.length
        obtain ⟨ad, cp, rfl, _⟩ := hrow.reads
        have hc := hv.cell
        have hf := hv.frozen
        gi_wp2
        have hK' := (KeepsOthers.setCell W ⟨w.heap.size + 1, 0, none⟩ (.slice ad (eachL ⟨clear, climb, height, rise, run, cw, cd⟩ xs).length cp)).same D _ hK rfl
        refine ⟨by simp, .inl ⟨_, _, rfl, run_takeDeferred hK', ?_⟩⟩
        have hv2 := hv.set (.slice ad (eachL ⟨clear, climb, height, rise, run, cw, cd⟩ xs).length cp)
        have hc5 := cell_kept hv2.cell (grownBy_putObj' _ D (.deferred none)) (fun r e => by cases e; exact ⟨_, hK', rfl⟩)
        have hks : openKs ⟨clear, climb, height, rise, run, cw, cd⟩ xs = fstI (eachL ⟨clear, climb, height, rise, run, cw, cd⟩ xs) := openKs_ok HC2.out HS2.out
        have hr2 : OwnI .i64 3 w.heap.size (W.setCell ⟨w.heap.size + 1, 0, none⟩ (.slice ad (eachL ⟨clear, climb, height, rise, run, cw, cd⟩ xs).length cp)) (.slice ad (eachL ⟨clear, climb, height, rise, run, cw, cd⟩ xs).length cp) (eachL ⟨clear, climb, height, rise, run, cw, cd⟩ xs).length (fstI (eachL ⟨clear, climb, height, rise, run, cw, cd⟩ xs)) :=
          (OwnI.kept hrow (grownBy_setCell' W (w.heap.size + 1) _) (.inr (hv.not_row (by decide) hrow).symm)).mono hB3.size
        refine ⟨.tuple #[.slice ad (eachL ⟨clear, climb, height, rise, run, cw, cd⟩ xs).length cp, .int .i64 0], ?_, ⟨_, ret_tup2 rfl ?_, ?_, ?_⟩⟩
        · simp [results, Tryz.f12, go_sem, hc5]
        · simp [openE, HC2.out, HS2.out]
        · rw [hks, hlen]
          exact ownsRow_putObj hr2 _ hK' rfl
        · exact (hB.setCell (p := ⟨w.heap.size + 1, 0, none⟩) (by simp) _).trans (belowK_b (w := w3) hB3.size _ D _ _ hD hK' rfl rfl)
      case stop =>
        rintro D c pre W _ _ h _
        exact h.elim
    · have HS1 := Lib.hid h1
      have HS2 := Lib.hid h2
      clear h1 h2
      refine callsIn_of_wp_marks Tryz.func12 rfl trivial ?_ rfl
      simp only [Tryz.ntmps12, List.size_toArray, List.length_cons, List.length_nil, Nat.reduceAdd, Nat.reduceSub, Array.replicate_succ, Array.replicate_zero, List.push_toArray, List.append_toArray, List.nil_append, List.cons_append]
      gi_wp2_with fail
      refine ⟨trivial, ?_⟩
      gi_at_call 18
      refine (callsIn_wide.2 (cfgcheck_any ⟨clear, climb, height, rise, run, cw, cd⟩ _)).mono ?_
      rw [HC1.out]
      rintro e w1 ⟨rfl, hb1⟩
      have hB1 : Below w.heap.size w w1 := (((Below.refl _ _).alloc (Nat.le_refl _) _).alloc (by simp) _).trans (hb1.mono (by simp; omega))
      have bO : Boxed w1 (w.heap.size + 1) 44 (.slice none 0 0) := (hb1.block (w.heap.size + 1) (by simp)).trans (by have := Boxed.new (w.alloc (.cells #[.int .i64 clear, .int .i64 climb, .int .i64 height, .int .i64 rise, .int .i64 run, .int .i64 cw, .int .i64 cd] 23)) 44 (.slice none 0 0); simpa [Boxed] using this)
      have hs1 : w.heap.size + 2 ≤ w1.heap.size := by have := hb1.size; simp at this; omega
      clear hb1
      gi_wp2_with fail
      refine ⟨trivial, ?_⟩
      gi_at_call 19
      refine (callsIn_wide.2 (spancheck_any a n c xs _ (Hx.out.below hB1 (Nat.le_refl _)))).mono ?_
      rw [HS1.out]
      rintro e w2 ⟨rfl, hb2⟩
      have hB2 : Below w.heap.size w w2 := hB1.trans (hb2.mono hB1.size)
      have bO2 : Boxed w2 (w.heap.size + 1) 44 (.slice none 0 0) := (hb2.block _ (by omega)).trans bO
      have hc := bO2.cell
      have hf := bO2.frozen
      gi_wp2
      have hc5 := (bO2.set (.slice none 0 0)).cell
      refine ⟨.tuple #[.slice none 0 0, .int .i64 2], ?_, ⟨_, ret_tup2 rfl ?_, ?_, ?_⟩⟩
      · simp [results, Tryz.f12, go_sem, hc5]
      · simp [openE, HC2.out, HS2.out]
      · simp only [openKs, HC2.out, HS2.out]
        exact OwnI.nil _ _ _ _
      · exact hB2.setCell (p := ⟨w.heap.size + 1, 0, none⟩) (by simp) _
  · have HC1 := Lib.hid h1
    have HC2 := Lib.hid h2
    clear h1 h2 hsp
    refine callsIn_of_wp_marks Tryz.func12 rfl trivial ?_ rfl
    simp only [Tryz.ntmps12, List.size_toArray, List.length_cons, List.length_nil, Nat.reduceAdd, Nat.reduceSub, Array.replicate_succ, Array.replicate_zero, List.push_toArray, List.append_toArray, List.nil_append, List.cons_append]
    gi_wp2_with fail
    refine ⟨trivial, ?_⟩
    gi_at_call 18
    refine (callsIn_wide.2 (cfgcheck_any ⟨clear, climb, height, rise, run, cw, cd⟩ _)).mono ?_
    rw [HC1.out]
    rintro e w1 ⟨rfl, hb1⟩
    have hB1 : Below w.heap.size w w1 := (((Below.refl _ _).alloc (Nat.le_refl _) _).alloc (by simp) _).trans (hb1.mono (by simp; omega))
    have bO : Boxed w1 (w.heap.size + 1) 44 (.slice none 0 0) := (hb1.block (w.heap.size + 1) (by simp)).trans (by have := Boxed.new (w.alloc (.cells #[.int .i64 clear, .int .i64 climb, .int .i64 height, .int .i64 rise, .int .i64 run, .int .i64 cw, .int .i64 cd] 23)) 44 (.slice none 0 0); simpa [Boxed] using this)
    have hc := bO.cell
    have hf := bO.frozen
    gi_wp2
    have hc5 := (bO.set (.slice none 0 0)).cell
    refine ⟨.tuple #[.slice none 0 0, .int .i64 20], ?_, ⟨_, ret_tup2 rfl ?_, ?_, ?_⟩⟩
    · simp [results, Tryz.f12, go_sem, hc5]
    · simp [openE, HC2.out]
    · simp only [openKs, HC2.out]
      exact OwnI.nil _ _ _ _
    · exact hB1.setCell (p := ⟨w.heap.size + 1, 0, none⟩) (by simp) _

end Go.Proofs.YtjiklfffcnfdjaaGreat

namespace Go.Proofs.YtjiklfffcnfdjaaGreat
open Go.RowKit Go.Shelf Go.Sort
attribute [local go_sem] Oper.semAt_some

theorem openAt_room {cf : Cfg} {xs : List Spn} {k : Nat} (h : openAt cf xs k = true) : roomB xs k = true := by
  unfold openAt at h
  cases hx : xs[k]? with
  | none => rw [hx] at h; cases h
  | some x =>
    rw [hx] at h
    simp only [Bool.and_eq_true] at h
    have := h.2
    simp only [fitsI, Bool.and_eq_true] at this
    exact this.1
theorem eachUp_room (cf : Cfg) (xs : List Spn) (k : Nat) : ∀ p ∈ eachUp cf xs k, roomB xs p.1 = true ∧ p.2 = roomI xs p.1 := by
  induction k with
  | zero => intro p hp; cases hp
  | succ k ih =>
    cases h : openAt cf xs k with
    | true =>
      rw [eachUp_yes h]
      intro p hp
      rcases List.mem_append.1 hp with hp | hp
      · exact ih p hp
      · simp at hp
        subst hp
        exact ⟨openAt_room h, rfl⟩
    | false => rw [eachUp_no h]; exact ih
theorem each_bad {cf : Cfg} {xs : List Spn} (h : (cfgOk cf && spOk xs) = false) : eachL cf xs = [] := by
  have ho : ∀ k, openAt cf xs k = false := by
    intro k
    cases hk : openAt cf xs k with
    | false => rfl
    | true =>
      exfalso
      have hr := openAt_room hk
      unfold openAt at hk
      cases hx : xs[k]? with
      | none => rw [hx] at hk; cases hk
      | some x =>
        rw [hx] at hk
        simp only [fitsI, fitsN, Bool.and_eq_true] at hk
        have h1 := (roomB_lt hr).1
        rw [h1, Bool.and_true] at h
        have h2 := hk.2.2
        rw [Int.toNat_natCast, hx] at h2
        simp [h] at h2
  unfold eachL
  generalize xs.length = m
  induction m with
  | zero => rfl
  | succ m ih => rw [eachUp_no (ho m), ih]
theorem openKs_each (cf : Cfg) (xs : List Spn) : openKs cf xs = fstI (eachL cf xs) := by
  cases h : cfgOk cf && spOk xs with
  | true => simp [openKs, h, fstI]
  | false => simp [openKs, h, each_bad h, fstI]

theorem prefix_snoc {α : Type} {pre E : List α} {p : α} (h : pre <+: E) (hp : E[pre.length]? = some p) : pre ++ [p] <+: E := by
  obtain ⟨t, rfl⟩ := h
  rw [List.getElem?_append_right (Nat.le_refl _)] at hp
  cases t with
  | nil => simp at hp
  | cons y t =>
    simp at hp
    subst hp
    exact ⟨t, by simp⟩
theorem prefix_snoc_eq {α : Type} {pre E : List α} {x p : α} (h : pre ++ [x] <+: E) (hp : E[pre.length]? = some p) : x = p := by
  obtain ⟨t, rfl⟩ := h
  simp at hp
  exact hp
theorem fstI_getD {E : List (Nat × Int)} {i : Nat} {p : Nat × Int} (h : E[i]? = some p) : (fstI E).getD i 0 = (p.1 : Int) := by
  simp [fstI, List.getD_eq_getElem?_getD, h]

end Go.Proofs.YtjiklfffcnfdjaaGreat

namespace Go.Proofs.YtjiklfffcnfdjaaGreat
open Go.RowKit

theorem take_eq_succI {xs ys : List Int} {k : Nat} (h1 : k < xs.length) (h2 : k < ys.length) (h : xs.take k = ys.take k) (he : xs.getD k 0 = ys.getD k 0) : xs.take (k + 1) = ys.take (k + 1) := by
  rw [List.take_succ_eq_append_getElem h1, List.take_succ_eq_append_getElem h2, h]
  simp [List.getD_eq_getElem?_getD, List.getElem?_eq_getElem h1, List.getElem?_eq_getElem h2] at he
  rw [he]

theorem ne_of_getDI {xs ys : List Int} {k : Nat} (he : xs.getD k 0 ≠ ys.getD k 0) : xs ≠ ys := by
  rintro rfl; exact he rfl

end Go.Proofs.YtjiklfffcnfdjaaGreat

namespace Go.Proofs.YtjiklfffcnfdjaaGreat
open Go.RowKit Go.Sort

/-- A literal slice of spans, as the model builds it. -/
theorem SlSp.lits (w : World) (xs : List Spn) (e : TypeId) (h : xs.length ≤ 9223372036854775807) : SlSp (w.alloc (.cells (xs.flatMap spnC).toArray e)) (some ⟨w.heap.size, 0, none⟩) xs.length xs.length xs := by
  refine ⟨rfl, Nat.le_refl _, h, .inr ⟨w.heap.size, 0, rfl, by simp, fun i x hx j v hv => ?_⟩⟩
  rw [World.cell?_alloc_at _ _ _ _ rfl]
  have key : ∀ (l : List Spn) (i : Nat), l[i]? = some x → (l.flatMap spnC)[i * 3 + j]? = some v := by
    intro l
    induction l with
    | nil => intro i hi; cases hi
    | cons y l ih =>
      intro i hi
      have hj : j < 3 := by
        have := (List.getElem?_eq_some_iff.1 hv).1
        simpa [spnC] using this
      cases i with
      | zero =>
        simp at hi
        subst hi
        rw [List.flatMap_cons, List.getElem?_append_left (by simp [spnC]; omega)]
        simpa using hv
      | succ i =>
        rw [List.flatMap_cons, List.getElem?_append_right (by simp [spnC]; omega)]
        have := ih i (by simpa using hi)
        rw [← this]
        congr 1
        simp [spnC]; omega
  simpa using key xs i hx

def wakeA : List Spn := [⟨0, 1, true⟩, ⟨4, 5, true⟩]
def wakeB : List Spn := [⟨0, 1, true⟩, ⟨3, 5, true⟩]
theorem wakeA_ks : openKs ⟨0, 1, 3, 1, 1, 8, 8⟩ wakeA = [0, 1] := by decide
theorem wakeA_e : openE ⟨0, 1, 3, 1, 1, 8, 8⟩ wakeA = 0 := by decide
theorem wakeB_ks : openKs ⟨0, 1, 3, 1, 1, 8, 8⟩ wakeB = [1] := by decide
theorem wakeB_e : openE ⟨0, 1, 3, 1, 1, 8, 8⟩ wakeB = 0 := by decide

theorem SlI.regrown {k : IntKind} {w : World} {a : Option Addr} {n c : Nat} {xs : List Int} (h : SlI k w a n c xs) (d : Nat) (os : Array Obj) : SlI k (grow (redrawn w d) os) a n c xs := h.below (below_regrown w d os) (Nat.le_refl _)
theorem SlR.regrown {α : Type} {f : α → List Value} {sz : Nat} {w : World} {a : Option Addr} {n c : Nat} {xs : List α} (h : SlR f sz w a n c xs) (d : Nat) (os : Array Obj) : SlR f sz (grow (redrawn w d) os) a n c xs := h.below (below_regrown w d os) (Nat.le_refl _)

end Go.Proofs.YtjiklfffcnfdjaaGreat
