/- Walks: filter.Open. -/
import Derived.Test.YtilhmlapbifbbaaRefOpen
namespace Go.Proofs.Ytilhmlapbifbbaa
open Go.RowKit Go.Shelf Go.Sort
attribute [local go_sem] Oper.semAt_some

def fstI (l : List (Nat × Int)) : List Int := l.map fun p => (p.1 : Int)

set_option maxRecDepth 100000 in
set_option maxHeartbeats 1000000 in
theorem open_any (cf : Cfg) (a : Option Addr) (n c : Nat) (xs : List Spn) (w : World) (hx : SlSp w a n c xs) :
    Calls Try.prog 26 #[cfgV cf, .slice a n c] w (OpenPost cf xs w) := by
  have Hl := Lib.hid hx.len
  have hmax := hx.max
  have hle := hx.le
  have Hx := Lib.hid hx; clear hx
  have hcc := cfgE_eq cf
  have hsp := spE_eq xs
  obtain ⟨clear, climb, height, rise, run, cw, cd⟩ := cf
  show Calls Try.prog _ #[.agg #[.int .i64 clear, .int .i64 climb, .int .i64 height, .int .i64 rise, .int .i64 run, .int .i64 cw, .int .i64 cd], .slice a n c] w _
  refine (callsIn_wide (n := 5)).1 ?_
  rcases hcc with ⟨h1, h2⟩ | ⟨h1, h2⟩
  · have HC1 := Lib.hid h1
    have HC2 := Lib.hid h2
    clear h1 h2
    rcases hsp with ⟨h1, h2⟩ | ⟨h1, h2⟩
    · have HS1 := Lib.hid h1
      have HS2 := Lib.hid h2
      clear h1 h2
      have hn8 : n ≤ 8 := by have := HS2.out; simp [spOk, Hl.out] at this; omega
      refine callsIn_of_wp_marks Try.func26 rfl trivial ?_ rfl
      simp only [Try.ntmps26, List.size_toArray, List.length_cons, List.length_nil, Nat.reduceAdd, Nat.reduceSub, Array.replicate_succ, Array.replicate_zero, List.push_toArray, List.append_toArray, List.nil_append, List.cons_append]
      gi_wp2_with fail
      refine ⟨trivial, ?_⟩
      gi_at_call 65
      refine (callsIn_wide.2 (cfgcheck_any ⟨clear, climb, height, rise, run, cw, cd⟩ _)).mono ?_
      rw [HC1.out]
      rintro e w1 ⟨rfl, hb1⟩
      have hB1 : Below w.heap.size w w1 := (((Below.refl _ _).alloc (Nat.le_refl _) _).alloc (by simp) _).trans (hb1.mono (by simp; omega))
      have bO : Boxed w1 (w.heap.size + 1) 36 (.slice none 0 0) := (hb1.block (w.heap.size + 1) (by simp)).trans (by have := Boxed.new (w.alloc (.cells #[.int .i64 clear, .int .i64 climb, .int .i64 height, .int .i64 rise, .int .i64 run, .int .i64 cw, .int .i64 cd] 32)) 36 (.slice none 0 0); simpa [Boxed] using this)
      have HCA : Hid (CfgAt w.heap.size ⟨clear, climb, height, rise, run, cw, cd⟩ w1) := ((CfgAt.new ⟨clear, climb, height, rise, run, cw, cd⟩ w 32).below ((Below.refl _ _).alloc (Nat.le_refl _) _) (by simp)).below hb1 (by simp; omega)
      have hs1 : w.heap.size + 2 ≤ w1.heap.size := by have := hb1.size; simp at this; omega
      clear hb1
      gi_wp2_with fail
      refine ⟨trivial, ?_⟩
      gi_at_call 59
      refine (callsIn_wide.2 (spancheck_any a n c xs _ (Hx.out.below hB1 (Nat.le_refl _)))).mono ?_
      rw [HS1.out]
      rintro e w2 ⟨rfl, hb2⟩
      have hB2 : Below w.heap.size w w2 := hB1.trans (hb2.mono hB1.size)
      have bO2 : Boxed w2 (w.heap.size + 1) 36 (.slice none 0 0) := (hb2.block _ (by omega)).trans bO
      have HCA2 : Hid (CfgAt w.heap.size ⟨clear, climb, height, rise, run, cw, cd⟩ w2) := HCA.out.below hb2 (by omega)
      have hs2 : w.heap.size + 2 ≤ w2.heap.size := by have := hb2.size; omega
      have f0 := HCA2.out 0 _ rfl
      have f1 := HCA2.out 1 _ rfl
      have f2 := HCA2.out 2 _ rfl
      have f3 := HCA2.out 3 _ rfl
      have f4 := HCA2.out 4 _ rfl
      have f5 := HCA2.out 5 _ rfl
      have f6 := HCA2.out 6 _ rfl
      simp only at f0 f1 f2 f3 f4 f5 f6
      clear hb2 bO HCA hB1 hs1
      gi_wp2_with fail
      refine ⟨trivial, ?_⟩
      gi_at_call 66
      refine (callsIn_wide.2 (each_any ⟨clear, climb, height, rise, run, cw, cd⟩ a n c xs _ (Hx.out.below hB2 (Nat.le_refl _)))).mono ?_
      rintro e w3 ⟨rfl, hb3, he3, hs3⟩
      clear f0 f1 f2 f3 f4 f5 f6
      gi_wp2
      have hs23 := hb3.size
      have bO3 : Boxed w3 (w.heap.size + 1) 36 (.slice none 0 0) := (hb3.block _ (by omega)).trans bO2
      have hB3 : Below w.heap.size w w3 := hB2.trans (hb3.mono hB2.size)
      have ha3 : ∀ ad, a = some ad → n = 0 ∨ (ad.block < w3.heap.size ∧ ¬ ad.block = w.heap.size + 1) := by
        intro ad had
        have := Hx.out.far ad had
        omega
      obtain ⟨i0, hi, hz0, hz1, hz2⟩ := info_parts info_i64
      refine wpIn_rangeFunc_ownG rfl (by decide) (gf := 104) (lb := #[.pointer (some ⟨w2.heap.size + 1, 0, none⟩), .pointer (some ⟨w2.heap.size + 2, 0, none⟩)]) rfl trivial (enters_of Try.func104 (by kernel_rfl) rfl)
        (each_stops 4 (by decide) w2.heap.size w3.heap.size (fun k => k = w.heap.size + 1) ⟨clear, climb, height, rise, run, cw, cd⟩ a n c xs w3 he3 (by omega) (by omega) (by omega) (by omega) ha3) keepEx_t (keepEx_b (Nat.le_refl _)) (Below.refl _ _) (fun _ => rfl)
        (fun pre W => (∃ v, Boxed W (w.heap.size + 1) 36 v ∧ OwnI .i64 3 w3.heap.size W v pre.length (fstI pre) ∧ True) ∧ (Below w.heap.size w W ∧ w3.heap.size ≤ W.heap.size))
        (fun _ _ _ => False)
        (OwnFrom.and (Own.from (holdsRow_own w3.heap.size (w.heap.size + 1) 36 3 1 (fun pre : List (Nat × Int) => pre.length) (fun pre => (fstI pre).map (Value.int .i64)) (fun _ _ => True)) _) (OwnFrom.and (ownFrom_below (Nat.le_refl _) hB3.size) (fun _ _ _ _ hs hg _ => Nat.le_trans hs hg.size)))
        (fun _ _ _ _ _ hs _ _ => hs)
        ⟨⟨_, bO3, World.ownsRow_nil _ _ _ _, trivial⟩, hB3, Nat.le_refl _⟩
        (fun x => { tmps := #[.agg #[.int .i64 clear, .int .i64 climb, .int .i64 height, .int .i64 rise, .int .i64 run, .int .i64 cw, .int .i64 cd], .slice a n c, .pointer (some ⟨w.heap.size, 0, none⟩), undef, .pointer (some ⟨w.heap.size + 1, 0, none⟩), .int .i64 0, .int .i64 (x.1 : Int), .bool false, .agg #[.int .i64 clear, .int .i64 climb, .int .i64 height, .int .i64 rise, .int .i64 run, .int .i64 cw, .int .i64 cd], .int .i64 0, .bool false, .bool false, .slice a n c, .int .i64 0, .bool false, .agg #[.int .i64 clear, .int .i64 climb, .int .i64 height, .int .i64 rise, .int .i64 run, .int .i64 cw, .int .i64 cd], .slice a n c, .func (.func 104) #[] #[.pointer (some ⟨w2.heap.size + 1, 0, none⟩), .pointer (some ⟨w2.heap.size + 2, 0, none⟩)], .int .i64 (x.1 : Int), .int .i64 x.2, undef, undef, undef, undef, undef], defers := [] }) ?assign ?body ?done ?stop
      case assign =>
        intro l x W K hK
        gi_wp2
        exact hK
      case body =>
        rintro l pre x W ⟨⟨v, hv, hrow, _⟩, hB, hsW⟩ hlt
        have hc := hv.cell
        have hrow : W.ownsRow w3.heap.size 3 1 v pre.length ((fstI pre).map (Value.int .i64)) := hrow
        gi_wp2_with (gi_at_builtin; refine wpListIn_append_own _ rfl _ _ 36 rfl w3.heap.size 3 i0 (.int .i64 0) 1 8 Try.underlying36 hi hz0 hz1 hz2 rfl (by decide) _ _ _ rfl (hrow.alloc _) ⟨W.heap.size, 0, none⟩ 1 1 [.int .i64 (x.1 : Int)] rfl rfl (cell_one_new _ _ _) (by simp [Value.oneCell']) (by unfold maxLen; omega) (by omega) (by simp; omega) ?_; intro v' w1 hown' hgrow _; obtain ⟨g', cap', rfl⟩ := ownsRow_succ hown'; obtain ⟨hv1, hv2, hr2, hk2, hkk, hb2⟩ := boxed_appendedK (S := fun k => k = w.heap.size + 1) hv (by decide) hrow hsW hB3.size (Nat.le_succ _) rfl hown' hgrow; have hc1 := hv1.cell; have hf1 := hv1.frozen)
        exact ⟨hk2.from _, hkk, ⟨_, hv2, by simpa [OwnI, fstI] using hr2, trivial⟩, hB.trans hb2, Nat.le_trans hsW hb2.size⟩
      case done =>
        rintro D ys W hD rfl ⟨⟨v, hv, hrow, _⟩, hB, hsW⟩ hK
        have hlen := hrow.length
        obtain ⟨ad, cp, rfl, _⟩ := hrow.reads
        have hc := hv.cell
        have hf := hv.frozen
        gi_wp2
        have hK' := (KeepsOthers.setCell W ⟨w.heap.size + 1, 0, none⟩ (.slice ad (eachL ⟨clear, climb, height, rise, run, cw, cd⟩ xs).length cp)).same D _ hK rfl
        refine ⟨by simp, .inl ⟨_, _, rfl, run_takeDeferred hK', ?_⟩⟩
        have hv2 := hv.set (.slice ad (eachL ⟨clear, climb, height, rise, run, cw, cd⟩ xs).length cp)
        have hc5 := cell_kept hv2.cell (grownBy_putObj' _ D (.deferred none)) (fun r e => by cases e; exact ⟨_, hK', rfl⟩)
        have hks : openKs ⟨clear, climb, height, rise, run, cw, cd⟩ xs = fstI (eachL ⟨clear, climb, height, rise, run, cw, cd⟩ xs) := openKs_ok HC2.out HS2.out
        have hr2 : OwnI .i64 3 w.heap.size (W.setCell ⟨w.heap.size + 1, 0, none⟩ (.slice ad (eachL ⟨clear, climb, height, rise, run, cw, cd⟩ xs).length cp)) (.slice ad (eachL ⟨clear, climb, height, rise, run, cw, cd⟩ xs).length cp) (eachL ⟨clear, climb, height, rise, run, cw, cd⟩ xs).length (fstI (eachL ⟨clear, climb, height, rise, run, cw, cd⟩ xs)) :=
          (OwnI.kept hrow (grownBy_setCell' W (w.heap.size + 1) _) (.inr (hv.not_row (by decide) hrow).symm)).mono hB3.size
        refine ⟨.tuple #[.slice ad (eachL ⟨clear, climb, height, rise, run, cw, cd⟩ xs).length cp, .int .i64 0], ?_, ⟨_, ret_tup2 rfl ?_, ?_, ?_⟩⟩
        · simp [results, Try.f26, go_sem, hc5]
        · simp [openE, HC2.out, HS2.out]
        · rw [hks, hlen]
          exact ownsRow_putObj hr2 _ hK' rfl
        · exact (hB.setCell (p := ⟨w.heap.size + 1, 0, none⟩) (by simp) _).trans (belowK_b (w := w3) hB3.size _ D _ _ hD hK' rfl rfl)
      case stop =>
        rintro D c pre W _ _ h _
        exact h.elim
    · have HS1 := Lib.hid h1
      have HS2 := Lib.hid h2
      clear h1 h2
      refine callsIn_of_wp_marks Try.func26 rfl trivial ?_ rfl
      simp only [Try.ntmps26, List.size_toArray, List.length_cons, List.length_nil, Nat.reduceAdd, Nat.reduceSub, Array.replicate_succ, Array.replicate_zero, List.push_toArray, List.append_toArray, List.nil_append, List.cons_append]
      gi_wp2_with fail
      refine ⟨trivial, ?_⟩
      gi_at_call 65
      refine (callsIn_wide.2 (cfgcheck_any ⟨clear, climb, height, rise, run, cw, cd⟩ _)).mono ?_
      rw [HC1.out]
      rintro e w1 ⟨rfl, hb1⟩
      have hB1 : Below w.heap.size w w1 := (((Below.refl _ _).alloc (Nat.le_refl _) _).alloc (by simp) _).trans (hb1.mono (by simp; omega))
      have bO : Boxed w1 (w.heap.size + 1) 36 (.slice none 0 0) := (hb1.block (w.heap.size + 1) (by simp)).trans (by have := Boxed.new (w.alloc (.cells #[.int .i64 clear, .int .i64 climb, .int .i64 height, .int .i64 rise, .int .i64 run, .int .i64 cw, .int .i64 cd] 32)) 36 (.slice none 0 0); simpa [Boxed] using this)
      have hs1 : w.heap.size + 2 ≤ w1.heap.size := by have := hb1.size; simp at this; omega
      clear hb1
      gi_wp2_with fail
      refine ⟨trivial, ?_⟩
      gi_at_call 59
      refine (callsIn_wide.2 (spancheck_any a n c xs _ (Hx.out.below hB1 (Nat.le_refl _)))).mono ?_
      rw [HS1.out]
      rintro e w2 ⟨rfl, hb2⟩
      have hB2 : Below w.heap.size w w2 := hB1.trans (hb2.mono hB1.size)
      have bO2 : Boxed w2 (w.heap.size + 1) 36 (.slice none 0 0) := (hb2.block _ (by omega)).trans bO
      have hc := bO2.cell
      have hf := bO2.frozen
      gi_wp2
      have hc5 := (bO2.set (.slice none 0 0)).cell
      refine ⟨.tuple #[.slice none 0 0, .int .i64 2], ?_, ⟨_, ret_tup2 rfl ?_, ?_, ?_⟩⟩
      · simp [results, Try.f26, go_sem, hc5]
      · simp [openE, HC2.out, HS2.out]
      · simp only [openKs, HC2.out, HS2.out]
        exact OwnI.nil _ _ _ _
      · exact hB2.setCell (p := ⟨w.heap.size + 1, 0, none⟩) (by simp) _
  · have HC1 := Lib.hid h1
    have HC2 := Lib.hid h2
    clear h1 h2 hsp
    refine callsIn_of_wp_marks Try.func26 rfl trivial ?_ rfl
    simp only [Try.ntmps26, List.size_toArray, List.length_cons, List.length_nil, Nat.reduceAdd, Nat.reduceSub, Array.replicate_succ, Array.replicate_zero, List.push_toArray, List.append_toArray, List.nil_append, List.cons_append]
    gi_wp2_with fail
    refine ⟨trivial, ?_⟩
    gi_at_call 65
    refine (callsIn_wide.2 (cfgcheck_any ⟨clear, climb, height, rise, run, cw, cd⟩ _)).mono ?_
    rw [HC1.out]
    rintro e w1 ⟨rfl, hb1⟩
    have hB1 : Below w.heap.size w w1 := (((Below.refl _ _).alloc (Nat.le_refl _) _).alloc (by simp) _).trans (hb1.mono (by simp; omega))
    have bO : Boxed w1 (w.heap.size + 1) 36 (.slice none 0 0) := (hb1.block (w.heap.size + 1) (by simp)).trans (by have := Boxed.new (w.alloc (.cells #[.int .i64 clear, .int .i64 climb, .int .i64 height, .int .i64 rise, .int .i64 run, .int .i64 cw, .int .i64 cd] 32)) 36 (.slice none 0 0); simpa [Boxed] using this)
    have hc := bO.cell
    have hf := bO.frozen
    gi_wp2
    have hc5 := (bO.set (.slice none 0 0)).cell
    refine ⟨.tuple #[.slice none 0 0, .int .i64 20], ?_, ⟨_, ret_tup2 rfl ?_, ?_, ?_⟩⟩
    · simp [results, Try.f26, go_sem, hc5]
    · simp [openE, HC2.out]
    · simp only [openKs, HC2.out]
      exact OwnI.nil _ _ _ _
    · exact hB1.setCell (p := ⟨w.heap.size + 1, 0, none⟩) (by simp) _

end Go.Proofs.Ytilhmlapbifbbaa
