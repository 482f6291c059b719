/- Walks: package raster: a column. -/
import Derived.Test.YtjiklfffcnfdjaaGreatHo
import Derived.Test.YtjiklfffcnfdjaaGreatHl
namespace Go.Proofs.YtjiklfffcnfdjaaGreat
open Go.RowKit Go.Shelf Go.Sort
attribute [local go_sem] Oper.semAt_some Instr.index

def colPost (r : List Spn × Int) (w : World) (e : Ending) (w' : World) : Prop :=
  ∃ v, e = .returned (.tuple #[v, .int .i64 r.2]) ∧ OwnR spnC 3 41 w.heap.size w' v r.1.length r.1 ∧ Below w.heap.size w w'
theorem colIn_yes {cf : Cfg} {xs : List Tr} {x z : Int} (hin : inCol cf x z = true) (hm : mayAll (piecesT cf.rise cf.run x z xs) = true) : colIn cf xs x z = if 8 < (mrgR (piecesT cf.rise cf.run x z xs)).length then ([], 51) else (mrgR (piecesT cf.rise cf.run x z xs), 0) := by
  unfold colIn colT
  rw [if_pos hin, mrgE_of hm]
  simp only [true_and]
theorem info_spn3 : (Tryz.prog.info? 41).map (fun i => (i.zero, i.size, i.bytes)) = some (some (.agg #[.int .i64 0, .int .i64 0, .bool false]), 3, 24) := by kernel_rfl
set_option maxRecDepth 100000 in
set_option maxHeartbeats 4000000 in
theorem column_any (cf : Cfg) (C : Nat) (x z : Int) (a : Option Addr) (n c : Nat) (xs : List Tr) (w : World) (hcf : cfgOk cf = true) (hmay : ∀ t ∈ xs, trMay cf.w cf.d t = true) (hn : n ≤ 200) (hC : w.heap[C]? = some (cfgO cf)) (hx : SlTr w a n c xs) :
    Calls Tryz.prog 29 #[.pointer (some ⟨C, 0, none⟩), .slice a n c, .int .i64 x, .int .i64 z] w (colPost (colIn cf xs x z) w) := by
  have IN := Lib.hid (fun W hW => inside_any cf x z C W hW)
  have hCl := hblt hC
  have Hx := Lib.hid hx; clear hx
  have HC := Lib.hid hC; clear hC
  cases hin : inCol cf x z with
  | false =>
    rw [hin] at IN
    have HR : colIn cf xs x z = ([], 0) := by unfold colIn; rw [hin]; rfl
    rw [HR]
    clear HR
    refine (callsIn_wide (n := 6)).1 ?_
    refine callsIn_of_wp_marks Tryz.func29 rfl trivial ?_ rfl
    simp only [Tryz.ntmps29, List.size_toArray, List.length_cons, List.length_nil, Nat.reduceAdd, Nat.reduceSub, Array.replicate_succ, Array.replicate_zero, List.push_toArray, List.append_toArray, List.nil_append, List.cons_append]
    gi_wp2_with fail
    refine ⟨trivial, ?_⟩
    gi_at_call 36
    refine (callsIn_wide.2 (IN.out _ HC.out)).mono ?_
    rintro e w1 ⟨rfl, hb1⟩
    gi_wp2
    refine ⟨.tuple #[.slice none 0 0, .int .i64 0], ?_, ⟨_, rfl, OwnR.nil _ _ _ _ _, hb1⟩⟩
    simp [results, Tryz.f29, go_sem]
  | true =>
    rw [hin] at IN
    have hm := may_pieces (x := x) (z := z) hcf hmay
    have hnl : (piecesT cf.rise cf.run x z xs).length ≤ n := by rw [← Hx.out.len]; exact pieces_len _ _ _ _ _
    have hR := colIn_yes hin hm
    obtain ⟨R, hRR⟩ : ∃ R, R = colIn cf xs x z := ⟨_, rfl⟩
    rw [← hRR] at hR ⊢
    clear hRR
    obtain ⟨M, hM⟩ : ∃ M, M = mrgR (piecesT cf.rise cf.run x z xs) := ⟨_, rfl⟩
    rw [← hM] at hR
    have HR := Lib.hid hR
    have HM := Lib.hid hM
    clear hR
    have HE := Lib.hid (mrgE_of hm)
    clear hM hm hin
    obtain ⟨i0, hi, hz0, hz1, hz2⟩ := info_parts info_spn3
    refine (callsIn_wide (n := 6)).1 ?_
    refine callsIn_of_wp_marks Tryz.func29 rfl trivial ?_ rfl
    simp only [Tryz.ntmps29, List.size_toArray, List.length_cons, List.length_nil, Nat.reduceAdd, Nat.reduceSub, Array.replicate_succ, Array.replicate_zero, List.push_toArray, List.append_toArray, List.nil_append, List.cons_append]
    gi_wp2_with fail
    refine ⟨trivial, ?_⟩
    gi_at_call 36
    refine (callsIn_wide.2 (IN.out _ HC.out)).mono ?_
    rintro e w1 ⟨rfl, hb1⟩
    have hC1 := halloc (hkeep hb1 HC.out) (.cells #[.slice none 0 0] 24)
    have hX1 := (Hx.out.below hb1 (Nat.le_refl _)).alloc (.cells #[.slice none 0 0] 24)
    have bA1 : Boxed (w1.alloc (.cells #[.slice none 0 0] 24)) w1.heap.size 24 (.slice none 0 0) := Boxed.new w1 24 (.slice none 0 0)
    have hB2 := hb1.alloc hb1.size (.cells #[.slice none 0 0] 24)
    have hfar := Hx.out.far
    have hs1 := hb1.size
    clear IN
    gi_wp2_with fail
    obtain ⟨w2, hw2⟩ : ∃ W, W = w1.alloc (.cells #[.slice none 0 0] 24) := ⟨_, rfl⟩
    have hs2 : w2.heap.size = w1.heap.size + 1 := by rw [hw2]; simp
    rw [← hw2] at hC1 hX1 bA1 hB2 ⊢
    clear hw2 hb1
    obtain ⟨pA, hpA⟩ : ∃ p, p = w1.heap.size := ⟨_, rfl⟩
    rw [← hpA] at bA1 hs1 hs2 ⊢
    clear hpA
    refine ⟨trivial, ?_⟩
    gi_at_call 37
    refine (callsIn_wide.2 (pieces_any cf C x z a n c xs w2 hC1 hX1)).mono ?_
    rintro e w3 ⟨rfl, hb3, he3, hs3⟩
    have bA3 : Boxed w3 pA 24 (.slice none 0 0) := (hb3.block _ (by omega)).trans bA1
    have hB3 := hB2.trans (hb3.mono hB2.size)
    have hww := hB3.size
    have ha3 : ∀ ad, a = some ad → n = 0 ∨ (ad.block < w3.heap.size ∧ ¬ ad.block = pA) := by
      intro ad had
      have := hfar ad had
      omega
    rw [hs2] at he3 hs3
    have hL3 : pA + 1 + 3 < w3.heap.size := by omega
    have hL4 : C < w3.heap.size := by omega
    have hL5 : ¬ C = pA := by omega
    have hL6 : w.heap.size ≤ pA := hs1
    simp only [hs2]
    clear hs3 hs2
    clear hb3 hB2 bA1 hC1 hX1 hfar
    gi_wp2
    refine wpIn_rangeFunc_ownH rfl (by decide) (gf := 45) (lb := #[.pointer (some ⟨pA + 1 + 1, 0, none⟩), .pointer (some ⟨pA + 1 + 2, 0, none⟩), .pointer (some ⟨pA + 1 + 3, 0, none⟩), .pointer (some ⟨pA + 1, 0, none⟩)]) rfl trivial (enters_of Tryz.func45 (by kernel_rfl) rfl)
      (pieces_stops 5 (by decide) (pA + 1) C w3.heap.size (fun k => k = pA) cf x z a n c xs w3 hcf hmay he3 (by omega) (by omega) (by omega) (by omega) (by omega) (by omega) (by omega) ha3) keepEx_t (keepEx_b (Nat.le_refl _)) (Below.refl _ _) (fun _ => rfl)
      (fun pre W => (∃ v, Boxed W pA 24 v ∧ W.ownsRow w3.heap.size 41 3 v pre.length (pre.flatMap spnC) ∧ True) ∧ (KeepEx w3.heap.size (fun k => k = pA) w3 W ∧ Below w.heap.size w W))
      (fun _ _ _ => False)
      (OwnFrom.and (Own.from (holdsRow_own w3.heap.size pA 24 41 3 (fun pre : List Spn => pre.length) (fun pre => pre.flatMap spnC) (fun _ _ => True)) _) (OwnFrom.and (ownFrom_keepEx (Nat.le_refl _) (Nat.le_refl _)) (ownFrom_below (Nat.le_refl _) hww)))
      (fun _ _ _ _ _ hs _ _ => hs)
      ⟨⟨_, bA3, World.ownsRow_nil _ _ _ _, trivial⟩, KeepEx.refl _ _ _, hB3⟩
      (fun y a' W => ∃ Bx, w3.heap.size ≤ Bx ∧ W.heap[Bx]? = some (.cells #[.int .i64 y.lo, .int .i64 y.hi, .bool y.walk] 41 (0, 0)) ∧ a' = { tmps := #[.pointer (some ⟨C, 0, none⟩), .slice a n c, .int .i64 x, .int .i64 z, undef, undef, undef, undef, .slice none 0 0, .int .i64 0, .pointer (some ⟨pA, 0, none⟩), .pointer (some ⟨Bx, 0, none⟩), undef, undef, .pointer (some ⟨C, 0, none⟩), .int .i64 x, .int .i64 z, .bool true, .bool false, .pointer (some ⟨C, 0, none⟩), .slice a n c, .int .i64 x, .int .i64 z, .func (.func 45) #[] #[.pointer (some ⟨pA + 1 + 1, 0, none⟩), .pointer (some ⟨pA + 1 + 2, 0, none⟩), .pointer (some ⟨pA + 1 + 3, 0, none⟩), .pointer (some ⟨pA + 1, 0, none⟩)], .agg #[.int .i64 y.lo, .int .i64 y.hi, .bool y.walk], undef, undef, undef, undef, undef, undef, undef, undef, undef, undef, undef, undef, undef, undef, undef, undef, undef, undef], defers := [] })
      (fun y a' _ A B row hs hg hr => by
        obtain ⟨Bx, h1, h2, h3⟩ := hs
        refine ⟨Bx, h1, (hg.block Bx (Array.getElem?_eq_some_iff.1 h2).1 (fun e => ?_)).trans h2, h3⟩
        obtain ⟨_, o, ho, hc⟩ := hr Bx e.symm
        rw [h2] at ho
        cases ho
        cases hc) ?assign ?body ?done ?stop
    case assign =>
      rintro lp pre ⟨ylo, yhi, ywk⟩ W K ⟨⟨v, hv, hrow, _⟩, hke, hB⟩ hK
      gi_wp2
      have hkk := KeepEx.of_below (L := w3.heap.size) (S := fun k => k = pA) ((Below.refl _ _).alloc (Nat.le_refl _) (.cells #[.int .i64 ylo, .int .i64 yhi, .bool ywk] 41)) hke.size
      exact hK _ _ ((KeepsOthers.alloc _ _).from _) hkk ⟨⟨v, hv.alloc _, hrow.alloc _, trivial⟩, hke.trans hkk, hB.alloc hB.size _⟩ ⟨W.heap.size, hke.size, World.alloc_heap_new W _, rfl⟩
    case body =>
      rintro lp pre ⟨ylo, yhi, ywk⟩ a' W hl _ ⟨⟨v, hv, hrow, _⟩, hke, hB⟩ ⟨Bx, hBx, hxx, rfl⟩ hlt
      have x0 := hcell (k := 0) (v := .int .i64 ylo) hxx rfl
      have x1 := hcell (k := 1) (v := .int .i64 yhi) hxx rfl
      have x2 := hcell (k := 2) (v := .bool ywk) hxx rfl
      have hc := hv.cell
      have hsW := hke.size
      gi_wp2_with (gi_at_builtin; refine wpListIn_append_own _ rfl _ _ 24 rfl w3.heap.size 41 i0 (.agg #[.int .i64 0, .int .i64 0, .bool false]) 3 24 Tryz.underlying24 hi hz0 hz1 hz2 rfl (by decide) _ _ _ rfl (hrow.alloc _) ⟨W.heap.size, 0, none⟩ 1 1 [.int .i64 ylo, .int .i64 yhi, .bool ywk] rfl rfl (fun j u hu => by rw [Addr.add_lit, Nat.zero_add, World.cell?_alloc_at _ _ _ _ rfl]; simpa using hu) (by simp [Value.oneCell']) (by unfold maxLen; omega) (by omega) (by simp; omega) ?_; intro v' w1 hown' hgrow _; obtain ⟨g', cap', rfl⟩ := ownsRow_succ hown'; obtain ⟨hv1, hv2, hr2, hk2, hkk, hb2⟩ := boxed_appendedK (S := fun k => k = pA) hv (by decide) hrow hsW hB3.size (by omega) rfl hown' hgrow; have hc1 := hv1.cell; have hf1 := hv1.frozen)
      have e1 : (pre ++ [(⟨ylo, yhi, ywk⟩ : Spn)]).length = pre.length + 1 := by simp
      have e2 : (pre ++ [(⟨ylo, yhi, ywk⟩ : Spn)]).flatMap spnC = pre.flatMap spnC ++ [.int .i64 ylo, .int .i64 yhi, .bool ywk] := by simp [spnC]
      refine ⟨hk2.from _, hkk, ⟨_, hv2, ?_⟩, hke.trans hkk, hB.trans hb2⟩
      rw [e1, e2]
      exact hr2
    case done =>
      rintro D ys W hD rfl ⟨⟨v, hv, hrow, _⟩, hke, hB⟩ hK
      obtain ⟨ad, cp, rfl, hsl⟩ := OwnR.reads (f := spnC) spnC_len ⟨rfl, hrow⟩
      have hc := hv.cell
      have hDW := (Array.getElem?_eq_some_iff.1 hK).1
      gi_wp2_with fail
      refine ⟨trivial, ?_⟩
      gi_at_call 38
      refine (callsIn_wide.2 (merge_any _ _ _ _ _ hsl (by omega))).mono ?_
      rintro e w5 ⟨vm, rfl, hown5, hb5⟩
      rw [HE.out]
      rw [← HM.out] at hown5
      have hB5 := hB.trans (hb5.mono hB.size)
      have hK5 : w5.heap[D]? = some (.deferred (some [])) := (hb5.block D hDW).trans hK
      obtain ⟨am, cm, rfl, rm⟩ := OwnR.reads spnC_len hown5
      have hml := Lib.hid hown5
      clear hc hsl hrow hv rm
      have fin : Below w.heap.size w (w5.putObj D (.deferred none)) := hB5.trans (belowK_b (w := w3) hww _ D _ _ hD hK5 rfl rfl)
      by_cases h8 : 8 < M.length
      · have h8I : (8 : Int) < (M.length : Int) := by omega
        have e8 : R = ([], 51) := by rw [HR.out, if_pos h8]
        subst e8
        clear HR
        gi_wp2
        refine ⟨by simp, .inl ⟨_, _, rfl, run_takeDeferred hK5, ?_⟩⟩
        refine ⟨.tuple #[.slice none 0 0, .int .i64 51], ?_, ⟨_, rfl, OwnR.nil _ _ _ _ _, fin⟩⟩
        simp [results, Tryz.f29, go_sem]
      · have h8I : ¬ (8 : Int) < (M.length : Int) := by omega
        have e8 : R = (M, 0) := by rw [HR.out, if_neg h8]
        subst e8
        clear HR
        gi_wp2
        refine ⟨by simp, .inl ⟨_, _, rfl, run_takeDeferred hK5, ?_⟩⟩
        refine ⟨.tuple #[.slice am M.length cm, .int .i64 0], ?_, ⟨_, rfl, ?_, fin⟩⟩
        · simp [results, Tryz.f29, go_sem]
        · refine (OwnR.kept hml.out (grownBy_putObj' _ D (.deferred none)) (.inr fun e => ?_)).mono hB.size
          have := (hml.out.lt D e).1
          omega
    case stop =>
      rintro D cc pre W hD hpre h _
      exact h.elim
end Go.Proofs.YtjiklfffcnfdjaaGreat

namespace Go.Proofs.YtjiklfffcnfdjaaGreat
open Go.RowKit
attribute [local go_sem] Instr.index

theorem colPost_of {r : List Spn × Int} {w w1 w2 : World} {e : Ending} (h : colPost r w1 e w2) (hb : Below w.heap.size w w1) : colPost r w e w2 := by
  obtain ⟨v, h1, h2, h3⟩ := h
  exact ⟨v, h1, h2.mono hb.size, hb.trans (h3.mono hb.size)⟩
end Go.Proofs.YtjiklfffcnfdjaaGreat
