/- Views of memory: rows of doors of one's own; an element of one's own row turned. -/
import Derived.Test.YtmgkkmcihplojaaGreatKa
import Derived.Test.YtmgkkmcihplojaaGreatGp
namespace Go.Proofs.YtmgkkmcihplojaaGreat
open Go.RowKit

def drC (d : Dr) : List Value := [.int .i64 d.a, .int .i64 d.b, .int .i64 d.x0, .int .i64 d.z0, .int .i64 d.x1, .int .i64 d.z1]
theorem drC_len (d : Dr) : (drC d).length = 6 := rfl
theorem drC_one (d : Dr) : ∀ u ∈ drC d, u.oneCell' = true := by
  intro u hu
  simp only [drC, List.mem_cons, List.not_mem_nil, or_false] at hu
  rcases hu with rfl | rfl | rfl | rfl | rfl | rfl <;> rfl
theorem info_dr : (Tryz.prog.info? 110).map (fun i => (i.zero, i.size, i.bytes)) = some (some (.agg #[.int .i64 0, .int .i64 0, .int .i64 0, .int .i64 0, .int .i64 0, .int .i64 0]), 6, 48) := by kernel_rfl
section
variable {α : Type} {f : α → List Value} {sz : Nat} {e : TypeId} {B : Nat} {w : World} {n : Nat} {xs : List α}
theorem flatMap_len (hf : ∀ x, (f x).length = sz) (xs : List α) : (xs.flatMap f).length = xs.length * sz := by
  induction xs with
  | nil => simp
  | cons x xs ih => rw [List.flatMap_cons, List.length_append, hf, ih, List.length_cons, Nat.succ_mul]; omega
theorem flatMap_set (hf : ∀ x, (f x).length = sz) {j : Nat} {u : Value} {y x : α} (hy : f y = (f x).set j u) (hj : j < sz) : ∀ (xs : List α) (i : Nat), xs[i]? = some x → (xs.set i y).flatMap f = (xs.flatMap f).set (i * sz + j) u := by
  intro xs
  induction xs with
  | nil => intro i hi; cases hi
  | cons z xs ih =>
    intro i hi
    cases i with
    | zero =>
      simp at hi
      subst hi
      rw [List.set_cons_zero, List.flatMap_cons, List.flatMap_cons, hy, Nat.zero_mul, Nat.zero_add, List.set_append_left _ _ (by rw [hf]; exact hj)]
    | succ i =>
      rw [List.set_cons_succ, List.flatMap_cons, List.flatMap_cons, ih i (by simpa using hi), List.set_append_right _ _ (by rw [hf, Nat.succ_mul]; omega), hf]
      congr 2
      rw [Nat.succ_mul]; omega
theorem OwnR.frozen {g c : Nat} (h : OwnR f sz e B w (.slice (some ⟨g, 0, none⟩) n c) n xs) (k : Nat) : w.frozen? ⟨g, k, none⟩ = false := by
  rcases h.2.2 with ⟨h0, _⟩ | ⟨g', cap, cur, hv, _, hg, _⟩
  · cases h0
  · cases hv
    simp [World.frozen?, hg]
theorem OwnR.cellAt (hf : ∀ x, (f x).length = sz) {g c : Nat} (h : OwnR f sz e B w (.slice (some ⟨g, 0, none⟩) n c) n xs) {i j : Nat} {x : α} {u : Value} (hx : xs[i]? = some x) (hu : (f x)[j]? = some u) : w.cell? ⟨g, i * sz + j, none⟩ = some u := by
  have hc := h.2.cells (g := g) rfl (i * sz + j) u (flatMap_at hf xs i x j u hx hu)
  have hadd : (⟨g, 0, none⟩ : Addr).add (i * sz + j) = ⟨g, i * sz + j, none⟩ := by rw [Addr.add_lit]; congr 1; omega
  rw [hadd] at hc
  exact hc
theorem OwnR.setAt (hf : ∀ x, (f x).length = sz) {g c : Nat} (h : OwnR f sz e B w (.slice (some ⟨g, 0, none⟩) n c) n xs) {i j : Nat} {x y : α} {u : Value} (hx : xs[i]? = some x) (hj : j < sz) (hy : f y = (f x).set j u) :
    OwnR f sz e B (w.setCell ⟨g, i * sz + j, none⟩ u) (.slice (some ⟨g, 0, none⟩) n c) n (xs.set i y) := by
  have hi := (List.getElem?_eq_some_iff.1 hx).1
  have hn := h.1
  refine ⟨by rw [List.length_set]; exact hn, ?_, ?_⟩
  · rw [flatMap_len hf, List.length_set, hn]
  · rcases h.2.2 with ⟨h0, _⟩ | ⟨g', cap, cur, hv, hB, hg, h1, h2, h3, h4⟩
    · cases h0
    · cases hv
      refine .inr ⟨g, c, cur.setIfInBounds (i * sz + j) u, rfl, hB, heap_setCell_same w g (i * sz + j) _ _ u hg, h1, h2, by simpa using h3, ?_⟩
      rw [flatMap_set hf hy hj xs i hx, ← h4, Array.toList_setIfInBounds, List.take_set]
end
theorem addD_join {l : List Dr} {d e : Dr} (h : l.getLast? = some e) (h1 : e.x1 = d.x0) (h2 : e.z1 = d.z0) : addD l d = (l.set (l.length - 1) ⟨e.a, e.b, e.x0, e.z0, d.x1, e.z1⟩).set (l.length - 1) ⟨e.a, e.b, e.x0, e.z0, d.x1, d.z1⟩ := by
  unfold addD
  rw [h]
  simp only
  rw [if_pos ⟨h1, h2⟩, List.set_set]
  obtain ⟨ys, rfl⟩ := List.getLast?_eq_some_iff.1 h
  rw [List.length_append, List.length_singleton, Nat.add_sub_cancel, List.set_append_right _ _ (Nat.le_refl _), Nat.sub_self, List.dropLast_concat]
  rfl
theorem addD_more {l : List Dr} {d e : Dr} (h : l.getLast? = some e) (h1 : ¬ (e.x1 = d.x0 ∧ e.z1 = d.z0)) : addD l d = l ++ [d] := by
  unfold addD
  rw [h]
  simp only
  rw [if_neg h1]
theorem addD_len (l : List Dr) (d : Dr) : (addD l d).length ≤ l.length + 1 := by
  unfold addD
  split
  · split
    · simp
    · simp
  · simp
theorem foldD_len (m l : List Dr) : (m.foldl addD l).length ≤ l.length + m.length := by
  induction m generalizing l with
  | nil => simp
  | cons d m ih => rw [List.foldl_cons, List.length_cons]; have := ih (addD l d); have := addD_len l d; omega
end Go.Proofs.YtmgkkmcihplojaaGreat

namespace Go.Proofs.YtmgkkmcihplojaaGreat
open Go.RowKit

def DrAt (H : Nat) (D : List Dr) (s : Value) (w : World) : Prop := ∃ a c, s = .slice a D.length c ∧ OwnR drC 6 110 H w s D.length D
theorem DrAt.below {H : Nat} {D : List Dr} {s : Value} {w w' : World} (h : DrAt H D s w) (hB : Below w.heap.size w w') : DrAt H D s w' := by
  obtain ⟨a, c, e, h⟩ := h
  exact ⟨a, c, e, h.below hB (Nat.le_refl _)⟩
theorem DrAt.mk {H H' : Nat} {D : List Dr} {s : Value} {w : World} (h : OwnR drC 6 110 H w s D.length D) (hH : H' ≤ H) : DrAt H' D s w := by
  obtain ⟨a, c, rfl, _⟩ := OwnR.reads drC_len h
  exact ⟨a, c, rfl, h.mono hH⟩
end Go.Proofs.YtmgkkmcihplojaaGreat
