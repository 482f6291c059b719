/- Views of memory: rows of pairs of places. -/
import Derived.Test.YtilhmlapbifbbaaShA
import Derived.Test.YtilhmlapbifbbaaTelP
namespace Go.Proofs.Ytilhmlapbifbbaa
open Go.RowKit Go.Shelf Go.Sort

def prC (p : Nat × Nat) : List Value := [.int .i64 (p.1 : Int), .int .i64 (p.2 : Int)]
theorem info_pair : (Try.prog.info? 65).map (fun i => (i.zero, i.size, i.bytes)) = some (some (.agg #[.int .i64 0, .int .i64 0]), 2, 16) := by kernel_rfl
/-- The slice value v, of n pairs, is one's own, in a block from B on, and reads as xs. -/
def OwnP (B : Nat) (w : World) (v : Value) (n : Nat) (xs : List (Nat × Nat)) : Prop := xs.length = n ∧ w.ownsRow B 65 2 v n (xs.flatMap prC)
section
variable {B : Nat} {w : World} {v : Value} {n : Nat} {xs : List (Nat × Nat)}
theorem OwnP.nil (B : Nat) (w : World) : OwnP B w (.slice none 0 0) 0 [] := ⟨rfl, World.ownsRow_nil _ _ _ _⟩
theorem prC_at : ∀ (l : List (Nat × Nat)) (i : Nat) (x : Nat × Nat) (j : Nat) (u : Value), l[i]? = some x → (prC x)[j]? = some u → (l.flatMap prC)[i * 2 + j]? = some u := by
  intro l
  induction l with
  | nil => intro i x j u hi; cases hi
  | cons y l ih =>
    intro i x j u hi hu
    have hj : j < 2 := by have := (List.getElem?_eq_some_iff.1 hu).1; simpa [prC] using this
    cases i with
    | zero =>
      simp at hi
      subst hi
      rw [List.flatMap_cons, List.getElem?_append_left (by simp [prC]; omega)]
      simpa using hu
    | succ i =>
      rw [List.flatMap_cons, List.getElem?_append_right (by simp [prC]; omega)]
      have := ih i x j u (by simpa using hi) hu
      rw [← this]
      congr 1
      simp [prC]
      omega
theorem OwnP.reads (h : OwnP B w v n xs) : ∃ a c, v = .slice a n c ∧ SlR prC 2 w a n c xs := by
  rcases h.2.2 with ⟨rfl, hx⟩ | ⟨g, cap, cur, rfl, _, hg, h1, h2, h3, h4⟩
  · have hl := h.1
    rw [hx] at hl ⊢
    obtain rfl := List.eq_nil_of_length_eq_zero hl
    exact ⟨none, 0, rfl, SlR.nil _ _ _⟩
  · refine ⟨_, _, rfl, h.1, h1, by simpa [maxLen] using h2, .inr ⟨g, 0, rfl, (Array.getElem?_eq_some_iff.1 hg).1, fun i x hx j u hu => ?_⟩⟩
    have hcell := h.2.cells (g := g) rfl (i * 2 + j) u (prC_at xs i x j u hx hu)
    have hadd : (⟨g, 0, none⟩ : Addr).add (i * 2 + j) = ⟨g, 0 + i * 2 + j, none⟩ := by rw [Addr.add_lit]; congr 1; omega
    rw [hadd] at hcell
    exact hcell
theorem OwnP.kept {w' : World} {row : Option Nat} (h : OwnP B w v n xs) (hg : w.grownBy w' row) (hne : v.ownBlock = none ∨ v.ownBlock ≠ row) : OwnP B w' v n xs := ⟨h.1, h.2.kept hg hne⟩
theorem OwnP.below {w' : World} (h : OwnP B w v n xs) {B2 : Nat} (hb : Below B2 w w') (hB : w.heap.size ≤ B2) : OwnP B w' v n xs :=
  h.kept (row := none) ⟨hb.os, hb.tape, hb.output, hb.size, fun k hk _ => hb.block k (by omega)⟩ (by cases v.ownBlock <;> simp)
theorem OwnP.push {w' : World} {v' : Value} {p : Nat × Nat} (h : OwnP B w v n xs) (ho : w'.ownsRow B 65 2 v' (n + 1) (xs.flatMap prC ++ [.int .i64 (p.1 : Int), .int .i64 (p.2 : Int)])) : OwnP B w' v' (n + 1) (xs ++ [p]) := by
  refine ⟨by simp [h.1], ?_⟩
  rw [List.flatMap_append]
  exact ho
end

end Go.Proofs.Ytilhmlapbifbbaa
