/- Views of memory: a row of doors of one's own, where it lies left open. -/
import Derived.Test.YtjiklfffcnfdjaaDrM
namespace Go.Proofs.Ytjiklfffcnfdjaa
open Go.RowKit

def DrAt (H : Nat) (D : List Dr) (s : Value) (w : World) : Prop := ∃ a c, s = .slice a D.length c ∧ OwnR drC 6 35 H w s D.length D
theorem DrAt.below {H : Nat} {D : List Dr} {s : Value} {w w' : World} (h : DrAt H D s w) (hB : Below w.heap.size w w') : DrAt H D s w' := by
  obtain ⟨a, c, e, h⟩ := h
  exact ⟨a, c, e, h.below hB (Nat.le_refl _)⟩
theorem DrAt.mk {H H' : Nat} {D : List Dr} {s : Value} {w : World} (h : OwnR drC 6 35 H w s D.length D) (hH : H' ≤ H) : DrAt H' D s w := by
  obtain ⟨a, c, rfl, _⟩ := OwnR.reads drC_len h
  exact ⟨a, c, rfl, h.mono hH⟩
end Go.Proofs.Ytjiklfffcnfdjaa
