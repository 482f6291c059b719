/- A frame's slots, by their numbers. -/
import Derived.Test.YtjiklfffcnfdjaaOwnR
namespace Go.Proofs.Ytjiklfffcnfdjaa
open Go.RowKit

def slot (tm : Array Value) (i : Nat) : Value := tm.getD i undef
theorem slots_eq {tm : Array Value} {n : Nat} (h : tm.size = n) : tm = ((List.range n).map (slot tm)).toArray := by
  subst h
  apply Array.ext
  · simp
  · intro i h1 h2
    simp [slot, h1]
end Go.Proofs.Ytjiklfffcnfdjaa
