/-
  No cell of these rows narrows 'for every input' (looked for: loops, veiled, ifaces, maps, wideKeys, modest, calm, conditions, laid).
  DERIVED. THE GIVEN ROWS OF THIS SEAT. 10 by the template 'for every input the law returns true; each argument reads behind the call as it read before'; 0 by the template 'total and deterministic' (their statements: YtndjljefppbmcaaTotals.lean).
  GIVEN WITH THE SEED: the statements are not yours to turn. If you find one false, say at which input.
  Laid BY PROGRAM, IN A SANDBOX (cutbox-rows.mjs): the forced cells as the released guide's own fill.sh prints them over the translation 3423dcfc49898ecb… (all of the seat's roots in one cut). By AI agents, Wed Nov 11 2026. No macro, syntax, notation, axiom, sorry.
-/
import Derived.Test.YtndjljefppbmcaaChecked
import GoSem.Claim
import GoSem.ClaimJoined
import GoSem.ClaimMapViews
import Derived.JoinedTies
import Derived.KernelRfl
namespace Go.Proofs.Ytndjljefppbmcaa
/- THE CELL 'sum', in the pinned program and in every row, IS THE sha256 OF THE DUMP (.gsa) THAT YtndjljefppbmcaaProg.lean LOADS. Nothing in Lean hashes anything: it is a label: what it is worth is what the hold of that sum in a sandbox is worth. -/
noncomputable def Try.pinned : Pinned := { name := "ytndjljefppbmcaa", sum := "3423dcfc49898ecb838b7cf8dd4bb659e345efe3ccd3b77174b736ed915c646d", checked := Try.checked }
namespace Rows
def none {H : Type} : Left H := { results := [], args := [] }

/-- 'footpathlaw08.SpansTop': WHATEVER THE INPUT: true; the input reads as it did. -/
def spansTopSpec : ChangeSpec := { name := "spansTop", fn := fun _ => fun
  | [d] => { results := [.lit (.bool true)], args := [d] }
  | _ => none }
def spansTopRow : OpenClaim := { program := "ytndjljefppbmcaa", sum := "3423dcfc49898ecb838b7cf8dd4bb659e345efe3ccd3b77174b736ed915c646d", func := "footpath/footpathlaw08.SpansTop", spec := "spansTop", unfollowed := true, recurses := true, apart := false }
def SpansTopSaid : Prop := spansTopRow.holds Try.pinned (OpenSpec.ofChange spansTopSpec)

/-- ITS FALSE NEIGHBOUR: 'it returns false'. Refute it at one input. -/
def spansTopWrong : ChangeSpec := { name := "spansTop", fn := fun _ => fun
  | [d] => { results := [.lit (.bool false)], args := [d] }
  | _ => none }
def SpansTopWrongFalsely : Prop := spansTopRow.holds Try.pinned (OpenSpec.ofChange spansTopWrong)

/-- 'footpathlaw08.SpansMerge': WHATEVER THE INPUT: true; the input reads as it did. -/
def spansMergeSpec : ChangeSpec := { name := "spansMerge", fn := fun _ => fun
  | [d] => { results := [.lit (.bool true)], args := [d] }
  | _ => none }
def spansMergeRow : OpenClaim := { program := "ytndjljefppbmcaa", sum := "3423dcfc49898ecb838b7cf8dd4bb659e345efe3ccd3b77174b736ed915c646d", func := "footpath/footpathlaw08.SpansMerge", spec := "spansMerge", unfollowed := true, recurses := true, apart := false }
def SpansMergeSaid : Prop := spansMergeRow.holds Try.pinned (OpenSpec.ofChange spansMergeSpec)

/-- ITS FALSE NEIGHBOUR: 'it returns false'. Refute it at one input. -/
def spansMergeWrong : ChangeSpec := { name := "spansMerge", fn := fun _ => fun
  | [d] => { results := [.lit (.bool false)], args := [d] }
  | _ => none }
def SpansMergeWrongFalsely : Prop := spansMergeRow.holds Try.pinned (OpenSpec.ofChange spansMergeWrong)

/-- 'footpathlaw08.SpansAny': WHATEVER THE INPUT: true; the input reads as it did. -/
def spansAnySpec : ChangeSpec := { name := "spansAny", fn := fun _ => fun
  | [d1, d2, d3, d4] => { results := [.lit (.bool true)], args := [d1, d2, d3, d4] }
  | _ => none }
def spansAnyRow : OpenClaim := { program := "ytndjljefppbmcaa", sum := "3423dcfc49898ecb838b7cf8dd4bb659e345efe3ccd3b77174b736ed915c646d", func := "footpath/footpathlaw08.SpansAny", spec := "spansAny", unfollowed := true, recurses := true, apart := false }
def SpansAnySaid : Prop := spansAnyRow.holds Try.pinned (OpenSpec.ofChange spansAnySpec)

/-- ITS FALSE NEIGHBOUR: 'it returns false'. Refute it at one input. -/
def spansAnyWrong : ChangeSpec := { name := "spansAny", fn := fun _ => fun
  | [d1, d2, d3, d4] => { results := [.lit (.bool false)], args := [d1, d2, d3, d4] }
  | _ => none }
def SpansAnyWrongFalsely : Prop := spansAnyRow.holds Try.pinned (OpenSpec.ofChange spansAnyWrong)

/-- 'footpathlaw03.CellsHold': WHATEVER THE INPUT: true; the input reads as it did. -/
def cellsHoldSpec : ChangeSpec := { name := "cellsHold", fn := fun _ => fun
  | [d1, d2, d3, d4] => { results := [.lit (.bool true)], args := [d1, d2, d3, d4] }
  | _ => none }
def cellsHoldRow : OpenClaim := { program := "ytndjljefppbmcaa", sum := "3423dcfc49898ecb838b7cf8dd4bb659e345efe3ccd3b77174b736ed915c646d", func := "footpath/footpathlaw03.CellsHold", spec := "cellsHold", unfollowed := true, recurses := true, apart := false }
def CellsHoldSaid : Prop := cellsHoldRow.holds Try.pinned (OpenSpec.ofChange cellsHoldSpec)

/-- ITS FALSE NEIGHBOUR: 'it returns false'. Refute it at one input. -/
def cellsHoldWrong : ChangeSpec := { name := "cellsHold", fn := fun _ => fun
  | [d1, d2, d3, d4] => { results := [.lit (.bool false)], args := [d1, d2, d3, d4] }
  | _ => none }
def CellsHoldWrongFalsely : Prop := cellsHoldRow.holds Try.pinned (OpenSpec.ofChange cellsHoldWrong)

/-- 'footpathlaw03.CellsTurned': WHATEVER THE INPUT: true; the input reads as it did. -/
def cellsTurnedSpec : ChangeSpec := { name := "cellsTurned", fn := fun _ => fun
  | [d1, d2] => { results := [.lit (.bool true)], args := [d1, d2] }
  | _ => none }
def cellsTurnedRow : OpenClaim := { program := "ytndjljefppbmcaa", sum := "3423dcfc49898ecb838b7cf8dd4bb659e345efe3ccd3b77174b736ed915c646d", func := "footpath/footpathlaw03.CellsTurned", spec := "cellsTurned", unfollowed := true, recurses := true, apart := false }
def CellsTurnedSaid : Prop := cellsTurnedRow.holds Try.pinned (OpenSpec.ofChange cellsTurnedSpec)

/-- ITS FALSE NEIGHBOUR: 'it returns false'. Refute it at one input. -/
def cellsTurnedWrong : ChangeSpec := { name := "cellsTurned", fn := fun _ => fun
  | [d1, d2] => { results := [.lit (.bool false)], args := [d1, d2] }
  | _ => none }
def CellsTurnedWrongFalsely : Prop := cellsTurnedRow.holds Try.pinned (OpenSpec.ofChange cellsTurnedWrong)

/-- 'footpathlaw03.CellsRise': WHATEVER THE INPUT: true; the input reads as it did. -/
def cellsRiseSpec : ChangeSpec := { name := "cellsRise", fn := fun _ => fun
  | [d1, d2] => { results := [.lit (.bool true)], args := [d1, d2] }
  | _ => none }
def cellsRiseRow : OpenClaim := { program := "ytndjljefppbmcaa", sum := "3423dcfc49898ecb838b7cf8dd4bb659e345efe3ccd3b77174b736ed915c646d", func := "footpath/footpathlaw03.CellsRise", spec := "cellsRise", unfollowed := true, recurses := true, apart := false }
def CellsRiseSaid : Prop := cellsRiseRow.holds Try.pinned (OpenSpec.ofChange cellsRiseSpec)

/-- ITS FALSE NEIGHBOUR: 'it returns false'. Refute it at one input. -/
def cellsRiseWrong : ChangeSpec := { name := "cellsRise", fn := fun _ => fun
  | [d1, d2] => { results := [.lit (.bool false)], args := [d1, d2] }
  | _ => none }
def CellsRiseWrongFalsely : Prop := cellsRiseRow.holds Try.pinned (OpenSpec.ofChange cellsRiseWrong)

/-- 'footpathlaw18.DoorsSwap': WHATEVER THE INPUT: true; the input reads as it did. -/
def doorsSwapSpec : ChangeSpec := { name := "doorsSwap", fn := fun _ => fun
  | [d1, d2, d3, d4, d5] => { results := [.lit (.bool true)], args := [d1, d2, d3, d4, d5] }
  | _ => none }
def doorsSwapRow : OpenClaim := { program := "ytndjljefppbmcaa", sum := "3423dcfc49898ecb838b7cf8dd4bb659e345efe3ccd3b77174b736ed915c646d", func := "footpath/footpathlaw18.DoorsSwap", spec := "doorsSwap", unfollowed := true, recurses := true, apart := false }
def DoorsSwapSaid : Prop := doorsSwapRow.holds Try.pinned (OpenSpec.ofChange doorsSwapSpec)

/-- ITS FALSE NEIGHBOUR: 'it returns false'. Refute it at one input. -/
def doorsSwapWrong : ChangeSpec := { name := "doorsSwap", fn := fun _ => fun
  | [d1, d2, d3, d4, d5] => { results := [.lit (.bool false)], args := [d1, d2, d3, d4, d5] }
  | _ => none }
def DoorsSwapWrongFalsely : Prop := doorsSwapRow.holds Try.pinned (OpenSpec.ofChange doorsSwapWrong)

/-- 'footpathlaw07.ClipFlat': WHATEVER THE INPUT: true; the input reads as it did. -/
def clipFlatSpec : ChangeSpec := { name := "clipFlat", fn := fun _ => fun
  | [d1, d2, d3, d4] => { results := [.lit (.bool true)], args := [d1, d2, d3, d4] }
  | _ => none }
def clipFlatRow : OpenClaim := { program := "ytndjljefppbmcaa", sum := "3423dcfc49898ecb838b7cf8dd4bb659e345efe3ccd3b77174b736ed915c646d", func := "footpath/footpathlaw07.ClipFlat", spec := "clipFlat", unfollowed := true, recurses := true, apart := false }
def ClipFlatSaid : Prop := clipFlatRow.holds Try.pinned (OpenSpec.ofChange clipFlatSpec)

/-- ITS FALSE NEIGHBOUR: 'it returns false'. Refute it at one input. -/
def clipFlatWrong : ChangeSpec := { name := "clipFlat", fn := fun _ => fun
  | [d1, d2, d3, d4] => { results := [.lit (.bool false)], args := [d1, d2, d3, d4] }
  | _ => none }
def ClipFlatWrongFalsely : Prop := clipFlatRow.holds Try.pinned (OpenSpec.ofChange clipFlatWrong)

/-- 'footpathlaw07.ClipTells': WHATEVER THE INPUT: true; the input reads as it did. -/
def clipTellsSpec : ChangeSpec := { name := "clipTells", fn := fun _ => fun
  | [d1, d2, d3] => { results := [.lit (.bool true)], args := [d1, d2, d3] }
  | _ => none }
def clipTellsRow : OpenClaim := { program := "ytndjljefppbmcaa", sum := "3423dcfc49898ecb838b7cf8dd4bb659e345efe3ccd3b77174b736ed915c646d", func := "footpath/footpathlaw07.ClipTells", spec := "clipTells", unfollowed := true, recurses := true, apart := false }
def ClipTellsSaid : Prop := clipTellsRow.holds Try.pinned (OpenSpec.ofChange clipTellsSpec)

/-- ITS FALSE NEIGHBOUR: 'it returns false'. Refute it at one input. -/
def clipTellsWrong : ChangeSpec := { name := "clipTells", fn := fun _ => fun
  | [d1, d2, d3] => { results := [.lit (.bool false)], args := [d1, d2, d3] }
  | _ => none }
def ClipTellsWrongFalsely : Prop := clipTellsRow.holds Try.pinned (OpenSpec.ofChange clipTellsWrong)

/-- 'footpathlaw07.ClipBetween': WHATEVER THE INPUT: true; the input reads as it did. -/
def clipBetweenSpec : ChangeSpec := { name := "clipBetween", fn := fun _ => fun
  | [d1, d2, d3] => { results := [.lit (.bool true)], args := [d1, d2, d3] }
  | _ => none }
def clipBetweenRow : OpenClaim := { program := "ytndjljefppbmcaa", sum := "3423dcfc49898ecb838b7cf8dd4bb659e345efe3ccd3b77174b736ed915c646d", func := "footpath/footpathlaw07.ClipBetween", spec := "clipBetween", unfollowed := true, recurses := true, apart := false }
def ClipBetweenSaid : Prop := clipBetweenRow.holds Try.pinned (OpenSpec.ofChange clipBetweenSpec)

/-- ITS FALSE NEIGHBOUR: 'it returns false'. Refute it at one input. -/
def clipBetweenWrong : ChangeSpec := { name := "clipBetween", fn := fun _ => fun
  | [d1, d2, d3] => { results := [.lit (.bool false)], args := [d1, d2, d3] }
  | _ => none }
def ClipBetweenWrongFalsely : Prop := clipBetweenRow.holds Try.pinned (OpenSpec.ofChange clipBetweenWrong)

/- THE SECOND FORM. 'bulk': how many values and letters a reading holds, each counted each time it is reached (what is shared counts as often as it is met; a slice's spare places count too). A statement '..UptoSaid' is the law's where the arguments, and the package variables that the reading takes, are together of bulk at most 1048576: NARROWER than '..Said'. Prove '..Said' where nothing that the law and all that it calls make is longer than what came in: it says more and counts as full. Else prove '..UptoSaid'. A law counts once. -/
mutual
def uptoBulk {H : Type} : DataW H → Nat
  | .lit (.string bytes) => bytes.length + 1
  | .lit _ => 1
  | .nil => 1
  | .ptr d => uptoBulk d + 1
  | .slice elems spare => uptoBulkAll elems + uptoBulkAll spare + 1
  | .agg parts => uptoBulkAll parts + 1
  | .iface _ d => uptoBulk d + 1
  | .map entries => uptoBulkEntries entries + 1
  | .held _ => 1
def uptoBulkAll {H : Type} : List (DataW H) → Nat
  | [] => 0
  | d :: r => uptoBulk d + uptoBulkAll r
def uptoBulkEntries {H : Type} : List (Lit × DataW H) → Nat
  | [] => 0
  | x :: r => uptoBulkEntry x + uptoBulkEntries r
def uptoBulkEntry {H : Type} : Lit × DataW H → Nat
  | (.string bytes, d) => bytes.length + uptoBulk d + 1
  | (_, d) => uptoBulk d + 1
 end
def uptoSmall : (H : Type) → List (DataW H) → Bool := fun _ ds => decide (uptoBulkAll ds ≤ 1048576)
def OpenSpec.upto (s : _root_.Go.ChangeSpec) : _root_.Go.OpenSpec := { _root_.Go.OpenSpec.ofChange s with cond := some uptoSmall }

/-- 'footpathlaw08.SpansTop', WHERE WHAT IT READS IS OF BULK AT MOST 1048576: true; the input reads as it did. -/
def spansTopUptoRow : OpenClaim := { program := "ytndjljefppbmcaa", sum := "3423dcfc49898ecb838b7cf8dd4bb659e345efe3ccd3b77174b736ed915c646d", func := "footpath/footpathlaw08.SpansTop", spec := "spansTop", unfollowed := true, recurses := true, apart := false, narrowed := true }
def SpansTopUptoSaid : Prop := spansTopUptoRow.holds Try.pinned (OpenSpec.upto spansTopSpec)

/-- 'footpathlaw08.SpansMerge', WHERE WHAT IT READS IS OF BULK AT MOST 1048576: true; the input reads as it did. -/
def spansMergeUptoRow : OpenClaim := { program := "ytndjljefppbmcaa", sum := "3423dcfc49898ecb838b7cf8dd4bb659e345efe3ccd3b77174b736ed915c646d", func := "footpath/footpathlaw08.SpansMerge", spec := "spansMerge", unfollowed := true, recurses := true, apart := false, narrowed := true }
def SpansMergeUptoSaid : Prop := spansMergeUptoRow.holds Try.pinned (OpenSpec.upto spansMergeSpec)

/-- 'footpathlaw08.SpansAny', WHERE WHAT IT READS IS OF BULK AT MOST 1048576: true; the input reads as it did. -/
def spansAnyUptoRow : OpenClaim := { program := "ytndjljefppbmcaa", sum := "3423dcfc49898ecb838b7cf8dd4bb659e345efe3ccd3b77174b736ed915c646d", func := "footpath/footpathlaw08.SpansAny", spec := "spansAny", unfollowed := true, recurses := true, apart := false, narrowed := true }
def SpansAnyUptoSaid : Prop := spansAnyUptoRow.holds Try.pinned (OpenSpec.upto spansAnySpec)

/-- 'footpathlaw03.CellsHold', WHERE WHAT IT READS IS OF BULK AT MOST 1048576: true; the input reads as it did. -/
def cellsHoldUptoRow : OpenClaim := { program := "ytndjljefppbmcaa", sum := "3423dcfc49898ecb838b7cf8dd4bb659e345efe3ccd3b77174b736ed915c646d", func := "footpath/footpathlaw03.CellsHold", spec := "cellsHold", unfollowed := true, recurses := true, apart := false, narrowed := true }
def CellsHoldUptoSaid : Prop := cellsHoldUptoRow.holds Try.pinned (OpenSpec.upto cellsHoldSpec)

/-- 'footpathlaw03.CellsTurned', WHERE WHAT IT READS IS OF BULK AT MOST 1048576: true; the input reads as it did. -/
def cellsTurnedUptoRow : OpenClaim := { program := "ytndjljefppbmcaa", sum := "3423dcfc49898ecb838b7cf8dd4bb659e345efe3ccd3b77174b736ed915c646d", func := "footpath/footpathlaw03.CellsTurned", spec := "cellsTurned", unfollowed := true, recurses := true, apart := false, narrowed := true }
def CellsTurnedUptoSaid : Prop := cellsTurnedUptoRow.holds Try.pinned (OpenSpec.upto cellsTurnedSpec)

/-- 'footpathlaw03.CellsRise', WHERE WHAT IT READS IS OF BULK AT MOST 1048576: true; the input reads as it did. -/
def cellsRiseUptoRow : OpenClaim := { program := "ytndjljefppbmcaa", sum := "3423dcfc49898ecb838b7cf8dd4bb659e345efe3ccd3b77174b736ed915c646d", func := "footpath/footpathlaw03.CellsRise", spec := "cellsRise", unfollowed := true, recurses := true, apart := false, narrowed := true }
def CellsRiseUptoSaid : Prop := cellsRiseUptoRow.holds Try.pinned (OpenSpec.upto cellsRiseSpec)

/-- 'footpathlaw18.DoorsSwap', WHERE WHAT IT READS IS OF BULK AT MOST 1048576: true; the input reads as it did. -/
def doorsSwapUptoRow : OpenClaim := { program := "ytndjljefppbmcaa", sum := "3423dcfc49898ecb838b7cf8dd4bb659e345efe3ccd3b77174b736ed915c646d", func := "footpath/footpathlaw18.DoorsSwap", spec := "doorsSwap", unfollowed := true, recurses := true, apart := false, narrowed := true }
def DoorsSwapUptoSaid : Prop := doorsSwapUptoRow.holds Try.pinned (OpenSpec.upto doorsSwapSpec)

/-- 'footpathlaw07.ClipFlat', WHERE WHAT IT READS IS OF BULK AT MOST 1048576: true; the input reads as it did. -/
def clipFlatUptoRow : OpenClaim := { program := "ytndjljefppbmcaa", sum := "3423dcfc49898ecb838b7cf8dd4bb659e345efe3ccd3b77174b736ed915c646d", func := "footpath/footpathlaw07.ClipFlat", spec := "clipFlat", unfollowed := true, recurses := true, apart := false, narrowed := true }
def ClipFlatUptoSaid : Prop := clipFlatUptoRow.holds Try.pinned (OpenSpec.upto clipFlatSpec)

/-- 'footpathlaw07.ClipTells', WHERE WHAT IT READS IS OF BULK AT MOST 1048576: true; the input reads as it did. -/
def clipTellsUptoRow : OpenClaim := { program := "ytndjljefppbmcaa", sum := "3423dcfc49898ecb838b7cf8dd4bb659e345efe3ccd3b77174b736ed915c646d", func := "footpath/footpathlaw07.ClipTells", spec := "clipTells", unfollowed := true, recurses := true, apart := false, narrowed := true }
def ClipTellsUptoSaid : Prop := clipTellsUptoRow.holds Try.pinned (OpenSpec.upto clipTellsSpec)

/-- 'footpathlaw07.ClipBetween', WHERE WHAT IT READS IS OF BULK AT MOST 1048576: true; the input reads as it did. -/
def clipBetweenUptoRow : OpenClaim := { program := "ytndjljefppbmcaa", sum := "3423dcfc49898ecb838b7cf8dd4bb659e345efe3ccd3b77174b736ed915c646d", func := "footpath/footpathlaw07.ClipBetween", spec := "clipBetween", unfollowed := true, recurses := true, apart := false, narrowed := true }
def ClipBetweenUptoSaid : Prop := clipBetweenUptoRow.holds Try.pinned (OpenSpec.upto clipBetweenSpec)

end Rows
end Go.Proofs.Ytndjljefppbmcaa
