/-
  No cell of these rows narrows 'for every input' (looked for: loops, veiled, ifaces, maps, wideKeys, modest, calm, conditions, laid).
  DERIVED. THE GIVEN ROWS OF THIS SEAT. 12 by the template 'for every input the law returns true; each argument reads behind the call as it read before'; 0 by the template 'total and deterministic' (their statements: YtilhmlapbifbbaaTotals.lean).
  GIVEN WITH THE SEED: the statements are not yours to turn. If you find one false, say at which input.
  Laid BY PROGRAM, IN A SANDBOX (cutbox-rows.mjs): the forced cells as the released guide's own fill.sh prints them over the translation 0cbc1cfe69003cd0… (all of the seat's roots in one cut). By AI agents, Wed Nov 11 2026. No macro, syntax, notation, axiom, sorry.
-/
import Derived.Test.YtilhmlapbifbbaaChecked
import GoSem.Claim
import GoSem.ClaimJoined
import GoSem.ClaimMapViews
import Derived.JoinedTies
import Derived.KernelRfl
namespace Go.Proofs.Ytilhmlapbifbbaa
/- THE CELL 'sum', in the pinned program and in every row, IS THE sha256 OF THE DUMP (.gsa) THAT YtilhmlapbifbbaaProg.lean LOADS. Nothing in Lean hashes anything: it is a label: what it is worth is what the hold of that sum in a sandbox is worth. -/
noncomputable def Try.pinned : Pinned := { name := "ytilhmlapbifbbaa", sum := "0cbc1cfe69003cd06f8227153835994361b367ac86f6236e7d6bc02c614005f2", checked := Try.checked }
namespace Rows
def none {H : Type} : Left H := { results := [], args := [] }

/-- 'footpathlaw20.CodeNumbers': WHATEVER THE INPUT: true; the input reads as it did. -/
def codeNumbersSpec : ChangeSpec := { name := "codeNumbers", fn := fun _ => fun
  | [d1, d2] => { results := [.lit (.bool true)], args := [d1, d2] }
  | _ => none }
def codeNumbersRow : OpenClaim := { program := "ytilhmlapbifbbaa", sum := "0cbc1cfe69003cd06f8227153835994361b367ac86f6236e7d6bc02c614005f2", func := "footpath/footpathlaw20.CodeNumbers", spec := "codeNumbers", apart := false }
def CodeNumbersSaid : Prop := codeNumbersRow.holds Try.pinned (OpenSpec.ofChange codeNumbersSpec)

/-- ITS FALSE NEIGHBOUR: 'it returns false'. Refute it at one input. -/
def codeNumbersWrong : ChangeSpec := { name := "codeNumbers", fn := fun _ => fun
  | [d1, d2] => { results := [.lit (.bool false)], args := [d1, d2] }
  | _ => none }
def CodeNumbersWrongFalsely : Prop := codeNumbersRow.holds Try.pinned (OpenSpec.ofChange codeNumbersWrong)

/-- 'footpathlaw10.FilterOpen': WHATEVER THE INPUT: true; the input reads as it did. -/
def filterOpenSpec : ChangeSpec := { name := "filterOpen", fn := fun _ => fun
  | [d1, d2, d3, d4] => { results := [.lit (.bool true)], args := [d1, d2, d3, d4] }
  | _ => none }
def filterOpenRow : OpenClaim := { program := "ytilhmlapbifbbaa", sum := "0cbc1cfe69003cd06f8227153835994361b367ac86f6236e7d6bc02c614005f2", func := "footpath/footpathlaw10.FilterOpen", spec := "filterOpen", unfollowed := true, recurses := true, apart := false }
def FilterOpenSaid : Prop := filterOpenRow.holds Try.pinned (OpenSpec.ofChange filterOpenSpec)

/-- ITS FALSE NEIGHBOUR: 'it returns false'. Refute it at one input. -/
def filterOpenWrong : ChangeSpec := { name := "filterOpen", fn := fun _ => fun
  | [d1, d2, d3, d4] => { results := [.lit (.bool false)], args := [d1, d2, d3, d4] }
  | _ => none }
def FilterOpenWrongFalsely : Prop := filterOpenRow.holds Try.pinned (OpenSpec.ofChange filterOpenWrong)

/-- 'footpathlaw11.OpenHigh': WHATEVER THE INPUT: true; the input reads as it did. -/
def openHighSpec : ChangeSpec := { name := "openHigh", fn := fun _ => fun
  | [d1, d2] => { results := [.lit (.bool true)], args := [d1, d2] }
  | _ => none }
def openHighRow : OpenClaim := { program := "ytilhmlapbifbbaa", sum := "0cbc1cfe69003cd06f8227153835994361b367ac86f6236e7d6bc02c614005f2", func := "footpath/footpathlaw11.OpenHigh", spec := "openHigh", unfollowed := true, recurses := true, apart := false }
def OpenHighSaid : Prop := openHighRow.holds Try.pinned (OpenSpec.ofChange openHighSpec)

/-- ITS FALSE NEIGHBOUR: 'it returns false'. Refute it at one input. -/
def openHighWrong : ChangeSpec := { name := "openHigh", fn := fun _ => fun
  | [d1, d2] => { results := [.lit (.bool false)], args := [d1, d2] }
  | _ => none }
def OpenHighWrongFalsely : Prop := openHighRow.holds Try.pinned (OpenSpec.ofChange openHighWrong)

/-- 'footpathlaw32.TripsShort': WHATEVER THE INPUT: true; the input reads as it did. -/
def tripsShortSpec : ChangeSpec := { name := "tripsShort", fn := fun _ => fun
  | [d] => { results := [.lit (.bool true)], args := [d] }
  | _ => none }
def tripsShortRow : OpenClaim := { program := "ytilhmlapbifbbaa", sum := "0cbc1cfe69003cd06f8227153835994361b367ac86f6236e7d6bc02c614005f2", func := "footpath/footpathlaw32.TripsShort", spec := "tripsShort", unfollowed := true, recurses := true, apart := false }
def TripsShortSaid : Prop := tripsShortRow.holds Try.pinned (OpenSpec.ofChange tripsShortSpec)

/-- ITS FALSE NEIGHBOUR: 'it returns false'. Refute it at one input. -/
def tripsShortWrong : ChangeSpec := { name := "tripsShort", fn := fun _ => fun
  | [d] => { results := [.lit (.bool false)], args := [d] }
  | _ => none }
def TripsShortWrongFalsely : Prop := tripsShortRow.holds Try.pinned (OpenSpec.ofChange tripsShortWrong)

/-- 'footpathlaw32.TripsGroups': WHATEVER THE INPUT: true; the input reads as it did. -/
def tripsGroupsSpec : ChangeSpec := { name := "tripsGroups", fn := fun _ => fun
  | [d] => { results := [.lit (.bool true)], args := [d] }
  | _ => none }
def tripsGroupsRow : OpenClaim := { program := "ytilhmlapbifbbaa", sum := "0cbc1cfe69003cd06f8227153835994361b367ac86f6236e7d6bc02c614005f2", func := "footpath/footpathlaw32.TripsGroups", spec := "tripsGroups", unfollowed := true, recurses := true, apart := false }
def TripsGroupsSaid : Prop := tripsGroupsRow.holds Try.pinned (OpenSpec.ofChange tripsGroupsSpec)

/-- ITS FALSE NEIGHBOUR: 'it returns false'. Refute it at one input. -/
def tripsGroupsWrong : ChangeSpec := { name := "tripsGroups", fn := fun _ => fun
  | [d] => { results := [.lit (.bool false)], args := [d] }
  | _ => none }
def TripsGroupsWrongFalsely : Prop := tripsGroupsRow.holds Try.pinned (OpenSpec.ofChange tripsGroupsWrong)

/-- 'footpathlaw32.TripsRound': WHATEVER THE INPUT: true; the input reads as it did. -/
def tripsRoundSpec : ChangeSpec := { name := "tripsRound", fn := fun _ => fun
  | [d1, d2] => { results := [.lit (.bool true)], args := [d1, d2] }
  | _ => none }
def tripsRoundRow : OpenClaim := { program := "ytilhmlapbifbbaa", sum := "0cbc1cfe69003cd06f8227153835994361b367ac86f6236e7d6bc02c614005f2", func := "footpath/footpathlaw32.TripsRound", spec := "tripsRound", unfollowed := true, recurses := true, apart := false }
def TripsRoundSaid : Prop := tripsRoundRow.holds Try.pinned (OpenSpec.ofChange tripsRoundSpec)

/-- ITS FALSE NEIGHBOUR: 'it returns false'. Refute it at one input. -/
def tripsRoundWrong : ChangeSpec := { name := "tripsRound", fn := fun _ => fun
  | [d1, d2] => { results := [.lit (.bool false)], args := [d1, d2] }
  | _ => none }
def TripsRoundWrongFalsely : Prop := tripsRoundRow.holds Try.pinned (OpenSpec.ofChange tripsRoundWrong)

/-- 'footpathlaw32.TripsTell': WHATEVER THE INPUT: true; the input reads as it did. -/
def tripsTellSpec : ChangeSpec := { name := "tripsTell", fn := fun _ => fun
  | [d1, d2, d3] => { results := [.lit (.bool true)], args := [d1, d2, d3] }
  | _ => none }
def tripsTellRow : OpenClaim := { program := "ytilhmlapbifbbaa", sum := "0cbc1cfe69003cd06f8227153835994361b367ac86f6236e7d6bc02c614005f2", func := "footpath/footpathlaw32.TripsTell", spec := "tripsTell", unfollowed := true, recurses := true, apart := false }
def TripsTellSaid : Prop := tripsTellRow.holds Try.pinned (OpenSpec.ofChange tripsTellSpec)

/-- ITS FALSE NEIGHBOUR: 'it returns false'. Refute it at one input. -/
def tripsTellWrong : ChangeSpec := { name := "tripsTell", fn := fun _ => fun
  | [d1, d2, d3] => { results := [.lit (.bool false)], args := [d1, d2, d3] }
  | _ => none }
def TripsTellWrongFalsely : Prop := tripsTellRow.holds Try.pinned (OpenSpec.ofChange tripsTellWrong)

/-- 'footpathlaw20.CodeSoups': WHATEVER THE INPUT: true; the input reads as it did. -/
def codeSoupsSpec : ChangeSpec := { name := "codeSoups", fn := fun _ => fun
  | [d1, d2] => { results := [.lit (.bool true)], args := [d1, d2] }
  | _ => none }
def codeSoupsRow : OpenClaim := { program := "ytilhmlapbifbbaa", sum := "0cbc1cfe69003cd06f8227153835994361b367ac86f6236e7d6bc02c614005f2", func := "footpath/footpathlaw20.CodeSoups", spec := "codeSoups", unfollowed := true, recurses := true, apart := false }
def CodeSoupsSaid : Prop := codeSoupsRow.holds Try.pinned (OpenSpec.ofChange codeSoupsSpec)

/-- ITS FALSE NEIGHBOUR: 'it returns false'. Refute it at one input. -/
def codeSoupsWrong : ChangeSpec := { name := "codeSoups", fn := fun _ => fun
  | [d1, d2] => { results := [.lit (.bool false)], args := [d1, d2] }
  | _ => none }
def CodeSoupsWrongFalsely : Prop := codeSoupsRow.holds Try.pinned (OpenSpec.ofChange codeSoupsWrong)

/-- 'footpathlaw20.CodeUnlike': WHATEVER THE INPUT: true; the input reads as it did. -/
def codeUnlikeSpec : ChangeSpec := { name := "codeUnlike", fn := fun _ => fun
  | [d1, d2, d3, d4] => { results := [.lit (.bool true)], args := [d1, d2, d3, d4] }
  | _ => none }
def codeUnlikeRow : OpenClaim := { program := "ytilhmlapbifbbaa", sum := "0cbc1cfe69003cd06f8227153835994361b367ac86f6236e7d6bc02c614005f2", func := "footpath/footpathlaw20.CodeUnlike", spec := "codeUnlike", unfollowed := true, recurses := true, apart := false }
def CodeUnlikeSaid : Prop := codeUnlikeRow.holds Try.pinned (OpenSpec.ofChange codeUnlikeSpec)

/-- ITS FALSE NEIGHBOUR: 'it returns false'. Refute it at one input. -/
def codeUnlikeWrong : ChangeSpec := { name := "codeUnlike", fn := fun _ => fun
  | [d1, d2, d3, d4] => { results := [.lit (.bool false)], args := [d1, d2, d3, d4] }
  | _ => none }
def CodeUnlikeWrongFalsely : Prop := codeUnlikeRow.holds Try.pinned (OpenSpec.ofChange codeUnlikeWrong)

/-- 'footpathlaw20.CodeReadSoups': WHATEVER THE INPUT: true; the input reads as it did. -/
def codeReadSoupsSpec : ChangeSpec := { name := "codeReadSoups", fn := fun _ => fun
  | [d] => { results := [.lit (.bool true)], args := [d] }
  | _ => none }
def codeReadSoupsRow : OpenClaim := { program := "ytilhmlapbifbbaa", sum := "0cbc1cfe69003cd06f8227153835994361b367ac86f6236e7d6bc02c614005f2", func := "footpath/footpathlaw20.CodeReadSoups", spec := "codeReadSoups", unfollowed := true, recurses := true, apart := false }
def CodeReadSoupsSaid : Prop := codeReadSoupsRow.holds Try.pinned (OpenSpec.ofChange codeReadSoupsSpec)

/-- ITS FALSE NEIGHBOUR: 'it returns false'. Refute it at one input. -/
def codeReadSoupsWrong : ChangeSpec := { name := "codeReadSoups", fn := fun _ => fun
  | [d] => { results := [.lit (.bool false)], args := [d] }
  | _ => none }
def CodeReadSoupsWrongFalsely : Prop := codeReadSoupsRow.holds Try.pinned (OpenSpec.ofChange codeReadSoupsWrong)

/-- 'footpathlaw08.SpansTop': WHATEVER THE INPUT: true; the input reads as it did. -/
def spansTopSpec : ChangeSpec := { name := "spansTop", fn := fun _ => fun
  | [d] => { results := [.lit (.bool true)], args := [d] }
  | _ => none }
def spansTopRow : OpenClaim := { program := "ytilhmlapbifbbaa", sum := "0cbc1cfe69003cd06f8227153835994361b367ac86f6236e7d6bc02c614005f2", func := "footpath/footpathlaw08.SpansTop", spec := "spansTop", unfollowed := true, recurses := true, apart := false }
def SpansTopSaid : Prop := spansTopRow.holds Try.pinned (OpenSpec.ofChange spansTopSpec)

/-- ITS FALSE NEIGHBOUR: 'it returns false'. Refute it at one input. -/
def spansTopWrong : ChangeSpec := { name := "spansTop", fn := fun _ => fun
  | [d] => { results := [.lit (.bool false)], args := [d] }
  | _ => none }
def SpansTopWrongFalsely : Prop := spansTopRow.holds Try.pinned (OpenSpec.ofChange spansTopWrong)

/-- 'footpathlaw08.SpansMerge': WHATEVER THE INPUT: true; the input reads as it did. -/
def spansMergeSpec : ChangeSpec := { name := "spansMerge", fn := fun _ => fun
  | [d] => { results := [.lit (.bool true)], args := [d] }
  | _ => none }
def spansMergeRow : OpenClaim := { program := "ytilhmlapbifbbaa", sum := "0cbc1cfe69003cd06f8227153835994361b367ac86f6236e7d6bc02c614005f2", func := "footpath/footpathlaw08.SpansMerge", spec := "spansMerge", unfollowed := true, recurses := true, apart := false }
def SpansMergeSaid : Prop := spansMergeRow.holds Try.pinned (OpenSpec.ofChange spansMergeSpec)

/-- ITS FALSE NEIGHBOUR: 'it returns false'. Refute it at one input. -/
def spansMergeWrong : ChangeSpec := { name := "spansMerge", fn := fun _ => fun
  | [d] => { results := [.lit (.bool false)], args := [d] }
  | _ => none }
def SpansMergeWrongFalsely : Prop := spansMergeRow.holds Try.pinned (OpenSpec.ofChange spansMergeWrong)

/- THE SECOND FORM. 'bulk': how many values and letters a reading holds, each counted each time it is reached (what is shared counts as often as it is met; a slice's spare places count too). A statement '..UptoSaid' is the law's where the arguments, and the package variables that the reading takes, are together of bulk at most 1048576: NARROWER than '..Said'. Prove '..Said' where nothing that the law and all that it calls make is longer than what came in: it says more and counts as full. Else prove '..UptoSaid'. A law counts once. -/
mutual
def uptoBulk {H : Type} : DataW H → Nat
  | .lit (.string bytes) => bytes.length + 1
  | .lit _ => 1
  | .nil => 1
  | .ptr d => uptoBulk d + 1
  | .slice elems spare => uptoBulkAll elems + uptoBulkAll spare + 1
  | .agg parts => uptoBulkAll parts + 1
  | .iface _ d => uptoBulk d + 1
  | .map entries => uptoBulkEntries entries + 1
  | .held _ => 1
def uptoBulkAll {H : Type} : List (DataW H) → Nat
  | [] => 0
  | d :: r => uptoBulk d + uptoBulkAll r
def uptoBulkEntries {H : Type} : List (Lit × DataW H) → Nat
  | [] => 0
  | x :: r => uptoBulkEntry x + uptoBulkEntries r
def uptoBulkEntry {H : Type} : Lit × DataW H → Nat
  | (.string bytes, d) => bytes.length + uptoBulk d + 1
  | (_, d) => uptoBulk d + 1
 end
def uptoSmall : (H : Type) → List (DataW H) → Bool := fun _ ds => decide (uptoBulkAll ds ≤ 1048576)
def OpenSpec.upto (s : _root_.Go.ChangeSpec) : _root_.Go.OpenSpec := { _root_.Go.OpenSpec.ofChange s with cond := some uptoSmall }

/-- 'footpathlaw20.CodeNumbers', WHERE WHAT IT READS IS OF BULK AT MOST 1048576: true; the input reads as it did. -/
def codeNumbersUptoRow : OpenClaim := { program := "ytilhmlapbifbbaa", sum := "0cbc1cfe69003cd06f8227153835994361b367ac86f6236e7d6bc02c614005f2", func := "footpath/footpathlaw20.CodeNumbers", spec := "codeNumbers", apart := false, narrowed := true }
def CodeNumbersUptoSaid : Prop := codeNumbersUptoRow.holds Try.pinned (OpenSpec.upto codeNumbersSpec)

/-- 'footpathlaw10.FilterOpen', WHERE WHAT IT READS IS OF BULK AT MOST 1048576: true; the input reads as it did. -/
def filterOpenUptoRow : OpenClaim := { program := "ytilhmlapbifbbaa", sum := "0cbc1cfe69003cd06f8227153835994361b367ac86f6236e7d6bc02c614005f2", func := "footpath/footpathlaw10.FilterOpen", spec := "filterOpen", unfollowed := true, recurses := true, apart := false, narrowed := true }
def FilterOpenUptoSaid : Prop := filterOpenUptoRow.holds Try.pinned (OpenSpec.upto filterOpenSpec)

/-- 'footpathlaw11.OpenHigh', WHERE WHAT IT READS IS OF BULK AT MOST 1048576: true; the input reads as it did. -/
def openHighUptoRow : OpenClaim := { program := "ytilhmlapbifbbaa", sum := "0cbc1cfe69003cd06f8227153835994361b367ac86f6236e7d6bc02c614005f2", func := "footpath/footpathlaw11.OpenHigh", spec := "openHigh", unfollowed := true, recurses := true, apart := false, narrowed := true }
def OpenHighUptoSaid : Prop := openHighUptoRow.holds Try.pinned (OpenSpec.upto openHighSpec)

/-- 'footpathlaw32.TripsShort', WHERE WHAT IT READS IS OF BULK AT MOST 1048576: true; the input reads as it did. -/
def tripsShortUptoRow : OpenClaim := { program := "ytilhmlapbifbbaa", sum := "0cbc1cfe69003cd06f8227153835994361b367ac86f6236e7d6bc02c614005f2", func := "footpath/footpathlaw32.TripsShort", spec := "tripsShort", unfollowed := true, recurses := true, apart := false, narrowed := true }
def TripsShortUptoSaid : Prop := tripsShortUptoRow.holds Try.pinned (OpenSpec.upto tripsShortSpec)

/-- 'footpathlaw32.TripsGroups', WHERE WHAT IT READS IS OF BULK AT MOST 1048576: true; the input reads as it did. -/
def tripsGroupsUptoRow : OpenClaim := { program := "ytilhmlapbifbbaa", sum := "0cbc1cfe69003cd06f8227153835994361b367ac86f6236e7d6bc02c614005f2", func := "footpath/footpathlaw32.TripsGroups", spec := "tripsGroups", unfollowed := true, recurses := true, apart := false, narrowed := true }
def TripsGroupsUptoSaid : Prop := tripsGroupsUptoRow.holds Try.pinned (OpenSpec.upto tripsGroupsSpec)

/-- 'footpathlaw32.TripsRound', WHERE WHAT IT READS IS OF BULK AT MOST 1048576: true; the input reads as it did. -/
def tripsRoundUptoRow : OpenClaim := { program := "ytilhmlapbifbbaa", sum := "0cbc1cfe69003cd06f8227153835994361b367ac86f6236e7d6bc02c614005f2", func := "footpath/footpathlaw32.TripsRound", spec := "tripsRound", unfollowed := true, recurses := true, apart := false, narrowed := true }
def TripsRoundUptoSaid : Prop := tripsRoundUptoRow.holds Try.pinned (OpenSpec.upto tripsRoundSpec)

/-- 'footpathlaw32.TripsTell', WHERE WHAT IT READS IS OF BULK AT MOST 1048576: true; the input reads as it did. -/
def tripsTellUptoRow : OpenClaim := { program := "ytilhmlapbifbbaa", sum := "0cbc1cfe69003cd06f8227153835994361b367ac86f6236e7d6bc02c614005f2", func := "footpath/footpathlaw32.TripsTell", spec := "tripsTell", unfollowed := true, recurses := true, apart := false, narrowed := true }
def TripsTellUptoSaid : Prop := tripsTellUptoRow.holds Try.pinned (OpenSpec.upto tripsTellSpec)

/-- 'footpathlaw20.CodeSoups', WHERE WHAT IT READS IS OF BULK AT MOST 1048576: true; the input reads as it did. -/
def codeSoupsUptoRow : OpenClaim := { program := "ytilhmlapbifbbaa", sum := "0cbc1cfe69003cd06f8227153835994361b367ac86f6236e7d6bc02c614005f2", func := "footpath/footpathlaw20.CodeSoups", spec := "codeSoups", unfollowed := true, recurses := true, apart := false, narrowed := true }
def CodeSoupsUptoSaid : Prop := codeSoupsUptoRow.holds Try.pinned (OpenSpec.upto codeSoupsSpec)

/-- 'footpathlaw20.CodeUnlike', WHERE WHAT IT READS IS OF BULK AT MOST 1048576: true; the input reads as it did. -/
def codeUnlikeUptoRow : OpenClaim := { program := "ytilhmlapbifbbaa", sum := "0cbc1cfe69003cd06f8227153835994361b367ac86f6236e7d6bc02c614005f2", func := "footpath/footpathlaw20.CodeUnlike", spec := "codeUnlike", unfollowed := true, recurses := true, apart := false, narrowed := true }
def CodeUnlikeUptoSaid : Prop := codeUnlikeUptoRow.holds Try.pinned (OpenSpec.upto codeUnlikeSpec)

/-- 'footpathlaw20.CodeReadSoups', WHERE WHAT IT READS IS OF BULK AT MOST 1048576: true; the input reads as it did. -/
def codeReadSoupsUptoRow : OpenClaim := { program := "ytilhmlapbifbbaa", sum := "0cbc1cfe69003cd06f8227153835994361b367ac86f6236e7d6bc02c614005f2", func := "footpath/footpathlaw20.CodeReadSoups", spec := "codeReadSoups", unfollowed := true, recurses := true, apart := false, narrowed := true }
def CodeReadSoupsUptoSaid : Prop := codeReadSoupsUptoRow.holds Try.pinned (OpenSpec.upto codeReadSoupsSpec)

/-- 'footpathlaw08.SpansTop', WHERE WHAT IT READS IS OF BULK AT MOST 1048576: true; the input reads as it did. -/
def spansTopUptoRow : OpenClaim := { program := "ytilhmlapbifbbaa", sum := "0cbc1cfe69003cd06f8227153835994361b367ac86f6236e7d6bc02c614005f2", func := "footpath/footpathlaw08.SpansTop", spec := "spansTop", unfollowed := true, recurses := true, apart := false, narrowed := true }
def SpansTopUptoSaid : Prop := spansTopUptoRow.holds Try.pinned (OpenSpec.upto spansTopSpec)

/-- 'footpathlaw08.SpansMerge', WHERE WHAT IT READS IS OF BULK AT MOST 1048576: true; the input reads as it did. -/
def spansMergeUptoRow : OpenClaim := { program := "ytilhmlapbifbbaa", sum := "0cbc1cfe69003cd06f8227153835994361b367ac86f6236e7d6bc02c614005f2", func := "footpath/footpathlaw08.SpansMerge", spec := "spansMerge", unfollowed := true, recurses := true, apart := false, narrowed := true }
def SpansMergeUptoSaid : Prop := spansMergeUptoRow.holds Try.pinned (OpenSpec.upto spansMergeSpec)

end Rows
end Go.Proofs.Ytilhmlapbifbbaa
