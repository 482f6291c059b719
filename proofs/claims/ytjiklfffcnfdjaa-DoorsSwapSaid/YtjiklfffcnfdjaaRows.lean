/-
  No cell of these rows narrows 'for every input' (looked for: loops, veiled, ifaces, maps, wideKeys, modest, calm, conditions, laid).
  DERIVED. THE GIVEN ROWS OF THIS SEAT. 5 by the template 'for every input the law returns true; each argument reads behind the call as it read before'; 0 by the template 'total and deterministic' (their statements: YtjiklfffcnfdjaaTotals.lean).
  GIVEN WITH THE SEED: the statements are not yours to turn. If you find one false, say at which input.
  Laid BY PROGRAM, IN A SANDBOX (cutbox-rows.mjs): the forced cells as the released guide's own fill.sh prints them over the translation 582b4b631a4b139b… (all of the seat's roots in one cut). By AI agents, Wed Nov 11 2026. No macro, syntax, notation, axiom, sorry.
-/
import Derived.Test.YtjiklfffcnfdjaaChecked
import GoSem.Claim
import GoSem.ClaimJoined
import GoSem.ClaimMapViews
import Derived.JoinedTies
import Derived.KernelRfl
namespace Go.Proofs.Ytjiklfffcnfdjaa
/- THE CELL 'sum', in the pinned program and in every row, IS THE sha256 OF THE DUMP (.gsa) THAT YtjiklfffcnfdjaaProg.lean LOADS. Nothing in Lean hashes anything: it is a label: what it is worth is what the hold of that sum in a sandbox is worth. -/
noncomputable def Try.pinned : Pinned := { name := "ytjiklfffcnfdjaa", sum := "582b4b631a4b139be2e67979271291df4a77be3bd0889ed233cfa89b8e7032ac", checked := Try.checked }
namespace Rows
def none {H : Type} : Left H := { results := [], args := [] }

/-- 'footpathlaw18.DoorsSwap': WHATEVER THE INPUT: true; the input reads as it did. -/
def doorsSwapSpec : ChangeSpec := { name := "doorsSwap", fn := fun _ => fun
  | [d1, d2, d3, d4, d5] => { results := [.lit (.bool true)], args := [d1, d2, d3, d4, d5] }
  | _ => none }
def doorsSwapRow : OpenClaim := { program := "ytjiklfffcnfdjaa", sum := "582b4b631a4b139be2e67979271291df4a77be3bd0889ed233cfa89b8e7032ac", func := "footpath/footpathlaw18.DoorsSwap", spec := "doorsSwap", unfollowed := true, recurses := true, plainKeys := false, apart := false }
def DoorsSwapSaid : Prop := doorsSwapRow.holds Try.pinned (OpenSpec.ofChange doorsSwapSpec)

/-- ITS FALSE NEIGHBOUR: 'it returns false'. Refute it at one input. -/
def doorsSwapWrong : ChangeSpec := { name := "doorsSwap", fn := fun _ => fun
  | [d1, d2, d3, d4, d5] => { results := [.lit (.bool false)], args := [d1, d2, d3, d4, d5] }
  | _ => none }
def DoorsSwapWrongFalsely : Prop := doorsSwapRow.holds Try.pinned (OpenSpec.ofChange doorsSwapWrong)

/-- 'footpathlaw16.RegionMay': WHATEVER THE INPUT: true; the input reads as it did. -/
def regionMaySpec : ChangeSpec := { name := "regionMay", fn := fun _ => fun
  | [d1, d2] => { results := [.lit (.bool true)], args := [d1, d2] }
  | _ => none }
def regionMayRow : OpenClaim := { program := "ytjiklfffcnfdjaa", sum := "582b4b631a4b139be2e67979271291df4a77be3bd0889ed233cfa89b8e7032ac", func := "footpath/footpathlaw16.RegionMay", spec := "regionMay", unfollowed := true, recurses := true, plainKeys := false, apart := false }
def RegionMaySaid : Prop := regionMayRow.holds Try.pinned (OpenSpec.ofChange regionMaySpec)

/-- ITS FALSE NEIGHBOUR: 'it returns false'. Refute it at one input. -/
def regionMayWrong : ChangeSpec := { name := "regionMay", fn := fun _ => fun
  | [d1, d2] => { results := [.lit (.bool false)], args := [d1, d2] }
  | _ => none }
def RegionMayWrongFalsely : Prop := regionMayRow.holds Try.pinned (OpenSpec.ofChange regionMayWrong)

/-- 'footpathlaw29.RayLinked': WHATEVER THE INPUT: true; the input reads as it did. -/
def rayLinkedSpec : ChangeSpec := { name := "rayLinked", fn := fun _ => fun
  | [d1, d2, d3, d4, d5, d6] => { results := [.lit (.bool true)], args := [d1, d2, d3, d4, d5, d6] }
  | _ => none }
def rayLinkedRow : OpenClaim := { program := "ytjiklfffcnfdjaa", sum := "582b4b631a4b139be2e67979271291df4a77be3bd0889ed233cfa89b8e7032ac", func := "footpath/footpathlaw29.RayLinked", spec := "rayLinked", unfollowed := true, recurses := true, plainKeys := false, apart := false }
def RayLinkedSaid : Prop := rayLinkedRow.holds Try.pinned (OpenSpec.ofChange rayLinkedSpec)

/-- ITS FALSE NEIGHBOUR: 'it returns false'. Refute it at one input. -/
def rayLinkedWrong : ChangeSpec := { name := "rayLinked", fn := fun _ => fun
  | [d1, d2, d3, d4, d5, d6] => { results := [.lit (.bool false)], args := [d1, d2, d3, d4, d5, d6] }
  | _ => none }
def RayLinkedWrongFalsely : Prop := rayLinkedRow.holds Try.pinned (OpenSpec.ofChange rayLinkedWrong)

/-- 'footpathlaw29.RayBack': WHATEVER THE INPUT: true; the input reads as it did. -/
def rayBackSpec : ChangeSpec := { name := "rayBack", fn := fun _ => fun
  | [d1, d2, d3, d4, d5, d6, d7] => { results := [.lit (.bool true)], args := [d1, d2, d3, d4, d5, d6, d7] }
  | _ => none }
def rayBackRow : OpenClaim := { program := "ytjiklfffcnfdjaa", sum := "582b4b631a4b139be2e67979271291df4a77be3bd0889ed233cfa89b8e7032ac", func := "footpath/footpathlaw29.RayBack", spec := "rayBack", unfollowed := true, recurses := true, plainKeys := false, apart := false }
def RayBackSaid : Prop := rayBackRow.holds Try.pinned (OpenSpec.ofChange rayBackSpec)

/-- ITS FALSE NEIGHBOUR: 'it returns false'. Refute it at one input. -/
def rayBackWrong : ChangeSpec := { name := "rayBack", fn := fun _ => fun
  | [d1, d2, d3, d4, d5, d6, d7] => { results := [.lit (.bool false)], args := [d1, d2, d3, d4, d5, d6, d7] }
  | _ => none }
def RayBackWrongFalsely : Prop := rayBackRow.holds Try.pinned (OpenSpec.ofChange rayBackWrong)

/-- 'footpathlaw25.LocateInside': WHATEVER THE INPUT: true; the input reads as it did. -/
def locateInsideSpec : ChangeSpec := { name := "locateInside", fn := fun _ => fun
  | [d1, d2, d3] => { results := [.lit (.bool true)], args := [d1, d2, d3] }
  | _ => none }
def locateInsideRow : OpenClaim := { program := "ytjiklfffcnfdjaa", sum := "582b4b631a4b139be2e67979271291df4a77be3bd0889ed233cfa89b8e7032ac", func := "footpath/footpathlaw25.LocateInside", spec := "locateInside", unfollowed := true, recurses := true, plainKeys := false, apart := false }
def LocateInsideSaid : Prop := locateInsideRow.holds Try.pinned (OpenSpec.ofChange locateInsideSpec)

/-- ITS FALSE NEIGHBOUR: 'it returns false'. Refute it at one input. -/
def locateInsideWrong : ChangeSpec := { name := "locateInside", fn := fun _ => fun
  | [d1, d2, d3] => { results := [.lit (.bool false)], args := [d1, d2, d3] }
  | _ => none }
def LocateInsideWrongFalsely : Prop := locateInsideRow.holds Try.pinned (OpenSpec.ofChange locateInsideWrong)

/- THE SECOND FORM. 'bulk': how many values and letters a reading holds, each counted each time it is reached (what is shared counts as often as it is met; a slice's spare places count too). A statement '..UptoSaid' is the law's where the arguments, and the package variables that the reading takes, are together of bulk at most 1048576: NARROWER than '..Said'. Prove '..Said' where nothing that the law and all that it calls make is longer than what came in: it says more and counts as full. Else prove '..UptoSaid'. A law counts once. -/
mutual
def uptoBulk {H : Type} : DataW H → Nat
  | .lit (.string bytes) => bytes.length + 1
  | .lit _ => 1
  | .nil => 1
  | .ptr d => uptoBulk d + 1
  | .slice elems spare => uptoBulkAll elems + uptoBulkAll spare + 1
  | .agg parts => uptoBulkAll parts + 1
  | .iface _ d => uptoBulk d + 1
  | .map entries => uptoBulkEntries entries + 1
  | .held _ => 1
def uptoBulkAll {H : Type} : List (DataW H) → Nat
  | [] => 0
  | d :: r => uptoBulk d + uptoBulkAll r
def uptoBulkEntries {H : Type} : List (Lit × DataW H) → Nat
  | [] => 0
  | x :: r => uptoBulkEntry x + uptoBulkEntries r
def uptoBulkEntry {H : Type} : Lit × DataW H → Nat
  | (.string bytes, d) => bytes.length + uptoBulk d + 1
  | (_, d) => uptoBulk d + 1
 end
def uptoSmall : (H : Type) → List (DataW H) → Bool := fun _ ds => decide (uptoBulkAll ds ≤ 1048576)
def OpenSpec.upto (s : _root_.Go.ChangeSpec) : _root_.Go.OpenSpec := { _root_.Go.OpenSpec.ofChange s with cond := some uptoSmall }

/-- 'footpathlaw18.DoorsSwap', WHERE WHAT IT READS IS OF BULK AT MOST 1048576: true; the input reads as it did. -/
def doorsSwapUptoRow : OpenClaim := { program := "ytjiklfffcnfdjaa", sum := "582b4b631a4b139be2e67979271291df4a77be3bd0889ed233cfa89b8e7032ac", func := "footpath/footpathlaw18.DoorsSwap", spec := "doorsSwap", unfollowed := true, recurses := true, plainKeys := false, apart := false, narrowed := true }
def DoorsSwapUptoSaid : Prop := doorsSwapUptoRow.holds Try.pinned (OpenSpec.upto doorsSwapSpec)

/-- 'footpathlaw16.RegionMay', WHERE WHAT IT READS IS OF BULK AT MOST 1048576: true; the input reads as it did. -/
def regionMayUptoRow : OpenClaim := { program := "ytjiklfffcnfdjaa", sum := "582b4b631a4b139be2e67979271291df4a77be3bd0889ed233cfa89b8e7032ac", func := "footpath/footpathlaw16.RegionMay", spec := "regionMay", unfollowed := true, recurses := true, plainKeys := false, apart := false, narrowed := true }
def RegionMayUptoSaid : Prop := regionMayUptoRow.holds Try.pinned (OpenSpec.upto regionMaySpec)

/-- 'footpathlaw29.RayLinked', WHERE WHAT IT READS IS OF BULK AT MOST 1048576: true; the input reads as it did. -/
def rayLinkedUptoRow : OpenClaim := { program := "ytjiklfffcnfdjaa", sum := "582b4b631a4b139be2e67979271291df4a77be3bd0889ed233cfa89b8e7032ac", func := "footpath/footpathlaw29.RayLinked", spec := "rayLinked", unfollowed := true, recurses := true, plainKeys := false, apart := false, narrowed := true }
def RayLinkedUptoSaid : Prop := rayLinkedUptoRow.holds Try.pinned (OpenSpec.upto rayLinkedSpec)

/-- 'footpathlaw29.RayBack', WHERE WHAT IT READS IS OF BULK AT MOST 1048576: true; the input reads as it did. -/
def rayBackUptoRow : OpenClaim := { program := "ytjiklfffcnfdjaa", sum := "582b4b631a4b139be2e67979271291df4a77be3bd0889ed233cfa89b8e7032ac", func := "footpath/footpathlaw29.RayBack", spec := "rayBack", unfollowed := true, recurses := true, plainKeys := false, apart := false, narrowed := true }
def RayBackUptoSaid : Prop := rayBackUptoRow.holds Try.pinned (OpenSpec.upto rayBackSpec)

/-- 'footpathlaw25.LocateInside', WHERE WHAT IT READS IS OF BULK AT MOST 1048576: true; the input reads as it did. -/
def locateInsideUptoRow : OpenClaim := { program := "ytjiklfffcnfdjaa", sum := "582b4b631a4b139be2e67979271291df4a77be3bd0889ed233cfa89b8e7032ac", func := "footpath/footpathlaw25.LocateInside", spec := "locateInside", unfollowed := true, recurses := true, plainKeys := false, apart := false, narrowed := true }
def LocateInsideUptoSaid : Prop := locateInsideUptoRow.holds Try.pinned (OpenSpec.upto locateInsideSpec)

end Rows
end Go.Proofs.Ytjiklfffcnfdjaa
