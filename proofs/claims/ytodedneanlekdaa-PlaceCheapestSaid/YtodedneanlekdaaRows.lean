/-
  No cell of these rows narrows 'for every input' (looked for: loops, veiled, ifaces, maps, wideKeys, modest, calm, conditions, laid).
  DERIVED. THE GIVEN ROWS OF THIS SEAT. 12 by the template 'for every input the law returns true; each argument reads behind the call as it read before'; 0 by the template 'total and deterministic' (their statements: YtodedneanlekdaaTotals.lean).
  GIVEN WITH THE SEED: the statements are not yours to turn. If you find one false, say at which input.
  Laid BY PROGRAM, IN A SANDBOX (cutbox-rows.mjs): the forced cells as the released guide's own fill.sh prints them over the translation 9f51c656f8631741… (all of the seat's roots in one cut). By AI agents, Wed Nov 11 2026. No macro, syntax, notation, axiom, sorry.
-/
import Derived.Test.YtodedneanlekdaaChecked
import GoSem.Claim
import GoSem.ClaimJoined
import GoSem.ClaimMapViews
import Derived.JoinedTies
import Derived.KernelRfl
namespace Go.Proofs.Ytodedneanlekdaa
/- THE CELL 'sum', in the pinned program and in every row, IS THE sha256 OF THE DUMP (.gsa) THAT YtodedneanlekdaaProg.lean LOADS. Nothing in Lean hashes anything: it is a label: what it is worth is what the hold of that sum in a sandbox is worth. -/
noncomputable def Try.pinned : Pinned := { name := "ytodedneanlekdaa", sum := "9f51c656f86317412cc8eb82294a21c8cf74beed2df2da6208e7680028c93827", checked := Try.checked }
namespace Rows
def none {H : Type} : Left H := { results := [], args := [] }

/-- 'ignitionlaw03.PlaceChecks': WHATEVER THE INPUT: true; the input reads as it did. -/
def placeChecksSpec : ChangeSpec := { name := "placeChecks", fn := fun _ => fun
  | [d] => { results := [.lit (.bool true)], args := [d] }
  | _ => none }
def placeChecksRow : OpenClaim := { program := "ytodedneanlekdaa", sum := "9f51c656f86317412cc8eb82294a21c8cf74beed2df2da6208e7680028c93827", func := "ignition/ignitionlaw03.PlaceChecks", spec := "placeChecks", inPlace := ["slices.overlaps[[2]int]", "slices.overlaps[[]int]"], unfollowed := true, recurses := true, apart := false }
def PlaceChecksSaid : Prop := placeChecksRow.holds Try.pinned (OpenSpec.ofChange placeChecksSpec)

/-- ITS FALSE NEIGHBOUR: 'it returns false'. Refute it at one input. -/
def placeChecksWrong : ChangeSpec := { name := "placeChecks", fn := fun _ => fun
  | [d] => { results := [.lit (.bool false)], args := [d] }
  | _ => none }
def PlaceChecksWrongFalsely : Prop := placeChecksRow.holds Try.pinned (OpenSpec.ofChange placeChecksWrong)

/-- 'ignitionlaw03.PlaceBest': WHATEVER THE INPUT: true; the input reads as it did. -/
def placeBestSpec : ChangeSpec := { name := "placeBest", fn := fun _ => fun
  | [d] => { results := [.lit (.bool true)], args := [d] }
  | _ => none }
def placeBestRow : OpenClaim := { program := "ytodedneanlekdaa", sum := "9f51c656f86317412cc8eb82294a21c8cf74beed2df2da6208e7680028c93827", func := "ignition/ignitionlaw03.PlaceBest", spec := "placeBest", inPlace := ["slices.overlaps[[2]int]", "slices.overlaps[[]int]"], unfollowed := true, recurses := true, apart := false }
def PlaceBestSaid : Prop := placeBestRow.holds Try.pinned (OpenSpec.ofChange placeBestSpec)

/-- ITS FALSE NEIGHBOUR: 'it returns false'. Refute it at one input. -/
def placeBestWrong : ChangeSpec := { name := "placeBest", fn := fun _ => fun
  | [d] => { results := [.lit (.bool false)], args := [d] }
  | _ => none }
def PlaceBestWrongFalsely : Prop := placeBestRow.holds Try.pinned (OpenSpec.ofChange placeBestWrong)

/-- 'ignitionlaw03.PlaceLists': WHATEVER THE INPUT: true; the input reads as it did. -/
def placeListsSpec : ChangeSpec := { name := "placeLists", fn := fun _ => fun
  | [d1, d2] => { results := [.lit (.bool true)], args := [d1, d2] }
  | _ => none }
def placeListsRow : OpenClaim := { program := "ytodedneanlekdaa", sum := "9f51c656f86317412cc8eb82294a21c8cf74beed2df2da6208e7680028c93827", func := "ignition/ignitionlaw03.PlaceLists", spec := "placeLists", inPlace := ["slices.overlaps[[2]int]", "slices.overlaps[[]int]"], unfollowed := true, recurses := true, apart := false }
def PlaceListsSaid : Prop := placeListsRow.holds Try.pinned (OpenSpec.ofChange placeListsSpec)

/-- ITS FALSE NEIGHBOUR: 'it returns false'. Refute it at one input. -/
def placeListsWrong : ChangeSpec := { name := "placeLists", fn := fun _ => fun
  | [d1, d2] => { results := [.lit (.bool false)], args := [d1, d2] }
  | _ => none }
def PlaceListsWrongFalsely : Prop := placeListsRow.holds Try.pinned (OpenSpec.ofChange placeListsWrong)

/-- 'ignitionlaw03.PlaceProves': WHATEVER THE INPUT: true; the input reads as it did. -/
def placeProvesSpec : ChangeSpec := { name := "placeProves", fn := fun _ => fun
  | [d] => { results := [.lit (.bool true)], args := [d] }
  | _ => none }
def placeProvesRow : OpenClaim := { program := "ytodedneanlekdaa", sum := "9f51c656f86317412cc8eb82294a21c8cf74beed2df2da6208e7680028c93827", func := "ignition/ignitionlaw03.PlaceProves", spec := "placeProves", inPlace := ["slices.overlaps[[2]int]", "slices.overlaps[[]int]"], unfollowed := true, recurses := true, apart := false }
def PlaceProvesSaid : Prop := placeProvesRow.holds Try.pinned (OpenSpec.ofChange placeProvesSpec)

/-- ITS FALSE NEIGHBOUR: 'it returns false'. Refute it at one input. -/
def placeProvesWrong : ChangeSpec := { name := "placeProves", fn := fun _ => fun
  | [d] => { results := [.lit (.bool false)], args := [d] }
  | _ => none }
def PlaceProvesWrongFalsely : Prop := placeProvesRow.holds Try.pinned (OpenSpec.ofChange placeProvesWrong)

/-- 'ignitionlaw03.PlaceEasier': WHATEVER THE INPUT: true; the input reads as it did. -/
def placeEasierSpec : ChangeSpec := { name := "placeEasier", fn := fun _ => fun
  | [d1, d2, d3] => { results := [.lit (.bool true)], args := [d1, d2, d3] }
  | _ => none }
def placeEasierRow : OpenClaim := { program := "ytodedneanlekdaa", sum := "9f51c656f86317412cc8eb82294a21c8cf74beed2df2da6208e7680028c93827", func := "ignition/ignitionlaw03.PlaceEasier", spec := "placeEasier", inPlace := ["slices.overlaps[[2]int]", "slices.overlaps[[]int]"], unfollowed := true, recurses := true, apart := false }
def PlaceEasierSaid : Prop := placeEasierRow.holds Try.pinned (OpenSpec.ofChange placeEasierSpec)

/-- ITS FALSE NEIGHBOUR: 'it returns false'. Refute it at one input. -/
def placeEasierWrong : ChangeSpec := { name := "placeEasier", fn := fun _ => fun
  | [d1, d2, d3] => { results := [.lit (.bool false)], args := [d1, d2, d3] }
  | _ => none }
def PlaceEasierWrongFalsely : Prop := placeEasierRow.holds Try.pinned (OpenSpec.ofChange placeEasierWrong)

/-- 'ignitionlaw03.PlacePlans': WHATEVER THE INPUT: true; the input reads as it did. -/
def placePlansSpec : ChangeSpec := { name := "placePlans", fn := fun _ => fun
  | [d1, d2] => { results := [.lit (.bool true)], args := [d1, d2] }
  | _ => none }
def placePlansRow : OpenClaim := { program := "ytodedneanlekdaa", sum := "9f51c656f86317412cc8eb82294a21c8cf74beed2df2da6208e7680028c93827", func := "ignition/ignitionlaw03.PlacePlans", spec := "placePlans", inPlace := ["slices.overlaps[[2]int]", "slices.overlaps[[]int]"], unfollowed := true, recurses := true, apart := false }
def PlacePlansSaid : Prop := placePlansRow.holds Try.pinned (OpenSpec.ofChange placePlansSpec)

/-- ITS FALSE NEIGHBOUR: 'it returns false'. Refute it at one input. -/
def placePlansWrong : ChangeSpec := { name := "placePlans", fn := fun _ => fun
  | [d1, d2] => { results := [.lit (.bool false)], args := [d1, d2] }
  | _ => none }
def PlacePlansWrongFalsely : Prop := placePlansRow.holds Try.pinned (OpenSpec.ofChange placePlansWrong)

/-- 'ignitionlaw03.PlaceBegins': WHATEVER THE INPUT: true; the input reads as it did. -/
def placeBeginsSpec : ChangeSpec := { name := "placeBegins", fn := fun _ => fun
  | [d1, d2] => { results := [.lit (.bool true)], args := [d1, d2] }
  | _ => none }
def placeBeginsRow : OpenClaim := { program := "ytodedneanlekdaa", sum := "9f51c656f86317412cc8eb82294a21c8cf74beed2df2da6208e7680028c93827", func := "ignition/ignitionlaw03.PlaceBegins", spec := "placeBegins", inPlace := ["slices.overlaps[[2]int]", "slices.overlaps[[]int]"], unfollowed := true, recurses := true, apart := false }
def PlaceBeginsSaid : Prop := placeBeginsRow.holds Try.pinned (OpenSpec.ofChange placeBeginsSpec)

/-- ITS FALSE NEIGHBOUR: 'it returns false'. Refute it at one input. -/
def placeBeginsWrong : ChangeSpec := { name := "placeBegins", fn := fun _ => fun
  | [d1, d2] => { results := [.lit (.bool false)], args := [d1, d2] }
  | _ => none }
def PlaceBeginsWrongFalsely : Prop := placeBeginsRow.holds Try.pinned (OpenSpec.ofChange placeBeginsWrong)

/-- 'ignitionlaw03.PlaceRepairs': WHATEVER THE INPUT: true; the input reads as it did. -/
def placeRepairsSpec : ChangeSpec := { name := "placeRepairs", fn := fun _ => fun
  | [d1, d2, d3] => { results := [.lit (.bool true)], args := [d1, d2, d3] }
  | _ => none }
def placeRepairsRow : OpenClaim := { program := "ytodedneanlekdaa", sum := "9f51c656f86317412cc8eb82294a21c8cf74beed2df2da6208e7680028c93827", func := "ignition/ignitionlaw03.PlaceRepairs", spec := "placeRepairs", inPlace := ["slices.overlaps[[2]int]", "slices.overlaps[[]int]"], unfollowed := true, recurses := true, apart := false }
def PlaceRepairsSaid : Prop := placeRepairsRow.holds Try.pinned (OpenSpec.ofChange placeRepairsSpec)

/-- ITS FALSE NEIGHBOUR: 'it returns false'. Refute it at one input. -/
def placeRepairsWrong : ChangeSpec := { name := "placeRepairs", fn := fun _ => fun
  | [d1, d2, d3] => { results := [.lit (.bool false)], args := [d1, d2, d3] }
  | _ => none }
def PlaceRepairsWrongFalsely : Prop := placeRepairsRow.holds Try.pinned (OpenSpec.ofChange placeRepairsWrong)

/-- 'ignitionlaw03.PlaceSaves': WHATEVER THE INPUT: true; the input reads as it did. -/
def placeSavesSpec : ChangeSpec := { name := "placeSaves", fn := fun _ => fun
  | [d1, d2] => { results := [.lit (.bool true)], args := [d1, d2] }
  | _ => none }
def placeSavesRow : OpenClaim := { program := "ytodedneanlekdaa", sum := "9f51c656f86317412cc8eb82294a21c8cf74beed2df2da6208e7680028c93827", func := "ignition/ignitionlaw03.PlaceSaves", spec := "placeSaves", inPlace := ["slices.overlaps[[2]int]", "slices.overlaps[[]int]"], unfollowed := true, recurses := true, apart := false }
def PlaceSavesSaid : Prop := placeSavesRow.holds Try.pinned (OpenSpec.ofChange placeSavesSpec)

/-- ITS FALSE NEIGHBOUR: 'it returns false'. Refute it at one input. -/
def placeSavesWrong : ChangeSpec := { name := "placeSaves", fn := fun _ => fun
  | [d1, d2] => { results := [.lit (.bool false)], args := [d1, d2] }
  | _ => none }
def PlaceSavesWrongFalsely : Prop := placeSavesRow.holds Try.pinned (OpenSpec.ofChange placeSavesWrong)

/-- 'ignitionlaw03.PlaceConflicts': WHATEVER THE INPUT: true; the input reads as it did. -/
def placeConflictsSpec : ChangeSpec := { name := "placeConflicts", fn := fun _ => fun
  | [d] => { results := [.lit (.bool true)], args := [d] }
  | _ => none }
def placeConflictsRow : OpenClaim := { program := "ytodedneanlekdaa", sum := "9f51c656f86317412cc8eb82294a21c8cf74beed2df2da6208e7680028c93827", func := "ignition/ignitionlaw03.PlaceConflicts", spec := "placeConflicts", inPlace := ["slices.overlaps[[2]int]", "slices.overlaps[[]int]"], unfollowed := true, recurses := true, apart := false }
def PlaceConflictsSaid : Prop := placeConflictsRow.holds Try.pinned (OpenSpec.ofChange placeConflictsSpec)

/-- ITS FALSE NEIGHBOUR: 'it returns false'. Refute it at one input. -/
def placeConflictsWrong : ChangeSpec := { name := "placeConflicts", fn := fun _ => fun
  | [d] => { results := [.lit (.bool false)], args := [d] }
  | _ => none }
def PlaceConflictsWrongFalsely : Prop := placeConflictsRow.holds Try.pinned (OpenSpec.ofChange placeConflictsWrong)

/-- 'ignitionlaw03.PlaceLeaves': WHATEVER THE INPUT: true; the input reads as it did. -/
def placeLeavesSpec : ChangeSpec := { name := "placeLeaves", fn := fun _ => fun
  | [d1, d2, d3] => { results := [.lit (.bool true)], args := [d1, d2, d3] }
  | _ => none }
def placeLeavesRow : OpenClaim := { program := "ytodedneanlekdaa", sum := "9f51c656f86317412cc8eb82294a21c8cf74beed2df2da6208e7680028c93827", func := "ignition/ignitionlaw03.PlaceLeaves", spec := "placeLeaves", inPlace := ["slices.overlaps[[2]int]", "slices.overlaps[[]int]"], unfollowed := true, recurses := true, apart := false }
def PlaceLeavesSaid : Prop := placeLeavesRow.holds Try.pinned (OpenSpec.ofChange placeLeavesSpec)

/-- ITS FALSE NEIGHBOUR: 'it returns false'. Refute it at one input. -/
def placeLeavesWrong : ChangeSpec := { name := "placeLeaves", fn := fun _ => fun
  | [d1, d2, d3] => { results := [.lit (.bool false)], args := [d1, d2, d3] }
  | _ => none }
def PlaceLeavesWrongFalsely : Prop := placeLeavesRow.holds Try.pinned (OpenSpec.ofChange placeLeavesWrong)

/-- 'ignitionlaw03.PlaceCheapest': WHATEVER THE INPUT: true; the input reads as it did. -/
def placeCheapestSpec : ChangeSpec := { name := "placeCheapest", fn := fun _ => fun
  | [d1, d2, d3] => { results := [.lit (.bool true)], args := [d1, d2, d3] }
  | _ => none }
def placeCheapestRow : OpenClaim := { program := "ytodedneanlekdaa", sum := "9f51c656f86317412cc8eb82294a21c8cf74beed2df2da6208e7680028c93827", func := "ignition/ignitionlaw03.PlaceCheapest", spec := "placeCheapest", inPlace := ["slices.overlaps[[2]int]", "slices.overlaps[[]int]"], unfollowed := true, recurses := true, apart := false }
def PlaceCheapestSaid : Prop := placeCheapestRow.holds Try.pinned (OpenSpec.ofChange placeCheapestSpec)

/-- ITS FALSE NEIGHBOUR: 'it returns false'. Refute it at one input. -/
def placeCheapestWrong : ChangeSpec := { name := "placeCheapest", fn := fun _ => fun
  | [d1, d2, d3] => { results := [.lit (.bool false)], args := [d1, d2, d3] }
  | _ => none }
def PlaceCheapestWrongFalsely : Prop := placeCheapestRow.holds Try.pinned (OpenSpec.ofChange placeCheapestWrong)

/- THE SECOND FORM. 'bulk': how many values and letters a reading holds, each counted each time it is reached (what is shared counts as often as it is met; a slice's spare places count too). A statement '..UptoSaid' is the law's where the arguments, and the package variables that the reading takes, are together of bulk at most 1048576: NARROWER than '..Said'. Prove '..Said' where nothing that the law and all that it calls make is longer than what came in: it says more and counts as full. Else prove '..UptoSaid'. A law counts once. -/
mutual
def uptoBulk {H : Type} : DataW H → Nat
  | .lit (.string bytes) => bytes.length + 1
  | .lit _ => 1
  | .nil => 1
  | .ptr d => uptoBulk d + 1
  | .slice elems spare => uptoBulkAll elems + uptoBulkAll spare + 1
  | .agg parts => uptoBulkAll parts + 1
  | .iface _ d => uptoBulk d + 1
  | .map entries => uptoBulkEntries entries + 1
  | .held _ => 1
def uptoBulkAll {H : Type} : List (DataW H) → Nat
  | [] => 0
  | d :: r => uptoBulk d + uptoBulkAll r
def uptoBulkEntries {H : Type} : List (Lit × DataW H) → Nat
  | [] => 0
  | x :: r => uptoBulkEntry x + uptoBulkEntries r
def uptoBulkEntry {H : Type} : Lit × DataW H → Nat
  | (.string bytes, d) => bytes.length + uptoBulk d + 1
  | (_, d) => uptoBulk d + 1
 end
def uptoSmall : (H : Type) → List (DataW H) → Bool := fun _ ds => decide (uptoBulkAll ds ≤ 1048576)
def OpenSpec.upto (s : _root_.Go.ChangeSpec) : _root_.Go.OpenSpec := { _root_.Go.OpenSpec.ofChange s with cond := some uptoSmall }

/-- 'ignitionlaw03.PlaceChecks', WHERE WHAT IT READS IS OF BULK AT MOST 1048576: true; the input reads as it did. -/
def placeChecksUptoRow : OpenClaim := { program := "ytodedneanlekdaa", sum := "9f51c656f86317412cc8eb82294a21c8cf74beed2df2da6208e7680028c93827", func := "ignition/ignitionlaw03.PlaceChecks", spec := "placeChecks", inPlace := ["slices.overlaps[[2]int]", "slices.overlaps[[]int]"], unfollowed := true, recurses := true, apart := false, narrowed := true }
def PlaceChecksUptoSaid : Prop := placeChecksUptoRow.holds Try.pinned (OpenSpec.upto placeChecksSpec)

/-- 'ignitionlaw03.PlaceBest', WHERE WHAT IT READS IS OF BULK AT MOST 1048576: true; the input reads as it did. -/
def placeBestUptoRow : OpenClaim := { program := "ytodedneanlekdaa", sum := "9f51c656f86317412cc8eb82294a21c8cf74beed2df2da6208e7680028c93827", func := "ignition/ignitionlaw03.PlaceBest", spec := "placeBest", inPlace := ["slices.overlaps[[2]int]", "slices.overlaps[[]int]"], unfollowed := true, recurses := true, apart := false, narrowed := true }
def PlaceBestUptoSaid : Prop := placeBestUptoRow.holds Try.pinned (OpenSpec.upto placeBestSpec)

/-- 'ignitionlaw03.PlaceLists', WHERE WHAT IT READS IS OF BULK AT MOST 1048576: true; the input reads as it did. -/
def placeListsUptoRow : OpenClaim := { program := "ytodedneanlekdaa", sum := "9f51c656f86317412cc8eb82294a21c8cf74beed2df2da6208e7680028c93827", func := "ignition/ignitionlaw03.PlaceLists", spec := "placeLists", inPlace := ["slices.overlaps[[2]int]", "slices.overlaps[[]int]"], unfollowed := true, recurses := true, apart := false, narrowed := true }
def PlaceListsUptoSaid : Prop := placeListsUptoRow.holds Try.pinned (OpenSpec.upto placeListsSpec)

/-- 'ignitionlaw03.PlaceProves', WHERE WHAT IT READS IS OF BULK AT MOST 1048576: true; the input reads as it did. -/
def placeProvesUptoRow : OpenClaim := { program := "ytodedneanlekdaa", sum := "9f51c656f86317412cc8eb82294a21c8cf74beed2df2da6208e7680028c93827", func := "ignition/ignitionlaw03.PlaceProves", spec := "placeProves", inPlace := ["slices.overlaps[[2]int]", "slices.overlaps[[]int]"], unfollowed := true, recurses := true, apart := false, narrowed := true }
def PlaceProvesUptoSaid : Prop := placeProvesUptoRow.holds Try.pinned (OpenSpec.upto placeProvesSpec)

/-- 'ignitionlaw03.PlaceEasier', WHERE WHAT IT READS IS OF BULK AT MOST 1048576: true; the input reads as it did. -/
def placeEasierUptoRow : OpenClaim := { program := "ytodedneanlekdaa", sum := "9f51c656f86317412cc8eb82294a21c8cf74beed2df2da6208e7680028c93827", func := "ignition/ignitionlaw03.PlaceEasier", spec := "placeEasier", inPlace := ["slices.overlaps[[2]int]", "slices.overlaps[[]int]"], unfollowed := true, recurses := true, apart := false, narrowed := true }
def PlaceEasierUptoSaid : Prop := placeEasierUptoRow.holds Try.pinned (OpenSpec.upto placeEasierSpec)

/-- 'ignitionlaw03.PlacePlans', WHERE WHAT IT READS IS OF BULK AT MOST 1048576: true; the input reads as it did. -/
def placePlansUptoRow : OpenClaim := { program := "ytodedneanlekdaa", sum := "9f51c656f86317412cc8eb82294a21c8cf74beed2df2da6208e7680028c93827", func := "ignition/ignitionlaw03.PlacePlans", spec := "placePlans", inPlace := ["slices.overlaps[[2]int]", "slices.overlaps[[]int]"], unfollowed := true, recurses := true, apart := false, narrowed := true }
def PlacePlansUptoSaid : Prop := placePlansUptoRow.holds Try.pinned (OpenSpec.upto placePlansSpec)

/-- 'ignitionlaw03.PlaceBegins', WHERE WHAT IT READS IS OF BULK AT MOST 1048576: true; the input reads as it did. -/
def placeBeginsUptoRow : OpenClaim := { program := "ytodedneanlekdaa", sum := "9f51c656f86317412cc8eb82294a21c8cf74beed2df2da6208e7680028c93827", func := "ignition/ignitionlaw03.PlaceBegins", spec := "placeBegins", inPlace := ["slices.overlaps[[2]int]", "slices.overlaps[[]int]"], unfollowed := true, recurses := true, apart := false, narrowed := true }
def PlaceBeginsUptoSaid : Prop := placeBeginsUptoRow.holds Try.pinned (OpenSpec.upto placeBeginsSpec)

/-- 'ignitionlaw03.PlaceRepairs', WHERE WHAT IT READS IS OF BULK AT MOST 1048576: true; the input reads as it did. -/
def placeRepairsUptoRow : OpenClaim := { program := "ytodedneanlekdaa", sum := "9f51c656f86317412cc8eb82294a21c8cf74beed2df2da6208e7680028c93827", func := "ignition/ignitionlaw03.PlaceRepairs", spec := "placeRepairs", inPlace := ["slices.overlaps[[2]int]", "slices.overlaps[[]int]"], unfollowed := true, recurses := true, apart := false, narrowed := true }
def PlaceRepairsUptoSaid : Prop := placeRepairsUptoRow.holds Try.pinned (OpenSpec.upto placeRepairsSpec)

/-- 'ignitionlaw03.PlaceSaves', WHERE WHAT IT READS IS OF BULK AT MOST 1048576: true; the input reads as it did. -/
def placeSavesUptoRow : OpenClaim := { program := "ytodedneanlekdaa", sum := "9f51c656f86317412cc8eb82294a21c8cf74beed2df2da6208e7680028c93827", func := "ignition/ignitionlaw03.PlaceSaves", spec := "placeSaves", inPlace := ["slices.overlaps[[2]int]", "slices.overlaps[[]int]"], unfollowed := true, recurses := true, apart := false, narrowed := true }
def PlaceSavesUptoSaid : Prop := placeSavesUptoRow.holds Try.pinned (OpenSpec.upto placeSavesSpec)

/-- 'ignitionlaw03.PlaceConflicts', WHERE WHAT IT READS IS OF BULK AT MOST 1048576: true; the input reads as it did. -/
def placeConflictsUptoRow : OpenClaim := { program := "ytodedneanlekdaa", sum := "9f51c656f86317412cc8eb82294a21c8cf74beed2df2da6208e7680028c93827", func := "ignition/ignitionlaw03.PlaceConflicts", spec := "placeConflicts", inPlace := ["slices.overlaps[[2]int]", "slices.overlaps[[]int]"], unfollowed := true, recurses := true, apart := false, narrowed := true }
def PlaceConflictsUptoSaid : Prop := placeConflictsUptoRow.holds Try.pinned (OpenSpec.upto placeConflictsSpec)

/-- 'ignitionlaw03.PlaceLeaves', WHERE WHAT IT READS IS OF BULK AT MOST 1048576: true; the input reads as it did. -/
def placeLeavesUptoRow : OpenClaim := { program := "ytodedneanlekdaa", sum := "9f51c656f86317412cc8eb82294a21c8cf74beed2df2da6208e7680028c93827", func := "ignition/ignitionlaw03.PlaceLeaves", spec := "placeLeaves", inPlace := ["slices.overlaps[[2]int]", "slices.overlaps[[]int]"], unfollowed := true, recurses := true, apart := false, narrowed := true }
def PlaceLeavesUptoSaid : Prop := placeLeavesUptoRow.holds Try.pinned (OpenSpec.upto placeLeavesSpec)

/-- 'ignitionlaw03.PlaceCheapest', WHERE WHAT IT READS IS OF BULK AT MOST 1048576: true; the input reads as it did. -/
def placeCheapestUptoRow : OpenClaim := { program := "ytodedneanlekdaa", sum := "9f51c656f86317412cc8eb82294a21c8cf74beed2df2da6208e7680028c93827", func := "ignition/ignitionlaw03.PlaceCheapest", spec := "placeCheapest", inPlace := ["slices.overlaps[[2]int]", "slices.overlaps[[]int]"], unfollowed := true, recurses := true, apart := false, narrowed := true }
def PlaceCheapestUptoSaid : Prop := placeCheapestUptoRow.holds Try.pinned (OpenSpec.upto placeCheapestSpec)

end Rows
end Go.Proofs.Ytodedneanlekdaa
