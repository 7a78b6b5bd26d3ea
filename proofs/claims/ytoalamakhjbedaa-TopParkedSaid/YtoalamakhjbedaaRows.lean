/-
  No cell of these rows narrows 'for every input' (looked for: loops, veiled, ifaces, maps, wideKeys, modest, calm, conditions, laid).
  DERIVED. THE GIVEN ROWS OF THIS SEAT. 12 by the template 'for every input the law returns true; each argument reads behind the call as it read before'; 0 by the template 'total and deterministic' (their statements: YtoalamakhjbedaaTotals.lean).
  GIVEN WITH THE SEED: the statements are not yours to turn. If you find one false, say at which input.
  Laid BY PROGRAM, IN A SANDBOX (cutbox-rows.mjs): the forced cells as the released guide's own fill.sh prints them over the translation c871f4fb4bbc9fbd… (all of the seat's roots in one cut). By AI agents, Wed Nov 11 2026. No macro, syntax, notation, axiom, sorry.
-/
import Derived.Test.YtoalamakhjbedaaChecked
import GoSem.Claim
import GoSem.ClaimJoined
import GoSem.ClaimMapViews
import Derived.JoinedTies
import Derived.KernelRfl
namespace Go.Proofs.Ytoalamakhjbedaa
/- THE CELL 'sum', in the pinned program and in every row, IS THE sha256 OF THE DUMP (.gsa) THAT YtoalamakhjbedaaProg.lean LOADS. Nothing in Lean hashes anything: it is a label: what it is worth is what the hold of that sum in a sandbox is worth. -/
noncomputable def Try.pinned : Pinned := { name := "ytoalamakhjbedaa", sum := "c871f4fb4bbc9fbddc39226e515d6a00f2c88d63d49db77e1aa5ed0a7059db45", checked := Try.checked }
namespace Rows
def none {H : Type} : Left H := { results := [], args := [] }

/-- 'ignitionlaw09.SleepLosses': WHATEVER THE INPUT: true; the input reads as it did. -/
def sleepLossesSpec : ChangeSpec := { name := "sleepLosses", fn := fun _ => fun
  | [d1, d2, d3] => { results := [.lit (.bool true)], args := [d1, d2, d3] }
  | _ => none }
def sleepLossesRow : OpenClaim := { program := "ytoalamakhjbedaa", sum := "c871f4fb4bbc9fbddc39226e515d6a00f2c88d63d49db77e1aa5ed0a7059db45", func := "ignition/ignitionlaw09.SleepLosses", spec := "sleepLosses", unfollowed := true, recurses := true, plainKeys := false, apart := false }
def SleepLossesSaid : Prop := sleepLossesRow.holds Try.pinned (OpenSpec.ofChange sleepLossesSpec)

/-- ITS FALSE NEIGHBOUR: 'it returns false'. Refute it at one input. -/
def sleepLossesWrong : ChangeSpec := { name := "sleepLosses", fn := fun _ => fun
  | [d1, d2, d3] => { results := [.lit (.bool false)], args := [d1, d2, d3] }
  | _ => none }
def SleepLossesWrongFalsely : Prop := sleepLossesRow.holds Try.pinned (OpenSpec.ofChange sleepLossesWrong)

/-- 'ignitionlaw09.SleepAsleep': WHATEVER THE INPUT: true; the input reads as it did. -/
def sleepAsleepSpec : ChangeSpec := { name := "sleepAsleep", fn := fun _ => fun
  | [d1, d2, d3] => { results := [.lit (.bool true)], args := [d1, d2, d3] }
  | _ => none }
def sleepAsleepRow : OpenClaim := { program := "ytoalamakhjbedaa", sum := "c871f4fb4bbc9fbddc39226e515d6a00f2c88d63d49db77e1aa5ed0a7059db45", func := "ignition/ignitionlaw09.SleepAsleep", spec := "sleepAsleep", unfollowed := true, recurses := true, plainKeys := false, apart := false }
def SleepAsleepSaid : Prop := sleepAsleepRow.holds Try.pinned (OpenSpec.ofChange sleepAsleepSpec)

/-- ITS FALSE NEIGHBOUR: 'it returns false'. Refute it at one input. -/
def sleepAsleepWrong : ChangeSpec := { name := "sleepAsleep", fn := fun _ => fun
  | [d1, d2, d3] => { results := [.lit (.bool false)], args := [d1, d2, d3] }
  | _ => none }
def SleepAsleepWrongFalsely : Prop := sleepAsleepRow.holds Try.pinned (OpenSpec.ofChange sleepAsleepWrong)

/-- 'ignitionlaw09.SleepGrows': WHATEVER THE INPUT: true; the input reads as it did. -/
def sleepGrowsSpec : ChangeSpec := { name := "sleepGrows", fn := fun _ => fun
  | [d1, d2, d3] => { results := [.lit (.bool true)], args := [d1, d2, d3] }
  | _ => none }
def sleepGrowsRow : OpenClaim := { program := "ytoalamakhjbedaa", sum := "c871f4fb4bbc9fbddc39226e515d6a00f2c88d63d49db77e1aa5ed0a7059db45", func := "ignition/ignitionlaw09.SleepGrows", spec := "sleepGrows", unfollowed := true, recurses := true, plainKeys := false, apart := false }
def SleepGrowsSaid : Prop := sleepGrowsRow.holds Try.pinned (OpenSpec.ofChange sleepGrowsSpec)

/-- ITS FALSE NEIGHBOUR: 'it returns false'. Refute it at one input. -/
def sleepGrowsWrong : ChangeSpec := { name := "sleepGrows", fn := fun _ => fun
  | [d1, d2, d3] => { results := [.lit (.bool false)], args := [d1, d2, d3] }
  | _ => none }
def SleepGrowsWrongFalsely : Prop := sleepGrowsRow.holds Try.pinned (OpenSpec.ofChange sleepGrowsWrong)

/-- 'ignitionlaw09.SleepParks': WHATEVER THE INPUT: true; the input reads as it did. -/
def sleepParksSpec : ChangeSpec := { name := "sleepParks", fn := fun _ => fun
  | [d1, d2, d3] => { results := [.lit (.bool true)], args := [d1, d2, d3] }
  | _ => none }
def sleepParksRow : OpenClaim := { program := "ytoalamakhjbedaa", sum := "c871f4fb4bbc9fbddc39226e515d6a00f2c88d63d49db77e1aa5ed0a7059db45", func := "ignition/ignitionlaw09.SleepParks", spec := "sleepParks", unfollowed := true, recurses := true, plainKeys := false, apart := false }
def SleepParksSaid : Prop := sleepParksRow.holds Try.pinned (OpenSpec.ofChange sleepParksSpec)

/-- ITS FALSE NEIGHBOUR: 'it returns false'. Refute it at one input. -/
def sleepParksWrong : ChangeSpec := { name := "sleepParks", fn := fun _ => fun
  | [d1, d2, d3] => { results := [.lit (.bool false)], args := [d1, d2, d3] }
  | _ => none }
def SleepParksWrongFalsely : Prop := sleepParksRow.holds Try.pinned (OpenSpec.ofChange sleepParksWrong)

/-- 'ignitionlaw09.SleepPlays': WHATEVER THE INPUT: true; the input reads as it did. -/
def sleepPlaysSpec : ChangeSpec := { name := "sleepPlays", fn := fun _ => fun
  | [d1, d2, d3] => { results := [.lit (.bool true)], args := [d1, d2, d3] }
  | _ => none }
def sleepPlaysRow : OpenClaim := { program := "ytoalamakhjbedaa", sum := "c871f4fb4bbc9fbddc39226e515d6a00f2c88d63d49db77e1aa5ed0a7059db45", func := "ignition/ignitionlaw09.SleepPlays", spec := "sleepPlays", unfollowed := true, recurses := true, plainKeys := false, apart := false }
def SleepPlaysSaid : Prop := sleepPlaysRow.holds Try.pinned (OpenSpec.ofChange sleepPlaysSpec)

/-- ITS FALSE NEIGHBOUR: 'it returns false'. Refute it at one input. -/
def sleepPlaysWrong : ChangeSpec := { name := "sleepPlays", fn := fun _ => fun
  | [d1, d2, d3] => { results := [.lit (.bool false)], args := [d1, d2, d3] }
  | _ => none }
def SleepPlaysWrongFalsely : Prop := sleepPlaysRow.holds Try.pinned (OpenSpec.ofChange sleepPlaysWrong)

/-- 'ignitionlaw09.SleepAwake': WHATEVER THE INPUT: true; the input reads as it did. -/
def sleepAwakeSpec : ChangeSpec := { name := "sleepAwake", fn := fun _ => fun
  | [d1, d2, d3] => { results := [.lit (.bool true)], args := [d1, d2, d3] }
  | _ => none }
def sleepAwakeRow : OpenClaim := { program := "ytoalamakhjbedaa", sum := "c871f4fb4bbc9fbddc39226e515d6a00f2c88d63d49db77e1aa5ed0a7059db45", func := "ignition/ignitionlaw09.SleepAwake", spec := "sleepAwake", unfollowed := true, recurses := true, plainKeys := false, apart := false }
def SleepAwakeSaid : Prop := sleepAwakeRow.holds Try.pinned (OpenSpec.ofChange sleepAwakeSpec)

/-- ITS FALSE NEIGHBOUR: 'it returns false'. Refute it at one input. -/
def sleepAwakeWrong : ChangeSpec := { name := "sleepAwake", fn := fun _ => fun
  | [d1, d2, d3] => { results := [.lit (.bool false)], args := [d1, d2, d3] }
  | _ => none }
def SleepAwakeWrongFalsely : Prop := sleepAwakeRow.holds Try.pinned (OpenSpec.ofChange sleepAwakeWrong)

/-- 'ignitionlaw09.SleepWith': WHATEVER THE INPUT: true; the input reads as it did. -/
def sleepWithSpec : ChangeSpec := { name := "sleepWith", fn := fun _ => fun
  | [d1, d2, d3] => { results := [.lit (.bool true)], args := [d1, d2, d3] }
  | _ => none }
def sleepWithRow : OpenClaim := { program := "ytoalamakhjbedaa", sum := "c871f4fb4bbc9fbddc39226e515d6a00f2c88d63d49db77e1aa5ed0a7059db45", func := "ignition/ignitionlaw09.SleepWith", spec := "sleepWith", unfollowed := true, recurses := true, plainKeys := false, apart := false }
def SleepWithSaid : Prop := sleepWithRow.holds Try.pinned (OpenSpec.ofChange sleepWithSpec)

/-- ITS FALSE NEIGHBOUR: 'it returns false'. Refute it at one input. -/
def sleepWithWrong : ChangeSpec := { name := "sleepWith", fn := fun _ => fun
  | [d1, d2, d3] => { results := [.lit (.bool false)], args := [d1, d2, d3] }
  | _ => none }
def SleepWithWrongFalsely : Prop := sleepWithRow.holds Try.pinned (OpenSpec.ofChange sleepWithWrong)

/-- 'ignitionlaw09.SleepWorst': WHATEVER THE INPUT: true; the input reads as it did. -/
def sleepWorstSpec : ChangeSpec := { name := "sleepWorst", fn := fun _ => fun
  | [d1, d2, d3] => { results := [.lit (.bool true)], args := [d1, d2, d3] }
  | _ => none }
def sleepWorstRow : OpenClaim := { program := "ytoalamakhjbedaa", sum := "c871f4fb4bbc9fbddc39226e515d6a00f2c88d63d49db77e1aa5ed0a7059db45", func := "ignition/ignitionlaw09.SleepWorst", spec := "sleepWorst", unfollowed := true, recurses := true, plainKeys := false, apart := false }
def SleepWorstSaid : Prop := sleepWorstRow.holds Try.pinned (OpenSpec.ofChange sleepWorstSpec)

/-- ITS FALSE NEIGHBOUR: 'it returns false'. Refute it at one input. -/
def sleepWorstWrong : ChangeSpec := { name := "sleepWorst", fn := fun _ => fun
  | [d1, d2, d3] => { results := [.lit (.bool false)], args := [d1, d2, d3] }
  | _ => none }
def SleepWorstWrongFalsely : Prop := sleepWorstRow.holds Try.pinned (OpenSpec.ofChange sleepWorstWrong)

/-- 'ignitionlaw09.SleepBounded': WHATEVER THE INPUT: true; the input reads as it did. -/
def sleepBoundedSpec : ChangeSpec := { name := "sleepBounded", fn := fun _ => fun
  | [d1, d2, d3] => { results := [.lit (.bool true)], args := [d1, d2, d3] }
  | _ => none }
def sleepBoundedRow : OpenClaim := { program := "ytoalamakhjbedaa", sum := "c871f4fb4bbc9fbddc39226e515d6a00f2c88d63d49db77e1aa5ed0a7059db45", func := "ignition/ignitionlaw09.SleepBounded", spec := "sleepBounded", unfollowed := true, recurses := true, plainKeys := false, apart := false }
def SleepBoundedSaid : Prop := sleepBoundedRow.holds Try.pinned (OpenSpec.ofChange sleepBoundedSpec)

/-- ITS FALSE NEIGHBOUR: 'it returns false'. Refute it at one input. -/
def sleepBoundedWrong : ChangeSpec := { name := "sleepBounded", fn := fun _ => fun
  | [d1, d2, d3] => { results := [.lit (.bool false)], args := [d1, d2, d3] }
  | _ => none }
def SleepBoundedWrongFalsely : Prop := sleepBoundedRow.holds Try.pinned (OpenSpec.ofChange sleepBoundedWrong)

/-- 'ignitionlaw09.SleepWakes': WHATEVER THE INPUT: true; the input reads as it did. -/
def sleepWakesSpec : ChangeSpec := { name := "sleepWakes", fn := fun _ => fun
  | [d1, d2, d3] => { results := [.lit (.bool true)], args := [d1, d2, d3] }
  | _ => none }
def sleepWakesRow : OpenClaim := { program := "ytoalamakhjbedaa", sum := "c871f4fb4bbc9fbddc39226e515d6a00f2c88d63d49db77e1aa5ed0a7059db45", func := "ignition/ignitionlaw09.SleepWakes", spec := "sleepWakes", unfollowed := true, recurses := true, plainKeys := false, apart := false }
def SleepWakesSaid : Prop := sleepWakesRow.holds Try.pinned (OpenSpec.ofChange sleepWakesSpec)

/-- ITS FALSE NEIGHBOUR: 'it returns false'. Refute it at one input. -/
def sleepWakesWrong : ChangeSpec := { name := "sleepWakes", fn := fun _ => fun
  | [d1, d2, d3] => { results := [.lit (.bool false)], args := [d1, d2, d3] }
  | _ => none }
def SleepWakesWrongFalsely : Prop := sleepWakesRow.holds Try.pinned (OpenSpec.ofChange sleepWakesWrong)

/-- 'ignitionlaw09.SleepChooses': WHATEVER THE INPUT: true; the input reads as it did. -/
def sleepChoosesSpec : ChangeSpec := { name := "sleepChooses", fn := fun _ => fun
  | [d1, d2, d3] => { results := [.lit (.bool true)], args := [d1, d2, d3] }
  | _ => none }
def sleepChoosesRow : OpenClaim := { program := "ytoalamakhjbedaa", sum := "c871f4fb4bbc9fbddc39226e515d6a00f2c88d63d49db77e1aa5ed0a7059db45", func := "ignition/ignitionlaw09.SleepChooses", spec := "sleepChooses", unfollowed := true, recurses := true, plainKeys := false, apart := false }
def SleepChoosesSaid : Prop := sleepChoosesRow.holds Try.pinned (OpenSpec.ofChange sleepChoosesSpec)

/-- ITS FALSE NEIGHBOUR: 'it returns false'. Refute it at one input. -/
def sleepChoosesWrong : ChangeSpec := { name := "sleepChooses", fn := fun _ => fun
  | [d1, d2, d3] => { results := [.lit (.bool false)], args := [d1, d2, d3] }
  | _ => none }
def SleepChoosesWrongFalsely : Prop := sleepChoosesRow.holds Try.pinned (OpenSpec.ofChange sleepChoosesWrong)

/-- 'ignitiontop.TopParked': WHATEVER THE INPUT: true; the input reads as it did. -/
def topParkedSpec : ChangeSpec := { name := "topParked", fn := fun _ => fun
  | [d1, d2, d3] => { results := [.lit (.bool true)], args := [d1, d2, d3] }
  | _ => none }
def topParkedRow : OpenClaim := { program := "ytoalamakhjbedaa", sum := "c871f4fb4bbc9fbddc39226e515d6a00f2c88d63d49db77e1aa5ed0a7059db45", func := "ignition/ignitiontop.TopParked", spec := "topParked", unfollowed := true, recurses := true, plainKeys := false, apart := false }
def TopParkedSaid : Prop := topParkedRow.holds Try.pinned (OpenSpec.ofChange topParkedSpec)

/-- ITS FALSE NEIGHBOUR: 'it returns false'. Refute it at one input. -/
def topParkedWrong : ChangeSpec := { name := "topParked", fn := fun _ => fun
  | [d1, d2, d3] => { results := [.lit (.bool false)], args := [d1, d2, d3] }
  | _ => none }
def TopParkedWrongFalsely : Prop := topParkedRow.holds Try.pinned (OpenSpec.ofChange topParkedWrong)

/- THE SECOND FORM. 'bulk': how many values and letters a reading holds, each counted each time it is reached (what is shared counts as often as it is met; a slice's spare places count too). A statement '..UptoSaid' is the law's where the arguments, and the package variables that the reading takes, are together of bulk at most 1048576: NARROWER than '..Said'. Prove '..Said' where nothing that the law and all that it calls make is longer than what came in: it says more and counts as full. Else prove '..UptoSaid'. A law counts once. -/
mutual
def uptoBulk {H : Type} : DataW H → Nat
  | .lit (.string bytes) => bytes.length + 1
  | .lit _ => 1
  | .nil => 1
  | .ptr d => uptoBulk d + 1
  | .slice elems spare => uptoBulkAll elems + uptoBulkAll spare + 1
  | .agg parts => uptoBulkAll parts + 1
  | .iface _ d => uptoBulk d + 1
  | .map entries => uptoBulkEntries entries + 1
  | .held _ => 1
def uptoBulkAll {H : Type} : List (DataW H) → Nat
  | [] => 0
  | d :: r => uptoBulk d + uptoBulkAll r
def uptoBulkEntries {H : Type} : List (Lit × DataW H) → Nat
  | [] => 0
  | x :: r => uptoBulkEntry x + uptoBulkEntries r
def uptoBulkEntry {H : Type} : Lit × DataW H → Nat
  | (.string bytes, d) => bytes.length + uptoBulk d + 1
  | (_, d) => uptoBulk d + 1
 end
def uptoSmall : (H : Type) → List (DataW H) → Bool := fun _ ds => decide (uptoBulkAll ds ≤ 1048576)
def OpenSpec.upto (s : _root_.Go.ChangeSpec) : _root_.Go.OpenSpec := { _root_.Go.OpenSpec.ofChange s with cond := some uptoSmall }

/-- 'ignitionlaw09.SleepLosses', WHERE WHAT IT READS IS OF BULK AT MOST 1048576: true; the input reads as it did. -/
def sleepLossesUptoRow : OpenClaim := { program := "ytoalamakhjbedaa", sum := "c871f4fb4bbc9fbddc39226e515d6a00f2c88d63d49db77e1aa5ed0a7059db45", func := "ignition/ignitionlaw09.SleepLosses", spec := "sleepLosses", unfollowed := true, recurses := true, plainKeys := false, apart := false, narrowed := true }
def SleepLossesUptoSaid : Prop := sleepLossesUptoRow.holds Try.pinned (OpenSpec.upto sleepLossesSpec)

/-- 'ignitionlaw09.SleepAsleep', WHERE WHAT IT READS IS OF BULK AT MOST 1048576: true; the input reads as it did. -/
def sleepAsleepUptoRow : OpenClaim := { program := "ytoalamakhjbedaa", sum := "c871f4fb4bbc9fbddc39226e515d6a00f2c88d63d49db77e1aa5ed0a7059db45", func := "ignition/ignitionlaw09.SleepAsleep", spec := "sleepAsleep", unfollowed := true, recurses := true, plainKeys := false, apart := false, narrowed := true }
def SleepAsleepUptoSaid : Prop := sleepAsleepUptoRow.holds Try.pinned (OpenSpec.upto sleepAsleepSpec)

/-- 'ignitionlaw09.SleepGrows', WHERE WHAT IT READS IS OF BULK AT MOST 1048576: true; the input reads as it did. -/
def sleepGrowsUptoRow : OpenClaim := { program := "ytoalamakhjbedaa", sum := "c871f4fb4bbc9fbddc39226e515d6a00f2c88d63d49db77e1aa5ed0a7059db45", func := "ignition/ignitionlaw09.SleepGrows", spec := "sleepGrows", unfollowed := true, recurses := true, plainKeys := false, apart := false, narrowed := true }
def SleepGrowsUptoSaid : Prop := sleepGrowsUptoRow.holds Try.pinned (OpenSpec.upto sleepGrowsSpec)

/-- 'ignitionlaw09.SleepParks', WHERE WHAT IT READS IS OF BULK AT MOST 1048576: true; the input reads as it did. -/
def sleepParksUptoRow : OpenClaim := { program := "ytoalamakhjbedaa", sum := "c871f4fb4bbc9fbddc39226e515d6a00f2c88d63d49db77e1aa5ed0a7059db45", func := "ignition/ignitionlaw09.SleepParks", spec := "sleepParks", unfollowed := true, recurses := true, plainKeys := false, apart := false, narrowed := true }
def SleepParksUptoSaid : Prop := sleepParksUptoRow.holds Try.pinned (OpenSpec.upto sleepParksSpec)

/-- 'ignitionlaw09.SleepPlays', WHERE WHAT IT READS IS OF BULK AT MOST 1048576: true; the input reads as it did. -/
def sleepPlaysUptoRow : OpenClaim := { program := "ytoalamakhjbedaa", sum := "c871f4fb4bbc9fbddc39226e515d6a00f2c88d63d49db77e1aa5ed0a7059db45", func := "ignition/ignitionlaw09.SleepPlays", spec := "sleepPlays", unfollowed := true, recurses := true, plainKeys := false, apart := false, narrowed := true }
def SleepPlaysUptoSaid : Prop := sleepPlaysUptoRow.holds Try.pinned (OpenSpec.upto sleepPlaysSpec)

/-- 'ignitionlaw09.SleepAwake', WHERE WHAT IT READS IS OF BULK AT MOST 1048576: true; the input reads as it did. -/
def sleepAwakeUptoRow : OpenClaim := { program := "ytoalamakhjbedaa", sum := "c871f4fb4bbc9fbddc39226e515d6a00f2c88d63d49db77e1aa5ed0a7059db45", func := "ignition/ignitionlaw09.SleepAwake", spec := "sleepAwake", unfollowed := true, recurses := true, plainKeys := false, apart := false, narrowed := true }
def SleepAwakeUptoSaid : Prop := sleepAwakeUptoRow.holds Try.pinned (OpenSpec.upto sleepAwakeSpec)

/-- 'ignitionlaw09.SleepWith', WHERE WHAT IT READS IS OF BULK AT MOST 1048576: true; the input reads as it did. -/
def sleepWithUptoRow : OpenClaim := { program := "ytoalamakhjbedaa", sum := "c871f4fb4bbc9fbddc39226e515d6a00f2c88d63d49db77e1aa5ed0a7059db45", func := "ignition/ignitionlaw09.SleepWith", spec := "sleepWith", unfollowed := true, recurses := true, plainKeys := false, apart := false, narrowed := true }
def SleepWithUptoSaid : Prop := sleepWithUptoRow.holds Try.pinned (OpenSpec.upto sleepWithSpec)

/-- 'ignitionlaw09.SleepWorst', WHERE WHAT IT READS IS OF BULK AT MOST 1048576: true; the input reads as it did. -/
def sleepWorstUptoRow : OpenClaim := { program := "ytoalamakhjbedaa", sum := "c871f4fb4bbc9fbddc39226e515d6a00f2c88d63d49db77e1aa5ed0a7059db45", func := "ignition/ignitionlaw09.SleepWorst", spec := "sleepWorst", unfollowed := true, recurses := true, plainKeys := false, apart := false, narrowed := true }
def SleepWorstUptoSaid : Prop := sleepWorstUptoRow.holds Try.pinned (OpenSpec.upto sleepWorstSpec)

/-- 'ignitionlaw09.SleepBounded', WHERE WHAT IT READS IS OF BULK AT MOST 1048576: true; the input reads as it did. -/
def sleepBoundedUptoRow : OpenClaim := { program := "ytoalamakhjbedaa", sum := "c871f4fb4bbc9fbddc39226e515d6a00f2c88d63d49db77e1aa5ed0a7059db45", func := "ignition/ignitionlaw09.SleepBounded", spec := "sleepBounded", unfollowed := true, recurses := true, plainKeys := false, apart := false, narrowed := true }
def SleepBoundedUptoSaid : Prop := sleepBoundedUptoRow.holds Try.pinned (OpenSpec.upto sleepBoundedSpec)

/-- 'ignitionlaw09.SleepWakes', WHERE WHAT IT READS IS OF BULK AT MOST 1048576: true; the input reads as it did. -/
def sleepWakesUptoRow : OpenClaim := { program := "ytoalamakhjbedaa", sum := "c871f4fb4bbc9fbddc39226e515d6a00f2c88d63d49db77e1aa5ed0a7059db45", func := "ignition/ignitionlaw09.SleepWakes", spec := "sleepWakes", unfollowed := true, recurses := true, plainKeys := false, apart := false, narrowed := true }
def SleepWakesUptoSaid : Prop := sleepWakesUptoRow.holds Try.pinned (OpenSpec.upto sleepWakesSpec)

/-- 'ignitionlaw09.SleepChooses', WHERE WHAT IT READS IS OF BULK AT MOST 1048576: true; the input reads as it did. -/
def sleepChoosesUptoRow : OpenClaim := { program := "ytoalamakhjbedaa", sum := "c871f4fb4bbc9fbddc39226e515d6a00f2c88d63d49db77e1aa5ed0a7059db45", func := "ignition/ignitionlaw09.SleepChooses", spec := "sleepChooses", unfollowed := true, recurses := true, plainKeys := false, apart := false, narrowed := true }
def SleepChoosesUptoSaid : Prop := sleepChoosesUptoRow.holds Try.pinned (OpenSpec.upto sleepChoosesSpec)

/-- 'ignitiontop.TopParked', WHERE WHAT IT READS IS OF BULK AT MOST 1048576: true; the input reads as it did. -/
def topParkedUptoRow : OpenClaim := { program := "ytoalamakhjbedaa", sum := "c871f4fb4bbc9fbddc39226e515d6a00f2c88d63d49db77e1aa5ed0a7059db45", func := "ignition/ignitiontop.TopParked", spec := "topParked", unfollowed := true, recurses := true, plainKeys := false, apart := false, narrowed := true }
def TopParkedUptoSaid : Prop := topParkedUptoRow.holds Try.pinned (OpenSpec.upto topParkedSpec)

end Rows
end Go.Proofs.Ytoalamakhjbedaa
