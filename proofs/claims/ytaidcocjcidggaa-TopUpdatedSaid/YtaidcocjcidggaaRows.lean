/-
  No cell of these rows narrows 'for every input' (looked for: loops, veiled, ifaces, maps, wideKeys, modest, calm, conditions, laid).
  DERIVED. THE GIVEN ROWS OF THIS SEAT. 12 by the template 'for every input the law returns true; each argument reads behind the call as it read before'; 0 by the template 'total and deterministic' (their statements: YtaidcocjcidggaaTotals.lean).
  GIVEN WITH THE SEED: the statements are not yours to turn. If you find one false, say at which input.
  Laid BY PROGRAM, IN A SANDBOX (cutbox-rows.mjs): the forced cells as the released guide's own fill.sh prints them over the translation eb193499c588e86e… (all of the seat's roots in one cut). By AI agents, Wed Nov 11 2026. No macro, syntax, notation, axiom, sorry.
-/
import Derived.Test.YtaidcocjcidggaaChecked
import GoSem.Claim
import GoSem.ClaimJoined
import GoSem.ClaimMapViews
import Derived.JoinedTies
import Derived.KernelRfl
namespace Go.Proofs.Ytaidcocjcidggaa
/- THE CELL 'sum', in the pinned program and in every row, IS THE sha256 OF THE DUMP (.gsa) THAT YtaidcocjcidggaaProg.lean LOADS. Nothing in Lean hashes anything: it is a label: what it is worth is what the hold of that sum in a sandbox is worth. -/
noncomputable def Try.pinned : Pinned := { name := "ytaidcocjcidggaa", sum := "eb193499c588e86eaeaeb619c9222b7d79b67f7c10ca75f575d24fdde67fd0b1", checked := Try.checked }
namespace Rows
def none {H : Type} : Left H := { results := [], args := [] }

/-- 'ignitionlaw11.UpdatePlans': WHATEVER THE INPUT: true; the input reads as it did. -/
def updatePlansSpec : ChangeSpec := { name := "updatePlans", fn := fun _ => fun
  | [d1, d2, d3] => { results := [.lit (.bool true)], args := [d1, d2, d3] }
  | _ => none }
def updatePlansRow : OpenClaim := { program := "ytaidcocjcidggaa", sum := "eb193499c588e86eaeaeb619c9222b7d79b67f7c10ca75f575d24fdde67fd0b1", func := "ignition/ignitionlaw11.UpdatePlans", spec := "updatePlans", unfollowed := true, recurses := true, plainKeys := false, apart := false }
def UpdatePlansSaid : Prop := updatePlansRow.holds Try.pinned (OpenSpec.ofChange updatePlansSpec)

/-- ITS FALSE NEIGHBOUR: 'it returns false'. Refute it at one input. -/
def updatePlansWrong : ChangeSpec := { name := "updatePlans", fn := fun _ => fun
  | [d1, d2, d3] => { results := [.lit (.bool false)], args := [d1, d2, d3] }
  | _ => none }
def UpdatePlansWrongFalsely : Prop := updatePlansRow.holds Try.pinned (OpenSpec.ofChange updatePlansWrong)

/-- 'ignitionlaw11.UpdateEnough': WHATEVER THE INPUT: true; the input reads as it did. -/
def updateEnoughSpec : ChangeSpec := { name := "updateEnough", fn := fun _ => fun
  | [d1, d2] => { results := [.lit (.bool true)], args := [d1, d2] }
  | _ => none }
def updateEnoughRow : OpenClaim := { program := "ytaidcocjcidggaa", sum := "eb193499c588e86eaeaeb619c9222b7d79b67f7c10ca75f575d24fdde67fd0b1", func := "ignition/ignitionlaw11.UpdateEnough", spec := "updateEnough", unfollowed := true, recurses := true, plainKeys := false, apart := false }
def UpdateEnoughSaid : Prop := updateEnoughRow.holds Try.pinned (OpenSpec.ofChange updateEnoughSpec)

/-- ITS FALSE NEIGHBOUR: 'it returns false'. Refute it at one input. -/
def updateEnoughWrong : ChangeSpec := { name := "updateEnough", fn := fun _ => fun
  | [d1, d2] => { results := [.lit (.bool false)], args := [d1, d2] }
  | _ => none }
def UpdateEnoughWrongFalsely : Prop := updateEnoughRow.holds Try.pinned (OpenSpec.ofChange updateEnoughWrong)

/-- 'ignitionlaw11.UpdateShortest': WHATEVER THE INPUT: true; the input reads as it did. -/
def updateShortestSpec : ChangeSpec := { name := "updateShortest", fn := fun _ => fun
  | [d1, d2, d3] => { results := [.lit (.bool true)], args := [d1, d2, d3] }
  | _ => none }
def updateShortestRow : OpenClaim := { program := "ytaidcocjcidggaa", sum := "eb193499c588e86eaeaeb619c9222b7d79b67f7c10ca75f575d24fdde67fd0b1", func := "ignition/ignitionlaw11.UpdateShortest", spec := "updateShortest", unfollowed := true, recurses := true, plainKeys := false, apart := false }
def UpdateShortestSaid : Prop := updateShortestRow.holds Try.pinned (OpenSpec.ofChange updateShortestSpec)

/-- ITS FALSE NEIGHBOUR: 'it returns false'. Refute it at one input. -/
def updateShortestWrong : ChangeSpec := { name := "updateShortest", fn := fun _ => fun
  | [d1, d2, d3] => { results := [.lit (.bool false)], args := [d1, d2, d3] }
  | _ => none }
def UpdateShortestWrongFalsely : Prop := updateShortestRow.holds Try.pinned (OpenSpec.ofChange updateShortestWrong)

/-- 'ignitionlaw11.UpdateTags': WHATEVER THE INPUT: true; the input reads as it did. -/
def updateTagsSpec : ChangeSpec := { name := "updateTags", fn := fun _ => fun
  | [d1, d2, d3] => { results := [.lit (.bool true)], args := [d1, d2, d3] }
  | _ => none }
def updateTagsRow : OpenClaim := { program := "ytaidcocjcidggaa", sum := "eb193499c588e86eaeaeb619c9222b7d79b67f7c10ca75f575d24fdde67fd0b1", func := "ignition/ignitionlaw11.UpdateTags", spec := "updateTags", unfollowed := true, recurses := true, plainKeys := false, apart := false }
def UpdateTagsSaid : Prop := updateTagsRow.holds Try.pinned (OpenSpec.ofChange updateTagsSpec)

/-- ITS FALSE NEIGHBOUR: 'it returns false'. Refute it at one input. -/
def updateTagsWrong : ChangeSpec := { name := "updateTags", fn := fun _ => fun
  | [d1, d2, d3] => { results := [.lit (.bool false)], args := [d1, d2, d3] }
  | _ => none }
def UpdateTagsWrongFalsely : Prop := updateTagsRow.holds Try.pinned (OpenSpec.ofChange updateTagsWrong)

/-- 'ignitionlaw11.UpdateChecks': WHATEVER THE INPUT: true; the input reads as it did. -/
def updateChecksSpec : ChangeSpec := { name := "updateChecks", fn := fun _ => fun
  | [d1, d2] => { results := [.lit (.bool true)], args := [d1, d2] }
  | _ => none }
def updateChecksRow : OpenClaim := { program := "ytaidcocjcidggaa", sum := "eb193499c588e86eaeaeb619c9222b7d79b67f7c10ca75f575d24fdde67fd0b1", func := "ignition/ignitionlaw11.UpdateChecks", spec := "updateChecks", unfollowed := true, recurses := true, plainKeys := false, apart := false }
def UpdateChecksSaid : Prop := updateChecksRow.holds Try.pinned (OpenSpec.ofChange updateChecksSpec)

/-- ITS FALSE NEIGHBOUR: 'it returns false'. Refute it at one input. -/
def updateChecksWrong : ChangeSpec := { name := "updateChecks", fn := fun _ => fun
  | [d1, d2] => { results := [.lit (.bool false)], args := [d1, d2] }
  | _ => none }
def UpdateChecksWrongFalsely : Prop := updateChecksRow.holds Try.pinned (OpenSpec.ofChange updateChecksWrong)

/-- 'ignitionlaw11.UpdateInstalls': WHATEVER THE INPUT: true; the input reads as it did. -/
def updateInstallsSpec : ChangeSpec := { name := "updateInstalls", fn := fun _ => fun
  | [d1, d2, d3] => { results := [.lit (.bool true)], args := [d1, d2, d3] }
  | _ => none }
def updateInstallsRow : OpenClaim := { program := "ytaidcocjcidggaa", sum := "eb193499c588e86eaeaeb619c9222b7d79b67f7c10ca75f575d24fdde67fd0b1", func := "ignition/ignitionlaw11.UpdateInstalls", spec := "updateInstalls", unfollowed := true, recurses := true, plainKeys := false, apart := false }
def UpdateInstallsSaid : Prop := updateInstallsRow.holds Try.pinned (OpenSpec.ofChange updateInstallsSpec)

/-- ITS FALSE NEIGHBOUR: 'it returns false'. Refute it at one input. -/
def updateInstallsWrong : ChangeSpec := { name := "updateInstalls", fn := fun _ => fun
  | [d1, d2, d3] => { results := [.lit (.bool false)], args := [d1, d2, d3] }
  | _ => none }
def UpdateInstallsWrongFalsely : Prop := updateInstallsRow.holds Try.pinned (OpenSpec.ofChange updateInstallsWrong)

/-- 'ignitionlaw11.UpdateWorks': WHATEVER THE INPUT: true; the input reads as it did. -/
def updateWorksSpec : ChangeSpec := { name := "updateWorks", fn := fun _ => fun
  | [d1, d2] => { results := [.lit (.bool true)], args := [d1, d2] }
  | _ => none }
def updateWorksRow : OpenClaim := { program := "ytaidcocjcidggaa", sum := "eb193499c588e86eaeaeb619c9222b7d79b67f7c10ca75f575d24fdde67fd0b1", func := "ignition/ignitionlaw11.UpdateWorks", spec := "updateWorks", unfollowed := true, recurses := true, plainKeys := false, apart := false }
def UpdateWorksSaid : Prop := updateWorksRow.holds Try.pinned (OpenSpec.ofChange updateWorksSpec)

/-- ITS FALSE NEIGHBOUR: 'it returns false'. Refute it at one input. -/
def updateWorksWrong : ChangeSpec := { name := "updateWorks", fn := fun _ => fun
  | [d1, d2] => { results := [.lit (.bool false)], args := [d1, d2] }
  | _ => none }
def UpdateWorksWrongFalsely : Prop := updateWorksRow.holds Try.pinned (OpenSpec.ofChange updateWorksWrong)

/-- 'ignitionlaw11.UpdateSafe': WHATEVER THE INPUT: true; the input reads as it did. -/
def updateSafeSpec : ChangeSpec := { name := "updateSafe", fn := fun _ => fun
  | [d1, d2, d3] => { results := [.lit (.bool true)], args := [d1, d2, d3] }
  | _ => none }
def updateSafeRow : OpenClaim := { program := "ytaidcocjcidggaa", sum := "eb193499c588e86eaeaeb619c9222b7d79b67f7c10ca75f575d24fdde67fd0b1", func := "ignition/ignitionlaw11.UpdateSafe", spec := "updateSafe", unfollowed := true, recurses := true, plainKeys := false, apart := false }
def UpdateSafeSaid : Prop := updateSafeRow.holds Try.pinned (OpenSpec.ofChange updateSafeSpec)

/-- ITS FALSE NEIGHBOUR: 'it returns false'. Refute it at one input. -/
def updateSafeWrong : ChangeSpec := { name := "updateSafe", fn := fun _ => fun
  | [d1, d2, d3] => { results := [.lit (.bool false)], args := [d1, d2, d3] }
  | _ => none }
def UpdateSafeWrongFalsely : Prop := updateSafeRow.holds Try.pinned (OpenSpec.ofChange updateSafeWrong)

/-- 'ignitionlaw11.UpdateSigned': WHATEVER THE INPUT: true; the input reads as it did. -/
def updateSignedSpec : ChangeSpec := { name := "updateSigned", fn := fun _ => fun
  | [d1, d2, d3] => { results := [.lit (.bool true)], args := [d1, d2, d3] }
  | _ => none }
def updateSignedRow : OpenClaim := { program := "ytaidcocjcidggaa", sum := "eb193499c588e86eaeaeb619c9222b7d79b67f7c10ca75f575d24fdde67fd0b1", func := "ignition/ignitionlaw11.UpdateSigned", spec := "updateSigned", unfollowed := true, recurses := true, plainKeys := false, apart := false }
def UpdateSignedSaid : Prop := updateSignedRow.holds Try.pinned (OpenSpec.ofChange updateSignedSpec)

/-- ITS FALSE NEIGHBOUR: 'it returns false'. Refute it at one input. -/
def updateSignedWrong : ChangeSpec := { name := "updateSigned", fn := fun _ => fun
  | [d1, d2, d3] => { results := [.lit (.bool false)], args := [d1, d2, d3] }
  | _ => none }
def UpdateSignedWrongFalsely : Prop := updateSignedRow.holds Try.pinned (OpenSpec.ofChange updateSignedWrong)

/-- 'ignitionlaw11.UpdateReaches': WHATEVER THE INPUT: true; the input reads as it did. -/
def updateReachesSpec : ChangeSpec := { name := "updateReaches", fn := fun _ => fun
  | [d1, d2, d3] => { results := [.lit (.bool true)], args := [d1, d2, d3] }
  | _ => none }
def updateReachesRow : OpenClaim := { program := "ytaidcocjcidggaa", sum := "eb193499c588e86eaeaeb619c9222b7d79b67f7c10ca75f575d24fdde67fd0b1", func := "ignition/ignitionlaw11.UpdateReaches", spec := "updateReaches", unfollowed := true, recurses := true, plainKeys := false, apart := false }
def UpdateReachesSaid : Prop := updateReachesRow.holds Try.pinned (OpenSpec.ofChange updateReachesSpec)

/-- ITS FALSE NEIGHBOUR: 'it returns false'. Refute it at one input. -/
def updateReachesWrong : ChangeSpec := { name := "updateReaches", fn := fun _ => fun
  | [d1, d2, d3] => { results := [.lit (.bool false)], args := [d1, d2, d3] }
  | _ => none }
def UpdateReachesWrongFalsely : Prop := updateReachesRow.holds Try.pinned (OpenSpec.ofChange updateReachesWrong)

/-- 'ignitionlaw11.UpdateSame': WHATEVER THE INPUT: true; the input reads as it did. -/
def updateSameSpec : ChangeSpec := { name := "updateSame", fn := fun _ => fun
  | [d1, d2, d3] => { results := [.lit (.bool true)], args := [d1, d2, d3] }
  | _ => none }
def updateSameRow : OpenClaim := { program := "ytaidcocjcidggaa", sum := "eb193499c588e86eaeaeb619c9222b7d79b67f7c10ca75f575d24fdde67fd0b1", func := "ignition/ignitionlaw11.UpdateSame", spec := "updateSame", unfollowed := true, recurses := true, plainKeys := false, apart := false }
def UpdateSameSaid : Prop := updateSameRow.holds Try.pinned (OpenSpec.ofChange updateSameSpec)

/-- ITS FALSE NEIGHBOUR: 'it returns false'. Refute it at one input. -/
def updateSameWrong : ChangeSpec := { name := "updateSame", fn := fun _ => fun
  | [d1, d2, d3] => { results := [.lit (.bool false)], args := [d1, d2, d3] }
  | _ => none }
def UpdateSameWrongFalsely : Prop := updateSameRow.holds Try.pinned (OpenSpec.ofChange updateSameWrong)

/-- 'ignitiontop.TopUpdated': WHATEVER THE INPUT: true; the input reads as it did. -/
def topUpdatedSpec : ChangeSpec := { name := "topUpdated", fn := fun _ => fun
  | [d1, d2, d3] => { results := [.lit (.bool true)], args := [d1, d2, d3] }
  | _ => none }
def topUpdatedRow : OpenClaim := { program := "ytaidcocjcidggaa", sum := "eb193499c588e86eaeaeb619c9222b7d79b67f7c10ca75f575d24fdde67fd0b1", func := "ignition/ignitiontop.TopUpdated", spec := "topUpdated", unfollowed := true, recurses := true, plainKeys := false, apart := false }
def TopUpdatedSaid : Prop := topUpdatedRow.holds Try.pinned (OpenSpec.ofChange topUpdatedSpec)

/-- ITS FALSE NEIGHBOUR: 'it returns false'. Refute it at one input. -/
def topUpdatedWrong : ChangeSpec := { name := "topUpdated", fn := fun _ => fun
  | [d1, d2, d3] => { results := [.lit (.bool false)], args := [d1, d2, d3] }
  | _ => none }
def TopUpdatedWrongFalsely : Prop := topUpdatedRow.holds Try.pinned (OpenSpec.ofChange topUpdatedWrong)

/- THE SECOND FORM. 'bulk': how many values and letters a reading holds, each counted each time it is reached (what is shared counts as often as it is met; a slice's spare places count too). A statement '..UptoSaid' is the law's where the arguments, and the package variables that the reading takes, are together of bulk at most 1048576: NARROWER than '..Said'. Prove '..Said' where nothing that the law and all that it calls make is longer than what came in: it says more and counts as full. Else prove '..UptoSaid'. A law counts once. -/
mutual
def uptoBulk {H : Type} : DataW H → Nat
  | .lit (.string bytes) => bytes.length + 1
  | .lit _ => 1
  | .nil => 1
  | .ptr d => uptoBulk d + 1
  | .slice elems spare => uptoBulkAll elems + uptoBulkAll spare + 1
  | .agg parts => uptoBulkAll parts + 1
  | .iface _ d => uptoBulk d + 1
  | .map entries => uptoBulkEntries entries + 1
  | .held _ => 1
def uptoBulkAll {H : Type} : List (DataW H) → Nat
  | [] => 0
  | d :: r => uptoBulk d + uptoBulkAll r
def uptoBulkEntries {H : Type} : List (Lit × DataW H) → Nat
  | [] => 0
  | x :: r => uptoBulkEntry x + uptoBulkEntries r
def uptoBulkEntry {H : Type} : Lit × DataW H → Nat
  | (.string bytes, d) => bytes.length + uptoBulk d + 1
  | (_, d) => uptoBulk d + 1
 end
def uptoSmall : (H : Type) → List (DataW H) → Bool := fun _ ds => decide (uptoBulkAll ds ≤ 1048576)
def OpenSpec.upto (s : _root_.Go.ChangeSpec) : _root_.Go.OpenSpec := { _root_.Go.OpenSpec.ofChange s with cond := some uptoSmall }

/-- 'ignitionlaw11.UpdatePlans', WHERE WHAT IT READS IS OF BULK AT MOST 1048576: true; the input reads as it did. -/
def updatePlansUptoRow : OpenClaim := { program := "ytaidcocjcidggaa", sum := "eb193499c588e86eaeaeb619c9222b7d79b67f7c10ca75f575d24fdde67fd0b1", func := "ignition/ignitionlaw11.UpdatePlans", spec := "updatePlans", unfollowed := true, recurses := true, plainKeys := false, apart := false, narrowed := true }
def UpdatePlansUptoSaid : Prop := updatePlansUptoRow.holds Try.pinned (OpenSpec.upto updatePlansSpec)

/-- 'ignitionlaw11.UpdateEnough', WHERE WHAT IT READS IS OF BULK AT MOST 1048576: true; the input reads as it did. -/
def updateEnoughUptoRow : OpenClaim := { program := "ytaidcocjcidggaa", sum := "eb193499c588e86eaeaeb619c9222b7d79b67f7c10ca75f575d24fdde67fd0b1", func := "ignition/ignitionlaw11.UpdateEnough", spec := "updateEnough", unfollowed := true, recurses := true, plainKeys := false, apart := false, narrowed := true }
def UpdateEnoughUptoSaid : Prop := updateEnoughUptoRow.holds Try.pinned (OpenSpec.upto updateEnoughSpec)

/-- 'ignitionlaw11.UpdateShortest', WHERE WHAT IT READS IS OF BULK AT MOST 1048576: true; the input reads as it did. -/
def updateShortestUptoRow : OpenClaim := { program := "ytaidcocjcidggaa", sum := "eb193499c588e86eaeaeb619c9222b7d79b67f7c10ca75f575d24fdde67fd0b1", func := "ignition/ignitionlaw11.UpdateShortest", spec := "updateShortest", unfollowed := true, recurses := true, plainKeys := false, apart := false, narrowed := true }
def UpdateShortestUptoSaid : Prop := updateShortestUptoRow.holds Try.pinned (OpenSpec.upto updateShortestSpec)

/-- 'ignitionlaw11.UpdateTags', WHERE WHAT IT READS IS OF BULK AT MOST 1048576: true; the input reads as it did. -/
def updateTagsUptoRow : OpenClaim := { program := "ytaidcocjcidggaa", sum := "eb193499c588e86eaeaeb619c9222b7d79b67f7c10ca75f575d24fdde67fd0b1", func := "ignition/ignitionlaw11.UpdateTags", spec := "updateTags", unfollowed := true, recurses := true, plainKeys := false, apart := false, narrowed := true }
def UpdateTagsUptoSaid : Prop := updateTagsUptoRow.holds Try.pinned (OpenSpec.upto updateTagsSpec)

/-- 'ignitionlaw11.UpdateChecks', WHERE WHAT IT READS IS OF BULK AT MOST 1048576: true; the input reads as it did. -/
def updateChecksUptoRow : OpenClaim := { program := "ytaidcocjcidggaa", sum := "eb193499c588e86eaeaeb619c9222b7d79b67f7c10ca75f575d24fdde67fd0b1", func := "ignition/ignitionlaw11.UpdateChecks", spec := "updateChecks", unfollowed := true, recurses := true, plainKeys := false, apart := false, narrowed := true }
def UpdateChecksUptoSaid : Prop := updateChecksUptoRow.holds Try.pinned (OpenSpec.upto updateChecksSpec)

/-- 'ignitionlaw11.UpdateInstalls', WHERE WHAT IT READS IS OF BULK AT MOST 1048576: true; the input reads as it did. -/
def updateInstallsUptoRow : OpenClaim := { program := "ytaidcocjcidggaa", sum := "eb193499c588e86eaeaeb619c9222b7d79b67f7c10ca75f575d24fdde67fd0b1", func := "ignition/ignitionlaw11.UpdateInstalls", spec := "updateInstalls", unfollowed := true, recurses := true, plainKeys := false, apart := false, narrowed := true }
def UpdateInstallsUptoSaid : Prop := updateInstallsUptoRow.holds Try.pinned (OpenSpec.upto updateInstallsSpec)

/-- 'ignitionlaw11.UpdateWorks', WHERE WHAT IT READS IS OF BULK AT MOST 1048576: true; the input reads as it did. -/
def updateWorksUptoRow : OpenClaim := { program := "ytaidcocjcidggaa", sum := "eb193499c588e86eaeaeb619c9222b7d79b67f7c10ca75f575d24fdde67fd0b1", func := "ignition/ignitionlaw11.UpdateWorks", spec := "updateWorks", unfollowed := true, recurses := true, plainKeys := false, apart := false, narrowed := true }
def UpdateWorksUptoSaid : Prop := updateWorksUptoRow.holds Try.pinned (OpenSpec.upto updateWorksSpec)

/-- 'ignitionlaw11.UpdateSafe', WHERE WHAT IT READS IS OF BULK AT MOST 1048576: true; the input reads as it did. -/
def updateSafeUptoRow : OpenClaim := { program := "ytaidcocjcidggaa", sum := "eb193499c588e86eaeaeb619c9222b7d79b67f7c10ca75f575d24fdde67fd0b1", func := "ignition/ignitionlaw11.UpdateSafe", spec := "updateSafe", unfollowed := true, recurses := true, plainKeys := false, apart := false, narrowed := true }
def UpdateSafeUptoSaid : Prop := updateSafeUptoRow.holds Try.pinned (OpenSpec.upto updateSafeSpec)

/-- 'ignitionlaw11.UpdateSigned', WHERE WHAT IT READS IS OF BULK AT MOST 1048576: true; the input reads as it did. -/
def updateSignedUptoRow : OpenClaim := { program := "ytaidcocjcidggaa", sum := "eb193499c588e86eaeaeb619c9222b7d79b67f7c10ca75f575d24fdde67fd0b1", func := "ignition/ignitionlaw11.UpdateSigned", spec := "updateSigned", unfollowed := true, recurses := true, plainKeys := false, apart := false, narrowed := true }
def UpdateSignedUptoSaid : Prop := updateSignedUptoRow.holds Try.pinned (OpenSpec.upto updateSignedSpec)

/-- 'ignitionlaw11.UpdateReaches', WHERE WHAT IT READS IS OF BULK AT MOST 1048576: true; the input reads as it did. -/
def updateReachesUptoRow : OpenClaim := { program := "ytaidcocjcidggaa", sum := "eb193499c588e86eaeaeb619c9222b7d79b67f7c10ca75f575d24fdde67fd0b1", func := "ignition/ignitionlaw11.UpdateReaches", spec := "updateReaches", unfollowed := true, recurses := true, plainKeys := false, apart := false, narrowed := true }
def UpdateReachesUptoSaid : Prop := updateReachesUptoRow.holds Try.pinned (OpenSpec.upto updateReachesSpec)

/-- 'ignitionlaw11.UpdateSame', WHERE WHAT IT READS IS OF BULK AT MOST 1048576: true; the input reads as it did. -/
def updateSameUptoRow : OpenClaim := { program := "ytaidcocjcidggaa", sum := "eb193499c588e86eaeaeb619c9222b7d79b67f7c10ca75f575d24fdde67fd0b1", func := "ignition/ignitionlaw11.UpdateSame", spec := "updateSame", unfollowed := true, recurses := true, plainKeys := false, apart := false, narrowed := true }
def UpdateSameUptoSaid : Prop := updateSameUptoRow.holds Try.pinned (OpenSpec.upto updateSameSpec)

/-- 'ignitiontop.TopUpdated', WHERE WHAT IT READS IS OF BULK AT MOST 1048576: true; the input reads as it did. -/
def topUpdatedUptoRow : OpenClaim := { program := "ytaidcocjcidggaa", sum := "eb193499c588e86eaeaeb619c9222b7d79b67f7c10ca75f575d24fdde67fd0b1", func := "ignition/ignitiontop.TopUpdated", spec := "topUpdated", unfollowed := true, recurses := true, plainKeys := false, apart := false, narrowed := true }
def TopUpdatedUptoSaid : Prop := topUpdatedUptoRow.holds Try.pinned (OpenSpec.upto topUpdatedSpec)

end Rows
end Go.Proofs.Ytaidcocjcidggaa
