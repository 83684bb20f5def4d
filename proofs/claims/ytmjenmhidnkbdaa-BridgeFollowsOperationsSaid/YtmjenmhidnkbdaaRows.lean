/-
  No cell of these rows narrows 'for every input' (looked for: loops, veiled, ifaces, maps, wideKeys, modest, calm, conditions, laid).
  DERIVED. THE GIVEN ROWS OF THIS SEAT. 7 by the template 'for every input the law returns true; each argument reads behind the call as it read before'; 0 by the template 'total and deterministic' (their statements: YtmjenmhidnkbdaaTotals.lean).
  GIVEN WITH THE SEED: the statements are not yours to turn. If you find one false, say at which input.
  Laid BY PROGRAM, IN A SANDBOX (cutbox-rows.mjs): the forced cells as the released guide's own fill.sh prints them over the translation 75ed59f39d83c86a… (all of the seat's roots in one cut). By AI agents, Wed Nov 11 2026. No macro, syntax, notation, axiom, sorry.
-/
import Derived.Test.YtmjenmhidnkbdaaChecked
import GoSem.Claim
import GoSem.ClaimJoined
import GoSem.ClaimMapViews
import Derived.JoinedTies
import Derived.KernelRfl
namespace Go.Proofs.Ytmjenmhidnkbdaa
/- THE CELL 'sum', in the pinned program and in every row, IS THE sha256 OF THE DUMP (.gsa) THAT YtmjenmhidnkbdaaProg.lean LOADS. Nothing in Lean hashes anything: it is a label: what it is worth is what the hold of that sum in a sandbox is worth. -/
noncomputable def Try.pinned : Pinned := { name := "ytmjenmhidnkbdaa", sum := "75ed59f39d83c86a986bf3a39d628a4db0c85dc4ea02deb9f2c1171082162796", checked := Try.checked }
namespace Rows
def none {H : Type} : Left H := { results := [], args := [] }

/-- 'crossbarlaw18.BridgeHearingIsSymmetric': WHATEVER THE INPUT: true; the input reads as it did. -/
def bridgeHearingIsSymmetricSpec : ChangeSpec := { name := "bridgeHearingIsSymmetric", fn := fun _ => fun
  | [d1, d2, d3] => { results := [.lit (.bool true)], args := [d1, d2, d3] }
  | _ => none }
def bridgeHearingIsSymmetricRow : OpenClaim := { program := "ytmjenmhidnkbdaa", sum := "75ed59f39d83c86a986bf3a39d628a4db0c85dc4ea02deb9f2c1171082162796", func := "crossbar/crossbarlaw18.BridgeHearingIsSymmetric", spec := "bridgeHearingIsSymmetric", inPlace := ["slices.overlaps[crossbar/api.BridgeLeg]"], unfollowed := true, recurses := true, apart := false }
def BridgeHearingIsSymmetricSaid : Prop := bridgeHearingIsSymmetricRow.holds Try.pinned (OpenSpec.ofChange bridgeHearingIsSymmetricSpec)

/-- ITS FALSE NEIGHBOUR: 'it returns false'. Refute it at one input. -/
def bridgeHearingIsSymmetricWrong : ChangeSpec := { name := "bridgeHearingIsSymmetric", fn := fun _ => fun
  | [d1, d2, d3] => { results := [.lit (.bool false)], args := [d1, d2, d3] }
  | _ => none }
def BridgeHearingIsSymmetricWrongFalsely : Prop := bridgeHearingIsSymmetricRow.holds Try.pinned (OpenSpec.ofChange bridgeHearingIsSymmetricWrong)

/-- 'crossbarlaw18.BridgeConnectIsolates': WHATEVER THE INPUT: true; the input reads as it did. -/
def bridgeConnectIsolatesSpec : ChangeSpec := { name := "bridgeConnectIsolates", fn := fun _ => fun
  | [d1, d2, d3] => { results := [.lit (.bool true)], args := [d1, d2, d3] }
  | _ => none }
def bridgeConnectIsolatesRow : OpenClaim := { program := "ytmjenmhidnkbdaa", sum := "75ed59f39d83c86a986bf3a39d628a4db0c85dc4ea02deb9f2c1171082162796", func := "crossbar/crossbarlaw18.BridgeConnectIsolates", spec := "bridgeConnectIsolates", inPlace := ["slices.overlaps[crossbar/api.BridgeLeg]"], unfollowed := true, recurses := true, apart := false }
def BridgeConnectIsolatesSaid : Prop := bridgeConnectIsolatesRow.holds Try.pinned (OpenSpec.ofChange bridgeConnectIsolatesSpec)

/-- ITS FALSE NEIGHBOUR: 'it returns false'. Refute it at one input. -/
def bridgeConnectIsolatesWrong : ChangeSpec := { name := "bridgeConnectIsolates", fn := fun _ => fun
  | [d1, d2, d3] => { results := [.lit (.bool false)], args := [d1, d2, d3] }
  | _ => none }
def BridgeConnectIsolatesWrongFalsely : Prop := bridgeConnectIsolatesRow.holds Try.pinned (OpenSpec.ofChange bridgeConnectIsolatesWrong)

/-- 'crossbarlaw18.BridgeHoldIsReversible': WHATEVER THE INPUT: true; the input reads as it did. -/
def bridgeHoldIsReversibleSpec : ChangeSpec := { name := "bridgeHoldIsReversible", fn := fun _ => fun
  | [d1, d2] => { results := [.lit (.bool true)], args := [d1, d2] }
  | _ => none }
def bridgeHoldIsReversibleRow : OpenClaim := { program := "ytmjenmhidnkbdaa", sum := "75ed59f39d83c86a986bf3a39d628a4db0c85dc4ea02deb9f2c1171082162796", func := "crossbar/crossbarlaw18.BridgeHoldIsReversible", spec := "bridgeHoldIsReversible", inPlace := ["slices.overlaps[crossbar/api.BridgeLeg]"], unfollowed := true, recurses := true, apart := false }
def BridgeHoldIsReversibleSaid : Prop := bridgeHoldIsReversibleRow.holds Try.pinned (OpenSpec.ofChange bridgeHoldIsReversibleSpec)

/-- ITS FALSE NEIGHBOUR: 'it returns false'. Refute it at one input. -/
def bridgeHoldIsReversibleWrong : ChangeSpec := { name := "bridgeHoldIsReversible", fn := fun _ => fun
  | [d1, d2] => { results := [.lit (.bool false)], args := [d1, d2] }
  | _ => none }
def BridgeHoldIsReversibleWrongFalsely : Prop := bridgeHoldIsReversibleRow.holds Try.pinned (OpenSpec.ofChange bridgeHoldIsReversibleWrong)

/-- 'crossbarlaw18.BridgeMergeJoins': WHATEVER THE INPUT: true; the input reads as it did. -/
def bridgeMergeJoinsSpec : ChangeSpec := { name := "bridgeMergeJoins", fn := fun _ => fun
  | [d1, d2, d3] => { results := [.lit (.bool true)], args := [d1, d2, d3] }
  | _ => none }
def bridgeMergeJoinsRow : OpenClaim := { program := "ytmjenmhidnkbdaa", sum := "75ed59f39d83c86a986bf3a39d628a4db0c85dc4ea02deb9f2c1171082162796", func := "crossbar/crossbarlaw18.BridgeMergeJoins", spec := "bridgeMergeJoins", inPlace := ["slices.overlaps[crossbar/api.BridgeLeg]"], unfollowed := true, recurses := true, apart := false }
def BridgeMergeJoinsSaid : Prop := bridgeMergeJoinsRow.holds Try.pinned (OpenSpec.ofChange bridgeMergeJoinsSpec)

/-- ITS FALSE NEIGHBOUR: 'it returns false'. Refute it at one input. -/
def bridgeMergeJoinsWrong : ChangeSpec := { name := "bridgeMergeJoins", fn := fun _ => fun
  | [d1, d2, d3] => { results := [.lit (.bool false)], args := [d1, d2, d3] }
  | _ => none }
def BridgeMergeJoinsWrongFalsely : Prop := bridgeMergeJoinsRow.holds Try.pinned (OpenSpec.ofChange bridgeMergeJoinsWrong)

/-- 'crossbarlaw18.BridgeAddAndRemove': WHATEVER THE INPUT: true; the input reads as it did. -/
def bridgeAddAndRemoveSpec : ChangeSpec := { name := "bridgeAddAndRemove", fn := fun _ => fun
  | [d1, d2] => { results := [.lit (.bool true)], args := [d1, d2] }
  | _ => none }
def bridgeAddAndRemoveRow : OpenClaim := { program := "ytmjenmhidnkbdaa", sum := "75ed59f39d83c86a986bf3a39d628a4db0c85dc4ea02deb9f2c1171082162796", func := "crossbar/crossbarlaw18.BridgeAddAndRemove", spec := "bridgeAddAndRemove", inPlace := ["slices.overlaps[crossbar/api.BridgeLeg]"], unfollowed := true, recurses := true, apart := false }
def BridgeAddAndRemoveSaid : Prop := bridgeAddAndRemoveRow.holds Try.pinned (OpenSpec.ofChange bridgeAddAndRemoveSpec)

/-- ITS FALSE NEIGHBOUR: 'it returns false'. Refute it at one input. -/
def bridgeAddAndRemoveWrong : ChangeSpec := { name := "bridgeAddAndRemove", fn := fun _ => fun
  | [d1, d2] => { results := [.lit (.bool false)], args := [d1, d2] }
  | _ => none }
def BridgeAddAndRemoveWrongFalsely : Prop := bridgeAddAndRemoveRow.holds Try.pinned (OpenSpec.ofChange bridgeAddAndRemoveWrong)

/-- 'crossbarlaw18.BridgeMatchesSpecification': WHATEVER THE INPUT: true; the input reads as it did. -/
def bridgeMatchesSpecificationSpec : ChangeSpec := { name := "bridgeMatchesSpecification", fn := fun _ => fun
  | [d1, d2, d3, d4] => { results := [.lit (.bool true)], args := [d1, d2, d3, d4] }
  | _ => none }
def bridgeMatchesSpecificationRow : OpenClaim := { program := "ytmjenmhidnkbdaa", sum := "75ed59f39d83c86a986bf3a39d628a4db0c85dc4ea02deb9f2c1171082162796", func := "crossbar/crossbarlaw18.BridgeMatchesSpecification", spec := "bridgeMatchesSpecification", inPlace := ["slices.overlaps[crossbar/api.BridgeLeg]"], unfollowed := true, recurses := true, apart := false }
def BridgeMatchesSpecificationSaid : Prop := bridgeMatchesSpecificationRow.holds Try.pinned (OpenSpec.ofChange bridgeMatchesSpecificationSpec)

/-- ITS FALSE NEIGHBOUR: 'it returns false'. Refute it at one input. -/
def bridgeMatchesSpecificationWrong : ChangeSpec := { name := "bridgeMatchesSpecification", fn := fun _ => fun
  | [d1, d2, d3, d4] => { results := [.lit (.bool false)], args := [d1, d2, d3, d4] }
  | _ => none }
def BridgeMatchesSpecificationWrongFalsely : Prop := bridgeMatchesSpecificationRow.holds Try.pinned (OpenSpec.ofChange bridgeMatchesSpecificationWrong)

/-- 'crossbarlaw18.BridgeFollowsOperations': WHATEVER THE INPUT: true; the input reads as it did. -/
def bridgeFollowsOperationsSpec : ChangeSpec := { name := "bridgeFollowsOperations", fn := fun _ => fun
  | [d] => { results := [.lit (.bool true)], args := [d] }
  | _ => none }
def bridgeFollowsOperationsRow : OpenClaim := { program := "ytmjenmhidnkbdaa", sum := "75ed59f39d83c86a986bf3a39d628a4db0c85dc4ea02deb9f2c1171082162796", func := "crossbar/crossbarlaw18.BridgeFollowsOperations", spec := "bridgeFollowsOperations", inPlace := ["slices.overlaps[crossbar/api.BridgeLeg]"], unfollowed := true, recurses := true, apart := false }
def BridgeFollowsOperationsSaid : Prop := bridgeFollowsOperationsRow.holds Try.pinned (OpenSpec.ofChange bridgeFollowsOperationsSpec)

/-- ITS FALSE NEIGHBOUR: 'it returns false'. Refute it at one input. -/
def bridgeFollowsOperationsWrong : ChangeSpec := { name := "bridgeFollowsOperations", fn := fun _ => fun
  | [d] => { results := [.lit (.bool false)], args := [d] }
  | _ => none }
def BridgeFollowsOperationsWrongFalsely : Prop := bridgeFollowsOperationsRow.holds Try.pinned (OpenSpec.ofChange bridgeFollowsOperationsWrong)

/- THE SECOND FORM. 'bulk': how many values and letters a reading holds, each counted each time it is reached (what is shared counts as often as it is met; a slice's spare places count too). A statement '..UptoSaid' is the law's where the arguments, and the package variables that the reading takes, are together of bulk at most 1048576: NARROWER than '..Said'. Prove '..Said' where nothing that the law and all that it calls make is longer than what came in: it says more and counts as full. Else prove '..UptoSaid'. A law counts once. -/
mutual
def uptoBulk {H : Type} : DataW H → Nat
  | .lit (.string bytes) => bytes.length + 1
  | .lit _ => 1
  | .nil => 1
  | .ptr d => uptoBulk d + 1
  | .slice elems spare => uptoBulkAll elems + uptoBulkAll spare + 1
  | .agg parts => uptoBulkAll parts + 1
  | .iface _ d => uptoBulk d + 1
  | .map entries => uptoBulkEntries entries + 1
  | .held _ => 1
def uptoBulkAll {H : Type} : List (DataW H) → Nat
  | [] => 0
  | d :: r => uptoBulk d + uptoBulkAll r
def uptoBulkEntries {H : Type} : List (Lit × DataW H) → Nat
  | [] => 0
  | x :: r => uptoBulkEntry x + uptoBulkEntries r
def uptoBulkEntry {H : Type} : Lit × DataW H → Nat
  | (.string bytes, d) => bytes.length + uptoBulk d + 1
  | (_, d) => uptoBulk d + 1
 end
def uptoSmall : (H : Type) → List (DataW H) → Bool := fun _ ds => decide (uptoBulkAll ds ≤ 1048576)
def OpenSpec.upto (s : _root_.Go.ChangeSpec) : _root_.Go.OpenSpec := { _root_.Go.OpenSpec.ofChange s with cond := some uptoSmall }

/-- 'crossbarlaw18.BridgeHearingIsSymmetric', WHERE WHAT IT READS IS OF BULK AT MOST 1048576: true; the input reads as it did. -/
def bridgeHearingIsSymmetricUptoRow : OpenClaim := { program := "ytmjenmhidnkbdaa", sum := "75ed59f39d83c86a986bf3a39d628a4db0c85dc4ea02deb9f2c1171082162796", func := "crossbar/crossbarlaw18.BridgeHearingIsSymmetric", spec := "bridgeHearingIsSymmetric", inPlace := ["slices.overlaps[crossbar/api.BridgeLeg]"], unfollowed := true, recurses := true, apart := false, narrowed := true }
def BridgeHearingIsSymmetricUptoSaid : Prop := bridgeHearingIsSymmetricUptoRow.holds Try.pinned (OpenSpec.upto bridgeHearingIsSymmetricSpec)

/-- 'crossbarlaw18.BridgeConnectIsolates', WHERE WHAT IT READS IS OF BULK AT MOST 1048576: true; the input reads as it did. -/
def bridgeConnectIsolatesUptoRow : OpenClaim := { program := "ytmjenmhidnkbdaa", sum := "75ed59f39d83c86a986bf3a39d628a4db0c85dc4ea02deb9f2c1171082162796", func := "crossbar/crossbarlaw18.BridgeConnectIsolates", spec := "bridgeConnectIsolates", inPlace := ["slices.overlaps[crossbar/api.BridgeLeg]"], unfollowed := true, recurses := true, apart := false, narrowed := true }
def BridgeConnectIsolatesUptoSaid : Prop := bridgeConnectIsolatesUptoRow.holds Try.pinned (OpenSpec.upto bridgeConnectIsolatesSpec)

/-- 'crossbarlaw18.BridgeHoldIsReversible', WHERE WHAT IT READS IS OF BULK AT MOST 1048576: true; the input reads as it did. -/
def bridgeHoldIsReversibleUptoRow : OpenClaim := { program := "ytmjenmhidnkbdaa", sum := "75ed59f39d83c86a986bf3a39d628a4db0c85dc4ea02deb9f2c1171082162796", func := "crossbar/crossbarlaw18.BridgeHoldIsReversible", spec := "bridgeHoldIsReversible", inPlace := ["slices.overlaps[crossbar/api.BridgeLeg]"], unfollowed := true, recurses := true, apart := false, narrowed := true }
def BridgeHoldIsReversibleUptoSaid : Prop := bridgeHoldIsReversibleUptoRow.holds Try.pinned (OpenSpec.upto bridgeHoldIsReversibleSpec)

/-- 'crossbarlaw18.BridgeMergeJoins', WHERE WHAT IT READS IS OF BULK AT MOST 1048576: true; the input reads as it did. -/
def bridgeMergeJoinsUptoRow : OpenClaim := { program := "ytmjenmhidnkbdaa", sum := "75ed59f39d83c86a986bf3a39d628a4db0c85dc4ea02deb9f2c1171082162796", func := "crossbar/crossbarlaw18.BridgeMergeJoins", spec := "bridgeMergeJoins", inPlace := ["slices.overlaps[crossbar/api.BridgeLeg]"], unfollowed := true, recurses := true, apart := false, narrowed := true }
def BridgeMergeJoinsUptoSaid : Prop := bridgeMergeJoinsUptoRow.holds Try.pinned (OpenSpec.upto bridgeMergeJoinsSpec)

/-- 'crossbarlaw18.BridgeAddAndRemove', WHERE WHAT IT READS IS OF BULK AT MOST 1048576: true; the input reads as it did. -/
def bridgeAddAndRemoveUptoRow : OpenClaim := { program := "ytmjenmhidnkbdaa", sum := "75ed59f39d83c86a986bf3a39d628a4db0c85dc4ea02deb9f2c1171082162796", func := "crossbar/crossbarlaw18.BridgeAddAndRemove", spec := "bridgeAddAndRemove", inPlace := ["slices.overlaps[crossbar/api.BridgeLeg]"], unfollowed := true, recurses := true, apart := false, narrowed := true }
def BridgeAddAndRemoveUptoSaid : Prop := bridgeAddAndRemoveUptoRow.holds Try.pinned (OpenSpec.upto bridgeAddAndRemoveSpec)

/-- 'crossbarlaw18.BridgeMatchesSpecification', WHERE WHAT IT READS IS OF BULK AT MOST 1048576: true; the input reads as it did. -/
def bridgeMatchesSpecificationUptoRow : OpenClaim := { program := "ytmjenmhidnkbdaa", sum := "75ed59f39d83c86a986bf3a39d628a4db0c85dc4ea02deb9f2c1171082162796", func := "crossbar/crossbarlaw18.BridgeMatchesSpecification", spec := "bridgeMatchesSpecification", inPlace := ["slices.overlaps[crossbar/api.BridgeLeg]"], unfollowed := true, recurses := true, apart := false, narrowed := true }
def BridgeMatchesSpecificationUptoSaid : Prop := bridgeMatchesSpecificationUptoRow.holds Try.pinned (OpenSpec.upto bridgeMatchesSpecificationSpec)

/-- 'crossbarlaw18.BridgeFollowsOperations', WHERE WHAT IT READS IS OF BULK AT MOST 1048576: true; the input reads as it did. -/
def bridgeFollowsOperationsUptoRow : OpenClaim := { program := "ytmjenmhidnkbdaa", sum := "75ed59f39d83c86a986bf3a39d628a4db0c85dc4ea02deb9f2c1171082162796", func := "crossbar/crossbarlaw18.BridgeFollowsOperations", spec := "bridgeFollowsOperations", inPlace := ["slices.overlaps[crossbar/api.BridgeLeg]"], unfollowed := true, recurses := true, apart := false, narrowed := true }
def BridgeFollowsOperationsUptoSaid : Prop := bridgeFollowsOperationsUptoRow.holds Try.pinned (OpenSpec.upto bridgeFollowsOperationsSpec)

end Rows
end Go.Proofs.Ytmjenmhidnkbdaa
