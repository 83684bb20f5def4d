/-
  No cell of these rows narrows 'for every input' (looked for: loops, veiled, ifaces, maps, wideKeys, modest, calm, conditions, laid).
  DERIVED. THE GIVEN ROWS OF THIS SEAT. 7 by the template 'for every input the law returns true; each argument reads behind the call as it read before'; 0 by the template 'total and deterministic' (their statements: YtjaodgicpnoifaaTotals.lean).
  GIVEN WITH THE SEED: the statements are not yours to turn. If you find one false, say at which input.
  Laid BY PROGRAM, IN A SANDBOX (cutbox-rows.mjs): the forced cells as the released guide's own fill.sh prints them over the translation 440f0d45d1b05e9b… (all of the seat's roots in one cut). By AI agents, Wed Nov 11 2026. No macro, syntax, notation, axiom, sorry.
-/
import Derived.Test.YtjaodgicpnoifaaChecked
import GoSem.Claim
import GoSem.ClaimJoined
import GoSem.ClaimMapViews
import Derived.JoinedTies
import Derived.KernelRfl
namespace Go.Proofs.Ytjaodgicpnoifaa
/- THE CELL 'sum', in the pinned program and in every row, IS THE sha256 OF THE DUMP (.gsa) THAT YtjaodgicpnoifaaProg.lean LOADS. Nothing in Lean hashes anything: it is a label: what it is worth is what the hold of that sum in a sandbox is worth. -/
noncomputable def Try.pinned : Pinned := { name := "ytjaodgicpnoifaa", sum := "440f0d45d1b05e9ba5a5c5c0cb16f8eb6e9e2ed43db72562e91f6dc3abb98645", checked := Try.checked }
namespace Rows
def none {H : Type} : Left H := { results := [], args := [] }

/-- 'crossbarlaw15.RoutingTablesMatchSpecification': WHATEVER THE INPUT: true; the input reads as it did. -/
def routingTablesMatchSpecificationSpec : ChangeSpec := { name := "routingTablesMatchSpecification", fn := fun _ => fun
  | [d1, d2, d3, d4, d5, d6] => { results := [.lit (.bool true)], args := [d1, d2, d3, d4, d5, d6] }
  | _ => none }
def routingTablesMatchSpecificationRow : OpenClaim := { program := "ytjaodgicpnoifaa", sum := "440f0d45d1b05e9ba5a5c5c0cb16f8eb6e9e2ed43db72562e91f6dc3abb98645", func := "crossbar/crossbarlaw15.RoutingTablesMatchSpecification", spec := "routingTablesMatchSpecification", unfollowed := true, recurses := true, apart := false }
def RoutingTablesMatchSpecificationSaid : Prop := routingTablesMatchSpecificationRow.holds Try.pinned (OpenSpec.ofChange routingTablesMatchSpecificationSpec)

/-- ITS FALSE NEIGHBOUR: 'it returns false'. Refute it at one input. -/
def routingTablesMatchSpecificationWrong : ChangeSpec := { name := "routingTablesMatchSpecification", fn := fun _ => fun
  | [d1, d2, d3, d4, d5, d6] => { results := [.lit (.bool false)], args := [d1, d2, d3, d4, d5, d6] }
  | _ => none }
def RoutingTablesMatchSpecificationWrongFalsely : Prop := routingTablesMatchSpecificationRow.holds Try.pinned (OpenSpec.ofChange routingTablesMatchSpecificationWrong)

/-- 'crossbarlaw15.RoutingSelectionMatchesSpecification': WHATEVER THE INPUT: true; the input reads as it did. -/
def routingSelectionMatchesSpecificationSpec : ChangeSpec := { name := "routingSelectionMatchesSpecification", fn := fun _ => fun
  | [d1, d2, d3, d4, d5] => { results := [.lit (.bool true)], args := [d1, d2, d3, d4, d5] }
  | _ => none }
def routingSelectionMatchesSpecificationRow : OpenClaim := { program := "ytjaodgicpnoifaa", sum := "440f0d45d1b05e9ba5a5c5c0cb16f8eb6e9e2ed43db72562e91f6dc3abb98645", func := "crossbar/crossbarlaw15.RoutingSelectionMatchesSpecification", spec := "routingSelectionMatchesSpecification", unfollowed := true, recurses := true, apart := false }
def RoutingSelectionMatchesSpecificationSaid : Prop := routingSelectionMatchesSpecificationRow.holds Try.pinned (OpenSpec.ofChange routingSelectionMatchesSpecificationSpec)

/-- ITS FALSE NEIGHBOUR: 'it returns false'. Refute it at one input. -/
def routingSelectionMatchesSpecificationWrong : ChangeSpec := { name := "routingSelectionMatchesSpecification", fn := fun _ => fun
  | [d1, d2, d3, d4, d5] => { results := [.lit (.bool false)], args := [d1, d2, d3, d4, d5] }
  | _ => none }
def RoutingSelectionMatchesSpecificationWrongFalsely : Prop := routingSelectionMatchesSpecificationRow.holds Try.pinned (OpenSpec.ofChange routingSelectionMatchesSpecificationWrong)

/-- 'crossbarlaw15.RoutingFollowsShortestPaths': WHATEVER THE INPUT: true; the input reads as it did. -/
def routingFollowsShortestPathsSpec : ChangeSpec := { name := "routingFollowsShortestPaths", fn := fun _ => fun
  | [d1, d2, d3, d4] => { results := [.lit (.bool true)], args := [d1, d2, d3, d4] }
  | _ => none }
def routingFollowsShortestPathsRow : OpenClaim := { program := "ytjaodgicpnoifaa", sum := "440f0d45d1b05e9ba5a5c5c0cb16f8eb6e9e2ed43db72562e91f6dc3abb98645", func := "crossbar/crossbarlaw15.RoutingFollowsShortestPaths", spec := "routingFollowsShortestPaths", unfollowed := true, recurses := true, apart := false }
def RoutingFollowsShortestPathsSaid : Prop := routingFollowsShortestPathsRow.holds Try.pinned (OpenSpec.ofChange routingFollowsShortestPathsSpec)

/-- ITS FALSE NEIGHBOUR: 'it returns false'. Refute it at one input. -/
def routingFollowsShortestPathsWrong : ChangeSpec := { name := "routingFollowsShortestPaths", fn := fun _ => fun
  | [d1, d2, d3, d4] => { results := [.lit (.bool false)], args := [d1, d2, d3, d4] }
  | _ => none }
def RoutingFollowsShortestPathsWrongFalsely : Prop := routingFollowsShortestPathsRow.holds Try.pinned (OpenSpec.ofChange routingFollowsShortestPathsWrong)

/-- 'crossbarlaw15.RoutingListsAllAlternatives': WHATEVER THE INPUT: true; the input reads as it did. -/
def routingListsAllAlternativesSpec : ChangeSpec := { name := "routingListsAllAlternatives", fn := fun _ => fun
  | [d1, d2, d3, d4] => { results := [.lit (.bool true)], args := [d1, d2, d3, d4] }
  | _ => none }
def routingListsAllAlternativesRow : OpenClaim := { program := "ytjaodgicpnoifaa", sum := "440f0d45d1b05e9ba5a5c5c0cb16f8eb6e9e2ed43db72562e91f6dc3abb98645", func := "crossbar/crossbarlaw15.RoutingListsAllAlternatives", spec := "routingListsAllAlternatives", unfollowed := true, recurses := true, apart := false }
def RoutingListsAllAlternativesSaid : Prop := routingListsAllAlternativesRow.holds Try.pinned (OpenSpec.ofChange routingListsAllAlternativesSpec)

/-- ITS FALSE NEIGHBOUR: 'it returns false'. Refute it at one input. -/
def routingListsAllAlternativesWrong : ChangeSpec := { name := "routingListsAllAlternatives", fn := fun _ => fun
  | [d1, d2, d3, d4] => { results := [.lit (.bool false)], args := [d1, d2, d3, d4] }
  | _ => none }
def RoutingListsAllAlternativesWrongFalsely : Prop := routingListsAllAlternativesRow.holds Try.pinned (OpenSpec.ofChange routingListsAllAlternativesWrong)

/-- 'crossbarlaw15.RoutingSelectFindsEveryWay': WHATEVER THE INPUT: true; the input reads as it did. -/
def routingSelectFindsEveryWaySpec : ChangeSpec := { name := "routingSelectFindsEveryWay", fn := fun _ => fun
  | [d1, d2, d3, d4, d5, d6] => { results := [.lit (.bool true)], args := [d1, d2, d3, d4, d5, d6] }
  | _ => none }
def routingSelectFindsEveryWayRow : OpenClaim := { program := "ytjaodgicpnoifaa", sum := "440f0d45d1b05e9ba5a5c5c0cb16f8eb6e9e2ed43db72562e91f6dc3abb98645", func := "crossbar/crossbarlaw15.RoutingSelectFindsEveryWay", spec := "routingSelectFindsEveryWay", unfollowed := true, recurses := true, apart := false }
def RoutingSelectFindsEveryWaySaid : Prop := routingSelectFindsEveryWayRow.holds Try.pinned (OpenSpec.ofChange routingSelectFindsEveryWaySpec)

/-- ITS FALSE NEIGHBOUR: 'it returns false'. Refute it at one input. -/
def routingSelectFindsEveryWayWrong : ChangeSpec := { name := "routingSelectFindsEveryWay", fn := fun _ => fun
  | [d1, d2, d3, d4, d5, d6] => { results := [.lit (.bool false)], args := [d1, d2, d3, d4, d5, d6] }
  | _ => none }
def RoutingSelectFindsEveryWayWrongFalsely : Prop := routingSelectFindsEveryWayRow.holds Try.pinned (OpenSpec.ofChange routingSelectFindsEveryWayWrong)

/-- 'crossbarlaw15.RoutingOrderIsSorted': WHATEVER THE INPUT: true; the input reads as it did. -/
def routingOrderIsSortedSpec : ChangeSpec := { name := "routingOrderIsSorted", fn := fun _ => fun
  | [d1, d2, d3] => { results := [.lit (.bool true)], args := [d1, d2, d3] }
  | _ => none }
def routingOrderIsSortedRow : OpenClaim := { program := "ytjaodgicpnoifaa", sum := "440f0d45d1b05e9ba5a5c5c0cb16f8eb6e9e2ed43db72562e91f6dc3abb98645", func := "crossbar/crossbarlaw15.RoutingOrderIsSorted", spec := "routingOrderIsSorted", unfollowed := true, recurses := true, apart := false }
def RoutingOrderIsSortedSaid : Prop := routingOrderIsSortedRow.holds Try.pinned (OpenSpec.ofChange routingOrderIsSortedSpec)

/-- ITS FALSE NEIGHBOUR: 'it returns false'. Refute it at one input. -/
def routingOrderIsSortedWrong : ChangeSpec := { name := "routingOrderIsSorted", fn := fun _ => fun
  | [d1, d2, d3] => { results := [.lit (.bool false)], args := [d1, d2, d3] }
  | _ => none }
def RoutingOrderIsSortedWrongFalsely : Prop := routingOrderIsSortedRow.holds Try.pinned (OpenSpec.ofChange routingOrderIsSortedWrong)

/-- 'crossbarlaw15.RoutingDistancesAreMetric': WHATEVER THE INPUT: true; the input reads as it did. -/
def routingDistancesAreMetricSpec : ChangeSpec := { name := "routingDistancesAreMetric", fn := fun _ => fun
  | [d1, d2, d3, d4, d5] => { results := [.lit (.bool true)], args := [d1, d2, d3, d4, d5] }
  | _ => none }
def routingDistancesAreMetricRow : OpenClaim := { program := "ytjaodgicpnoifaa", sum := "440f0d45d1b05e9ba5a5c5c0cb16f8eb6e9e2ed43db72562e91f6dc3abb98645", func := "crossbar/crossbarlaw15.RoutingDistancesAreMetric", spec := "routingDistancesAreMetric", unfollowed := true, recurses := true, apart := false }
def RoutingDistancesAreMetricSaid : Prop := routingDistancesAreMetricRow.holds Try.pinned (OpenSpec.ofChange routingDistancesAreMetricSpec)

/-- ITS FALSE NEIGHBOUR: 'it returns false'. Refute it at one input. -/
def routingDistancesAreMetricWrong : ChangeSpec := { name := "routingDistancesAreMetric", fn := fun _ => fun
  | [d1, d2, d3, d4, d5] => { results := [.lit (.bool false)], args := [d1, d2, d3, d4, d5] }
  | _ => none }
def RoutingDistancesAreMetricWrongFalsely : Prop := routingDistancesAreMetricRow.holds Try.pinned (OpenSpec.ofChange routingDistancesAreMetricWrong)

/- THE SECOND FORM. 'bulk': how many values and letters a reading holds, each counted each time it is reached (what is shared counts as often as it is met; a slice's spare places count too). A statement '..UptoSaid' is the law's where the arguments, and the package variables that the reading takes, are together of bulk at most 1048576: NARROWER than '..Said'. Prove '..Said' where nothing that the law and all that it calls make is longer than what came in: it says more and counts as full. Else prove '..UptoSaid'. A law counts once. -/
mutual
def uptoBulk {H : Type} : DataW H → Nat
  | .lit (.string bytes) => bytes.length + 1
  | .lit _ => 1
  | .nil => 1
  | .ptr d => uptoBulk d + 1
  | .slice elems spare => uptoBulkAll elems + uptoBulkAll spare + 1
  | .agg parts => uptoBulkAll parts + 1
  | .iface _ d => uptoBulk d + 1
  | .map entries => uptoBulkEntries entries + 1
  | .held _ => 1
def uptoBulkAll {H : Type} : List (DataW H) → Nat
  | [] => 0
  | d :: r => uptoBulk d + uptoBulkAll r
def uptoBulkEntries {H : Type} : List (Lit × DataW H) → Nat
  | [] => 0
  | x :: r => uptoBulkEntry x + uptoBulkEntries r
def uptoBulkEntry {H : Type} : Lit × DataW H → Nat
  | (.string bytes, d) => bytes.length + uptoBulk d + 1
  | (_, d) => uptoBulk d + 1
 end
def uptoSmall : (H : Type) → List (DataW H) → Bool := fun _ ds => decide (uptoBulkAll ds ≤ 1048576)
def OpenSpec.upto (s : _root_.Go.ChangeSpec) : _root_.Go.OpenSpec := { _root_.Go.OpenSpec.ofChange s with cond := some uptoSmall }

/-- 'crossbarlaw15.RoutingTablesMatchSpecification', WHERE WHAT IT READS IS OF BULK AT MOST 1048576: true; the input reads as it did. -/
def routingTablesMatchSpecificationUptoRow : OpenClaim := { program := "ytjaodgicpnoifaa", sum := "440f0d45d1b05e9ba5a5c5c0cb16f8eb6e9e2ed43db72562e91f6dc3abb98645", func := "crossbar/crossbarlaw15.RoutingTablesMatchSpecification", spec := "routingTablesMatchSpecification", unfollowed := true, recurses := true, apart := false, narrowed := true }
def RoutingTablesMatchSpecificationUptoSaid : Prop := routingTablesMatchSpecificationUptoRow.holds Try.pinned (OpenSpec.upto routingTablesMatchSpecificationSpec)

/-- 'crossbarlaw15.RoutingSelectionMatchesSpecification', WHERE WHAT IT READS IS OF BULK AT MOST 1048576: true; the input reads as it did. -/
def routingSelectionMatchesSpecificationUptoRow : OpenClaim := { program := "ytjaodgicpnoifaa", sum := "440f0d45d1b05e9ba5a5c5c0cb16f8eb6e9e2ed43db72562e91f6dc3abb98645", func := "crossbar/crossbarlaw15.RoutingSelectionMatchesSpecification", spec := "routingSelectionMatchesSpecification", unfollowed := true, recurses := true, apart := false, narrowed := true }
def RoutingSelectionMatchesSpecificationUptoSaid : Prop := routingSelectionMatchesSpecificationUptoRow.holds Try.pinned (OpenSpec.upto routingSelectionMatchesSpecificationSpec)

/-- 'crossbarlaw15.RoutingFollowsShortestPaths', WHERE WHAT IT READS IS OF BULK AT MOST 1048576: true; the input reads as it did. -/
def routingFollowsShortestPathsUptoRow : OpenClaim := { program := "ytjaodgicpnoifaa", sum := "440f0d45d1b05e9ba5a5c5c0cb16f8eb6e9e2ed43db72562e91f6dc3abb98645", func := "crossbar/crossbarlaw15.RoutingFollowsShortestPaths", spec := "routingFollowsShortestPaths", unfollowed := true, recurses := true, apart := false, narrowed := true }
def RoutingFollowsShortestPathsUptoSaid : Prop := routingFollowsShortestPathsUptoRow.holds Try.pinned (OpenSpec.upto routingFollowsShortestPathsSpec)

/-- 'crossbarlaw15.RoutingListsAllAlternatives', WHERE WHAT IT READS IS OF BULK AT MOST 1048576: true; the input reads as it did. -/
def routingListsAllAlternativesUptoRow : OpenClaim := { program := "ytjaodgicpnoifaa", sum := "440f0d45d1b05e9ba5a5c5c0cb16f8eb6e9e2ed43db72562e91f6dc3abb98645", func := "crossbar/crossbarlaw15.RoutingListsAllAlternatives", spec := "routingListsAllAlternatives", unfollowed := true, recurses := true, apart := false, narrowed := true }
def RoutingListsAllAlternativesUptoSaid : Prop := routingListsAllAlternativesUptoRow.holds Try.pinned (OpenSpec.upto routingListsAllAlternativesSpec)

/-- 'crossbarlaw15.RoutingSelectFindsEveryWay', WHERE WHAT IT READS IS OF BULK AT MOST 1048576: true; the input reads as it did. -/
def routingSelectFindsEveryWayUptoRow : OpenClaim := { program := "ytjaodgicpnoifaa", sum := "440f0d45d1b05e9ba5a5c5c0cb16f8eb6e9e2ed43db72562e91f6dc3abb98645", func := "crossbar/crossbarlaw15.RoutingSelectFindsEveryWay", spec := "routingSelectFindsEveryWay", unfollowed := true, recurses := true, apart := false, narrowed := true }
def RoutingSelectFindsEveryWayUptoSaid : Prop := routingSelectFindsEveryWayUptoRow.holds Try.pinned (OpenSpec.upto routingSelectFindsEveryWaySpec)

/-- 'crossbarlaw15.RoutingOrderIsSorted', WHERE WHAT IT READS IS OF BULK AT MOST 1048576: true; the input reads as it did. -/
def routingOrderIsSortedUptoRow : OpenClaim := { program := "ytjaodgicpnoifaa", sum := "440f0d45d1b05e9ba5a5c5c0cb16f8eb6e9e2ed43db72562e91f6dc3abb98645", func := "crossbar/crossbarlaw15.RoutingOrderIsSorted", spec := "routingOrderIsSorted", unfollowed := true, recurses := true, apart := false, narrowed := true }
def RoutingOrderIsSortedUptoSaid : Prop := routingOrderIsSortedUptoRow.holds Try.pinned (OpenSpec.upto routingOrderIsSortedSpec)

/-- 'crossbarlaw15.RoutingDistancesAreMetric', WHERE WHAT IT READS IS OF BULK AT MOST 1048576: true; the input reads as it did. -/
def routingDistancesAreMetricUptoRow : OpenClaim := { program := "ytjaodgicpnoifaa", sum := "440f0d45d1b05e9ba5a5c5c0cb16f8eb6e9e2ed43db72562e91f6dc3abb98645", func := "crossbar/crossbarlaw15.RoutingDistancesAreMetric", spec := "routingDistancesAreMetric", unfollowed := true, recurses := true, apart := false, narrowed := true }
def RoutingDistancesAreMetricUptoSaid : Prop := routingDistancesAreMetricUptoRow.holds Try.pinned (OpenSpec.upto routingDistancesAreMetricSpec)

end Rows
end Go.Proofs.Ytjaodgicpnoifaa
