/-
  No cell of these rows narrows 'for every input' (looked for: loops, veiled, ifaces, maps, wideKeys, modest, calm, conditions, laid).
  DERIVED. THE GIVEN ROWS OF THIS SEAT. 12 by the template 'for every input the law returns true; each argument reads behind the call as it read before'; 0 by the template 'total and deterministic' (their statements: YtpmgljmpddkikaaTotals.lean).
  GIVEN WITH THE SEED: the statements are not yours to turn. If you find one false, say at which input.
  Laid BY PROGRAM, IN A SANDBOX (cutbox-rows.mjs): the forced cells as the released guide's own fill.sh prints them over the translation 6997e71ffa589701… (all of the seat's roots in one cut). By AI agents, Wed Nov 11 2026. No macro, syntax, notation, axiom, sorry.
-/
import Derived.Test.YtpmgljmpddkikaaChecked
import GoSem.Claim
import GoSem.ClaimJoined
import GoSem.ClaimMapViews
import Derived.JoinedTies
import Derived.KernelRfl
namespace Go.Proofs.Ytpmgljmpddkikaa
/- THE CELL 'sum', in the pinned program and in every row, IS THE sha256 OF THE DUMP (.gsa) THAT YtpmgljmpddkikaaProg.lean LOADS. Nothing in Lean hashes anything: it is a label: what it is worth is what the hold of that sum in a sandbox is worth. -/
noncomputable def Try.pinned : Pinned := { name := "ytpmgljmpddkikaa", sum := "6997e71ffa5897014473c84f8c0ca68370eb000649acec0cb0ebdaa1f73efa76", checked := Try.checked }
namespace Rows
def none {H : Type} : Left H := { results := [], args := [] }

/-- 'laws.FnExactIsOrder': WHATEVER THE INPUT: true; the input reads as it did. -/
def fnExactIsOrderSpec : ChangeSpec := { name := "fnExactIsOrder", fn := fun _ => fun
  | [d1, d2] => { results := [.lit (.bool true)], args := [d1, d2] }
  | _ => none }
def fnExactIsOrderRow : OpenClaim := { program := "ytpmgljmpddkikaa", sum := "6997e71ffa5897014473c84f8c0ca68370eb000649acec0cb0ebdaa1f73efa76", func := "loop.example/g01923/laws.FnExactIsOrder", spec := "fnExactIsOrder", apart := false }
def FnExactIsOrderSaid : Prop := fnExactIsOrderRow.holds Try.pinned (OpenSpec.ofChange fnExactIsOrderSpec)

/-- ITS FALSE NEIGHBOUR: 'it returns false'. Refute it at one input. -/
def fnExactIsOrderWrong : ChangeSpec := { name := "fnExactIsOrder", fn := fun _ => fun
  | [d1, d2] => { results := [.lit (.bool false)], args := [d1, d2] }
  | _ => none }
def FnExactIsOrderWrongFalsely : Prop := fnExactIsOrderRow.holds Try.pinned (OpenSpec.ofChange fnExactIsOrderWrong)

/-- 'laws.FnExactCanonicalLabels': WHATEVER THE INPUT: true; the input reads as it did. -/
def fnExactCanonicalLabelsSpec : ChangeSpec := { name := "fnExactCanonicalLabels", fn := fun _ => fun
  | [d] => { results := [.lit (.bool true)], args := [d] }
  | _ => none }
def fnExactCanonicalLabelsRow : OpenClaim := { program := "ytpmgljmpddkikaa", sum := "6997e71ffa5897014473c84f8c0ca68370eb000649acec0cb0ebdaa1f73efa76", func := "loop.example/g01923/laws.FnExactCanonicalLabels", spec := "fnExactCanonicalLabels", apart := false }
def FnExactCanonicalLabelsSaid : Prop := fnExactCanonicalLabelsRow.holds Try.pinned (OpenSpec.ofChange fnExactCanonicalLabelsSpec)

/-- ITS FALSE NEIGHBOUR: 'it returns false'. Refute it at one input. -/
def fnExactCanonicalLabelsWrong : ChangeSpec := { name := "fnExactCanonicalLabels", fn := fun _ => fun
  | [d] => { results := [.lit (.bool false)], args := [d] }
  | _ => none }
def FnExactCanonicalLabelsWrongFalsely : Prop := fnExactCanonicalLabelsRow.holds Try.pinned (OpenSpec.ofChange fnExactCanonicalLabelsWrong)

/-- 'laws.FnExactAreConstraints': WHATEVER THE INPUT: true; the input reads as it did. -/
def fnExactAreConstraintsSpec : ChangeSpec := { name := "fnExactAreConstraints", fn := fun _ => fun
  | [d1, d2] => { results := [.lit (.bool true)], args := [d1, d2] }
  | _ => none }
def fnExactAreConstraintsRow : OpenClaim := { program := "ytpmgljmpddkikaa", sum := "6997e71ffa5897014473c84f8c0ca68370eb000649acec0cb0ebdaa1f73efa76", func := "loop.example/g01923/laws.FnExactAreConstraints", spec := "fnExactAreConstraints", unfollowed := true, recurses := true, apart := false }
def FnExactAreConstraintsSaid : Prop := fnExactAreConstraintsRow.holds Try.pinned (OpenSpec.ofChange fnExactAreConstraintsSpec)

/-- ITS FALSE NEIGHBOUR: 'it returns false'. Refute it at one input. -/
def fnExactAreConstraintsWrong : ChangeSpec := { name := "fnExactAreConstraints", fn := fun _ => fun
  | [d1, d2] => { results := [.lit (.bool false)], args := [d1, d2] }
  | _ => none }
def FnExactAreConstraintsWrongFalsely : Prop := fnExactAreConstraintsRow.holds Try.pinned (OpenSpec.ofChange fnExactAreConstraintsWrong)

/-- 'laws.FnExactEqualClusterings': WHATEVER THE INPUT: true; the input reads as it did. -/
def fnExactEqualClusteringsSpec : ChangeSpec := { name := "fnExactEqualClusterings", fn := fun _ => fun
  | [d1, d2] => { results := [.lit (.bool true)], args := [d1, d2] }
  | _ => none }
def fnExactEqualClusteringsRow : OpenClaim := { program := "ytpmgljmpddkikaa", sum := "6997e71ffa5897014473c84f8c0ca68370eb000649acec0cb0ebdaa1f73efa76", func := "loop.example/g01923/laws.FnExactEqualClusterings", spec := "fnExactEqualClusterings", apart := false }
def FnExactEqualClusteringsSaid : Prop := fnExactEqualClusteringsRow.holds Try.pinned (OpenSpec.ofChange fnExactEqualClusteringsSpec)

/-- ITS FALSE NEIGHBOUR: 'it returns false'. Refute it at one input. -/
def fnExactEqualClusteringsWrong : ChangeSpec := { name := "fnExactEqualClusterings", fn := fun _ => fun
  | [d1, d2] => { results := [.lit (.bool false)], args := [d1, d2] }
  | _ => none }
def FnExactEqualClusteringsWrongFalsely : Prop := fnExactEqualClusteringsRow.holds Try.pinned (OpenSpec.ofChange fnExactEqualClusteringsWrong)

/-- 'laws.FnExactIsWeightMatrix': WHATEVER THE INPUT: true; the input reads as it did. -/
def fnExactIsWeightMatrixSpec : ChangeSpec := { name := "fnExactIsWeightMatrix", fn := fun _ => fun
  | [d] => { results := [.lit (.bool true)], args := [d] }
  | _ => none }
def fnExactIsWeightMatrixRow : OpenClaim := { program := "ytpmgljmpddkikaa", sum := "6997e71ffa5897014473c84f8c0ca68370eb000649acec0cb0ebdaa1f73efa76", func := "loop.example/g01923/laws.FnExactIsWeightMatrix", spec := "fnExactIsWeightMatrix", apart := false }
def FnExactIsWeightMatrixSaid : Prop := fnExactIsWeightMatrixRow.holds Try.pinned (OpenSpec.ofChange fnExactIsWeightMatrixSpec)

/-- ITS FALSE NEIGHBOUR: 'it returns false'. Refute it at one input. -/
def fnExactIsWeightMatrixWrong : ChangeSpec := { name := "fnExactIsWeightMatrix", fn := fun _ => fun
  | [d] => { results := [.lit (.bool false)], args := [d] }
  | _ => none }
def FnExactIsWeightMatrixWrongFalsely : Prop := fnExactIsWeightMatrixRow.holds Try.pinned (OpenSpec.ofChange fnExactIsWeightMatrixWrong)

/-- 'laws.FnExactRefinesPartition': WHATEVER THE INPUT: true; the input reads as it did. -/
def fnExactRefinesPartitionSpec : ChangeSpec := { name := "fnExactRefinesPartition", fn := fun _ => fun
  | [d1, d2] => { results := [.lit (.bool true)], args := [d1, d2] }
  | _ => none }
def fnExactRefinesPartitionRow : OpenClaim := { program := "ytpmgljmpddkikaa", sum := "6997e71ffa5897014473c84f8c0ca68370eb000649acec0cb0ebdaa1f73efa76", func := "loop.example/g01923/laws.FnExactRefinesPartition", spec := "fnExactRefinesPartition", apart := false }
def FnExactRefinesPartitionSaid : Prop := fnExactRefinesPartitionRow.holds Try.pinned (OpenSpec.ofChange fnExactRefinesPartitionSpec)

/-- ITS FALSE NEIGHBOUR: 'it returns false'. Refute it at one input. -/
def fnExactRefinesPartitionWrong : ChangeSpec := { name := "fnExactRefinesPartition", fn := fun _ => fun
  | [d1, d2] => { results := [.lit (.bool false)], args := [d1, d2] }
  | _ => none }
def FnExactRefinesPartitionWrongFalsely : Prop := fnExactRefinesPartitionRow.holds Try.pinned (OpenSpec.ofChange fnExactRefinesPartitionWrong)

/-- 'laws.FnExactPartitionBlocks': WHATEVER THE INPUT: true; the input reads as it did. -/
def fnExactPartitionBlocksSpec : ChangeSpec := { name := "fnExactPartitionBlocks", fn := fun _ => fun
  | [d] => { results := [.lit (.bool true)], args := [d] }
  | _ => none }
def fnExactPartitionBlocksRow : OpenClaim := { program := "ytpmgljmpddkikaa", sum := "6997e71ffa5897014473c84f8c0ca68370eb000649acec0cb0ebdaa1f73efa76", func := "loop.example/g01923/laws.FnExactPartitionBlocks", spec := "fnExactPartitionBlocks", apart := false }
def FnExactPartitionBlocksSaid : Prop := fnExactPartitionBlocksRow.holds Try.pinned (OpenSpec.ofChange fnExactPartitionBlocksSpec)

/-- ITS FALSE NEIGHBOUR: 'it returns false'. Refute it at one input. -/
def fnExactPartitionBlocksWrong : ChangeSpec := { name := "fnExactPartitionBlocks", fn := fun _ => fun
  | [d] => { results := [.lit (.bool false)], args := [d] }
  | _ => none }
def FnExactPartitionBlocksWrongFalsely : Prop := fnExactPartitionBlocksRow.holds Try.pinned (OpenSpec.ofChange fnExactPartitionBlocksWrong)

/-- 'laws.FnExactKeepsConstraints': WHATEVER THE INPUT: true; the input reads as it did. -/
def fnExactKeepsConstraintsSpec : ChangeSpec := { name := "fnExactKeepsConstraints", fn := fun _ => fun
  | [d1, d2] => { results := [.lit (.bool true)], args := [d1, d2] }
  | _ => none }
def fnExactKeepsConstraintsRow : OpenClaim := { program := "ytpmgljmpddkikaa", sum := "6997e71ffa5897014473c84f8c0ca68370eb000649acec0cb0ebdaa1f73efa76", func := "loop.example/g01923/laws.FnExactKeepsConstraints", spec := "fnExactKeepsConstraints", unfollowed := true, recurses := true, apart := false }
def FnExactKeepsConstraintsSaid : Prop := fnExactKeepsConstraintsRow.holds Try.pinned (OpenSpec.ofChange fnExactKeepsConstraintsSpec)

/-- ITS FALSE NEIGHBOUR: 'it returns false'. Refute it at one input. -/
def fnExactKeepsConstraintsWrong : ChangeSpec := { name := "fnExactKeepsConstraints", fn := fun _ => fun
  | [d1, d2] => { results := [.lit (.bool false)], args := [d1, d2] }
  | _ => none }
def FnExactKeepsConstraintsWrongFalsely : Prop := fnExactKeepsConstraintsRow.holds Try.pinned (OpenSpec.ofChange fnExactKeepsConstraintsWrong)

/-- 'laws.FnExactMeetPartitions': WHATEVER THE INPUT: true; the input reads as it did. -/
def fnExactMeetPartitionsSpec : ChangeSpec := { name := "fnExactMeetPartitions", fn := fun _ => fun
  | [d1, d2] => { results := [.lit (.bool true)], args := [d1, d2] }
  | _ => none }
def fnExactMeetPartitionsRow : OpenClaim := { program := "ytpmgljmpddkikaa", sum := "6997e71ffa5897014473c84f8c0ca68370eb000649acec0cb0ebdaa1f73efa76", func := "loop.example/g01923/laws.FnExactMeetPartitions", spec := "fnExactMeetPartitions", apart := false }
def FnExactMeetPartitionsSaid : Prop := fnExactMeetPartitionsRow.holds Try.pinned (OpenSpec.ofChange fnExactMeetPartitionsSpec)

/-- ITS FALSE NEIGHBOUR: 'it returns false'. Refute it at one input. -/
def fnExactMeetPartitionsWrong : ChangeSpec := { name := "fnExactMeetPartitions", fn := fun _ => fun
  | [d1, d2] => { results := [.lit (.bool false)], args := [d1, d2] }
  | _ => none }
def FnExactMeetPartitionsWrongFalsely : Prop := fnExactMeetPartitionsRow.holds Try.pinned (OpenSpec.ofChange fnExactMeetPartitionsWrong)

/-- 'laws.FnExactIsBadTriangle': WHATEVER THE INPUT: true; the input reads as it did. -/
def fnExactIsBadTriangleSpec : ChangeSpec := { name := "fnExactIsBadTriangle", fn := fun _ => fun
  | [d1, d2, d3, d4] => { results := [.lit (.bool true)], args := [d1, d2, d3, d4] }
  | _ => none }
def fnExactIsBadTriangleRow : OpenClaim := { program := "ytpmgljmpddkikaa", sum := "6997e71ffa5897014473c84f8c0ca68370eb000649acec0cb0ebdaa1f73efa76", func := "loop.example/g01923/laws.FnExactIsBadTriangle", spec := "fnExactIsBadTriangle", apart := false }
def FnExactIsBadTriangleSaid : Prop := fnExactIsBadTriangleRow.holds Try.pinned (OpenSpec.ofChange fnExactIsBadTriangleSpec)

/-- ITS FALSE NEIGHBOUR: 'it returns false'. Refute it at one input. -/
def fnExactIsBadTriangleWrong : ChangeSpec := { name := "fnExactIsBadTriangle", fn := fun _ => fun
  | [d1, d2, d3, d4] => { results := [.lit (.bool false)], args := [d1, d2, d3, d4] }
  | _ => none }
def FnExactIsBadTriangleWrongFalsely : Prop := fnExactIsBadTriangleRow.holds Try.pinned (OpenSpec.ofChange fnExactIsBadTriangleWrong)

/-- 'laws.FnExactRestrictConstraints': WHATEVER THE INPUT: true; the input reads as it did. -/
def fnExactRestrictConstraintsSpec : ChangeSpec := { name := "fnExactRestrictConstraints", fn := fun _ => fun
  | [d1, d2] => { results := [.lit (.bool true)], args := [d1, d2] }
  | _ => none }
def fnExactRestrictConstraintsRow : OpenClaim := { program := "ytpmgljmpddkikaa", sum := "6997e71ffa5897014473c84f8c0ca68370eb000649acec0cb0ebdaa1f73efa76", func := "loop.example/g01923/laws.FnExactRestrictConstraints", spec := "fnExactRestrictConstraints", apart := false }
def FnExactRestrictConstraintsSaid : Prop := fnExactRestrictConstraintsRow.holds Try.pinned (OpenSpec.ofChange fnExactRestrictConstraintsSpec)

/-- ITS FALSE NEIGHBOUR: 'it returns false'. Refute it at one input. -/
def fnExactRestrictConstraintsWrong : ChangeSpec := { name := "fnExactRestrictConstraints", fn := fun _ => fun
  | [d1, d2] => { results := [.lit (.bool false)], args := [d1, d2] }
  | _ => none }
def FnExactRestrictConstraintsWrongFalsely : Prop := fnExactRestrictConstraintsRow.holds Try.pinned (OpenSpec.ofChange fnExactRestrictConstraintsWrong)

/-- 'laws.FnExactMoveItem': WHATEVER THE INPUT: true; the input reads as it did. -/
def fnExactMoveItemSpec : ChangeSpec := { name := "fnExactMoveItem", fn := fun _ => fun
  | [d1, d2, d3] => { results := [.lit (.bool true)], args := [d1, d2, d3] }
  | _ => none }
def fnExactMoveItemRow : OpenClaim := { program := "ytpmgljmpddkikaa", sum := "6997e71ffa5897014473c84f8c0ca68370eb000649acec0cb0ebdaa1f73efa76", func := "loop.example/g01923/laws.FnExactMoveItem", spec := "fnExactMoveItem", apart := false }
def FnExactMoveItemSaid : Prop := fnExactMoveItemRow.holds Try.pinned (OpenSpec.ofChange fnExactMoveItemSpec)

/-- ITS FALSE NEIGHBOUR: 'it returns false'. Refute it at one input. -/
def fnExactMoveItemWrong : ChangeSpec := { name := "fnExactMoveItem", fn := fun _ => fun
  | [d1, d2, d3] => { results := [.lit (.bool false)], args := [d1, d2, d3] }
  | _ => none }
def FnExactMoveItemWrongFalsely : Prop := fnExactMoveItemRow.holds Try.pinned (OpenSpec.ofChange fnExactMoveItemWrong)

/- THE SECOND FORM. 'bulk': how many values and letters a reading holds, each counted each time it is reached (what is shared counts as often as it is met; a slice's spare places count too). A statement '..UptoSaid' is the law's where the arguments, and the package variables that the reading takes, are together of bulk at most 1048576: NARROWER than '..Said'. Prove '..Said' where nothing that the law and all that it calls make is longer than what came in: it says more and counts as full. Else prove '..UptoSaid'. A law counts once. -/
mutual
def uptoBulk {H : Type} : DataW H → Nat
  | .lit (.string bytes) => bytes.length + 1
  | .lit _ => 1
  | .nil => 1
  | .ptr d => uptoBulk d + 1
  | .slice elems spare => uptoBulkAll elems + uptoBulkAll spare + 1
  | .agg parts => uptoBulkAll parts + 1
  | .iface _ d => uptoBulk d + 1
  | .map entries => uptoBulkEntries entries + 1
  | .held _ => 1
def uptoBulkAll {H : Type} : List (DataW H) → Nat
  | [] => 0
  | d :: r => uptoBulk d + uptoBulkAll r
def uptoBulkEntries {H : Type} : List (Lit × DataW H) → Nat
  | [] => 0
  | x :: r => uptoBulkEntry x + uptoBulkEntries r
def uptoBulkEntry {H : Type} : Lit × DataW H → Nat
  | (.string bytes, d) => bytes.length + uptoBulk d + 1
  | (_, d) => uptoBulk d + 1
 end
def uptoSmall : (H : Type) → List (DataW H) → Bool := fun _ ds => decide (uptoBulkAll ds ≤ 1048576)
def OpenSpec.upto (s : _root_.Go.ChangeSpec) : _root_.Go.OpenSpec := { _root_.Go.OpenSpec.ofChange s with cond := some uptoSmall }

/-- 'laws.FnExactIsOrder', WHERE WHAT IT READS IS OF BULK AT MOST 1048576: true; the input reads as it did. -/
def fnExactIsOrderUptoRow : OpenClaim := { program := "ytpmgljmpddkikaa", sum := "6997e71ffa5897014473c84f8c0ca68370eb000649acec0cb0ebdaa1f73efa76", func := "loop.example/g01923/laws.FnExactIsOrder", spec := "fnExactIsOrder", apart := false, narrowed := true }
def FnExactIsOrderUptoSaid : Prop := fnExactIsOrderUptoRow.holds Try.pinned (OpenSpec.upto fnExactIsOrderSpec)

/-- 'laws.FnExactCanonicalLabels', WHERE WHAT IT READS IS OF BULK AT MOST 1048576: true; the input reads as it did. -/
def fnExactCanonicalLabelsUptoRow : OpenClaim := { program := "ytpmgljmpddkikaa", sum := "6997e71ffa5897014473c84f8c0ca68370eb000649acec0cb0ebdaa1f73efa76", func := "loop.example/g01923/laws.FnExactCanonicalLabels", spec := "fnExactCanonicalLabels", apart := false, narrowed := true }
def FnExactCanonicalLabelsUptoSaid : Prop := fnExactCanonicalLabelsUptoRow.holds Try.pinned (OpenSpec.upto fnExactCanonicalLabelsSpec)

/-- 'laws.FnExactAreConstraints', WHERE WHAT IT READS IS OF BULK AT MOST 1048576: true; the input reads as it did. -/
def fnExactAreConstraintsUptoRow : OpenClaim := { program := "ytpmgljmpddkikaa", sum := "6997e71ffa5897014473c84f8c0ca68370eb000649acec0cb0ebdaa1f73efa76", func := "loop.example/g01923/laws.FnExactAreConstraints", spec := "fnExactAreConstraints", unfollowed := true, recurses := true, apart := false, narrowed := true }
def FnExactAreConstraintsUptoSaid : Prop := fnExactAreConstraintsUptoRow.holds Try.pinned (OpenSpec.upto fnExactAreConstraintsSpec)

/-- 'laws.FnExactEqualClusterings', WHERE WHAT IT READS IS OF BULK AT MOST 1048576: true; the input reads as it did. -/
def fnExactEqualClusteringsUptoRow : OpenClaim := { program := "ytpmgljmpddkikaa", sum := "6997e71ffa5897014473c84f8c0ca68370eb000649acec0cb0ebdaa1f73efa76", func := "loop.example/g01923/laws.FnExactEqualClusterings", spec := "fnExactEqualClusterings", apart := false, narrowed := true }
def FnExactEqualClusteringsUptoSaid : Prop := fnExactEqualClusteringsUptoRow.holds Try.pinned (OpenSpec.upto fnExactEqualClusteringsSpec)

/-- 'laws.FnExactIsWeightMatrix', WHERE WHAT IT READS IS OF BULK AT MOST 1048576: true; the input reads as it did. -/
def fnExactIsWeightMatrixUptoRow : OpenClaim := { program := "ytpmgljmpddkikaa", sum := "6997e71ffa5897014473c84f8c0ca68370eb000649acec0cb0ebdaa1f73efa76", func := "loop.example/g01923/laws.FnExactIsWeightMatrix", spec := "fnExactIsWeightMatrix", apart := false, narrowed := true }
def FnExactIsWeightMatrixUptoSaid : Prop := fnExactIsWeightMatrixUptoRow.holds Try.pinned (OpenSpec.upto fnExactIsWeightMatrixSpec)

/-- 'laws.FnExactRefinesPartition', WHERE WHAT IT READS IS OF BULK AT MOST 1048576: true; the input reads as it did. -/
def fnExactRefinesPartitionUptoRow : OpenClaim := { program := "ytpmgljmpddkikaa", sum := "6997e71ffa5897014473c84f8c0ca68370eb000649acec0cb0ebdaa1f73efa76", func := "loop.example/g01923/laws.FnExactRefinesPartition", spec := "fnExactRefinesPartition", apart := false, narrowed := true }
def FnExactRefinesPartitionUptoSaid : Prop := fnExactRefinesPartitionUptoRow.holds Try.pinned (OpenSpec.upto fnExactRefinesPartitionSpec)

/-- 'laws.FnExactPartitionBlocks', WHERE WHAT IT READS IS OF BULK AT MOST 1048576: true; the input reads as it did. -/
def fnExactPartitionBlocksUptoRow : OpenClaim := { program := "ytpmgljmpddkikaa", sum := "6997e71ffa5897014473c84f8c0ca68370eb000649acec0cb0ebdaa1f73efa76", func := "loop.example/g01923/laws.FnExactPartitionBlocks", spec := "fnExactPartitionBlocks", apart := false, narrowed := true }
def FnExactPartitionBlocksUptoSaid : Prop := fnExactPartitionBlocksUptoRow.holds Try.pinned (OpenSpec.upto fnExactPartitionBlocksSpec)

/-- 'laws.FnExactKeepsConstraints', WHERE WHAT IT READS IS OF BULK AT MOST 1048576: true; the input reads as it did. -/
def fnExactKeepsConstraintsUptoRow : OpenClaim := { program := "ytpmgljmpddkikaa", sum := "6997e71ffa5897014473c84f8c0ca68370eb000649acec0cb0ebdaa1f73efa76", func := "loop.example/g01923/laws.FnExactKeepsConstraints", spec := "fnExactKeepsConstraints", unfollowed := true, recurses := true, apart := false, narrowed := true }
def FnExactKeepsConstraintsUptoSaid : Prop := fnExactKeepsConstraintsUptoRow.holds Try.pinned (OpenSpec.upto fnExactKeepsConstraintsSpec)

/-- 'laws.FnExactMeetPartitions', WHERE WHAT IT READS IS OF BULK AT MOST 1048576: true; the input reads as it did. -/
def fnExactMeetPartitionsUptoRow : OpenClaim := { program := "ytpmgljmpddkikaa", sum := "6997e71ffa5897014473c84f8c0ca68370eb000649acec0cb0ebdaa1f73efa76", func := "loop.example/g01923/laws.FnExactMeetPartitions", spec := "fnExactMeetPartitions", apart := false, narrowed := true }
def FnExactMeetPartitionsUptoSaid : Prop := fnExactMeetPartitionsUptoRow.holds Try.pinned (OpenSpec.upto fnExactMeetPartitionsSpec)

/-- 'laws.FnExactIsBadTriangle', WHERE WHAT IT READS IS OF BULK AT MOST 1048576: true; the input reads as it did. -/
def fnExactIsBadTriangleUptoRow : OpenClaim := { program := "ytpmgljmpddkikaa", sum := "6997e71ffa5897014473c84f8c0ca68370eb000649acec0cb0ebdaa1f73efa76", func := "loop.example/g01923/laws.FnExactIsBadTriangle", spec := "fnExactIsBadTriangle", apart := false, narrowed := true }
def FnExactIsBadTriangleUptoSaid : Prop := fnExactIsBadTriangleUptoRow.holds Try.pinned (OpenSpec.upto fnExactIsBadTriangleSpec)

/-- 'laws.FnExactRestrictConstraints', WHERE WHAT IT READS IS OF BULK AT MOST 1048576: true; the input reads as it did. -/
def fnExactRestrictConstraintsUptoRow : OpenClaim := { program := "ytpmgljmpddkikaa", sum := "6997e71ffa5897014473c84f8c0ca68370eb000649acec0cb0ebdaa1f73efa76", func := "loop.example/g01923/laws.FnExactRestrictConstraints", spec := "fnExactRestrictConstraints", apart := false, narrowed := true }
def FnExactRestrictConstraintsUptoSaid : Prop := fnExactRestrictConstraintsUptoRow.holds Try.pinned (OpenSpec.upto fnExactRestrictConstraintsSpec)

/-- 'laws.FnExactMoveItem', WHERE WHAT IT READS IS OF BULK AT MOST 1048576: true; the input reads as it did. -/
def fnExactMoveItemUptoRow : OpenClaim := { program := "ytpmgljmpddkikaa", sum := "6997e71ffa5897014473c84f8c0ca68370eb000649acec0cb0ebdaa1f73efa76", func := "loop.example/g01923/laws.FnExactMoveItem", spec := "fnExactMoveItem", apart := false, narrowed := true }
def FnExactMoveItemUptoSaid : Prop := fnExactMoveItemUptoRow.holds Try.pinned (OpenSpec.upto fnExactMoveItemSpec)

end Rows
end Go.Proofs.Ytpmgljmpddkikaa
