/-
  No cell of these rows narrows 'for every input' (looked for: loops, veiled, ifaces, maps, wideKeys, modest, calm, conditions, laid).
  DERIVED. THE GIVEN ROWS OF THIS SEAT. 12 by the template 'for every input the law returns true; each argument reads behind the call as it read before'; 0 by the template 'total and deterministic' (their statements: YtmpkhoanleihoaaTotals.lean).
  GIVEN WITH THE SEED: the statements are not yours to turn. If you find one false, say at which input.
  Laid BY PROGRAM, IN A SANDBOX (cutbox-rows.mjs): the forced cells as the released guide's own fill.sh prints them over the translation a18a275eca40556e… (all of the seat's roots in one cut). By AI agents, Wed Nov 11 2026. No macro, syntax, notation, axiom, sorry.
-/
import Derived.Test.YtmpkhoanleihoaaChecked
import GoSem.Claim
import GoSem.ClaimJoined
import GoSem.ClaimMapViews
import Derived.JoinedTies
import Derived.KernelRfl
namespace Go.Proofs.Ytmpkhoanleihoaa
/- THE CELL 'sum', in the pinned program and in every row, IS THE sha256 OF THE DUMP (.gsa) THAT YtmpkhoanleihoaaProg.lean LOADS. Nothing in Lean hashes anything: it is a label: what it is worth is what the hold of that sum in a sandbox is worth. -/
noncomputable def Try.pinned : Pinned := { name := "ytmpkhoanleihoaa", sum := "a18a275eca40556e44c5c87aa67aa6b4af1b2dd80d20698101a50690cf38d06c", checked := Try.checked }
namespace Rows
def none {H : Type} : Left H := { results := [], args := [] }

/-- 'laws.FnExactIsPartition': WHATEVER THE INPUT: true; the input reads as it did. -/
def fnExactIsPartitionSpec : ChangeSpec := { name := "fnExactIsPartition", fn := fun _ => fun
  | [d] => { results := [.lit (.bool true)], args := [d] }
  | _ => none }
def fnExactIsPartitionRow : OpenClaim := { program := "ytmpkhoanleihoaa", sum := "a18a275eca40556e44c5c87aa67aa6b4af1b2dd80d20698101a50690cf38d06c", func := "loop.example/g01923/laws.FnExactIsPartition", spec := "fnExactIsPartition", apart := false }
def FnExactIsPartitionSaid : Prop := fnExactIsPartitionRow.holds Try.pinned (OpenSpec.ofChange fnExactIsPartitionSpec)

/-- ITS FALSE NEIGHBOUR: 'it returns false'. Refute it at one input. -/
def fnExactIsPartitionWrong : ChangeSpec := { name := "fnExactIsPartition", fn := fun _ => fun
  | [d] => { results := [.lit (.bool false)], args := [d] }
  | _ => none }
def FnExactIsPartitionWrongFalsely : Prop := fnExactIsPartitionRow.holds Try.pinned (OpenSpec.ofChange fnExactIsPartitionWrong)

/-- 'laws.FnExactIsOrder': WHATEVER THE INPUT: true; the input reads as it did. -/
def fnExactIsOrderSpec : ChangeSpec := { name := "fnExactIsOrder", fn := fun _ => fun
  | [d1, d2] => { results := [.lit (.bool true)], args := [d1, d2] }
  | _ => none }
def fnExactIsOrderRow : OpenClaim := { program := "ytmpkhoanleihoaa", sum := "a18a275eca40556e44c5c87aa67aa6b4af1b2dd80d20698101a50690cf38d06c", func := "loop.example/g01923/laws.FnExactIsOrder", spec := "fnExactIsOrder", apart := false }
def FnExactIsOrderSaid : Prop := fnExactIsOrderRow.holds Try.pinned (OpenSpec.ofChange fnExactIsOrderSpec)

/-- ITS FALSE NEIGHBOUR: 'it returns false'. Refute it at one input. -/
def fnExactIsOrderWrong : ChangeSpec := { name := "fnExactIsOrder", fn := fun _ => fun
  | [d1, d2] => { results := [.lit (.bool false)], args := [d1, d2] }
  | _ => none }
def FnExactIsOrderWrongFalsely : Prop := fnExactIsOrderRow.holds Try.pinned (OpenSpec.ofChange fnExactIsOrderWrong)

/-- 'laws.FnExactCanonicalLabels': WHATEVER THE INPUT: true; the input reads as it did. -/
def fnExactCanonicalLabelsSpec : ChangeSpec := { name := "fnExactCanonicalLabels", fn := fun _ => fun
  | [d] => { results := [.lit (.bool true)], args := [d] }
  | _ => none }
def fnExactCanonicalLabelsRow : OpenClaim := { program := "ytmpkhoanleihoaa", sum := "a18a275eca40556e44c5c87aa67aa6b4af1b2dd80d20698101a50690cf38d06c", func := "loop.example/g01923/laws.FnExactCanonicalLabels", spec := "fnExactCanonicalLabels", apart := false }
def FnExactCanonicalLabelsSaid : Prop := fnExactCanonicalLabelsRow.holds Try.pinned (OpenSpec.ofChange fnExactCanonicalLabelsSpec)

/-- ITS FALSE NEIGHBOUR: 'it returns false'. Refute it at one input. -/
def fnExactCanonicalLabelsWrong : ChangeSpec := { name := "fnExactCanonicalLabels", fn := fun _ => fun
  | [d] => { results := [.lit (.bool false)], args := [d] }
  | _ => none }
def FnExactCanonicalLabelsWrongFalsely : Prop := fnExactCanonicalLabelsRow.holds Try.pinned (OpenSpec.ofChange fnExactCanonicalLabelsWrong)

/-- 'laws.FnExactAreConstraints': WHATEVER THE INPUT: true; the input reads as it did. -/
def fnExactAreConstraintsSpec : ChangeSpec := { name := "fnExactAreConstraints", fn := fun _ => fun
  | [d1, d2] => { results := [.lit (.bool true)], args := [d1, d2] }
  | _ => none }
def fnExactAreConstraintsRow : OpenClaim := { program := "ytmpkhoanleihoaa", sum := "a18a275eca40556e44c5c87aa67aa6b4af1b2dd80d20698101a50690cf38d06c", func := "loop.example/g01923/laws.FnExactAreConstraints", spec := "fnExactAreConstraints", unfollowed := true, recurses := true, apart := false }
def FnExactAreConstraintsSaid : Prop := fnExactAreConstraintsRow.holds Try.pinned (OpenSpec.ofChange fnExactAreConstraintsSpec)

/-- ITS FALSE NEIGHBOUR: 'it returns false'. Refute it at one input. -/
def fnExactAreConstraintsWrong : ChangeSpec := { name := "fnExactAreConstraints", fn := fun _ => fun
  | [d1, d2] => { results := [.lit (.bool false)], args := [d1, d2] }
  | _ => none }
def FnExactAreConstraintsWrongFalsely : Prop := fnExactAreConstraintsRow.holds Try.pinned (OpenSpec.ofChange fnExactAreConstraintsWrong)

/-- 'laws.FnExactEqualClusterings': WHATEVER THE INPUT: true; the input reads as it did. -/
def fnExactEqualClusteringsSpec : ChangeSpec := { name := "fnExactEqualClusterings", fn := fun _ => fun
  | [d1, d2] => { results := [.lit (.bool true)], args := [d1, d2] }
  | _ => none }
def fnExactEqualClusteringsRow : OpenClaim := { program := "ytmpkhoanleihoaa", sum := "a18a275eca40556e44c5c87aa67aa6b4af1b2dd80d20698101a50690cf38d06c", func := "loop.example/g01923/laws.FnExactEqualClusterings", spec := "fnExactEqualClusterings", apart := false }
def FnExactEqualClusteringsSaid : Prop := fnExactEqualClusteringsRow.holds Try.pinned (OpenSpec.ofChange fnExactEqualClusteringsSpec)

/-- ITS FALSE NEIGHBOUR: 'it returns false'. Refute it at one input. -/
def fnExactEqualClusteringsWrong : ChangeSpec := { name := "fnExactEqualClusterings", fn := fun _ => fun
  | [d1, d2] => { results := [.lit (.bool false)], args := [d1, d2] }
  | _ => none }
def FnExactEqualClusteringsWrongFalsely : Prop := fnExactEqualClusteringsRow.holds Try.pinned (OpenSpec.ofChange fnExactEqualClusteringsWrong)

/-- 'laws.FnExactIsWeightMatrix': WHATEVER THE INPUT: true; the input reads as it did. -/
def fnExactIsWeightMatrixSpec : ChangeSpec := { name := "fnExactIsWeightMatrix", fn := fun _ => fun
  | [d] => { results := [.lit (.bool true)], args := [d] }
  | _ => none }
def fnExactIsWeightMatrixRow : OpenClaim := { program := "ytmpkhoanleihoaa", sum := "a18a275eca40556e44c5c87aa67aa6b4af1b2dd80d20698101a50690cf38d06c", func := "loop.example/g01923/laws.FnExactIsWeightMatrix", spec := "fnExactIsWeightMatrix", apart := false }
def FnExactIsWeightMatrixSaid : Prop := fnExactIsWeightMatrixRow.holds Try.pinned (OpenSpec.ofChange fnExactIsWeightMatrixSpec)

/-- ITS FALSE NEIGHBOUR: 'it returns false'. Refute it at one input. -/
def fnExactIsWeightMatrixWrong : ChangeSpec := { name := "fnExactIsWeightMatrix", fn := fun _ => fun
  | [d] => { results := [.lit (.bool false)], args := [d] }
  | _ => none }
def FnExactIsWeightMatrixWrongFalsely : Prop := fnExactIsWeightMatrixRow.holds Try.pinned (OpenSpec.ofChange fnExactIsWeightMatrixWrong)

/-- 'laws.FnPacking': WHATEVER THE INPUT: true; the input reads as it did. -/
def fnPackingSpec : ChangeSpec := { name := "fnPacking", fn := fun _ => fun
  | [d] => { results := [.lit (.bool true)], args := [d] }
  | _ => none }
def fnPackingRow : OpenClaim := { program := "ytmpkhoanleihoaa", sum := "a18a275eca40556e44c5c87aa67aa6b4af1b2dd80d20698101a50690cf38d06c", func := "loop.example/g01923/laws.FnPacking", spec := "fnPacking", recurses := true, apart := false }
def FnPackingSaid : Prop := fnPackingRow.holds Try.pinned (OpenSpec.ofChange fnPackingSpec)

/-- ITS FALSE NEIGHBOUR: 'it returns false'. Refute it at one input. -/
def fnPackingWrong : ChangeSpec := { name := "fnPacking", fn := fun _ => fun
  | [d] => { results := [.lit (.bool false)], args := [d] }
  | _ => none }
def FnPackingWrongFalsely : Prop := fnPackingRow.holds Try.pinned (OpenSpec.ofChange fnPackingWrong)

/-- 'laws.FnExactRefinesPartition': WHATEVER THE INPUT: true; the input reads as it did. -/
def fnExactRefinesPartitionSpec : ChangeSpec := { name := "fnExactRefinesPartition", fn := fun _ => fun
  | [d1, d2] => { results := [.lit (.bool true)], args := [d1, d2] }
  | _ => none }
def fnExactRefinesPartitionRow : OpenClaim := { program := "ytmpkhoanleihoaa", sum := "a18a275eca40556e44c5c87aa67aa6b4af1b2dd80d20698101a50690cf38d06c", func := "loop.example/g01923/laws.FnExactRefinesPartition", spec := "fnExactRefinesPartition", apart := false }
def FnExactRefinesPartitionSaid : Prop := fnExactRefinesPartitionRow.holds Try.pinned (OpenSpec.ofChange fnExactRefinesPartitionSpec)

/-- ITS FALSE NEIGHBOUR: 'it returns false'. Refute it at one input. -/
def fnExactRefinesPartitionWrong : ChangeSpec := { name := "fnExactRefinesPartition", fn := fun _ => fun
  | [d1, d2] => { results := [.lit (.bool false)], args := [d1, d2] }
  | _ => none }
def FnExactRefinesPartitionWrongFalsely : Prop := fnExactRefinesPartitionRow.holds Try.pinned (OpenSpec.ofChange fnExactRefinesPartitionWrong)

/-- 'laws.FnExactPartitionBlocks': WHATEVER THE INPUT: true; the input reads as it did. -/
def fnExactPartitionBlocksSpec : ChangeSpec := { name := "fnExactPartitionBlocks", fn := fun _ => fun
  | [d] => { results := [.lit (.bool true)], args := [d] }
  | _ => none }
def fnExactPartitionBlocksRow : OpenClaim := { program := "ytmpkhoanleihoaa", sum := "a18a275eca40556e44c5c87aa67aa6b4af1b2dd80d20698101a50690cf38d06c", func := "loop.example/g01923/laws.FnExactPartitionBlocks", spec := "fnExactPartitionBlocks", apart := false }
def FnExactPartitionBlocksSaid : Prop := fnExactPartitionBlocksRow.holds Try.pinned (OpenSpec.ofChange fnExactPartitionBlocksSpec)

/-- ITS FALSE NEIGHBOUR: 'it returns false'. Refute it at one input. -/
def fnExactPartitionBlocksWrong : ChangeSpec := { name := "fnExactPartitionBlocks", fn := fun _ => fun
  | [d] => { results := [.lit (.bool false)], args := [d] }
  | _ => none }
def FnExactPartitionBlocksWrongFalsely : Prop := fnExactPartitionBlocksRow.holds Try.pinned (OpenSpec.ofChange fnExactPartitionBlocksWrong)

/-- 'laws.FnExactKeepsConstraints': WHATEVER THE INPUT: true; the input reads as it did. -/
def fnExactKeepsConstraintsSpec : ChangeSpec := { name := "fnExactKeepsConstraints", fn := fun _ => fun
  | [d1, d2] => { results := [.lit (.bool true)], args := [d1, d2] }
  | _ => none }
def fnExactKeepsConstraintsRow : OpenClaim := { program := "ytmpkhoanleihoaa", sum := "a18a275eca40556e44c5c87aa67aa6b4af1b2dd80d20698101a50690cf38d06c", func := "loop.example/g01923/laws.FnExactKeepsConstraints", spec := "fnExactKeepsConstraints", unfollowed := true, recurses := true, apart := false }
def FnExactKeepsConstraintsSaid : Prop := fnExactKeepsConstraintsRow.holds Try.pinned (OpenSpec.ofChange fnExactKeepsConstraintsSpec)

/-- ITS FALSE NEIGHBOUR: 'it returns false'. Refute it at one input. -/
def fnExactKeepsConstraintsWrong : ChangeSpec := { name := "fnExactKeepsConstraints", fn := fun _ => fun
  | [d1, d2] => { results := [.lit (.bool false)], args := [d1, d2] }
  | _ => none }
def FnExactKeepsConstraintsWrongFalsely : Prop := fnExactKeepsConstraintsRow.holds Try.pinned (OpenSpec.ofChange fnExactKeepsConstraintsWrong)

/-- 'laws.FnExactMeetPartitions': WHATEVER THE INPUT: true; the input reads as it did. -/
def fnExactMeetPartitionsSpec : ChangeSpec := { name := "fnExactMeetPartitions", fn := fun _ => fun
  | [d1, d2] => { results := [.lit (.bool true)], args := [d1, d2] }
  | _ => none }
def fnExactMeetPartitionsRow : OpenClaim := { program := "ytmpkhoanleihoaa", sum := "a18a275eca40556e44c5c87aa67aa6b4af1b2dd80d20698101a50690cf38d06c", func := "loop.example/g01923/laws.FnExactMeetPartitions", spec := "fnExactMeetPartitions", apart := false }
def FnExactMeetPartitionsSaid : Prop := fnExactMeetPartitionsRow.holds Try.pinned (OpenSpec.ofChange fnExactMeetPartitionsSpec)

/-- ITS FALSE NEIGHBOUR: 'it returns false'. Refute it at one input. -/
def fnExactMeetPartitionsWrong : ChangeSpec := { name := "fnExactMeetPartitions", fn := fun _ => fun
  | [d1, d2] => { results := [.lit (.bool false)], args := [d1, d2] }
  | _ => none }
def FnExactMeetPartitionsWrongFalsely : Prop := fnExactMeetPartitionsRow.holds Try.pinned (OpenSpec.ofChange fnExactMeetPartitionsWrong)

/-- 'laws.FnExactIsBadTriangle': WHATEVER THE INPUT: true; the input reads as it did. -/
def fnExactIsBadTriangleSpec : ChangeSpec := { name := "fnExactIsBadTriangle", fn := fun _ => fun
  | [d1, d2, d3, d4] => { results := [.lit (.bool true)], args := [d1, d2, d3, d4] }
  | _ => none }
def fnExactIsBadTriangleRow : OpenClaim := { program := "ytmpkhoanleihoaa", sum := "a18a275eca40556e44c5c87aa67aa6b4af1b2dd80d20698101a50690cf38d06c", func := "loop.example/g01923/laws.FnExactIsBadTriangle", spec := "fnExactIsBadTriangle", apart := false }
def FnExactIsBadTriangleSaid : Prop := fnExactIsBadTriangleRow.holds Try.pinned (OpenSpec.ofChange fnExactIsBadTriangleSpec)

/-- ITS FALSE NEIGHBOUR: 'it returns false'. Refute it at one input. -/
def fnExactIsBadTriangleWrong : ChangeSpec := { name := "fnExactIsBadTriangle", fn := fun _ => fun
  | [d1, d2, d3, d4] => { results := [.lit (.bool false)], args := [d1, d2, d3, d4] }
  | _ => none }
def FnExactIsBadTriangleWrongFalsely : Prop := fnExactIsBadTriangleRow.holds Try.pinned (OpenSpec.ofChange fnExactIsBadTriangleWrong)

/- THE SECOND FORM. 'bulk': how many values and letters a reading holds, each counted each time it is reached (what is shared counts as often as it is met; a slice's spare places count too). A statement '..UptoSaid' is the law's where the arguments, and the package variables that the reading takes, are together of bulk at most 1048576: NARROWER than '..Said'. Prove '..Said' where nothing that the law and all that it calls make is longer than what came in: it says more and counts as full. Else prove '..UptoSaid'. A law counts once. -/
mutual
def uptoBulk {H : Type} : DataW H → Nat
  | .lit (.string bytes) => bytes.length + 1
  | .lit _ => 1
  | .nil => 1
  | .ptr d => uptoBulk d + 1
  | .slice elems spare => uptoBulkAll elems + uptoBulkAll spare + 1
  | .agg parts => uptoBulkAll parts + 1
  | .iface _ d => uptoBulk d + 1
  | .map entries => uptoBulkEntries entries + 1
  | .held _ => 1
def uptoBulkAll {H : Type} : List (DataW H) → Nat
  | [] => 0
  | d :: r => uptoBulk d + uptoBulkAll r
def uptoBulkEntries {H : Type} : List (Lit × DataW H) → Nat
  | [] => 0
  | x :: r => uptoBulkEntry x + uptoBulkEntries r
def uptoBulkEntry {H : Type} : Lit × DataW H → Nat
  | (.string bytes, d) => bytes.length + uptoBulk d + 1
  | (_, d) => uptoBulk d + 1
 end
def uptoSmall : (H : Type) → List (DataW H) → Bool := fun _ ds => decide (uptoBulkAll ds ≤ 1048576)
def OpenSpec.upto (s : _root_.Go.ChangeSpec) : _root_.Go.OpenSpec := { _root_.Go.OpenSpec.ofChange s with cond := some uptoSmall }

/-- 'laws.FnExactIsPartition', WHERE WHAT IT READS IS OF BULK AT MOST 1048576: true; the input reads as it did. -/
def fnExactIsPartitionUptoRow : OpenClaim := { program := "ytmpkhoanleihoaa", sum := "a18a275eca40556e44c5c87aa67aa6b4af1b2dd80d20698101a50690cf38d06c", func := "loop.example/g01923/laws.FnExactIsPartition", spec := "fnExactIsPartition", apart := false, narrowed := true }
def FnExactIsPartitionUptoSaid : Prop := fnExactIsPartitionUptoRow.holds Try.pinned (OpenSpec.upto fnExactIsPartitionSpec)

/-- 'laws.FnExactIsOrder', WHERE WHAT IT READS IS OF BULK AT MOST 1048576: true; the input reads as it did. -/
def fnExactIsOrderUptoRow : OpenClaim := { program := "ytmpkhoanleihoaa", sum := "a18a275eca40556e44c5c87aa67aa6b4af1b2dd80d20698101a50690cf38d06c", func := "loop.example/g01923/laws.FnExactIsOrder", spec := "fnExactIsOrder", apart := false, narrowed := true }
def FnExactIsOrderUptoSaid : Prop := fnExactIsOrderUptoRow.holds Try.pinned (OpenSpec.upto fnExactIsOrderSpec)

/-- 'laws.FnExactCanonicalLabels', WHERE WHAT IT READS IS OF BULK AT MOST 1048576: true; the input reads as it did. -/
def fnExactCanonicalLabelsUptoRow : OpenClaim := { program := "ytmpkhoanleihoaa", sum := "a18a275eca40556e44c5c87aa67aa6b4af1b2dd80d20698101a50690cf38d06c", func := "loop.example/g01923/laws.FnExactCanonicalLabels", spec := "fnExactCanonicalLabels", apart := false, narrowed := true }
def FnExactCanonicalLabelsUptoSaid : Prop := fnExactCanonicalLabelsUptoRow.holds Try.pinned (OpenSpec.upto fnExactCanonicalLabelsSpec)

/-- 'laws.FnExactAreConstraints', WHERE WHAT IT READS IS OF BULK AT MOST 1048576: true; the input reads as it did. -/
def fnExactAreConstraintsUptoRow : OpenClaim := { program := "ytmpkhoanleihoaa", sum := "a18a275eca40556e44c5c87aa67aa6b4af1b2dd80d20698101a50690cf38d06c", func := "loop.example/g01923/laws.FnExactAreConstraints", spec := "fnExactAreConstraints", unfollowed := true, recurses := true, apart := false, narrowed := true }
def FnExactAreConstraintsUptoSaid : Prop := fnExactAreConstraintsUptoRow.holds Try.pinned (OpenSpec.upto fnExactAreConstraintsSpec)

/-- 'laws.FnExactEqualClusterings', WHERE WHAT IT READS IS OF BULK AT MOST 1048576: true; the input reads as it did. -/
def fnExactEqualClusteringsUptoRow : OpenClaim := { program := "ytmpkhoanleihoaa", sum := "a18a275eca40556e44c5c87aa67aa6b4af1b2dd80d20698101a50690cf38d06c", func := "loop.example/g01923/laws.FnExactEqualClusterings", spec := "fnExactEqualClusterings", apart := false, narrowed := true }
def FnExactEqualClusteringsUptoSaid : Prop := fnExactEqualClusteringsUptoRow.holds Try.pinned (OpenSpec.upto fnExactEqualClusteringsSpec)

/-- 'laws.FnExactIsWeightMatrix', WHERE WHAT IT READS IS OF BULK AT MOST 1048576: true; the input reads as it did. -/
def fnExactIsWeightMatrixUptoRow : OpenClaim := { program := "ytmpkhoanleihoaa", sum := "a18a275eca40556e44c5c87aa67aa6b4af1b2dd80d20698101a50690cf38d06c", func := "loop.example/g01923/laws.FnExactIsWeightMatrix", spec := "fnExactIsWeightMatrix", apart := false, narrowed := true }
def FnExactIsWeightMatrixUptoSaid : Prop := fnExactIsWeightMatrixUptoRow.holds Try.pinned (OpenSpec.upto fnExactIsWeightMatrixSpec)

/-- 'laws.FnPacking', WHERE WHAT IT READS IS OF BULK AT MOST 1048576: true; the input reads as it did. -/
def fnPackingUptoRow : OpenClaim := { program := "ytmpkhoanleihoaa", sum := "a18a275eca40556e44c5c87aa67aa6b4af1b2dd80d20698101a50690cf38d06c", func := "loop.example/g01923/laws.FnPacking", spec := "fnPacking", recurses := true, apart := false, narrowed := true }
def FnPackingUptoSaid : Prop := fnPackingUptoRow.holds Try.pinned (OpenSpec.upto fnPackingSpec)

/-- 'laws.FnExactRefinesPartition', WHERE WHAT IT READS IS OF BULK AT MOST 1048576: true; the input reads as it did. -/
def fnExactRefinesPartitionUptoRow : OpenClaim := { program := "ytmpkhoanleihoaa", sum := "a18a275eca40556e44c5c87aa67aa6b4af1b2dd80d20698101a50690cf38d06c", func := "loop.example/g01923/laws.FnExactRefinesPartition", spec := "fnExactRefinesPartition", apart := false, narrowed := true }
def FnExactRefinesPartitionUptoSaid : Prop := fnExactRefinesPartitionUptoRow.holds Try.pinned (OpenSpec.upto fnExactRefinesPartitionSpec)

/-- 'laws.FnExactPartitionBlocks', WHERE WHAT IT READS IS OF BULK AT MOST 1048576: true; the input reads as it did. -/
def fnExactPartitionBlocksUptoRow : OpenClaim := { program := "ytmpkhoanleihoaa", sum := "a18a275eca40556e44c5c87aa67aa6b4af1b2dd80d20698101a50690cf38d06c", func := "loop.example/g01923/laws.FnExactPartitionBlocks", spec := "fnExactPartitionBlocks", apart := false, narrowed := true }
def FnExactPartitionBlocksUptoSaid : Prop := fnExactPartitionBlocksUptoRow.holds Try.pinned (OpenSpec.upto fnExactPartitionBlocksSpec)

/-- 'laws.FnExactKeepsConstraints', WHERE WHAT IT READS IS OF BULK AT MOST 1048576: true; the input reads as it did. -/
def fnExactKeepsConstraintsUptoRow : OpenClaim := { program := "ytmpkhoanleihoaa", sum := "a18a275eca40556e44c5c87aa67aa6b4af1b2dd80d20698101a50690cf38d06c", func := "loop.example/g01923/laws.FnExactKeepsConstraints", spec := "fnExactKeepsConstraints", unfollowed := true, recurses := true, apart := false, narrowed := true }
def FnExactKeepsConstraintsUptoSaid : Prop := fnExactKeepsConstraintsUptoRow.holds Try.pinned (OpenSpec.upto fnExactKeepsConstraintsSpec)

/-- 'laws.FnExactMeetPartitions', WHERE WHAT IT READS IS OF BULK AT MOST 1048576: true; the input reads as it did. -/
def fnExactMeetPartitionsUptoRow : OpenClaim := { program := "ytmpkhoanleihoaa", sum := "a18a275eca40556e44c5c87aa67aa6b4af1b2dd80d20698101a50690cf38d06c", func := "loop.example/g01923/laws.FnExactMeetPartitions", spec := "fnExactMeetPartitions", apart := false, narrowed := true }
def FnExactMeetPartitionsUptoSaid : Prop := fnExactMeetPartitionsUptoRow.holds Try.pinned (OpenSpec.upto fnExactMeetPartitionsSpec)

/-- 'laws.FnExactIsBadTriangle', WHERE WHAT IT READS IS OF BULK AT MOST 1048576: true; the input reads as it did. -/
def fnExactIsBadTriangleUptoRow : OpenClaim := { program := "ytmpkhoanleihoaa", sum := "a18a275eca40556e44c5c87aa67aa6b4af1b2dd80d20698101a50690cf38d06c", func := "loop.example/g01923/laws.FnExactIsBadTriangle", spec := "fnExactIsBadTriangle", apart := false, narrowed := true }
def FnExactIsBadTriangleUptoSaid : Prop := fnExactIsBadTriangleUptoRow.holds Try.pinned (OpenSpec.upto fnExactIsBadTriangleSpec)

end Rows
end Go.Proofs.Ytmpkhoanleihoaa
