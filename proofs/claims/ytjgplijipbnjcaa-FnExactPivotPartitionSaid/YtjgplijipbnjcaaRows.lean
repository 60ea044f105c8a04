/-
  No cell of these rows narrows 'for every input' (looked for: loops, veiled, ifaces, maps, wideKeys, modest, calm, conditions, laid).
  DERIVED. THE GIVEN ROWS OF THIS SEAT. 12 by the template 'for every input the law returns true; each argument reads behind the call as it read before'; 0 by the template 'total and deterministic' (their statements: YtjgplijipbnjcaaTotals.lean).
  GIVEN WITH THE SEED: the statements are not yours to turn. If you find one false, say at which input.
  Laid BY PROGRAM, IN A SANDBOX (cutbox-rows.mjs): the forced cells as the released guide's own fill.sh prints them over the translation 4cfdaeac2ee6c202… (all of the seat's roots in one cut). By AI agents, Wed Nov 11 2026. No macro, syntax, notation, axiom, sorry.
-/
import Derived.Test.YtjgplijipbnjcaaChecked
import GoSem.Claim
import GoSem.ClaimJoined
import GoSem.ClaimMapViews
import Derived.JoinedTies
import Derived.KernelRfl
namespace Go.Proofs.Ytjgplijipbnjcaa
/- THE CELL 'sum', in the pinned program and in every row, IS THE sha256 OF THE DUMP (.gsa) THAT YtjgplijipbnjcaaProg.lean LOADS. Nothing in Lean hashes anything: it is a label: what it is worth is what the hold of that sum in a sandbox is worth. -/
noncomputable def Try.pinned : Pinned := { name := "ytjgplijipbnjcaa", sum := "4cfdaeac2ee6c2024c3eb198fabc62ab954cfc97e5e1cac80040a4392fa6a597", checked := Try.checked }
namespace Rows
def none {H : Type} : Left H := { results := [], args := [] }

/-- 'laws.FnExactPartitionBlocks': WHATEVER THE INPUT: true; the input reads as it did. -/
def fnExactPartitionBlocksSpec : ChangeSpec := { name := "fnExactPartitionBlocks", fn := fun _ => fun
  | [d] => { results := [.lit (.bool true)], args := [d] }
  | _ => none }
def fnExactPartitionBlocksRow : OpenClaim := { program := "ytjgplijipbnjcaa", sum := "4cfdaeac2ee6c2024c3eb198fabc62ab954cfc97e5e1cac80040a4392fa6a597", func := "loop.example/g01923/laws.FnExactPartitionBlocks", spec := "fnExactPartitionBlocks", apart := false }
def FnExactPartitionBlocksSaid : Prop := fnExactPartitionBlocksRow.holds Try.pinned (OpenSpec.ofChange fnExactPartitionBlocksSpec)

/-- ITS FALSE NEIGHBOUR: 'it returns false'. Refute it at one input. -/
def fnExactPartitionBlocksWrong : ChangeSpec := { name := "fnExactPartitionBlocks", fn := fun _ => fun
  | [d] => { results := [.lit (.bool false)], args := [d] }
  | _ => none }
def FnExactPartitionBlocksWrongFalsely : Prop := fnExactPartitionBlocksRow.holds Try.pinned (OpenSpec.ofChange fnExactPartitionBlocksWrong)

/-- 'laws.FnExactJoinPartitions': WHATEVER THE INPUT: true; the input reads as it did. -/
def fnExactJoinPartitionsSpec : ChangeSpec := { name := "fnExactJoinPartitions", fn := fun _ => fun
  | [d1, d2] => { results := [.lit (.bool true)], args := [d1, d2] }
  | _ => none }
def fnExactJoinPartitionsRow : OpenClaim := { program := "ytjgplijipbnjcaa", sum := "4cfdaeac2ee6c2024c3eb198fabc62ab954cfc97e5e1cac80040a4392fa6a597", func := "loop.example/g01923/laws.FnExactJoinPartitions", spec := "fnExactJoinPartitions", unfollowed := true, recurses := true, apart := false }
def FnExactJoinPartitionsSaid : Prop := fnExactJoinPartitionsRow.holds Try.pinned (OpenSpec.ofChange fnExactJoinPartitionsSpec)

/-- ITS FALSE NEIGHBOUR: 'it returns false'. Refute it at one input. -/
def fnExactJoinPartitionsWrong : ChangeSpec := { name := "fnExactJoinPartitions", fn := fun _ => fun
  | [d1, d2] => { results := [.lit (.bool false)], args := [d1, d2] }
  | _ => none }
def FnExactJoinPartitionsWrongFalsely : Prop := fnExactJoinPartitionsRow.holds Try.pinned (OpenSpec.ofChange fnExactJoinPartitionsWrong)

/-- 'laws.FnExactSubMatrix': WHATEVER THE INPUT: true; the input reads as it did. -/
def fnExactSubMatrixSpec : ChangeSpec := { name := "fnExactSubMatrix", fn := fun _ => fun
  | [d1, d2] => { results := [.lit (.bool true)], args := [d1, d2] }
  | _ => none }
def fnExactSubMatrixRow : OpenClaim := { program := "ytjgplijipbnjcaa", sum := "4cfdaeac2ee6c2024c3eb198fabc62ab954cfc97e5e1cac80040a4392fa6a597", func := "loop.example/g01923/laws.FnExactSubMatrix", spec := "fnExactSubMatrix", apart := false }
def FnExactSubMatrixSaid : Prop := fnExactSubMatrixRow.holds Try.pinned (OpenSpec.ofChange fnExactSubMatrixSpec)

/-- ITS FALSE NEIGHBOUR: 'it returns false'. Refute it at one input. -/
def fnExactSubMatrixWrong : ChangeSpec := { name := "fnExactSubMatrix", fn := fun _ => fun
  | [d1, d2] => { results := [.lit (.bool false)], args := [d1, d2] }
  | _ => none }
def FnExactSubMatrixWrongFalsely : Prop := fnExactSubMatrixRow.holds Try.pinned (OpenSpec.ofChange fnExactSubMatrixWrong)

/-- 'laws.FnExactPositiveComponents': WHATEVER THE INPUT: true; the input reads as it did. -/
def fnExactPositiveComponentsSpec : ChangeSpec := { name := "fnExactPositiveComponents", fn := fun _ => fun
  | [d] => { results := [.lit (.bool true)], args := [d] }
  | _ => none }
def fnExactPositiveComponentsRow : OpenClaim := { program := "ytjgplijipbnjcaa", sum := "4cfdaeac2ee6c2024c3eb198fabc62ab954cfc97e5e1cac80040a4392fa6a597", func := "loop.example/g01923/laws.FnExactPositiveComponents", spec := "fnExactPositiveComponents", unfollowed := true, recurses := true, apart := false }
def FnExactPositiveComponentsSaid : Prop := fnExactPositiveComponentsRow.holds Try.pinned (OpenSpec.ofChange fnExactPositiveComponentsSpec)

/-- ITS FALSE NEIGHBOUR: 'it returns false'. Refute it at one input. -/
def fnExactPositiveComponentsWrong : ChangeSpec := { name := "fnExactPositiveComponents", fn := fun _ => fun
  | [d] => { results := [.lit (.bool false)], args := [d] }
  | _ => none }
def FnExactPositiveComponentsWrongFalsely : Prop := fnExactPositiveComponentsRow.holds Try.pinned (OpenSpec.ofChange fnExactPositiveComponentsWrong)

/-- 'laws.FnExactFindConflict': WHATEVER THE INPUT: true; the input reads as it did. -/
def fnExactFindConflictSpec : ChangeSpec := { name := "fnExactFindConflict", fn := fun _ => fun
  | [d1, d2] => { results := [.lit (.bool true)], args := [d1, d2] }
  | _ => none }
def fnExactFindConflictRow : OpenClaim := { program := "ytjgplijipbnjcaa", sum := "4cfdaeac2ee6c2024c3eb198fabc62ab954cfc97e5e1cac80040a4392fa6a597", func := "loop.example/g01923/laws.FnExactFindConflict", spec := "fnExactFindConflict", unfollowed := true, recurses := true, apart := false }
def FnExactFindConflictSaid : Prop := fnExactFindConflictRow.holds Try.pinned (OpenSpec.ofChange fnExactFindConflictSpec)

/-- ITS FALSE NEIGHBOUR: 'it returns false'. Refute it at one input. -/
def fnExactFindConflictWrong : ChangeSpec := { name := "fnExactFindConflict", fn := fun _ => fun
  | [d1, d2] => { results := [.lit (.bool false)], args := [d1, d2] }
  | _ => none }
def FnExactFindConflictWrongFalsely : Prop := fnExactFindConflictRow.holds Try.pinned (OpenSpec.ofChange fnExactFindConflictWrong)

/-- 'laws.FnExactIsConsistent': WHATEVER THE INPUT: true; the input reads as it did. -/
def fnExactIsConsistentSpec : ChangeSpec := { name := "fnExactIsConsistent", fn := fun _ => fun
  | [d1, d2] => { results := [.lit (.bool true)], args := [d1, d2] }
  | _ => none }
def fnExactIsConsistentRow : OpenClaim := { program := "ytjgplijipbnjcaa", sum := "4cfdaeac2ee6c2024c3eb198fabc62ab954cfc97e5e1cac80040a4392fa6a597", func := "loop.example/g01923/laws.FnExactIsConsistent", spec := "fnExactIsConsistent", unfollowed := true, recurses := true, apart := false }
def FnExactIsConsistentSaid : Prop := fnExactIsConsistentRow.holds Try.pinned (OpenSpec.ofChange fnExactIsConsistentSpec)

/-- ITS FALSE NEIGHBOUR: 'it returns false'. Refute it at one input. -/
def fnExactIsConsistentWrong : ChangeSpec := { name := "fnExactIsConsistent", fn := fun _ => fun
  | [d1, d2] => { results := [.lit (.bool false)], args := [d1, d2] }
  | _ => none }
def FnExactIsConsistentWrongFalsely : Prop := fnExactIsConsistentRow.holds Try.pinned (OpenSpec.ofChange fnExactIsConsistentWrong)

/-- 'laws.FnExactMustClosure': WHATEVER THE INPUT: true; the input reads as it did. -/
def fnExactMustClosureSpec : ChangeSpec := { name := "fnExactMustClosure", fn := fun _ => fun
  | [d1, d2] => { results := [.lit (.bool true)], args := [d1, d2] }
  | _ => none }
def fnExactMustClosureRow : OpenClaim := { program := "ytjgplijipbnjcaa", sum := "4cfdaeac2ee6c2024c3eb198fabc62ab954cfc97e5e1cac80040a4392fa6a597", func := "loop.example/g01923/laws.FnExactMustClosure", spec := "fnExactMustClosure", unfollowed := true, recurses := true, apart := false }
def FnExactMustClosureSaid : Prop := fnExactMustClosureRow.holds Try.pinned (OpenSpec.ofChange fnExactMustClosureSpec)

/-- ITS FALSE NEIGHBOUR: 'it returns false'. Refute it at one input. -/
def fnExactMustClosureWrong : ChangeSpec := { name := "fnExactMustClosure", fn := fun _ => fun
  | [d1, d2] => { results := [.lit (.bool false)], args := [d1, d2] }
  | _ => none }
def FnExactMustClosureWrongFalsely : Prop := fnExactMustClosureRow.holds Try.pinned (OpenSpec.ofChange fnExactMustClosureWrong)

/-- 'laws.FnExactIsPacking': WHATEVER THE INPUT: true; the input reads as it did. -/
def fnExactIsPackingSpec : ChangeSpec := { name := "fnExactIsPacking", fn := fun _ => fun
  | [d1, d2] => { results := [.lit (.bool true)], args := [d1, d2] }
  | _ => none }
def fnExactIsPackingRow : OpenClaim := { program := "ytjgplijipbnjcaa", sum := "4cfdaeac2ee6c2024c3eb198fabc62ab954cfc97e5e1cac80040a4392fa6a597", func := "loop.example/g01923/laws.FnExactIsPacking", spec := "fnExactIsPacking", apart := false }
def FnExactIsPackingSaid : Prop := fnExactIsPackingRow.holds Try.pinned (OpenSpec.ofChange fnExactIsPackingSpec)

/-- ITS FALSE NEIGHBOUR: 'it returns false'. Refute it at one input. -/
def fnExactIsPackingWrong : ChangeSpec := { name := "fnExactIsPacking", fn := fun _ => fun
  | [d1, d2] => { results := [.lit (.bool false)], args := [d1, d2] }
  | _ => none }
def FnExactIsPackingWrongFalsely : Prop := fnExactIsPackingRow.holds Try.pinned (OpenSpec.ofChange fnExactIsPackingWrong)

/-- 'laws.FnExactBadTriangles': WHATEVER THE INPUT: true; the input reads as it did. -/
def fnExactBadTrianglesSpec : ChangeSpec := { name := "fnExactBadTriangles", fn := fun _ => fun
  | [d] => { results := [.lit (.bool true)], args := [d] }
  | _ => none }
def fnExactBadTrianglesRow : OpenClaim := { program := "ytjgplijipbnjcaa", sum := "4cfdaeac2ee6c2024c3eb198fabc62ab954cfc97e5e1cac80040a4392fa6a597", func := "loop.example/g01923/laws.FnExactBadTriangles", spec := "fnExactBadTriangles", apart := false }
def FnExactBadTrianglesSaid : Prop := fnExactBadTrianglesRow.holds Try.pinned (OpenSpec.ofChange fnExactBadTrianglesSpec)

/-- ITS FALSE NEIGHBOUR: 'it returns false'. Refute it at one input. -/
def fnExactBadTrianglesWrong : ChangeSpec := { name := "fnExactBadTriangles", fn := fun _ => fun
  | [d] => { results := [.lit (.bool false)], args := [d] }
  | _ => none }
def FnExactBadTrianglesWrongFalsely : Prop := fnExactBadTrianglesRow.holds Try.pinned (OpenSpec.ofChange fnExactBadTrianglesWrong)

/-- 'laws.FnExactImpliedRelation': WHATEVER THE INPUT: true; the input reads as it did. -/
def fnExactImpliedRelationSpec : ChangeSpec := { name := "fnExactImpliedRelation", fn := fun _ => fun
  | [d1, d2, d3, d4] => { results := [.lit (.bool true)], args := [d1, d2, d3, d4] }
  | _ => none }
def fnExactImpliedRelationRow : OpenClaim := { program := "ytjgplijipbnjcaa", sum := "4cfdaeac2ee6c2024c3eb198fabc62ab954cfc97e5e1cac80040a4392fa6a597", func := "loop.example/g01923/laws.FnExactImpliedRelation", spec := "fnExactImpliedRelation", unfollowed := true, recurses := true, apart := false }
def FnExactImpliedRelationSaid : Prop := fnExactImpliedRelationRow.holds Try.pinned (OpenSpec.ofChange fnExactImpliedRelationSpec)

/-- ITS FALSE NEIGHBOUR: 'it returns false'. Refute it at one input. -/
def fnExactImpliedRelationWrong : ChangeSpec := { name := "fnExactImpliedRelation", fn := fun _ => fun
  | [d1, d2, d3, d4] => { results := [.lit (.bool false)], args := [d1, d2, d3, d4] }
  | _ => none }
def FnExactImpliedRelationWrongFalsely : Prop := fnExactImpliedRelationRow.holds Try.pinned (OpenSpec.ofChange fnExactImpliedRelationWrong)

/-- 'laws.FnExactPackingBound': WHATEVER THE INPUT: true; the input reads as it did. -/
def fnExactPackingBoundSpec : ChangeSpec := { name := "fnExactPackingBound", fn := fun _ => fun
  | [d1, d2] => { results := [.lit (.bool true)], args := [d1, d2] }
  | _ => none }
def fnExactPackingBoundRow : OpenClaim := { program := "ytjgplijipbnjcaa", sum := "4cfdaeac2ee6c2024c3eb198fabc62ab954cfc97e5e1cac80040a4392fa6a597", func := "loop.example/g01923/laws.FnExactPackingBound", spec := "fnExactPackingBound", apart := false }
def FnExactPackingBoundSaid : Prop := fnExactPackingBoundRow.holds Try.pinned (OpenSpec.ofChange fnExactPackingBoundSpec)

/-- ITS FALSE NEIGHBOUR: 'it returns false'. Refute it at one input. -/
def fnExactPackingBoundWrong : ChangeSpec := { name := "fnExactPackingBound", fn := fun _ => fun
  | [d1, d2] => { results := [.lit (.bool false)], args := [d1, d2] }
  | _ => none }
def FnExactPackingBoundWrongFalsely : Prop := fnExactPackingBoundRow.holds Try.pinned (OpenSpec.ofChange fnExactPackingBoundWrong)

/-- 'laws.FnExactPivotPartition': WHATEVER THE INPUT: true; the input reads as it did. -/
def fnExactPivotPartitionSpec : ChangeSpec := { name := "fnExactPivotPartition", fn := fun _ => fun
  | [d1, d2] => { results := [.lit (.bool true)], args := [d1, d2] }
  | _ => none }
def fnExactPivotPartitionRow : OpenClaim := { program := "ytjgplijipbnjcaa", sum := "4cfdaeac2ee6c2024c3eb198fabc62ab954cfc97e5e1cac80040a4392fa6a597", func := "loop.example/g01923/laws.FnExactPivotPartition", spec := "fnExactPivotPartition", apart := false }
def FnExactPivotPartitionSaid : Prop := fnExactPivotPartitionRow.holds Try.pinned (OpenSpec.ofChange fnExactPivotPartitionSpec)

/-- ITS FALSE NEIGHBOUR: 'it returns false'. Refute it at one input. -/
def fnExactPivotPartitionWrong : ChangeSpec := { name := "fnExactPivotPartition", fn := fun _ => fun
  | [d1, d2] => { results := [.lit (.bool false)], args := [d1, d2] }
  | _ => none }
def FnExactPivotPartitionWrongFalsely : Prop := fnExactPivotPartitionRow.holds Try.pinned (OpenSpec.ofChange fnExactPivotPartitionWrong)

/- THE SECOND FORM. 'bulk': how many values and letters a reading holds, each counted each time it is reached (what is shared counts as often as it is met; a slice's spare places count too). A statement '..UptoSaid' is the law's where the arguments, and the package variables that the reading takes, are together of bulk at most 1048576: NARROWER than '..Said'. Prove '..Said' where nothing that the law and all that it calls make is longer than what came in: it says more and counts as full. Else prove '..UptoSaid'. A law counts once. -/
mutual
def uptoBulk {H : Type} : DataW H → Nat
  | .lit (.string bytes) => bytes.length + 1
  | .lit _ => 1
  | .nil => 1
  | .ptr d => uptoBulk d + 1
  | .slice elems spare => uptoBulkAll elems + uptoBulkAll spare + 1
  | .agg parts => uptoBulkAll parts + 1
  | .iface _ d => uptoBulk d + 1
  | .map entries => uptoBulkEntries entries + 1
  | .held _ => 1
def uptoBulkAll {H : Type} : List (DataW H) → Nat
  | [] => 0
  | d :: r => uptoBulk d + uptoBulkAll r
def uptoBulkEntries {H : Type} : List (Lit × DataW H) → Nat
  | [] => 0
  | x :: r => uptoBulkEntry x + uptoBulkEntries r
def uptoBulkEntry {H : Type} : Lit × DataW H → Nat
  | (.string bytes, d) => bytes.length + uptoBulk d + 1
  | (_, d) => uptoBulk d + 1
 end
def uptoSmall : (H : Type) → List (DataW H) → Bool := fun _ ds => decide (uptoBulkAll ds ≤ 1048576)
def OpenSpec.upto (s : _root_.Go.ChangeSpec) : _root_.Go.OpenSpec := { _root_.Go.OpenSpec.ofChange s with cond := some uptoSmall }

/-- 'laws.FnExactPartitionBlocks', WHERE WHAT IT READS IS OF BULK AT MOST 1048576: true; the input reads as it did. -/
def fnExactPartitionBlocksUptoRow : OpenClaim := { program := "ytjgplijipbnjcaa", sum := "4cfdaeac2ee6c2024c3eb198fabc62ab954cfc97e5e1cac80040a4392fa6a597", func := "loop.example/g01923/laws.FnExactPartitionBlocks", spec := "fnExactPartitionBlocks", apart := false, narrowed := true }
def FnExactPartitionBlocksUptoSaid : Prop := fnExactPartitionBlocksUptoRow.holds Try.pinned (OpenSpec.upto fnExactPartitionBlocksSpec)

/-- 'laws.FnExactJoinPartitions', WHERE WHAT IT READS IS OF BULK AT MOST 1048576: true; the input reads as it did. -/
def fnExactJoinPartitionsUptoRow : OpenClaim := { program := "ytjgplijipbnjcaa", sum := "4cfdaeac2ee6c2024c3eb198fabc62ab954cfc97e5e1cac80040a4392fa6a597", func := "loop.example/g01923/laws.FnExactJoinPartitions", spec := "fnExactJoinPartitions", unfollowed := true, recurses := true, apart := false, narrowed := true }
def FnExactJoinPartitionsUptoSaid : Prop := fnExactJoinPartitionsUptoRow.holds Try.pinned (OpenSpec.upto fnExactJoinPartitionsSpec)

/-- 'laws.FnExactSubMatrix', WHERE WHAT IT READS IS OF BULK AT MOST 1048576: true; the input reads as it did. -/
def fnExactSubMatrixUptoRow : OpenClaim := { program := "ytjgplijipbnjcaa", sum := "4cfdaeac2ee6c2024c3eb198fabc62ab954cfc97e5e1cac80040a4392fa6a597", func := "loop.example/g01923/laws.FnExactSubMatrix", spec := "fnExactSubMatrix", apart := false, narrowed := true }
def FnExactSubMatrixUptoSaid : Prop := fnExactSubMatrixUptoRow.holds Try.pinned (OpenSpec.upto fnExactSubMatrixSpec)

/-- 'laws.FnExactPositiveComponents', WHERE WHAT IT READS IS OF BULK AT MOST 1048576: true; the input reads as it did. -/
def fnExactPositiveComponentsUptoRow : OpenClaim := { program := "ytjgplijipbnjcaa", sum := "4cfdaeac2ee6c2024c3eb198fabc62ab954cfc97e5e1cac80040a4392fa6a597", func := "loop.example/g01923/laws.FnExactPositiveComponents", spec := "fnExactPositiveComponents", unfollowed := true, recurses := true, apart := false, narrowed := true }
def FnExactPositiveComponentsUptoSaid : Prop := fnExactPositiveComponentsUptoRow.holds Try.pinned (OpenSpec.upto fnExactPositiveComponentsSpec)

/-- 'laws.FnExactFindConflict', WHERE WHAT IT READS IS OF BULK AT MOST 1048576: true; the input reads as it did. -/
def fnExactFindConflictUptoRow : OpenClaim := { program := "ytjgplijipbnjcaa", sum := "4cfdaeac2ee6c2024c3eb198fabc62ab954cfc97e5e1cac80040a4392fa6a597", func := "loop.example/g01923/laws.FnExactFindConflict", spec := "fnExactFindConflict", unfollowed := true, recurses := true, apart := false, narrowed := true }
def FnExactFindConflictUptoSaid : Prop := fnExactFindConflictUptoRow.holds Try.pinned (OpenSpec.upto fnExactFindConflictSpec)

/-- 'laws.FnExactIsConsistent', WHERE WHAT IT READS IS OF BULK AT MOST 1048576: true; the input reads as it did. -/
def fnExactIsConsistentUptoRow : OpenClaim := { program := "ytjgplijipbnjcaa", sum := "4cfdaeac2ee6c2024c3eb198fabc62ab954cfc97e5e1cac80040a4392fa6a597", func := "loop.example/g01923/laws.FnExactIsConsistent", spec := "fnExactIsConsistent", unfollowed := true, recurses := true, apart := false, narrowed := true }
def FnExactIsConsistentUptoSaid : Prop := fnExactIsConsistentUptoRow.holds Try.pinned (OpenSpec.upto fnExactIsConsistentSpec)

/-- 'laws.FnExactMustClosure', WHERE WHAT IT READS IS OF BULK AT MOST 1048576: true; the input reads as it did. -/
def fnExactMustClosureUptoRow : OpenClaim := { program := "ytjgplijipbnjcaa", sum := "4cfdaeac2ee6c2024c3eb198fabc62ab954cfc97e5e1cac80040a4392fa6a597", func := "loop.example/g01923/laws.FnExactMustClosure", spec := "fnExactMustClosure", unfollowed := true, recurses := true, apart := false, narrowed := true }
def FnExactMustClosureUptoSaid : Prop := fnExactMustClosureUptoRow.holds Try.pinned (OpenSpec.upto fnExactMustClosureSpec)

/-- 'laws.FnExactIsPacking', WHERE WHAT IT READS IS OF BULK AT MOST 1048576: true; the input reads as it did. -/
def fnExactIsPackingUptoRow : OpenClaim := { program := "ytjgplijipbnjcaa", sum := "4cfdaeac2ee6c2024c3eb198fabc62ab954cfc97e5e1cac80040a4392fa6a597", func := "loop.example/g01923/laws.FnExactIsPacking", spec := "fnExactIsPacking", apart := false, narrowed := true }
def FnExactIsPackingUptoSaid : Prop := fnExactIsPackingUptoRow.holds Try.pinned (OpenSpec.upto fnExactIsPackingSpec)

/-- 'laws.FnExactBadTriangles', WHERE WHAT IT READS IS OF BULK AT MOST 1048576: true; the input reads as it did. -/
def fnExactBadTrianglesUptoRow : OpenClaim := { program := "ytjgplijipbnjcaa", sum := "4cfdaeac2ee6c2024c3eb198fabc62ab954cfc97e5e1cac80040a4392fa6a597", func := "loop.example/g01923/laws.FnExactBadTriangles", spec := "fnExactBadTriangles", apart := false, narrowed := true }
def FnExactBadTrianglesUptoSaid : Prop := fnExactBadTrianglesUptoRow.holds Try.pinned (OpenSpec.upto fnExactBadTrianglesSpec)

/-- 'laws.FnExactImpliedRelation', WHERE WHAT IT READS IS OF BULK AT MOST 1048576: true; the input reads as it did. -/
def fnExactImpliedRelationUptoRow : OpenClaim := { program := "ytjgplijipbnjcaa", sum := "4cfdaeac2ee6c2024c3eb198fabc62ab954cfc97e5e1cac80040a4392fa6a597", func := "loop.example/g01923/laws.FnExactImpliedRelation", spec := "fnExactImpliedRelation", unfollowed := true, recurses := true, apart := false, narrowed := true }
def FnExactImpliedRelationUptoSaid : Prop := fnExactImpliedRelationUptoRow.holds Try.pinned (OpenSpec.upto fnExactImpliedRelationSpec)

/-- 'laws.FnExactPackingBound', WHERE WHAT IT READS IS OF BULK AT MOST 1048576: true; the input reads as it did. -/
def fnExactPackingBoundUptoRow : OpenClaim := { program := "ytjgplijipbnjcaa", sum := "4cfdaeac2ee6c2024c3eb198fabc62ab954cfc97e5e1cac80040a4392fa6a597", func := "loop.example/g01923/laws.FnExactPackingBound", spec := "fnExactPackingBound", apart := false, narrowed := true }
def FnExactPackingBoundUptoSaid : Prop := fnExactPackingBoundUptoRow.holds Try.pinned (OpenSpec.upto fnExactPackingBoundSpec)

/-- 'laws.FnExactPivotPartition', WHERE WHAT IT READS IS OF BULK AT MOST 1048576: true; the input reads as it did. -/
def fnExactPivotPartitionUptoRow : OpenClaim := { program := "ytjgplijipbnjcaa", sum := "4cfdaeac2ee6c2024c3eb198fabc62ab954cfc97e5e1cac80040a4392fa6a597", func := "loop.example/g01923/laws.FnExactPivotPartition", spec := "fnExactPivotPartition", apart := false, narrowed := true }
def FnExactPivotPartitionUptoSaid : Prop := fnExactPivotPartitionUptoRow.holds Try.pinned (OpenSpec.upto fnExactPivotPartitionSpec)

end Rows
end Go.Proofs.Ytjgplijipbnjcaa
