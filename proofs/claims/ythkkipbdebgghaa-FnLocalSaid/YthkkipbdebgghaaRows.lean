/-
  No cell of these rows narrows 'for every input' (looked for: loops, veiled, ifaces, maps, wideKeys, modest, calm, conditions, laid).
  DERIVED. THE GIVEN ROWS OF THIS SEAT. 12 by the template 'for every input the law returns true; each argument reads behind the call as it read before'; 0 by the template 'total and deterministic' (their statements: YthkkipbdebgghaaTotals.lean).
  GIVEN WITH THE SEED: the statements are not yours to turn. If you find one false, say at which input.
  Laid BY PROGRAM, IN A SANDBOX (cutbox-rows.mjs): the forced cells as the released guide's own fill.sh prints them over the translation dc48e3c541af5afb… (all of the seat's roots in one cut). By AI agents, Wed Nov 11 2026. No macro, syntax, notation, axiom, sorry.
-/
import Derived.Test.YthkkipbdebgghaaChecked
import GoSem.Claim
import GoSem.ClaimJoined
import GoSem.ClaimMapViews
import Derived.JoinedTies
import Derived.KernelRfl
namespace Go.Proofs.Ythkkipbdebgghaa
/- THE CELL 'sum', in the pinned program and in every row, IS THE sha256 OF THE DUMP (.gsa) THAT YthkkipbdebgghaaProg.lean LOADS. Nothing in Lean hashes anything: it is a label: what it is worth is what the hold of that sum in a sandbox is worth. -/
noncomputable def Try.pinned : Pinned := { name := "ythkkipbdebgghaa", sum := "dc48e3c541af5afb1d3536e5fe27557385e5ec7a783b103a16da85987d147064", checked := Try.checked }
namespace Rows
def none {H : Type} : Left H := { results := [], args := [] }

/-- 'laws.FnExactDegreeOrder': WHATEVER THE INPUT: true; the input reads as it did. -/
def fnExactDegreeOrderSpec : ChangeSpec := { name := "fnExactDegreeOrder", fn := fun _ => fun
  | [d] => { results := [.lit (.bool true)], args := [d] }
  | _ => none }
def fnExactDegreeOrderRow : OpenClaim := { program := "ythkkipbdebgghaa", sum := "dc48e3c541af5afb1d3536e5fe27557385e5ec7a783b103a16da85987d147064", func := "loop.example/g01923/laws.FnExactDegreeOrder", spec := "fnExactDegreeOrder", unfollowed := true, recurses := true, apart := false }
def FnExactDegreeOrderSaid : Prop := fnExactDegreeOrderRow.holds Try.pinned (OpenSpec.ofChange fnExactDegreeOrderSpec)

/-- ITS FALSE NEIGHBOUR: 'it returns false'. Refute it at one input. -/
def fnExactDegreeOrderWrong : ChangeSpec := { name := "fnExactDegreeOrder", fn := fun _ => fun
  | [d] => { results := [.lit (.bool false)], args := [d] }
  | _ => none }
def FnExactDegreeOrderWrongFalsely : Prop := fnExactDegreeOrderRow.holds Try.pinned (OpenSpec.ofChange fnExactDegreeOrderWrong)

/-- 'laws.FnExactConflictChain': WHATEVER THE INPUT: true; the input reads as it did. -/
def fnExactConflictChainSpec : ChangeSpec := { name := "fnExactConflictChain", fn := fun _ => fun
  | [d1, d2] => { results := [.lit (.bool true)], args := [d1, d2] }
  | _ => none }
def fnExactConflictChainRow : OpenClaim := { program := "ythkkipbdebgghaa", sum := "dc48e3c541af5afb1d3536e5fe27557385e5ec7a783b103a16da85987d147064", func := "loop.example/g01923/laws.FnExactConflictChain", spec := "fnExactConflictChain", unfollowed := true, recurses := true, apart := false }
def FnExactConflictChainSaid : Prop := fnExactConflictChainRow.holds Try.pinned (OpenSpec.ofChange fnExactConflictChainSpec)

/-- ITS FALSE NEIGHBOUR: 'it returns false'. Refute it at one input. -/
def fnExactConflictChainWrong : ChangeSpec := { name := "fnExactConflictChain", fn := fun _ => fun
  | [d1, d2] => { results := [.lit (.bool false)], args := [d1, d2] }
  | _ => none }
def FnExactConflictChainWrongFalsely : Prop := fnExactConflictChainRow.holds Try.pinned (OpenSpec.ofChange fnExactConflictChainWrong)

/-- 'laws.FnExactBestPartition': WHATEVER THE INPUT: true; the input reads as it did. -/
def fnExactBestPartitionSpec : ChangeSpec := { name := "fnExactBestPartition", fn := fun _ => fun
  | [d1, d2] => { results := [.lit (.bool true)], args := [d1, d2] }
  | _ => none }
def fnExactBestPartitionRow : OpenClaim := { program := "ythkkipbdebgghaa", sum := "dc48e3c541af5afb1d3536e5fe27557385e5ec7a783b103a16da85987d147064", func := "loop.example/g01923/laws.FnExactBestPartition", spec := "fnExactBestPartition", unfollowed := true, recurses := true, apart := false }
def FnExactBestPartitionSaid : Prop := fnExactBestPartitionRow.holds Try.pinned (OpenSpec.ofChange fnExactBestPartitionSpec)

/-- ITS FALSE NEIGHBOUR: 'it returns false'. Refute it at one input. -/
def fnExactBestPartitionWrong : ChangeSpec := { name := "fnExactBestPartition", fn := fun _ => fun
  | [d1, d2] => { results := [.lit (.bool false)], args := [d1, d2] }
  | _ => none }
def FnExactBestPartitionWrongFalsely : Prop := fnExactBestPartitionRow.holds Try.pinned (OpenSpec.ofChange fnExactBestPartitionWrong)

/-- 'laws.FnExactBestCost': WHATEVER THE INPUT: true; the input reads as it did. -/
def fnExactBestCostSpec : ChangeSpec := { name := "fnExactBestCost", fn := fun _ => fun
  | [d1, d2] => { results := [.lit (.bool true)], args := [d1, d2] }
  | _ => none }
def fnExactBestCostRow : OpenClaim := { program := "ythkkipbdebgghaa", sum := "dc48e3c541af5afb1d3536e5fe27557385e5ec7a783b103a16da85987d147064", func := "loop.example/g01923/laws.FnExactBestCost", spec := "fnExactBestCost", unfollowed := true, recurses := true, apart := false }
def FnExactBestCostSaid : Prop := fnExactBestCostRow.holds Try.pinned (OpenSpec.ofChange fnExactBestCostSpec)

/-- ITS FALSE NEIGHBOUR: 'it returns false'. Refute it at one input. -/
def fnExactBestCostWrong : ChangeSpec := { name := "fnExactBestCost", fn := fun _ => fun
  | [d1, d2] => { results := [.lit (.bool false)], args := [d1, d2] }
  | _ => none }
def FnExactBestCostWrongFalsely : Prop := fnExactBestCostRow.holds Try.pinned (OpenSpec.ofChange fnExactBestCostWrong)

/-- 'laws.FnExactCountBest': WHATEVER THE INPUT: true; the input reads as it did. -/
def fnExactCountBestSpec : ChangeSpec := { name := "fnExactCountBest", fn := fun _ => fun
  | [d1, d2] => { results := [.lit (.bool true)], args := [d1, d2] }
  | _ => none }
def fnExactCountBestRow : OpenClaim := { program := "ythkkipbdebgghaa", sum := "dc48e3c541af5afb1d3536e5fe27557385e5ec7a783b103a16da85987d147064", func := "loop.example/g01923/laws.FnExactCountBest", spec := "fnExactCountBest", unfollowed := true, recurses := true, apart := false }
def FnExactCountBestSaid : Prop := fnExactCountBestRow.holds Try.pinned (OpenSpec.ofChange fnExactCountBestSpec)

/-- ITS FALSE NEIGHBOUR: 'it returns false'. Refute it at one input. -/
def fnExactCountBestWrong : ChangeSpec := { name := "fnExactCountBest", fn := fun _ => fun
  | [d1, d2] => { results := [.lit (.bool false)], args := [d1, d2] }
  | _ => none }
def FnExactCountBestWrongFalsely : Prop := fnExactCountBestRow.holds Try.pinned (OpenSpec.ofChange fnExactCountBestWrong)

/-- 'laws.FnExactIsOptimal': WHATEVER THE INPUT: true; the input reads as it did. -/
def fnExactIsOptimalSpec : ChangeSpec := { name := "fnExactIsOptimal", fn := fun _ => fun
  | [d1, d2, d3] => { results := [.lit (.bool true)], args := [d1, d2, d3] }
  | _ => none }
def fnExactIsOptimalRow : OpenClaim := { program := "ythkkipbdebgghaa", sum := "dc48e3c541af5afb1d3536e5fe27557385e5ec7a783b103a16da85987d147064", func := "loop.example/g01923/laws.FnExactIsOptimal", spec := "fnExactIsOptimal", unfollowed := true, recurses := true, apart := false }
def FnExactIsOptimalSaid : Prop := fnExactIsOptimalRow.holds Try.pinned (OpenSpec.ofChange fnExactIsOptimalSpec)

/-- ITS FALSE NEIGHBOUR: 'it returns false'. Refute it at one input. -/
def fnExactIsOptimalWrong : ChangeSpec := { name := "fnExactIsOptimal", fn := fun _ => fun
  | [d1, d2, d3] => { results := [.lit (.bool false)], args := [d1, d2, d3] }
  | _ => none }
def FnExactIsOptimalWrongFalsely : Prop := fnExactIsOptimalRow.holds Try.pinned (OpenSpec.ofChange fnExactIsOptimalWrong)

/-- 'laws.FnExactConstraintCost': WHATEVER THE INPUT: true; the input reads as it did. -/
def fnExactConstraintCostSpec : ChangeSpec := { name := "fnExactConstraintCost", fn := fun _ => fun
  | [d1, d2] => { results := [.lit (.bool true)], args := [d1, d2] }
  | _ => none }
def fnExactConstraintCostRow : OpenClaim := { program := "ythkkipbdebgghaa", sum := "dc48e3c541af5afb1d3536e5fe27557385e5ec7a783b103a16da85987d147064", func := "loop.example/g01923/laws.FnExactConstraintCost", spec := "fnExactConstraintCost", unfollowed := true, recurses := true, apart := false }
def FnExactConstraintCostSaid : Prop := fnExactConstraintCostRow.holds Try.pinned (OpenSpec.ofChange fnExactConstraintCostSpec)

/-- ITS FALSE NEIGHBOUR: 'it returns false'. Refute it at one input. -/
def fnExactConstraintCostWrong : ChangeSpec := { name := "fnExactConstraintCost", fn := fun _ => fun
  | [d1, d2] => { results := [.lit (.bool false)], args := [d1, d2] }
  | _ => none }
def FnExactConstraintCostWrongFalsely : Prop := fnExactConstraintCostRow.holds Try.pinned (OpenSpec.ofChange fnExactConstraintCostWrong)

/-- 'laws.FnExactPairWeight': WHATEVER THE INPUT: true; the input reads as it did. -/
def fnExactPairWeightSpec : ChangeSpec := { name := "fnExactPairWeight", fn := fun _ => fun
  | [d1, d2, d3] => { results := [.lit (.bool true)], args := [d1, d2, d3] }
  | _ => none }
def fnExactPairWeightRow : OpenClaim := { program := "ythkkipbdebgghaa", sum := "dc48e3c541af5afb1d3536e5fe27557385e5ec7a783b103a16da85987d147064", func := "loop.example/g01923/laws.FnExactPairWeight", spec := "fnExactPairWeight", unfollowed := true, recurses := true, apart := false }
def FnExactPairWeightSaid : Prop := fnExactPairWeightRow.holds Try.pinned (OpenSpec.ofChange fnExactPairWeightSpec)

/-- ITS FALSE NEIGHBOUR: 'it returns false'. Refute it at one input. -/
def fnExactPairWeightWrong : ChangeSpec := { name := "fnExactPairWeight", fn := fun _ => fun
  | [d1, d2, d3] => { results := [.lit (.bool false)], args := [d1, d2, d3] }
  | _ => none }
def FnExactPairWeightWrongFalsely : Prop := fnExactPairWeightRow.holds Try.pinned (OpenSpec.ofChange fnExactPairWeightWrong)

/-- 'laws.FnPacking': WHATEVER THE INPUT: true; the input reads as it did. -/
def fnPackingSpec : ChangeSpec := { name := "fnPacking", fn := fun _ => fun
  | [d] => { results := [.lit (.bool true)], args := [d] }
  | _ => none }
def fnPackingRow : OpenClaim := { program := "ythkkipbdebgghaa", sum := "dc48e3c541af5afb1d3536e5fe27557385e5ec7a783b103a16da85987d147064", func := "loop.example/g01923/laws.FnPacking", spec := "fnPacking", recurses := true, apart := false }
def FnPackingSaid : Prop := fnPackingRow.holds Try.pinned (OpenSpec.ofChange fnPackingSpec)

/-- ITS FALSE NEIGHBOUR: 'it returns false'. Refute it at one input. -/
def fnPackingWrong : ChangeSpec := { name := "fnPacking", fn := fun _ => fun
  | [d] => { results := [.lit (.bool false)], args := [d] }
  | _ => none }
def FnPackingWrongFalsely : Prop := fnPackingRow.holds Try.pinned (OpenSpec.ofChange fnPackingWrong)

/-- 'laws.FnExact': WHATEVER THE INPUT: true; the input reads as it did. -/
def fnExactSpec : ChangeSpec := { name := "fnExact", fn := fun _ => fun
  | [d] => { results := [.lit (.bool true)], args := [d] }
  | _ => none }
def fnExactRow : OpenClaim := { program := "ythkkipbdebgghaa", sum := "dc48e3c541af5afb1d3536e5fe27557385e5ec7a783b103a16da85987d147064", func := "loop.example/g01923/laws.FnExact", spec := "fnExact", unfollowed := true, recurses := true, apart := false }
def FnExactSaid : Prop := fnExactRow.holds Try.pinned (OpenSpec.ofChange fnExactSpec)

/-- ITS FALSE NEIGHBOUR: 'it returns false'. Refute it at one input. -/
def fnExactWrong : ChangeSpec := { name := "fnExact", fn := fun _ => fun
  | [d] => { results := [.lit (.bool false)], args := [d] }
  | _ => none }
def FnExactWrongFalsely : Prop := fnExactRow.holds Try.pinned (OpenSpec.ofChange fnExactWrong)

/-- 'laws.FnConstraints': WHATEVER THE INPUT: true; the input reads as it did. -/
def fnConstraintsSpec : ChangeSpec := { name := "fnConstraints", fn := fun _ => fun
  | [d] => { results := [.lit (.bool true)], args := [d] }
  | _ => none }
def fnConstraintsRow : OpenClaim := { program := "ythkkipbdebgghaa", sum := "dc48e3c541af5afb1d3536e5fe27557385e5ec7a783b103a16da85987d147064", func := "loop.example/g01923/laws.FnConstraints", spec := "fnConstraints", unfollowed := true, recurses := true, apart := false }
def FnConstraintsSaid : Prop := fnConstraintsRow.holds Try.pinned (OpenSpec.ofChange fnConstraintsSpec)

/-- ITS FALSE NEIGHBOUR: 'it returns false'. Refute it at one input. -/
def fnConstraintsWrong : ChangeSpec := { name := "fnConstraints", fn := fun _ => fun
  | [d] => { results := [.lit (.bool false)], args := [d] }
  | _ => none }
def FnConstraintsWrongFalsely : Prop := fnConstraintsRow.holds Try.pinned (OpenSpec.ofChange fnConstraintsWrong)

/-- 'laws.FnLocal': WHATEVER THE INPUT: true; the input reads as it did. -/
def fnLocalSpec : ChangeSpec := { name := "fnLocal", fn := fun _ => fun
  | [d] => { results := [.lit (.bool true)], args := [d] }
  | _ => none }
def fnLocalRow : OpenClaim := { program := "ythkkipbdebgghaa", sum := "dc48e3c541af5afb1d3536e5fe27557385e5ec7a783b103a16da85987d147064", func := "loop.example/g01923/laws.FnLocal", spec := "fnLocal", unfollowed := true, recurses := true, apart := false }
def FnLocalSaid : Prop := fnLocalRow.holds Try.pinned (OpenSpec.ofChange fnLocalSpec)

/-- ITS FALSE NEIGHBOUR: 'it returns false'. Refute it at one input. -/
def fnLocalWrong : ChangeSpec := { name := "fnLocal", fn := fun _ => fun
  | [d] => { results := [.lit (.bool false)], args := [d] }
  | _ => none }
def FnLocalWrongFalsely : Prop := fnLocalRow.holds Try.pinned (OpenSpec.ofChange fnLocalWrong)

/- THE SECOND FORM. 'bulk': how many values and letters a reading holds, each counted each time it is reached (what is shared counts as often as it is met; a slice's spare places count too). A statement '..UptoSaid' is the law's where the arguments, and the package variables that the reading takes, are together of bulk at most 1048576: NARROWER than '..Said'. Prove '..Said' where nothing that the law and all that it calls make is longer than what came in: it says more and counts as full. Else prove '..UptoSaid'. A law counts once. -/
mutual
def uptoBulk {H : Type} : DataW H → Nat
  | .lit (.string bytes) => bytes.length + 1
  | .lit _ => 1
  | .nil => 1
  | .ptr d => uptoBulk d + 1
  | .slice elems spare => uptoBulkAll elems + uptoBulkAll spare + 1
  | .agg parts => uptoBulkAll parts + 1
  | .iface _ d => uptoBulk d + 1
  | .map entries => uptoBulkEntries entries + 1
  | .held _ => 1
def uptoBulkAll {H : Type} : List (DataW H) → Nat
  | [] => 0
  | d :: r => uptoBulk d + uptoBulkAll r
def uptoBulkEntries {H : Type} : List (Lit × DataW H) → Nat
  | [] => 0
  | x :: r => uptoBulkEntry x + uptoBulkEntries r
def uptoBulkEntry {H : Type} : Lit × DataW H → Nat
  | (.string bytes, d) => bytes.length + uptoBulk d + 1
  | (_, d) => uptoBulk d + 1
 end
def uptoSmall : (H : Type) → List (DataW H) → Bool := fun _ ds => decide (uptoBulkAll ds ≤ 1048576)
def OpenSpec.upto (s : _root_.Go.ChangeSpec) : _root_.Go.OpenSpec := { _root_.Go.OpenSpec.ofChange s with cond := some uptoSmall }

/-- 'laws.FnExactDegreeOrder', WHERE WHAT IT READS IS OF BULK AT MOST 1048576: true; the input reads as it did. -/
def fnExactDegreeOrderUptoRow : OpenClaim := { program := "ythkkipbdebgghaa", sum := "dc48e3c541af5afb1d3536e5fe27557385e5ec7a783b103a16da85987d147064", func := "loop.example/g01923/laws.FnExactDegreeOrder", spec := "fnExactDegreeOrder", unfollowed := true, recurses := true, apart := false, narrowed := true }
def FnExactDegreeOrderUptoSaid : Prop := fnExactDegreeOrderUptoRow.holds Try.pinned (OpenSpec.upto fnExactDegreeOrderSpec)

/-- 'laws.FnExactConflictChain', WHERE WHAT IT READS IS OF BULK AT MOST 1048576: true; the input reads as it did. -/
def fnExactConflictChainUptoRow : OpenClaim := { program := "ythkkipbdebgghaa", sum := "dc48e3c541af5afb1d3536e5fe27557385e5ec7a783b103a16da85987d147064", func := "loop.example/g01923/laws.FnExactConflictChain", spec := "fnExactConflictChain", unfollowed := true, recurses := true, apart := false, narrowed := true }
def FnExactConflictChainUptoSaid : Prop := fnExactConflictChainUptoRow.holds Try.pinned (OpenSpec.upto fnExactConflictChainSpec)

/-- 'laws.FnExactBestPartition', WHERE WHAT IT READS IS OF BULK AT MOST 1048576: true; the input reads as it did. -/
def fnExactBestPartitionUptoRow : OpenClaim := { program := "ythkkipbdebgghaa", sum := "dc48e3c541af5afb1d3536e5fe27557385e5ec7a783b103a16da85987d147064", func := "loop.example/g01923/laws.FnExactBestPartition", spec := "fnExactBestPartition", unfollowed := true, recurses := true, apart := false, narrowed := true }
def FnExactBestPartitionUptoSaid : Prop := fnExactBestPartitionUptoRow.holds Try.pinned (OpenSpec.upto fnExactBestPartitionSpec)

/-- 'laws.FnExactBestCost', WHERE WHAT IT READS IS OF BULK AT MOST 1048576: true; the input reads as it did. -/
def fnExactBestCostUptoRow : OpenClaim := { program := "ythkkipbdebgghaa", sum := "dc48e3c541af5afb1d3536e5fe27557385e5ec7a783b103a16da85987d147064", func := "loop.example/g01923/laws.FnExactBestCost", spec := "fnExactBestCost", unfollowed := true, recurses := true, apart := false, narrowed := true }
def FnExactBestCostUptoSaid : Prop := fnExactBestCostUptoRow.holds Try.pinned (OpenSpec.upto fnExactBestCostSpec)

/-- 'laws.FnExactCountBest', WHERE WHAT IT READS IS OF BULK AT MOST 1048576: true; the input reads as it did. -/
def fnExactCountBestUptoRow : OpenClaim := { program := "ythkkipbdebgghaa", sum := "dc48e3c541af5afb1d3536e5fe27557385e5ec7a783b103a16da85987d147064", func := "loop.example/g01923/laws.FnExactCountBest", spec := "fnExactCountBest", unfollowed := true, recurses := true, apart := false, narrowed := true }
def FnExactCountBestUptoSaid : Prop := fnExactCountBestUptoRow.holds Try.pinned (OpenSpec.upto fnExactCountBestSpec)

/-- 'laws.FnExactIsOptimal', WHERE WHAT IT READS IS OF BULK AT MOST 1048576: true; the input reads as it did. -/
def fnExactIsOptimalUptoRow : OpenClaim := { program := "ythkkipbdebgghaa", sum := "dc48e3c541af5afb1d3536e5fe27557385e5ec7a783b103a16da85987d147064", func := "loop.example/g01923/laws.FnExactIsOptimal", spec := "fnExactIsOptimal", unfollowed := true, recurses := true, apart := false, narrowed := true }
def FnExactIsOptimalUptoSaid : Prop := fnExactIsOptimalUptoRow.holds Try.pinned (OpenSpec.upto fnExactIsOptimalSpec)

/-- 'laws.FnExactConstraintCost', WHERE WHAT IT READS IS OF BULK AT MOST 1048576: true; the input reads as it did. -/
def fnExactConstraintCostUptoRow : OpenClaim := { program := "ythkkipbdebgghaa", sum := "dc48e3c541af5afb1d3536e5fe27557385e5ec7a783b103a16da85987d147064", func := "loop.example/g01923/laws.FnExactConstraintCost", spec := "fnExactConstraintCost", unfollowed := true, recurses := true, apart := false, narrowed := true }
def FnExactConstraintCostUptoSaid : Prop := fnExactConstraintCostUptoRow.holds Try.pinned (OpenSpec.upto fnExactConstraintCostSpec)

/-- 'laws.FnExactPairWeight', WHERE WHAT IT READS IS OF BULK AT MOST 1048576: true; the input reads as it did. -/
def fnExactPairWeightUptoRow : OpenClaim := { program := "ythkkipbdebgghaa", sum := "dc48e3c541af5afb1d3536e5fe27557385e5ec7a783b103a16da85987d147064", func := "loop.example/g01923/laws.FnExactPairWeight", spec := "fnExactPairWeight", unfollowed := true, recurses := true, apart := false, narrowed := true }
def FnExactPairWeightUptoSaid : Prop := fnExactPairWeightUptoRow.holds Try.pinned (OpenSpec.upto fnExactPairWeightSpec)

/-- 'laws.FnPacking', WHERE WHAT IT READS IS OF BULK AT MOST 1048576: true; the input reads as it did. -/
def fnPackingUptoRow : OpenClaim := { program := "ythkkipbdebgghaa", sum := "dc48e3c541af5afb1d3536e5fe27557385e5ec7a783b103a16da85987d147064", func := "loop.example/g01923/laws.FnPacking", spec := "fnPacking", recurses := true, apart := false, narrowed := true }
def FnPackingUptoSaid : Prop := fnPackingUptoRow.holds Try.pinned (OpenSpec.upto fnPackingSpec)

/-- 'laws.FnExact', WHERE WHAT IT READS IS OF BULK AT MOST 1048576: true; the input reads as it did. -/
def fnExactUptoRow : OpenClaim := { program := "ythkkipbdebgghaa", sum := "dc48e3c541af5afb1d3536e5fe27557385e5ec7a783b103a16da85987d147064", func := "loop.example/g01923/laws.FnExact", spec := "fnExact", unfollowed := true, recurses := true, apart := false, narrowed := true }
def FnExactUptoSaid : Prop := fnExactUptoRow.holds Try.pinned (OpenSpec.upto fnExactSpec)

/-- 'laws.FnConstraints', WHERE WHAT IT READS IS OF BULK AT MOST 1048576: true; the input reads as it did. -/
def fnConstraintsUptoRow : OpenClaim := { program := "ythkkipbdebgghaa", sum := "dc48e3c541af5afb1d3536e5fe27557385e5ec7a783b103a16da85987d147064", func := "loop.example/g01923/laws.FnConstraints", spec := "fnConstraints", unfollowed := true, recurses := true, apart := false, narrowed := true }
def FnConstraintsUptoSaid : Prop := fnConstraintsUptoRow.holds Try.pinned (OpenSpec.upto fnConstraintsSpec)

/-- 'laws.FnLocal', WHERE WHAT IT READS IS OF BULK AT MOST 1048576: true; the input reads as it did. -/
def fnLocalUptoRow : OpenClaim := { program := "ythkkipbdebgghaa", sum := "dc48e3c541af5afb1d3536e5fe27557385e5ec7a783b103a16da85987d147064", func := "loop.example/g01923/laws.FnLocal", spec := "fnLocal", unfollowed := true, recurses := true, apart := false, narrowed := true }
def FnLocalUptoSaid : Prop := fnLocalUptoRow.holds Try.pinned (OpenSpec.upto fnLocalSpec)

end Rows
end Go.Proofs.Ythkkipbdebgghaa
