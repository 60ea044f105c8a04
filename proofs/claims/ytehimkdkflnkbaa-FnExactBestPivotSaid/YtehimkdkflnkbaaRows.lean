/-
  No cell of these rows narrows 'for every input' (looked for: loops, veiled, ifaces, maps, wideKeys, modest, calm, conditions, laid).
  DERIVED. THE GIVEN ROWS OF THIS SEAT. 12 by the template 'for every input the law returns true; each argument reads behind the call as it read before'; 0 by the template 'total and deterministic' (their statements: YtehimkdkflnkbaaTotals.lean).
  GIVEN WITH THE SEED: the statements are not yours to turn. If you find one false, say at which input.
  Laid BY PROGRAM, IN A SANDBOX (cutbox-rows.mjs): the forced cells as the released guide's own fill.sh prints them over the translation e4442009af7bf5ac… (all of the seat's roots in one cut). By AI agents, Wed Nov 11 2026. No macro, syntax, notation, axiom, sorry.
-/
import Derived.Test.YtehimkdkflnkbaaChecked
import GoSem.Claim
import GoSem.ClaimJoined
import GoSem.ClaimMapViews
import Derived.JoinedTies
import Derived.KernelRfl
namespace Go.Proofs.Ytehimkdkflnkbaa
/- THE CELL 'sum', in the pinned program and in every row, IS THE sha256 OF THE DUMP (.gsa) THAT YtehimkdkflnkbaaProg.lean LOADS. Nothing in Lean hashes anything: it is a label: what it is worth is what the hold of that sum in a sandbox is worth. -/
noncomputable def Try.pinned : Pinned := { name := "ytehimkdkflnkbaa", sum := "e4442009af7bf5ac9b2c5a55cd2e102556369ed187fedae9a75b4c9eccd357fb", checked := Try.checked }
namespace Rows
def none {H : Type} : Left H := { results := [], args := [] }

/-- 'laws.FnExactOptimalityGap': WHATEVER THE INPUT: true; the input reads as it did. -/
def fnExactOptimalityGapSpec : ChangeSpec := { name := "fnExactOptimalityGap", fn := fun _ => fun
  | [d1, d2, d3] => { results := [.lit (.bool true)], args := [d1, d2, d3] }
  | _ => none }
def fnExactOptimalityGapRow : OpenClaim := { program := "ytehimkdkflnkbaa", sum := "e4442009af7bf5ac9b2c5a55cd2e102556369ed187fedae9a75b4c9eccd357fb", func := "loop.example/g01923/laws.FnExactOptimalityGap", spec := "fnExactOptimalityGap", apart := false }
def FnExactOptimalityGapSaid : Prop := fnExactOptimalityGapRow.holds Try.pinned (OpenSpec.ofChange fnExactOptimalityGapSpec)

/-- ITS FALSE NEIGHBOUR: 'it returns false'. Refute it at one input. -/
def fnExactOptimalityGapWrong : ChangeSpec := { name := "fnExactOptimalityGap", fn := fun _ => fun
  | [d1, d2, d3] => { results := [.lit (.bool false)], args := [d1, d2, d3] }
  | _ => none }
def FnExactOptimalityGapWrongFalsely : Prop := fnExactOptimalityGapRow.holds Try.pinned (OpenSpec.ofChange fnExactOptimalityGapWrong)

/-- 'laws.FnExactSearchParts': WHATEVER THE INPUT: true; the input reads as it did. -/
def fnExactSearchPartsSpec : ChangeSpec := { name := "fnExactSearchParts", fn := fun _ => fun
  | [d1, d2] => { results := [.lit (.bool true)], args := [d1, d2] }
  | _ => none }
def fnExactSearchPartsRow : OpenClaim := { program := "ytehimkdkflnkbaa", sum := "e4442009af7bf5ac9b2c5a55cd2e102556369ed187fedae9a75b4c9eccd357fb", func := "loop.example/g01923/laws.FnExactSearchParts", spec := "fnExactSearchParts", unfollowed := true, recurses := true, apart := false }
def FnExactSearchPartsSaid : Prop := fnExactSearchPartsRow.holds Try.pinned (OpenSpec.ofChange fnExactSearchPartsSpec)

/-- ITS FALSE NEIGHBOUR: 'it returns false'. Refute it at one input. -/
def fnExactSearchPartsWrong : ChangeSpec := { name := "fnExactSearchParts", fn := fun _ => fun
  | [d1, d2] => { results := [.lit (.bool false)], args := [d1, d2] }
  | _ => none }
def FnExactSearchPartsWrongFalsely : Prop := fnExactSearchPartsRow.holds Try.pinned (OpenSpec.ofChange fnExactSearchPartsWrong)

/-- 'laws.FnExactGreedyPacking': WHATEVER THE INPUT: true; the input reads as it did. -/
def fnExactGreedyPackingSpec : ChangeSpec := { name := "fnExactGreedyPacking", fn := fun _ => fun
  | [d] => { results := [.lit (.bool true)], args := [d] }
  | _ => none }
def fnExactGreedyPackingRow : OpenClaim := { program := "ytehimkdkflnkbaa", sum := "e4442009af7bf5ac9b2c5a55cd2e102556369ed187fedae9a75b4c9eccd357fb", func := "loop.example/g01923/laws.FnExactGreedyPacking", spec := "fnExactGreedyPacking", apart := false }
def FnExactGreedyPackingSaid : Prop := fnExactGreedyPackingRow.holds Try.pinned (OpenSpec.ofChange fnExactGreedyPackingSpec)

/-- ITS FALSE NEIGHBOUR: 'it returns false'. Refute it at one input. -/
def fnExactGreedyPackingWrong : ChangeSpec := { name := "fnExactGreedyPacking", fn := fun _ => fun
  | [d] => { results := [.lit (.bool false)], args := [d] }
  | _ => none }
def FnExactGreedyPackingWrongFalsely : Prop := fnExactGreedyPackingRow.holds Try.pinned (OpenSpec.ofChange fnExactGreedyPackingWrong)

/-- 'laws.FnExactBestPivot': WHATEVER THE INPUT: true; the input reads as it did. -/
def fnExactBestPivotSpec : ChangeSpec := { name := "fnExactBestPivot", fn := fun _ => fun
  | [d] => { results := [.lit (.bool true)], args := [d] }
  | _ => none }
def fnExactBestPivotRow : OpenClaim := { program := "ytehimkdkflnkbaa", sum := "e4442009af7bf5ac9b2c5a55cd2e102556369ed187fedae9a75b4c9eccd357fb", func := "loop.example/g01923/laws.FnExactBestPivot", spec := "fnExactBestPivot", apart := false }
def FnExactBestPivotSaid : Prop := fnExactBestPivotRow.holds Try.pinned (OpenSpec.ofChange fnExactBestPivotSpec)

/-- ITS FALSE NEIGHBOUR: 'it returns false'. Refute it at one input. -/
def fnExactBestPivotWrong : ChangeSpec := { name := "fnExactBestPivot", fn := fun _ => fun
  | [d] => { results := [.lit (.bool false)], args := [d] }
  | _ => none }
def FnExactBestPivotWrongFalsely : Prop := fnExactBestPivotRow.holds Try.pinned (OpenSpec.ofChange fnExactBestPivotWrong)

/-- 'laws.FnExactDegreeOrder': WHATEVER THE INPUT: true; the input reads as it did. -/
def fnExactDegreeOrderSpec : ChangeSpec := { name := "fnExactDegreeOrder", fn := fun _ => fun
  | [d] => { results := [.lit (.bool true)], args := [d] }
  | _ => none }
def fnExactDegreeOrderRow : OpenClaim := { program := "ytehimkdkflnkbaa", sum := "e4442009af7bf5ac9b2c5a55cd2e102556369ed187fedae9a75b4c9eccd357fb", func := "loop.example/g01923/laws.FnExactDegreeOrder", spec := "fnExactDegreeOrder", unfollowed := true, recurses := true, apart := false }
def FnExactDegreeOrderSaid : Prop := fnExactDegreeOrderRow.holds Try.pinned (OpenSpec.ofChange fnExactDegreeOrderSpec)

/-- ITS FALSE NEIGHBOUR: 'it returns false'. Refute it at one input. -/
def fnExactDegreeOrderWrong : ChangeSpec := { name := "fnExactDegreeOrder", fn := fun _ => fun
  | [d] => { results := [.lit (.bool false)], args := [d] }
  | _ => none }
def FnExactDegreeOrderWrongFalsely : Prop := fnExactDegreeOrderRow.holds Try.pinned (OpenSpec.ofChange fnExactDegreeOrderWrong)

/-- 'laws.FnExactConflictChain': WHATEVER THE INPUT: true; the input reads as it did. -/
def fnExactConflictChainSpec : ChangeSpec := { name := "fnExactConflictChain", fn := fun _ => fun
  | [d1, d2] => { results := [.lit (.bool true)], args := [d1, d2] }
  | _ => none }
def fnExactConflictChainRow : OpenClaim := { program := "ytehimkdkflnkbaa", sum := "e4442009af7bf5ac9b2c5a55cd2e102556369ed187fedae9a75b4c9eccd357fb", func := "loop.example/g01923/laws.FnExactConflictChain", spec := "fnExactConflictChain", unfollowed := true, recurses := true, apart := false }
def FnExactConflictChainSaid : Prop := fnExactConflictChainRow.holds Try.pinned (OpenSpec.ofChange fnExactConflictChainSpec)

/-- ITS FALSE NEIGHBOUR: 'it returns false'. Refute it at one input. -/
def fnExactConflictChainWrong : ChangeSpec := { name := "fnExactConflictChain", fn := fun _ => fun
  | [d1, d2] => { results := [.lit (.bool false)], args := [d1, d2] }
  | _ => none }
def FnExactConflictChainWrongFalsely : Prop := fnExactConflictChainRow.holds Try.pinned (OpenSpec.ofChange fnExactConflictChainWrong)

/-- 'laws.FnExactIsLocalOptimum': WHATEVER THE INPUT: true; the input reads as it did. -/
def fnExactIsLocalOptimumSpec : ChangeSpec := { name := "fnExactIsLocalOptimum", fn := fun _ => fun
  | [d1, d2, d3] => { results := [.lit (.bool true)], args := [d1, d2, d3] }
  | _ => none }
def fnExactIsLocalOptimumRow : OpenClaim := { program := "ytehimkdkflnkbaa", sum := "e4442009af7bf5ac9b2c5a55cd2e102556369ed187fedae9a75b4c9eccd357fb", func := "loop.example/g01923/laws.FnExactIsLocalOptimum", spec := "fnExactIsLocalOptimum", unfollowed := true, recurses := true, apart := false }
def FnExactIsLocalOptimumSaid : Prop := fnExactIsLocalOptimumRow.holds Try.pinned (OpenSpec.ofChange fnExactIsLocalOptimumSpec)

/-- ITS FALSE NEIGHBOUR: 'it returns false'. Refute it at one input. -/
def fnExactIsLocalOptimumWrong : ChangeSpec := { name := "fnExactIsLocalOptimum", fn := fun _ => fun
  | [d1, d2, d3] => { results := [.lit (.bool false)], args := [d1, d2, d3] }
  | _ => none }
def FnExactIsLocalOptimumWrongFalsely : Prop := fnExactIsLocalOptimumRow.holds Try.pinned (OpenSpec.ofChange fnExactIsLocalOptimumWrong)

/-- 'laws.FnExactBestMove': WHATEVER THE INPUT: true; the input reads as it did. -/
def fnExactBestMoveSpec : ChangeSpec := { name := "fnExactBestMove", fn := fun _ => fun
  | [d1, d2, d3] => { results := [.lit (.bool true)], args := [d1, d2, d3] }
  | _ => none }
def fnExactBestMoveRow : OpenClaim := { program := "ytehimkdkflnkbaa", sum := "e4442009af7bf5ac9b2c5a55cd2e102556369ed187fedae9a75b4c9eccd357fb", func := "loop.example/g01923/laws.FnExactBestMove", spec := "fnExactBestMove", unfollowed := true, recurses := true, apart := false }
def FnExactBestMoveSaid : Prop := fnExactBestMoveRow.holds Try.pinned (OpenSpec.ofChange fnExactBestMoveSpec)

/-- ITS FALSE NEIGHBOUR: 'it returns false'. Refute it at one input. -/
def fnExactBestMoveWrong : ChangeSpec := { name := "fnExactBestMove", fn := fun _ => fun
  | [d1, d2, d3] => { results := [.lit (.bool false)], args := [d1, d2, d3] }
  | _ => none }
def FnExactBestMoveWrongFalsely : Prop := fnExactBestMoveRow.holds Try.pinned (OpenSpec.ofChange fnExactBestMoveWrong)

/-- 'laws.FnExactImprovePartition': WHATEVER THE INPUT: true; the input reads as it did. -/
def fnExactImprovePartitionSpec : ChangeSpec := { name := "fnExactImprovePartition", fn := fun _ => fun
  | [d1, d2, d3] => { results := [.lit (.bool true)], args := [d1, d2, d3] }
  | _ => none }
def fnExactImprovePartitionRow : OpenClaim := { program := "ytehimkdkflnkbaa", sum := "e4442009af7bf5ac9b2c5a55cd2e102556369ed187fedae9a75b4c9eccd357fb", func := "loop.example/g01923/laws.FnExactImprovePartition", spec := "fnExactImprovePartition", unfollowed := true, recurses := true, apart := false }
def FnExactImprovePartitionSaid : Prop := fnExactImprovePartitionRow.holds Try.pinned (OpenSpec.ofChange fnExactImprovePartitionSpec)

/-- ITS FALSE NEIGHBOUR: 'it returns false'. Refute it at one input. -/
def fnExactImprovePartitionWrong : ChangeSpec := { name := "fnExactImprovePartition", fn := fun _ => fun
  | [d1, d2, d3] => { results := [.lit (.bool false)], args := [d1, d2, d3] }
  | _ => none }
def FnExactImprovePartitionWrongFalsely : Prop := fnExactImprovePartitionRow.holds Try.pinned (OpenSpec.ofChange fnExactImprovePartitionWrong)

/-- 'laws.FnExactBestCost': WHATEVER THE INPUT: true; the input reads as it did. -/
def fnExactBestCostSpec : ChangeSpec := { name := "fnExactBestCost", fn := fun _ => fun
  | [d1, d2] => { results := [.lit (.bool true)], args := [d1, d2] }
  | _ => none }
def fnExactBestCostRow : OpenClaim := { program := "ytehimkdkflnkbaa", sum := "e4442009af7bf5ac9b2c5a55cd2e102556369ed187fedae9a75b4c9eccd357fb", func := "loop.example/g01923/laws.FnExactBestCost", spec := "fnExactBestCost", unfollowed := true, recurses := true, apart := false }
def FnExactBestCostSaid : Prop := fnExactBestCostRow.holds Try.pinned (OpenSpec.ofChange fnExactBestCostSpec)

/-- ITS FALSE NEIGHBOUR: 'it returns false'. Refute it at one input. -/
def fnExactBestCostWrong : ChangeSpec := { name := "fnExactBestCost", fn := fun _ => fun
  | [d1, d2] => { results := [.lit (.bool false)], args := [d1, d2] }
  | _ => none }
def FnExactBestCostWrongFalsely : Prop := fnExactBestCostRow.holds Try.pinned (OpenSpec.ofChange fnExactBestCostWrong)

/-- 'laws.FnExactCountBest': WHATEVER THE INPUT: true; the input reads as it did. -/
def fnExactCountBestSpec : ChangeSpec := { name := "fnExactCountBest", fn := fun _ => fun
  | [d1, d2] => { results := [.lit (.bool true)], args := [d1, d2] }
  | _ => none }
def fnExactCountBestRow : OpenClaim := { program := "ytehimkdkflnkbaa", sum := "e4442009af7bf5ac9b2c5a55cd2e102556369ed187fedae9a75b4c9eccd357fb", func := "loop.example/g01923/laws.FnExactCountBest", spec := "fnExactCountBest", unfollowed := true, recurses := true, apart := false }
def FnExactCountBestSaid : Prop := fnExactCountBestRow.holds Try.pinned (OpenSpec.ofChange fnExactCountBestSpec)

/-- ITS FALSE NEIGHBOUR: 'it returns false'. Refute it at one input. -/
def fnExactCountBestWrong : ChangeSpec := { name := "fnExactCountBest", fn := fun _ => fun
  | [d1, d2] => { results := [.lit (.bool false)], args := [d1, d2] }
  | _ => none }
def FnExactCountBestWrongFalsely : Prop := fnExactCountBestRow.holds Try.pinned (OpenSpec.ofChange fnExactCountBestWrong)

/-- 'laws.FnExactBestPartition': WHATEVER THE INPUT: true; the input reads as it did. -/
def fnExactBestPartitionSpec : ChangeSpec := { name := "fnExactBestPartition", fn := fun _ => fun
  | [d1, d2] => { results := [.lit (.bool true)], args := [d1, d2] }
  | _ => none }
def fnExactBestPartitionRow : OpenClaim := { program := "ytehimkdkflnkbaa", sum := "e4442009af7bf5ac9b2c5a55cd2e102556369ed187fedae9a75b4c9eccd357fb", func := "loop.example/g01923/laws.FnExactBestPartition", spec := "fnExactBestPartition", unfollowed := true, recurses := true, apart := false }
def FnExactBestPartitionSaid : Prop := fnExactBestPartitionRow.holds Try.pinned (OpenSpec.ofChange fnExactBestPartitionSpec)

/-- ITS FALSE NEIGHBOUR: 'it returns false'. Refute it at one input. -/
def fnExactBestPartitionWrong : ChangeSpec := { name := "fnExactBestPartition", fn := fun _ => fun
  | [d1, d2] => { results := [.lit (.bool false)], args := [d1, d2] }
  | _ => none }
def FnExactBestPartitionWrongFalsely : Prop := fnExactBestPartitionRow.holds Try.pinned (OpenSpec.ofChange fnExactBestPartitionWrong)

/- THE SECOND FORM. 'bulk': how many values and letters a reading holds, each counted each time it is reached (what is shared counts as often as it is met; a slice's spare places count too). A statement '..UptoSaid' is the law's where the arguments, and the package variables that the reading takes, are together of bulk at most 1048576: NARROWER than '..Said'. Prove '..Said' where nothing that the law and all that it calls make is longer than what came in: it says more and counts as full. Else prove '..UptoSaid'. A law counts once. -/
mutual
def uptoBulk {H : Type} : DataW H → Nat
  | .lit (.string bytes) => bytes.length + 1
  | .lit _ => 1
  | .nil => 1
  | .ptr d => uptoBulk d + 1
  | .slice elems spare => uptoBulkAll elems + uptoBulkAll spare + 1
  | .agg parts => uptoBulkAll parts + 1
  | .iface _ d => uptoBulk d + 1
  | .map entries => uptoBulkEntries entries + 1
  | .held _ => 1
def uptoBulkAll {H : Type} : List (DataW H) → Nat
  | [] => 0
  | d :: r => uptoBulk d + uptoBulkAll r
def uptoBulkEntries {H : Type} : List (Lit × DataW H) → Nat
  | [] => 0
  | x :: r => uptoBulkEntry x + uptoBulkEntries r
def uptoBulkEntry {H : Type} : Lit × DataW H → Nat
  | (.string bytes, d) => bytes.length + uptoBulk d + 1
  | (_, d) => uptoBulk d + 1
 end
def uptoSmall : (H : Type) → List (DataW H) → Bool := fun _ ds => decide (uptoBulkAll ds ≤ 1048576)
def OpenSpec.upto (s : _root_.Go.ChangeSpec) : _root_.Go.OpenSpec := { _root_.Go.OpenSpec.ofChange s with cond := some uptoSmall }

/-- 'laws.FnExactOptimalityGap', WHERE WHAT IT READS IS OF BULK AT MOST 1048576: true; the input reads as it did. -/
def fnExactOptimalityGapUptoRow : OpenClaim := { program := "ytehimkdkflnkbaa", sum := "e4442009af7bf5ac9b2c5a55cd2e102556369ed187fedae9a75b4c9eccd357fb", func := "loop.example/g01923/laws.FnExactOptimalityGap", spec := "fnExactOptimalityGap", apart := false, narrowed := true }
def FnExactOptimalityGapUptoSaid : Prop := fnExactOptimalityGapUptoRow.holds Try.pinned (OpenSpec.upto fnExactOptimalityGapSpec)

/-- 'laws.FnExactSearchParts', WHERE WHAT IT READS IS OF BULK AT MOST 1048576: true; the input reads as it did. -/
def fnExactSearchPartsUptoRow : OpenClaim := { program := "ytehimkdkflnkbaa", sum := "e4442009af7bf5ac9b2c5a55cd2e102556369ed187fedae9a75b4c9eccd357fb", func := "loop.example/g01923/laws.FnExactSearchParts", spec := "fnExactSearchParts", unfollowed := true, recurses := true, apart := false, narrowed := true }
def FnExactSearchPartsUptoSaid : Prop := fnExactSearchPartsUptoRow.holds Try.pinned (OpenSpec.upto fnExactSearchPartsSpec)

/-- 'laws.FnExactGreedyPacking', WHERE WHAT IT READS IS OF BULK AT MOST 1048576: true; the input reads as it did. -/
def fnExactGreedyPackingUptoRow : OpenClaim := { program := "ytehimkdkflnkbaa", sum := "e4442009af7bf5ac9b2c5a55cd2e102556369ed187fedae9a75b4c9eccd357fb", func := "loop.example/g01923/laws.FnExactGreedyPacking", spec := "fnExactGreedyPacking", apart := false, narrowed := true }
def FnExactGreedyPackingUptoSaid : Prop := fnExactGreedyPackingUptoRow.holds Try.pinned (OpenSpec.upto fnExactGreedyPackingSpec)

/-- 'laws.FnExactBestPivot', WHERE WHAT IT READS IS OF BULK AT MOST 1048576: true; the input reads as it did. -/
def fnExactBestPivotUptoRow : OpenClaim := { program := "ytehimkdkflnkbaa", sum := "e4442009af7bf5ac9b2c5a55cd2e102556369ed187fedae9a75b4c9eccd357fb", func := "loop.example/g01923/laws.FnExactBestPivot", spec := "fnExactBestPivot", apart := false, narrowed := true }
def FnExactBestPivotUptoSaid : Prop := fnExactBestPivotUptoRow.holds Try.pinned (OpenSpec.upto fnExactBestPivotSpec)

/-- 'laws.FnExactDegreeOrder', WHERE WHAT IT READS IS OF BULK AT MOST 1048576: true; the input reads as it did. -/
def fnExactDegreeOrderUptoRow : OpenClaim := { program := "ytehimkdkflnkbaa", sum := "e4442009af7bf5ac9b2c5a55cd2e102556369ed187fedae9a75b4c9eccd357fb", func := "loop.example/g01923/laws.FnExactDegreeOrder", spec := "fnExactDegreeOrder", unfollowed := true, recurses := true, apart := false, narrowed := true }
def FnExactDegreeOrderUptoSaid : Prop := fnExactDegreeOrderUptoRow.holds Try.pinned (OpenSpec.upto fnExactDegreeOrderSpec)

/-- 'laws.FnExactConflictChain', WHERE WHAT IT READS IS OF BULK AT MOST 1048576: true; the input reads as it did. -/
def fnExactConflictChainUptoRow : OpenClaim := { program := "ytehimkdkflnkbaa", sum := "e4442009af7bf5ac9b2c5a55cd2e102556369ed187fedae9a75b4c9eccd357fb", func := "loop.example/g01923/laws.FnExactConflictChain", spec := "fnExactConflictChain", unfollowed := true, recurses := true, apart := false, narrowed := true }
def FnExactConflictChainUptoSaid : Prop := fnExactConflictChainUptoRow.holds Try.pinned (OpenSpec.upto fnExactConflictChainSpec)

/-- 'laws.FnExactIsLocalOptimum', WHERE WHAT IT READS IS OF BULK AT MOST 1048576: true; the input reads as it did. -/
def fnExactIsLocalOptimumUptoRow : OpenClaim := { program := "ytehimkdkflnkbaa", sum := "e4442009af7bf5ac9b2c5a55cd2e102556369ed187fedae9a75b4c9eccd357fb", func := "loop.example/g01923/laws.FnExactIsLocalOptimum", spec := "fnExactIsLocalOptimum", unfollowed := true, recurses := true, apart := false, narrowed := true }
def FnExactIsLocalOptimumUptoSaid : Prop := fnExactIsLocalOptimumUptoRow.holds Try.pinned (OpenSpec.upto fnExactIsLocalOptimumSpec)

/-- 'laws.FnExactBestMove', WHERE WHAT IT READS IS OF BULK AT MOST 1048576: true; the input reads as it did. -/
def fnExactBestMoveUptoRow : OpenClaim := { program := "ytehimkdkflnkbaa", sum := "e4442009af7bf5ac9b2c5a55cd2e102556369ed187fedae9a75b4c9eccd357fb", func := "loop.example/g01923/laws.FnExactBestMove", spec := "fnExactBestMove", unfollowed := true, recurses := true, apart := false, narrowed := true }
def FnExactBestMoveUptoSaid : Prop := fnExactBestMoveUptoRow.holds Try.pinned (OpenSpec.upto fnExactBestMoveSpec)

/-- 'laws.FnExactImprovePartition', WHERE WHAT IT READS IS OF BULK AT MOST 1048576: true; the input reads as it did. -/
def fnExactImprovePartitionUptoRow : OpenClaim := { program := "ytehimkdkflnkbaa", sum := "e4442009af7bf5ac9b2c5a55cd2e102556369ed187fedae9a75b4c9eccd357fb", func := "loop.example/g01923/laws.FnExactImprovePartition", spec := "fnExactImprovePartition", unfollowed := true, recurses := true, apart := false, narrowed := true }
def FnExactImprovePartitionUptoSaid : Prop := fnExactImprovePartitionUptoRow.holds Try.pinned (OpenSpec.upto fnExactImprovePartitionSpec)

/-- 'laws.FnExactBestCost', WHERE WHAT IT READS IS OF BULK AT MOST 1048576: true; the input reads as it did. -/
def fnExactBestCostUptoRow : OpenClaim := { program := "ytehimkdkflnkbaa", sum := "e4442009af7bf5ac9b2c5a55cd2e102556369ed187fedae9a75b4c9eccd357fb", func := "loop.example/g01923/laws.FnExactBestCost", spec := "fnExactBestCost", unfollowed := true, recurses := true, apart := false, narrowed := true }
def FnExactBestCostUptoSaid : Prop := fnExactBestCostUptoRow.holds Try.pinned (OpenSpec.upto fnExactBestCostSpec)

/-- 'laws.FnExactCountBest', WHERE WHAT IT READS IS OF BULK AT MOST 1048576: true; the input reads as it did. -/
def fnExactCountBestUptoRow : OpenClaim := { program := "ytehimkdkflnkbaa", sum := "e4442009af7bf5ac9b2c5a55cd2e102556369ed187fedae9a75b4c9eccd357fb", func := "loop.example/g01923/laws.FnExactCountBest", spec := "fnExactCountBest", unfollowed := true, recurses := true, apart := false, narrowed := true }
def FnExactCountBestUptoSaid : Prop := fnExactCountBestUptoRow.holds Try.pinned (OpenSpec.upto fnExactCountBestSpec)

/-- 'laws.FnExactBestPartition', WHERE WHAT IT READS IS OF BULK AT MOST 1048576: true; the input reads as it did. -/
def fnExactBestPartitionUptoRow : OpenClaim := { program := "ytehimkdkflnkbaa", sum := "e4442009af7bf5ac9b2c5a55cd2e102556369ed187fedae9a75b4c9eccd357fb", func := "loop.example/g01923/laws.FnExactBestPartition", spec := "fnExactBestPartition", unfollowed := true, recurses := true, apart := false, narrowed := true }
def FnExactBestPartitionUptoSaid : Prop := fnExactBestPartitionUptoRow.holds Try.pinned (OpenSpec.upto fnExactBestPartitionSpec)

end Rows
end Go.Proofs.Ytehimkdkflnkbaa
