/-
  No cell of these rows narrows 'for every input' (looked for: loops, veiled, ifaces, maps, wideKeys, modest, calm, conditions, laid).
  DERIVED. THE GIVEN ROWS OF THIS SEAT. 5 by the template 'for every input the law returns true; each argument reads behind the call as it read before'; 0 by the template 'total and deterministic' (their statements: YtgkicmckimgjjaaTotals.lean).
  GIVEN WITH THE SEED: the statements are not yours to turn. If you find one false, say at which input.
  Laid BY PROGRAM, IN A SANDBOX (cutbox-rows.mjs): the forced cells as the released guide's own fill.sh prints them over the translation ce85aa0a18c4baac… (all of the seat's roots in one cut). By AI agents, Wed Nov 11 2026. No macro, syntax, notation, axiom, sorry.
-/
import Derived.Test.YtgkicmckimgjjaaChecked
import GoSem.Claim
import GoSem.ClaimJoined
import GoSem.ClaimMapViews
import Derived.JoinedTies
import Derived.KernelRfl
namespace Go.Proofs.Ytgkicmckimgjjaa
/- THE CELL 'sum', in the pinned program and in every row, IS THE sha256 OF THE DUMP (.gsa) THAT YtgkicmckimgjjaaProg.lean LOADS. Nothing in Lean hashes anything: it is a label: what it is worth is what the hold of that sum in a sandbox is worth. -/
noncomputable def Try.pinned : Pinned := { name := "ytgkicmckimgjjaa", sum := "ce85aa0a18c4baacd245c9482fe2d591b385e11a30aef48c3f1f2d9467aea2fd", checked := Try.checked }
namespace Rows
def none {H : Type} : Left H := { results := [], args := [] }

/-- 'laws.FnPacking': WHATEVER THE INPUT: true; the input reads as it did. -/
def fnPackingSpec : ChangeSpec := { name := "fnPacking", fn := fun _ => fun
  | [d] => { results := [.lit (.bool true)], args := [d] }
  | _ => none }
def fnPackingRow : OpenClaim := { program := "ytgkicmckimgjjaa", sum := "ce85aa0a18c4baacd245c9482fe2d591b385e11a30aef48c3f1f2d9467aea2fd", func := "loop.example/g01923/laws.FnPacking", spec := "fnPacking", recurses := true, apart := false }
def FnPackingSaid : Prop := fnPackingRow.holds Try.pinned (OpenSpec.ofChange fnPackingSpec)

/-- ITS FALSE NEIGHBOUR: 'it returns false'. Refute it at one input. -/
def fnPackingWrong : ChangeSpec := { name := "fnPacking", fn := fun _ => fun
  | [d] => { results := [.lit (.bool false)], args := [d] }
  | _ => none }
def FnPackingWrongFalsely : Prop := fnPackingRow.holds Try.pinned (OpenSpec.ofChange fnPackingWrong)

/-- 'laws.FnExactDegreeOrder': WHATEVER THE INPUT: true; the input reads as it did. -/
def fnExactDegreeOrderSpec : ChangeSpec := { name := "fnExactDegreeOrder", fn := fun _ => fun
  | [d] => { results := [.lit (.bool true)], args := [d] }
  | _ => none }
def fnExactDegreeOrderRow : OpenClaim := { program := "ytgkicmckimgjjaa", sum := "ce85aa0a18c4baacd245c9482fe2d591b385e11a30aef48c3f1f2d9467aea2fd", func := "loop.example/g01923/laws.FnExactDegreeOrder", spec := "fnExactDegreeOrder", unfollowed := true, recurses := true, apart := false }
def FnExactDegreeOrderSaid : Prop := fnExactDegreeOrderRow.holds Try.pinned (OpenSpec.ofChange fnExactDegreeOrderSpec)

/-- ITS FALSE NEIGHBOUR: 'it returns false'. Refute it at one input. -/
def fnExactDegreeOrderWrong : ChangeSpec := { name := "fnExactDegreeOrder", fn := fun _ => fun
  | [d] => { results := [.lit (.bool false)], args := [d] }
  | _ => none }
def FnExactDegreeOrderWrongFalsely : Prop := fnExactDegreeOrderRow.holds Try.pinned (OpenSpec.ofChange fnExactDegreeOrderWrong)

/-- 'laws.FnExactPairWeight': WHATEVER THE INPUT: true; the input reads as it did. -/
def fnExactPairWeightSpec : ChangeSpec := { name := "fnExactPairWeight", fn := fun _ => fun
  | [d1, d2, d3] => { results := [.lit (.bool true)], args := [d1, d2, d3] }
  | _ => none }
def fnExactPairWeightRow : OpenClaim := { program := "ytgkicmckimgjjaa", sum := "ce85aa0a18c4baacd245c9482fe2d591b385e11a30aef48c3f1f2d9467aea2fd", func := "loop.example/g01923/laws.FnExactPairWeight", spec := "fnExactPairWeight", unfollowed := true, recurses := true, apart := false }
def FnExactPairWeightSaid : Prop := fnExactPairWeightRow.holds Try.pinned (OpenSpec.ofChange fnExactPairWeightSpec)

/-- ITS FALSE NEIGHBOUR: 'it returns false'. Refute it at one input. -/
def fnExactPairWeightWrong : ChangeSpec := { name := "fnExactPairWeight", fn := fun _ => fun
  | [d1, d2, d3] => { results := [.lit (.bool false)], args := [d1, d2, d3] }
  | _ => none }
def FnExactPairWeightWrongFalsely : Prop := fnExactPairWeightRow.holds Try.pinned (OpenSpec.ofChange fnExactPairWeightWrong)

/-- 'laws.FnPivots': WHATEVER THE INPUT: true; the input reads as it did. -/
def fnPivotsSpec : ChangeSpec := { name := "fnPivots", fn := fun _ => fun
  | [d] => { results := [.lit (.bool true)], args := [d] }
  | _ => none }
def fnPivotsRow : OpenClaim := { program := "ytgkicmckimgjjaa", sum := "ce85aa0a18c4baacd245c9482fe2d591b385e11a30aef48c3f1f2d9467aea2fd", func := "loop.example/g01923/laws.FnPivots", spec := "fnPivots", unfollowed := true, recurses := true, apart := false }
def FnPivotsSaid : Prop := fnPivotsRow.holds Try.pinned (OpenSpec.ofChange fnPivotsSpec)

/-- ITS FALSE NEIGHBOUR: 'it returns false'. Refute it at one input. -/
def fnPivotsWrong : ChangeSpec := { name := "fnPivots", fn := fun _ => fun
  | [d] => { results := [.lit (.bool false)], args := [d] }
  | _ => none }
def FnPivotsWrongFalsely : Prop := fnPivotsRow.holds Try.pinned (OpenSpec.ofChange fnPivotsWrong)

/-- 'laws.FnExactCheckClustering': WHATEVER THE INPUT: true; the input reads as it did. -/
def fnExactCheckClusteringSpec : ChangeSpec := { name := "fnExactCheckClustering", fn := fun _ => fun
  | [d1, d2, d3] => { results := [.lit (.bool true)], args := [d1, d2, d3] }
  | _ => none }
def fnExactCheckClusteringRow : OpenClaim := { program := "ytgkicmckimgjjaa", sum := "ce85aa0a18c4baacd245c9482fe2d591b385e11a30aef48c3f1f2d9467aea2fd", func := "loop.example/g01923/laws.FnExactCheckClustering", spec := "fnExactCheckClustering", unfollowed := true, recurses := true, apart := false }
def FnExactCheckClusteringSaid : Prop := fnExactCheckClusteringRow.holds Try.pinned (OpenSpec.ofChange fnExactCheckClusteringSpec)

/-- ITS FALSE NEIGHBOUR: 'it returns false'. Refute it at one input. -/
def fnExactCheckClusteringWrong : ChangeSpec := { name := "fnExactCheckClustering", fn := fun _ => fun
  | [d1, d2, d3] => { results := [.lit (.bool false)], args := [d1, d2, d3] }
  | _ => none }
def FnExactCheckClusteringWrongFalsely : Prop := fnExactCheckClusteringRow.holds Try.pinned (OpenSpec.ofChange fnExactCheckClusteringWrong)

/- THE SECOND FORM. 'bulk': how many values and letters a reading holds, each counted each time it is reached (what is shared counts as often as it is met; a slice's spare places count too). A statement '..UptoSaid' is the law's where the arguments, and the package variables that the reading takes, are together of bulk at most 1048576: NARROWER than '..Said'. Prove '..Said' where nothing that the law and all that it calls make is longer than what came in: it says more and counts as full. Else prove '..UptoSaid'. A law counts once. -/
mutual
def uptoBulk {H : Type} : DataW H → Nat
  | .lit (.string bytes) => bytes.length + 1
  | .lit _ => 1
  | .nil => 1
  | .ptr d => uptoBulk d + 1
  | .slice elems spare => uptoBulkAll elems + uptoBulkAll spare + 1
  | .agg parts => uptoBulkAll parts + 1
  | .iface _ d => uptoBulk d + 1
  | .map entries => uptoBulkEntries entries + 1
  | .held _ => 1
def uptoBulkAll {H : Type} : List (DataW H) → Nat
  | [] => 0
  | d :: r => uptoBulk d + uptoBulkAll r
def uptoBulkEntries {H : Type} : List (Lit × DataW H) → Nat
  | [] => 0
  | x :: r => uptoBulkEntry x + uptoBulkEntries r
def uptoBulkEntry {H : Type} : Lit × DataW H → Nat
  | (.string bytes, d) => bytes.length + uptoBulk d + 1
  | (_, d) => uptoBulk d + 1
 end
def uptoSmall : (H : Type) → List (DataW H) → Bool := fun _ ds => decide (uptoBulkAll ds ≤ 1048576)
def OpenSpec.upto (s : _root_.Go.ChangeSpec) : _root_.Go.OpenSpec := { _root_.Go.OpenSpec.ofChange s with cond := some uptoSmall }

/-- 'laws.FnPacking', WHERE WHAT IT READS IS OF BULK AT MOST 1048576: true; the input reads as it did. -/
def fnPackingUptoRow : OpenClaim := { program := "ytgkicmckimgjjaa", sum := "ce85aa0a18c4baacd245c9482fe2d591b385e11a30aef48c3f1f2d9467aea2fd", func := "loop.example/g01923/laws.FnPacking", spec := "fnPacking", recurses := true, apart := false, narrowed := true }
def FnPackingUptoSaid : Prop := fnPackingUptoRow.holds Try.pinned (OpenSpec.upto fnPackingSpec)

/-- 'laws.FnExactDegreeOrder', WHERE WHAT IT READS IS OF BULK AT MOST 1048576: true; the input reads as it did. -/
def fnExactDegreeOrderUptoRow : OpenClaim := { program := "ytgkicmckimgjjaa", sum := "ce85aa0a18c4baacd245c9482fe2d591b385e11a30aef48c3f1f2d9467aea2fd", func := "loop.example/g01923/laws.FnExactDegreeOrder", spec := "fnExactDegreeOrder", unfollowed := true, recurses := true, apart := false, narrowed := true }
def FnExactDegreeOrderUptoSaid : Prop := fnExactDegreeOrderUptoRow.holds Try.pinned (OpenSpec.upto fnExactDegreeOrderSpec)

/-- 'laws.FnExactPairWeight', WHERE WHAT IT READS IS OF BULK AT MOST 1048576: true; the input reads as it did. -/
def fnExactPairWeightUptoRow : OpenClaim := { program := "ytgkicmckimgjjaa", sum := "ce85aa0a18c4baacd245c9482fe2d591b385e11a30aef48c3f1f2d9467aea2fd", func := "loop.example/g01923/laws.FnExactPairWeight", spec := "fnExactPairWeight", unfollowed := true, recurses := true, apart := false, narrowed := true }
def FnExactPairWeightUptoSaid : Prop := fnExactPairWeightUptoRow.holds Try.pinned (OpenSpec.upto fnExactPairWeightSpec)

/-- 'laws.FnPivots', WHERE WHAT IT READS IS OF BULK AT MOST 1048576: true; the input reads as it did. -/
def fnPivotsUptoRow : OpenClaim := { program := "ytgkicmckimgjjaa", sum := "ce85aa0a18c4baacd245c9482fe2d591b385e11a30aef48c3f1f2d9467aea2fd", func := "loop.example/g01923/laws.FnPivots", spec := "fnPivots", unfollowed := true, recurses := true, apart := false, narrowed := true }
def FnPivotsUptoSaid : Prop := fnPivotsUptoRow.holds Try.pinned (OpenSpec.upto fnPivotsSpec)

/-- 'laws.FnExactCheckClustering', WHERE WHAT IT READS IS OF BULK AT MOST 1048576: true; the input reads as it did. -/
def fnExactCheckClusteringUptoRow : OpenClaim := { program := "ytgkicmckimgjjaa", sum := "ce85aa0a18c4baacd245c9482fe2d591b385e11a30aef48c3f1f2d9467aea2fd", func := "loop.example/g01923/laws.FnExactCheckClustering", spec := "fnExactCheckClustering", unfollowed := true, recurses := true, apart := false, narrowed := true }
def FnExactCheckClusteringUptoSaid : Prop := fnExactCheckClusteringUptoRow.holds Try.pinned (OpenSpec.upto fnExactCheckClusteringSpec)

end Rows
end Go.Proofs.Ytgkicmckimgjjaa
