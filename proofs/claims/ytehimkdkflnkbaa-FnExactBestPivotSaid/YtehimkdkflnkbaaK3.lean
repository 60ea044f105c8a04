/-
  What comes in as a matrix: its measures.
-/
import Derived.Test.YtehimkdkflnkbaaK1
namespace Go.Sh
set_option linter.unusedSimpArgs false
set_option linter.unusedVariables false
open Go Go.Proofs

theorem mrow_le {M : List (List Int)} {i : Nat} (h : i < M.length) : ((mrow M i).length : Int) ≤ msum M M.length := by
  have h1 := msum_succ h
  have h2 := msum_nonneg M i
  have h3 := msum_mono (M := M) (k := i + 1) (j := M.length) (by omega) (Nat.le_refl _)
  omega
theorem mrow_max {M : List (List Int)} (hw : (∀ l ∈ M, (∀ n ∈ l, i64R n) ∧ l.length ≤ maxLen) ∧ M.length ≤ maxLen) : M.length ≤ 9223372036854775807 ∧ ∀ i, i < M.length → (mrow M i).length ≤ 9223372036854775807 := by
  refine ⟨hw.2, fun i hi => ?_⟩
  have := (hw.1 M[i] (List.getElem_mem hi)).2
  have e : mrow M i = M[i] := by simp [mrow, hi]
  rw [e]
  exact this
end Go.Sh
