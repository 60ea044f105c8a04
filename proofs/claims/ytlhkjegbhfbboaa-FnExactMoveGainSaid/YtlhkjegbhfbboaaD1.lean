/-
  Contracts: lists marked in place, and read back.
-/
import Derived.Test.YtlhkjegbhfbboaaC3
namespace Go.Sh
set_option linter.unusedSimpArgs false
set_option linter.unusedVariables false
open Go Go.Proofs

/-- k, k+1, .. in the first i places. -/
def markTo (L : List Int) (k : Int) (i : Nat) : List Int := (List.range i).map (fun x : Nat => k + (x : Int)) ++ L.drop i
theorem markTo_zero (L : List Int) (k : Int) : markTo L k 0 = L := by simp [markTo]
theorem markTo_length {L : List Int} {k : Int} {i : Nat} (h : i ≤ L.length) : (markTo L k i).length = L.length := by simp [markTo]; omega
theorem markTo_set {L : List Int} {k : Int} {i : Nat} (h : i < L.length) : (markTo L k i).set i (k + (i : Int)) = markTo L k (i + 1) := by
  apply List.ext_getElem?
  intro x
  simp only [markTo, List.getElem?_set, List.getElem?_append, List.length_map, List.length_range, List.getElem?_map, List.getElem?_drop, List.length_append, List.length_drop]
  by_cases h1 : i = x
  · subst h1
    have : i < i + (L.length - i) := by omega
    simp [this]
  · by_cases h2 : x < i
    · have h3 : x < i + 1 := by omega
      simp [h1, h2, h3]
    · have h3 : ¬ x < i + 1 := by omega
      simp [h1, h2, h3]
      congr 1
      omega
def marks (n : Nat) (k : Int) : List Int := (List.range n).map fun x : Nat => k + (x : Int)
theorem markTo_all (L : List Int) (k : Int) : markTo L k L.length = marks L.length k := by simp [markTo, marks]
theorem marks_length (n : Nat) (k : Int) : (marks n k).length = n := by simp [marks]

def held (L : List Int) (k : Int) : Int := if L = marks L.length k then k + L.length else -1
theorem held_marks (n : Nat) (k : Int) : held (marks n k) k = k + n := by rw [held, marks_length, if_pos rfl]
theorem Try.toIntS_one (L : List Int) (hL : L.length ≤ 1048576) : FCall Try.prog 7 [ri L] (OneRes L.length 1 (ints L)) := ((Try.toIntS_f L hL).mono fun _ _ h => h.flat).one
end Go.Sh
