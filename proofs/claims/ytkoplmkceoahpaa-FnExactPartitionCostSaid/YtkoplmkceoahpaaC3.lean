/-
  Contracts: orders of the items.
-/
import Derived.Test.YtkoplmkceoahpaaC2
namespace Go.Sh
set_option linter.unusedSimpArgs false
set_option linter.unusedVariables false
open Go Go.Proofs

def idx (x : Int) (L : List Int) : Int := if x ∈ L then (L.idxOf x : Int) else -1
theorem idx_none {x : Int} {L : List Int} (h : ∀ i, i < L.length → L.getD i 0 ≠ x) : idx x L = -1 := by
  rw [idx, if_neg]
  intro hm
  obtain ⟨i, hi, e⟩ := List.getElem_of_mem hm
  exact h i hi (by simp [hi, e])
theorem idx_some {x : Int} {L : List Int} {k : Nat} (hk : k < L.length) (h : ∀ i, i < k → L.getD i 0 ≠ x) (e : L.getD k 0 = x) : idx x L = k := by
  have hm : x ∈ L := by rw [← e]; simp [hk]
  rw [idx, if_pos hm]
  congr 1
  have h1 : L.idxOf x < L.length := List.idxOf_lt_length_of_mem hm
  have h2 : L[L.idxOf x] = x := List.getElem_idxOf h1
  rcases Nat.lt_trichotomy (L.idxOf x) k with hl | hl | hl
  · exact absurd (by simp [h1]) (h _ hl)
  · exact hl
  · exfalso
    have := List.not_of_lt_findIdx (p := (· == x)) (xs := L) (i := k) (by simpa [List.idxOf] using hl)
    simp [hk] at e
    simp [e] at this
theorem idx_ge (x : Int) (L : List Int) : (0 ≤ idx x L) ↔ x ∈ L := by
  rw [idx]; split <;> simp_all

def okO (n : Int) : List Int → List Int → Bool
  | _, [] => true
  | s, x :: l => inR x 0 (n - 1) && (!s.contains x && okO n (s ++ [x]) l)
def isOrd (n : Int) (L : List Int) : Bool := inR n 1 8 && (decide ((L.length : Int) = n) && okO n [] L)
theorem okO_step {n : Int} {L : List Int} {k : Nat} (h : k < L.length) : okO n (L.take k) (L.drop k) = (inR (L.getD k 0) 0 (n - 1) && (!(L.take k).contains (L.getD k 0) && okO n (L.take (k + 1)) (L.drop (k + 1)))) := by
  rw [drop_cons h, okO, List.take_succ_eq_append_getElem h]; simp [h]

end Go.Sh
