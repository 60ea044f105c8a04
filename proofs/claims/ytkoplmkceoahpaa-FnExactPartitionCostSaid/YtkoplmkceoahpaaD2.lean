/-
  Contracts: labels by first occurrence. Of the program.
-/
import Derived.Test.YtkoplmkceoahpaaD1
namespace Go.Sh
set_option linter.unusedSimpArgs false
set_option linter.unusedVariables false
open Go Go.Proofs

def cstep (s : List Int × List Int) (x : Int) : List Int × List Int :=
  if x ∈ s.1 then (s.1, s.2 ++ [idx x s.1]) else (s.1 ++ [x], s.2 ++ [(s.1.length : Int)])
def cst (L : List Int) : List Int × List Int := L.foldl cstep ([], [])
def canon (L : List Int) : List Int := (cst L).2
theorem cst_zero : cst [] = ([], []) := rfl
theorem cst_succ {L : List Int} {k : Nat} (h : k < L.length) : cst (L.take (k + 1)) = cstep (cst (L.take k)) (L.getD k 0) := by
  rw [List.take_succ_eq_append_getElem h]
  simp only [cst, List.foldl_append, List.foldl_cons, List.foldl_nil]
  congr 1
  simp [h]
theorem cst_len : ∀ (L : List Int) (s : List Int × List Int), (L.foldl cstep s).2.length = s.2.length + L.length ∧ (L.foldl cstep s).1.length ≤ s.1.length + L.length
  | [], s => by simp
  | x :: L, s => by
    have ih := cst_len L (cstep s x)
    have h2 : (cstep s x).2.length = s.2.length + 1 := by unfold cstep; split <;> simp
    have h1 : (cstep s x).1.length ≤ s.1.length + 1 := by unfold cstep; split <;> simp
    simp only [List.foldl_cons, List.length_cons]
    omega
theorem cst_len2 (L : List Int) : (cst L).2.length = L.length := by have := (cst_len L ([], [])).1; simpa [cst] using this
theorem cst_len1 (L : List Int) : (cst L).1.length ≤ L.length := by have := (cst_len L ([], [])).2; simpa [cst] using this
theorem canon_length (L : List Int) : (canon L).length = L.length := cst_len2 L
theorem idx_lt {x : Int} {L : List Int} : idx x L < L.length ∨ L = [] := by
  unfold idx
  split
  · rename_i h
    have := List.idxOf_lt_length_of_mem h
    left; omega
  · cases L with
    | nil => right; rfl
    | cons a l => left; simp; omega
theorem idx_neg {x : Int} {L : List Int} (h : ¬ x ∈ L) : idx x L = -1 := by rw [idx, if_neg h]
theorem idx_nonneg {x : Int} {L : List Int} (h : x ∈ L) : 0 ≤ idx x L := (idx_ge x L).mpr h

def canF (L : List Int) : Nat × Nat × Nat × Nat → St
  | (0, _, _, nb) => ⟨ofL [(0, ri L), (3, .val (.slice none 0 0)), (4, .val (.slice none 0 0)), (8, ri L), (9, .val (.int .i64 L.length)), (10, .val (.int .i64 0))], hp [] nb⟩
  | (k + 1, b1, b2, nb) => ⟨ofL [(0, ri L), (3, .own b1 0 (cst (L.take (k + 1))).1.length (cst (L.take (k + 1))).1.length 1 false), (4, .own b2 0 (cst (L.take (k + 1))).2.length (cst (L.take (k + 1))).2.length 1 false), (8, ri L), (9, .val (.int .i64 L.length)), (10, .val (.int .i64 ((k + 1 : Nat) : Int)))],
      hp [(b1, ⟨ints (cst (L.take (k + 1))).1, false⟩), (b2, ⟨ints (cst (L.take (k + 1))).2, false⟩)] nb⟩

theorem flat_view {L : List Int} {n : Nat} {r : SV} {H : Heap} (h : FlatRes n 1 (ints L) r H) : view H 2 r = some (ri L) := by
  obtain ⟨b, off, cap, ex, blk, rfl, h1, h2, h3, h4⟩ := h
  have hn : L.length = n := by
    have := congrArg List.length h2
    simp [ints] at this
    omega
  rw [Nat.mul_one] at h2 h3
  simp only [view, h1, Nat.mul_one, h3, if_true, h2, viewL_ints, ri, hn]
end Go.Sh
