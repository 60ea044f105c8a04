/-
  Labels by first occurrence are a partition.
-/
import Derived.Test.YtehimkdkflnkbaaJ2
namespace Go.Sh
set_option linter.unusedSimpArgs false
set_option linter.unusedVariables false
open Go Go.Proofs

def nxt : Int → List Int → Int
  | nx, [] => nx
  | nx, x :: l => nxt (max nx (x + 1)) l
theorem okP_append : ∀ (A : List Int) (nx x : Int), okP nx (A ++ [x]) = (okP nx A && inR x 0 (nxt nx A))
  | [], nx, x => by simp [okP, nxt]
  | a :: A, nx, x => by
    rw [List.cons_append, okP, okP_append A, okP, nxt, Bool.and_assoc]
theorem nxt_append : ∀ (A : List Int) (nx x : Int), nxt nx (A ++ [x]) = max (nxt nx A) (x + 1)
  | [], nx, x => by simp [nxt]
  | a :: A, nx, x => by rw [List.cons_append, nxt, nxt_append A, nxt]
theorem cst_ok (X : List Int) : ∀ k, k ≤ X.length → okP 0 (cst (X.take k)).2 = true ∧ nxt 0 (cst (X.take k)).2 = (cst (X.take k)).1.length
  | 0, _ => by simp [cst_zero, okP, nxt]
  | k + 1, hk => by
    obtain ⟨h1, h2⟩ := cst_ok X k (by omega)
    rw [cst_succ (L := X) (by omega)]
    generalize cst (X.take k) = st at *
    obtain ⟨S, O⟩ := st
    simp only at h1 h2 ⊢
    unfold cstep
    simp only
    by_cases hx : X.getD k 0 ∈ S
    · rw [if_pos hx]
      have i1 := idx_nonneg hx
      have i2 : idx (X.getD k 0) S < S.length := by
        rcases idx_lt (x := X.getD k 0) (L := S) with h | h
        · exact h
        · rw [h] at hx; simp at hx
      refine ⟨?_, ?_⟩
      · show okP 0 (O ++ [idx (X.getD k 0) S]) = true
        rw [okP_append, h1, h2, inR_tt i1 (by omega)]; rfl
      · show nxt 0 (O ++ [idx (X.getD k 0) S]) = (S.length : Int)
        rw [nxt_append, h2]; omega
    · rw [if_neg hx]
      refine ⟨?_, ?_⟩
      · show okP 0 (O ++ [(S.length : Int)]) = true
        rw [okP_append, h1, h2, inR_tt (by omega) (by omega)]; rfl
      · show nxt 0 (O ++ [(S.length : Int)]) = ((S ++ [X.getD k 0]).length : Int)
        rw [nxt_append, h2, List.length_append]
        simp only [List.length_cons, List.length_nil]
        omega
theorem canon_isPart {X : List Int} (h1 : 1 ≤ X.length) (h2 : X.length ≤ 8) : isPart (canon X) = true := by
  have := (cst_ok X X.length (Nat.le_refl _)).1
  rw [List.take_length] at this
  rw [isPart, canon_length, inR_tt (by omega) (by omega)]
  show (okP 0 (cst X).2 && true) = true
  rw [this]; rfl
end Go.Sh
