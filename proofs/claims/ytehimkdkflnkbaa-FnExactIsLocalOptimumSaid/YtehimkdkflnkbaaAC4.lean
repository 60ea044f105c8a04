/-
  Is a partition a local optimum? Of the reference and of the program.
-/
import Derived.Test.YtehimkdkflnkbaaAC3
namespace Go.Sh
set_option linter.unusedSimpArgs false
set_option linter.unusedVariables false
open Go Go.Proofs

open Classical in
noncomputable def lopt (M : List (List Int)) (C : List Con) (L : List Int) : Bool := if canM M C L then !decide (0 < (bmv M C L).2.2) else false
theorem lopt_t {M : List (List Int)} {C : List Con} {L : List Int} (h : canM M C L) : lopt M C L = !decide (0 < (bmv M C L).2.2) := by rw [lopt, if_pos h]
theorem lopt_f {M : List (List Int)} {C : List Con} {L : List Int} (h : ¬ canM M C L) : lopt M C L = false := by rw [lopt, if_neg h]

set_option maxHeartbeats 2000000 in
theorem Try.implLO_ok (M : List (List Int)) (C : List Con) (L : List Int) (hM : M.length ≤ 1048576) (hR : ∀ i, i < M.length → (mrow M i).length ≤ 1048576) (hC : C.length ≤ 1048576) (hL : L.length ≤ 1048576) :
    PCall Try.prog 45 [rr M, rc C, ri L] (.val (.bool (lopt M C L))) := by
  refine FCall.pcall (R := fun r _ => r = .val (.bool (lopt M C L))) ?_ 0 (by rintro r H rfl; exact view_bool)
  have w1 := Try.implBM_ok M C L hM hR hC hL
  refine FCall.of_body Try.func45 rfl (by kernel_rfl) (by simp [Try.ntmps45]) ?_
  refine SW_of_vc Try.mixed _ _ _ (by kernel_rfl) ?_
  by_cases hcan : canM M C L
  · have w2 := Try.canMove_t M C L hM hR hC hL hcan
    rw [lopt_t hcan]
    generalize bmv M C L = t at *
    rcases Bool.eq_false_or_eq_true (decide (0 < t.2.2)) with hd | hd
    · rw [mvR, hd] at w1
      rw [hd]
      simp (disch := omega) only [Try.ntmps45, Try.results45, go_sem, Nat.reduceLT, Nat.reduceLeDiff, Nat.reduceEqDiff, Nat.reduceAdd, Nat.reduceSub, Nat.reduceMul, reduceIte, ↓reduceIte, reduceCtorEq, Int.reduceToNat, Int.reduceLE, Int.reduceLT, Int.reduceNeg, Int.reduceSub, Int.reduceAdd, Int.reduceMul, rr_eq, rc]
      refine w1.callV 2 (viewL_cons_of view_row (viewL_cons_of view_row (viewL_cons_of view_row viewL_nil_of))) ?_
      simp (disch := omega) only [Try.ntmps45, Try.results45, go_sem, Nat.reduceLT, Nat.reduceLeDiff, Nat.reduceEqDiff, Nat.reduceAdd, Nat.reduceSub, Nat.reduceMul, reduceIte, ↓reduceIte, reduceCtorEq, Int.reduceToNat, Int.reduceLE, Int.reduceLT, Int.reduceNeg, Int.reduceSub, Int.reduceAdd, Int.reduceMul, rr_eq, rc, mvS]
      refine w2.callV 2 (viewL_cons_of view_row (viewL_cons_of view_row (viewL_cons_of view_row viewL_nil_of))) ?_
      simp (disch := omega) only [Try.ntmps45, Try.results45, go_sem, Nat.reduceLT, Nat.reduceLeDiff, Nat.reduceEqDiff, Nat.reduceAdd, Nat.reduceSub, Nat.reduceMul, reduceIte, ↓reduceIte, reduceCtorEq, Int.reduceToNat, Int.reduceLE, Int.reduceLT, Int.reduceNeg, Int.reduceSub, Int.reduceAdd, Int.reduceMul, rr_eq, rc, mvS]
      exact Fin.val rfl
    · rw [mvR, hd] at w1
      rw [hd]
      simp (disch := omega) only [Try.ntmps45, Try.results45, go_sem, Nat.reduceLT, Nat.reduceLeDiff, Nat.reduceEqDiff, Nat.reduceAdd, Nat.reduceSub, Nat.reduceMul, reduceIte, ↓reduceIte, reduceCtorEq, Int.reduceToNat, Int.reduceLE, Int.reduceLT, Int.reduceNeg, Int.reduceSub, Int.reduceAdd, Int.reduceMul, rr_eq, rc]
      refine w1.callV 2 (viewL_cons_of view_row (viewL_cons_of view_row (viewL_cons_of view_row viewL_nil_of))) ?_
      simp (disch := omega) only [Try.ntmps45, Try.results45, go_sem, Nat.reduceLT, Nat.reduceLeDiff, Nat.reduceEqDiff, Nat.reduceAdd, Nat.reduceSub, Nat.reduceMul, reduceIte, ↓reduceIte, reduceCtorEq, Int.reduceToNat, Int.reduceLE, Int.reduceLT, Int.reduceNeg, Int.reduceSub, Int.reduceAdd, Int.reduceMul, rr_eq, rc, mvS]
      refine w2.callV 2 (viewL_cons_of view_row (viewL_cons_of view_row (viewL_cons_of view_row viewL_nil_of))) ?_
      simp (disch := omega) only [Try.ntmps45, Try.results45, go_sem, Nat.reduceLT, Nat.reduceLeDiff, Nat.reduceEqDiff, Nat.reduceAdd, Nat.reduceSub, Nat.reduceMul, reduceIte, ↓reduceIte, reduceCtorEq, Int.reduceToNat, Int.reduceLE, Int.reduceLT, Int.reduceNeg, Int.reduceSub, Int.reduceAdd, Int.reduceMul, rr_eq, rc, mvS]
      exact Fin.val rfl
  · have w2 := Try.canMove_f M C L hM hR hC hL hcan
    rw [lopt_f hcan]
    generalize bmv M C L = t at *
    simp (disch := omega) only [Try.ntmps45, Try.results45, go_sem, Nat.reduceLT, Nat.reduceLeDiff, Nat.reduceEqDiff, Nat.reduceAdd, Nat.reduceSub, Nat.reduceMul, reduceIte, ↓reduceIte, reduceCtorEq, Int.reduceToNat, Int.reduceLE, Int.reduceLT, Int.reduceNeg, Int.reduceSub, Int.reduceAdd, Int.reduceMul, rr_eq, rc]
    refine w1.callV 2 (viewL_cons_of view_row (viewL_cons_of view_row (viewL_cons_of view_row viewL_nil_of))) ?_
    simp (disch := omega) only [Try.ntmps45, Try.results45, go_sem, Nat.reduceLT, Nat.reduceLeDiff, Nat.reduceEqDiff, Nat.reduceAdd, Nat.reduceSub, Nat.reduceMul, reduceIte, ↓reduceIte, reduceCtorEq, Int.reduceToNat, Int.reduceLE, Int.reduceLT, Int.reduceNeg, Int.reduceSub, Int.reduceAdd, Int.reduceMul, rr_eq, rc, mvS]
    refine w2.callV 2 (viewL_cons_of view_row (viewL_cons_of view_row (viewL_cons_of view_row viewL_nil_of))) ?_
    simp (disch := omega) only [Try.ntmps45, Try.results45, go_sem, Nat.reduceLT, Nat.reduceLeDiff, Nat.reduceEqDiff, Nat.reduceAdd, Nat.reduceSub, Nat.reduceMul, reduceIte, ↓reduceIte, reduceCtorEq, Int.reduceToNat, Int.reduceLE, Int.reduceLT, Int.reduceNeg, Int.reduceSub, Int.reduceAdd, Int.reduceMul, rr_eq, rc, mvS]
    exact Fin.val rfl

set_option maxHeartbeats 2000000 in
theorem Try.specLO_ok (M : List (List Int)) (C : List Con) (L : List Int) (hM : M.length ≤ 1048576) (hR : ∀ i, i < M.length → (mrow M i).length ≤ 1048576) (hC : C.length ≤ 1048576) (hL : L.length ≤ 1048576) :
    PCall Try.prog 44 [rr M, rc C, ri L] (.val (.bool (lopt M C L))) := by
  refine FCall.pcall (R := fun r _ => r = .val (.bool (lopt M C L))) ?_ 0 (by rintro r H rfl; exact view_bool)
  have w1 := Try.specBM_ok M C L hM hR hC hL
  have w2 := Try.specPartitionCost_ok M L hM hR hL
  have w3 := Try.specKeepsConstraints_ok L C hL hC
  refine FCall.of_body Try.func44 rfl (by kernel_rfl) (by simp [Try.ntmps44]) ?_
  refine SW_of_vc Try.mixed _ _ _ (by kernel_rfl) ?_
  by_cases hcan : canM M C L
  · rw [lopt_t hcan]
    obtain ⟨hw, hpt, hl, hpc⟩ := canM_r hcan
    have hp0 := hcan.1
    rw [hpt, hcan.2] at w3
    generalize bmv M C L = t at *
    rcases Bool.eq_false_or_eq_true (decide (0 < t.2.2)) with hd | hd
    · rw [mvR, hd] at w1
      rw [hd]
      simp (disch := omega) only [Try.ntmps44, Try.results44, go_sem, Nat.reduceLT, Nat.reduceLeDiff, Nat.reduceEqDiff, Nat.reduceAdd, Nat.reduceSub, Nat.reduceMul, reduceIte, ↓reduceIte, reduceCtorEq, Int.reduceToNat, Int.reduceLE, Int.reduceLT, Int.reduceNeg, Int.reduceSub, Int.reduceAdd, Int.reduceMul, rr_eq, rc]
      refine w1.callV 2 (viewL_cons_of view_row (viewL_cons_of view_row (viewL_cons_of view_row viewL_nil_of))) ?_
      simp (disch := omega) only [Try.ntmps44, Try.results44, go_sem, Nat.reduceLT, Nat.reduceLeDiff, Nat.reduceEqDiff, Nat.reduceAdd, Nat.reduceSub, Nat.reduceMul, reduceIte, ↓reduceIte, reduceCtorEq, Int.reduceToNat, Int.reduceLE, Int.reduceLT, Int.reduceNeg, Int.reduceSub, Int.reduceAdd, Int.reduceMul, rr_eq, rc, mvS]
      refine w2.callV 0 (viewL_cons_of (view_row) (viewL_cons_of (view_rowL (by first | rfl | simp [marks_length, canon_length] | omega)) viewL_nil_of)) ?_
      simp (disch := omega) only [Try.ntmps44, Try.results44, go_sem, Nat.reduceLT, Nat.reduceLeDiff, Nat.reduceEqDiff, Nat.reduceAdd, Nat.reduceSub, Nat.reduceMul, reduceIte, ↓reduceIte, reduceCtorEq, Int.reduceToNat, Int.reduceLE, Int.reduceLT, Int.reduceNeg, Int.reduceSub, Int.reduceAdd, Int.reduceMul, rr_eq, rc, mvS]
      refine w3.callV 2 (viewL_cons_of view_row (viewL_cons_of view_row viewL_nil_of)) ?_
      simp (disch := omega) only [Try.ntmps44, Try.results44, go_sem, Nat.reduceLT, Nat.reduceLeDiff, Nat.reduceEqDiff, Nat.reduceAdd, Nat.reduceSub, Nat.reduceMul, reduceIte, ↓reduceIte, reduceCtorEq, Int.reduceToNat, Int.reduceLE, Int.reduceLT, Int.reduceNeg, Int.reduceSub, Int.reduceAdd, Int.reduceMul, rr_eq, rc, mvS]
      exact Fin.val rfl
    · rw [mvR, hd] at w1
      rw [hd]
      simp (disch := omega) only [Try.ntmps44, Try.results44, go_sem, Nat.reduceLT, Nat.reduceLeDiff, Nat.reduceEqDiff, Nat.reduceAdd, Nat.reduceSub, Nat.reduceMul, reduceIte, ↓reduceIte, reduceCtorEq, Int.reduceToNat, Int.reduceLE, Int.reduceLT, Int.reduceNeg, Int.reduceSub, Int.reduceAdd, Int.reduceMul, rr_eq, rc]
      refine w1.callV 2 (viewL_cons_of view_row (viewL_cons_of view_row (viewL_cons_of view_row viewL_nil_of))) ?_
      simp (disch := omega) only [Try.ntmps44, Try.results44, go_sem, Nat.reduceLT, Nat.reduceLeDiff, Nat.reduceEqDiff, Nat.reduceAdd, Nat.reduceSub, Nat.reduceMul, reduceIte, ↓reduceIte, reduceCtorEq, Int.reduceToNat, Int.reduceLE, Int.reduceLT, Int.reduceNeg, Int.reduceSub, Int.reduceAdd, Int.reduceMul, rr_eq, rc, mvS]
      refine w2.callV 0 (viewL_cons_of (view_row) (viewL_cons_of (view_rowL (by first | rfl | simp [marks_length, canon_length] | omega)) viewL_nil_of)) ?_
      simp (disch := omega) only [Try.ntmps44, Try.results44, go_sem, Nat.reduceLT, Nat.reduceLeDiff, Nat.reduceEqDiff, Nat.reduceAdd, Nat.reduceSub, Nat.reduceMul, reduceIte, ↓reduceIte, reduceCtorEq, Int.reduceToNat, Int.reduceLE, Int.reduceLT, Int.reduceNeg, Int.reduceSub, Int.reduceAdd, Int.reduceMul, rr_eq, rc, mvS]
      refine w3.callV 2 (viewL_cons_of view_row (viewL_cons_of view_row viewL_nil_of)) ?_
      simp (disch := omega) only [Try.ntmps44, Try.results44, go_sem, Nat.reduceLT, Nat.reduceLeDiff, Nat.reduceEqDiff, Nat.reduceAdd, Nat.reduceSub, Nat.reduceMul, reduceIte, ↓reduceIte, reduceCtorEq, Int.reduceToNat, Int.reduceLE, Int.reduceLT, Int.reduceNeg, Int.reduceSub, Int.reduceAdd, Int.reduceMul, rr_eq, rc, mvS]
      exact Fin.val rfl
  · rw [lopt_f hcan]
    by_cases hp : pcost M L < 0
    · generalize bmv M C L = t at *
      simp (disch := omega) only [Try.ntmps44, Try.results44, go_sem, Nat.reduceLT, Nat.reduceLeDiff, Nat.reduceEqDiff, Nat.reduceAdd, Nat.reduceSub, Nat.reduceMul, reduceIte, ↓reduceIte, reduceCtorEq, Int.reduceToNat, Int.reduceLE, Int.reduceLT, Int.reduceNeg, Int.reduceSub, Int.reduceAdd, Int.reduceMul, rr_eq, rc]
      refine w1.callV 2 (viewL_cons_of view_row (viewL_cons_of view_row (viewL_cons_of view_row viewL_nil_of))) ?_
      simp (disch := omega) only [Try.ntmps44, Try.results44, go_sem, Nat.reduceLT, Nat.reduceLeDiff, Nat.reduceEqDiff, Nat.reduceAdd, Nat.reduceSub, Nat.reduceMul, reduceIte, ↓reduceIte, reduceCtorEq, Int.reduceToNat, Int.reduceLE, Int.reduceLT, Int.reduceNeg, Int.reduceSub, Int.reduceAdd, Int.reduceMul, rr_eq, rc, mvS]
      refine w2.callV 0 (viewL_cons_of (view_row) (viewL_cons_of (view_rowL (by first | rfl | simp [marks_length, canon_length] | omega)) viewL_nil_of)) ?_
      simp (disch := omega) only [Try.ntmps44, Try.results44, go_sem, Nat.reduceLT, Nat.reduceLeDiff, Nat.reduceEqDiff, Nat.reduceAdd, Nat.reduceSub, Nat.reduceMul, reduceIte, ↓reduceIte, reduceCtorEq, Int.reduceToNat, Int.reduceLE, Int.reduceLT, Int.reduceNeg, Int.reduceSub, Int.reduceAdd, Int.reduceMul, rr_eq, rc, mvS]
      exact Fin.val rfl
    · rw [kp_not hp hcan, Bool.and_false] at w3
      generalize bmv M C L = t at *
      simp (disch := omega) only [Try.ntmps44, Try.results44, go_sem, Nat.reduceLT, Nat.reduceLeDiff, Nat.reduceEqDiff, Nat.reduceAdd, Nat.reduceSub, Nat.reduceMul, reduceIte, ↓reduceIte, reduceCtorEq, Int.reduceToNat, Int.reduceLE, Int.reduceLT, Int.reduceNeg, Int.reduceSub, Int.reduceAdd, Int.reduceMul, rr_eq, rc]
      refine w1.callV 2 (viewL_cons_of view_row (viewL_cons_of view_row (viewL_cons_of view_row viewL_nil_of))) ?_
      simp (disch := omega) only [Try.ntmps44, Try.results44, go_sem, Nat.reduceLT, Nat.reduceLeDiff, Nat.reduceEqDiff, Nat.reduceAdd, Nat.reduceSub, Nat.reduceMul, reduceIte, ↓reduceIte, reduceCtorEq, Int.reduceToNat, Int.reduceLE, Int.reduceLT, Int.reduceNeg, Int.reduceSub, Int.reduceAdd, Int.reduceMul, rr_eq, rc, mvS]
      refine w2.callV 0 (viewL_cons_of (view_row) (viewL_cons_of (view_rowL (by first | rfl | simp [marks_length, canon_length] | omega)) viewL_nil_of)) ?_
      simp (disch := omega) only [Try.ntmps44, Try.results44, go_sem, Nat.reduceLT, Nat.reduceLeDiff, Nat.reduceEqDiff, Nat.reduceAdd, Nat.reduceSub, Nat.reduceMul, reduceIte, ↓reduceIte, reduceCtorEq, Int.reduceToNat, Int.reduceLE, Int.reduceLT, Int.reduceNeg, Int.reduceSub, Int.reduceAdd, Int.reduceMul, rr_eq, rc, mvS]
      refine w3.callV 2 (viewL_cons_of view_row (viewL_cons_of view_row viewL_nil_of)) ?_
      simp (disch := omega) only [Try.ntmps44, Try.results44, go_sem, Nat.reduceLT, Nat.reduceLeDiff, Nat.reduceEqDiff, Nat.reduceAdd, Nat.reduceSub, Nat.reduceMul, reduceIte, ↓reduceIte, reduceCtorEq, Int.reduceToNat, Int.reduceLE, Int.reduceLT, Int.reduceNeg, Int.reduceSub, Int.reduceAdd, Int.reduceMul, rr_eq, rc, mvS]
      exact Fin.val rfl
end Go.Sh
