/-
  Texts put together: EConstraintCost. What each proves stands at its own head, with its conditions.
-/
import Derived.Test.YthkkipbdebgghaaZBest5

/-
  The law FnExactConstraintCost, walked.
-/
namespace Go.Sh
set_option linter.unusedSimpArgs false
set_option linter.unusedVariables false
open Go Go.Proofs

set_option maxHeartbeats 16000000 in
theorem Try.exactConstraintCost_ok (M : List (List Int)) (C : List Con) (Mw : (∀ l ∈ M, (∀ n ∈ l, i64R n) ∧ l.length ≤ maxLen) ∧ M.length ≤ maxLen) (Cw : (∀ c ∈ C, i64R c.1 ∧ i64R c.2.1) ∧ C.length ≤ maxLen) : PCall Try.prog 9 [rr M, rc C] (.val (.bool true)) := by
  refine FCall.pcall (R := fun r _ => r = .val (.bool true)) ?_ 0 (by rintro r H rfl; exact view_bool)
  refine FCall.of_body Try.func9 rfl (by kernel_rfl) (by simp [Try.ntmps9]) ?_
  refine SW_of_vc Try.mixed _ _ _ (by kernel_rfl) ?_
  obtain ⟨m1M, m2M⟩ := mrow_max Mw
  have nnM := msum_nonneg M M.length
  have zM := Try.szIntSS_ok M (1048576) m1M m2M (by omega) (by omega)
  by_cases sM : (1048576 : Int) < M.length + msum M M.length
  · rw [if_pos sM] at zM
    simp (disch := omega) only [Try.ntmps9, Try.results9, go_sem, Nat.reduceLT, Nat.reduceLeDiff, Nat.reduceEqDiff, Nat.reduceAdd, Nat.reduceSub, Nat.reduceMul, reduceIte, ↓reduceIte, reduceCtorEq, Int.reduceToNat, Int.reduceLE, Int.reduceLT, Int.reduceNeg, Int.reduceSub, Int.reduceAdd, Int.reduceMul, beq_self_eq_true, bne_self_eq_false, decide_true, rr_eq, rc]
    refine zM.callV 0 (viewL_cons_of (view_row) (viewL_cons_of (view_int) viewL_nil_of)) ?_
    simp (disch := omega) only [Try.ntmps9, Try.results9, go_sem, Nat.reduceLT, Nat.reduceLeDiff, Nat.reduceEqDiff, Nat.reduceAdd, Nat.reduceSub, Nat.reduceMul, reduceIte, ↓reduceIte, reduceCtorEq, Int.reduceToNat, Int.reduceLE, Int.reduceLT, Int.reduceNeg, Int.reduceSub, Int.reduceAdd, Int.reduceMul, beq_self_eq_true, bne_self_eq_false, decide_true, rr_eq, rc]
    exact Fin.val rfl
  rw [if_neg sM] at zM
  have hM : M.length ≤ 1048576 := by omega
  have hMr : ∀ i, i < M.length → (mrow M i).length ≤ 1048576 := fun i hi => by have := mrow_le hi; omega
  have mmC : C.length ≤ 9223372036854775807 := Cw.2
  have zC := Try.szConstraintS_ok C (1048576 - M.length - msum M M.length) mmC (by omega) (by omega)
  by_cases sC : (1048576 - M.length - msum M M.length : Int) < C.length
  · rw [if_pos sC] at zC
    simp (disch := omega) only [Try.ntmps9, Try.results9, go_sem, Nat.reduceLT, Nat.reduceLeDiff, Nat.reduceEqDiff, Nat.reduceAdd, Nat.reduceSub, Nat.reduceMul, reduceIte, ↓reduceIte, reduceCtorEq, Int.reduceToNat, Int.reduceLE, Int.reduceLT, Int.reduceNeg, Int.reduceSub, Int.reduceAdd, Int.reduceMul, beq_self_eq_true, bne_self_eq_false, decide_true, rr_eq, rc]
    refine zM.callV 0 (viewL_cons_of (view_row) (viewL_cons_of (view_int) viewL_nil_of)) ?_
    simp (disch := omega) only [Try.ntmps9, Try.results9, go_sem, Nat.reduceLT, Nat.reduceLeDiff, Nat.reduceEqDiff, Nat.reduceAdd, Nat.reduceSub, Nat.reduceMul, reduceIte, ↓reduceIte, reduceCtorEq, Int.reduceToNat, Int.reduceLE, Int.reduceLT, Int.reduceNeg, Int.reduceSub, Int.reduceAdd, Int.reduceMul, beq_self_eq_true, bne_self_eq_false, decide_true, rr_eq, rc]
    refine zC.callV 0 (viewL_cons_of (view_row) (viewL_cons_of (view_int) viewL_nil_of)) ?_
    simp (disch := omega) only [Try.ntmps9, Try.results9, go_sem, Nat.reduceLT, Nat.reduceLeDiff, Nat.reduceEqDiff, Nat.reduceAdd, Nat.reduceSub, Nat.reduceMul, reduceIte, ↓reduceIte, reduceCtorEq, Int.reduceToNat, Int.reduceLE, Int.reduceLT, Int.reduceNeg, Int.reduceSub, Int.reduceAdd, Int.reduceMul, beq_self_eq_true, bne_self_eq_false, decide_true, rr_eq, rc]
    exact Fin.val rfl
  rw [if_neg sC] at zC
  have hC : C.length ≤ 1048576 := by omega
  have wS := Try.specCC_ok M C hM hMr hC
  have wI := Try.implCC_ok M C hM hMr hC
  simp (disch := omega) only [Try.ntmps9, Try.results9, go_sem, Nat.reduceLT, Nat.reduceLeDiff, Nat.reduceEqDiff, Nat.reduceAdd, Nat.reduceSub, Nat.reduceMul, reduceIte, ↓reduceIte, reduceCtorEq, Int.reduceToNat, Int.reduceLE, Int.reduceLT, Int.reduceNeg, Int.reduceSub, Int.reduceAdd, Int.reduceMul, beq_self_eq_true, bne_self_eq_false, decide_true, rr_eq, rc]
  refine zM.callV 0 (viewL_cons_of (view_row) (viewL_cons_of (view_int) viewL_nil_of)) ?_
  simp (disch := omega) only [Try.ntmps9, Try.results9, go_sem, Nat.reduceLT, Nat.reduceLeDiff, Nat.reduceEqDiff, Nat.reduceAdd, Nat.reduceSub, Nat.reduceMul, reduceIte, ↓reduceIte, reduceCtorEq, Int.reduceToNat, Int.reduceLE, Int.reduceLT, Int.reduceNeg, Int.reduceSub, Int.reduceAdd, Int.reduceMul, beq_self_eq_true, bne_self_eq_false, decide_true, rr_eq, rc]
  refine zC.callV 0 (viewL_cons_of (view_row) (viewL_cons_of (view_int) viewL_nil_of)) ?_
  simp (disch := omega) only [Try.ntmps9, Try.results9, go_sem, Nat.reduceLT, Nat.reduceLeDiff, Nat.reduceEqDiff, Nat.reduceAdd, Nat.reduceSub, Nat.reduceMul, reduceIte, ↓reduceIte, reduceCtorEq, Int.reduceToNat, Int.reduceLE, Int.reduceLT, Int.reduceNeg, Int.reduceSub, Int.reduceAdd, Int.reduceMul, beq_self_eq_true, bne_self_eq_false, decide_true, rr_eq, rc]
  refine (Try.toIntSS_ok M hM hMr).callV 0 (viewL_cons_of (view_row) viewL_nil_of) ?_
  simp (disch := omega) only [Try.ntmps9, Try.results9, go_sem, Nat.reduceLT, Nat.reduceLeDiff, Nat.reduceEqDiff, Nat.reduceAdd, Nat.reduceSub, Nat.reduceMul, reduceIte, ↓reduceIte, reduceCtorEq, Int.reduceToNat, Int.reduceLE, Int.reduceLT, Int.reduceNeg, Int.reduceSub, Int.reduceAdd, Int.reduceMul, beq_self_eq_true, bne_self_eq_false, decide_true, rr_eq, rc]
  refine (Try.toConstraintS_ok C hC).callV 0 (viewL_cons_of (view_row) viewL_nil_of) ?_
  simp (disch := omega) only [Try.ntmps9, Try.results9, go_sem, Nat.reduceLT, Nat.reduceLeDiff, Nat.reduceEqDiff, Nat.reduceAdd, Nat.reduceSub, Nat.reduceMul, reduceIte, ↓reduceIte, reduceCtorEq, Int.reduceToNat, Int.reduceLE, Int.reduceLT, Int.reduceNeg, Int.reduceSub, Int.reduceAdd, Int.reduceMul, beq_self_eq_true, bne_self_eq_false, decide_true, rr_eq, rc]
  refine wS.callV 0 (viewL_cons_of (view_row) (viewL_cons_of (view_row) viewL_nil_of)) ?_
  simp (disch := omega) only [Try.ntmps9, Try.results9, go_sem, Nat.reduceLT, Nat.reduceLeDiff, Nat.reduceEqDiff, Nat.reduceAdd, Nat.reduceSub, Nat.reduceMul, reduceIte, ↓reduceIte, reduceCtorEq, Int.reduceToNat, Int.reduceLE, Int.reduceLT, Int.reduceNeg, Int.reduceSub, Int.reduceAdd, Int.reduceMul, beq_self_eq_true, bne_self_eq_false, decide_true, rr_eq, rc]
  refine (Try.toIntSS_ok M hM hMr).callV 0 (viewL_cons_of (view_row) viewL_nil_of) ?_
  simp (disch := omega) only [Try.ntmps9, Try.results9, go_sem, Nat.reduceLT, Nat.reduceLeDiff, Nat.reduceEqDiff, Nat.reduceAdd, Nat.reduceSub, Nat.reduceMul, reduceIte, ↓reduceIte, reduceCtorEq, Int.reduceToNat, Int.reduceLE, Int.reduceLT, Int.reduceNeg, Int.reduceSub, Int.reduceAdd, Int.reduceMul, beq_self_eq_true, bne_self_eq_false, decide_true, rr_eq, rc]
  refine (Try.toConstraintS_ok C hC).callV 0 (viewL_cons_of (view_row) viewL_nil_of) ?_
  simp (disch := omega) only [Try.ntmps9, Try.results9, go_sem, Nat.reduceLT, Nat.reduceLeDiff, Nat.reduceEqDiff, Nat.reduceAdd, Nat.reduceSub, Nat.reduceMul, reduceIte, ↓reduceIte, reduceCtorEq, Int.reduceToNat, Int.reduceLE, Int.reduceLT, Int.reduceNeg, Int.reduceSub, Int.reduceAdd, Int.reduceMul, beq_self_eq_true, bne_self_eq_false, decide_true, rr_eq, rc]
  refine wI.callV 0 (viewL_cons_of (view_row) (viewL_cons_of (view_row) viewL_nil_of)) ?_
  simp (disch := omega) only [Try.ntmps9, Try.results9, go_sem, Nat.reduceLT, Nat.reduceLeDiff, Nat.reduceEqDiff, Nat.reduceAdd, Nat.reduceSub, Nat.reduceMul, reduceIte, ↓reduceIte, reduceCtorEq, Int.reduceToNat, Int.reduceLE, Int.reduceLT, Int.reduceNeg, Int.reduceSub, Int.reduceAdd, Int.reduceMul, beq_self_eq_true, bne_self_eq_false, decide_true, rr_eq, rc]
  refine (Try.toIntSS_ok M hM hMr).callV 0 (viewL_cons_of (view_row) viewL_nil_of) ?_
  simp (disch := omega) only [Try.ntmps9, Try.results9, go_sem, Nat.reduceLT, Nat.reduceLeDiff, Nat.reduceEqDiff, Nat.reduceAdd, Nat.reduceSub, Nat.reduceMul, reduceIte, ↓reduceIte, reduceCtorEq, Int.reduceToNat, Int.reduceLE, Int.reduceLT, Int.reduceNeg, Int.reduceSub, Int.reduceAdd, Int.reduceMul, beq_self_eq_true, bne_self_eq_false, decide_true, rr_eq, rc]
  refine (Try.eqIntSS_ok M M hM hM hMr hMr).callV 2 (viewL_cons_of (view_row) (viewL_cons_of (view_row) viewL_nil_of)) ?_
  simp (disch := omega) only [Try.ntmps9, Try.results9, go_sem, Nat.reduceLT, Nat.reduceLeDiff, Nat.reduceEqDiff, Nat.reduceAdd, Nat.reduceSub, Nat.reduceMul, reduceIte, ↓reduceIte, reduceCtorEq, Int.reduceToNat, Int.reduceLE, Int.reduceLT, Int.reduceNeg, Int.reduceSub, Int.reduceAdd, Int.reduceMul, beq_self_eq_true, bne_self_eq_false, decide_true, rr_eq, rc]
  refine (Try.toConstraintS_ok C hC).callV 0 (viewL_cons_of (view_row) viewL_nil_of) ?_
  simp (disch := omega) only [Try.ntmps9, Try.results9, go_sem, Nat.reduceLT, Nat.reduceLeDiff, Nat.reduceEqDiff, Nat.reduceAdd, Nat.reduceSub, Nat.reduceMul, reduceIte, ↓reduceIte, reduceCtorEq, Int.reduceToNat, Int.reduceLE, Int.reduceLT, Int.reduceNeg, Int.reduceSub, Int.reduceAdd, Int.reduceMul, beq_self_eq_true, bne_self_eq_false, decide_true, rr_eq, rc]
  refine (Try.eqConstraintS_ok C C hC hC).callV 2 (viewL_cons_of (view_row) (viewL_cons_of (view_row) viewL_nil_of)) ?_
  simp (disch := omega) only [Try.ntmps9, Try.results9, go_sem, Nat.reduceLT, Nat.reduceLeDiff, Nat.reduceEqDiff, Nat.reduceAdd, Nat.reduceSub, Nat.reduceMul, reduceIte, ↓reduceIte, reduceCtorEq, Int.reduceToNat, Int.reduceLE, Int.reduceLT, Int.reduceNeg, Int.reduceSub, Int.reduceAdd, Int.reduceMul, beq_self_eq_true, bne_self_eq_false, decide_true, rr_eq, rc]
  exact Fin.val rfl
end Go.Sh
