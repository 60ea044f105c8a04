/-
  The law FnExactOptimalityGap, walked.
-/
import Derived.Test.YtehimkdkflnkbaaAA2
namespace Go.Sh
set_option linter.unusedSimpArgs false
set_option linter.unusedVariables false
open Go Go.Proofs

set_option maxHeartbeats 16000000 in
theorem Try.exactOptimalityGap_ok (M : List (List Int)) (L : List Int) (T : List Tri) (Mw : (∀ l ∈ M, (∀ n ∈ l, i64R n) ∧ l.length ≤ maxLen) ∧ M.length ≤ maxLen) (Tw : (∀ t ∈ T, i64R t.1 ∧ i64R t.2.1 ∧ i64R t.2.2.1 ∧ i64R t.2.2.2) ∧ T.length ≤ maxLen) : PCall Try.prog 3 [rr M, ri L, rt T] (.val (.bool true)) := by
  refine FCall.pcall (R := fun r _ => r = .val (.bool true)) ?_ 0 (by rintro r H rfl; exact view_bool)
  refine FCall.of_body Try.func3 rfl (by kernel_rfl) (by simp [Try.ntmps3]) ?_
  refine SW_of_vc Try.mixed _ _ _ (by kernel_rfl) ?_
  by_cases sL : 1048576 < L.length
  · simp (disch := omega) only [Try.ntmps3, Try.results3, go_sem, Nat.reduceLT, Nat.reduceLeDiff, Nat.reduceEqDiff, Nat.reduceAdd, Nat.reduceSub, Nat.reduceMul, reduceIte, ↓reduceIte, reduceCtorEq, Int.reduceToNat, Int.reduceLE, Int.reduceLT, Int.reduceNeg, Int.reduceSub, Int.reduceAdd, Int.reduceMul, beq_self_eq_true, bne_self_eq_false, decide_true, rr_eq, rt]
    exact Fin.val rfl
  have hL : L.length ≤ 1048576 := by omega
  obtain ⟨m1M, m2M⟩ := mrow_max Mw
  have nnM := msum_nonneg M M.length
  have zM := Try.szIntSS_ok M (1048576) m1M m2M (by omega) (by omega)
  by_cases sM : (1048576 : Int) < M.length + msum M M.length
  · rw [if_pos sM] at zM
    simp (disch := omega) only [Try.ntmps3, Try.results3, go_sem, Nat.reduceLT, Nat.reduceLeDiff, Nat.reduceEqDiff, Nat.reduceAdd, Nat.reduceSub, Nat.reduceMul, reduceIte, ↓reduceIte, reduceCtorEq, Int.reduceToNat, Int.reduceLE, Int.reduceLT, Int.reduceNeg, Int.reduceSub, Int.reduceAdd, Int.reduceMul, beq_self_eq_true, bne_self_eq_false, decide_true, rr_eq, rt]
    refine zM.callV 0 (viewL_cons_of (view_row) (viewL_cons_of (view_int) viewL_nil_of)) ?_
    simp (disch := omega) only [Try.ntmps3, Try.results3, go_sem, Nat.reduceLT, Nat.reduceLeDiff, Nat.reduceEqDiff, Nat.reduceAdd, Nat.reduceSub, Nat.reduceMul, reduceIte, ↓reduceIte, reduceCtorEq, Int.reduceToNat, Int.reduceLE, Int.reduceLT, Int.reduceNeg, Int.reduceSub, Int.reduceAdd, Int.reduceMul, beq_self_eq_true, bne_self_eq_false, decide_true, rr_eq, rt]
    exact Fin.val rfl
  rw [if_neg sM] at zM
  have hM : M.length ≤ 1048576 := by omega
  have hMr : ∀ i, i < M.length → (mrow M i).length ≤ 1048576 := fun i hi => by have := mrow_le hi; omega
  have mmT : T.length ≤ 9223372036854775807 := Tw.2
  have zT := Try.szTriangleS_ok T (1048576 - M.length - msum M M.length) mmT (by omega) (by omega)
  by_cases sT : (1048576 - M.length - msum M M.length : Int) < T.length
  · rw [if_pos sT] at zT
    simp (disch := omega) only [Try.ntmps3, Try.results3, go_sem, Nat.reduceLT, Nat.reduceLeDiff, Nat.reduceEqDiff, Nat.reduceAdd, Nat.reduceSub, Nat.reduceMul, reduceIte, ↓reduceIte, reduceCtorEq, Int.reduceToNat, Int.reduceLE, Int.reduceLT, Int.reduceNeg, Int.reduceSub, Int.reduceAdd, Int.reduceMul, beq_self_eq_true, bne_self_eq_false, decide_true, rr_eq, rt]
    refine zM.callV 0 (viewL_cons_of (view_row) (viewL_cons_of (view_int) viewL_nil_of)) ?_
    simp (disch := omega) only [Try.ntmps3, Try.results3, go_sem, Nat.reduceLT, Nat.reduceLeDiff, Nat.reduceEqDiff, Nat.reduceAdd, Nat.reduceSub, Nat.reduceMul, reduceIte, ↓reduceIte, reduceCtorEq, Int.reduceToNat, Int.reduceLE, Int.reduceLT, Int.reduceNeg, Int.reduceSub, Int.reduceAdd, Int.reduceMul, beq_self_eq_true, bne_self_eq_false, decide_true, rr_eq, rt]
    refine zT.callV 0 (viewL_cons_of (view_row) (viewL_cons_of (view_int) viewL_nil_of)) ?_
    simp (disch := omega) only [Try.ntmps3, Try.results3, go_sem, Nat.reduceLT, Nat.reduceLeDiff, Nat.reduceEqDiff, Nat.reduceAdd, Nat.reduceSub, Nat.reduceMul, reduceIte, ↓reduceIte, reduceCtorEq, Int.reduceToNat, Int.reduceLE, Int.reduceLT, Int.reduceNeg, Int.reduceSub, Int.reduceAdd, Int.reduceMul, beq_self_eq_true, bne_self_eq_false, decide_true, rr_eq, rt]
    exact Fin.val rfl
  rw [if_neg sT] at zT
  have hT : T.length ≤ 1048576 := by omega
  have wS := Try.specGap_ok M L T hM hMr hL hT
  have wI := Try.implGap_ok M L T hM hMr hL hT
  simp (disch := omega) only [Try.ntmps3, Try.results3, go_sem, Nat.reduceLT, Nat.reduceLeDiff, Nat.reduceEqDiff, Nat.reduceAdd, Nat.reduceSub, Nat.reduceMul, reduceIte, ↓reduceIte, reduceCtorEq, Int.reduceToNat, Int.reduceLE, Int.reduceLT, Int.reduceNeg, Int.reduceSub, Int.reduceAdd, Int.reduceMul, beq_self_eq_true, bne_self_eq_false, decide_true, rr_eq, rt]
  refine zM.callV 0 (viewL_cons_of (view_row) (viewL_cons_of (view_int) viewL_nil_of)) ?_
  simp (disch := omega) only [Try.ntmps3, Try.results3, go_sem, Nat.reduceLT, Nat.reduceLeDiff, Nat.reduceEqDiff, Nat.reduceAdd, Nat.reduceSub, Nat.reduceMul, reduceIte, ↓reduceIte, reduceCtorEq, Int.reduceToNat, Int.reduceLE, Int.reduceLT, Int.reduceNeg, Int.reduceSub, Int.reduceAdd, Int.reduceMul, beq_self_eq_true, bne_self_eq_false, decide_true, rr_eq, rt]
  refine zT.callV 0 (viewL_cons_of (view_row) (viewL_cons_of (view_int) viewL_nil_of)) ?_
  simp (disch := omega) only [Try.ntmps3, Try.results3, go_sem, Nat.reduceLT, Nat.reduceLeDiff, Nat.reduceEqDiff, Nat.reduceAdd, Nat.reduceSub, Nat.reduceMul, reduceIte, ↓reduceIte, reduceCtorEq, Int.reduceToNat, Int.reduceLE, Int.reduceLT, Int.reduceNeg, Int.reduceSub, Int.reduceAdd, Int.reduceMul, beq_self_eq_true, bne_self_eq_false, decide_true, rr_eq, rt]
  refine (Try.toIntSS_ok M hM hMr).callV 0 (viewL_cons_of (view_row) viewL_nil_of) ?_
  simp (disch := omega) only [Try.ntmps3, Try.results3, go_sem, Nat.reduceLT, Nat.reduceLeDiff, Nat.reduceEqDiff, Nat.reduceAdd, Nat.reduceSub, Nat.reduceMul, reduceIte, ↓reduceIte, reduceCtorEq, Int.reduceToNat, Int.reduceLE, Int.reduceLT, Int.reduceNeg, Int.reduceSub, Int.reduceAdd, Int.reduceMul, beq_self_eq_true, bne_self_eq_false, decide_true, rr_eq, rt]
  refine (Try.toIntS_ok L hL).callV 0 (viewL_cons_of (view_row) viewL_nil_of) ?_
  simp (disch := omega) only [Try.ntmps3, Try.results3, go_sem, Nat.reduceLT, Nat.reduceLeDiff, Nat.reduceEqDiff, Nat.reduceAdd, Nat.reduceSub, Nat.reduceMul, reduceIte, ↓reduceIte, reduceCtorEq, Int.reduceToNat, Int.reduceLE, Int.reduceLT, Int.reduceNeg, Int.reduceSub, Int.reduceAdd, Int.reduceMul, beq_self_eq_true, bne_self_eq_false, decide_true, rr_eq, rt]
  refine (Try.toTriangleS_ok T hT).callV 0 (viewL_cons_of (view_row) viewL_nil_of) ?_
  simp (disch := omega) only [Try.ntmps3, Try.results3, go_sem, Nat.reduceLT, Nat.reduceLeDiff, Nat.reduceEqDiff, Nat.reduceAdd, Nat.reduceSub, Nat.reduceMul, reduceIte, ↓reduceIte, reduceCtorEq, Int.reduceToNat, Int.reduceLE, Int.reduceLT, Int.reduceNeg, Int.reduceSub, Int.reduceAdd, Int.reduceMul, beq_self_eq_true, bne_self_eq_false, decide_true, rr_eq, rt]
  refine wS.callV 0 (viewL_cons_of (view_row) (viewL_cons_of (view_row) (viewL_cons_of (view_row) viewL_nil_of))) ?_
  simp (disch := omega) only [Try.ntmps3, Try.results3, go_sem, Nat.reduceLT, Nat.reduceLeDiff, Nat.reduceEqDiff, Nat.reduceAdd, Nat.reduceSub, Nat.reduceMul, reduceIte, ↓reduceIte, reduceCtorEq, Int.reduceToNat, Int.reduceLE, Int.reduceLT, Int.reduceNeg, Int.reduceSub, Int.reduceAdd, Int.reduceMul, beq_self_eq_true, bne_self_eq_false, decide_true, rr_eq, rt]
  refine (Try.toIntSS_ok M hM hMr).callV 0 (viewL_cons_of (view_row) viewL_nil_of) ?_
  simp (disch := omega) only [Try.ntmps3, Try.results3, go_sem, Nat.reduceLT, Nat.reduceLeDiff, Nat.reduceEqDiff, Nat.reduceAdd, Nat.reduceSub, Nat.reduceMul, reduceIte, ↓reduceIte, reduceCtorEq, Int.reduceToNat, Int.reduceLE, Int.reduceLT, Int.reduceNeg, Int.reduceSub, Int.reduceAdd, Int.reduceMul, beq_self_eq_true, bne_self_eq_false, decide_true, rr_eq, rt]
  refine (Try.toIntS_ok L hL).callV 0 (viewL_cons_of (view_row) viewL_nil_of) ?_
  simp (disch := omega) only [Try.ntmps3, Try.results3, go_sem, Nat.reduceLT, Nat.reduceLeDiff, Nat.reduceEqDiff, Nat.reduceAdd, Nat.reduceSub, Nat.reduceMul, reduceIte, ↓reduceIte, reduceCtorEq, Int.reduceToNat, Int.reduceLE, Int.reduceLT, Int.reduceNeg, Int.reduceSub, Int.reduceAdd, Int.reduceMul, beq_self_eq_true, bne_self_eq_false, decide_true, rr_eq, rt]
  refine (Try.toTriangleS_ok T hT).callV 0 (viewL_cons_of (view_row) viewL_nil_of) ?_
  simp (disch := omega) only [Try.ntmps3, Try.results3, go_sem, Nat.reduceLT, Nat.reduceLeDiff, Nat.reduceEqDiff, Nat.reduceAdd, Nat.reduceSub, Nat.reduceMul, reduceIte, ↓reduceIte, reduceCtorEq, Int.reduceToNat, Int.reduceLE, Int.reduceLT, Int.reduceNeg, Int.reduceSub, Int.reduceAdd, Int.reduceMul, beq_self_eq_true, bne_self_eq_false, decide_true, rr_eq, rt]
  refine wI.callV 0 (viewL_cons_of (view_row) (viewL_cons_of (view_row) (viewL_cons_of (view_row) viewL_nil_of))) ?_
  simp (disch := omega) only [Try.ntmps3, Try.results3, go_sem, Nat.reduceLT, Nat.reduceLeDiff, Nat.reduceEqDiff, Nat.reduceAdd, Nat.reduceSub, Nat.reduceMul, reduceIte, ↓reduceIte, reduceCtorEq, Int.reduceToNat, Int.reduceLE, Int.reduceLT, Int.reduceNeg, Int.reduceSub, Int.reduceAdd, Int.reduceMul, beq_self_eq_true, bne_self_eq_false, decide_true, rr_eq, rt]
  refine (Try.toIntSS_ok M hM hMr).callV 0 (viewL_cons_of (view_row) viewL_nil_of) ?_
  simp (disch := omega) only [Try.ntmps3, Try.results3, go_sem, Nat.reduceLT, Nat.reduceLeDiff, Nat.reduceEqDiff, Nat.reduceAdd, Nat.reduceSub, Nat.reduceMul, reduceIte, ↓reduceIte, reduceCtorEq, Int.reduceToNat, Int.reduceLE, Int.reduceLT, Int.reduceNeg, Int.reduceSub, Int.reduceAdd, Int.reduceMul, beq_self_eq_true, bne_self_eq_false, decide_true, rr_eq, rt]
  refine (Try.eqIntSS_ok M M hM hM hMr hMr).callV 2 (viewL_cons_of (view_row) (viewL_cons_of (view_row) viewL_nil_of)) ?_
  simp (disch := omega) only [Try.ntmps3, Try.results3, go_sem, Nat.reduceLT, Nat.reduceLeDiff, Nat.reduceEqDiff, Nat.reduceAdd, Nat.reduceSub, Nat.reduceMul, reduceIte, ↓reduceIte, reduceCtorEq, Int.reduceToNat, Int.reduceLE, Int.reduceLT, Int.reduceNeg, Int.reduceSub, Int.reduceAdd, Int.reduceMul, beq_self_eq_true, bne_self_eq_false, decide_true, rr_eq, rt]
  refine (Try.toIntS_ok L hL).callV 0 (viewL_cons_of (view_row) viewL_nil_of) ?_
  simp (disch := omega) only [Try.ntmps3, Try.results3, go_sem, Nat.reduceLT, Nat.reduceLeDiff, Nat.reduceEqDiff, Nat.reduceAdd, Nat.reduceSub, Nat.reduceMul, reduceIte, ↓reduceIte, reduceCtorEq, Int.reduceToNat, Int.reduceLE, Int.reduceLT, Int.reduceNeg, Int.reduceSub, Int.reduceAdd, Int.reduceMul, beq_self_eq_true, bne_self_eq_false, decide_true, rr_eq, rt]
  refine (Try.eqIntS_ok L L (by omega) (by omega)).callV 2 (viewL_cons_of (view_row) (viewL_cons_of (view_row) viewL_nil_of)) ?_
  simp (disch := omega) only [Try.ntmps3, Try.results3, go_sem, Nat.reduceLT, Nat.reduceLeDiff, Nat.reduceEqDiff, Nat.reduceAdd, Nat.reduceSub, Nat.reduceMul, reduceIte, ↓reduceIte, reduceCtorEq, Int.reduceToNat, Int.reduceLE, Int.reduceLT, Int.reduceNeg, Int.reduceSub, Int.reduceAdd, Int.reduceMul, beq_self_eq_true, bne_self_eq_false, decide_true, rr_eq, rt]
  refine (Try.toTriangleS_ok T hT).callV 0 (viewL_cons_of (view_row) viewL_nil_of) ?_
  simp (disch := omega) only [Try.ntmps3, Try.results3, go_sem, Nat.reduceLT, Nat.reduceLeDiff, Nat.reduceEqDiff, Nat.reduceAdd, Nat.reduceSub, Nat.reduceMul, reduceIte, ↓reduceIte, reduceCtorEq, Int.reduceToNat, Int.reduceLE, Int.reduceLT, Int.reduceNeg, Int.reduceSub, Int.reduceAdd, Int.reduceMul, beq_self_eq_true, bne_self_eq_false, decide_true, rr_eq, rt]
  refine (Try.eqTriangleS_ok T T hT hT).callV 2 (viewL_cons_of (view_row) (viewL_cons_of (view_row) viewL_nil_of)) ?_
  simp (disch := omega) only [Try.ntmps3, Try.results3, go_sem, Nat.reduceLT, Nat.reduceLeDiff, Nat.reduceEqDiff, Nat.reduceAdd, Nat.reduceSub, Nat.reduceMul, reduceIte, ↓reduceIte, reduceCtorEq, Int.reduceToNat, Int.reduceLE, Int.reduceLT, Int.reduceNeg, Int.reduceSub, Int.reduceAdd, Int.reduceMul, beq_self_eq_true, bne_self_eq_false, decide_true, rr_eq, rt]
  exact Fin.val rfl
end Go.Sh
