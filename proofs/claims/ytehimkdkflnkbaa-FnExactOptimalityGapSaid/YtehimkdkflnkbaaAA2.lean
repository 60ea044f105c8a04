/-
  Contracts: how far a partition is from a bound. Of the program and the reference.
-/
import Derived.Test.YtehimkdkflnkbaaY3
import Derived.Test.YtehimkdkflnkbaaP1
namespace Go.Sh
set_option linter.unusedSimpArgs false
set_option linter.unusedVariables false
open Go Go.Proofs

noncomputable def gapOf (M : List (List Int)) (L : List Int) (T : List Tri) : Int := if pcost M L < 0 ∨ boundOf M T < 0 then -1 else pcost M L - boundOf M T
theorem pcost_r (M : List (List Int)) (L : List Int) : -1 ≤ pcost M L ∧ pcost M L ≤ 64000 := by
  unfold pcost
  split
  · rename_i h
    have hw := WM_of h.1
    have := cc_b (L := L) hw L.length (by omega)
    have := hw.1
    omega
  · omega
theorem bound_r (M : List (List Int)) (T : List Tri) : -1 ≤ boundOf M T ∧ boundOf M T ≤ 100000 := by
  unfold boundOf
  split
  · rename_i h
    have hp := packP_of h
    have := wsum_r hp.w T.length (Nat.le_refl _)
    have := hp.2.1
    omega
  · omega
theorem Try.implGap_ok (M : List (List Int)) (L : List Int) (T : List Tri) (hM : M.length ≤ 1048576) (hR : ∀ i, i < M.length → (mrow M i).length ≤ 1048576) (hL : L.length ≤ 1048576) (hT : T.length ≤ 1048576) : PCall Try.prog 21 [rr M, ri L, rt T] (.val (.int .i64 (gapOf M L T))) := by
  refine FCall.pcall (R := fun r _ => r = .val (.int .i64 (gapOf M L T))) ?_ 0 (by rintro r H rfl; exact view_int)
  have w1 := Try.implPartitionCost_ok M L hM hR hL
  have w2 := Try.implBound_ok M T hM hR hT
  have r1 := pcost_r M L
  have r2 := bound_r M T
  have hg : gapOf M L T = if pcost M L < 0 ∨ boundOf M T < 0 then -1 else pcost M L - boundOf M T := rfl
  generalize pcost M L = x at *
  generalize boundOf M T = y at *
  refine FCall.of_body Try.func21 rfl (by kernel_rfl) (by simp [Try.ntmps21]) ?_
  refine SW_of_vc Try.mixed _ _ _ (by kernel_rfl) ?_
  by_cases h1 : x < 0
  · simp (disch := omega) only [Try.ntmps21, Try.results21, go_sem, Nat.reduceLT, Nat.reduceLeDiff, Nat.reduceEqDiff, Nat.reduceAdd, Nat.reduceSub, Nat.reduceMul, reduceIte, ↓reduceIte, reduceCtorEq, Int.reduceToNat, Int.reduceLE, Int.reduceLT, Int.reduceNeg, Int.reduceSub, Int.reduceAdd, Int.reduceMul, rr_eq, rt]
    refine w1.callV 0 (viewL_cons_of (view_row) (viewL_cons_of (view_rowL (by first | rfl | simp [marks_length, canon_length] | omega)) viewL_nil_of)) ?_
    simp (disch := omega) only [Try.ntmps21, Try.results21, go_sem, Nat.reduceLT, Nat.reduceLeDiff, Nat.reduceEqDiff, Nat.reduceAdd, Nat.reduceSub, Nat.reduceMul, reduceIte, ↓reduceIte, reduceCtorEq, Int.reduceToNat, Int.reduceLE, Int.reduceLT, Int.reduceNeg, Int.reduceSub, Int.reduceAdd, Int.reduceMul, rr_eq, rt]
    refine w2.callV 0 (viewL_cons_of (view_row) (viewL_cons_of (view_row) viewL_nil_of)) ?_
    simp (disch := omega) only [Try.ntmps21, Try.results21, go_sem, Nat.reduceLT, Nat.reduceLeDiff, Nat.reduceEqDiff, Nat.reduceAdd, Nat.reduceSub, Nat.reduceMul, reduceIte, ↓reduceIte, reduceCtorEq, Int.reduceToNat, Int.reduceLE, Int.reduceLT, Int.reduceNeg, Int.reduceSub, Int.reduceAdd, Int.reduceMul, rr_eq, rt]
    exact Fin.val (by rw [hg, if_pos (.inl h1)])
  · by_cases h2 : y < 0
    · simp (disch := omega) only [Try.ntmps21, Try.results21, go_sem, Nat.reduceLT, Nat.reduceLeDiff, Nat.reduceEqDiff, Nat.reduceAdd, Nat.reduceSub, Nat.reduceMul, reduceIte, ↓reduceIte, reduceCtorEq, Int.reduceToNat, Int.reduceLE, Int.reduceLT, Int.reduceNeg, Int.reduceSub, Int.reduceAdd, Int.reduceMul, rr_eq, rt]
      refine w1.callV 0 (viewL_cons_of (view_row) (viewL_cons_of (view_rowL (by first | rfl | simp [marks_length, canon_length] | omega)) viewL_nil_of)) ?_
      simp (disch := omega) only [Try.ntmps21, Try.results21, go_sem, Nat.reduceLT, Nat.reduceLeDiff, Nat.reduceEqDiff, Nat.reduceAdd, Nat.reduceSub, Nat.reduceMul, reduceIte, ↓reduceIte, reduceCtorEq, Int.reduceToNat, Int.reduceLE, Int.reduceLT, Int.reduceNeg, Int.reduceSub, Int.reduceAdd, Int.reduceMul, rr_eq, rt]
      refine w2.callV 0 (viewL_cons_of (view_row) (viewL_cons_of (view_row) viewL_nil_of)) ?_
      simp (disch := omega) only [Try.ntmps21, Try.results21, go_sem, Nat.reduceLT, Nat.reduceLeDiff, Nat.reduceEqDiff, Nat.reduceAdd, Nat.reduceSub, Nat.reduceMul, reduceIte, ↓reduceIte, reduceCtorEq, Int.reduceToNat, Int.reduceLE, Int.reduceLT, Int.reduceNeg, Int.reduceSub, Int.reduceAdd, Int.reduceMul, rr_eq, rt]
      exact Fin.val (by rw [hg, if_pos (.inr h2)])
    · simp (disch := omega) only [Try.ntmps21, Try.results21, go_sem, Nat.reduceLT, Nat.reduceLeDiff, Nat.reduceEqDiff, Nat.reduceAdd, Nat.reduceSub, Nat.reduceMul, reduceIte, ↓reduceIte, reduceCtorEq, Int.reduceToNat, Int.reduceLE, Int.reduceLT, Int.reduceNeg, Int.reduceSub, Int.reduceAdd, Int.reduceMul, rr_eq, rt]
      refine w1.callV 0 (viewL_cons_of (view_row) (viewL_cons_of (view_rowL (by first | rfl | simp [marks_length, canon_length] | omega)) viewL_nil_of)) ?_
      simp (disch := omega) only [Try.ntmps21, Try.results21, go_sem, Nat.reduceLT, Nat.reduceLeDiff, Nat.reduceEqDiff, Nat.reduceAdd, Nat.reduceSub, Nat.reduceMul, reduceIte, ↓reduceIte, reduceCtorEq, Int.reduceToNat, Int.reduceLE, Int.reduceLT, Int.reduceNeg, Int.reduceSub, Int.reduceAdd, Int.reduceMul, rr_eq, rt]
      refine w2.callV 0 (viewL_cons_of (view_row) (viewL_cons_of (view_row) viewL_nil_of)) ?_
      simp (disch := omega) only [Try.ntmps21, Try.results21, go_sem, Nat.reduceLT, Nat.reduceLeDiff, Nat.reduceEqDiff, Nat.reduceAdd, Nat.reduceSub, Nat.reduceMul, reduceIte, ↓reduceIte, reduceCtorEq, Int.reduceToNat, Int.reduceLE, Int.reduceLT, Int.reduceNeg, Int.reduceSub, Int.reduceAdd, Int.reduceMul, rr_eq, rt]
      exact Fin.val (by rw [hg, if_neg (by omega)])
theorem Try.specGap_ok (M : List (List Int)) (L : List Int) (T : List Tri) (hM : M.length ≤ 1048576) (hR : ∀ i, i < M.length → (mrow M i).length ≤ 1048576) (hL : L.length ≤ 1048576) (hT : T.length ≤ 1048576) : PCall Try.prog 17 [rr M, ri L, rt T] (.val (.int .i64 (gapOf M L T))) := by
  refine FCall.pcall (R := fun r _ => r = .val (.int .i64 (gapOf M L T))) ?_ 0 (by rintro r H rfl; exact view_int)
  have w1 := Try.specPartitionCost_ok M L hM hR hL
  have w2 := Try.specBound_ok M T hM hR hT
  have r1 := pcost_r M L
  have r2 := bound_r M T
  have hg : gapOf M L T = if pcost M L < 0 ∨ boundOf M T < 0 then -1 else pcost M L - boundOf M T := rfl
  generalize pcost M L = x at *
  generalize boundOf M T = y at *
  refine FCall.of_body Try.func17 rfl (by kernel_rfl) (by simp [Try.ntmps17]) ?_
  refine SW_of_vc Try.mixed _ _ _ (by kernel_rfl) ?_
  by_cases h1 : x < 0
  · simp (disch := omega) only [Try.ntmps17, Try.results17, go_sem, Nat.reduceLT, Nat.reduceLeDiff, Nat.reduceEqDiff, Nat.reduceAdd, Nat.reduceSub, Nat.reduceMul, reduceIte, ↓reduceIte, reduceCtorEq, Int.reduceToNat, Int.reduceLE, Int.reduceLT, Int.reduceNeg, Int.reduceSub, Int.reduceAdd, Int.reduceMul, rr_eq, rt]
    refine w1.callV 0 (viewL_cons_of (view_row) (viewL_cons_of (view_rowL (by first | rfl | simp [marks_length, canon_length] | omega)) viewL_nil_of)) ?_
    simp (disch := omega) only [Try.ntmps17, Try.results17, go_sem, Nat.reduceLT, Nat.reduceLeDiff, Nat.reduceEqDiff, Nat.reduceAdd, Nat.reduceSub, Nat.reduceMul, reduceIte, ↓reduceIte, reduceCtorEq, Int.reduceToNat, Int.reduceLE, Int.reduceLT, Int.reduceNeg, Int.reduceSub, Int.reduceAdd, Int.reduceMul, rr_eq, rt]
    refine w2.callV 0 (viewL_cons_of (view_row) (viewL_cons_of (view_row) viewL_nil_of)) ?_
    simp (disch := omega) only [Try.ntmps17, Try.results17, go_sem, Nat.reduceLT, Nat.reduceLeDiff, Nat.reduceEqDiff, Nat.reduceAdd, Nat.reduceSub, Nat.reduceMul, reduceIte, ↓reduceIte, reduceCtorEq, Int.reduceToNat, Int.reduceLE, Int.reduceLT, Int.reduceNeg, Int.reduceSub, Int.reduceAdd, Int.reduceMul, rr_eq, rt]
    exact Fin.val (by rw [hg, if_pos (.inl h1)])
  · by_cases h2 : y < 0
    · simp (disch := omega) only [Try.ntmps17, Try.results17, go_sem, Nat.reduceLT, Nat.reduceLeDiff, Nat.reduceEqDiff, Nat.reduceAdd, Nat.reduceSub, Nat.reduceMul, reduceIte, ↓reduceIte, reduceCtorEq, Int.reduceToNat, Int.reduceLE, Int.reduceLT, Int.reduceNeg, Int.reduceSub, Int.reduceAdd, Int.reduceMul, rr_eq, rt]
      refine w1.callV 0 (viewL_cons_of (view_row) (viewL_cons_of (view_rowL (by first | rfl | simp [marks_length, canon_length] | omega)) viewL_nil_of)) ?_
      simp (disch := omega) only [Try.ntmps17, Try.results17, go_sem, Nat.reduceLT, Nat.reduceLeDiff, Nat.reduceEqDiff, Nat.reduceAdd, Nat.reduceSub, Nat.reduceMul, reduceIte, ↓reduceIte, reduceCtorEq, Int.reduceToNat, Int.reduceLE, Int.reduceLT, Int.reduceNeg, Int.reduceSub, Int.reduceAdd, Int.reduceMul, rr_eq, rt]
      refine w2.callV 0 (viewL_cons_of (view_row) (viewL_cons_of (view_row) viewL_nil_of)) ?_
      simp (disch := omega) only [Try.ntmps17, Try.results17, go_sem, Nat.reduceLT, Nat.reduceLeDiff, Nat.reduceEqDiff, Nat.reduceAdd, Nat.reduceSub, Nat.reduceMul, reduceIte, ↓reduceIte, reduceCtorEq, Int.reduceToNat, Int.reduceLE, Int.reduceLT, Int.reduceNeg, Int.reduceSub, Int.reduceAdd, Int.reduceMul, rr_eq, rt]
      exact Fin.val (by rw [hg, if_pos (.inr h2)])
    · simp (disch := omega) only [Try.ntmps17, Try.results17, go_sem, Nat.reduceLT, Nat.reduceLeDiff, Nat.reduceEqDiff, Nat.reduceAdd, Nat.reduceSub, Nat.reduceMul, reduceIte, ↓reduceIte, reduceCtorEq, Int.reduceToNat, Int.reduceLE, Int.reduceLT, Int.reduceNeg, Int.reduceSub, Int.reduceAdd, Int.reduceMul, rr_eq, rt]
      refine w1.callV 0 (viewL_cons_of (view_row) (viewL_cons_of (view_rowL (by first | rfl | simp [marks_length, canon_length] | omega)) viewL_nil_of)) ?_
      simp (disch := omega) only [Try.ntmps17, Try.results17, go_sem, Nat.reduceLT, Nat.reduceLeDiff, Nat.reduceEqDiff, Nat.reduceAdd, Nat.reduceSub, Nat.reduceMul, reduceIte, ↓reduceIte, reduceCtorEq, Int.reduceToNat, Int.reduceLE, Int.reduceLT, Int.reduceNeg, Int.reduceSub, Int.reduceAdd, Int.reduceMul, rr_eq, rt]
      refine w2.callV 0 (viewL_cons_of (view_row) (viewL_cons_of (view_row) viewL_nil_of)) ?_
      simp (disch := omega) only [Try.ntmps17, Try.results17, go_sem, Nat.reduceLT, Nat.reduceLeDiff, Nat.reduceEqDiff, Nat.reduceAdd, Nat.reduceSub, Nat.reduceMul, reduceIte, ↓reduceIte, reduceCtorEq, Int.reduceToNat, Int.reduceLE, Int.reduceLT, Int.reduceNeg, Int.reduceSub, Int.reduceAdd, Int.reduceMul, rr_eq, rt]
      exact Fin.val (by rw [hg, if_neg (by omega)])
end Go.Sh
