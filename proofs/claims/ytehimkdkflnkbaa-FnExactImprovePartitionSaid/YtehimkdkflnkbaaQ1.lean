/-
  Contracts: what a move gains. Of the reference and of the program; the law.
-/
import Derived.Test.YtehimkdkflnkbaaP1
import Derived.Test.YtehimkdkflnkbaaM2
import Derived.Test.YtehimkdkflnkbaaM3
namespace Go.Sh
set_option linter.unusedSimpArgs false
set_option linter.unusedVariables false
open Go Go.Proofs

noncomputable def gain (M : List (List Int)) (L : List Int) (it bl : Int) : Int := if moveOk L it bl = true ∧ 0 ≤ pcost M L then cc M L L.length - cc M (moveTo L it bl) L.length else 0
theorem pcost_cases (M : List (List Int)) (L : List Int) : (pcost M L = -1) ∨ (WM M ∧ isPart L = true ∧ L.length = M.length ∧ pcost M L = cc M L L.length) := by
  by_cases h : isWM M = true ∧ isPart L = true ∧ L.length = M.length
  · right
    exact ⟨WM_of h.1, h.2.1, h.2.2, if_pos h⟩
  · left
    exact if_neg h
theorem moveTo_part {L : List Int} {it bl : Int} (h : moveOk L it bl = true) : isPart (moveTo L it bl) = true := by
  have hp : isPart L = true := by
    unfold moveOk at h
    simp only [Bool.and_eq_true] at h
    exact h.1
  have := isPart_len hp
  rw [moveTo, if_pos h]
  exact canon_isPart (by simp; omega) (by simp; omega)

set_option maxHeartbeats 2000000 in
theorem Try.specGain_ok (M : List (List Int)) (L : List Int) (it bl : Int) (hM : M.length ≤ 1048576) (hR : ∀ i, i < M.length → (mrow M i).length ≤ 1048576) (hL : L.length ≤ 1048576) :
    PCall Try.prog 101 [rr M, ri L, .val (.int .i64 it), .val (.int .i64 bl)] (.val (.int .i64 (gain M L it bl))) := by
  refine FCall.pcall (R := fun r _ => r = .val (.int .i64 (gain M L it bl))) ?_ 0 (by rintro r H rfl; exact view_int)
  refine FCall.of_body Try.func101 rfl (by kernel_rfl) (by simp [Try.ntmps101]) ?_
  refine SW_of_vc Try.mixed _ _ _ (by kernel_rfl) ?_
  have w1 := Try.specMove_ok L it bl hL
  have w2 := Try.specPartitionCost_ok M L hM hR hL
  have hml := moveTo_length L it bl
  rcases pcost_cases M L with hp | ⟨hw, hpt, hl, hp⟩
  · have hg : gain M L it bl = 0 := if_neg (fun h => by rw [hp] at h; omega)
    rw [hp] at w2
    rcases Bool.eq_false_or_eq_true (moveOk L it bl) with hk | hk
    · rw [hk] at w1
      simp (disch := omega) only [Try.ntmps101, Try.results101, go_sem, Nat.reduceLT, Nat.reduceLeDiff, Nat.reduceEqDiff, Nat.reduceAdd, Nat.reduceSub, Nat.reduceMul, reduceIte, ↓reduceIte, reduceCtorEq, Int.reduceToNat, Int.reduceLE, Int.reduceLT, Int.reduceNeg, Int.reduceSub, Int.reduceAdd, Int.reduceMul, rr_eq]
      refine w1.callV 0 (viewL_cons_of (view_rowL (by first | rfl | simp [marks_length, canon_length] | omega)) (viewL_cons_of (view_int) (viewL_cons_of (view_int) viewL_nil_of))) ?_
      simp (disch := omega) only [Try.ntmps101, Try.results101, go_sem, Nat.reduceLT, Nat.reduceLeDiff, Nat.reduceEqDiff, Nat.reduceAdd, Nat.reduceSub, Nat.reduceMul, reduceIte, ↓reduceIte, reduceCtorEq, Int.reduceToNat, Int.reduceLE, Int.reduceLT, Int.reduceNeg, Int.reduceSub, Int.reduceAdd, Int.reduceMul, rr_eq]
      refine w2.callV 0 (viewL_cons_of (view_row) (viewL_cons_of (view_rowL (by first | rfl | simp [marks_length, canon_length] | omega)) viewL_nil_of)) ?_
      simp (disch := omega) only [Try.ntmps101, Try.results101, go_sem, Nat.reduceLT, Nat.reduceLeDiff, Nat.reduceEqDiff, Nat.reduceAdd, Nat.reduceSub, Nat.reduceMul, reduceIte, ↓reduceIte, reduceCtorEq, Int.reduceToNat, Int.reduceLE, Int.reduceLT, Int.reduceNeg, Int.reduceSub, Int.reduceAdd, Int.reduceMul, rr_eq]
      exact Fin.val (by rw [hg])
    · rw [hk] at w1
      simp (disch := omega) only [Try.ntmps101, Try.results101, go_sem, Nat.reduceLT, Nat.reduceLeDiff, Nat.reduceEqDiff, Nat.reduceAdd, Nat.reduceSub, Nat.reduceMul, reduceIte, ↓reduceIte, reduceCtorEq, Int.reduceToNat, Int.reduceLE, Int.reduceLT, Int.reduceNeg, Int.reduceSub, Int.reduceAdd, Int.reduceMul, rr_eq]
      refine w1.callV 0 (viewL_cons_of (view_rowL (by first | rfl | simp [marks_length, canon_length] | omega)) (viewL_cons_of (view_int) (viewL_cons_of (view_int) viewL_nil_of))) ?_
      simp (disch := omega) only [Try.ntmps101, Try.results101, go_sem, Nat.reduceLT, Nat.reduceLeDiff, Nat.reduceEqDiff, Nat.reduceAdd, Nat.reduceSub, Nat.reduceMul, reduceIte, ↓reduceIte, reduceCtorEq, Int.reduceToNat, Int.reduceLE, Int.reduceLT, Int.reduceNeg, Int.reduceSub, Int.reduceAdd, Int.reduceMul, rr_eq]
      refine w2.callV 0 (viewL_cons_of (view_row) (viewL_cons_of (view_rowL (by first | rfl | simp [marks_length, canon_length] | omega)) viewL_nil_of)) ?_
      simp (disch := omega) only [Try.ntmps101, Try.results101, go_sem, Nat.reduceLT, Nat.reduceLeDiff, Nat.reduceEqDiff, Nat.reduceAdd, Nat.reduceSub, Nat.reduceMul, reduceIte, ↓reduceIte, reduceCtorEq, Int.reduceToNat, Int.reduceLE, Int.reduceLT, Int.reduceNeg, Int.reduceSub, Int.reduceAdd, Int.reduceMul, rr_eq]
      exact Fin.val (by rw [hg])
  · have b1 := cc_b (L := L) hw L.length (by omega)
    have b2 := cc_b (L := moveTo L it bl) hw L.length (by omega)
    have hM8 := hw.1.2
    rw [hp] at w2
    rcases Bool.eq_false_or_eq_true (moveOk L it bl) with hk | hk
    · have hg : gain M L it bl = cc M L L.length - cc M (moveTo L it bl) L.length := if_pos ⟨hk, by rw [hp]; omega⟩
      rw [hk] at w1
      have w3 := Try.specPartitionCost_ok M (moveTo L it bl) hM hR (by omega)
      have hp3 : pcost M (moveTo L it bl) = cc M (moveTo L it bl) L.length := by
        rw [pcost, if_pos ⟨isWM_t hw, moveTo_part hk, by omega⟩, hml]
      rw [hp3] at w3
      simp (disch := omega) only [Try.ntmps101, Try.results101, go_sem, Nat.reduceLT, Nat.reduceLeDiff, Nat.reduceEqDiff, Nat.reduceAdd, Nat.reduceSub, Nat.reduceMul, reduceIte, ↓reduceIte, reduceCtorEq, Int.reduceToNat, Int.reduceLE, Int.reduceLT, Int.reduceNeg, Int.reduceSub, Int.reduceAdd, Int.reduceMul, rr_eq]
      refine w1.callV 0 (viewL_cons_of (view_rowL (by first | rfl | simp [marks_length, canon_length] | omega)) (viewL_cons_of (view_int) (viewL_cons_of (view_int) viewL_nil_of))) ?_
      simp (disch := omega) only [Try.ntmps101, Try.results101, go_sem, Nat.reduceLT, Nat.reduceLeDiff, Nat.reduceEqDiff, Nat.reduceAdd, Nat.reduceSub, Nat.reduceMul, reduceIte, ↓reduceIte, reduceCtorEq, Int.reduceToNat, Int.reduceLE, Int.reduceLT, Int.reduceNeg, Int.reduceSub, Int.reduceAdd, Int.reduceMul, rr_eq]
      refine w2.callV 0 (viewL_cons_of (view_row) (viewL_cons_of (view_rowL (by first | rfl | simp [marks_length, canon_length] | omega)) viewL_nil_of)) ?_
      simp (disch := omega) only [Try.ntmps101, Try.results101, go_sem, Nat.reduceLT, Nat.reduceLeDiff, Nat.reduceEqDiff, Nat.reduceAdd, Nat.reduceSub, Nat.reduceMul, reduceIte, ↓reduceIte, reduceCtorEq, Int.reduceToNat, Int.reduceLE, Int.reduceLT, Int.reduceNeg, Int.reduceSub, Int.reduceAdd, Int.reduceMul, rr_eq]
      refine w3.callV 0 (viewL_cons_of (view_row) (viewL_cons_of (view_rowL (by first | rfl | simp [marks_length, canon_length] | omega)) viewL_nil_of)) ?_
      simp (disch := omega) only [Try.ntmps101, Try.results101, go_sem, Nat.reduceLT, Nat.reduceLeDiff, Nat.reduceEqDiff, Nat.reduceAdd, Nat.reduceSub, Nat.reduceMul, reduceIte, ↓reduceIte, reduceCtorEq, Int.reduceToNat, Int.reduceLE, Int.reduceLT, Int.reduceNeg, Int.reduceSub, Int.reduceAdd, Int.reduceMul, rr_eq]
      exact Fin.val (by rw [hg])
    · have hg : gain M L it bl = 0 := if_neg (fun h => by rw [hk] at h; cases h.1)
      rw [hk] at w1
      simp (disch := omega) only [Try.ntmps101, Try.results101, go_sem, Nat.reduceLT, Nat.reduceLeDiff, Nat.reduceEqDiff, Nat.reduceAdd, Nat.reduceSub, Nat.reduceMul, reduceIte, ↓reduceIte, reduceCtorEq, Int.reduceToNat, Int.reduceLE, Int.reduceLT, Int.reduceNeg, Int.reduceSub, Int.reduceAdd, Int.reduceMul, rr_eq]
      refine w1.callV 0 (viewL_cons_of (view_rowL (by first | rfl | simp [marks_length, canon_length] | omega)) (viewL_cons_of (view_int) (viewL_cons_of (view_int) viewL_nil_of))) ?_
      simp (disch := omega) only [Try.ntmps101, Try.results101, go_sem, Nat.reduceLT, Nat.reduceLeDiff, Nat.reduceEqDiff, Nat.reduceAdd, Nat.reduceSub, Nat.reduceMul, reduceIte, ↓reduceIte, reduceCtorEq, Int.reduceToNat, Int.reduceLE, Int.reduceLT, Int.reduceNeg, Int.reduceSub, Int.reduceAdd, Int.reduceMul, rr_eq]
      refine w2.callV 0 (viewL_cons_of (view_row) (viewL_cons_of (view_rowL (by first | rfl | simp [marks_length, canon_length] | omega)) viewL_nil_of)) ?_
      simp (disch := omega) only [Try.ntmps101, Try.results101, go_sem, Nat.reduceLT, Nat.reduceLeDiff, Nat.reduceEqDiff, Nat.reduceAdd, Nat.reduceSub, Nat.reduceMul, reduceIte, ↓reduceIte, reduceCtorEq, Int.reduceToNat, Int.reduceLE, Int.reduceLT, Int.reduceNeg, Int.reduceSub, Int.reduceAdd, Int.reduceMul, rr_eq]
      exact Fin.val (by rw [hg])

end Go.Sh
