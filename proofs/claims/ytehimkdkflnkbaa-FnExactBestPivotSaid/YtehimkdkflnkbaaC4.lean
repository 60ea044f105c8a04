/-
  Contracts: is a list of numbers an order? Of the reference and of the program.
-/
import Derived.Test.YtehimkdkflnkbaaC3
namespace Go.Sh
set_option linter.unusedSimpArgs false
set_option linter.unusedVariables false
open Go Go.Proofs

theorem row_take {L : List Int} {k : Nat} (h : k ≤ L.length) : SV.row k false ((ints L).take k) = ri (L.take k) := by
  rw [ri]; simp [ints, Nat.min_eq_left h]

set_option maxHeartbeats 2000000 in
theorem Try.implIsOrder_ok (n : Int) (L : List Int) (hL : L.length ≤ 1048576) : PCall Try.prog 127 [.val (.int .i64 n), ri L] (.val (.bool (isOrd n L))) := by
  refine FCall.pcall (R := fun r _ => r = .val (.bool (isOrd n L))) ?_ 0 (by rintro r H rfl; simp [view, viewV])
  refine FCall.of_body Try.func127 rfl (by kernel_rfl) (by simp [Try.ntmps127]) ?_
  refine SW_of_vc Try.mixed _ _ _ (by kernel_rfl) ?_
  simp (disch := omega) only [Try.ntmps127, Try.results127, go_sem, Nat.reduceLT, Nat.reduceLeDiff, Nat.reduceEqDiff, Nat.reduceAdd, Nat.reduceSub, Nat.reduceMul, reduceIte, ↓reduceIte, reduceCtorEq, Int.reduceToNat, Int.reduceLE, Int.reduceLT, Int.reduceNeg, Int.reduceSub, Int.reduceAdd, Int.reduceMul]
  refine (Try.within_ok _ _ _).call (by simp [viewL, view, viewV]) ?_
  cases hin : inR n 1 8 with
  | false =>
    simp (disch := omega) only [Try.ntmps127, Try.results127, go_sem, Nat.reduceLT, Nat.reduceLeDiff, Nat.reduceEqDiff, Nat.reduceAdd, Nat.reduceSub, Nat.reduceMul, reduceIte, ↓reduceIte, reduceCtorEq, Int.reduceToNat, Int.reduceLE, Int.reduceLT, Int.reduceNeg, Int.reduceSub, Int.reduceAdd, Int.reduceMul, hin]
    exact Fin.val (by rw [isOrd, hin]; rfl)
  | true =>
    obtain ⟨n1, n2⟩ := inR_of hin
    by_cases hl : (L.length : Int) = n
    · simp (disch := omega) only [Try.ntmps127, Try.results127, go_sem, Nat.reduceLT, Nat.reduceLeDiff, Nat.reduceEqDiff, Nat.reduceAdd, Nat.reduceSub, Nat.reduceMul, reduceIte, ↓reduceIte, reduceCtorEq, Int.reduceToNat, Int.reduceLE, Int.reduceLT, Int.reduceNeg, Int.reduceSub, Int.reduceAdd, Int.reduceMul, hin, hl]
      refine LoopW.loop (fun k : Nat => ⟨ofL [(0, .val (.int .i64 n)), (1, ri L), (16, ri L), (17, .val (.int .i64 n)), (18, .val (.int .i64 k))], hp [] 0⟩) (fun k => k ≤ L.length ∧ okO n [] L = okO n (L.take k) (L.drop k)) (fun k => L.length - k) 0 ⟨by omega, by simp⟩ (Wk.of (by simp only [go_sem, ↓List.forall_mem_cons, List.not_mem_nil, false_implies, implies_true, and_true, true_and, and_self, Nat.reduceEqDiff, reduceIte, ↓reduceIte, ri_eq, Int.natCast_add, Int.cast_ofNat_Int, hl]; try simp) rfl) ?_
      rintro k ⟨hk, hkk⟩
      refine SW_of_vc Try.mixed _ _ _ (by kernel_rfl) ?_
      by_cases hlt : k < L.length
      · simp (disch := omega) only [Try.ntmps127, Try.results127, go_sem, Nat.reduceLT, Nat.reduceLeDiff, Nat.reduceEqDiff, Nat.reduceAdd, Nat.reduceSub, Nat.reduceMul, reduceIte, ↓reduceIte, reduceCtorEq, Int.reduceToNat, Int.reduceLE, Int.reduceLT, Int.reduceNeg, Int.reduceSub, Int.reduceAdd, Int.reduceMul]
        refine (Try.isItem_ok _ _ (by omega) (by omega)).call (by simp [viewL, view, viewV]) ?_
        cases hi : inR (L.getD k 0) 0 (n - 1) with
        | false =>
          simp (disch := omega) only [Try.ntmps127, Try.results127, go_sem, Nat.reduceLT, Nat.reduceLeDiff, Nat.reduceEqDiff, Nat.reduceAdd, Nat.reduceSub, Nat.reduceMul, reduceIte, ↓reduceIte, reduceCtorEq, Int.reduceToNat, Int.reduceLE, Int.reduceLT, Int.reduceNeg, Int.reduceSub, Int.reduceAdd, Int.reduceMul, hi]
          refine Fin.val ?_
          rw [isOrd, hin, hkk, okO_step hlt, hi]; simp
        | true =>
          simp (disch := omega) only [Try.ntmps127, Try.results127, go_sem, Nat.reduceLT, Nat.reduceLeDiff, Nat.reduceEqDiff, Nat.reduceAdd, Nat.reduceSub, Nat.reduceMul, reduceIte, ↓reduceIte, reduceCtorEq, Int.reduceToNat, Int.reduceLE, Int.reduceLT, Int.reduceNeg, Int.reduceSub, Int.reduceAdd, Int.reduceMul, hi, row_take hk]
          refine (Try.slicesContains_ok (L.take k) _ (by simp; omega)).call (by simp [viewL, view, viewV, ri]) ?_
          cases hc : (L.take k).contains (L.getD k 0) with
          | true =>
            simp (disch := omega) only [Try.ntmps127, Try.results127, go_sem, Nat.reduceLT, Nat.reduceLeDiff, Nat.reduceEqDiff, Nat.reduceAdd, Nat.reduceSub, Nat.reduceMul, reduceIte, ↓reduceIte, reduceCtorEq, Int.reduceToNat, Int.reduceLE, Int.reduceLT, Int.reduceNeg, Int.reduceSub, Int.reduceAdd, Int.reduceMul, hc]
            refine Fin.val ?_
            rw [isOrd, hin, hkk, okO_step hlt, hi, hc]; simp
          | false =>
            simp (disch := omega) only [Try.ntmps127, Try.results127, go_sem, Nat.reduceLT, Nat.reduceLeDiff, Nat.reduceEqDiff, Nat.reduceAdd, Nat.reduceSub, Nat.reduceMul, reduceIte, ↓reduceIte, reduceCtorEq, Int.reduceToNat, Int.reduceLE, Int.reduceLT, Int.reduceNeg, Int.reduceSub, Int.reduceAdd, Int.reduceMul, hc]
            refine ⟨k + 1, ⟨by omega, ?_⟩, by omega, Wk.of (by simp only [go_sem, ↓List.forall_mem_cons, List.not_mem_nil, false_implies, implies_true, and_true, true_and, and_self, Nat.reduceEqDiff, reduceIte, ↓reduceIte, ri_eq, Int.natCast_add, Int.cast_ofNat_Int]; try simp) rfl⟩
            rw [hkk, okO_step hlt, hi, hc]; simp
      · simp (disch := omega) only [Try.ntmps127, Try.results127, go_sem, Nat.reduceLT, Nat.reduceLeDiff, Nat.reduceEqDiff, Nat.reduceAdd, Nat.reduceSub, Nat.reduceMul, reduceIte, ↓reduceIte, reduceCtorEq, Int.reduceToNat, Int.reduceLE, Int.reduceLT, Int.reduceNeg, Int.reduceSub, Int.reduceAdd, Int.reduceMul]
        refine Fin.val ?_
        rw [isOrd, hin, hkk, List.drop_eq_nil_of_le (by omega)]; simp [okO, hl]
    · simp (disch := omega) only [Try.ntmps127, Try.results127, go_sem, Nat.reduceLT, Nat.reduceLeDiff, Nat.reduceEqDiff, Nat.reduceAdd, Nat.reduceSub, Nat.reduceMul, reduceIte, ↓reduceIte, reduceCtorEq, Int.reduceToNat, Int.reduceLE, Int.reduceLT, Int.reduceNeg, Int.reduceSub, Int.reduceAdd, Int.reduceMul, hin, hl]
      exact Fin.val (by rw [isOrd, hin]; simp [hl])
end Go.Sh
