/-
  Contracts: is a list of numbers an order? Of the reference.
-/
import Derived.Test.YtehimkdkflnkbaaC4
import Derived.Test.YtehimkdkflnkbaaBits
namespace Go.Sh
set_option linter.unusedSimpArgs false
set_option linter.unusedVariables false
open Go Go.Proofs

set_option maxHeartbeats 2000000 in
theorem Try.specIsOrder_ok (n : Int) (L : List Int) (hL : L.length ≤ 1048576) (g1 : -9223372036854775808 ≤ n) (g2 : n ≤ 9223372036854775807) : PCall Try.prog 125 [.val (.int .i64 n), ri L] (.val (.bool (isOrd n L))) := by
  refine FCall.pcall (R := fun r _ => r = .val (.bool (isOrd n L))) ?_ 0 (by rintro r H rfl; simp [view, viewV])
  refine FCall.of_body Try.func125 rfl (by kernel_rfl) (by simp [Try.ntmps125]) ?_
  refine SW_of_vc Try.mixed _ _ _ (by kernel_rfl) ?_
  simp (disch := omega) only [Try.ntmps125, Try.results125, go_sem, Nat.reduceLT, Nat.reduceLeDiff, Nat.reduceEqDiff, Nat.reduceAdd, Nat.reduceSub, Nat.reduceMul, reduceIte, ↓reduceIte, reduceCtorEq, Int.reduceToNat, Int.reduceLE, Int.reduceLT, Int.reduceNeg, Int.reduceSub, Int.reduceAdd, Int.reduceMul]
  cases hin : inR n 1 8 with
  | true =>
    obtain ⟨n1, n2⟩ := inR_of hin
    refine LoopW.loop (fun p : Nat × Int => ⟨ofL [(0, .val (.int .i64 n)), (1, ri L), (5, .val (.int .i64 p.2)), (6, .val (.int .i64 p.1))], hp [] 0⟩) (fun p => p.1 ≤ L.length ∧ bits p.2 (L.take p.1) ∧ okO n [] L = okO n (L.take p.1) (L.drop p.1)) (fun p => L.length - p.1) (0, 0) ⟨by simp, by simpa using bits_nil, by simp⟩ (Wk.of (by simp only [go_sem, ↓List.forall_mem_cons, List.not_mem_nil, false_implies, implies_true, and_true, true_and, and_self, Nat.reduceEqDiff, reduceIte, ↓reduceIte, ri_eq, Int.natCast_add, Int.cast_ofNat_Int]; try simp) rfl) ?_
    rintro ⟨k, m⟩ ⟨hk, hb, hkk⟩
    simp only at hk hb hkk
    refine SW_of_vc Try.mixed _ _ _ (by kernel_rfl) ?_
    by_cases hlt : k < L.length
    · simp (disch := omega) only [Try.ntmps125, Try.results125, go_sem, Nat.reduceLT, Nat.reduceLeDiff, Nat.reduceEqDiff, Nat.reduceAdd, Nat.reduceSub, Nat.reduceMul, reduceIte, ↓reduceIte, reduceCtorEq, Int.reduceToNat, Int.reduceLE, Int.reduceLT, Int.reduceNeg, Int.reduceSub, Int.reduceAdd, Int.reduceMul]
      refine (Try.l1In_ok _ _ _).call (by simp [viewL, view, viewV]) ?_
      cases hi : inR (L.getD k 0) 0 (n - 1) with
      | false =>
        simp (disch := omega) only [Try.ntmps125, Try.results125, go_sem, Nat.reduceLT, Nat.reduceLeDiff, Nat.reduceEqDiff, Nat.reduceAdd, Nat.reduceSub, Nat.reduceMul, reduceIte, ↓reduceIte, reduceCtorEq, Int.reduceToNat, Int.reduceLE, Int.reduceLT, Int.reduceNeg, Int.reduceSub, Int.reduceAdd, Int.reduceMul, hi]
        refine Fin.val ?_
        rw [isOrd, hin, hkk, okO_step hlt, hi]; simp
      | true =>
        obtain ⟨i1, i2⟩ := inR_of hi
        have hb' := hb.2.2 (L.getD k 0) i1 (by omega)
        by_cases hc : L.getD k 0 ∈ L.take k
        · have e1 := hb'.mpr hc
          have hc' : (L.take k).contains (L.getD k 0) = true := by simpa using hc
          simp (disch := omega) only [Try.ntmps125, Try.results125, go_sem, Nat.reduceLT, Nat.reduceLeDiff, Nat.reduceEqDiff, Nat.reduceAdd, Nat.reduceSub, Nat.reduceMul, reduceIte, ↓reduceIte, reduceCtorEq, Int.reduceToNat, Int.reduceLE, Int.reduceLT, Int.reduceNeg, Int.reduceSub, Int.reduceAdd, Int.reduceMul, hi, e1]
          refine Fin.val ?_
          rw [isOrd, hin, hkk, okO_step hlt, hi, hc']; simp
        · have hc' : (L.take k).contains (L.getD k 0) = false := by simpa using hc
          have e1 : ¬ kand .i64 (kshr .i64 m (L.getD k 0)) 1 = 1 := fun e => hc (hb'.mp e)
          simp (disch := omega) only [Try.ntmps125, Try.results125, go_sem, Nat.reduceLT, Nat.reduceLeDiff, Nat.reduceEqDiff, Nat.reduceAdd, Nat.reduceSub, Nat.reduceMul, reduceIte, ↓reduceIte, reduceCtorEq, Int.reduceToNat, Int.reduceLE, Int.reduceLT, Int.reduceNeg, Int.reduceSub, Int.reduceAdd, Int.reduceMul, hi]
          refine ⟨(k + 1, kor .i64 m (kshl .i64 1 (L.getD k 0))), ⟨by show k + 1 ≤ _; omega, ?_, ?_⟩, by show L.length - (k + 1) < L.length - k; omega, Wk.of (by simp only [go_sem, ↓List.forall_mem_cons, List.not_mem_nil, false_implies, implies_true, and_true, true_and, and_self, Nat.reduceEqDiff, reduceIte, ↓reduceIte, ri_eq, Int.natCast_add, Int.cast_ofNat_Int]; try simp) rfl⟩
          · have := bits_step hb i1 (by omega)
            show bits _ (L.take (k + 1))
            rw [List.take_succ_eq_append_getElem hlt]
            simpa [hlt] using this
          · show _ = okO n (L.take (k + 1)) (L.drop (k + 1))
            rw [hkk, okO_step hlt, hi, hc']; simp
    · simp (disch := omega) only [Try.ntmps125, Try.results125, go_sem, Nat.reduceLT, Nat.reduceLeDiff, Nat.reduceEqDiff, Nat.reduceAdd, Nat.reduceSub, Nat.reduceMul, reduceIte, ↓reduceIte, reduceCtorEq, Int.reduceToNat, Int.reduceLE, Int.reduceLT, Int.reduceNeg, Int.reduceSub, Int.reduceAdd, Int.reduceMul]
      refine (Try.l1In_ok _ _ _).call (by simp [viewL, view, viewV]) ?_
      by_cases hl : (L.length : Int) = n
      · simp (disch := omega) only [Try.ntmps125, Try.results125, go_sem, Nat.reduceLT, Nat.reduceLeDiff, Nat.reduceEqDiff, Nat.reduceAdd, Nat.reduceSub, Nat.reduceMul, reduceIte, ↓reduceIte, reduceCtorEq, Int.reduceToNat, Int.reduceLE, Int.reduceLT, Int.reduceNeg, Int.reduceSub, Int.reduceAdd, Int.reduceMul, hin]
        refine Fin.val ?_
        rw [isOrd, hin, hkk, List.drop_eq_nil_of_le (by omega)]; simp [okO, hl]
      · simp (disch := omega) only [Try.ntmps125, Try.results125, go_sem, Nat.reduceLT, Nat.reduceLeDiff, Nat.reduceEqDiff, Nat.reduceAdd, Nat.reduceSub, Nat.reduceMul, reduceIte, ↓reduceIte, reduceCtorEq, Int.reduceToNat, Int.reduceLE, Int.reduceLT, Int.reduceNeg, Int.reduceSub, Int.reduceAdd, Int.reduceMul, hin]
        refine Fin.val ?_
        rw [isOrd, hin]; simp [hl]
  | false =>
    have hr : isOrd n L = false := by rw [isOrd, hin]; rfl
    rw [hr]
    refine LoopW.loop (fun p : Nat × Int => ⟨ofL [(0, .val (.int .i64 n)), (1, ri L), (5, .val (.int .i64 p.2)), (6, .val (.int .i64 p.1))], hp [] 0⟩) (fun p => p.1 ≤ L.length) (fun p => L.length - p.1) (0, 0) (by simp) (Wk.of (by simp only [go_sem, ↓List.forall_mem_cons, List.not_mem_nil, false_implies, implies_true, and_true, true_and, and_self, Nat.reduceEqDiff, reduceIte, ↓reduceIte, ri_eq, Int.natCast_add, Int.cast_ofNat_Int]; try simp) rfl) ?_
    rintro ⟨k, m⟩ hk
    simp only at hk
    refine SW_of_vc Try.mixed _ _ _ (by kernel_rfl) ?_
    by_cases hlt : k < L.length
    · simp (disch := omega) only [Try.ntmps125, Try.results125, go_sem, Nat.reduceLT, Nat.reduceLeDiff, Nat.reduceEqDiff, Nat.reduceAdd, Nat.reduceSub, Nat.reduceMul, reduceIte, ↓reduceIte, reduceCtorEq, Int.reduceToNat, Int.reduceLE, Int.reduceLT, Int.reduceNeg, Int.reduceSub, Int.reduceAdd, Int.reduceMul]
      refine (Try.l1In_ok _ _ _).call (by simp [viewL, view, viewV]) ?_
      cases hi : inR (L.getD k 0) 0 (IntKind.i64.wrap (n - 1)) with
      | false =>
        simp (disch := omega) only [Try.ntmps125, Try.results125, go_sem, Nat.reduceLT, Nat.reduceLeDiff, Nat.reduceEqDiff, Nat.reduceAdd, Nat.reduceSub, Nat.reduceMul, reduceIte, ↓reduceIte, reduceCtorEq, Int.reduceToNat, Int.reduceLE, Int.reduceLT, Int.reduceNeg, Int.reduceSub, Int.reduceAdd, Int.reduceMul, hi]
        exact Fin.val rfl
      | true =>
        obtain ⟨i1, _⟩ := inR_of hi
        by_cases h8 : 8 < n
        · simp (disch := omega) only [Try.ntmps125, Try.results125, go_sem, Nat.reduceLT, Nat.reduceLeDiff, Nat.reduceEqDiff, Nat.reduceAdd, Nat.reduceSub, Nat.reduceMul, reduceIte, ↓reduceIte, reduceCtorEq, Int.reduceToNat, Int.reduceLE, Int.reduceLT, Int.reduceNeg, Int.reduceSub, Int.reduceAdd, Int.reduceMul, hi]
          exact Fin.val rfl
        · by_cases e1 : kand .i64 (kshr .i64 m (L.getD k 0)) 1 = 1
          · simp (disch := omega) only [Try.ntmps125, Try.results125, go_sem, Nat.reduceLT, Nat.reduceLeDiff, Nat.reduceEqDiff, Nat.reduceAdd, Nat.reduceSub, Nat.reduceMul, reduceIte, ↓reduceIte, reduceCtorEq, Int.reduceToNat, Int.reduceLE, Int.reduceLT, Int.reduceNeg, Int.reduceSub, Int.reduceAdd, Int.reduceMul, hi, e1]
            exact Fin.val rfl
          · simp (disch := omega) only [Try.ntmps125, Try.results125, go_sem, Nat.reduceLT, Nat.reduceLeDiff, Nat.reduceEqDiff, Nat.reduceAdd, Nat.reduceSub, Nat.reduceMul, reduceIte, ↓reduceIte, reduceCtorEq, Int.reduceToNat, Int.reduceLE, Int.reduceLT, Int.reduceNeg, Int.reduceSub, Int.reduceAdd, Int.reduceMul, hi]
            exact ⟨(k + 1, kor .i64 m (kshl .i64 1 (L.getD k 0))), by show k + 1 ≤ _; omega, by show L.length - (k + 1) < L.length - k; omega, Wk.of (by simp only [go_sem, ↓List.forall_mem_cons, List.not_mem_nil, false_implies, implies_true, and_true, true_and, and_self, Nat.reduceEqDiff, reduceIte, ↓reduceIte, ri_eq, Int.natCast_add, Int.cast_ofNat_Int]; try simp) rfl⟩
    · simp (disch := omega) only [Try.ntmps125, Try.results125, go_sem, Nat.reduceLT, Nat.reduceLeDiff, Nat.reduceEqDiff, Nat.reduceAdd, Nat.reduceSub, Nat.reduceMul, reduceIte, ↓reduceIte, reduceCtorEq, Int.reduceToNat, Int.reduceLE, Int.reduceLT, Int.reduceNeg, Int.reduceSub, Int.reduceAdd, Int.reduceMul]
      refine (Try.l1In_ok _ _ _).call (by simp [viewL, view, viewV]) ?_
      simp (disch := omega) only [Try.ntmps125, Try.results125, go_sem, Nat.reduceLT, Nat.reduceLeDiff, Nat.reduceEqDiff, Nat.reduceAdd, Nat.reduceSub, Nat.reduceMul, reduceIte, ↓reduceIte, reduceCtorEq, Int.reduceToNat, Int.reduceLE, Int.reduceLT, Int.reduceNeg, Int.reduceSub, Int.reduceAdd, Int.reduceMul, hin]
      exact Fin.val rfl
end Go.Sh
