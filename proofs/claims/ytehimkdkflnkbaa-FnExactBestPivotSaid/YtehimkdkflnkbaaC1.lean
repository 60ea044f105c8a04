/-
  Contracts: lists of numbers copied and compared; ranges; partitions.
-/
import Derived.Test.YtehimkdkflnkbaaTy
namespace Go.Sh
set_option linter.unusedSimpArgs false
set_option linter.unusedVariables false
open Go Go.Proofs

def inR (x a b : Int) : Bool := decide (a ≤ x) && decide (x ≤ b)

theorem inR_tt {x a b : Int} (h1 : a ≤ x) (h2 : x ≤ b) : inR x a b = true := by simp [inR, h1, h2]
theorem inR_f1 {x a b : Int} (h1 : ¬ a ≤ x) : inR x a b = false := by simp [inR, h1]
theorem inR_f2 {x a b : Int} (h1 : ¬ x ≤ b) : inR x a b = false := by simp [inR, h1]

theorem Try.l1In_ok (x a b : Int) : PCall Try.prog 113 [.val (.int .i64 x), .val (.int .i64 a), .val (.int .i64 b)] (.val (.bool (inR x a b))) := by
  refine FCall.pcall (R := fun r _ => r = .val (.bool (inR x a b))) ?_ 0 (by rintro r H rfl; simp [view, viewV])
  refine FCall.of_body Try.func113 rfl (by kernel_rfl) (by simp [Try.ntmps113]) ?_
  refine SW_of_vc Try.mixed _ _ _ (by kernel_rfl) ?_
  by_cases h1 : a ≤ x
  · by_cases h2 : x ≤ b
    · simp (disch := omega) only [Try.ntmps113, Try.results113, go_sem, Nat.reduceLT, Nat.reduceLeDiff, Nat.reduceEqDiff, Nat.reduceAdd, Nat.reduceSub, Nat.reduceMul, reduceIte, ↓reduceIte, reduceCtorEq, Int.reduceToNat, Int.reduceLE, Int.reduceLT, Int.reduceNeg, Int.reduceSub, Int.reduceAdd, Int.reduceMul]
      exact Fin.val (by rw [inR_tt h1 h2])
    · simp (disch := omega) only [Try.ntmps113, Try.results113, go_sem, Nat.reduceLT, Nat.reduceLeDiff, Nat.reduceEqDiff, Nat.reduceAdd, Nat.reduceSub, Nat.reduceMul, reduceIte, ↓reduceIte, reduceCtorEq, Int.reduceToNat, Int.reduceLE, Int.reduceLT, Int.reduceNeg, Int.reduceSub, Int.reduceAdd, Int.reduceMul]
      exact Fin.val (by rw [inR_f2 h2])
  · simp (disch := omega) only [Try.ntmps113, Try.results113, go_sem, Nat.reduceLT, Nat.reduceLeDiff, Nat.reduceEqDiff, Nat.reduceAdd, Nat.reduceSub, Nat.reduceMul, reduceIte, ↓reduceIte, reduceCtorEq, Int.reduceToNat, Int.reduceLE, Int.reduceLT, Int.reduceNeg, Int.reduceSub, Int.reduceAdd, Int.reduceMul]
    exact Fin.val (by rw [inR_f1 h1])

theorem Try.within_ok (x a b : Int) : PCall Try.prog 117 [.val (.int .i64 x), .val (.int .i64 a), .val (.int .i64 b)] (.val (.bool (inR x a b))) := by
  refine FCall.pcall (R := fun r _ => r = .val (.bool (inR x a b))) ?_ 0 (by rintro r H rfl; simp [view, viewV])
  refine FCall.of_body Try.func117 rfl (by kernel_rfl) (by simp [Try.ntmps117]) ?_
  refine SW_of_vc Try.mixed _ _ _ (by kernel_rfl) ?_
  by_cases h1 : a ≤ x
  · by_cases h2 : x ≤ b
    · simp (disch := omega) only [Try.ntmps117, Try.results117, go_sem, Nat.reduceLT, Nat.reduceLeDiff, Nat.reduceEqDiff, Nat.reduceAdd, Nat.reduceSub, Nat.reduceMul, reduceIte, ↓reduceIte, reduceCtorEq, Int.reduceToNat, Int.reduceLE, Int.reduceLT, Int.reduceNeg, Int.reduceSub, Int.reduceAdd, Int.reduceMul]
      exact Fin.val (by rw [inR_tt h1 h2])
    · simp (disch := omega) only [Try.ntmps117, Try.results117, go_sem, Nat.reduceLT, Nat.reduceLeDiff, Nat.reduceEqDiff, Nat.reduceAdd, Nat.reduceSub, Nat.reduceMul, reduceIte, ↓reduceIte, reduceCtorEq, Int.reduceToNat, Int.reduceLE, Int.reduceLT, Int.reduceNeg, Int.reduceSub, Int.reduceAdd, Int.reduceMul]
      exact Fin.val (by rw [inR_f2 h2])
  · simp (disch := omega) only [Try.ntmps117, Try.results117, go_sem, Nat.reduceLT, Nat.reduceLeDiff, Nat.reduceEqDiff, Nat.reduceAdd, Nat.reduceSub, Nat.reduceMul, reduceIte, ↓reduceIte, reduceCtorEq, Int.reduceToNat, Int.reduceLE, Int.reduceLT, Int.reduceNeg, Int.reduceSub, Int.reduceAdd, Int.reduceMul]
    exact Fin.val (by rw [inR_f1 h1])

def fillTo (L : List Int) (k : Nat) : List Int := L.take k ++ List.replicate (L.length - k) 0
theorem fillTo_zero (L : List Int) : fillTo L 0 = List.replicate L.length 0 := by simp [fillTo]
theorem fillTo_length (L : List Int) (k : Nat) (h : k ≤ L.length) : (fillTo L k).length = L.length := by simp [fillTo]; omega
theorem fillTo_set (L : List Int) (k : Nat) (h : k < L.length) : (fillTo L k).set k (L.getD k 0) = fillTo L (k + 1) := by
  apply List.ext_getElem?
  intro i
  simp [fillTo, List.getElem?_set, List.getElem?_append, List.getElem?_take, List.getElem?_replicate]
  grind
theorem fillTo_all (L : List Int) : fillTo L L.length = L := by simp [fillTo]

set_option maxHeartbeats 1000000 in
theorem Try.toIntS_f (L : List Int) (hL : L.length ≤ 1048576) : FCall Try.prog 19 [ri L] (IntRes L) := by
  refine FCall.of_body Try.func19 rfl (by kernel_rfl) (by simp [Try.ntmps19]) ?_
  refine SW_of_vc Try.mixed _ _ _ (by kernel_rfl) ?_
  simp (disch := omega) only [Try.ntmps19, Try.results19, go_sem, Nat.reduceLT, Nat.reduceLeDiff, Nat.reduceEqDiff, Nat.reduceAdd, Nat.reduceSub, Nat.reduceMul, reduceIte, ↓reduceIte, reduceCtorEq, Int.reduceToNat, Int.reduceLE, Int.reduceLT, Int.reduceNeg, Int.reduceSub, Int.reduceAdd, Int.reduceMul]
  refine LoopW.loop (fun k : Nat => ⟨ofL [(0, ri L), (3, .own 0 0 L.length L.length 1 true), (4, .val (.int .i64 k))], hp [(0, ⟨ints (fillTo L k), true⟩)] 1⟩) (fun k => k ≤ L.length) (fun k => L.length - k) 0 (by omega)
    (Wk.of (by simp only [go_sem, ↓List.forall_mem_cons, List.not_mem_nil, false_implies, implies_true, and_true, true_and, and_self, Nat.reduceEqDiff, reduceIte, ↓reduceIte, ri_eq, Int.natCast_add, Int.cast_ofNat_Int]; try simp) (by simp only [fillTo_zero])) ?_
  intro k hk
  have hf := fillTo_length L k hk
  refine SW_of_vc Try.mixed _ _ _ (by kernel_rfl) ?_
  by_cases hlt : k < L.length
  · simp (disch := omega) only [Try.ntmps19, Try.results19, go_sem, Nat.reduceLT, Nat.reduceLeDiff, Nat.reduceEqDiff, Nat.reduceAdd, Nat.reduceSub, Nat.reduceMul, reduceIte, ↓reduceIte, reduceCtorEq, Int.reduceToNat, Int.reduceLE, Int.reduceLT, Int.reduceNeg, Int.reduceSub, Int.reduceAdd, Int.reduceMul, hf, fillTo_set]
    exact ⟨k + 1, by omega, by omega, Wk.of (by simp only [go_sem, ↓List.forall_mem_cons, List.not_mem_nil, false_implies, implies_true, and_true, true_and, and_self, Nat.reduceEqDiff, reduceIte, ↓reduceIte, ri_eq, Int.natCast_add, Int.cast_ofNat_Int]; try simp) rfl⟩
  · simp (disch := omega) only [Try.ntmps19, Try.results19, go_sem, Nat.reduceLT, Nat.reduceLeDiff, Nat.reduceEqDiff, Nat.reduceAdd, Nat.reduceSub, Nat.reduceMul, reduceIte, ↓reduceIte, reduceCtorEq, Int.reduceToNat, Int.reduceLE, Int.reduceLT, Int.reduceNeg, Int.reduceSub, Int.reduceAdd, Int.reduceMul, hf, fillTo_set]
    obtain rfl : k = L.length := by omega
    rw [fillTo_all]
    exact IntRes.fin (blk := ⟨ints L, true⟩) (by simp [hp, hmap]) (noRowL_ints _) (by rw [List.drop_zero, ← ints_length L, List.take_length]) (by simp [ints])

theorem Try.toIntS_ok (L : List Int) (hL : L.length ≤ 1048576) : PCall Try.prog 19 [ri L] (ri L) :=
  (Try.toIntS_f L hL).pcall 2 (fun _ _ h => h.view)

theorem eq_take_succ {A B : List Int} {k : Nat} (hA : k < A.length) (hB : k < B.length) (h : A.take k = B.take k) (e : A.getD k 0 = B.getD k 0) : A.take (k + 1) = B.take (k + 1) := by
  rw [List.take_succ_eq_append_getElem hA, List.take_succ_eq_append_getElem hB, h]
  simp [hA, hB] at e
  rw [e]

set_option maxHeartbeats 1000000 in
theorem Try.eqIntS_ok (A B : List Int) (hA : A.length ≤ 1099511627776) (hB : B.length ≤ 1099511627776) : PCall Try.prog 23 [ri A, ri B] (.val (.bool (A == B))) := by
  refine FCall.pcall (R := fun r _ => r = .val (.bool (A == B))) ?_ 0 (by rintro r H rfl; simp [view, viewV])
  refine FCall.of_body Try.func23 rfl (by kernel_rfl) (by simp [Try.ntmps23]) ?_
  refine SW_of_vc Try.mixed _ _ _ (by kernel_rfl) ?_
  by_cases hl : A.length = B.length
  · simp (disch := omega) only [Try.ntmps23, Try.results23, go_sem, Nat.reduceLT, Nat.reduceLeDiff, Nat.reduceEqDiff, Nat.reduceAdd, Nat.reduceSub, Nat.reduceMul, reduceIte, ↓reduceIte, reduceCtorEq, Int.reduceToNat, Int.reduceLE, Int.reduceLT, Int.reduceNeg, Int.reduceSub, Int.reduceAdd, Int.reduceMul]
    refine LoopW.loop (fun k : Nat => ⟨ofL [(0, ri A), (1, ri B), (5, .val (.int .i64 k))], hp [] 0⟩) (fun k => k ≤ A.length ∧ A.take k = B.take k) (fun k => A.length - k) 0 ⟨by omega, by simp⟩ (Wk.of (by simp only [go_sem, ↓List.forall_mem_cons, List.not_mem_nil, false_implies, implies_true, and_true, true_and, and_self, Nat.reduceEqDiff, reduceIte, ↓reduceIte, ri_eq, Int.natCast_add, Int.cast_ofNat_Int]; try simp) rfl) ?_
    rintro k ⟨hk, hkk⟩
    refine SW_of_vc Try.mixed _ _ _ (by kernel_rfl) ?_
    by_cases hlt : k < A.length
    · by_cases he : A.getD k 0 = B.getD k 0
      · simp (disch := omega) only [Try.ntmps23, Try.results23, go_sem, Nat.reduceLT, Nat.reduceLeDiff, Nat.reduceEqDiff, Nat.reduceAdd, Nat.reduceSub, Nat.reduceMul, reduceIte, ↓reduceIte, reduceCtorEq, Int.reduceToNat, Int.reduceLE, Int.reduceLT, Int.reduceNeg, Int.reduceSub, Int.reduceAdd, Int.reduceMul]
        exact ⟨k + 1, ⟨by omega, eq_take_succ hlt (by omega) hkk he⟩, by omega, Wk.of (by simp only [go_sem, ↓List.forall_mem_cons, List.not_mem_nil, false_implies, implies_true, and_true, true_and, and_self, Nat.reduceEqDiff, reduceIte, ↓reduceIte, ri_eq, Int.natCast_add, Int.cast_ofNat_Int]; try simp) rfl⟩
      · simp (disch := omega) only [Try.ntmps23, Try.results23, go_sem, Nat.reduceLT, Nat.reduceLeDiff, Nat.reduceEqDiff, Nat.reduceAdd, Nat.reduceSub, Nat.reduceMul, reduceIte, ↓reduceIte, reduceCtorEq, Int.reduceToNat, Int.reduceLE, Int.reduceLT, Int.reduceNeg, Int.reduceSub, Int.reduceAdd, Int.reduceMul]
        refine Fin.val ?_
        have : A ≠ B := fun e => he (by rw [e])
        simp [this]
    · simp (disch := omega) only [Try.ntmps23, Try.results23, go_sem, Nat.reduceLT, Nat.reduceLeDiff, Nat.reduceEqDiff, Nat.reduceAdd, Nat.reduceSub, Nat.reduceMul, reduceIte, ↓reduceIte, reduceCtorEq, Int.reduceToNat, Int.reduceLE, Int.reduceLT, Int.reduceNeg, Int.reduceSub, Int.reduceAdd, Int.reduceMul]
      refine Fin.val ?_
      have h1 : A.take k = A := List.take_of_length_le (by omega)
      have h2 : B.take k = B := List.take_of_length_le (by omega)
      rw [h1, h2] at hkk
      simp [hkk]
  · simp (disch := omega) only [Try.ntmps23, Try.results23, go_sem, Nat.reduceLT, Nat.reduceLeDiff, Nat.reduceEqDiff, Nat.reduceAdd, Nat.reduceSub, Nat.reduceMul, reduceIte, ↓reduceIte, reduceCtorEq, Int.reduceToNat, Int.reduceLE, Int.reduceLT, Int.reduceNeg, Int.reduceSub, Int.reduceAdd, Int.reduceMul]
    refine Fin.val ?_
    have : A ≠ B := fun e => hl (by rw [e])
    simp [this]
end Go.Sh
