/-
  Texts put together: G3, BA1, MX, N1, N2, N3, N4, N5, M0, S1, S2. What each proves stands at its own head, with its conditions.
-/
import Derived.Test.YthkkipbdebgghaaZFnLocal2

/-
  Contracts: does a partition keep constraints? Of the reference and of the program.
-/
namespace Go.Sh
set_option linter.unusedSimpArgs false
set_option linter.unusedVariables false
open Go Go.Proofs

def kp (L : List Int) (c : Con) : Bool := inR c.1 0 ((L.length : Int) - 1) && (inR c.2.1 0 ((L.length : Int) - 1) && (decide (L.getD c.1.toNat 0 = L.getD c.2.1.toNat 0) == c.2.2))

set_option maxHeartbeats 1000000 in
theorem Try.keepsFn_ok (L : List Int) (a b : Int) (s : Bool) (hL : L.length ≤ 1048576) :
    PCall Try.prog 175 [.agg [.val (.int .i64 a), .val (.int .i64 b), .val (.bool s)], .rptr [ri L] 0] (.val (.bool (!kp L (a, b, s)))) := by
  refine FCall.pcall (R := fun r _ => r = .val (.bool (!kp L (a, b, s)))) ?_ 0 (by rintro r H rfl; exact view_bool)
  refine FCall.of_body Try.func175 rfl (by kernel_rfl) (by simp [Try.ntmps175]) ?_
  refine SW_of_vc Try.mixed _ _ _ (by kernel_rfl) ?_
  have w1 := Try.isItem_ok a (L.length : Int) (by omega) (by omega)
  have w2 := Try.isItem_ok b (L.length : Int) (by omega) (by omega)
  rcases Bool.eq_false_or_eq_true (inR a 0 ((L.length : Int) - 1)) with ha | ha
  · obtain ⟨a1, a2⟩ := inR_of ha
    rcases Bool.eq_false_or_eq_true (inR b 0 ((L.length : Int) - 1)) with hb | hb
    · obtain ⟨b1, b2⟩ := inR_of hb
      rw [ha] at w1
      rw [hb] at w2
      by_cases he : L.getD a.toNat 0 = L.getD b.toNat 0
      · cases s <;> (simp (disch := omega) only [Try.ntmps175, Try.results175, go_sem, Nat.reduceLT, Nat.reduceLeDiff, Nat.reduceEqDiff, Nat.reduceAdd, Nat.reduceSub, Nat.reduceMul, reduceIte, ↓reduceIte, reduceCtorEq, Int.reduceToNat, Int.reduceLE, Int.reduceLT, Int.reduceNeg, Int.reduceSub, Int.reduceAdd, Int.reduceMul]; refine w1.callDV 0 (viewL_cons_of (view_int) (viewL_cons_of (view_int) viewL_nil_of)) ?_; simp (disch := omega) only [Try.ntmps175, Try.results175, go_sem, Nat.reduceLT, Nat.reduceLeDiff, Nat.reduceEqDiff, Nat.reduceAdd, Nat.reduceSub, Nat.reduceMul, reduceIte, ↓reduceIte, reduceCtorEq, Int.reduceToNat, Int.reduceLE, Int.reduceLT, Int.reduceNeg, Int.reduceSub, Int.reduceAdd, Int.reduceMul]; refine w2.callDV 0 (viewL_cons_of (view_int) (viewL_cons_of (view_int) viewL_nil_of)) ?_; simp (disch := omega) only [Try.ntmps175, Try.results175, go_sem, Nat.reduceLT, Nat.reduceLeDiff, Nat.reduceEqDiff, Nat.reduceAdd, Nat.reduceSub, Nat.reduceMul, reduceIte, ↓reduceIte, reduceCtorEq, Int.reduceToNat, Int.reduceLE, Int.reduceLT, Int.reduceNeg, Int.reduceSub, Int.reduceAdd, Int.reduceMul, he]; exact Fin.val (by rw [kp]; simp only [ha, hb, he]; simp))
      · cases s <;> (simp (disch := omega) only [Try.ntmps175, Try.results175, go_sem, Nat.reduceLT, Nat.reduceLeDiff, Nat.reduceEqDiff, Nat.reduceAdd, Nat.reduceSub, Nat.reduceMul, reduceIte, ↓reduceIte, reduceCtorEq, Int.reduceToNat, Int.reduceLE, Int.reduceLT, Int.reduceNeg, Int.reduceSub, Int.reduceAdd, Int.reduceMul]; refine w1.callDV 0 (viewL_cons_of (view_int) (viewL_cons_of (view_int) viewL_nil_of)) ?_; simp (disch := omega) only [Try.ntmps175, Try.results175, go_sem, Nat.reduceLT, Nat.reduceLeDiff, Nat.reduceEqDiff, Nat.reduceAdd, Nat.reduceSub, Nat.reduceMul, reduceIte, ↓reduceIte, reduceCtorEq, Int.reduceToNat, Int.reduceLE, Int.reduceLT, Int.reduceNeg, Int.reduceSub, Int.reduceAdd, Int.reduceMul]; refine w2.callDV 0 (viewL_cons_of (view_int) (viewL_cons_of (view_int) viewL_nil_of)) ?_; simp (disch := omega) only [Try.ntmps175, Try.results175, go_sem, Nat.reduceLT, Nat.reduceLeDiff, Nat.reduceEqDiff, Nat.reduceAdd, Nat.reduceSub, Nat.reduceMul, reduceIte, ↓reduceIte, reduceCtorEq, Int.reduceToNat, Int.reduceLE, Int.reduceLT, Int.reduceNeg, Int.reduceSub, Int.reduceAdd, Int.reduceMul]; exact Fin.val (by rw [kp]; simp only [ha, hb, he]; simp))
    · rw [ha] at w1
      rw [hb] at w2
      simp (disch := omega) only [Try.ntmps175, Try.results175, go_sem, Nat.reduceLT, Nat.reduceLeDiff, Nat.reduceEqDiff, Nat.reduceAdd, Nat.reduceSub, Nat.reduceMul, reduceIte, ↓reduceIte, reduceCtorEq, Int.reduceToNat, Int.reduceLE, Int.reduceLT, Int.reduceNeg, Int.reduceSub, Int.reduceAdd, Int.reduceMul]
      refine w1.callDV 0 (viewL_cons_of (view_int) (viewL_cons_of (view_int) viewL_nil_of)) ?_
      simp (disch := omega) only [Try.ntmps175, Try.results175, go_sem, Nat.reduceLT, Nat.reduceLeDiff, Nat.reduceEqDiff, Nat.reduceAdd, Nat.reduceSub, Nat.reduceMul, reduceIte, ↓reduceIte, reduceCtorEq, Int.reduceToNat, Int.reduceLE, Int.reduceLT, Int.reduceNeg, Int.reduceSub, Int.reduceAdd, Int.reduceMul]
      refine w2.callDV 0 (viewL_cons_of (view_int) (viewL_cons_of (view_int) viewL_nil_of)) ?_
      simp (disch := omega) only [Try.ntmps175, Try.results175, go_sem, Nat.reduceLT, Nat.reduceLeDiff, Nat.reduceEqDiff, Nat.reduceAdd, Nat.reduceSub, Nat.reduceMul, reduceIte, ↓reduceIte, reduceCtorEq, Int.reduceToNat, Int.reduceLE, Int.reduceLT, Int.reduceNeg, Int.reduceSub, Int.reduceAdd, Int.reduceMul]
      exact Fin.val (by simp [kp, hb])
  · rw [ha] at w1
    simp (disch := omega) only [Try.ntmps175, Try.results175, go_sem, Nat.reduceLT, Nat.reduceLeDiff, Nat.reduceEqDiff, Nat.reduceAdd, Nat.reduceSub, Nat.reduceMul, reduceIte, ↓reduceIte, reduceCtorEq, Int.reduceToNat, Int.reduceLE, Int.reduceLT, Int.reduceNeg, Int.reduceSub, Int.reduceAdd, Int.reduceMul]
    refine w1.callDV 0 (viewL_cons_of (view_int) (viewL_cons_of (view_int) viewL_nil_of)) ?_
    simp (disch := omega) only [Try.ntmps175, Try.results175, go_sem, Nat.reduceLT, Nat.reduceLeDiff, Nat.reduceEqDiff, Nat.reduceAdd, Nat.reduceSub, Nat.reduceMul, reduceIte, ↓reduceIte, reduceCtorEq, Int.reduceToNat, Int.reduceLE, Int.reduceLT, Int.reduceNeg, Int.reduceSub, Int.reduceAdd, Int.reduceMul]
    exact Fin.val (by simp [kp, ha])

theorem Try.keeps_ok (L : List Int) (C : List Con) (hL : L.length ≤ 1048576) (hC : C.length ≤ 1048576) : PCall Try.prog 135 [ri L, rc C] (.val (.bool (C.all (kp L)))) := by
  refine FCall.pcall (R := fun r _ => r = .val (.bool (C.all (kp L)))) ?_ 0 (by rintro r H rfl; exact view_bool)
  refine FCall.of_body Try.func135 rfl (by kernel_rfl) (by simp [Try.ntmps135]) ?_
  refine SW_of_vc Try.mixed _ _ _ (by kernel_rfl) ?_
  simp (disch := omega) only [Try.ntmps135, Try.results135, go_sem, Nat.reduceLT, Nat.reduceLeDiff, Nat.reduceEqDiff, Nat.reduceAdd, Nat.reduceSub, Nat.reduceMul, reduceIte, ↓reduceIte, reduceCtorEq, Int.reduceToNat, Int.reduceLE, Int.reduceLT, Int.reduceNeg, Int.reduceSub, Int.reduceAdd, Int.reduceMul, rc]
  refine (Try.containsFunc_ok 175 [.rptr [ri L] 0] C (fun c => !kp L c) hC (cap_rptr _ _) (fun a b s => Try.keepsFn_ok L a b s hL)).callV 2
    (viewL_cons_of view_row (viewL_cons_of (view_clos (viewL_cons_of (view_optr rfl (viewL_cons_of (view_rowL rfl) viewL_nil_of)) viewL_nil_of)) viewL_nil_of)) ?_
  simp (disch := omega) only [Try.ntmps135, Try.results135, go_sem, Nat.reduceLT, Nat.reduceLeDiff, Nat.reduceEqDiff, Nat.reduceAdd, Nat.reduceSub, Nat.reduceMul, reduceIte, ↓reduceIte, reduceCtorEq, Int.reduceToNat, Int.reduceLE, Int.reduceLT, Int.reduceNeg, Int.reduceSub, Int.reduceAdd, Int.reduceMul]
  exact Fin.val (by rw [not_any_not])

theorem Try.implKeepsConstraints_ok (L : List Int) (C : List Con) (hL : L.length ≤ 1048576) (hC : C.length ≤ 1048576) : PCall Try.prog 67 [ri L, rc C] (.val (.bool (isPart L && C.all (kp L)))) := by
  refine FCall.pcall (R := fun r _ => r = .val (.bool (isPart L && C.all (kp L)))) ?_ 0 (by rintro r H rfl; exact view_bool)
  refine FCall.of_body Try.func67 rfl (by kernel_rfl) (by simp [Try.ntmps67]) ?_
  refine SW_of_vc Try.mixed _ _ _ (by kernel_rfl) ?_
  have w1 := Try.implIsPartition_ok L hL
  rcases Bool.eq_false_or_eq_true (isPart L) with hp | hp
  · rw [hp] at w1
    simp (disch := omega) only [Try.ntmps67, Try.results67, go_sem, Nat.reduceLT, Nat.reduceLeDiff, Nat.reduceEqDiff, Nat.reduceAdd, Nat.reduceSub, Nat.reduceMul, reduceIte, ↓reduceIte, reduceCtorEq, Int.reduceToNat, Int.reduceLE, Int.reduceLT, Int.reduceNeg, Int.reduceSub, Int.reduceAdd, Int.reduceMul, rc]
    refine w1.callV 0 (viewL_cons_of (view_rowL (by first | rfl | simp [marks_length, canon_length] | omega)) viewL_nil_of) ?_
    simp (disch := omega) only [Try.ntmps67, Try.results67, go_sem, Nat.reduceLT, Nat.reduceLeDiff, Nat.reduceEqDiff, Nat.reduceAdd, Nat.reduceSub, Nat.reduceMul, reduceIte, ↓reduceIte, reduceCtorEq, Int.reduceToNat, Int.reduceLE, Int.reduceLT, Int.reduceNeg, Int.reduceSub, Int.reduceAdd, Int.reduceMul, rc]
    refine (Try.keeps_ok L C hL hC).callV 0 (viewL_cons_of (view_rowL (by first | rfl | simp [marks_length, canon_length] | omega)) (viewL_cons_of (view_row) viewL_nil_of)) ?_
    simp (disch := omega) only [Try.ntmps67, Try.results67, go_sem, Nat.reduceLT, Nat.reduceLeDiff, Nat.reduceEqDiff, Nat.reduceAdd, Nat.reduceSub, Nat.reduceMul, reduceIte, ↓reduceIte, reduceCtorEq, Int.reduceToNat, Int.reduceLE, Int.reduceLT, Int.reduceNeg, Int.reduceSub, Int.reduceAdd, Int.reduceMul, rc]
    exact Fin.val (by simp [hp])
  · rw [hp] at w1
    simp (disch := omega) only [Try.ntmps67, Try.results67, go_sem, Nat.reduceLT, Nat.reduceLeDiff, Nat.reduceEqDiff, Nat.reduceAdd, Nat.reduceSub, Nat.reduceMul, reduceIte, ↓reduceIte, reduceCtorEq, Int.reduceToNat, Int.reduceLE, Int.reduceLT, Int.reduceNeg, Int.reduceSub, Int.reduceAdd, Int.reduceMul, rc]
    refine w1.callV 0 (viewL_cons_of (view_rowL (by first | rfl | simp [marks_length, canon_length] | omega)) viewL_nil_of) ?_
    simp (disch := omega) only [Try.ntmps67, Try.results67, go_sem, Nat.reduceLT, Nat.reduceLeDiff, Nat.reduceEqDiff, Nat.reduceAdd, Nat.reduceSub, Nat.reduceMul, reduceIte, ↓reduceIte, reduceCtorEq, Int.reduceToNat, Int.reduceLE, Int.reduceLT, Int.reduceNeg, Int.reduceSub, Int.reduceAdd, Int.reduceMul, rc]
    exact Fin.val (by simp [hp])

set_option maxHeartbeats 4000000 in
theorem Try.specKeepsConstraints_ok (L : List Int) (C : List Con) (hL : L.length ≤ 1048576) (hC : C.length ≤ 1048576) : PCall Try.prog 66 [ri L, rc C] (.val (.bool (isPart L && C.all (kp L)))) := by
  refine FCall.pcall (R := fun r _ => r = .val (.bool (isPart L && C.all (kp L)))) ?_ 0 (by rintro r H rfl; exact view_bool)
  refine FCall.of_body Try.func66 rfl (by kernel_rfl) (by simp [Try.ntmps66]) ?_
  refine SW_of_vc Try.mixed _ _ _ (by kernel_rfl) ?_
  have lC := cons_length C
  simp (disch := omega) only [Try.ntmps66, Try.results66, go_sem, Nat.reduceLT, Nat.reduceLeDiff, Nat.reduceEqDiff, Nat.reduceAdd, Nat.reduceSub, Nat.reduceMul, reduceIte, ↓reduceIte, reduceCtorEq, Int.reduceToNat, Int.reduceLE, Int.reduceLT, Int.reduceNeg, Int.reduceSub, Int.reduceAdd, Int.reduceMul, rc]
  have hbad : ∀ k, k < C.length → kp L (cg C k) = false → (isPart L && C.all (kp L)) = false := by
    intro k hk hg
    have : C.all (kp L) = false := by
      rw [List.all_eq_false]
      exact ⟨C[k], List.getElem_mem hk, by simpa [cg, hk] using hg⟩
    simp [this]
  refine LoopW.loop (fun k : Nat => ⟨ofL [(0, ri L), (1, rc C), (5, .val (.int .i64 k))], hp [] 0⟩) (fun k => k ≤ C.length ∧ (∀ i, i < k → kp L (cg C i) = true)) (fun k => C.length - k) 0 ⟨by omega, by simp⟩ (Wk.of (by simp only [go_sem, ↓List.forall_mem_cons, List.not_mem_nil, false_implies, implies_true, and_true, true_and, and_self, Nat.reduceEqDiff, reduceIte, ↓reduceIte, ri_eq, Int.natCast_add, Int.cast_ofNat_Int, rc]; try simp) rfl) ?_
  rintro k ⟨hk, hkk⟩
  refine SW_of_vc Try.mixed _ _ _ (by kernel_rfl) ?_
  by_cases hlt : k < C.length
  · obtain ⟨a, b, s, hc⟩ := con_ex C k
    obtain ⟨q0, q1, q2, _⟩ := cons_of hlt hc
    have w1 := Try.l1In_ok a 0 ((L.length : Int) - 1)
    have w2 := Try.l1In_ok b 0 ((L.length : Int) - 1)
    have hb0 := hbad k hlt
    rw [hc] at hb0
    rcases Bool.eq_false_or_eq_true (inR a 0 ((L.length : Int) - 1)) with ha | ha
    · obtain ⟨a1, a2⟩ := inR_of ha
      rcases Bool.eq_false_or_eq_true (inR b 0 ((L.length : Int) - 1)) with hb | hb
      · obtain ⟨b1, b2⟩ := inR_of hb
        rw [ha] at w1
        rw [hb] at w2
        by_cases hs : (decide (L.getD a.toNat 0 = L.getD b.toNat 0) == s) = true
        · have hkp : kp L (a, b, s) = true := by rw [kp]; simp only [ha, hb, hs]; rfl
          have hnew : ∀ i, i < k + 1 → kp L (cg C i) = true := by
            intro i hi
            rcases Nat.lt_succ_iff_lt_or_eq.mp hi with h' | rfl
            · exact hkk i h'
            · rw [hc]; exact hkp
          by_cases he : L.getD a.toNat 0 = L.getD b.toNat 0
          · obtain rfl : s = true := by
              rw [decide_eq_true he] at hs
              cases s with
              | false => cases hs
              | true => rfl
            simp (disch := omega) only [Try.ntmps66, Try.results66, go_sem, Nat.reduceLT, Nat.reduceLeDiff, Nat.reduceEqDiff, Nat.reduceAdd, Nat.reduceSub, Nat.reduceMul, reduceIte, ↓reduceIte, reduceCtorEq, Int.reduceToNat, Int.reduceLE, Int.reduceLT, Int.reduceNeg, Int.reduceSub, Int.reduceAdd, Int.reduceMul, rc, q0, q1, q2]
            refine w1.callDV 0 (viewL_cons_of (view_int) (viewL_cons_of (view_int) (viewL_cons_of (view_int) viewL_nil_of))) ?_
            simp (disch := omega) only [Try.ntmps66, Try.results66, go_sem, Nat.reduceLT, Nat.reduceLeDiff, Nat.reduceEqDiff, Nat.reduceAdd, Nat.reduceSub, Nat.reduceMul, reduceIte, ↓reduceIte, reduceCtorEq, Int.reduceToNat, Int.reduceLE, Int.reduceLT, Int.reduceNeg, Int.reduceSub, Int.reduceAdd, Int.reduceMul, rc, q0, q1, q2]
            refine w2.callDV 0 (viewL_cons_of (view_int) (viewL_cons_of (view_int) (viewL_cons_of (view_int) viewL_nil_of))) ?_
            simp (disch := omega) only [Try.ntmps66, Try.results66, go_sem, Nat.reduceLT, Nat.reduceLeDiff, Nat.reduceEqDiff, Nat.reduceAdd, Nat.reduceSub, Nat.reduceMul, reduceIte, ↓reduceIte, reduceCtorEq, Int.reduceToNat, Int.reduceLE, Int.reduceLT, Int.reduceNeg, Int.reduceSub, Int.reduceAdd, Int.reduceMul, rc, q0, q1, q2, he]
            exact ⟨k + 1, ⟨by omega, hnew⟩, by omega, Wk.of (by simp only [go_sem, ↓List.forall_mem_cons, List.not_mem_nil, false_implies, implies_true, and_true, true_and, and_self, Nat.reduceEqDiff, reduceIte, ↓reduceIte, ri_eq, Int.natCast_add, Int.cast_ofNat_Int, rc]; try simp) rfl⟩
          · obtain rfl : s = false := by
              rw [decide_eq_false he] at hs
              cases s with
              | false => rfl
              | true => cases hs
            simp (disch := omega) only [Try.ntmps66, Try.results66, go_sem, Nat.reduceLT, Nat.reduceLeDiff, Nat.reduceEqDiff, Nat.reduceAdd, Nat.reduceSub, Nat.reduceMul, reduceIte, ↓reduceIte, reduceCtorEq, Int.reduceToNat, Int.reduceLE, Int.reduceLT, Int.reduceNeg, Int.reduceSub, Int.reduceAdd, Int.reduceMul, rc, q0, q1, q2]
            refine w1.callDV 0 (viewL_cons_of (view_int) (viewL_cons_of (view_int) (viewL_cons_of (view_int) viewL_nil_of))) ?_
            simp (disch := omega) only [Try.ntmps66, Try.results66, go_sem, Nat.reduceLT, Nat.reduceLeDiff, Nat.reduceEqDiff, Nat.reduceAdd, Nat.reduceSub, Nat.reduceMul, reduceIte, ↓reduceIte, reduceCtorEq, Int.reduceToNat, Int.reduceLE, Int.reduceLT, Int.reduceNeg, Int.reduceSub, Int.reduceAdd, Int.reduceMul, rc, q0, q1, q2]
            refine w2.callDV 0 (viewL_cons_of (view_int) (viewL_cons_of (view_int) (viewL_cons_of (view_int) viewL_nil_of))) ?_
            simp (disch := omega) only [Try.ntmps66, Try.results66, go_sem, Nat.reduceLT, Nat.reduceLeDiff, Nat.reduceEqDiff, Nat.reduceAdd, Nat.reduceSub, Nat.reduceMul, reduceIte, ↓reduceIte, reduceCtorEq, Int.reduceToNat, Int.reduceLE, Int.reduceLT, Int.reduceNeg, Int.reduceSub, Int.reduceAdd, Int.reduceMul, rc, q0, q1, q2]
            exact ⟨k + 1, ⟨by omega, hnew⟩, by omega, Wk.of (by simp only [go_sem, ↓List.forall_mem_cons, List.not_mem_nil, false_implies, implies_true, and_true, true_and, and_self, Nat.reduceEqDiff, reduceIte, ↓reduceIte, ri_eq, Int.natCast_add, Int.cast_ofNat_Int, rc]; try simp) rfl⟩
        · have hs : (decide (L.getD a.toNat 0 = L.getD b.toNat 0) == s) = false := by simpa using hs
          have hkp : kp L (a, b, s) = false := by rw [kp]; simp only [hs, Bool.and_false]
          by_cases he : L.getD a.toNat 0 = L.getD b.toNat 0
          · obtain rfl : s = false := by
              rw [decide_eq_true he] at hs
              cases s with
              | false => rfl
              | true => cases hs
            simp (disch := omega) only [Try.ntmps66, Try.results66, go_sem, Nat.reduceLT, Nat.reduceLeDiff, Nat.reduceEqDiff, Nat.reduceAdd, Nat.reduceSub, Nat.reduceMul, reduceIte, ↓reduceIte, reduceCtorEq, Int.reduceToNat, Int.reduceLE, Int.reduceLT, Int.reduceNeg, Int.reduceSub, Int.reduceAdd, Int.reduceMul, rc, q0, q1, q2]
            refine w1.callDV 0 (viewL_cons_of (view_int) (viewL_cons_of (view_int) (viewL_cons_of (view_int) viewL_nil_of))) ?_
            simp (disch := omega) only [Try.ntmps66, Try.results66, go_sem, Nat.reduceLT, Nat.reduceLeDiff, Nat.reduceEqDiff, Nat.reduceAdd, Nat.reduceSub, Nat.reduceMul, reduceIte, ↓reduceIte, reduceCtorEq, Int.reduceToNat, Int.reduceLE, Int.reduceLT, Int.reduceNeg, Int.reduceSub, Int.reduceAdd, Int.reduceMul, rc, q0, q1, q2]
            refine w2.callDV 0 (viewL_cons_of (view_int) (viewL_cons_of (view_int) (viewL_cons_of (view_int) viewL_nil_of))) ?_
            simp (disch := omega) only [Try.ntmps66, Try.results66, go_sem, Nat.reduceLT, Nat.reduceLeDiff, Nat.reduceEqDiff, Nat.reduceAdd, Nat.reduceSub, Nat.reduceMul, reduceIte, ↓reduceIte, reduceCtorEq, Int.reduceToNat, Int.reduceLE, Int.reduceLT, Int.reduceNeg, Int.reduceSub, Int.reduceAdd, Int.reduceMul, rc, q0, q1, q2, he]
            exact Fin.val (by rw [hb0 hkp])
          · obtain rfl : s = true := by
              rw [decide_eq_false he] at hs
              cases s with
              | false => cases hs
              | true => rfl
            simp (disch := omega) only [Try.ntmps66, Try.results66, go_sem, Nat.reduceLT, Nat.reduceLeDiff, Nat.reduceEqDiff, Nat.reduceAdd, Nat.reduceSub, Nat.reduceMul, reduceIte, ↓reduceIte, reduceCtorEq, Int.reduceToNat, Int.reduceLE, Int.reduceLT, Int.reduceNeg, Int.reduceSub, Int.reduceAdd, Int.reduceMul, rc, q0, q1, q2]
            refine w1.callDV 0 (viewL_cons_of (view_int) (viewL_cons_of (view_int) (viewL_cons_of (view_int) viewL_nil_of))) ?_
            simp (disch := omega) only [Try.ntmps66, Try.results66, go_sem, Nat.reduceLT, Nat.reduceLeDiff, Nat.reduceEqDiff, Nat.reduceAdd, Nat.reduceSub, Nat.reduceMul, reduceIte, ↓reduceIte, reduceCtorEq, Int.reduceToNat, Int.reduceLE, Int.reduceLT, Int.reduceNeg, Int.reduceSub, Int.reduceAdd, Int.reduceMul, rc, q0, q1, q2]
            refine w2.callDV 0 (viewL_cons_of (view_int) (viewL_cons_of (view_int) (viewL_cons_of (view_int) viewL_nil_of))) ?_
            simp (disch := omega) only [Try.ntmps66, Try.results66, go_sem, Nat.reduceLT, Nat.reduceLeDiff, Nat.reduceEqDiff, Nat.reduceAdd, Nat.reduceSub, Nat.reduceMul, reduceIte, ↓reduceIte, reduceCtorEq, Int.reduceToNat, Int.reduceLE, Int.reduceLT, Int.reduceNeg, Int.reduceSub, Int.reduceAdd, Int.reduceMul, rc, q0, q1, q2]
            exact Fin.val (by rw [hb0 hkp])
      · have hkp : kp L (a, b, s) = false := by rw [kp]; simp only [hb, Bool.false_and, Bool.and_false]
        rw [ha] at w1
        rw [hb] at w2
        simp (disch := omega) only [Try.ntmps66, Try.results66, go_sem, Nat.reduceLT, Nat.reduceLeDiff, Nat.reduceEqDiff, Nat.reduceAdd, Nat.reduceSub, Nat.reduceMul, reduceIte, ↓reduceIte, reduceCtorEq, Int.reduceToNat, Int.reduceLE, Int.reduceLT, Int.reduceNeg, Int.reduceSub, Int.reduceAdd, Int.reduceMul, rc, q0, q1, q2]
        refine w1.callDV 0 (viewL_cons_of (view_int) (viewL_cons_of (view_int) (viewL_cons_of (view_int) viewL_nil_of))) ?_
        simp (disch := omega) only [Try.ntmps66, Try.results66, go_sem, Nat.reduceLT, Nat.reduceLeDiff, Nat.reduceEqDiff, Nat.reduceAdd, Nat.reduceSub, Nat.reduceMul, reduceIte, ↓reduceIte, reduceCtorEq, Int.reduceToNat, Int.reduceLE, Int.reduceLT, Int.reduceNeg, Int.reduceSub, Int.reduceAdd, Int.reduceMul, rc, q0, q1, q2]
        refine w2.callDV 0 (viewL_cons_of (view_int) (viewL_cons_of (view_int) (viewL_cons_of (view_int) viewL_nil_of))) ?_
        simp (disch := omega) only [Try.ntmps66, Try.results66, go_sem, Nat.reduceLT, Nat.reduceLeDiff, Nat.reduceEqDiff, Nat.reduceAdd, Nat.reduceSub, Nat.reduceMul, reduceIte, ↓reduceIte, reduceCtorEq, Int.reduceToNat, Int.reduceLE, Int.reduceLT, Int.reduceNeg, Int.reduceSub, Int.reduceAdd, Int.reduceMul, rc]
        exact Fin.val (by rw [hb0 hkp])
    · have hkp : kp L (a, b, s) = false := by rw [kp]; simp only [ha, Bool.false_and]
      rw [ha] at w1
      simp (disch := omega) only [Try.ntmps66, Try.results66, go_sem, Nat.reduceLT, Nat.reduceLeDiff, Nat.reduceEqDiff, Nat.reduceAdd, Nat.reduceSub, Nat.reduceMul, reduceIte, ↓reduceIte, reduceCtorEq, Int.reduceToNat, Int.reduceLE, Int.reduceLT, Int.reduceNeg, Int.reduceSub, Int.reduceAdd, Int.reduceMul, rc, q0, q1, q2]
      refine w1.callDV 0 (viewL_cons_of (view_int) (viewL_cons_of (view_int) (viewL_cons_of (view_int) viewL_nil_of))) ?_
      simp (disch := omega) only [Try.ntmps66, Try.results66, go_sem, Nat.reduceLT, Nat.reduceLeDiff, Nat.reduceEqDiff, Nat.reduceAdd, Nat.reduceSub, Nat.reduceMul, reduceIte, ↓reduceIte, reduceCtorEq, Int.reduceToNat, Int.reduceLE, Int.reduceLT, Int.reduceNeg, Int.reduceSub, Int.reduceAdd, Int.reduceMul, rc]
      exact Fin.val (by rw [hb0 hkp])
  · obtain rfl : k = C.length := by omega
    simp (disch := omega) only [Try.ntmps66, Try.results66, go_sem, Nat.reduceLT, Nat.reduceLeDiff, Nat.reduceEqDiff, Nat.reduceAdd, Nat.reduceSub, Nat.reduceMul, reduceIte, ↓reduceIte, reduceCtorEq, Int.reduceToNat, Int.reduceLE, Int.reduceLT, Int.reduceNeg, Int.reduceSub, Int.reduceAdd, Int.reduceMul, rc]
    refine (Try.specIsPartition_ok L hL).callV 0 (viewL_cons_of (view_rowL (by first | rfl | simp [marks_length, canon_length] | omega)) viewL_nil_of) ?_
    simp (disch := omega) only [Try.ntmps66, Try.results66, go_sem, Nat.reduceLT, Nat.reduceLeDiff, Nat.reduceEqDiff, Nat.reduceAdd, Nat.reduceSub, Nat.reduceMul, reduceIte, ↓reduceIte, reduceCtorEq, Int.reduceToNat, Int.reduceLE, Int.reduceLT, Int.reduceNeg, Int.reduceSub, Int.reduceAdd, Int.reduceMul, rc]
    have hall : C.all (kp L) = true := by
      rw [List.all_eq_true]
      intro c hc
      obtain ⟨i, hi, e⟩ := List.getElem_of_mem hc
      have := hkk i hi
      simpa [cg, hi, e] using this
    exact Fin.val (by rw [hall]; simp)
end Go.Sh

/-
  The search for the best partition: plain. The program looks at every partition, the reference leaves out what cannot be the best.
-/
namespace Go.Sh
set_option linter.unusedSimpArgs false
set_option linter.unusedVariables false
open Go Go.Proofs

structure BS where
  first : List Int
  least : Int
  count : Nat
def updB (M : List (List Int)) (C : List Con) (s : BS) (p : List Int) : BS :=
  if C.all (kp p) = true then
    (if s.least < 0 ∨ cc M p p.length < s.least then ⟨p, cc M p p.length, 1⟩
     else if cc M p p.length = s.least then ⟨s.first, s.least, s.count + 1⟩ else s)
  else s
def each (f : BS → List Int → BS) : Nat → List Int → Nat → BS → BS
  | 0, p, _, s => f s p
  | k + 1, p, nx, s => (List.range (nx + 1)).foldl (fun s (x : Nat) => each f k (p ++ [(x : Int)]) (max nx (x + 1)) s) s
def badC (C : List Con) (p : List Int) : Bool := C.any fun c => decide (c.2.1 = (p.length : Int) - 1) && (decide (p.getD c.1.toNat 0 = p.getD (p.length - 1) 0) != c.2.2)
def wadd (M : List (List Int)) (l : List Int) (k : Int) : Nat → Int
  | 0 => 0
  | t + 1 => wadd M l k t + (if l.getD t 0 = k then max 0 (-mat M t l.length) else max 0 (mat M t l.length))
def walkEnd (p : List Int) (cost : Int) (s : BS) : BS := if s.least < 0 ∨ cost < s.least then ⟨p, cost, 1⟩ else ⟨s.first, s.least, s.count + 1⟩
def walkB (M : List (List Int)) (C : List Con) : Nat → List Int → Nat → Int → BS → BS
  | 0, p, _, cost, s => if 0 ≤ s.least ∧ s.least < cost then s else walkEnd p cost s
  | k + 1, p, nx, cost, s => if 0 ≤ s.least ∧ s.least < cost then s else
      (List.range (nx + 1)).foldl (fun s (x : Nat) => if badC C (p ++ [(x : Int)]) = true then s else walkB M C k (p ++ [(x : Int)]) (max nx (x + 1)) (cost + wadd M p x p.length) s) s

theorem foldl_fix {α β : Type} {g : α → β → α} {s : α} : ∀ (l : List β), (∀ x ∈ l, g s x = s) → l.foldl g s = s
  | [], _ => rfl
  | x :: l, h => by rw [List.foldl_cons, h x (by simp)]; exact foldl_fix l fun y hy => h y (by simp [hy])
theorem foldl_same {α β : Type} {g h : α → β → α} : ∀ (l : List β) (s : α), (∀ s x, x ∈ l → g s x = h s x) → l.foldl g s = l.foldl h s
  | [], _, _ => rfl
  | x :: l, s, e => by rw [List.foldl_cons, List.foldl_cons, e s x (by simp)]; exact foldl_same l _ fun s y hy => e s y (by simp [hy])
theorem snoc_lt {p : List Int} {x : Int} {i : Nat} (h : i < p.length) : (p ++ [x]).getD i 0 = p.getD i 0 := by
  simp [List.getD_eq_getElem?_getD, List.getElem?_append_left h]
theorem snoc_at {p : List Int} {x : Int} : (p ++ [x]).getD p.length 0 = x := by simp
theorem ct_snoc {M : List (List Int)} {p : List Int} {x : Int} {i k : Nat} (hi : i < p.length) (hk : k < p.length) : ct M (p ++ [x]) i k = ct M p i k := by
  rw [ct, ct, snoc_lt hi, snoc_lt hk]
theorem cr_snoc {M : List (List Int)} {p : List Int} {x : Int} {i : Nat} (hi : i < p.length) : ∀ k, k ≤ p.length → cr M (p ++ [x]) i k = cr M p i k
  | 0, _ => rfl
  | k + 1, hk => by rw [cr, cr, cr_snoc hi k (by omega), ct_snoc hi (by omega)]
theorem cc_snoc0 {M : List (List Int)} {p : List Int} {x : Int} : ∀ i, i ≤ p.length → cc M (p ++ [x]) i = cc M p i
  | 0, _ => rfl
  | i + 1, hi => by rw [cc, cc, cc_snoc0 i (by omega), cr_snoc (by omega) i (by omega)]
theorem cr_wadd {M : List (List Int)} (hw : WM M) {p : List Int} {x : Int} (hp : p.length < M.length) : ∀ t, t ≤ p.length → cr M (p ++ [x]) p.length t = wadd M p x t
  | 0, _ => rfl
  | t + 1, ht => by
    rw [cr, wadd, cr_wadd hw hp t (by omega), ct, snoc_at, snoc_lt (by omega)]
    have e := (hw.2.2.1 t p.length (by omega) hp).2
    rw [e]
    by_cases h : p.getD t 0 = x
    · rw [if_pos h, if_pos h.symm]
    · rw [if_neg h, if_neg (Ne.symm h)]
theorem cc_snoc {M : List (List Int)} (hw : WM M) {p : List Int} {x : Int} (hp : p.length < M.length) : cc M (p ++ [x]) (p ++ [x]).length = cc M p p.length + wadd M p x p.length := by
  rw [List.length_append, List.length_singleton, cc, cc_snoc0 _ (Nat.le_refl _), cr_wadd hw hp _ (Nat.le_refl _)]
theorem wadd_b {M : List (List Int)} (hw : WM M) {p : List Int} {x : Int} (hp : p.length < M.length) {t : Nat} (ht : t ≤ p.length) : 0 ≤ wadd M p x t ∧ wadd M p x t ≤ 1000 * t := by
  rw [← cr_wadd hw hp t ht]
  exact cr_b hw hp t (by omega)
theorem each_cut {M : List (List Int)} {C : List Con} (hw : WM M) {s : BS} (h0 : 0 ≤ s.least) : ∀ (k : Nat) (p : List Int) (nx : Nat), p.length + k = M.length → s.least < cc M p p.length → each (updB M C) k p nx s = s
  | 0, p, nx, hl, hc => by
    rw [each, updB]
    have h1 : ¬ (s.least < 0 ∨ cc M p p.length < s.least) := by omega
    have h2 : ¬ cc M p p.length = s.least := by omega
    rw [if_neg h1, if_neg h2]
    simp
  | k + 1, p, nx, hl, hc => by
    rw [each]
    refine foldl_fix _ fun x _ => each_cut hw h0 k _ _ (by simp; omega) ?_
    have := wadd_b hw (p := p) (x := x) (by omega) (Nat.le_refl _)
    rw [cc_snoc hw (by omega)]; omega
def Viol (C : List Con) (p : List Int) : Prop := ∃ c ∈ C, 0 ≤ c.1 ∧ c.1 < c.2.1 ∧ c.2.1 < (p.length : Int) ∧ decide (p.getD c.1.toNat 0 = p.getD c.2.1.toNat 0) ≠ c.2.2
theorem Viol.snoc {C : List Con} {p : List Int} {x : Int} (h : Viol C p) : Viol C (p ++ [x]) := by
  obtain ⟨c, hc, h1, h2, h3, h4⟩ := h
  refine ⟨c, hc, h1, h2, by simp; omega, ?_⟩
  rw [snoc_lt (by omega), snoc_lt (by omega)]
  exact h4
theorem Viol.all {C : List Con} {p : List Int} (h : Viol C p) : C.all (kp p) = false := by
  obtain ⟨c, hc, h1, h2, h3, h4⟩ := h
  rw [List.all_eq_false]
  refine ⟨c, hc, fun g => h4 ?_⟩
  rw [kp] at g
  simp only [Bool.and_eq_true] at g
  exact eq_of_beq g.2.2
theorem each_viol {M : List (List Int)} {C : List Con} {s : BS} : ∀ (k : Nat) (p : List Int) (nx : Nat), Viol C p → each (updB M C) k p nx s = s
  | 0, p, nx, h => by rw [each, updB, if_neg (by rw [h.all]; simp)]
  | k + 1, p, nx, h => by
    rw [each]
    exact foldl_fix _ fun x _ => each_viol k _ _ h.snoc
theorem bad_viol {n : Nat} {C : List Con} (hC : C.all (goodCon n) = true) {p : List Int} (h : badC C p = true) : Viol C p := by
  rw [badC, List.any_eq_true] at h
  obtain ⟨c, hc, h⟩ := h
  simp only [Bool.and_eq_true, decide_eq_true_eq, bne_iff_ne] at h
  have g := List.all_eq_true.1 hC c hc
  simp only [goodCon, Bool.and_eq_true, decide_eq_true_eq] at g
  obtain ⟨a1, a2⟩ := inR_of g.1
  refine ⟨c, hc, a1, g.2.2, by omega, ?_⟩
  have e : c.2.1.toNat = p.length - 1 := by omega
  rw [e]
  exact h.2
def Kept (C : List Con) (p : List Int) : Prop := ∀ c ∈ C, c.2.1 < (p.length : Int) → decide (p.getD c.1.toNat 0 = p.getD c.2.1.toNat 0) = c.2.2
theorem Kept.snoc {n : Nat} {C : List Con} (hC : C.all (goodCon n) = true) {p : List Int} {x : Int} (h : Kept C p) (hb : badC C (p ++ [x]) = false) : Kept C (p ++ [x]) := by
  intro c hc hlt
  have g := List.all_eq_true.1 hC c hc
  simp only [goodCon, Bool.and_eq_true, decide_eq_true_eq] at g
  obtain ⟨a1, a2⟩ := inR_of g.1
  obtain ⟨b1, b2⟩ := inR_of g.2.1
  have hs := g.2.2
  by_cases hl : c.2.1 < (p.length : Int)
  · rw [snoc_lt (by omega), snoc_lt (by omega)]
    exact h c hc hl
  · rw [badC, List.any_eq_false] at hb
    have hb := hb c hc
    have e1 : c.2.1 = ((p ++ [x]).length : Int) - 1 := by simp at hlt ⊢; omega
    have e2 : c.2.1.toNat = (p ++ [x]).length - 1 := by omega
    rw [e2]
    simpa [e1] using hb
theorem Kept.all {n : Nat} {C : List Con} (hC : C.all (goodCon n) = true) {p : List Int} (hn : p.length = n) (h : Kept C p) : C.all (kp p) = true := by
  rw [List.all_eq_true]
  intro c hc
  have g := List.all_eq_true.1 hC c hc
  simp only [goodCon, Bool.and_eq_true, decide_eq_true_eq] at g
  obtain ⟨b1, b2⟩ := inR_of g.2.1
  rw [kp, hn, g.1, g.2.1, h c hc (by omega)]
  simp
theorem walk_each {M : List (List Int)} {C : List Con} (hw : WM M) (hC : C.all (goodCon M.length) = true) : ∀ (k : Nat) (p : List Int) (nx : Nat) (s : BS), p.length + k = M.length → Kept C p →
    walkB M C k p nx (cc M p p.length) s = each (updB M C) k p nx s
  | 0, p, nx, s, hl, hk => by
    rw [walkB]
    by_cases h : 0 ≤ s.least ∧ s.least < cc M p p.length
    · rw [if_pos h, each_cut hw h.1 0 p nx hl h.2]
    · rw [if_neg h, each, updB, if_pos (hk.all hC (by omega)), walkEnd]
      by_cases g : s.least < 0 ∨ cc M p p.length < s.least
      · rw [if_pos g, if_pos g]
      · rw [if_neg g, if_neg g, if_pos (by omega)]
  | k + 1, p, nx, s, hl, hk => by
    rw [walkB]
    by_cases h : 0 ≤ s.least ∧ s.least < cc M p p.length
    · rw [if_pos h, each_cut hw h.1 (k + 1) p nx hl h.2]
    · rw [if_neg h, each]
      refine foldl_same _ _ fun s x _ => ?_
      rcases Bool.eq_false_or_eq_true (badC C (p ++ [(x : Int)])) with b | b
      · rw [if_pos b, each_viol k _ _ (bad_viol hC b)]
      · rw [if_neg (by rw [b]; simp), ← cc_snoc hw (by omega)]
        exact walk_each hw hC k _ _ s (by simp; omega) (hk.snoc hC b)
theorem foldl_count {g : BS → Nat → BS} {B : Nat} : ∀ (m : Nat) (s : BS), (∀ s x, x < m → (g s x).count ≤ s.count + B) → ((List.range m).foldl g s).count ≤ s.count + m * B
  | 0, s, _ => by simp
  | m + 1, s, h => by
    rw [List.range_succ, List.foldl_append]
    have h1 := foldl_count m s fun s x hx => h s x (by omega)
    have h2 := h ((List.range m).foldl g s) m (by omega)
    simp only [List.foldl_cons, List.foldl_nil]
    rw [Nat.succ_mul]; omega
theorem upd_count {M : List (List Int)} {C : List Con} {s : BS} {p : List Int} : (updB M C s p).count ≤ s.count + 1 := by
  unfold updB
  split
  · split
    · show 1 ≤ _; omega
    · split
      · exact Nat.le_refl _
      · omega
  · omega
theorem mul9 {a b B : Nat} (h : a ≤ b) : a * B ≤ b * B := Nat.mul_le_mul_right B h
theorem each_count {M : List (List Int)} {C : List Con} : ∀ (k : Nat) (p : List Int) (nx : Nat) (s : BS), nx + k ≤ 8 → (each (updB M C) k p nx s).count ≤ s.count + 9 ^ k
  | 0, p, nx, s, _ => upd_count
  | k + 1, p, nx, s, h => by
    rw [each]
    have h1 := foldl_count (g := fun s (x : Nat) => each (updB M C) k (p ++ [(x : Int)]) (max nx (x + 1)) s) (B := 9 ^ k) (nx + 1) s fun s x hx => each_count k _ _ s (by omega)
    have h2 : (nx + 1) * 9 ^ k ≤ 9 * 9 ^ k := mul9 (by omega)
    rw [Nat.pow_succ]; omega
theorem walk_count {M : List (List Int)} {C : List Con} : ∀ (k : Nat) (p : List Int) (nx : Nat) (cost : Int) (s : BS), nx + k ≤ 8 → (walkB M C k p nx cost s).count ≤ s.count + 9 ^ k
  | 0, p, nx, cost, s, _ => by
    rw [walkB]
    split
    · exact Nat.le_add_right _ _
    · unfold walkEnd
      split
      · show 1 ≤ _; omega
      · exact Nat.le_refl _
  | k + 1, p, nx, cost, s, h => by
    rw [walkB]
    split
    · exact Nat.le_add_right _ _
    · have h1 := foldl_count (g := fun s (x : Nat) => if badC C (p ++ [(x : Int)]) = true then s else walkB M C k (p ++ [(x : Int)]) (max nx (x + 1)) (cost + wadd M p x p.length) s) (B := 9 ^ k) (nx + 1) s fun s x hx => by
        show (if badC C (p ++ [(x : Int)]) = true then s else walkB M C k (p ++ [(x : Int)]) (max nx (x + 1)) (cost + wadd M p x p.length) s).count ≤ _
        split
        · exact Nat.le_add_right _ _
        · exact walk_count k _ _ _ s (by omega)
      have h2 : (nx + 1) * 9 ^ k ≤ 9 * 9 ^ k := mul9 (by omega)
      rw [Nat.pow_succ]; omega
end Go.Sh

/-
  Matrices in memory of their own: a block of rows, each row a block of scalars.
-/
namespace Go.Sh
set_option linter.unusedSimpArgs false
set_option linter.unusedVariables false
open Go Go.Proofs

/-- What a heap holds: a block; a matrix (its outer block b, its rows b+1, b+2, ..); rows under names of any kind; a name that is gone. -/
inductive Ent where
  | blk (k : Nat) (v : Blk)
  | mat (b : Nat) (R : List (List SV))
  | rows (fl : Bool) (nr : List (Nat × List SV))
  | cut (b : Nat)

def rowAt (R : List (List SV)) (i : Nat) : List SV := R.getD i []
def outerB (b : Nat) (R : List (List SV)) : List SV := (List.range R.length).map fun i => .own (b + 1 + i) 0 (rowAt R i).length (rowAt R i).length 1 false
def outerN (fl : Bool) (nr : List (Nat × List SV)) : List SV := nr.map fun p => .own p.1 0 p.2.length p.2.length 1 fl
def matMap (b : Nat) (R : List (List SV)) (x : Nat) : Option Blk := if x = b then some ⟨outerB b R, false⟩ else some ⟨rowAt R (x - b - 1), false⟩
def nrFind : List (Nat × List SV) → Nat → Option (List SV)
  | [], _ => none
  | p :: l, x => if x = p.1 then some p.2 else nrFind l x
def xmap : List Ent → Nat → Option Blk
  | [], _ => none
  | .blk k v :: l, x => if x = k then some v else xmap l x
  | .mat b R :: l, x => if b ≤ x ∧ x ≤ b + R.length then matMap b R x else xmap l x
  | .rows fl nr :: l, x => match nrFind nr x with
    | some r => some ⟨r, fl⟩
    | none => xmap l x
  | .cut b :: l, x => if x = b then none else xmap l x
def hx (l : List Ent) (n : Nat) : Heap := ⟨xmap l, n⟩
def toE (l : List (Nat × Blk)) : List Ent := l.map fun p => .blk p.1 p.2
theorem toE_nil : toE [] = [] := rfl
theorem toE_cons (k : Nat) (v : Blk) (l : List (Nat × Blk)) : toE ((k, v) :: l) = .blk k v :: toE l := rfl
theorem hp_hx (l : List (Nat × Blk)) (n : Nat) : hp l n = hx (toE l) n := by
  refine Heap.ext' (fun x => ?_) rfl
  show hmap l x = xmap (toE l) x
  induction l with
  | nil => rfl
  | cons p l ih =>
    obtain ⟨k, v⟩ := p
    simp only [toE_cons, hmap, xmap, ih]
theorem hx_nb (l : List Ent) (n : Nat) : (hx l n).nb = n := rfl
theorem hx_map (l : List Ent) (n x : Nat) : (hx l n).map x = xmap l x := rfl
theorem hx_push (l : List Ent) (n : Nat) (k : Blk) : (hx l n).push k = hx (.blk n k :: l) (n + 1) := rfl
theorem xmap_blk (k : Nat) (v : Blk) (l : List Ent) (x : Nat) : xmap (.blk k v :: l) x = if x = k then some v else xmap l x := rfl
theorem xmap_nil (x : Nat) : xmap [] x = none := rfl

def Heap.pushM (H : Heap) (R : List (List SV)) : Heap := ⟨fun x => if H.nb ≤ x ∧ x ≤ H.nb + R.length then matMap H.nb R x else H.map x, H.nb + R.length + 1⟩
theorem hx_pushM (l : List Ent) (n : Nat) (R : List (List SV)) : (hx l n).pushM R = hx (.mat n R :: l) (n + R.length + 1) := rfl
theorem hp_pushM (l : List (Nat × Blk)) (n : Nat) (R : List (List SV)) : (hp l n).pushM R = hx (.mat n R :: toE l) (n + R.length + 1) := by rw [hp_hx, hx_pushM]

def xset : List Ent → Nat → Blk → List Ent
  | [], b, x => [.blk b x]
  | .blk k v :: l, b, x => if k = b then .blk k x :: l else .blk k v :: xset l b x
  | .mat c R :: l, b, x => if c < b ∧ b ≤ c + R.length ∧ x.cells.length = (rowAt R (b - c - 1)).length ∧ x.ex = false then .mat c (R.set (b - c - 1) x.cells) :: l else if b < c ∨ c + R.length < b then .mat c R :: xset l b x else .blk b x :: .mat c R :: l
  | .rows fl nr :: l, b, x => .blk b x :: .rows fl nr :: l
  | .cut c :: l, b, x => .blk b x :: .cut c :: l
theorem rowAt_length {R : List (List SV)} {i : Nat} (h : i < R.length) : rowAt R i = R[i] := by simp [rowAt, h]
theorem outerB_set {b : Nat} {R : List (List SV)} {i : Nat} {r : List SV} (h : r.length = (rowAt R i).length) : outerB b (R.set i r) = outerB b R := by
  unfold outerB
  rw [List.length_set]
  refine List.map_congr_left (fun k hk => ?_)
  have hk : k < R.length := by simpa using hk
  have e : (rowAt (R.set i r) k).length = (rowAt R k).length := by
    rw [rowAt_length (by simpa using hk), rowAt_length hk, List.getElem_set]
    split
    · rename_i e; subst e
      rw [h, rowAt_length hk]
    · rfl
  rw [e]
theorem xmap_set : ∀ (l : List Ent) (b : Nat) (k : Blk) (x : Nat), (if x = b then some k else xmap l x) = xmap (xset l b k) x
  | [], b, k, x => by simp only [xset, xmap]
  | .blk c v :: l, b, k, x => by
    have ih := xmap_set l b k x
    simp only [xset]
    by_cases e : c = b
    · rw [if_pos e]
      subst e
      simp only [xmap]
      by_cases hx : x = c <;> simp [hx]
    · rw [if_neg e]
      simp only [xmap, ← ih]
      by_cases hx : x = b
      · subst hx
        rw [if_pos rfl, if_neg (by omega), if_pos rfl]
      · rw [if_neg hx, if_neg hx]
  | .mat c R :: l, b, k, x => by
    have ih := xmap_set l b k x
    simp only [xset]
    by_cases h : c < b ∧ b ≤ c + R.length ∧ k.cells.length = (rowAt R (b - c - 1)).length ∧ k.ex = false
    · rw [if_pos h]
      obtain ⟨h1, h2, h3, h4⟩ := h
      obtain ⟨kc, kx⟩ := k
      simp only at h3 h4
      subst h4
      simp only [xmap, List.length_set]
      by_cases hx : x = b
      · subst hx
        rw [if_pos rfl, if_pos (by omega), matMap, if_neg (by omega), rowAt_length (by simp; omega)]
        simp
      · rw [if_neg hx]
        by_cases hr : c ≤ x ∧ x ≤ c + R.length
        · rw [if_pos hr, if_pos hr, matMap, matMap, outerB_set h3]
          by_cases hc : x = c
          · rw [if_pos hc, if_pos hc]
          · rw [if_neg hc, if_neg hc]
            rw [rowAt_length (by omega), rowAt_length (by simp; omega), List.getElem_set_ne (by omega)]
        · rw [if_neg hr, if_neg hr]
    · rw [if_neg h]
      by_cases h2 : b < c ∨ c + R.length < b
      · rw [if_pos h2]
        simp only [xmap, ← ih]
        by_cases hx : x = b
        · subst hx
          rw [if_pos rfl, if_pos rfl, if_neg (by omega)]
        · rw [if_neg hx, if_neg hx]
      · rw [if_neg h2]
        rfl
  | .rows fl nr :: l, b, k, x => rfl
  | .cut c :: l, b, k, x => rfl
theorem hx_set (l : List Ent) (n b : Nat) (k : Blk) : (hx l n).set b (some k) = hx (xset l b k) n :=
  Heap.ext' (fun x => xmap_set l b k x) rfl
def xdel : List Ent → Nat → List Ent
  | [], _ => []
  | .blk k v :: l, b => if k = b then xdel l b else .blk k v :: xdel l b
  | .mat c R :: l, b => if b < c ∨ c + R.length < b then .mat c R :: xdel l b else .cut b :: .mat c R :: l
  | .rows fl nr :: l, b => .cut b :: .rows fl nr :: l
  | .cut c :: l, b => .cut b :: .cut c :: l
theorem xmap_del : ∀ (l : List Ent) (b : Nat) (x : Nat), (if x = b then none else xmap l x) = xmap (xdel l b) x
  | [], b, x => by simp only [xdel, xmap]; split <;> rfl
  | .blk c v :: l, b, x => by
    have ih := xmap_del l b x
    simp only [xdel]
    by_cases e : c = b
    · rw [if_pos e, ← ih]
      subst e
      simp only [xmap]
      by_cases hx : x = c <;> simp [hx]
    · rw [if_neg e]
      simp only [xmap, ← ih]
      by_cases hx : x = b
      · subst hx
        rw [if_pos rfl, if_neg (by omega), if_pos rfl]
      · rw [if_neg hx, if_neg hx]
  | .mat c R :: l, b, x => by
    have ih := xmap_del l b x
    simp only [xdel]
    by_cases h2 : b < c ∨ c + R.length < b
    · rw [if_pos h2]
      simp only [xmap, ← ih]
      by_cases hx : x = b
      · subst hx
        rw [if_pos rfl, if_pos rfl, if_neg (by omega)]
      · rw [if_neg hx, if_neg hx]
    · rw [if_neg h2]; rfl
  | .rows fl nr :: l, b, x => rfl
  | .cut c :: l, b, x => rfl
theorem hx_del (l : List Ent) (n b : Nat) : (hx l n).set b none = hx (xdel l b) n :=
  Heap.ext' (fun x => xmap_del l b x) rfl
theorem xdel_blk (k : Nat) (v : Blk) (l : List Ent) (b : Nat) : xdel (.blk k v :: l) b = if k = b then xdel l b else .blk k v :: xdel l b := rfl
theorem xdel_rows (fl : Bool) (nr : List (Nat × List SV)) (l : List Ent) (b : Nat) : xdel (.rows fl nr :: l) b = .cut b :: .rows fl nr :: l := rfl
theorem xdel_nil (b : Nat) : xdel [] b = [] := rfl
theorem xset_blk (k : Nat) (v : Blk) (l : List Ent) (b : Nat) (x : Blk) : xset (.blk k v :: l) b x = if k = b then .blk k x :: l else .blk k v :: xset l b x := rfl
theorem xset_nil (b : Nat) (x : Blk) : xset [] b x = [.blk b x] := rfl

/-! ### Of ints, of bools -/
def mset (M : List (List Int)) (i c : Nat) (x : Int) : List (List Int) := M.set i ((mrow M i).set c x)
def mi (M : List (List Int)) : List (List SV) := M.map ints
theorem mi_length (M : List (List Int)) : (mi M).length = M.length := by simp [mi]
theorem mi_row {M : List (List Int)} {i : Nat} (h : i < M.length) : rowAt (mi M) i = ints (mrow M i) := by simp [rowAt, mi, mrow, h]
theorem mset_length (M : List (List Int)) (i c : Nat) (x : Int) : (mset M i c x).length = M.length := by simp [mset]
theorem mset_row_length (M : List (List Int)) (i c k : Nat) (x : Int) : (mrow (mset M i c x) k).length = (mrow M k).length := by
  simp only [mrow, mset, List.getD_eq_getElem?_getD, List.getElem?_set]
  by_cases h : i = k
  · subst h
    by_cases h2 : i < M.length
    · simp [h2]
    · simp [h2]
  · simp [h]
def bools (L : List Bool) : List SV := L.map fun x => .val (.bool x)
theorem bools_length (L : List Bool) : (bools L).length = L.length := by simp [bools]
theorem bools_get {L : List Bool} {k : Nat} (h : k < L.length) : (bools L)[k]? = some (.val (.bool (L.getD k false))) := by simp [bools, h]
theorem bools_set (L : List Bool) (k : Nat) (x : Bool) : (bools L).set k (.val (.bool x)) = bools (L.set k x) := by simp [bools, List.map_set]
theorem bools_replicate (n : Nat) (x : Bool) : List.replicate n (SV.val (.bool x)) = bools (List.replicate n x) := by simp [bools]
theorem viewL_bools (H : Heap) (f : Nat) : ∀ L : List Bool, viewL H f (bools L) = some (bools L)
  | [] => viewL_nil_of
  | x :: L => viewL_cons_of view_bool (viewL_bools H f L)
theorem bools_vals (L : List Bool) : (bools L).all isVal = true := by simp [bools, isVal]
def brow (M : List (List Bool)) (i : Nat) : List Bool := M.getD i []
def bmat (M : List (List Bool)) (i k : Nat) : Bool := (brow M i).getD k false
def bset (M : List (List Bool)) (i c : Nat) (x : Bool) : List (List Bool) := M.set i ((brow M i).set c x)
def mb (M : List (List Bool)) : List (List SV) := M.map bools
theorem mb_length (M : List (List Bool)) : (mb M).length = M.length := by simp [mb]
theorem mb_row {M : List (List Bool)} {i : Nat} (h : i < M.length) : rowAt (mb M) i = bools (brow M i) := by simp [rowAt, mb, brow, h]
theorem bset_length (M : List (List Bool)) (i c : Nat) (x : Bool) : (bset M i c x).length = M.length := by simp [bset]
theorem bset_row_length (M : List (List Bool)) (i c k : Nat) (x : Bool) : (brow (bset M i c x) k).length = (brow M k).length := by
  simp only [brow, bset, List.getD_eq_getElem?_getD, List.getElem?_set]
  by_cases h : i = k
  · subst h
    by_cases h2 : i < M.length
    · simp [h2]
    · simp [h2]
  · simp [h]
def rowsB (M : List (List Bool)) : List SV := M.map fun r => .row r.length false (bools r)
def rb (M : List (List Bool)) : SV := .row M.length false (rowsB M)
theorem rb_eq (M : List (List Bool)) : rb M = .row M.length false (rowsB M) := rfl
theorem rowsB_length (M : List (List Bool)) : (rowsB M).length = M.length := by simp [rowsB]
theorem rowsB_get {M : List (List Bool)} {k : Nat} (h : k < M.length) : (rowsB M)[k]? = some (.row (brow M k).length false (bools (brow M k))) := by
  simp [rowsB, brow, h]

theorem mset_at (M : List (List Int)) (i c : Nat) (x : Int) {k d : Nat} (hi : i < M.length) (hc : c < (mrow M i).length) : mat (mset M i c x) k d = if k = i ∧ d = c then x else mat M k d := by
  simp only [mat, mrow, mset, List.getD_eq_getElem?_getD, List.getElem?_set]
  by_cases h : i = k
  · subst h
    simp only [hi, if_true, true_and, Option.getD_some, List.getElem?_set]
    by_cases h2 : c = d
    · subst h2
      simp only [mrow, List.getD_eq_getElem?_getD] at hc
      simp [hc]
    · have : ¬ d = c := fun e => h2 e.symm
      simp [h2, this]
  · have : ¬ k = i := fun e => h e.symm
    simp [h, this]
theorem bset_at (M : List (List Bool)) (i c : Nat) (x : Bool) {k d : Nat} (hi : i < M.length) (hc : c < (brow M i).length) : bmat (bset M i c x) k d = if k = i ∧ d = c then x else bmat M k d := by
  simp only [bmat, brow, bset, List.getD_eq_getElem?_getD, List.getElem?_set]
  by_cases h : i = k
  · subst h
    simp only [hi, if_true, true_and, Option.getD_some, List.getElem?_set]
    by_cases h2 : c = d
    · subst h2
      simp only [brow, List.getD_eq_getElem?_getD] at hc
      simp [hc]
    · have : ¬ d = c := fun e => h2 e.symm
      simp [h2, this]
  · have : ¬ k = i := fun e => h e.symm
    simp [h, this]

theorem outerB_length (b : Nat) (R : List (List SV)) : (outerB b R).length = R.length := by simp [outerB]
theorem xmap_mat (b : Nat) (R : List (List SV)) (l : List Ent) : xmap (.mat b R :: l) b = some ⟨outerB b R, false⟩ := by
  simp [xmap, matMap]
theorem xmap_rowI {b i : Nat} {M : List (List Int)} {l : List Ent} (h : i < M.length) : xmap (.mat b (mi M) :: l) (b + 1 + i) = some ⟨ints (mrow M i), false⟩ := by
  rw [xmap, if_pos (by rw [mi_length]; omega), matMap, if_neg (by omega), ← mi_row h]
  congr 3; omega
theorem xmap_rowB {b i : Nat} {M : List (List Bool)} {l : List Ent} (h : i < M.length) : xmap (.mat b (mb M) :: l) (b + 1 + i) = some ⟨bools (brow M i), false⟩ := by
  rw [xmap, if_pos (by rw [mb_length]; omega), matMap, if_neg (by omega), ← mb_row h]
  congr 3; omega
theorem xmap_skipI {b x : Nat} {M : List (List Int)} {l : List Ent} (h : x < b ∨ b + M.length < x) : xmap (.mat b (mi M) :: l) x = xmap l x := by
  rw [xmap, if_neg (by rw [mi_length]; omega)]
theorem xmap_skipB {b x : Nat} {M : List (List Bool)} {l : List Ent} (h : x < b ∨ b + M.length < x) : xmap (.mat b (mb M) :: l) x = xmap l x := by
  rw [xmap, if_neg (by rw [mb_length]; omega)]
theorem outerB_getI {b k : Nat} {M : List (List Int)} (h : k < M.length) : (outerB b (mi M))[k]? = some (.own (b + 1 + k) 0 (mrow M k).length (mrow M k).length 1 false) := by
  simp only [outerB, List.getElem?_map, mi_length]
  rw [List.getElem?_range h]
  simp only [Option.map_some, mi_row h, ints_length]
theorem outerB_getB {b k : Nat} {M : List (List Bool)} (h : k < M.length) : (outerB b (mb M))[k]? = some (.own (b + 1 + k) 0 (brow M k).length (brow M k).length 1 false) := by
  simp only [outerB, List.getElem?_map, mb_length]
  rw [List.getElem?_range h]
  simp only [Option.map_some, mb_row h, bools_length]
theorem xset_rowI {b i c : Nat} {x : Int} {M : List (List Int)} {l : List Ent} (h : i < M.length) : xset (.mat b (mi M) :: l) (b + 1 + i) ⟨ints ((mrow M i).set c x), false⟩ = .mat b (mi (mset M i c x)) :: l := by
  have e : b + 1 + i - b - 1 = i := by omega
  rw [xset, e, if_pos ⟨by omega, by rw [mi_length]; omega, by rw [mi_row h, ints_length, ints_length, List.length_set], rfl⟩]
  simp [mset, mi, List.map_set]
theorem xset_rowB {b i c : Nat} {x : Bool} {M : List (List Bool)} {l : List Ent} (h : i < M.length) : xset (.mat b (mb M) :: l) (b + 1 + i) ⟨bools ((brow M i).set c x), false⟩ = .mat b (mb (bset M i c x)) :: l := by
  have e : b + 1 + i - b - 1 = i := by omega
  rw [xset, e, if_pos ⟨by omega, by rw [mb_length]; omega, by rw [mb_row h, bools_length, bools_length, List.length_set], rfl⟩]
  simp [bset, mb, List.map_set]
theorem xset_skipI {b x : Nat} {M : List (List Int)} {l : List Ent} {k : Blk} (h : x < b ∨ b + M.length < x) : xset (.mat b (mi M) :: l) x k = .mat b (mi M) :: xset l x k := by
  rw [xset, if_neg (by rw [mi_length]; omega), if_pos (by rw [mi_length]; exact h)]
theorem xset_skipB {b x : Nat} {M : List (List Bool)} {l : List Ent} {k : Blk} (h : x < b ∨ b + M.length < x) : xset (.mat b (mb M) :: l) x k = .mat b (mb M) :: xset l x k := by
  rw [xset, if_neg (by rw [mb_length]; omega), if_pos (by rw [mb_length]; exact h)]

/-! ### A round's end -/
def EntIn (H : Heap) : Ent → Prop
  | .blk k v => H.map k = some v
  | .mat b R => ∀ x, b ≤ x → x ≤ b + R.length → H.map x = matMap b R x
  | .rows fl nr => ∀ p ∈ nr, H.map p.1 = some ⟨p.2, fl⟩
  | .cut b => H.map b = none
theorem nrFind_mem : ∀ {nr : List (Nat × List SV)} {x : Nat} {r : List SV}, nrFind nr x = some r → (x, r) ∈ nr
  | [], x, r, h => by simp [nrFind] at h
  | p :: l, x, r, h => by
    rw [nrFind] at h
    split at h
    · rename_i e; subst e
      simp at h; subst h; simp
    · exact List.mem_cons_of_mem _ (nrFind_mem h)
theorem Wk.ofX {s : St} {l : List (Nat × SV)} {lb : List Ent} {n : Nat} (h : ∀ p ∈ l, s.σ p.1 = p.2) (hm : ∀ e ∈ lb, EntIn s.H e) (hn : s.H.nb ≤ n) : Wk s ⟨ofL l, hx lb n⟩ := by
  refine ⟨ofL_wk h, hn, fun b => ?_⟩
  show xmap lb b = none ∨ xmap lb b = s.H.map b
  clear h hn
  induction lb with
  | nil => exact .inl rfl
  | cons q lb ih =>
    have ih := ih (fun e he => hm e (by simp [he]))
    have hq := hm q (by simp)
    cases q with
    | blk k v =>
      rw [xmap]
      split
      · rename_i e; subst e; exact .inr hq.symm
      · exact ih
    | mat c R =>
      rw [xmap]
      split
      · rename_i e; exact .inr (hq b e.1 e.2).symm
      · exact ih
    | rows fl nr =>
      rw [xmap]
      split
      · rename_i r hr
        exact .inr (hq _ (nrFind_mem hr)).symm
      · exact ih
    | cut c =>
      rw [xmap]
      split
      · exact .inl rfl
      · exact ih
theorem EntIn.self {b : Nat} {R : List (List SV)} {l : List Ent} {n : Nat} : EntIn (hx (.mat b R :: l) n) (.mat b R) := by
  intro x h1 h2
  rw [hx_map, xmap, if_pos ⟨h1, h2⟩]
theorem EntIn.skipM {b k n : Nat} {v : Blk} {R : List (List SV)} {l : List Ent} (h : EntIn (hx l n) (.mat b R)) (hk : k < b ∨ b + R.length < k) : EntIn (hx (.blk k v :: l) n) (.mat b R) := by
  intro x h1 h2
  rw [hx_map, xmap, if_neg (by omega)]
  exact h x h1 h2
theorem EntIn.skipMM {b c n : Nat} {R S : List (List SV)} {l : List Ent} (h : EntIn (hx l n) (.mat b R)) (hk : c + S.length < b ∨ b + R.length < c) : EntIn (hx (.mat c S :: l) n) (.mat b R) := by
  intro x h1 h2
  rw [hx_map, xmap, if_neg (by omega)]
  exact h x h1 h2
theorem EntIn.skipR {k n : Nat} {v : Blk} {fl : Bool} {nr : List (Nat × List SV)} {l : List Ent} (h : EntIn (hx l n) (.rows fl nr)) (hk2 : ∀ p ∈ nr, p.1 ≠ k) : EntIn (hx (.blk k v :: l) n) (.rows fl nr) := by
  intro p hp
  rw [hx_map, xmap, if_neg (hk2 p hp)]; exact h p hp
theorem EntIn.skipC {k n : Nat} {fl : Bool} {nr : List (Nat × List SV)} {l : List Ent} (h : EntIn (hx l n) (.rows fl nr)) (hk2 : ∀ p ∈ nr, p.1 ≠ k) : EntIn (hx (.cut k :: l) n) (.rows fl nr) := by
  intro p hp
  rw [hx_map, xmap, if_neg (hk2 p hp)]; exact h p hp
theorem EntIn.snoc {H : Heap} {b : Nat} {r : List SV} {fl : Bool} {nr : List (Nat × List SV)} (h : EntIn H (.rows fl nr)) (h2 : H.map b = some ⟨r, fl⟩) : EntIn H (.rows fl (nr ++ [(b, r)])) := by
  intro p hp
  rcases List.mem_append.1 hp with hp | hp
  · exact h p hp
  · simp at hp; subst hp; exact h2
theorem outerN_snoc (fl : Bool) (nr : List (Nat × List SV)) (b : Nat) (r : List SV) : outerN fl (nr ++ [(b, r)]) = outerN fl nr ++ [.own b 0 r.length r.length 1 fl] := by simp [outerN]
theorem outerN_length (fl : Bool) (nr : List (Nat × List SV)) : (outerN fl nr).length = nr.length := by simp [outerN]
theorem outerN_flat (fl : Bool) (nr : List (Nat × List SV)) : (outerN fl nr).all flat = true := by simp [outerN, flat]
/-- No name twice. -/
def NrOk (b nb : Nat) (nr : List (Nat × List SV)) : Prop := b < nb ∧ (∀ p ∈ nr, p.1 < nb ∧ p.1 ≠ b) ∧ (nr.map (·.1)).Nodup
theorem nrFind_get : ∀ {nr : List (Nat × List SV)} {p : Nat × List SV}, (nr.map (·.1)).Nodup → p ∈ nr → nrFind nr p.1 = some p.2
  | [], p, _, h => by simp at h
  | q :: l, p, hn, h => by
    simp only [List.map_cons, List.nodup_cons] at hn
    rw [nrFind]
    rcases List.mem_cons.1 h with rfl | h
    · rw [if_pos rfl]
    · rw [if_neg (fun e => hn.1 (by rw [← e]; exact List.mem_map_of_mem h))]
      exact nrFind_get hn.2 h
theorem EntIn.selfR {n : Nat} {fl : Bool} {nr : List (Nat × List SV)} {l : List Ent} (h : (nr.map (·.1)).Nodup) : EntIn (hx (.rows fl nr :: l) n) (.rows fl nr) := by
  intro p hp
  rw [hx_map, xmap, nrFind_get h hp]
theorem NrOk.nil {b nb : Nat} (h : b < nb) : NrOk b nb [] := ⟨h, by simp, by simp⟩
theorem NrOk.snoc {b nb b' nb' x : Nat} {r : List SV} {nr : List (Nat × List SV)} (h : NrOk b nb nr) (h1 : nb ≤ x) (h2 : nb ≤ b') (h3 : x ≠ b') (h4 : x < nb') (h5 : b' < nb') : NrOk b' nb' (nr ++ [(x, r)]) := by
  refine ⟨h5, fun p hp => ?_, ?_⟩
  · rcases List.mem_append.1 hp with hp | hp
    · have := (h.2.1 p hp).1; omega
    · simp at hp; subst hp; exact ⟨h4, h3⟩
  · rw [List.map_append, List.nodup_append]
    refine ⟨h.2.2, by simp, ?_⟩
    intro a ha c hc
    obtain ⟨p, hp, rfl⟩ := List.mem_map.1 ha
    simp at hc; subst hc
    have := (h.2.1 p hp).1; omega

/-! ### Results -/
def MatRes (R : List (List SV)) (r : SV) (H : Heap) : Prop :=
  ∃ (b off cap : Nat) (ex : Bool) (blk : Blk), r = .own b off R.length cap 1 ex ∧ H.map b = some blk ∧ off + R.length ≤ blk.cells.length ∧ (∀ row ∈ R, row.all isVal = true) ∧
    ∃ nm oi : Nat → Nat, (∀ i i', i < R.length → i' < R.length → nm i = nm i' → i = i') ∧ (∀ i, i < R.length → nm i ≠ b) ∧
      ∀ i, i < R.length → ∃ capi exi blki, blk.cells[off + i]? = some (.own (nm i) (oi i) (rowAt R i).length capi 1 exi) ∧ H.map (nm i) = some blki ∧ (blki.cells.drop (oi i)).take (rowAt R i).length = rowAt R i ∧ oi i + (rowAt R i).length ≤ blki.cells.length
def MatOne (R : List (List SV)) (r : SV) (H : Heap) : Prop := r = .own 0 0 R.length R.length 1 false ∧ H = hx [.mat 0 R] (R.length + 1)

theorem outerB_get {b k : Nat} {R : List (List SV)} (h : k < R.length) : (outerB b R)[k]? = some (.own (b + 1 + k) 0 (rowAt R k).length (rowAt R k).length 1 false) := by
  simp only [outerB, List.getElem?_map]
  rw [List.getElem?_range h]
  rfl
theorem rowAt_mem {R : List (List SV)} {i : Nat} (h : i < R.length) : rowAt R i ∈ R := by rw [rowAt_length h]; exact List.getElem_mem h
theorem own_zero {O : Nat → Prop} {w : World} {j : JMap} {v : Value} {b off n cap sz : Nat} {ex : Bool} {rb base : Nat} (h : VRel O w j (.own b off n cap sz ex) v) (hj : j b = some (rb, base)) {j' : JMap} {b' : Nat} {O' : Nat → Prop} (hj' : j' b' = some (rb, base + off)) :
    VRel O' w j' (.own b' 0 n n sz false) v := by
  simp only [VRel] at h ⊢
  obtain ⟨rb', base', a, cap', c, e, fr, g1, g2, g3, g4, g5, g6, g7, g8⟩ := h
  rw [hj] at g1
  obtain ⟨rfl, rfl⟩ := (by simpa using g1 : rb = rb' ∧ base = base')
  exact ⟨rb, base + off, a, cap', c, e, fr, hj', g2, Nat.le_refl _, by omega, by simp, by simpa using g6, g7, by simpa using g8⟩

theorem mat_rel {R : List (List SV)} {j : JMap} {H : Heap} {w : World} {r : SV} {v : Value} (h : MatRes R r H) (hr : Rel j H w) (hv : VRel (OwnR j H) w j r v) :
    ∃ j', Rel j' (hx [.mat 0 R] (R.length + 1)) w ∧ VRel (OwnR j' (hx [.mat 0 R] (R.length + 1))) w j' (.own 0 0 R.length R.length 1 false) v ∧ ∀ k, OwnR j' (hx [.mat 0 R] (R.length + 1)) k → OwnR j H k := by
  obtain ⟨b, off, cap, ex, blk, rfl, hb, hlen, hval, nm, oi, hinj, hne, hrow⟩ := h
  obtain ⟨rb, base, k1, hat⟩ := hr.live b blk hb
  let j' : JMap := fun x => if x = 0 then some (rb, base + off) else if x ≤ R.length then (j (nm (x - 1))).map (fun p => (p.1, p.2 + oi (x - 1))) else none
  have j0 : j' 0 = some (rb, base + off) := rfl
  have jr : ∀ i, i < R.length → ∃ rbi basei, j (nm i) = some (rbi, basei) ∧ j' (0 + 1 + i) = some (rbi, basei + oi i) := by
    intro i hi
    obtain ⟨capi, exi, blki, q1, q2, q3, q4⟩ := hrow i hi
    obtain ⟨rbi, basei, p1, _⟩ := hr.live _ blki q2
    refine ⟨rbi, basei, p1, ?_⟩
    show (if 0 + 1 + i = 0 then _ else if 0 + 1 + i ≤ R.length then (j (nm (0 + 1 + i - 1))).map _ else none) = _
    have e : 0 + 1 + i - 1 = i := by omega
    rw [if_neg (by omega), if_pos (by omega), e, p1]
    rfl
  have hm0 : (hx [.mat 0 R] (R.length + 1)).map 0 = some ⟨outerB 0 R, false⟩ := by rw [hx_map, xmap_mat]
  have hmr : ∀ i, i < R.length → (hx [.mat 0 R] (R.length + 1)).map (0 + 1 + i) = some ⟨rowAt R i, false⟩ := by
    intro i hi
    rw [hx_map, xmap, if_pos (by omega), matMap, if_neg (by omega)]
    congr 3; omega
  have hms : ∀ x bl, (hx [.mat 0 R] (R.length + 1)).map x = some bl → (x = 0 ∧ bl = ⟨outerB 0 R, false⟩) ∨ ∃ i, i < R.length ∧ x = 0 + 1 + i ∧ bl = ⟨rowAt R i, false⟩ := by
    intro x bl hx
    rw [hx_map, xmap] at hx
    split at hx
    · rename_i hr
      rw [matMap] at hx
      split at hx
      · rename_i h0
        simp at hx
        exact .inl ⟨h0, hx.symm⟩
      · rename_i h0
        simp at hx
        exact .inr ⟨x - 1, by omega, by omega, hx.symm⟩
    · simp [xmap] at hx
  have hback : ∀ k, OwnR j' (hx [.mat 0 R] (R.length + 1)) k → OwnR j H k := by
    rintro k ⟨x, bl, bs, h1, h2⟩
    rcases hms x bl h1 with ⟨rfl, rfl⟩ | ⟨i, hi, rfl, rfl⟩
    · rw [j0] at h2
      simp at h2
      obtain ⟨rfl, _⟩ := h2
      exact ⟨b, blk, base, hb, k1⟩
    · obtain ⟨rbi, basei, p1, p2⟩ := jr i hi
      rw [p2] at h2
      simp at h2
      obtain ⟨rfl, _⟩ := h2
      obtain ⟨capi, exi, blki, q1, q2, q3, q4⟩ := hrow i hi
      exact ⟨nm i, blki, basei, q2, p1⟩
  refine ⟨j', ⟨?_, ?_, ?_⟩, own_zero hv k1 j0, hback⟩
  · intro x p hp
    show x < R.length + 1
    by_cases h0 : x = 0
    · omega
    · have : (if x = 0 then some (rb, base + off) else if x ≤ R.length then (j (nm (x - 1))).map (fun p => (p.1, p.2 + oi (x - 1))) else none) = some p := hp
      rw [if_neg h0] at this
      split at this
      · omega
      · simp at this
  · intro x bl hx
    obtain ⟨c, e, lo, hi', q2, q3, q4, q5, q6⟩ := hat
    rcases hms x bl hx with ⟨rfl, rfl⟩ | ⟨i, hi, rfl, rfl⟩
    · refine ⟨rb, base + off, j0, c, e, lo, hi', q2, q3, ?_, by simp, ?_⟩
      · show base + off + (outerB 0 R).length ≤ c.size
        rw [outerB_length]; omega
      · intro i s hs
        have hs' : (outerB 0 R)[i]? = some s := hs
        have hi : i < R.length := by
          have := (List.getElem?_eq_some_iff.1 hs').1
          rwa [outerB_length] at this
        rw [outerB_get hi] at hs'
        simp at hs'
        subst hs'
        obtain ⟨capi, exi, blki, p1, p2, p3, p4⟩ := hrow i hi
        obtain ⟨u, g1, g2⟩ := q6 (off + i) _ p1
        obtain ⟨rbi, basei, t1, t2⟩ := jr i hi
        exact ⟨u, by simpa [Nat.add_assoc] using g1, by simpa only [Nat.zero_add] using own_zero g2 t1 t2⟩
    · obtain ⟨capi, exi, blki, p1, p2, p3, p4⟩ := hrow i hi
      obtain ⟨rbi, basei, t1, t2⟩ := jr i hi
      obtain ⟨rbi', basei', s1, c', e', lo', hi2, s2, s3, s4, s5, s6⟩ := hr.live _ blki p2
      rw [t1] at s1
      obtain ⟨rfl, rfl⟩ := (by simpa using s1 : rbi = rbi' ∧ basei = basei')
      refine ⟨rbi, basei + oi i, t2, c', e', lo', hi2, s2, s3, ?_, by simp, ?_⟩
      · show basei + oi i + (rowAt R i).length ≤ c'.size
        omega
      · intro k s hs
        have hs' : (rowAt R i)[k]? = some s := hs
        have hk : k < (rowAt R i).length := (List.getElem?_eq_some_iff.1 hs').1
        rw [← p3, List.getElem?_take, if_pos hk, List.getElem?_drop] at hs'
        obtain ⟨u, g1, g2⟩ := s6 (oi i + k) s hs'
        refine ⟨u, by simpa [Nat.add_assoc] using g1, ?_⟩
        have hsv : isVal s = true := (List.all_eq_true.1 (hval _ (rowAt_mem hi))) s (List.mem_of_getElem? hs)
        obtain ⟨z, rfl⟩ := isVal_of hsv
        simpa only [VRel] using g2
  · intro x x' bl bl' rb1 ba ba' h1 h2 h3 h4
    rcases hms x bl h1 with ⟨rfl, rfl⟩ | ⟨i, hi, rfl, rfl⟩ <;> rcases hms x' bl' h2 with ⟨rfl, rfl⟩ | ⟨i', hi', rfl, rfl⟩
    · rfl
    · obtain ⟨rbi, basei, t1, t2⟩ := jr i' hi'
      obtain ⟨capi, exi, blki, p1, p2, p3, p4⟩ := hrow i' hi'
      rw [j0] at h3
      rw [t2] at h4
      simp at h3 h4
      obtain ⟨rfl, _⟩ := h3
      obtain ⟨rfl, _⟩ := h4
      exact absurd (hr.inj _ _ _ _ _ _ _ p2 hb t1 k1) (hne i' hi')
    · obtain ⟨rbi, basei, t1, t2⟩ := jr i hi
      obtain ⟨capi, exi, blki, p1, p2, p3, p4⟩ := hrow i hi
      rw [j0] at h4
      rw [t2] at h3
      simp at h3 h4
      obtain ⟨rfl, _⟩ := h3
      obtain ⟨rfl, _⟩ := h4
      exact absurd (hr.inj _ _ _ _ _ _ _ p2 hb t1 k1) (hne i hi)
    · obtain ⟨rbi, basei, t1, t2⟩ := jr i hi
      obtain ⟨capi, exi, blki, p1, p2, p3, p4⟩ := hrow i hi
      obtain ⟨rbi', basei', t1', t2'⟩ := jr i' hi'
      obtain ⟨capi', exi', blki', p1', p2', p3', p4'⟩ := hrow i' hi'
      rw [t2] at h3
      rw [t2'] at h4
      simp at h3 h4
      obtain ⟨rfl, _⟩ := h3
      obtain ⟨rfl, _⟩ := h4
      rw [hinj i i' hi hi' (hr.inj _ _ _ _ _ _ _ p2 p2' t1 t1')]

theorem outerB_nr (b : Nat) (R : List (List SV)) : noRowL (outerB b R) = true := by
  unfold outerB
  generalize List.range R.length = l
  induction l with
  | nil => rfl
  | cons a l ih => simp only [List.map_cons, noRowL, ih, Bool.and_true, noRow]
theorem mat_nr {b n : Nat} {R : List (List SV)} (h : ∀ row ∈ R, row.all isVal = true) : nrHeap (hx [.mat b R] n) := by
  intro x blk hb
  rw [hx_map, xmap] at hb
  split at hb
  · rename_i hr
    rw [matMap] at hb
    split at hb
    · simp at hb; subst hb; exact outerB_nr b R
    · rename_i h0
      simp at hb; subst hb
      exact isVal_noRow (h _ (rowAt_mem (by omega)))
  · simp [xmap] at hb
theorem MatRes.vals {R : List (List SV)} {r : SV} {H : Heap} (h : MatRes R r H) : ∀ row ∈ R, row.all isVal = true := by
  obtain ⟨b, off, cap, ex, blk, _, _, _, h5, _⟩ := h
  exact h5
variable {P : Program}
theorem FCall.mat {f : FuncId} {args : List SV} {R : List (List SV)} (h : FCall P f args (MatRes R)) : FCall P f args (MatOne R) := by
  refine ⟨h.1, fun w vs hl => (h.2 w vs hl).mono ?_⟩
  rintro e w' ⟨v, r, j, H, h1, h2, h3, h4, h5, h6, h7, h8⟩
  obtain ⟨j', r', v', o'⟩ := mat_rel h8 h3 h4
  exact ⟨v, _, j', _, h1, h2, r', v', fun k hk => h5 k (o' k hk), rfl, mat_nr h8.vals, rfl, rfl⟩
theorem merge_mat {j : JMap} {H : Heap} {w : World} (r : Rel j H w) {R : List (List SV)} (h : ∀ row ∈ R, row.all isVal = true) : H.merge (hx [.mat 0 R] (R.length + 1)) = H.pushM R := by
  refine Heap.ext' (fun x => ?_) (by simp only [Heap.merge, Heap.pushM, hx]; omega)
  simp only [Heap.merge, Heap.pushM, hx_map, xmap]
  by_cases h1 : x < H.nb
  · rw [if_pos h1, if_neg (by omega)]
  · rw [if_neg h1]
    by_cases h2 : x ≤ H.nb + R.length
    · rw [if_pos (by omega), if_pos (by omega), matMap, matMap]
      by_cases h3 : x = H.nb
      · subst h3
        rw [if_pos (by omega), if_pos rfl]
        simp only [Option.map_some]
        congr 2
        unfold outerB
        generalize List.range R.length = l
        induction l with
        | nil => rfl
        | cons a l ih =>
          simp only [List.map_cons, shiftL, ih, shift]
          congr 2; omega
      · rw [if_neg (by omega), if_neg h3]
        simp only [Option.map_some]
        have e : x - H.nb - 0 - 1 = x - H.nb - 1 := by omega
        rw [e, isVal_shift (h _ (rowAt_mem (by omega)))]
    · rw [if_neg (by omega), if_neg (by omega), r.fresh (by omega)]
      rfl
/-- A call that gives back a matrix in memory of its own. -/
theorem FCall.callMat {f : FuncId} {args args' : List SV} {R : List (List SV)} {H : Heap} {K : SV → Heap → Prop} (h : FCall P f args' (MatOne R)) (hc : ∀ row ∈ R, row.all isVal = true) (fu : Nat) (hv : viewL H fu args = some args')
    (k : K (.own H.nb 0 R.length R.length 1 false) (H.pushM R)) : @CallX P f args H ⟨K⟩ := by
  refine ⟨h.1, fun j w vs r hl => ((h.callS fu hv).2 j w vs r hl).mono ?_⟩
  rintro e w' ⟨r1, v, j', H', h1, h2, h3, h4, r0, H0, ⟨rfl, rfl⟩, rfl, rfl⟩
  refine ⟨_, v, j', _, h1, h2, h3, h4, ?_⟩
  rw [merge_mat r hc]
  simpa only [shift, Nat.zero_add] using k
theorem mi_vals (M : List (List Int)) : ∀ row ∈ mi M, row.all isVal = true := by
  intro row h
  obtain ⟨l, _, rfl⟩ := List.mem_map.1 h
  exact ints_vals l
theorem mb_vals (M : List (List Bool)) : ∀ row ∈ mb M, row.all isVal = true := by
  intro row h
  obtain ⟨l, _, rfl⟩ := List.mem_map.1 h
  exact bools_vals l

/-! ### Seen as contents -/
theorem view_mat {H : Heap} {b n f cap : Nat} {ex : Bool} {R : List (List SV)} (h : EntIn H (.mat b R)) (hn : n = R.length) (hv : ∀ i, i < R.length → viewL H f (rowAt R i) = some (rowAt R i)) :
    view H (f + 2) (.own b 0 n cap 1 ex) = some (.row n false (R.map fun r => .row r.length false r)) := by
  subst hn
  have h0 : H.map b = some ⟨outerB b R, false⟩ := by rw [h b (by omega) (by omega), matMap, if_pos rfl]
  simp only [view, h0, Nat.mul_one, List.drop_zero, outerB_length, Nat.zero_add, Nat.le_refl, if_true]
  have e : (outerB b R).take R.length = outerB b R := List.take_of_length_le (by rw [outerB_length]; exact Nat.le_refl _)
  rw [e, outerB, viewL_fn (h := fun i => .row (rowAt R i).length false (rowAt R i)) _ (fun i hi => ?_)]
  · have : (List.range R.length).map (fun i => SV.row (rowAt R i).length false (rowAt R i)) = R.map fun r => .row r.length false r := by
      apply List.ext_getElem?
      intro i
      simp only [List.getElem?_map]
      by_cases hi : i < R.length
      · rw [List.getElem?_range hi, List.getElem?_eq_getElem hi, ← rowAt_length hi]; rfl
      · have : (List.range R.length)[i]? = none := by simp; omega
        rw [this, List.getElem?_eq_none (by omega : R.length ≤ i)]; rfl
    rw [this]
  · have hi' : i < R.length := by simpa using hi
    have hm : H.map (b + 1 + i) = some ⟨rowAt R i, false⟩ := by
      rw [h (b + 1 + i) (by omega) (by omega), matMap, if_neg (by omega)]
      congr 3; omega
    simp only [view, hm, Nat.mul_one, List.drop_zero, Nat.zero_add, Nat.le_refl, if_true, List.take_length, hv i hi']
theorem view_mi {H : Heap} {b n f cap : Nat} {ex : Bool} {M : List (List Int)} (h : EntIn H (.mat b (mi M))) (hn : n = M.length) : view H (f + 2) (.own b 0 n cap 1 ex) = some (rr M) := by
  rw [view_mat h (by rw [hn, mi_length]) (fun i hi => by rw [mi_row (by rwa [mi_length] at hi)]; exact viewL_ints _ _ _)]
  subst hn
  simp only [rr, rows, mi, List.map_map]
  congr 2
  exact List.map_congr_left (fun r _ => by simp [ri, ints_length])
theorem view_mb {H : Heap} {b n f cap : Nat} {ex : Bool} {M : List (List Bool)} (h : EntIn H (.mat b (mb M))) (hn : n = M.length) : view H (f + 2) (.own b 0 n cap 1 ex) = some (rb M) := by
  rw [view_mat h (by rw [hn, mb_length]) (fun i hi => by rw [mb_row (by rwa [mb_length] at hi)]; exact viewL_bools _ _ _)]
  subst hn
  simp only [rb, rowsB, mb, List.map_map]
  congr 2
  exact List.map_congr_left (fun r _ => by simp [bools_length])
theorem MatOne.viewI {M : List (List Int)} {r : SV} {H : Heap} (h : MatOne (mi M) r H) : view H 2 r = some (rr M) := by
  obtain ⟨rfl, rfl⟩ := h
  exact view_mi EntIn.self (mi_length M)
theorem MatOne.viewB {M : List (List Bool)} {r : SV} {H : Heap} (h : MatOne (mb M) r H) : view H 2 r = some (rb M) := by
  obtain ⟨rfl, rfl⟩ := h
  exact view_mb EntIn.self (mb_length M)
theorem rows_res {b nb : Nat} {fl : Bool} {nr : List (Nat × List SV)} {H : Heap} (h : NrOk b nb nr) (hv : ∀ p ∈ nr, p.2.all isVal = true) (h1 : H.map b = some ⟨outerN fl nr, false⟩) (h2 : EntIn H (.rows fl nr)) : MatRes (nr.map (·.2)) (.own b 0 nr.length nr.length 1 false) H := by
  have hl : (nr.map (·.2)).length = nr.length := by simp
  refine ⟨b, 0, nr.length, false, _, by rw [hl], h1, by rw [hl, outerN_length]; omega, ?_, fun i => (nr.getD i (0, [])).1, fun _ => 0, ?_, ?_, ?_⟩
  · intro row hr
    obtain ⟨p, hp, rfl⟩ := List.mem_map.1 hr
    exact hv p hp
  · intro i i' hi hi' he
    rw [hl] at hi hi'
    have hn := h.2.2
    have hi2 : i < (nr.map (·.1)).length := by simpa using hi
    have hi2' : i' < (nr.map (·.1)).length := by simpa using hi'
    have e1 : (nr.getD i (0, [])).1 = (nr.map (·.1))[i] := by simp [hi]
    have e2 : (nr.getD i' (0, [])).1 = (nr.map (·.1))[i'] := by simp [hi']
    simp only [] at he
    rw [e1, e2] at he
    have hpw := List.pairwise_iff_getElem.1 hn
    rcases Nat.lt_trichotomy i i' with g | g | g
    · exact absurd he (hpw i i' hi2 hi2' g)
    · exact g
    · exact absurd he.symm (hpw i' i hi2' hi2 g)
  · intro i hi
    rw [hl] at hi
    have : nr.getD i (0, []) ∈ nr := by simp [hi]
    exact (h.2.1 _ this).2
  · intro i hi
    rw [hl] at hi
    have hm : nr.getD i (0, []) ∈ nr := by simp [hi]
    have hr : rowAt (nr.map (·.2)) i = (nr.getD i (0, [])).2 := by simp [rowAt, hi]
    refine ⟨(rowAt (nr.map (·.2)) i).length, fl, ⟨(nr.getD i (0, [])).2, fl⟩, ?_, h2 _ hm, ?_, ?_⟩
    · rw [hr]; simp [outerN, hi]
    · rw [hr]; simp
    · rw [hr]; simp
/-- At a body's end: rows under names of any kind. -/
theorem fin_rows {b nb : Nat} {fl : Bool} {nr : List (Nat × List SV)} {H : Heap} {R : List (List SV)} (h : NrOk b nb nr) (hv : ∀ p ∈ nr, p.2.all isVal = true) (h1 : H.map b = some ⟨outerN fl nr, false⟩) (h2 : EntIn H (.rows fl nr)) (hR : R = nr.map (·.2)) :
    Fin (MatRes R) (.own b 0 nr.length nr.length 1 false) H := by
  subst hR
  have hne : ∀ p ∈ nr, p.1 ≠ b := fun p hp => (h.2.1 p hp).2
  refine ⟨hx [.blk b ⟨outerN fl nr, false⟩, .rows fl nr] H.nb, ⟨rfl, fun x => ?_⟩, rfl, ?_, rows_res h hv (by rw [hx_map, xmap, if_pos rfl]) ((EntIn.selfR h.2.2).skipR hne)⟩
  · rw [hx_map, xmap]
    by_cases hx : x = b
    · subst hx; rw [if_pos rfl]; exact .inr h1.symm
    · rw [if_neg hx, xmap]
      split
      · rename_i r hr
        exact .inr (h2 _ (nrFind_mem hr)).symm
      · exact .inl rfl
  · intro x blk hb
    rw [hx_map, xmap] at hb
    split at hb
    · simp at hb; subst hb
      show noRowL (outerN fl nr) = true
      unfold outerN
      clear h hv h1 h2 hne
      induction nr with
      | nil => rfl
      | cons a l ih => simp only [List.map_cons, noRowL, ih, Bool.and_true, noRow]
    · rw [xmap] at hb
      split at hb
      · rename_i r hr
        simp at hb; subst hb
        exact isVal_noRow (hv _ (nrFind_mem hr))
      · simp [xmap] at hb
attribute [go_sem] hx_del xdel_blk xdel_rows xdel_nil hx_nb hx_map hx_push hx_set hx_pushM hp_pushM toE_nil toE_cons xmap_blk xmap_nil xmap_mat xset_blk xset_nil mi_length mb_length outerB_length bools_length
end Go.Sh

/-
  Plain: components of a graph over 0 .. n-1, numbered by their first item; that the labels are determined; what a search leaves behind.
-/
namespace Go.Sh
set_option linter.unusedSimpArgs false
set_option linter.unusedVariables false
open Go Go.Proofs

inductive Rch (n : Nat) (B : Nat → Nat → Bool) : Nat → Nat → Prop
  | refl {x : Nat} : Rch n B x x
  | tail {x y z : Nat} : Rch n B x y → y < n → z < n → B y z = true → Rch n B x z
theorem Rch.trans {n : Nat} {B : Nat → Nat → Bool} {x y z : Nat} (h : Rch n B x y) (g : Rch n B y z) : Rch n B x z := by
  induction g with
  | refl => exact h
  | tail _ h1 h2 h3 ih => exact .tail ih h1 h2 h3
theorem Rch.one {n : Nat} {B : Nat → Nat → Bool} {x y : Nat} (h1 : x < n) (h2 : y < n) (h : B x y = true) : Rch n B x y := .tail .refl h1 h2 h
theorem Rch.symm {n : Nat} {B : Nat → Nat → Bool} (hs : ∀ x y, x < n → y < n → B x y = true → B y x = true) {x y : Nat} (h : Rch n B x y) : Rch n B y x := by
  induction h with
  | refl => exact .refl
  | tail _ h1 h2 h3 ih => exact (Rch.one h2 h1 (hs _ _ h1 h2 h3)).trans ih
theorem Rch.mono {n : Nat} {B B' : Nat → Nat → Bool} (hb : ∀ x y, x < n → y < n → B x y = true → Rch n B' x y) {x y : Nat} (h : Rch n B x y) : Rch n B' x y := by
  induction h with
  | refl => exact .refl
  | tail _ h1 h2 h3 ih => exact ih.trans (hb _ _ h1 h2 h3)
theorem Rch.lt {n : Nat} {B : Nat → Nat → Bool} {x y : Nat} (h : Rch n B x y) (hx : x < n) : y < n := by
  cases h with
  | refl => exact hx
  | tail _ _ h2 _ => exact h2
def RchK (n : Nat) (B : Nat → Nat → Bool) : Nat → Nat → Nat → Prop
  | 0, x, y => x = y
  | k + 1, x, z => RchK n B k x z ∨ ∃ y, y < n ∧ z < n ∧ RchK n B k x y ∧ B y z = true
theorem RchK.rch {n : Nat} {B : Nat → Nat → Bool} : ∀ {k x y : Nat}, RchK n B k x y → Rch n B x y
  | 0, x, y, h => by rw [RchK] at h; subst h; exact .refl
  | k + 1, x, z, h => by
    rw [RchK] at h
    rcases h with h | ⟨y, h1, h2, h3, h4⟩
    · exact RchK.rch h
    · exact .tail (RchK.rch h3) h1 h2 h4
theorem RchK.self {n : Nat} {B : Nat → Nat → Bool} : ∀ {k x : Nat}, RchK n B k x x
  | 0, x => rfl
  | k + 1, x => .inl RchK.self
theorem countP_lt {α : Type} {p q : α → Bool} : ∀ {l : List α} {i : α}, (∀ x ∈ l, p x = true → q x = true) → i ∈ l → q i = true → p i = false → l.countP p < l.countP q
  | [], i, _, h, _, _ => by simp at h
  | a :: l, i, hpq, h, hq, hp => by
    have hle : l.countP p ≤ l.countP q := List.countP_mono_left (fun x hx h => hpq x (by simp [hx]) h)
    rcases List.mem_cons.1 h with rfl | h
    · rw [List.countP_cons_of_neg (by simp [hp]), List.countP_cons_of_pos hq]; omega
    · have := countP_lt (fun x hx => hpq x (by simp [hx])) h hq hp
      rw [List.countP_cons, List.countP_cons]
      have := hpq a (by simp)
      cases hpa : p a with
      | false => simp; omega
      | true => simp [this hpa]; omega
open Classical in
theorem rch_closed {n : Nat} {B : Nat → Nat → Bool} {i : Nat} (hi : i < n) : ∀ k, (∀ x y, x < n → y < n → RchK n B k i x → B x y = true → RchK n B k i y) ∨ k + 1 ≤ (List.range n).countP (fun x => decide (RchK n B k i x))
  | 0 => by
    right
    have : 0 < (List.range n).countP (fun x => decide (RchK n B 0 i x)) := List.countP_pos_iff.2 ⟨i, by simpa using hi, by simp [RchK]⟩
    omega
  | k + 1 => by
    by_cases hc : ∀ x y, x < n → y < n → RchK n B k i x → B x y = true → RchK n B k i y
    · left
      intro x y hx hy h hb
      refine .inl (hc x y hx hy ?_ hb)
      rcases h with h | ⟨z, h1, h2, h3, h4⟩
      · exact h
      · exact hc z x h1 h2 h3 h4
    · right
      have ih := (rch_closed hi k).resolve_left hc
      have : ∃ x y, x < n ∧ y < n ∧ RchK n B k i x ∧ B x y = true ∧ ¬ RchK n B k i y := by
        refine Classical.byContradiction fun hn => hc fun x y hx hy h hb => Classical.byContradiction fun h2 => hn ⟨x, y, hx, hy, h, hb, h2⟩
      obtain ⟨x, y, hx, hy, h, hb, h2⟩ := this
      have := countP_lt (p := fun x => decide (RchK n B k i x)) (q := fun x => decide (RchK n B (k + 1) i x)) (l := List.range n) (i := y)
        (fun z _ hz => decide_eq_true (.inl (of_decide_eq_true hz))) (by simpa using hy) (decide_eq_true (.inr ⟨x, hx, hy, h, hb⟩)) (decide_eq_false h2)
      omega
theorem rch_bound {n : Nat} {B : Nat → Nat → Bool} {i x : Nat} (hi : i < n) (h : Rch n B i x) : RchK n B n i x := by
  have hc := (rch_closed (B := B) hi n).resolve_right (fun h => by
    have := List.countP_le_length (l := List.range n) (p := fun x => @decide (RchK n B n i x) (Classical.propDecidable _))
    simp only [List.length_range] at this
    omega)
  induction h with
  | refl => exact RchK.self
  | tail _ h1 h2 h3 ih => exact hc _ _ h1 h2 ih h3

/-- The labels of the components. -/
structure CompL (n : Nat) (B : Nat → Nat → Bool) (L : List Int) : Prop where
  len : L.length = n
  nn : ∀ x, x < n → 0 ≤ L.getD x 0
  can : ∀ x v, x < n → 0 ≤ v → v < L.getD x 0 → ∃ y, y < x ∧ L.getD y 0 = v
  iff : ∀ x y, x < n → y < n → (L.getD x 0 = L.getD y 0 ↔ Rch n B x y)
theorem list_ext {L L' : List Int} (h : L.length = L'.length) (g : ∀ x, x < L.length → L.getD x 0 = L'.getD x 0) : L = L' := by
  refine List.ext_getElem h fun i h1 h2 => ?_
  have := g i h1
  simpa [h1, h2] using this
theorem CompL.uniq {n : Nat} {B B' : Nat → Nat → Bool} {L L' : List Int} (h : CompL n B L) (h' : CompL n B' L') (hb : ∀ x y, x < n → y < n → (Rch n B x y ↔ Rch n B' x y)) : L = L' := by
  refine list_ext (h.len.trans h'.len.symm) (fun x hx => ?_)
  rw [h.len] at hx
  induction x using Nat.strongRecOn with
  | _ x ih =>
    rcases Int.lt_trichotomy (L.getD x 0) (L'.getD x 0) with hl | he | hl
    · obtain ⟨y, hy, e⟩ := h'.can x _ hx (h.nn x hx) hl
      have e2 := ih y hy (by omega)
      have := (h.iff y x (by omega) hx).1 (by omega)
      have := (h'.iff y x (by omega) hx).2 ((hb _ _ (by omega) hx).1 this)
      omega
    · exact he
    · obtain ⟨y, hy, e⟩ := h.can x _ hx (h'.nn x hx) hl
      have e2 := ih y hy (by omega)
      have := (h'.iff y x (by omega) hx).1 (by omega)
      have := (h.iff y x (by omega) hx).2 ((hb _ _ (by omega) hx).2 this)
      omega
open Classical in
noncomputable def comp (n : Nat) (B : Nat → Nat → Bool) : List Int := if h : ∃ L, CompL n B L then Classical.choose h else []
theorem CompL.eq {n : Nat} {B : Nat → Nat → Bool} {L : List Int} (h : CompL n B L) : L = comp n B := by
  have hex : ∃ L, CompL n B L := ⟨L, h⟩
  rw [comp, dif_pos hex]
  exact h.uniq (Classical.choose_spec hex) (fun _ _ _ _ => Iff.rfl)
theorem CompL.comp {n : Nat} {B : Nat → Nat → Bool} {L : List Int} (h : CompL n B L) : CompL n B (comp n B) := by rw [← h.eq]; exact h

/-- Items before i are labelled, with whole components. -/
structure PartL (n : Nat) (B : Nat → Nat → Bool) (i : Nat) (c : Int) (O : List Int) : Prop where
  len : O.length = n
  c0 : 0 ≤ c
  ci : c ≤ i
  done : ∀ x, x < i → x < n → 0 ≤ O.getD x 0
  rng : ∀ x, x < n → O.getD x 0 < c
  vals : ∀ v, 0 ≤ v → v < c → ∃ y, y < i ∧ y < n ∧ O.getD y 0 = v
  can : ∀ x v, x < n → 0 ≤ v → v < O.getD x 0 → ∃ y, y < x ∧ O.getD y 0 = v
  clo : ∀ x y, x < n → y < n → 0 ≤ O.getD x 0 → B x y = true → O.getD y 0 = O.getD x 0
  snd : ∀ x y, x < n → y < n → 0 ≤ O.getD x 0 → O.getD x 0 = O.getD y 0 → Rch n B x y
theorem getD_rep {n x : Nat} {a : Int} (h : x < n) : (List.replicate n a).getD x 0 = a := by simp [h]
theorem PartL.zero (n : Nat) (B : Nat → Nat → Bool) : PartL n B 0 0 (List.replicate n (-1)) where
  len := by simp
  c0 := by omega
  ci := by omega
  done x h := by omega
  rng x h := by rw [getD_rep h]; omega
  vals v h1 h2 := by omega
  can x v h h1 h2 := by rw [getD_rep h] at h2; omega
  clo x y h1 _ h2 := by rw [getD_rep h1] at h2; omega
  snd x y h1 _ h2 := by rw [getD_rep h1] at h2; omega
theorem PartL.skip {n : Nat} {B : Nat → Nat → Bool} {i : Nat} {c : Int} {O : List Int} (h : PartL n B i c O) (hi : 0 ≤ O.getD i 0) : PartL n B (i + 1) c O where
  len := h.len
  c0 := h.c0
  ci := by have := h.ci; omega
  done x hx hn := by
    rcases Nat.lt_succ_iff_lt_or_eq.1 hx with g | rfl
    · exact h.done x g hn
    · exact hi
  rng := h.rng
  vals v h1 h2 := by
    obtain ⟨y, g1, g2⟩ := h.vals v h1 h2
    exact ⟨y, by omega, g2⟩
  can := h.can
  clo := h.clo
  snd := h.snd
theorem PartL.path {n : Nat} {B : Nat → Nat → Bool} {i : Nat} {c : Int} {O : List Int} (h : PartL n B i c O) {x y : Nat} (hr : Rch n B x y) (h0 : 0 ≤ O.getD x 0) : O.getD y 0 = O.getD x 0 := by
  induction hr with
  | refl => rfl
  | tail _ h1 h2 h3 ih => rw [h.clo _ _ h1 h2 (by rw [ih]; exact h0) h3, ih]
/-- O' is O with the component of i labelled c. -/
structure NewL (n : Nat) (B : Nat → Nat → Bool) (c : Int) (i : Nat) (O O' : List Int) : Prop where
  len : O'.length = n
  new : ∀ x, x < n → Rch n B i x → O'.getD x 0 = c
  old : ∀ x, x < n → ¬ Rch n B i x → 0 ≤ O.getD x 0 → O'.getD x 0 = O.getD x 0
  neg : ∀ x, x < n → ¬ Rch n B i x → O.getD x 0 < 0 → O'.getD x 0 < 0
theorem PartL.unl {n : Nat} {B : Nat → Nat → Bool} (hs : ∀ x y, x < n → y < n → B x y = true → B y x = true) {i : Nat} {c : Int} {O : List Int} (h : PartL n B i c O) {k : Nat} (h0 : O.getD k 0 < 0) {x : Nat} (hr : Rch n B k x) : O.getD x 0 < 0 := by
  refine Int.not_le.1 fun hn => ?_
  have := h.path (hr.symm hs) hn
  omega
theorem PartL.step {n : Nat} {B : Nat → Nat → Bool} (hs : ∀ x y, x < n → y < n → B x y = true → B y x = true) {i : Nat} {c : Int} {O O' : List Int} (h : PartL n B i c O) (hi : i < n) (h0 : O.getD i 0 < 0) (g : NewL n B c i O O') : PartL n B (i + 1) (c + 1) O' := by
  have hun : ∀ x, Rch n B i x → O.getD x 0 < 0 := fun x hr => h.unl hs h0 hr
  have hkeep : ∀ x, x < n → 0 ≤ O.getD x 0 → O'.getD x 0 = O.getD x 0 := fun x hx hn => g.old x hx (fun hr => by have := hun x hr; omega) hn
  have hback : ∀ x, x < n → ¬ Rch n B i x → 0 ≤ O'.getD x 0 → O'.getD x 0 = O.getD x 0 ∧ 0 ≤ O.getD x 0 := by
    intro x hx hr hn
    by_cases h1 : 0 ≤ O.getD x 0
    · exact ⟨hkeep x hx h1, h1⟩
    · have := g.neg x hx hr (by omega); omega
  have hc0 := h.c0
  have hci := h.ci
  refine ⟨g.len, by omega, by omega, ?_, ?_, ?_, ?_, ?_, ?_⟩
  · intro x hx hn
    rcases Nat.lt_succ_iff_lt_or_eq.1 hx with k | rfl
    · have := h.done x k hn
      rw [hkeep x hn this]; exact this
    · rw [g.new x hn .refl]; omega
  · intro x hx
    by_cases hr : Rch n B i x
    · rw [g.new x hx hr]; omega
    · by_cases hn : 0 ≤ O'.getD x 0
      · have := hback x hx hr hn
        have := h.rng x hx
        omega
      · omega
  · intro v h1 h2
    by_cases hv : v = c
    · exact ⟨i, by omega, hi, by rw [g.new i hi .refl, hv]⟩
    · obtain ⟨y, k1, k2, k3⟩ := h.vals v h1 (by omega)
      exact ⟨y, by omega, k2, by rw [hkeep y k2 (by omega), k3]⟩
  · intro x v hx h1 h2
    by_cases hr : Rch n B i x
    · rw [g.new x hx hr] at h2
      obtain ⟨y, k1, k2, k3⟩ := h.vals v h1 h2
      have : ¬ x < i := fun hl => by have := h.done x hl hx; have := hun x hr; omega
      exact ⟨y, by omega, by rw [hkeep y k2 (by omega), k3]⟩
    · have hb := hback x hx hr (by omega)
      rw [hb.1] at h2
      obtain ⟨y, k1, k2⟩ := h.can x v hx h1 h2
      exact ⟨y, k1, by rw [hkeep y (by omega) (by omega), k2]⟩
  · intro x y hx hy h1 hb
    by_cases hr : Rch n B i x
    · rw [g.new x hx hr, g.new y hy (.tail hr hx hy hb)]
    · have hq := hback x hx hr h1
      have := h.clo x y hx hy hq.2 hb
      rw [hkeep y hy (by omega)]
      omega
  · intro x y hx hy h1 he
    by_cases hr : Rch n B i x
    · by_cases hr2 : Rch n B i y
      · exact (hr.symm hs).trans hr2
      · have := g.new x hx hr
        have := hback y hy hr2 (by omega)
        have := h.rng y hy
        omega
    · have hq := hback x hx hr h1
      by_cases hr2 : Rch n B i y
      · have := g.new y hy hr2
        have := h.rng x hx
        omega
      · have := hback y hy hr2 (by omega)
        exact h.snd x y hx hy hq.2 (by omega)
theorem PartL.final {n : Nat} {B : Nat → Nat → Bool} {i : Nat} {c : Int} {O : List Int} (h : PartL n B i c O) (hi : n ≤ i) : CompL n B O where
  len := h.len
  nn x hx := h.done x (by omega) hx
  can := h.can
  iff x y hx hy := ⟨fun e => h.snd x y hx hy (h.done x (by omega) hx) e, fun r => (h.path r (h.done x (by omega) hx)).symm⟩

/-! ### The search that calls itself -/
structure DfsL (n : Nat) (B : Nat → Nat → Bool) (c : Int) (i : Nat) (O O' : List Int) : Prop where
  len : O'.length = n
  self : O'.getD i 0 = c
  keep : ∀ x, x < n → 0 ≤ O.getD x 0 → O'.getD x 0 = O.getD x 0
  new : ∀ x, x < n → O.getD x 0 < 0 → O'.getD x 0 < 0 ∨ (O'.getD x 0 = c ∧ Rch n B i x)
  clo : ∀ x y, x < n → y < n → O.getD x 0 < 0 → 0 ≤ O'.getD x 0 → B x y = true → 0 ≤ O'.getD y 0
structure DfsK (n : Nat) (B : Nat → Nat → Bool) (c : Int) (i : Nat) (O : List Int) (k : Nat) (O' : List Int) : Prop where
  len : O'.length = n
  self : O'.getD i 0 = c
  keep : ∀ x, x < n → 0 ≤ O.getD x 0 → O'.getD x 0 = O.getD x 0
  new : ∀ x, x < n → O.getD x 0 < 0 → O'.getD x 0 < 0 ∨ (O'.getD x 0 = c ∧ Rch n B i x)
  clo : ∀ x y, x < n → y < n → x ≠ i → O.getD x 0 < 0 → 0 ≤ O'.getD x 0 → B x y = true → 0 ≤ O'.getD y 0
  cli : ∀ y, y < n → y < k → B i y = true → 0 ≤ O'.getD y 0
theorem getD_set {L : List Int} {i x : Nat} {a : Int} (hi : i < L.length) : (L.set i a).getD x 0 = if x = i then a else L.getD x 0 := by
  simp only [List.getD_eq_getElem?_getD, List.getElem?_set]
  by_cases h : i = x
  · subst h; simp [hi]
  · have : ¬ x = i := fun e => h e.symm
    simp [h, this]
theorem DfsK.start {n : Nat} {B : Nat → Nat → Bool} {c : Int} {i : Nat} {O : List Int} (hl : O.length = n) (hi : i < n) (h0 : O.getD i 0 < 0) : DfsK n B c i O 0 (O.set i c) where
  len := by simpa using hl
  self := by rw [getD_set (by omega), if_pos rfl]
  keep x hx h := by
    rw [getD_set (by omega), if_neg (fun e => by subst e; omega)]
  new x hx h := by
    rw [getD_set (by omega)]
    by_cases e : x = i
    · subst e; rw [if_pos rfl]; exact .inr ⟨rfl, .refl⟩
    · rw [if_neg e]; exact .inl h
  clo x y hx hy hne h h2 hb := by
    rw [getD_set (by omega), if_neg hne] at h2; omega
  cli y _ h := by omega
theorem DfsK.skip {n : Nat} {B : Nat → Nat → Bool} {c : Int} {i k : Nat} {O O' : List Int} (h : DfsK n B c i O k O') (hk : B i k = true → 0 ≤ O'.getD k 0) : DfsK n B c i O (k + 1) O' := by
  refine ⟨h.len, h.self, h.keep, h.new, h.clo, fun y hy hlt hb => ?_⟩
  rcases Nat.lt_succ_iff_lt_or_eq.1 hlt with g | rfl
  · exact h.cli y hy g hb
  · exact hk hb
theorem DfsK.step {n : Nat} {B : Nat → Nat → Bool} {c : Int} (hc : 0 ≤ c) {i k : Nat} {O O1 O2 : List Int} (hi : i < n) (hk : k < n) (h : DfsK n B c i O k O1) (hb : B i k = true) (hneg : O1.getD k 0 < 0) (g : DfsL n B c k O1 O2) : DfsK n B c i O (k + 1) O2 where
  len := g.len
  self := by rw [g.keep i hi (by rw [h.self]; exact hc), h.self]
  keep x hx h1 := by rw [g.keep x hx (by rw [h.keep x hx h1]; exact h1), h.keep x hx h1]
  new x hx h1 := by
    rcases h.new x hx h1 with g1 | ⟨g1, g2⟩
    · rcases g.new x hx g1 with g3 | ⟨g3, g4⟩
      · exact .inl g3
      · exact .inr ⟨g3, (Rch.one hi hk hb).trans g4⟩
    · exact .inr ⟨by rw [g.keep x hx (by omega), g1], g2⟩
  clo x y hx hy hne h1 h2 hb := by
    by_cases h3 : 0 ≤ O1.getD x 0
    · have := h.clo x y hx hy hne h1 h3 hb
      rw [g.keep y hy this]; exact this
    · exact g.clo x y hx hy (by omega) h2 hb
  cli y hy hlt hb := by
    rcases Nat.lt_succ_iff_lt_or_eq.1 hlt with k1 | rfl
    · have := h.cli y hy k1 hb
      rw [g.keep y hy this]; exact this
    · rw [g.self]; exact hc
theorem DfsK.final {n : Nat} {B : Nat → Nat → Bool} {c : Int} {i k : Nat} {O O' : List Int} (h : DfsK n B c i O k O') (hk : n ≤ k) : DfsL n B c i O O' where
  len := h.len
  self := h.self
  keep := h.keep
  new := h.new
  clo x y hx hy h1 h2 hb := by
    by_cases e : x = i
    · subst e; exact h.cli y hy (by omega) hb
    · exact h.clo x y hx hy e h1 h2 hb
def negs (n : Nat) (O : List Int) : Nat := (List.range n).countP fun x => decide (O.getD x 0 < 0)
theorem DfsK.negs {n : Nat} {B : Nat → Nat → Bool} {c : Int} (hc : 0 ≤ c) {i k : Nat} {O O' : List Int} (h : DfsK n B c i O k O') (hi : i < n) (h0 : O.getD i 0 < 0) : negs n O' < negs n O := by
  refine countP_lt (i := i) (fun x hx hd => ?_) (by simpa using hi) (decide_eq_true h0) (decide_eq_false (by rw [h.self]; omega))
  have hx : x < n := by simpa using hx
  have := of_decide_eq_true hd
  refine decide_eq_true (Int.not_le.1 fun hn => ?_)
  rw [h.keep x hx hn] at this
  omega
theorem negs_pos {n i : Nat} {O : List Int} (hi : i < n) (h : O.getD i 0 < 0) : 0 < negs n O := List.countP_pos_iff.2 ⟨i, by simpa using hi, decide_eq_true h⟩
theorem DfsL.newL {n : Nat} {B : Nat → Nat → Bool} (hs : ∀ x y, x < n → y < n → B x y = true → B y x = true) {i j : Nat} {c : Int} {O O' : List Int} (h : PartL n B j c O) (hi : i < n) (h0 : O.getD i 0 < 0) (g : DfsL n B c i O O') : NewL n B c i O O' where
  len := g.len
  new x hx hr := by
    have hun : ∀ x, Rch n B i x → O.getD x 0 < 0 := fun x hr => h.unl hs h0 hr
    induction hr with
    | refl => exact g.self
    | tail h1 h2 h3 h4 ih =>
      have e := ih h2
      have hc0 := h.c0
      have := g.clo _ _ h2 h3 (hun _ h1) (by omega) h4
      rcases g.new _ h3 (hun _ (.tail h1 h2 h3 h4)) with k | k
      · omega
      · exact k.1
  old x hx _ h1 := g.keep x hx h1
  neg x hx hr h1 := by
    rcases g.new x hx h1 with k | k
    · exact k
    · exact absurd k.2 hr

/-! ### The search by rounds -/
structure SpI (n : Nat) (B : Nat → Nat → Bool) (c : Int) (i : Nat) (O : List Int) (s a b : Nat) (O' : List Int) : Prop where
  len : O'.length = n
  all : ∀ x, x < n → O'.getD x 0 = O.getD x 0 ∨ (O'.getD x 0 = c ∧ Rch n B i x)
  rk : ∀ x, x < n → RchK n B s i x → O'.getD x 0 = c
  rows : ∀ z y, z < a → z < n → y < n → RchK n B s i z → B z y = true → O'.getD y 0 = c
  row : ∀ y, y < b → y < n → RchK n B s i a → B a y = true → O'.getD y 0 = c
theorem SpI.start {n : Nat} {B : Nat → Nat → Bool} {c : Int} {i : Nat} {O : List Int} (hl : O.length = n) (hi : i < n) : SpI n B c i O 0 0 0 (O.set i c) where
  len := by simpa using hl
  all x hx := by
    rw [getD_set (by omega)]
    by_cases e : x = i
    · subst e; rw [if_pos rfl]; exact .inr ⟨rfl, .refl⟩
    · rw [if_neg e]; exact .inl rfl
  rk x hx hr := by
    rw [RchK] at hr; subst hr
    rw [getD_set (by omega), if_pos rfl]
  rows z y h := by omega
  row y h := by omega
theorem SpI.skip {n : Nat} {B : Nat → Nat → Bool} {c : Int} {i s a b : Nat} {O O' : List Int} (h : SpI n B c i O s a b O') (ha : a < n) (hn : ¬ (O'.getD a 0 = c ∧ B a b = true)) : SpI n B c i O s a (b + 1) O' := by
  refine ⟨h.len, h.all, h.rk, h.rows, fun y hy hyn hr hb => ?_⟩
  rcases Nat.lt_succ_iff_lt_or_eq.1 hy with g | rfl
  · exact h.row y g hyn hr hb
  · exact absurd ⟨h.rk a ha hr, hb⟩ hn
theorem SpI.put {n : Nat} {B : Nat → Nat → Bool} {c : Int} {i s a b : Nat} {O O' : List Int} (hr : ∀ x, x < n → O.getD x 0 < c) (h : SpI n B c i O s a b O') (ha : a < n) (hb : b < n) (h1 : O'.getD a 0 = c) (h2 : B a b = true) : SpI n B c i O s a (b + 1) (O'.set b c) := by
  have hl := h.len
  have g : ∀ x, (O'.set b c).getD x 0 = if x = b then c else O'.getD x 0 := fun x => getD_set (by omega)
  have ra : Rch n B i a := by
    rcases h.all a ha with e | e
    · have := hr a ha; omega
    · exact e.2
  have hk : ∀ x, O'.getD x 0 = c → (O'.set b c).getD x 0 = c := fun x e => by
    rw [g]; split
    · rfl
    · exact e
  refine ⟨by simpa using hl, fun x hx => ?_, fun x hx hr => hk x (h.rk x hx hr), fun z y h3 h4 h5 h6 h7 => hk y (h.rows z y h3 h4 h5 h6 h7), fun y hy hyn h3 h4 => ?_⟩
  · rw [g]
    by_cases e : x = b
    · subst e; rw [if_pos rfl]; exact .inr ⟨rfl, .tail ra ha hb h2⟩
    · rw [if_neg e]; exact h.all x hx
  · rcases Nat.lt_succ_iff_lt_or_eq.1 hy with k | rfl
    · exact hk y (h.row y k hyn h3 h4)
    · rw [g, if_pos rfl]
theorem SpI.next {n : Nat} {B : Nat → Nat → Bool} {c : Int} {i s a b : Nat} {O O' : List Int} (h : SpI n B c i O s a b O') (hb : n ≤ b) : SpI n B c i O s (a + 1) 0 O' := by
  refine ⟨h.len, h.all, h.rk, fun z y h1 h2 h3 h4 h5 => ?_, fun y hy => by omega⟩
  rcases Nat.lt_succ_iff_lt_or_eq.1 h1 with g | rfl
  · exact h.rows z y g h2 h3 h4 h5
  · exact h.row y (by omega) h3 h4 h5
theorem SpI.round {n : Nat} {B : Nat → Nat → Bool} {c : Int} {i s a b : Nat} {O O' : List Int} (h : SpI n B c i O s a b O') (ha : n ≤ a) : SpI n B c i O (s + 1) 0 0 O' := by
  refine ⟨h.len, h.all, fun x hx hr => ?_, fun z y h1 => by omega, fun y h1 => by omega⟩
  rcases hr with hr | ⟨y, h1, h2, h3, h4⟩
  · exact h.rk x hx hr
  · exact h.rows y x (by omega) h1 h2 h3 h4
theorem SpI.newL {n : Nat} {B : Nat → Nat → Bool} {c : Int} {i a b : Nat} {O O' : List Int} (hi : i < n) (h : SpI n B c i O n a b O') : NewL n B c i O O' where
  len := h.len
  new x hx hr := h.rk x hx (rch_bound hi hr)
  old x hx hr _ := by
    rcases h.all x hx with e | e
    · exact e
    · exact absurd e.2 hr
  neg x hx hr h0 := by
    rcases h.all x hx with e | e
    · omega
    · exact absurd e.2 hr
open Classical in
theorem PartL.ex {n : Nat} {B : Nat → Nat → Bool} (hs : ∀ x y, x < n → y < n → B x y = true → B y x = true) : ∀ i, i ≤ n → ∃ c O, PartL n B i c O
  | 0, _ => ⟨0, _, .zero n B⟩
  | i + 1, hi => by
    obtain ⟨c, O, h⟩ := PartL.ex hs i (by omega)
    by_cases h0 : 0 ≤ O.getD i 0
    · exact ⟨c, O, h.skip h0⟩
    · have e : ∀ x, x < n → ((List.range n).map fun x => if Rch n B i x then c else O.getD x 0).getD x 0 = if Rch n B i x then c else O.getD x 0 := by
        intro x hx
        simp [hx]
      refine ⟨c + 1, _, h.step hs (by omega) (by omega) (O' := (List.range n).map fun x => if Rch n B i x then c else O.getD x 0) ⟨by simp, fun x hx hr => ?_, fun x hx hr _ => ?_, fun x hx hr h1 => ?_⟩⟩
      · rw [e x hx, if_pos hr]
      · rw [e x hx, if_neg hr]
      · rw [e x hx, if_neg hr]; exact h1
theorem comp_ok {n : Nat} {B : Nat → Nat → Bool} (hs : ∀ x y, x < n → y < n → B x y = true → B y x = true) : CompL n B (comp n B) := by
  obtain ⟨c, O, h⟩ := PartL.ex hs n (Nat.le_refl _)
  exact (h.final (Nat.le_refl _)).comp
theorem comp_congr {n : Nat} {B B' : Nat → Nat → Bool} {L L' : List Int} (h : CompL n B L) (h' : CompL n B' L') (h1 : ∀ x y, x < n → y < n → B x y = true → Rch n B' x y) (h2 : ∀ x y, x < n → y < n → B' x y = true → Rch n B x y) : comp n B = comp n B' := by
  rw [← h.eq, ← h'.eq]
  exact h.uniq h' (fun x y _ _ => ⟨fun r => r.mono h1, fun r => r.mono h2⟩)
end Go.Sh

/-
  Contracts: a square of zeros; the components of a graph of positive weights. Of the program.
-/
namespace Go.Sh
set_option linter.unusedSimpArgs false
set_option linter.unusedVariables false
open Go Go.Proofs

def zs (n : Nat) : List (List Int) := List.replicate n (List.replicate n 0)
theorem zs_length (n : Nat) : (zs n).length = n := by simp [zs]
theorem zs_row {n i : Nat} (h : i < n) : mrow (zs n) i = List.replicate n 0 := by simp [zs, mrow, h]
theorem zs_at {n i k : Nat} : mat (zs n) i k = 0 := by
  simp only [zs, mat, mrow, List.getD_eq_getElem?_getD, List.getElem?_replicate]
  by_cases h : i < n
  · by_cases h2 : k < n <;> simp [h, h2]
  · simp [h]
def outerQ (n k : Nat) : List SV := (List.range n).map fun i => if i < k then .own (i + 1) 0 n n 1 true else .val (.slice none 0 0)
theorem outerQ_length (n k : Nat) : (outerQ n k).length = n := by simp [outerQ]
theorem outerQ_zero (n : Nat) : outerQ n 0 = List.replicate n (.val (.slice none 0 0)) := by
  apply List.ext_getElem <;> simp [outerQ]
theorem outerQ_get {n k i : Nat} (h : i < n) : (outerQ n k)[i]? = some (if i < k then .own (i + 1) 0 n n 1 true else .val (.slice none 0 0)) := by
  simp only [outerQ, List.getElem?_map]
  rw [List.getElem?_range h]; rfl
theorem outerQ_set {n k : Nat} (h : k < n) : (outerQ n k).set k (.own (k + 1) 0 n n 1 true) = outerQ n (k + 1) := by
  apply List.ext_getElem?
  intro i
  by_cases hi : i < n
  · rw [outerQ_get hi, List.getElem?_set, outerQ_length, outerQ_get hi]
    by_cases hk : k = i
    · subst hk; simp [h]
    · by_cases h1 : i < k
      · simp [hk, h1, show i < k + 1 by omega]
      · simp [hk, h1, show ¬ i < k + 1 by omega]
  · rw [List.getElem?_eq_none (by rw [List.length_set, outerQ_length]; omega), List.getElem?_eq_none (by rw [outerQ_length]; omega)]
def HQ (n k : Nat) : Heap := ⟨fun x => if x = 0 then some ⟨outerQ n k, true⟩ else if x ≤ k then some ⟨ints (List.replicate n 0), true⟩ else none, k + 1⟩
def HQp (n k : Nat) : Heap := (HQ n k).push ⟨ints (List.replicate n 0), true⟩
theorem HQ_nb (n k : Nat) : (HQ n k).nb = k + 1 := rfl
theorem HQ_map (n k : Nat) : (HQ n k).map 0 = some ⟨outerQ n k, true⟩ := rfl
theorem HQp_map (n k : Nat) : (HQp n k).map 0 = some ⟨outerQ n k, true⟩ := by
  simp only [HQp, Heap.push, HQ]
  rw [if_neg (by omega)]
  rfl
theorem HQp_set {n k : Nat} : (HQp n k).set 0 (some ⟨outerQ n (k + 1), true⟩) = HQ n (k + 1) := by
  refine Heap.ext' (fun x => ?_) rfl
  simp only [HQp, HQ, Heap.push, Heap.set]
  by_cases h0 : x = 0
  · simp [h0]
  · by_cases h1 : x = k + 1
    · simp [h1]
    · by_cases h2 : x ≤ k
      · simp [h0, h1, h2, show x ≤ k + 1 by omega]
      · simp [h0, h1, h2, show ¬ x ≤ k + 1 by omega]
theorem HQ_zero (n : Nat) : HQ n 0 = hp [(0, ⟨List.replicate n (.val (.slice none 0 0)), true⟩)] 1 := by
  refine Heap.ext' (fun x => ?_) rfl
  simp only [HQ, hp, hmap, outerQ_zero]
  by_cases h0 : x = 0
  · simp [h0]
  · simp [h0]
theorem outerQ_nr (n k : Nat) : noRowL (outerQ n k) = true := by
  unfold outerQ
  generalize List.range n = l
  induction l with
  | nil => rfl
  | cons a l ih =>
    simp only [List.map_cons, noRowL, ih, Bool.and_true]
    split <;> rfl
theorem HQ_nr (n k : Nat) : nrHeap (HQ n k) := by
  intro b blk hb
  simp only [HQ] at hb
  split at hb
  · simp at hb; subst hb; exact outerQ_nr n k
  · split at hb
    · simp at hb; subst hb; exact noRowL_ints _
    · simp at hb
theorem HQ_res (n : Nat) : MatRes (mi (zs n)) (.own 0 0 n n 1 true) (HQ n n) := by
  have hl : (mi (zs n)).length = n := by rw [mi_length, zs_length]
  refine ⟨0, 0, n, true, _, by rw [hl], HQ_map n n, by rw [hl, outerQ_length]; omega, mi_vals _, fun i => i + 1, fun _ => 0, fun i i' _ _ h => by simpa using h, fun i _ => by simp, fun i hi => ?_⟩
  rw [hl] at hi
  have hr : rowAt (mi (zs n)) i = ints (List.replicate n 0) := by rw [mi_row (by rwa [zs_length]), zs_row hi]
  refine ⟨n, true, ⟨ints (List.replicate n 0), true⟩, ?_, ?_, ?_, ?_⟩
  · rw [hr, Nat.zero_add, outerQ_get hi, if_pos hi, ints_length, List.length_replicate]
  · simp only [HQ]
    rw [if_neg (by omega), if_pos (by omega)]
  · rw [hr]; simp
  · rw [hr]; simp

set_option maxHeartbeats 1000000 in
theorem Try.square_f (n : Nat) (hn : n ≤ 1048576) : FCall Try.prog 120 [.val (.int .i64 n)] (MatRes (mi (zs n))) := by
  refine FCall.of_body Try.func120 rfl (by kernel_rfl) (by simp [Try.ntmps120]) ?_
  refine SW_of_vc Try.mixed _ _ _ (by kernel_rfl) ?_
  simp (disch := omega) only [Try.ntmps120, Try.results120, go_sem, Nat.reduceLT, Nat.reduceLeDiff, Nat.reduceEqDiff, Nat.reduceAdd, Nat.reduceSub, Nat.reduceMul, reduceIte, ↓reduceIte, reduceCtorEq, Int.reduceToNat, Int.reduceLE, Int.reduceLT, Int.reduceNeg, Int.reduceSub, Int.reduceAdd, Int.reduceMul]
  refine LoopW.loop (fun k : Nat => ⟨ofL [(0, .val (.int .i64 n)), (3, .own 0 0 n n 1 true), (8, .val (.int .i64 n)), (9, .val (.int .i64 k))], HQ n k⟩) (fun k => k ≤ n) (fun k => n - k) 0 (by omega)
    (Wk.of (by simp only [go_sem, ↓List.forall_mem_cons, List.not_mem_nil, false_implies, implies_true, and_true, true_and, and_self, Nat.reduceEqDiff, reduceIte, ↓reduceIte, ri_eq, Int.natCast_add, Int.cast_ofNat_Int]; try simp) (by rw [HQ_zero])) ?_
  intro k hk
  have ho := outerQ_length n k
  refine SW_of_vc Try.mixed _ _ _ (by kernel_rfl) ?_
  by_cases hlt : k < n
  · have hos := outerQ_set hlt
    have e : (HQ n k).push ⟨ints (List.replicate n 0), true⟩ = HQp n k := rfl
    simp (disch := omega) only [Try.ntmps120, Try.results120, go_sem, Nat.reduceLT, Nat.reduceLeDiff, Nat.reduceEqDiff, Nat.reduceAdd, Nat.reduceSub, Nat.reduceMul, reduceIte, ↓reduceIte, reduceCtorEq, Int.reduceToNat, Int.reduceLE, Int.reduceLT, Int.reduceNeg, Int.reduceSub, Int.reduceAdd, Int.reduceMul, HQ_nb, e, HQp_map, ho, hos, HQp_set]
    exact ⟨k + 1, by omega, by omega, Wk.of (by simp only [go_sem, ↓List.forall_mem_cons, List.not_mem_nil, false_implies, implies_true, and_true, true_and, and_self, Nat.reduceEqDiff, reduceIte, ↓reduceIte, ri_eq, Int.natCast_add, Int.cast_ofNat_Int]; try simp) rfl⟩
  · obtain rfl : k = n := by omega
    simp (disch := omega) only [Try.ntmps120, Try.results120, go_sem, Nat.reduceLT, Nat.reduceLeDiff, Nat.reduceEqDiff, Nat.reduceAdd, Nat.reduceSub, Nat.reduceMul, reduceIte, ↓reduceIte, reduceCtorEq, Int.reduceToNat, Int.reduceLE, Int.reduceLT, Int.reduceNeg, Int.reduceSub, Int.reduceAdd, Int.reduceMul]
    exact ⟨HQ k k, ⟨rfl, fun _ => .inr rfl⟩, rfl, HQ_nr k _, HQ_res k⟩
theorem Try.square_one (n : Nat) (hn : n ≤ 1048576) : FCall Try.prog 120 [.val (.int .i64 n)] (MatOne (mi (zs n))) := (Try.square_f n hn).mat

/-! ### The search -/
def pB (M : List (List Int)) (x y : Nat) : Bool := decide (0 < mat M x y)
theorem WM.sym {M : List (List Int)} (h : WM M) : ∀ x y, x < M.length → y < M.length → pB M x y = true → pB M y x = true := by
  intro x y hx hy hb
  have := (h.2.2.1 x y hx hy).2
  rw [pB] at hb ⊢
  rw [← this]; exact hb
def vClos : SV := .clos (.func 177) [] [.optr 3 0, .optr 2 0, .optr 0 0, .optr 4 0]
def vHeap (M : List (List Int)) (O : List Int) (c : Int) : List (Nat × Blk) := [(4, ⟨[vClos], true⟩), (3, ⟨[.val (.int .i64 c)], true⟩), (2, ⟨[.own 1 0 M.length M.length 1 true], true⟩), (1, ⟨ints O, true⟩), (0, ⟨[rr M], true⟩)]

set_option maxHeartbeats 4000000 in
theorem Try.visit_ok {M : List (List Int)} (hw : WM M) {c : Int} (hc : 0 ≤ c) : ∀ (fu : Nat) (O : List Int) (i : Nat), O.length = M.length → i < M.length → O.getD i 0 < 0 → negs M.length O ≤ fu →
    CallS Try.prog 177 [.val (.int .i64 i), .optr 3 0, .optr 2 0, .optr 0 0, .optr 4 0] (hp (vHeap M O c) 5) (fun r H' => ∃ O', r = .tup [] ∧ H' = hp (vHeap M O' c) 5 ∧ DfsL M.length (pB M) c i O O')
  | 0, O, i, hl, hi, h0, hf => by have := negs_pos hi h0; omega
  | fu + 1, O, i, hl, hi, h0, hf => by
    have hln := hw.1
    have hri := hw.2.1 i hi
    refine CallS.of_body Try.func177 rfl (by kernel_rfl) (by simp [Try.ntmps177]) ?_
    refine SW_of_vc Try.mixed _ _ _ (by kernel_rfl) ?_
    rw [vHeap]
    simp (disch := omega) only [Try.ntmps177, Try.results177, go_sem, Nat.reduceLT, Nat.reduceLeDiff, Nat.reduceEqDiff, Nat.reduceAdd, Nat.reduceSub, Nat.reduceMul, reduceIte, ↓reduceIte, reduceCtorEq, Int.reduceToNat, Int.reduceLE, Int.reduceLT, Int.reduceNeg, Int.reduceSub, Int.reduceAdd, Int.reduceMul, rr_eq, hl, rows_get, hri]
    refine LoopW.loop (fun p : Nat × List Int => ⟨ofL [(1, .optr 3 0), (2, .optr 2 0), (3, .optr 0 0), (4, .optr 4 0), (15, .row M.length false (ints (mrow M i))), (16, .val (.int .i64 M.length)), (17, .val (.int .i64 p.1))], hp (vHeap M p.2 c) 5⟩)
      (fun p => p.1 ≤ M.length ∧ DfsK M.length (pB M) c i O p.1 p.2) (fun p => M.length - p.1) (0, O.set i c) ⟨by simp, .start hl hi h0⟩ (Wk.of (by simp only [go_sem, ↓List.forall_mem_cons, List.not_mem_nil, false_implies, implies_true, and_true, true_and, and_self, Nat.reduceEqDiff, reduceIte, ↓reduceIte, ri_eq, Int.natCast_add, Int.cast_ofNat_Int, rr_eq, hri]; try simp) rfl) ?_
    rintro ⟨k, O1⟩ ⟨hk, hd⟩
    simp only at hk hd
    have hl1 := hd.len
    refine SW_of_vc Try.mixed _ _ _ (by kernel_rfl) ?_
    rw [vHeap]
    by_cases hlt : k < M.length
    · have g1 : (ints (mrow M i))[k]? = some (.val (.int .i64 (mat M i k))) := ints_get' hri hlt
      have g2 : (ints O1)[k]? = some (.val (.int .i64 (O1.getD k 0))) := ints_get' hl1 hlt
      obtain ⟨a, ha⟩ : ∃ a, mat M i k = a := ⟨_, rfl⟩
      obtain ⟨b, hb⟩ : ∃ b, O1.getD k 0 = b := ⟨_, rfl⟩
      have hpb : pB M i k = decide (0 < a) := by rw [pB, ha]
      rw [ha] at g1
      rw [hb] at g2
      by_cases h1 : 0 < a
      · by_cases h2 : b < 0
        · have w := Try.visit_ok hw hc fu O1 k hl1 hlt (by omega) (by have := hd.negs hc hi h0; omega)
          rw [vHeap, vClos] at w
          simp (disch := omega) only [Try.ntmps177, Try.results177, go_sem, Nat.reduceLT, Nat.reduceLeDiff, Nat.reduceEqDiff, Nat.reduceAdd, Nat.reduceSub, Nat.reduceMul, reduceIte, ↓reduceIte, reduceCtorEq, Int.reduceToNat, Int.reduceLE, Int.reduceLT, Int.reduceNeg, Int.reduceSub, Int.reduceAdd, Int.reduceMul, vClos, g1, g2, hl1, ints_length]
          refine w.callX ?_
          rintro r H' ⟨O2, rfl, rfl, hd2⟩
          simp (disch := omega) only [Try.ntmps177, Try.results177, go_sem, Nat.reduceLT, Nat.reduceLeDiff, Nat.reduceEqDiff, Nat.reduceAdd, Nat.reduceSub, Nat.reduceMul, reduceIte, ↓reduceIte, reduceCtorEq, Int.reduceToNat, Int.reduceLE, Int.reduceLT, Int.reduceNeg, Int.reduceSub, Int.reduceAdd, Int.reduceMul]
          exact ⟨(k + 1, O2), ⟨hlt, hd.step hc hi hlt (by rw [hpb]; exact decide_eq_true h1) (by omega) hd2⟩, by show M.length - (k + 1) < M.length - k; omega, Wk.of (by simp only [go_sem, ↓List.forall_mem_cons, List.not_mem_nil, false_implies, implies_true, and_true, true_and, and_self, Nat.reduceEqDiff, reduceIte, ↓reduceIte, ri_eq, Int.natCast_add, Int.cast_ofNat_Int]; try simp) rfl⟩
        · simp (disch := omega) only [Try.ntmps177, Try.results177, go_sem, Nat.reduceLT, Nat.reduceLeDiff, Nat.reduceEqDiff, Nat.reduceAdd, Nat.reduceSub, Nat.reduceMul, reduceIte, ↓reduceIte, reduceCtorEq, Int.reduceToNat, Int.reduceLE, Int.reduceLT, Int.reduceNeg, Int.reduceSub, Int.reduceAdd, Int.reduceMul, vClos, g1, g2, hl1, ints_length]
          exact ⟨(k + 1, O1), ⟨hlt, hd.skip (fun _ => by omega)⟩, by show M.length - (k + 1) < M.length - k; omega, Wk.of (by simp only [go_sem, ↓List.forall_mem_cons, List.not_mem_nil, false_implies, implies_true, and_true, true_and, and_self, Nat.reduceEqDiff, reduceIte, ↓reduceIte, ri_eq, Int.natCast_add, Int.cast_ofNat_Int]; try simp) rfl⟩
      · simp (disch := omega) only [Try.ntmps177, Try.results177, go_sem, Nat.reduceLT, Nat.reduceLeDiff, Nat.reduceEqDiff, Nat.reduceAdd, Nat.reduceSub, Nat.reduceMul, reduceIte, ↓reduceIte, reduceCtorEq, Int.reduceToNat, Int.reduceLE, Int.reduceLT, Int.reduceNeg, Int.reduceSub, Int.reduceAdd, Int.reduceMul, vClos, g1, g2, hl1, ints_length]
        exact ⟨(k + 1, O1), ⟨hlt, hd.skip (fun h => by rw [hpb] at h; exact absurd (of_decide_eq_true h) h1)⟩, by show M.length - (k + 1) < M.length - k; omega, Wk.of (by simp only [go_sem, ↓List.forall_mem_cons, List.not_mem_nil, false_implies, implies_true, and_true, true_and, and_self, Nat.reduceEqDiff, reduceIte, ↓reduceIte, ri_eq, Int.natCast_add, Int.cast_ofNat_Int]; try simp) rfl⟩
    · simp (disch := omega) only [Try.ntmps177, Try.results177, go_sem, Nat.reduceLT, Nat.reduceLeDiff, Nat.reduceEqDiff, Nat.reduceAdd, Nat.reduceSub, Nat.reduceMul, reduceIte, ↓reduceIte, reduceCtorEq, Int.reduceToNat, Int.reduceLE, Int.reduceLT, Int.reduceNeg, Int.reduceSub, Int.reduceAdd, Int.reduceMul]
      exact ⟨O1, rfl, hd.final (by omega)⟩

def fillN (n k : Nat) : List Int := List.replicate k (-1) ++ List.replicate (n - k) 0
theorem fillN_zero (n : Nat) : fillN n 0 = List.replicate n 0 := by simp [fillN]
theorem fillN_length {n k : Nat} (h : k ≤ n) : (fillN n k).length = n := by simp [fillN]; omega
theorem fillN_set {n k : Nat} (h : k < n) : (fillN n k).set k (-1) = fillN n (k + 1) := by
  apply List.ext_getElem?
  intro i
  simp [fillN, List.getElem?_set, List.getElem?_append, List.getElem?_replicate]
  grind
theorem fillN_all (n : Nat) : fillN n n = List.replicate n (-1) := by simp [fillN]

theorem Fin.imp {R R' : SV → Heap → Prop} {r : SV} {H : Heap} (h : ∀ r H, R r H → R' r H) (f : Fin R r H) : Fin R' r H := by
  obtain ⟨H2, a, b, c, d⟩ := f
  exact ⟨H2, a, b, c, h _ _ d⟩
set_option maxHeartbeats 4000000 in
theorem Try.implPC_f (M : List (List Int)) (hM : M.length ≤ 1048576) (hR : ∀ i, i < M.length → (mrow M i).length ≤ 1048576) (hw : WM M) : FCall Try.prog 141 [rr M] (fun r H => CompL M.length (pB M) (comp M.length (pB M)) ∧ FlatRes M.length 1 (ints (comp M.length (pB M))) r H) := by
  have hln := hw.1
  have w1 := Try.implIsWM_ok M hM hR
  rw [isWM_t hw] at w1
  refine FCall.of_body Try.func141 rfl (by kernel_rfl) (by simp [Try.ntmps141]) ?_
  refine SW_of_vc Try.mixed _ _ _ (by kernel_rfl) ?_
  simp (disch := omega) only [Try.ntmps141, Try.results141, go_sem, Nat.reduceLT, Nat.reduceLeDiff, Nat.reduceEqDiff, Nat.reduceAdd, Nat.reduceSub, Nat.reduceMul, reduceIte, ↓reduceIte, reduceCtorEq, Int.reduceToNat, Int.reduceLE, Int.reduceLT, Int.reduceNeg, Int.reduceSub, Int.reduceAdd, Int.reduceMul, rr_eq]
  refine w1.callV 0 (viewL_cons_of (view_row) viewL_nil_of) ?_
  simp (disch := omega) only [Try.ntmps141, Try.results141, go_sem, Nat.reduceLT, Nat.reduceLeDiff, Nat.reduceEqDiff, Nat.reduceAdd, Nat.reduceSub, Nat.reduceMul, reduceIte, ↓reduceIte, reduceCtorEq, Int.reduceToNat, Int.reduceLE, Int.reduceLT, Int.reduceNeg, Int.reduceSub, Int.reduceAdd, Int.reduceMul, rr_eq]
  refine LoopW.loop (fun k : Nat => ⟨ofL [(1, .optr 0 0), (3, .optr 2 0), (15, .val (.int .i64 M.length)), (16, .val (.int .i64 k))], hp [(2, ⟨[.own 1 0 M.length M.length 1 true], true⟩), (1, ⟨ints (fillN M.length k), true⟩), (0, ⟨[rr M], true⟩)] 3⟩) (fun k => k ≤ M.length) (fun k => M.length - k) 0 (by omega)
    (Wk.of (by simp only [go_sem, ↓List.forall_mem_cons, List.not_mem_nil, false_implies, implies_true, and_true, true_and, and_self, Nat.reduceEqDiff, reduceIte, ↓reduceIte, ri_eq, Int.natCast_add, Int.cast_ofNat_Int]; try simp) (by rw [fillN_zero]; rfl)) ?_
  intro k hk
  have hfl := fillN_length hk
  refine SW_of_vc Try.mixed _ _ _ (by kernel_rfl) ?_
  by_cases hlt : k < M.length
  · have hfs := fillN_set hlt
    simp (disch := omega) only [Try.ntmps141, Try.results141, go_sem, Nat.reduceLT, Nat.reduceLeDiff, Nat.reduceEqDiff, Nat.reduceAdd, Nat.reduceSub, Nat.reduceMul, reduceIte, ↓reduceIte, reduceCtorEq, Int.reduceToNat, Int.reduceLE, Int.reduceLT, Int.reduceNeg, Int.reduceSub, Int.reduceAdd, Int.reduceMul, rr_eq, hfl, hfs]
    exact ⟨k + 1, by omega, by omega, Wk.of (by simp only [go_sem, ↓List.forall_mem_cons, List.not_mem_nil, false_implies, implies_true, and_true, true_and, and_self, Nat.reduceEqDiff, reduceIte, ↓reduceIte, ri_eq, Int.natCast_add, Int.cast_ofNat_Int]; try simp) rfl⟩
  · obtain rfl : k = M.length := by omega
    simp (disch := omega) only [Try.ntmps141, Try.results141, go_sem, Nat.reduceLT, Nat.reduceLeDiff, Nat.reduceEqDiff, Nat.reduceAdd, Nat.reduceSub, Nat.reduceMul, reduceIte, ↓reduceIte, reduceCtorEq, Int.reduceToNat, Int.reduceLE, Int.reduceLT, Int.reduceNeg, Int.reduceSub, Int.reduceAdd, Int.reduceMul, rr_eq, fillN_all]
    refine LoopW.loop (fun p : Nat × List Int × Int => ⟨ofL [(3, .optr 2 0), (5, .optr 3 0), (6, .optr 4 0), (25, .val (.int .i64 M.length)), (26, .val (.int .i64 p.1))], hp (vHeap M p.2.1 p.2.2) 5⟩)
      (fun p => p.1 ≤ M.length ∧ PartL M.length (pB M) p.1 p.2.2 p.2.1) (fun p => M.length - p.1) (0, List.replicate M.length (-1), 0) ⟨by simp, .zero _ _⟩ (Wk.of (by simp only [go_sem, ↓List.forall_mem_cons, List.not_mem_nil, false_implies, implies_true, and_true, true_and, and_self, Nat.reduceEqDiff, reduceIte, ↓reduceIte, ri_eq, Int.natCast_add, Int.cast_ofNat_Int]; try simp) rfl) ?_
    rintro ⟨i, O, c⟩ ⟨hi, hpl⟩
    simp only at hi hpl
    have hl := hpl.len
    have hc0 := hpl.c0
    have hci := hpl.ci
    refine SW_of_vc Try.mixed _ _ _ (by kernel_rfl) ?_
    rw [vHeap]
    by_cases hlt : i < M.length
    · have g2 : (ints O)[i]? = some (.val (.int .i64 (O.getD i 0))) := ints_get' hl hlt
      obtain ⟨b, hb⟩ : ∃ b, O.getD i 0 = b := ⟨_, rfl⟩
      rw [hb] at g2
      by_cases h2 : b < 0
      · have w := Try.visit_ok hw hc0 (negs M.length O) O i hl hlt (by omega) (Nat.le_refl _)
        rw [vHeap, vClos] at w
        simp (disch := omega) only [Try.ntmps141, Try.results141, go_sem, Nat.reduceLT, Nat.reduceLeDiff, Nat.reduceEqDiff, Nat.reduceAdd, Nat.reduceSub, Nat.reduceMul, reduceIte, ↓reduceIte, reduceCtorEq, Int.reduceToNat, Int.reduceLE, Int.reduceLT, Int.reduceNeg, Int.reduceSub, Int.reduceAdd, Int.reduceMul, vClos, g2, hl]
        refine w.callX ?_
        rintro r H' ⟨O2, rfl, rfl, hd⟩
        rw [vHeap]
        simp (disch := omega) only [Try.ntmps141, Try.results141, go_sem, Nat.reduceLT, Nat.reduceLeDiff, Nat.reduceEqDiff, Nat.reduceAdd, Nat.reduceSub, Nat.reduceMul, reduceIte, ↓reduceIte, reduceCtorEq, Int.reduceToNat, Int.reduceLE, Int.reduceLT, Int.reduceNeg, Int.reduceSub, Int.reduceAdd, Int.reduceMul, vClos]
        exact ⟨(i + 1, O2, c + 1), ⟨hlt, hpl.step hw.sym hlt (by omega) (hd.newL hw.sym hpl hlt (by omega))⟩, by show M.length - (i + 1) < M.length - i; omega, Wk.of (by simp only [go_sem, ↓List.forall_mem_cons, List.not_mem_nil, false_implies, implies_true, and_true, true_and, and_self, Nat.reduceEqDiff, reduceIte, ↓reduceIte, ri_eq, Int.natCast_add, Int.cast_ofNat_Int]; try simp) rfl⟩
      · simp (disch := omega) only [Try.ntmps141, Try.results141, go_sem, Nat.reduceLT, Nat.reduceLeDiff, Nat.reduceEqDiff, Nat.reduceAdd, Nat.reduceSub, Nat.reduceMul, reduceIte, ↓reduceIte, reduceCtorEq, Int.reduceToNat, Int.reduceLE, Int.reduceLT, Int.reduceNeg, Int.reduceSub, Int.reduceAdd, Int.reduceMul, vClos, g2, hl]
        exact ⟨(i + 1, O, c), ⟨hlt, hpl.skip (by omega)⟩, by show M.length - (i + 1) < M.length - i; omega, Wk.of (by simp only [go_sem, ↓List.forall_mem_cons, List.not_mem_nil, false_implies, implies_true, and_true, true_and, and_self, Nat.reduceEqDiff, reduceIte, ↓reduceIte, ri_eq, Int.natCast_add, Int.cast_ofNat_Int]; try simp) rfl⟩
    · have hC := hpl.final (by omega)
      have hc2 := hC.comp
      rw [← hC.eq] at hc2 ⊢
      simp (disch := omega) only [Try.ntmps141, Try.results141, go_sem, Nat.reduceLT, Nat.reduceLeDiff, Nat.reduceEqDiff, Nat.reduceAdd, Nat.reduceSub, Nat.reduceMul, reduceIte, ↓reduceIte, reduceCtorEq, Int.reduceToNat, Int.reduceLE, Int.reduceLT, Int.reduceNeg, Int.reduceSub, Int.reduceAdd, Int.reduceMul, vClos]
      exact Fin.imp (fun _ _ h => ⟨hc2, h⟩) (fin_ints hl.symm (by rw [hp_map]; simp only [hmap_cons]; rfl))
theorem Try.implPC_nil (M : List (List Int)) (hM : M.length ≤ 1048576) (hR : ∀ i, i < M.length → (mrow M i).length ≤ 1048576) (hw : ¬ WM M) : FCall Try.prog 141 [rr M] (fun r _ => r = .val (.slice none 0 0)) := by
  have w1 := Try.implIsWM_ok M hM hR
  rw [isWM_f hw] at w1
  refine FCall.of_body Try.func141 rfl (by kernel_rfl) (by simp [Try.ntmps141]) ?_
  refine SW_of_vc Try.mixed _ _ _ (by kernel_rfl) ?_
  simp (disch := omega) only [Try.ntmps141, Try.results141, go_sem, Nat.reduceLT, Nat.reduceLeDiff, Nat.reduceEqDiff, Nat.reduceAdd, Nat.reduceSub, Nat.reduceMul, reduceIte, ↓reduceIte, reduceCtorEq, Int.reduceToNat, Int.reduceLE, Int.reduceLT, Int.reduceNeg, Int.reduceSub, Int.reduceAdd, Int.reduceMul, rr_eq]
  refine w1.callV 0 (viewL_cons_of (view_row) viewL_nil_of) ?_
  simp (disch := omega) only [Try.ntmps141, Try.results141, go_sem, Nat.reduceLT, Nat.reduceLeDiff, Nat.reduceEqDiff, Nat.reduceAdd, Nat.reduceSub, Nat.reduceMul, reduceIte, ↓reduceIte, reduceCtorEq, Int.reduceToNat, Int.reduceLE, Int.reduceLT, Int.reduceNeg, Int.reduceSub, Int.reduceAdd, Int.reduceMul, rr_eq]
  exact Fin.val rfl
end Go.Sh

/-
  Contracts: links, labels by rounds, the components of a graph of positive weights. Of the reference.
-/
namespace Go.Sh
set_option linter.unusedSimpArgs false
set_option linter.unusedVariables false
open Go Go.Proofs

def nrF (n : Nat) (l : List Nat) : List (Nat × List SV) := l.map fun x => (x, bools (List.replicate n false))
def bz (n : Nat) : List (List Bool) := List.replicate n (List.replicate n false)
theorem bz_length (n : Nat) : (bz n).length = n := by simp [bz]
theorem bz_row {n i : Nat} (h : i < n) : brow (bz n) i = List.replicate n false := by simp [bz, brow, h]
theorem bz_at {n i k : Nat} : bmat (bz n) i k = false := by
  simp only [bz, bmat, brow, List.getD_eq_getElem?_getD, List.getElem?_replicate]
  by_cases h : i < n
  · by_cases h2 : k < n <;> simp [h, h2]
  · simp [h]
theorem nrF_length (n : Nat) (l : List Nat) : (nrF n l).length = l.length := by simp [nrF]
theorem nrF_snd (n : Nat) : ∀ l : List Nat, (nrF n l).map (·.2) = List.replicate l.length (bools (List.replicate n false))
  | [] => rfl
  | x :: l => by
    have := nrF_snd n l
    simp only [nrF, List.map_cons, List.length_cons, List.replicate_succ] at this ⊢
    rw [this]
theorem nrF_snoc (n : Nat) (l : List Nat) (x : Nat) : nrF n (l ++ [x]) = nrF n l ++ [(x, bools (List.replicate n false))] := by simp [nrF]

set_option maxHeartbeats 1000000 in
theorem Try.l17Links_f (n : Nat) (hn : n ≤ 1048576) : FCall Try.prog 142 [.val (.int .i64 n)] (MatRes (mb (bz n))) := by
  refine FCall.of_body Try.func142 rfl (by kernel_rfl) (by simp [Try.ntmps142]) ?_
  refine SW_of_vc Try.mixed _ _ _ (by kernel_rfl) ?_
  simp (disch := omega) only [Try.ntmps142, Try.results142, go_sem, Nat.reduceLT, Nat.reduceLeDiff, Nat.reduceEqDiff, Nat.reduceAdd, Nat.reduceSub, Nat.reduceMul, reduceIte, ↓reduceIte, reduceCtorEq, Int.reduceToNat, Int.reduceLE, Int.reduceLT, Int.reduceNeg, Int.reduceSub, Int.reduceAdd, Int.reduceMul]
  refine LoopW.loop (fun p : List Nat × Nat × Nat => ⟨ofL [(0, .val (.int .i64 n)), (3, .own p.2.1 0 p.1.length p.1.length 1 false), (4, .val (.int .i64 p.1.length))], hx [.blk p.2.1 ⟨outerN true (nrF n p.1), false⟩, .rows true (nrF n p.1)] p.2.2⟩)
    (fun p => p.1.length ≤ n ∧ NrOk p.2.1 p.2.2 (nrF n p.1)) (fun p => n - p.1.length) ([], 0, 1) ⟨by simp, .nil (by simp)⟩ (Wk.ofX (by simp only [go_sem, ↓List.forall_mem_cons, List.not_mem_nil, false_implies, implies_true, and_true, true_and, and_self, Nat.reduceEqDiff, reduceIte, ↓reduceIte, ri_eq, Int.natCast_add, Int.cast_ofNat_Int]; try simp) (by simp [EntIn, nrF, outerN, hp, hmap]) (by simp [hp])) ?_
  rintro ⟨l, ob, nb⟩ ⟨hk, ho⟩
  simp only at hk ho
  have hob := ho.1
  refine SW_of_vc Try.mixed _ _ _ (by kernel_rfl) ?_
  have hl1 := outerN_length true (nrF n l)
  have hl2 := nrF_length n l
  have hl3 : (outerN true (nrF n l)).take l.length = outerN true (nrF n l) := List.take_of_length_le (by omega)
  by_cases hlt : l.length < n
  · simp (disch := omega) only [Try.ntmps142, Try.results142, go_sem, Nat.reduceLT, Nat.reduceLeDiff, Nat.reduceEqDiff, Nat.reduceAdd, Nat.reduceSub, Nat.reduceMul, reduceIte, ↓reduceIte, reduceCtorEq, Int.reduceToNat, Int.reduceLE, Int.reduceLT, Int.reduceNeg, Int.reduceSub, Int.reduceAdd, Int.reduceMul, hl1, hl2, hl3]
    have hlt' : ∀ p ∈ nrF n l, p.1 < nb := fun p hp => (ho.2.1 p hp).1
    have hne : ∀ p ∈ nrF n l, p.1 ≠ ob := fun p hp => (ho.2.1 p hp).2
    refine ⟨(l ++ [nb], nb + 1 + 1, nb + 1 + 1 + 1), ⟨by simp; omega, ?_⟩, by simp; omega, Wk.ofX (by simp only [go_sem, ↓List.forall_mem_cons, List.not_mem_nil, false_implies, implies_true, and_true, true_and, and_self, Nat.reduceEqDiff, reduceIte, ↓reduceIte, ri_eq, Int.natCast_add, Int.cast_ofNat_Int, List.length_append, List.length_singleton]; try simp) ?_ (by simp [hx])⟩
    · rw [nrF_snoc]
      exact ho.snoc (Nat.le_refl _) (by show nb ≤ nb + 1 + 1; omega) (by show nb ≠ nb + 1 + 1; omega) (by show nb < nb + 1 + 1 + 1; omega) (by show nb + 1 + 1 < nb + 1 + 1 + 1; omega)
    · simp only [List.forall_mem_cons]
      refine ⟨?_, ?_, by simp⟩
      · simp only [EntIn, hx_map, xmap_blk, if_pos, nrF_snoc, outerN_snoc, bools_length, List.length_replicate]
      · simp only [nrF_snoc]
        refine EntIn.snoc (((EntIn.skipC (EntIn.selfR ho.2.2) hne).skipR ?_).skipR ?_ |>.skipR ?_) ?_
        · intro p hp; have := hlt' p hp; omega
        · intro p hp; have := hlt' p hp; omega
        · intro p hp; have := hlt' p hp; omega
        · simp only [hx_map, xmap_blk]; rw [if_neg (by omega), if_neg (by omega), if_pos trivial, bools_replicate]
  · simp (disch := omega) only [Try.ntmps142, Try.results142, go_sem, Nat.reduceLT, Nat.reduceLeDiff, Nat.reduceEqDiff, Nat.reduceAdd, Nat.reduceSub, Nat.reduceMul, reduceIte, ↓reduceIte, reduceCtorEq, Int.reduceToNat, Int.reduceLE, Int.reduceLT, Int.reduceNeg, Int.reduceSub, Int.reduceAdd, Int.reduceMul, hl1, hl2, hl3]
    have hk : l.length = n := by omega
    have := fin_rows (H := hx [Ent.blk ob { cells := outerN true (nrF n l), ex := false }, Ent.rows true (nrF n l)] nb) (R := mb (bz n)) ho
      (fun p hp => by obtain ⟨x, _, rfl⟩ := List.mem_map.1 hp; exact bools_vals _) (by simp [hx, xmap])
      (EntIn.skipR (EntIn.selfR ho.2.2) (fun p hp => (ho.2.1 p hp).2)) (by rw [nrF_snd, hk]; simp [mb, bz])
    rw [nrF_length] at this
    exact this
theorem Try.l17Links_one (n : Nat) (hn : n ≤ 1048576) : FCall Try.prog 142 [.val (.int .i64 n)] (MatOne (mb (bz n))) := (Try.l17Links_f n hn).mat

theorem rep_snoc (k : Nat) (a : Int) : List.replicate k a ++ [a] = List.replicate (k + 1) a := by
  rw [List.replicate_succ']
set_option maxHeartbeats 4000000 in
theorem Try.l17Labels_f (n : Nat) (X : List (List Bool)) (hn : n ≤ 1048576) (hX : X.length = n) (hR : ∀ i, i < n → (brow X i).length = n) (hs : ∀ x y, x < n → y < n → bmat X x y = true → bmat X y x = true) :
    FCall Try.prog 143 [.val (.int .i64 n), rb X] (fun r H => CompL n (bmat X) (comp n (bmat X)) ∧ FlatRes n 1 (ints (comp n (bmat X))) r H) := by
  refine FCall.of_body Try.func143 rfl (by kernel_rfl) (by simp [Try.ntmps143]) ?_
  refine SW_of_vc Try.mixed _ _ _ (by kernel_rfl) ?_
  simp (disch := omega) only [Try.ntmps143, Try.results143, go_sem, Nat.reduceLT, Nat.reduceLeDiff, Nat.reduceEqDiff, Nat.reduceAdd, Nat.reduceSub, Nat.reduceMul, reduceIte, ↓reduceIte, reduceCtorEq, Int.reduceToNat, Int.reduceLE, Int.reduceLT, Int.reduceNeg, Int.reduceSub, Int.reduceAdd, Int.reduceMul, rb_eq]
  refine LoopW.loop (fun p : Nat × Nat × Nat => ⟨ofL [(0, .val (.int .i64 n)), (1, rb X), (5, .own p.2.1 0 p.1 p.1 1 false), (6, .val (.int .i64 p.1))], hp [(p.2.1, ⟨ints (List.replicate p.1 (-1)), false⟩)] p.2.2⟩) (fun p => p.1 ≤ n ∧ p.2.1 < p.2.2) (fun p => n - p.1) (0, 0, 1) ⟨by simp, by simp⟩
    (Wk.ofH (by simp only [go_sem, ↓List.forall_mem_cons, List.not_mem_nil, false_implies, implies_true, and_true, true_and, and_self, Nat.reduceEqDiff, reduceIte, ↓reduceIte, ri_eq, Int.natCast_add, Int.cast_ofNat_Int, rb_eq]; try simp) (by simp (disch := omega) only [go_sem, ↓List.forall_mem_cons, List.not_mem_nil, false_implies, implies_true, and_true, true_and, and_self, Nat.reduceEqDiff, reduceIte, ↓reduceIte, ri_eq, Int.natCast_add, Int.cast_ofNat_Int, if_pos, if_neg, Nat.reduceAdd, List.nil_append, List.replicate_zero, ints_nil]; try simp) (by simp [hp])) ?_
  rintro ⟨k, b, nb⟩ ⟨hk, hb⟩
  simp only at hk hb
  refine SW_of_vc Try.mixed _ _ _ (by kernel_rfl) ?_
  by_cases hlt : k < n
  · have hl := rep_snoc k (-1)
    have ht : (ints (List.replicate k (-1))).take k = ints (List.replicate k (-1)) := ints_take_of (by simp)
    simp (disch := omega) only [Try.ntmps143, Try.results143, go_sem, Nat.reduceLT, Nat.reduceLeDiff, Nat.reduceEqDiff, Nat.reduceAdd, Nat.reduceSub, Nat.reduceMul, reduceIte, ↓reduceIte, reduceCtorEq, Int.reduceToNat, Int.reduceLE, Int.reduceLT, Int.reduceNeg, Int.reduceSub, Int.reduceAdd, Int.reduceMul, rb_eq, List.length_replicate, ht]
    refine ⟨(k + 1, nb + 1, nb + 1 + 1), ⟨hlt, by simp⟩, by show n - (k + 1) < n - k; omega, ?_⟩
    exact Wk.ofH (by simp only [go_sem, ↓List.forall_mem_cons, List.not_mem_nil, false_implies, implies_true, and_true, true_and, and_self, Nat.reduceEqDiff, reduceIte, ↓reduceIte, ri_eq, Int.natCast_add, Int.cast_ofNat_Int, rb_eq]; try simp) (by simp (disch := omega) only [go_sem, ↓List.forall_mem_cons, List.not_mem_nil, false_implies, implies_true, and_true, true_and, and_self, Nat.reduceEqDiff, reduceIte, ↓reduceIte, ri_eq, Int.natCast_add, Int.cast_ofNat_Int, if_pos, if_neg, Nat.reduceAdd, List.nil_append, hl]; try simp) (by simp [hp])
  obtain rfl : k = n := by omega
  simp (disch := omega) only [Try.ntmps143, Try.results143, go_sem, Nat.reduceLT, Nat.reduceLeDiff, Nat.reduceEqDiff, Nat.reduceAdd, Nat.reduceSub, Nat.reduceMul, reduceIte, ↓reduceIte, reduceCtorEq, Int.reduceToNat, Int.reduceLE, Int.reduceLT, Int.reduceNeg, Int.reduceSub, Int.reduceAdd, Int.reduceMul, rb_eq]
  refine LoopW.loop (fun p : Nat × List Int × Int => ⟨ofL [(0, .val (.int .i64 k)), (1, rb X), (5, .own b 0 k k 1 false), (7, .val (.int .i64 p.2.2)), (8, .val (.int .i64 p.1))], hp [(b, ⟨ints p.2.1, false⟩)] nb⟩)
    (fun p => p.1 ≤ k ∧ PartL k (bmat X) p.1 p.2.2 p.2.1) (fun p => k - p.1) (0, List.replicate k (-1), 0) ⟨by simp, .zero _ _⟩ (Wk.ofH (by simp only [go_sem, ↓List.forall_mem_cons, List.not_mem_nil, false_implies, implies_true, and_true, true_and, and_self, Nat.reduceEqDiff, reduceIte, ↓reduceIte, ri_eq, Int.natCast_add, Int.cast_ofNat_Int, rb_eq]; try simp) (by simp (disch := omega) only [go_sem, ↓List.forall_mem_cons, List.not_mem_nil, false_implies, implies_true, and_true, true_and, and_self, Nat.reduceEqDiff, reduceIte, ↓reduceIte, ri_eq, Int.natCast_add, Int.cast_ofNat_Int, if_pos, if_neg, Nat.reduceAdd, List.nil_append]; try simp) (by simp [hp])) ?_
  rintro ⟨i, O, c⟩ ⟨hi, hpl⟩
  simp only at hi hpl
  have hl := hpl.len
  have hc0 := hpl.c0
  have hci := hpl.ci
  refine SW_of_vc Try.mixed _ _ _ (by kernel_rfl) ?_
  by_cases hlt2 : i < k
  · have g2 : (ints O)[i]? = some (.val (.int .i64 (O.getD i 0))) := ints_get' hl hlt2
    obtain ⟨v, hv⟩ : ∃ v, O.getD i 0 = v := ⟨_, rfl⟩
    rw [hv] at g2
    by_cases h0 : 0 ≤ v
    · simp (disch := omega) only [Try.ntmps143, Try.results143, go_sem, Nat.reduceLT, Nat.reduceLeDiff, Nat.reduceEqDiff, Nat.reduceAdd, Nat.reduceSub, Nat.reduceMul, reduceIte, ↓reduceIte, reduceCtorEq, Int.reduceToNat, Int.reduceLE, Int.reduceLT, Int.reduceNeg, Int.reduceSub, Int.reduceAdd, Int.reduceMul, rb_eq, hl, g2]
      exact ⟨(i + 1, O, c), ⟨hlt2, hpl.skip (by omega)⟩, by show k - (i + 1) < k - i; omega, Wk.ofH (by simp only [go_sem, ↓List.forall_mem_cons, List.not_mem_nil, false_implies, implies_true, and_true, true_and, and_self, Nat.reduceEqDiff, reduceIte, ↓reduceIte, ri_eq, Int.natCast_add, Int.cast_ofNat_Int, rb_eq]; try simp) (by simp (disch := omega) only [go_sem, ↓List.forall_mem_cons, List.not_mem_nil, false_implies, implies_true, and_true, true_and, and_self, Nat.reduceEqDiff, reduceIte, ↓reduceIte, ri_eq, Int.natCast_add, Int.cast_ofNat_Int, if_pos, if_neg, Nat.reduceAdd, List.nil_append]; try simp) (by simp [hp])⟩
    · simp (disch := omega) only [Try.ntmps143, Try.results143, go_sem, Nat.reduceLT, Nat.reduceLeDiff, Nat.reduceEqDiff, Nat.reduceAdd, Nat.reduceSub, Nat.reduceMul, reduceIte, ↓reduceIte, reduceCtorEq, Int.reduceToNat, Int.reduceLE, Int.reduceLT, Int.reduceNeg, Int.reduceSub, Int.reduceAdd, Int.reduceMul, rb_eq, hl, g2]
      refine LoopW.loop (fun p : Nat × List Int => ⟨ofL [(0, .val (.int .i64 k)), (1, rb X), (5, .own b 0 k k 1 false), (7, .val (.int .i64 c)), (8, .val (.int .i64 i)), (9, .val (.int .i64 p.1))], hp [(b, ⟨ints p.2, false⟩)] nb⟩)
        (fun p => p.1 ≤ k ∧ SpI k (bmat X) c i O p.1 0 0 p.2) (fun p => k - p.1) (0, O.set i c) ⟨by simp, .start hl hlt2⟩ (Wk.ofH (by simp only [go_sem, ↓List.forall_mem_cons, List.not_mem_nil, false_implies, implies_true, and_true, true_and, and_self, Nat.reduceEqDiff, reduceIte, ↓reduceIte, ri_eq, Int.natCast_add, Int.cast_ofNat_Int, rb_eq]; try simp) (by simp (disch := omega) only [go_sem, ↓List.forall_mem_cons, List.not_mem_nil, false_implies, implies_true, and_true, true_and, and_self, Nat.reduceEqDiff, reduceIte, ↓reduceIte, ri_eq, Int.natCast_add, Int.cast_ofNat_Int, if_pos, if_neg, Nat.reduceAdd, List.nil_append]; try simp) (by simp [hp])) ?_
      rintro ⟨s, O1⟩ ⟨hs1, hq1⟩
      simp only at hs1 hq1
      refine SW_of_vc Try.mixed _ _ _ (by kernel_rfl) ?_
      by_cases hlt3 : s < k
      · simp (disch := omega) only [Try.ntmps143, Try.results143, go_sem, Nat.reduceLT, Nat.reduceLeDiff, Nat.reduceEqDiff, Nat.reduceAdd, Nat.reduceSub, Nat.reduceMul, reduceIte, ↓reduceIte, reduceCtorEq, Int.reduceToNat, Int.reduceLE, Int.reduceLT, Int.reduceNeg, Int.reduceSub, Int.reduceAdd, Int.reduceMul, rb_eq]
        refine LoopW.loop (fun p : Nat × List Int => ⟨ofL [(0, .val (.int .i64 k)), (1, rb X), (5, .own b 0 k k 1 false), (7, .val (.int .i64 c)), (8, .val (.int .i64 i)), (9, .val (.int .i64 s)), (10, .val (.int .i64 p.1))], hp [(b, ⟨ints p.2, false⟩)] nb⟩)
          (fun p => p.1 ≤ k ∧ SpI k (bmat X) c i O s p.1 0 p.2) (fun p => k - p.1) (0, O1) ⟨by simp, hq1⟩ (Wk.ofH (by simp only [go_sem, ↓List.forall_mem_cons, List.not_mem_nil, false_implies, implies_true, and_true, true_and, and_self, Nat.reduceEqDiff, reduceIte, ↓reduceIte, ri_eq, Int.natCast_add, Int.cast_ofNat_Int, rb_eq]; try simp) (by simp (disch := omega) only [go_sem, ↓List.forall_mem_cons, List.not_mem_nil, false_implies, implies_true, and_true, true_and, and_self, Nat.reduceEqDiff, reduceIte, ↓reduceIte, ri_eq, Int.natCast_add, Int.cast_ofNat_Int, if_pos, if_neg, Nat.reduceAdd, List.nil_append]; try simp) (by simp [hp])) ?_
        rintro ⟨a, O2⟩ ⟨ha1, hq2⟩
        simp only at ha1 hq2
        refine SW_of_vc Try.mixed _ _ _ (by kernel_rfl) ?_
        by_cases hlt4 : a < k
        · simp (disch := omega) only [Try.ntmps143, Try.results143, go_sem, Nat.reduceLT, Nat.reduceLeDiff, Nat.reduceEqDiff, Nat.reduceAdd, Nat.reduceSub, Nat.reduceMul, reduceIte, ↓reduceIte, reduceCtorEq, Int.reduceToNat, Int.reduceLE, Int.reduceLT, Int.reduceNeg, Int.reduceSub, Int.reduceAdd, Int.reduceMul, rb_eq]
          refine LoopW.loop (fun p : Nat × List Int => ⟨ofL [(0, .val (.int .i64 k)), (1, rb X), (5, .own b 0 k k 1 false), (7, .val (.int .i64 c)), (8, .val (.int .i64 i)), (9, .val (.int .i64 s)), (10, .val (.int .i64 a)), (11, .val (.int .i64 p.1))], hp [(b, ⟨ints p.2, false⟩)] nb⟩)
            (fun p => p.1 ≤ k ∧ SpI k (bmat X) c i O s a p.1 p.2) (fun p => k - p.1) (0, O2) ⟨by simp, hq2⟩ (Wk.ofH (by simp only [go_sem, ↓List.forall_mem_cons, List.not_mem_nil, false_implies, implies_true, and_true, true_and, and_self, Nat.reduceEqDiff, reduceIte, ↓reduceIte, ri_eq, Int.natCast_add, Int.cast_ofNat_Int, rb_eq]; try simp) (by simp (disch := omega) only [go_sem, ↓List.forall_mem_cons, List.not_mem_nil, false_implies, implies_true, and_true, true_and, and_self, Nat.reduceEqDiff, reduceIte, ↓reduceIte, ri_eq, Int.natCast_add, Int.cast_ofNat_Int, if_pos, if_neg, Nat.reduceAdd, List.nil_append]; try simp) (by simp [hp])) ?_
          rintro ⟨z, O3⟩ ⟨hz1, hq3⟩
          simp only at hz1 hq3
          have hl3 := hq3.len
          have hXa := hR a hlt4
          refine SW_of_vc Try.mixed _ _ _ (by kernel_rfl) ?_
          by_cases hlt5 : z < k
          · have g3 : (ints O3)[a]? = some (.val (.int .i64 (O3.getD a 0))) := ints_get' hl3 hlt4
            have g4 : (bools (brow X a))[z]? = some (.val (.bool (bmat X a z))) := bools_get (by omega)
            obtain ⟨v3, hv3⟩ : ∃ v, O3.getD a 0 = v := ⟨_, rfl⟩
            rw [hv3] at g3
            by_cases h5 : v3 = c
            · rcases Bool.eq_false_or_eq_true (bmat X a z) with h6 | h6
              · rw [h6] at g4
                simp (disch := omega) only [Try.ntmps143, Try.results143, go_sem, Nat.reduceLT, Nat.reduceLeDiff, Nat.reduceEqDiff, Nat.reduceAdd, Nat.reduceSub, Nat.reduceMul, reduceIte, ↓reduceIte, reduceCtorEq, Int.reduceToNat, Int.reduceLE, Int.reduceLT, Int.reduceNeg, Int.reduceSub, Int.reduceAdd, Int.reduceMul, rb_eq, hl3, g3, g4, hX, hXa, rowsB_get, rowsB_length]
                exact ⟨(z + 1, O3.set z c), ⟨hlt5, hq3.put hpl.rng hlt4 hlt5 (by omega) h6⟩, by show k - (z + 1) < k - z; omega, Wk.ofH (by simp only [go_sem, ↓List.forall_mem_cons, List.not_mem_nil, false_implies, implies_true, and_true, true_and, and_self, Nat.reduceEqDiff, reduceIte, ↓reduceIte, ri_eq, Int.natCast_add, Int.cast_ofNat_Int, rb_eq]; try simp) (by simp (disch := omega) only [go_sem, ↓List.forall_mem_cons, List.not_mem_nil, false_implies, implies_true, and_true, true_and, and_self, Nat.reduceEqDiff, reduceIte, ↓reduceIte, ri_eq, Int.natCast_add, Int.cast_ofNat_Int, if_pos, if_neg, Nat.reduceAdd, List.nil_append]; try simp) (by simp [hp])⟩
              · rw [h6] at g4
                simp (disch := omega) only [Try.ntmps143, Try.results143, go_sem, Nat.reduceLT, Nat.reduceLeDiff, Nat.reduceEqDiff, Nat.reduceAdd, Nat.reduceSub, Nat.reduceMul, reduceIte, ↓reduceIte, reduceCtorEq, Int.reduceToNat, Int.reduceLE, Int.reduceLT, Int.reduceNeg, Int.reduceSub, Int.reduceAdd, Int.reduceMul, rb_eq, hl3, g3, g4, hX, hXa, rowsB_get, rowsB_length]
                exact ⟨(z + 1, O3), ⟨hlt5, hq3.skip hlt4 (by simp [h6])⟩, by show k - (z + 1) < k - z; omega, Wk.ofH (by simp only [go_sem, ↓List.forall_mem_cons, List.not_mem_nil, false_implies, implies_true, and_true, true_and, and_self, Nat.reduceEqDiff, reduceIte, ↓reduceIte, ri_eq, Int.natCast_add, Int.cast_ofNat_Int, rb_eq]; try simp) (by simp (disch := omega) only [go_sem, ↓List.forall_mem_cons, List.not_mem_nil, false_implies, implies_true, and_true, true_and, and_self, Nat.reduceEqDiff, reduceIte, ↓reduceIte, ri_eq, Int.natCast_add, Int.cast_ofNat_Int, if_pos, if_neg, Nat.reduceAdd, List.nil_append]; try simp) (by simp [hp])⟩
            · simp (disch := omega) only [Try.ntmps143, Try.results143, go_sem, Nat.reduceLT, Nat.reduceLeDiff, Nat.reduceEqDiff, Nat.reduceAdd, Nat.reduceSub, Nat.reduceMul, reduceIte, ↓reduceIte, reduceCtorEq, Int.reduceToNat, Int.reduceLE, Int.reduceLT, Int.reduceNeg, Int.reduceSub, Int.reduceAdd, Int.reduceMul, rb_eq, hl3, g3, hX, hXa, rowsB_get, rowsB_length]
              exact ⟨(z + 1, O3), ⟨hlt5, hq3.skip hlt4 (by intro h; omega)⟩, by show k - (z + 1) < k - z; omega, Wk.ofH (by simp only [go_sem, ↓List.forall_mem_cons, List.not_mem_nil, false_implies, implies_true, and_true, true_and, and_self, Nat.reduceEqDiff, reduceIte, ↓reduceIte, ri_eq, Int.natCast_add, Int.cast_ofNat_Int, rb_eq]; try simp) (by simp (disch := omega) only [go_sem, ↓List.forall_mem_cons, List.not_mem_nil, false_implies, implies_true, and_true, true_and, and_self, Nat.reduceEqDiff, reduceIte, ↓reduceIte, ri_eq, Int.natCast_add, Int.cast_ofNat_Int, if_pos, if_neg, Nat.reduceAdd, List.nil_append]; try simp) (by simp [hp])⟩
          · simp (disch := omega) only [Try.ntmps143, Try.results143, go_sem, Nat.reduceLT, Nat.reduceLeDiff, Nat.reduceEqDiff, Nat.reduceAdd, Nat.reduceSub, Nat.reduceMul, reduceIte, ↓reduceIte, reduceCtorEq, Int.reduceToNat, Int.reduceLE, Int.reduceLT, Int.reduceNeg, Int.reduceSub, Int.reduceAdd, Int.reduceMul, rb_eq]
            exact ⟨(a + 1, O3), ⟨hlt4, hq3.next (by omega)⟩, by show k - (a + 1) < k - a; omega, Wk.ofH (by simp only [go_sem, ↓List.forall_mem_cons, List.not_mem_nil, false_implies, implies_true, and_true, true_and, and_self, Nat.reduceEqDiff, reduceIte, ↓reduceIte, ri_eq, Int.natCast_add, Int.cast_ofNat_Int, rb_eq]; try simp) (by simp (disch := omega) only [go_sem, ↓List.forall_mem_cons, List.not_mem_nil, false_implies, implies_true, and_true, true_and, and_self, Nat.reduceEqDiff, reduceIte, ↓reduceIte, ri_eq, Int.natCast_add, Int.cast_ofNat_Int, if_pos, if_neg, Nat.reduceAdd, List.nil_append]; try simp) (by simp [hp])⟩
        · simp (disch := omega) only [Try.ntmps143, Try.results143, go_sem, Nat.reduceLT, Nat.reduceLeDiff, Nat.reduceEqDiff, Nat.reduceAdd, Nat.reduceSub, Nat.reduceMul, reduceIte, ↓reduceIte, reduceCtorEq, Int.reduceToNat, Int.reduceLE, Int.reduceLT, Int.reduceNeg, Int.reduceSub, Int.reduceAdd, Int.reduceMul, rb_eq]
          exact ⟨(s + 1, O2), ⟨hlt3, hq2.round (by omega)⟩, by show k - (s + 1) < k - s; omega, Wk.ofH (by simp only [go_sem, ↓List.forall_mem_cons, List.not_mem_nil, false_implies, implies_true, and_true, true_and, and_self, Nat.reduceEqDiff, reduceIte, ↓reduceIte, ri_eq, Int.natCast_add, Int.cast_ofNat_Int, rb_eq]; try simp) (by simp (disch := omega) only [go_sem, ↓List.forall_mem_cons, List.not_mem_nil, false_implies, implies_true, and_true, true_and, and_self, Nat.reduceEqDiff, reduceIte, ↓reduceIte, ri_eq, Int.natCast_add, Int.cast_ofNat_Int, if_pos, if_neg, Nat.reduceAdd, List.nil_append]; try simp) (by simp [hp])⟩
      · obtain rfl : s = k := by omega
        simp (disch := omega) only [Try.ntmps143, Try.results143, go_sem, Nat.reduceLT, Nat.reduceLeDiff, Nat.reduceEqDiff, Nat.reduceAdd, Nat.reduceSub, Nat.reduceMul, reduceIte, ↓reduceIte, reduceCtorEq, Int.reduceToNat, Int.reduceLE, Int.reduceLT, Int.reduceNeg, Int.reduceSub, Int.reduceAdd, Int.reduceMul, rb_eq]
        exact ⟨(i + 1, O1, c + 1), ⟨hlt2, hpl.step hs hlt2 (by omega) (hq1.newL hlt2)⟩, by show s - (i + 1) < s - i; omega, Wk.ofH (by simp only [go_sem, ↓List.forall_mem_cons, List.not_mem_nil, false_implies, implies_true, and_true, true_and, and_self, Nat.reduceEqDiff, reduceIte, ↓reduceIte, ri_eq, Int.natCast_add, Int.cast_ofNat_Int, rb_eq]; try simp) (by simp (disch := omega) only [go_sem, ↓List.forall_mem_cons, List.not_mem_nil, false_implies, implies_true, and_true, true_and, and_self, Nat.reduceEqDiff, reduceIte, ↓reduceIte, ri_eq, Int.natCast_add, Int.cast_ofNat_Int, if_pos, if_neg, Nat.reduceAdd, List.nil_append]; try simp) (by simp [hp])⟩
  · have hC := hpl.final (by omega)
    have hc2 := hC.comp
    rw [← hC.eq] at hc2 ⊢
    simp (disch := omega) only [Try.ntmps143, Try.results143, go_sem, Nat.reduceLT, Nat.reduceLeDiff, Nat.reduceEqDiff, Nat.reduceAdd, Nat.reduceSub, Nat.reduceMul, reduceIte, ↓reduceIte, reduceCtorEq, Int.reduceToNat, Int.reduceLE, Int.reduceLT, Int.reduceNeg, Int.reduceSub, Int.reduceAdd, Int.reduceMul, rb_eq]
    exact Fin.imp (fun _ _ h => ⟨hc2, h⟩) (fin_ints hl.symm (by rw [hp_map]; simp only [hmap_cons]; rfl))
end Go.Sh

/-
  Contracts: the components of a graph of positive weights, of the reference; both as one.
-/
namespace Go.Sh
set_option linter.unusedSimpArgs false
set_option linter.unusedVariables false
open Go Go.Proofs

theorem CompL.congr {n : Nat} {B B' : Nat → Nat → Bool} {L : List Int} (h : CompL n B L) (hb : ∀ x y, x < n → y < n → B x y = B' x y) : CompL n B' L := by
  have hr : ∀ x y, Rch n B x y ↔ Rch n B' x y := fun x y => ⟨fun r => r.mono fun x y hx hy h => .one hx hy (by rw [← hb x y hx hy]; exact h), fun r => r.mono fun x y hx hy h => .one hx hy (by rw [hb x y hx hy]; exact h)⟩
  exact ⟨h.len, h.nn, h.can, fun x y hx hy => (h.iff x y hx hy).trans (hr x y)⟩
/-- A square of bools. -/
def Sq (n : Nat) (X : List (List Bool)) : Prop := X.length = n ∧ ∀ i, i < n → (brow X i).length = n
theorem Sq.bz (n : Nat) : Sq n (bz n) := ⟨bz_length n, fun i h => by rw [bz_row h]; simp⟩
theorem Sq.set {n : Nat} {X : List (List Bool)} (h : Sq n X) (i c : Nat) (x : Bool) : Sq n (bset X i c x) := ⟨by rw [bset_length, h.1], fun k hk => by rw [bset_row_length]; exact h.2 k hk⟩

noncomputable def pcomp (M : List (List Int)) : List Int := if isWM M = true then comp M.length (pB M) else []
theorem pcomp_t {M : List (List Int)} (h : WM M) : pcomp M = comp M.length (pB M) := by rw [pcomp, if_pos (isWM_t h)]
theorem pcomp_f {M : List (List Int)} (h : ¬ WM M) : pcomp M = [] := by rw [pcomp, if_neg (by rw [isWM_f h]; simp)]
theorem pcomp_length {M : List (List Int)} (h : WM M) : (pcomp M).length = M.length := by rw [pcomp_t h]; exact (comp_ok h.sym).len
theorem Try.implPC_one (M : List (List Int)) (hM : M.length ≤ 1048576) (hR : ∀ i, i < M.length → (mrow M i).length ≤ 1048576) (h : WM M) : FCall Try.prog 141 [rr M] (OneRes M.length 1 (ints (pcomp M))) := by
  rw [pcomp_t h]
  exact ((Try.implPC_f M hM hR h).mono fun _ _ h => h.2).one
theorem Try.implPC_ok (M : List (List Int)) (hM : M.length ≤ 1048576) (hR : ∀ i, i < M.length → (mrow M i).length ≤ 1048576) : PCall Try.prog 141 [rr M] (ri (pcomp M)) := by
  by_cases h : WM M
  · exact (Try.implPC_one M hM hR h).pcall 2 (fun _ _ g => one_view g (pcomp_length h).symm)
  · rw [pcomp_f h]; exact (Try.implPC_nil M hM hR h).pcall 0 (by rintro r H rfl; exact view_nil)
end Go.Sh

/-
  Contracts: matrices copied into memory of their own, marked, read back.
-/
namespace Go.Sh
set_option linter.unusedSimpArgs false
set_option linter.unusedVariables false
open Go Go.Proofs
variable {P : Program}

theorem HS_res (M : List (List Int)) : MatRes (mi M) (.own 0 0 M.length M.length 1 true) (HS M M.length) := by
  have hl := mi_length M
  refine ⟨0, 0, M.length, true, _, by rw [hl], HS_map M _, by rw [hl, outer_length]; omega, mi_vals _, fun i => i + 1, fun _ => 0, fun i i' _ _ h => by simpa using h, fun i _ => by simp, fun i hi => ?_⟩
  rw [hl] at hi
  have hr : rowAt (mi M) i = ints (mrow M i) := mi_row hi
  refine ⟨(mrow M i).length, false, ⟨ints (mrow M i), false⟩, ?_, ?_, ?_, ?_⟩
  · rw [hr, Nat.zero_add, ints_length]
    simp only [outer, List.getElem?_map]
    rw [List.getElem?_range hi]
    simp only [Option.map_some]
    rw [if_pos hi]
  · simp only [HS]
    rw [if_neg (by omega), if_pos (by omega)]
    simp
  · rw [hr, List.drop_zero, List.take_length]
  · rw [hr]; simp
theorem Try.toIntSS_one (M : List (List Int)) (hM : M.length ≤ 1048576) (hR : ∀ i, i < M.length → (mrow M i).length ≤ 1048576) : FCall Try.prog 17 [rr M] (MatOne (mi M)) :=
  ((Try.toIntSS_f M hM hR).mono fun r H ⟨h1, h2⟩ => by subst h1; subst h2; exact HS_res M).mat

theorem CallS.sub {f : FuncId} {args : List SV} {H : Heap} {Q Q' : SV → Heap → Prop} (h : CallS P f args H Q) (hq : ∀ r H', Q r H' → ∃ H2, Sub H2 H' ∧ Q' r H2) : CallS P f args H Q' := by
  refine ⟨h.1, fun j w vs r hl => (h.2 j w vs r hl).mono ?_⟩
  rintro e w' ⟨r, v, j', H', h1, h2, h3, h4, h5⟩
  obtain ⟨H2, hs, hq2⟩ := hq r H' h5
  have hsub : ∀ k, OwnR j' H2 k → OwnR j' H' k := by
    rintro k ⟨b, blk, base, g1, g2⟩
    refine ⟨b, blk, base, ?_, g2⟩
    rcases hs.map b with e | e
    · rw [e] at g1; simp at g1
    · rw [← e]; exact g1
  refine ⟨r, v, j', H2, h1, h2.sub hs, VRel.tr (Tr.weaken w' hsub) (fun _ _ h => h) r v h3, ?_, hq2⟩
  exact ⟨h4.os, h4.tape, h4.output, h4.size, h4.keep, h4.sizes, h4.jle, by rw [hs.nb]; exact h4.nble, fun k o => h4.own k (hsub k o)⟩

def Heap.cutR (H : Heap) (a c : Nat) : Heap := ⟨fun x => if a ≤ x ∧ x ≤ c then none else H.map x, H.nb⟩
def consE (e : Ent) (H : Heap) : Heap := match e with
  | .blk k v => ⟨fun x => if x = k then some v else H.map x, H.nb⟩
  | .mat b R => ⟨fun x => if b ≤ x ∧ x ≤ b + R.length then matMap b R x else H.map x, H.nb⟩
  | .rows fl nr => ⟨fun x => match nrFind nr x with | some r => some ⟨r, fl⟩ | none => H.map x, H.nb⟩
  | .cut b => ⟨fun x => if x = b then none else H.map x, H.nb⟩
theorem consE_hx (e : Ent) (l : List Ent) (n : Nat) : consE e (hx l n) = hx (e :: l) n := by cases e <;> rfl
theorem cutR_nil (n a c : Nat) : (hx [] n).cutR a c = hx [] n := by
  refine Heap.ext' (fun x => ?_) rfl
  simp only [Heap.cutR, hx, xmap]
  split <;> rfl
theorem cutR_blk {k n a c : Nat} {v : Blk} {l : List Ent} (h : k < a ∨ c < k) : (hx (.blk k v :: l) n).cutR a c = consE (.blk k v) ((hx l n).cutR a c) := by
  refine Heap.ext' (fun x => ?_) rfl
  simp only [Heap.cutR, hx, xmap, consE]
  by_cases h1 : x = k
  · subst h1
    rw [if_neg (by omega), if_pos rfl, if_pos rfl]
  · rw [if_neg h1, if_neg h1]
theorem cutR_same {b n c : Nat} {M : List (List Int)} {l : List Ent} (h : c = b + M.length) : (hx (.mat b (mi M) :: l) n).cutR b c = (hx l n).cutR b c := by
  subst h
  refine Heap.ext' (fun x => ?_) rfl
  simp only [Heap.cutR, hx, xmap, mi_length]
  by_cases h1 : b ≤ x ∧ x ≤ b + M.length
  · rw [if_pos h1, if_pos h1]
  · rw [if_neg h1, if_neg h1, if_neg h1]
theorem cutR_other {b n a c : Nat} {M : List (List Int)} {l : List Ent} (h : c < b ∨ b + M.length < a) : (hx (.mat b (mi M) :: l) n).cutR a c = consE (.mat b (mi M)) ((hx l n).cutR a c) := by
  refine Heap.ext' (fun x => ?_) rfl
  simp only [Heap.cutR, hx, xmap, consE, mi_length]
  by_cases h1 : b ≤ x ∧ x ≤ b + M.length
  · rw [if_neg (by omega), if_pos h1, if_pos h1]
  · rw [if_neg h1, if_neg h1]
theorem cutR_map {H : Heap} {a c x : Nat} (h : x < a ∨ c < x) : (H.cutR a c).map x = H.map x := by
  simp only [Heap.cutR]; rw [if_neg (by omega)]

set_option maxHeartbeats 1000000 in
/-- A matrix marked; what it holds then is not told. -/
theorem Try.markIntSS_ok (M : List (List Int)) (k : Int) (H : Heap) (b n : Nat) (hb : EntIn H (.mat b (mi M))) (hn : n = M.length) (hM : M.length ≤ 1048576) (hR : ∀ i, i < M.length → (mrow M i).length ≤ 1048576) (hk : 0 ≤ k) (hk2 : k + msum M M.length ≤ 1099511627776) :
    CallS Try.prog 21 [.own b 0 n n 1 false, .val (.int .i64 k)] H (fun r H' => r = .val (.int .i64 (k + msum M M.length)) ∧ H' = H.cutR b (b + M.length)) := by
  subst hn
  have hb' := hb
  simp only [EntIn, mi_length] at hb'
  have h0 : H.map b = some ⟨outerB b (mi M), false⟩ := by rw [hb' b (by omega) (by omega), matMap, if_pos rfl]
  have hrow : ∀ i, i < M.length → H.map (b + 1 + i) = some ⟨ints (mrow M i), false⟩ := fun i hi => by
    rw [hb' (b + 1 + i) (by omega) (by omega), matMap, if_neg (by omega), ← mi_row hi]
    congr 3; omega
  refine CallS.sub (Q := fun r H' => r = .val (.int .i64 (k + msum M M.length)) ∧ H' = H.cutR (b + 1) (b + M.length)) ?_ (fun r H' ⟨e1, e2⟩ => ⟨_, ⟨?_, fun x => ?_⟩, e1, rfl⟩)
  · refine CallS.of_body Try.func21 rfl (by kernel_rfl) (by simp [Try.ntmps21]) ?_
    refine SW_of_vc Try.mixed _ _ _ (by kernel_rfl) ?_
    simp (disch := omega) only [Try.ntmps21, Try.results21, go_sem, Nat.reduceLT, Nat.reduceLeDiff, Nat.reduceEqDiff, Nat.reduceAdd, Nat.reduceSub, Nat.reduceMul, reduceIte, ↓reduceIte, reduceCtorEq, Int.reduceToNat, Int.reduceLE, Int.reduceLT, Int.reduceNeg, Int.reduceSub, Int.reduceAdd, Int.reduceMul]
    refine LoopW.loop (fun i : Nat => ⟨ofL [(0, .own b 0 M.length M.length 1 false), (1, .val (.int .i64 (k + msum M i))), (5, .val (.int .i64 i))], H.cutR (b + 1) (b + i)⟩) (fun i => i ≤ M.length) (fun i => M.length - i) 0 (by omega) (Wk.of (by simp only [go_sem, ↓List.forall_mem_cons, List.not_mem_nil, false_implies, implies_true, and_true, true_and, and_self, Nat.reduceEqDiff, reduceIte, ↓reduceIte, ri_eq, Int.natCast_add, Int.cast_ofNat_Int, msum, List.take_zero, List.sum_nil, Int.add_zero]; try simp) (Heap.ext' (fun x => by simp only [Heap.cutR]; rw [if_neg (by omega)]) rfl)) ?_
    intro i hi
    refine SW_of_vc Try.mixed _ _ _ (by kernel_rfl) ?_
    have hm0 : (H.cutR (b + 1) (b + i)).map b = some ⟨outerB b (mi M), false⟩ := by rw [cutR_map (by omega), h0]
    have hmn := msum_nonneg M i
    by_cases hlt : i < M.length
    · have hm1 : (H.cutR (b + 1) (b + i)).map (b + 1 + i) = some ⟨ints (mrow M i), false⟩ := by rw [cutR_map (by omega), hrow i hlt]
      have hmono := msum_mono (M := M) (k := i) (j := M.length) (by omega) (by omega)
      have hs := msum_succ hlt
      simp (disch := omega) only [Try.ntmps21, Try.results21, go_sem, Nat.reduceLT, Nat.reduceLeDiff, Nat.reduceEqDiff, Nat.reduceAdd, Nat.reduceSub, Nat.reduceMul, reduceIte, ↓reduceIte, reduceCtorEq, Int.reduceToNat, Int.reduceLE, Int.reduceLT, Int.reduceNeg, Int.reduceSub, Int.reduceAdd, Int.reduceMul, hm0, outerB_getI]
      refine (Try.markIntS_ok (mrow M i) (k + msum M i) _ (b + 1 + i) _ _ false false hm1 rfl (by have := hR i hlt; omega) (by omega) (by omega)).callDet ?_
      simp (disch := omega) only [Try.ntmps21, Try.results21, go_sem, Nat.reduceLT, Nat.reduceLeDiff, Nat.reduceEqDiff, Nat.reduceAdd, Nat.reduceSub, Nat.reduceMul, reduceIte, ↓reduceIte, reduceCtorEq, Int.reduceToNat, Int.reduceLE, Int.reduceLT, Int.reduceNeg, Int.reduceSub, Int.reduceAdd, Int.reduceMul]
      refine ⟨i + 1, hlt, by omega, ⟨ofL_wk (by simp only [go_sem, ↓List.forall_mem_cons, List.not_mem_nil, false_implies, implies_true, and_true, true_and, and_self, Nat.reduceEqDiff, reduceIte, ↓reduceIte, ri_eq, Int.natCast_add, Int.cast_ofNat_Int, hs, Int.add_assoc]; try simp), Nat.le_refl _, fun x => ?_⟩⟩
      simp only [Heap.cutR, Heap.set]
      by_cases h1 : b + 1 ≤ x ∧ x ≤ b + (i + 1)
      · exact .inl (by rw [if_pos h1])
      · right
        rw [if_neg h1, if_neg (by omega), if_neg (by omega)]
    · obtain rfl : i = M.length := by omega
      simp (disch := omega) only [Try.ntmps21, Try.results21, go_sem, Nat.reduceLT, Nat.reduceLeDiff, Nat.reduceEqDiff, Nat.reduceAdd, Nat.reduceSub, Nat.reduceMul, reduceIte, ↓reduceIte, reduceCtorEq, Int.reduceToNat, Int.reduceLE, Int.reduceLT, Int.reduceNeg, Int.reduceSub, Int.reduceAdd, Int.reduceMul]
  · rw [e2]; rfl
  · subst e2
    simp only [Heap.cutR]
    by_cases h1 : b ≤ x ∧ x ≤ b + M.length
    · exact .inl (by rw [if_pos h1])
    · right
      rw [if_neg h1, if_neg (by omega)]
theorem fin_mat {b n cap : Nat} {ex : Bool} {R : List (List SV)} {H : Heap} (h : EntIn H (.mat b R)) (hv : ∀ row ∈ R, row.all isVal = true) (hn : n = R.length) : Fin (MatRes R) (.own b 0 n cap 1 ex) H := by
  subst hn
  refine ⟨hx [.mat b R] H.nb, ⟨rfl, fun x => ?_⟩, rfl, mat_nr hv, b, 0, cap, ex, _, rfl, by rw [hx_map, xmap_mat], by rw [outerB_length]; omega, hv, fun i => b + 1 + i, fun _ => 0, fun i i' _ _ e => by have e : b + 1 + i = b + 1 + i' := e; omega, fun i _ => by show b + 1 + i ≠ b; omega, fun i hi => ?_⟩
  · rw [hx_map, xmap]
    by_cases hr : b ≤ x ∧ x ≤ b + R.length
    · rw [if_pos hr]; exact .inr (h x hr.1 hr.2).symm
    · rw [if_neg hr]; exact .inl rfl
  · refine ⟨(rowAt R i).length, false, ⟨rowAt R i, false⟩, ?_, ?_, ?_, ?_⟩
    · rw [Nat.zero_add, outerB_get hi]
    · show (hx [.mat b R] H.nb).map (b + 1 + i) = _
      rw [hx_map, xmap, if_pos (by omega), matMap, if_neg (by omega)]
      congr 3; omega
    · simp
    · simp
attribute [go_sem] consE_hx cutR_nil
end Go.Sh

/-
  Squares of numbers, by their entries.
-/
namespace Go.Sh
set_option linter.unusedSimpArgs false
set_option linter.unusedVariables false
open Go Go.Proofs

/-- A square of numbers. -/
def SqI (n : Nat) (M : List (List Int)) : Prop := M.length = n ∧ ∀ i, i < n → (mrow M i).length = n
theorem SqI.zs (n : Nat) : SqI n (zs n) := ⟨zs_length n, fun i h => by rw [zs_row h]; simp⟩
theorem SqI.set {n : Nat} {M : List (List Int)} (h : SqI n M) (i c : Nat) (x : Int) : SqI n (mset M i c x) := ⟨by rw [mset_length, h.1], fun k hk => by rw [mset_row_length]; exact h.2 k hk⟩
theorem SqI.ext {n : Nat} {M M' : List (List Int)} (h : SqI n M) (h' : SqI n M') (e : ∀ x y, x < n → y < n → mat M x y = mat M' x y) : M = M' := by
  refine List.ext_getElem (h.1.trans h'.1.symm) fun i h1 h2 => ?_
  have hi : i < n := by rw [← h.1]; exact h1
  have e1 : M[i] = mrow M i := by simp [mrow, h1]
  have e2 : M'[i] = mrow M' i := by simp [mrow, h2]
  rw [e1, e2]
  exact list_ext ((h.2 i hi).trans (h'.2 i hi).symm) fun k hk => e i k hi (by rw [← h.2 i hi]; exact hk)
def genM (n : Nat) (f : Nat → Nat → Int) : List (List Int) := (List.range n).map fun x => (List.range n).map fun y => f x y
theorem genM_row {n : Nat} {f : Nat → Nat → Int} {x : Nat} (h : x < n) : mrow (genM n f) x = (List.range n).map fun y => f x y := by simp [mrow, genM, h]
theorem genM_sq (n : Nat) (f : Nat → Nat → Int) : SqI n (genM n f) := ⟨by simp [genM], fun i h => by rw [genM_row h]; simp⟩
theorem genM_at {n : Nat} {f : Nat → Nat → Int} {x y : Nat} (hx : x < n) (hy : y < n) : mat (genM n f) x y = f x y := by rw [mat, genM_row hx]; simp [hy]
def bint (b : Bool) : Int := if b = true then 1 else 0
end Go.Sh

/-
  Contracts: the graph of the must-link constraints, its components. Of the reference and of the program.
-/
namespace Go.Sh
set_option linter.unusedSimpArgs false
set_option linter.unusedVariables false
open Go Go.Proofs

def linkB (c : Con) (x y : Nat) : Bool := c.2.2 && (decide (c.1 = x ∧ c.2.1 = y) || decide (c.1 = y ∧ c.2.1 = x))
def mustB (C : List Con) (x y : Nat) : Bool := C.any fun c => linkB c x y
theorem linkB_sym (c : Con) (x y : Nat) : linkB c x y = linkB c y x := by simp only [linkB]; rw [Bool.or_comm]
theorem mustB_sym (C : List Con) (x y : Nat) : mustB C x y = mustB C y x := by
  simp only [mustB]; congr 1; funext c; exact linkB_sym c x y
theorem mustB_succ {C : List Con} {k : Nat} (h : k < C.length) (x y : Nat) : mustB (C.take (k + 1)) x y = (mustB (C.take k) x y || linkB (cg C k) x y) := by
  have e : cg C k = C[k] := by simp [cg, h]
  rw [mustB, List.take_succ_eq_append_getElem h, List.any_append, e]
  simp [mustB]
theorem areCons_t {n : Int} {C : List Con} (h : areCons n C = true) : (1 ≤ n ∧ n ≤ 8) ∧ C.length ≤ 10 ∧ ∀ c ∈ C, 0 ≤ c.1 ∧ c.1 < c.2.1 ∧ c.2.1 < n := by
  simp only [areCons, Bool.and_eq_true] at h
  refine ⟨inR_of h.1, of_decide_eq_true h.2.1, fun c hc => ?_⟩
  have := List.all_eq_true.1 h.2.2 c hc
  simp only [goodCon, Bool.and_eq_true] at this
  have h1 := inR_of this.1
  have h2 := inR_of this.2.1
  have h3 := of_decide_eq_true this.2.2
  omega
theorem cg_mem {C : List Con} {k : Nat} (h : k < C.length) : cg C k ∈ C := by simp [cg, h]
theorem con_nat {n : Int} {C : List Con} (h : areCons n C = true) {k : Nat} (hk : k < C.length) : ∃ (x y : Nat) (s : Bool), cg C k = ((x : Int), (y : Int), s) ∧ x < y ∧ (y : Int) < n := by
  obtain ⟨a, b, s, hc⟩ := con_ex C k
  have := (areCons_t h).2.2 _ (cg_mem hk)
  rw [hc] at this
  simp only at this
  refine ⟨a.toNat, b.toNat, s, ?_, by omega, by omega⟩
  rw [hc]
  congr 1
  · omega
  · congr 1; omega
theorem linkB_at (x y : Nat) (s : Bool) (a b : Nat) : linkB ((x : Int), (y : Int), s) a b = (s && (decide (x = a ∧ y = b) || decide (x = b ∧ y = a))) := by
  simp only [linkB]
  congr 1
  have e1 : ((x : Int) = a ∧ (y : Int) = b) ↔ (x = a ∧ y = b) := by omega
  have e2 : ((x : Int) = b ∧ (y : Int) = a) ↔ (x = b ∧ y = a) := by omega
  rw [decide_eq_decide.2 e1, decide_eq_decide.2 e2]
def mustM (n : Nat) (C : List Con) : List (List Int) := genM n fun x y => bint (mustB C x y)

set_option maxHeartbeats 4000000 in
theorem Try.mustMatrix_f (n : Nat) (C : List Con) (h : areCons n C = true) : FCall Try.prog 96 [.val (.int .i64 n), rc C] (MatRes (mi (mustM n C))) := by
  obtain ⟨hn, hC, hg⟩ := areCons_t h
  have hn8 : n ≤ 8 := by omega
  have lC := cons_length C
  refine FCall.of_body Try.func96 rfl (by kernel_rfl) (by simp [Try.ntmps96]) ?_
  refine SW_of_vc2 (onD 6 [(30, 32)] []) Try.mixed _ _ _ (by kernel_rfl) ?_
  simp (disch := omega) only [Try.ntmps96, Try.results96, go_sem, Nat.reduceLT, Nat.reduceLeDiff, Nat.reduceEqDiff, Nat.reduceAdd, Nat.reduceSub, Nat.reduceMul, reduceIte, ↓reduceIte, reduceCtorEq, Int.reduceToNat, Int.reduceLE, Int.reduceLT, Int.reduceNeg, Int.reduceSub, Int.reduceAdd, Int.reduceMul, rc]
  refine (Try.square_one n (by omega)).callMat (mi_vals _) 0 (viewL_cons_of (view_int) viewL_nil_of) ?_
  simp (disch := omega) only [Try.ntmps96, Try.results96, go_sem, Nat.reduceLT, Nat.reduceLeDiff, Nat.reduceEqDiff, Nat.reduceAdd, Nat.reduceSub, Nat.reduceMul, reduceIte, ↓reduceIte, reduceCtorEq, Int.reduceToNat, Int.reduceLE, Int.reduceLT, Int.reduceNeg, Int.reduceSub, Int.reduceAdd, Int.reduceMul, rc, zs_length]
  refine LoopW.loop (fun p : Nat × List (List Int) × Nat => ⟨ofL [(5, .own 0 0 n n 1 false), (10, rc C), (11, .val (.int .i64 C.length)), (12, .val (.int .i64 p.1))], hx [.mat 0 (mi p.2.1)] p.2.2⟩)
    (fun p => p.1 ≤ C.length ∧ SqI n p.2.1 ∧ n < p.2.2 ∧ ∀ x y, x < n → y < n → mat p.2.1 x y = bint (mustB (C.take p.1) x y)) (fun p => C.length - p.1) (0, zs n, n + 1) ⟨by simp, .zs n, by simp, fun x y _ _ => zs_at⟩
    (Wk.ofX (by simp only [go_sem, ↓List.forall_mem_cons, List.not_mem_nil, false_implies, implies_true, and_true, true_and, and_self, Nat.reduceEqDiff, reduceIte, ↓reduceIte, ri_eq, Int.natCast_add, Int.cast_ofNat_Int, rc]; try simp) (by simp only [List.forall_mem_cons]; exact ⟨.self, by simp⟩) (Nat.le_refl _)) ?_
  rintro ⟨k, M, nb⟩ ⟨hk, hM, hnb, hMM⟩
  simp only at hk hM hnb hMM
  have hM1 := hM.1
  refine SW_of_vc2 (onD 6 [(30, 32)] []) Try.mixed _ _ _ (by kernel_rfl) ?_
  by_cases hlt : k < C.length
  · obtain ⟨x, y, s, hc, hxy, hyn⟩ := con_nat h hlt
    have hy : y < n := by omega
    have hx : x < n := by omega
    obtain ⟨q0, q1, q2, q3⟩ := cons_of hlt hc
    have hsucc := mustB_succ hlt
    rw [hc] at hsucc
    have r1 := hM.2 x hx
    have r2 := hM.2 y hy
    have l2 : (mset M x y 1).length = n := by rw [mset_length, hM1]
    have r3 : (mrow (mset M x y 1) y).length = n := by rw [mset_row_length, r2]
    cases s with
    | true =>
      have hnew : ∀ a b, a < n → b < n → mat (mset (mset M x y 1) y x 1) a b = bint (mustB (C.take (k + 1)) a b) := by
        intro a b ha hb
        rw [mset_at _ _ _ _ (by omega) (by omega), mset_at _ _ _ _ (by omega) (by omega), hMM a b ha hb, hsucc, linkB_at]
        by_cases e1 : a = y ∧ b = x
        · have : (decide (x = a ∧ y = b) || decide (x = b ∧ y = a)) = true := by simp; omega
          rw [if_pos e1, this]; simp [bint]
        · rw [if_neg e1]
          by_cases e2 : a = x ∧ b = y
          · have : (decide (x = a ∧ y = b) || decide (x = b ∧ y = a)) = true := by simp; omega
            rw [if_pos e2, this]; simp [bint]
          · have : (decide (x = a ∧ y = b) || decide (x = b ∧ y = a)) = false := by simp; omega
            rw [if_neg e2, this]; simp
      simp (disch := omega) only [Try.ntmps96, Try.results96, go_sem, Nat.reduceLT, Nat.reduceLeDiff, Nat.reduceEqDiff, Nat.reduceAdd, Nat.reduceSub, Nat.reduceMul, reduceIte, ↓reduceIte, reduceCtorEq, Int.reduceToNat, Int.reduceLE, Int.reduceLT, Int.reduceNeg, Int.reduceSub, Int.reduceAdd, Int.reduceMul, rc, q3, lC, outerB_getI, xmap_skipI, xmap_rowI, xset_rowI, xset_skipI, r1, r2, r3]
      refine ⟨(k + 1, mset (mset M x y 1) y x 1, nb + 1), ⟨hlt, (hM.set _ _ _).set _ _ _, by show n < nb + 1; omega, hnew⟩, by show C.length - (k + 1) < C.length - k; omega, ?_⟩
      exact Wk.ofX (by simp only [go_sem, ↓List.forall_mem_cons, List.not_mem_nil, false_implies, implies_true, and_true, true_and, and_self, Nat.reduceEqDiff, reduceIte, ↓reduceIte, ri_eq, Int.natCast_add, Int.cast_ofNat_Int, rc]; try simp) (by simp only [List.forall_mem_cons]; exact ⟨EntIn.self.skipM (by simp only [mi_length, mset_length]; omega), by simp⟩) (Nat.le_refl _)
    | false =>
      have hnew : ∀ a b, a < n → b < n → mat M a b = bint (mustB (C.take (k + 1)) a b) := by
        intro a b ha hb
        rw [hMM a b ha hb, hsucc, linkB_at]; simp
      simp (disch := omega) only [Try.ntmps96, Try.results96, go_sem, Nat.reduceLT, Nat.reduceLeDiff, Nat.reduceEqDiff, Nat.reduceAdd, Nat.reduceSub, Nat.reduceMul, reduceIte, ↓reduceIte, reduceCtorEq, Int.reduceToNat, Int.reduceLE, Int.reduceLT, Int.reduceNeg, Int.reduceSub, Int.reduceAdd, Int.reduceMul, rc, q3, lC]
      refine ⟨(k + 1, M, nb + 1), ⟨hlt, hM, by show n < nb + 1; omega, hnew⟩, by show C.length - (k + 1) < C.length - k; omega, ?_⟩
      exact Wk.ofX (by simp only [go_sem, ↓List.forall_mem_cons, List.not_mem_nil, false_implies, implies_true, and_true, true_and, and_self, Nat.reduceEqDiff, reduceIte, ↓reduceIte, ri_eq, Int.natCast_add, Int.cast_ofNat_Int, rc]; try simp) (by simp only [List.forall_mem_cons]; exact ⟨EntIn.self.skipM (by simp only [mi_length]; omega), by simp⟩) (Nat.le_refl _)
  · obtain rfl : k = C.length := by omega
    rw [List.take_length] at hMM
    have he : M = mustM n C := hM.ext (genM_sq n _) fun x y hx hy => by rw [hMM x y hx hy, mustM, genM_at hx hy]
    simp (disch := omega) only [Try.ntmps96, Try.results96, go_sem, Nat.reduceLT, Nat.reduceLeDiff, Nat.reduceEqDiff, Nat.reduceAdd, Nat.reduceSub, Nat.reduceMul, reduceIte, ↓reduceIte, reduceCtorEq, Int.reduceToNat, Int.reduceLE, Int.reduceLT, Int.reduceNeg, Int.reduceSub, Int.reduceAdd, Int.reduceMul, rc]
    rw [← he]
    exact fin_mat .self (mi_vals _) (by rw [mi_length, hM1])
theorem mustM_wm {n : Nat} {C : List Con} (h : areCons n C = true) : WM (mustM n C) := by
  obtain ⟨hn, hC, hg⟩ := areCons_t h
  have hs := genM_sq n fun x y => bint (mustB C x y)
  have hb : ∀ b, 0 ≤ bint b ∧ bint b ≤ 1 := fun b => by cases b <;> simp [bint]
  have e1 : (mustM n C).length = n := hs.1
  refine ⟨by rw [e1]; omega, fun i hi => by rw [e1] at hi ⊢; exact hs.2 i hi, fun i k hi hk => ?_, fun i hi => ?_⟩
  · rw [e1] at hi hk
    rw [mustM, genM_at hi hk, genM_at hk hi, mustB_sym]
    have := hb (mustB C k i)
    exact ⟨by omega, rfl⟩
  · rw [e1] at hi
    rw [mustM, genM_at hi hi]
    have : mustB C i i = false := by
      rw [mustB, List.any_eq_false]
      intro c hc
      have := hg c hc
      simp only [linkB]
      simp
      omega
    rw [this]; rfl
theorem mustM_pB {n : Nat} {C : List Con} {x y : Nat} (hx : x < n) (hy : y < n) : pB (mustM n C) x y = mustB C x y := by
  rw [pB, mustM, genM_at hx hy]
  cases mustB C x y <;> simp [bint]
theorem mustM_length (n : Nat) (C : List Con) : (mustM n C).length = n := (genM_sq n _).1
/-- The component of each item in the graph of the must-link constraints. -/
noncomputable def must (n : Int) (C : List Con) : List Int := if areCons n C = true then comp n.toNat (mustB C) else []
theorem must_t {n : Int} {C : List Con} (h : areCons n C = true) : must n C = comp n.toNat (mustB C) := by rw [must, if_pos h]
theorem must_f {n : Int} {C : List Con} (h : areCons n C = false) : must n C = [] := by rw [must, if_neg (by rw [h]; simp)]
theorem must_ok {n : Nat} {C : List Con} : CompL n (mustB C) (comp n (mustB C)) := comp_ok fun x y _ _ h => by rw [mustB_sym]; exact h
theorem must_length {n : Int} {C : List Con} (h : areCons n C = true) : (must n C).length = n.toNat := by rw [must_t h]; exact must_ok.len
theorem must_pcomp {n : Nat} {C : List Con} (h : areCons n C = true) : pcomp (mustM n C) = comp n (mustB C) := by
  have hw := mustM_wm h
  rw [pcomp_t hw, mustM_length]
  have hc := comp_ok (n := n) (B := pB (mustM n C)) (by have := hw.sym; rwa [mustM_length] at this)
  exact (hc.congr fun x y hx hy => mustM_pB hx hy).eq.symm ▸ rfl

set_option maxHeartbeats 1000000 in
theorem Try.implMust_f (n : Int) (C : List Con) (hC : C.length ≤ 1048576) (h : areCons n C = true) : FCall Try.prog 74 [.val (.int .i64 n), rc C] (FlatRes n.toNat 1 (ints (must n C))) := by
  obtain ⟨⟨n1, n2⟩, _, _⟩ := areCons_t h
  obtain ⟨m, rfl⟩ := Int.eq_ofNat_of_zero_le (by omega : 0 ≤ n)
  have w1 := Try.implAreConstraints_ok m C hC
  rw [h] at w1
  have hw := mustM_wm h
  have hl := mustM_length m C
  have w3 := Try.implPC_one (mustM m C) (by rw [hl]; omega) (fun i hi => by rw [hw.2.1 i hi, hl]; omega) hw
  have hp := must_pcomp h
  rw [must_t h, Int.toNat_natCast]
  rw [hp, hl] at w3
  refine FCall.of_body Try.func74 rfl (by kernel_rfl) (by simp [Try.ntmps74]) ?_
  refine SW_of_vc Try.mixed _ _ _ (by kernel_rfl) ?_
  simp (disch := omega) only [Try.ntmps74, Try.results74, go_sem, Nat.reduceLT, Nat.reduceLeDiff, Nat.reduceEqDiff, Nat.reduceAdd, Nat.reduceSub, Nat.reduceMul, reduceIte, ↓reduceIte, reduceCtorEq, Int.reduceToNat, Int.reduceLE, Int.reduceLT, Int.reduceNeg, Int.reduceSub, Int.reduceAdd, Int.reduceMul, rc]
  refine w1.callV 0 (viewL_cons_of (view_int) (viewL_cons_of (view_row) viewL_nil_of)) ?_
  simp (disch := omega) only [Try.ntmps74, Try.results74, go_sem, Nat.reduceLT, Nat.reduceLeDiff, Nat.reduceEqDiff, Nat.reduceAdd, Nat.reduceSub, Nat.reduceMul, reduceIte, ↓reduceIte, reduceCtorEq, Int.reduceToNat, Int.reduceLE, Int.reduceLT, Int.reduceNeg, Int.reduceSub, Int.reduceAdd, Int.reduceMul, rc]
  refine (Try.mustMatrix_f m C h).mat.callMat (mi_vals _) 0 (viewL_cons_of (view_int) (viewL_cons_of (view_row) viewL_nil_of)) ?_
  simp (disch := omega) only [Try.ntmps74, Try.results74, go_sem, Nat.reduceLT, Nat.reduceLeDiff, Nat.reduceEqDiff, Nat.reduceAdd, Nat.reduceSub, Nat.reduceMul, reduceIte, ↓reduceIte, reduceCtorEq, Int.reduceToNat, Int.reduceLE, Int.reduceLT, Int.reduceNeg, Int.reduceSub, Int.reduceAdd, Int.reduceMul, rc, hl]
  refine w3.callOne (ints_vals _) 2 (viewL_cons_of (view_mi .self hl.symm) viewL_nil_of) ?_
  simp (disch := omega) only [Try.ntmps74, Try.results74, go_sem, Nat.reduceLT, Nat.reduceLeDiff, Nat.reduceEqDiff, Nat.reduceAdd, Nat.reduceSub, Nat.reduceMul, reduceIte, ↓reduceIte, reduceCtorEq, Int.reduceToNat, Int.reduceLE, Int.reduceLT, Int.reduceNeg, Int.reduceSub, Int.reduceAdd, Int.reduceMul, rc]
  exact fin_ints must_ok.len.symm (by rw [hx_map, xmap_blk, if_pos rfl])
theorem Try.implMust_nil (n : Int) (C : List Con) (hC : C.length ≤ 1048576) (h : areCons n C = false) : FCall Try.prog 74 [.val (.int .i64 n), rc C] (fun r _ => r = .val (.slice none 0 0)) := by
  have w1 := Try.implAreConstraints_ok n C hC
  rw [h] at w1
  refine FCall.of_body Try.func74 rfl (by kernel_rfl) (by simp [Try.ntmps74]) ?_
  refine SW_of_vc Try.mixed _ _ _ (by kernel_rfl) ?_
  simp (disch := omega) only [Try.ntmps74, Try.results74, go_sem, Nat.reduceLT, Nat.reduceLeDiff, Nat.reduceEqDiff, Nat.reduceAdd, Nat.reduceSub, Nat.reduceMul, reduceIte, ↓reduceIte, reduceCtorEq, Int.reduceToNat, Int.reduceLE, Int.reduceLT, Int.reduceNeg, Int.reduceSub, Int.reduceAdd, Int.reduceMul, rc]
  refine w1.callV 0 (viewL_cons_of (view_int) (viewL_cons_of (view_row) viewL_nil_of)) ?_
  simp (disch := omega) only [Try.ntmps74, Try.results74, go_sem, Nat.reduceLT, Nat.reduceLeDiff, Nat.reduceEqDiff, Nat.reduceAdd, Nat.reduceSub, Nat.reduceMul, reduceIte, ↓reduceIte, reduceCtorEq, Int.reduceToNat, Int.reduceLE, Int.reduceLT, Int.reduceNeg, Int.reduceSub, Int.reduceAdd, Int.reduceMul, rc]
  exact Fin.val rfl
theorem Try.implMust_one (n : Int) (C : List Con) (hC : C.length ≤ 1048576) (h : areCons n C = true) : FCall Try.prog 74 [.val (.int .i64 n), rc C] (OneRes n.toNat 1 (ints (must n C))) := (Try.implMust_f n C hC h).one
theorem Try.implMust_ok (n : Int) (C : List Con) (hC : C.length ≤ 1048576) : PCall Try.prog 74 [.val (.int .i64 n), rc C] (ri (must n C)) := by
  rcases Bool.eq_false_or_eq_true (areCons n C) with h | h
  · exact (Try.implMust_f n C hC h).pcall 2 (fun _ _ h => flat_view h)
  · rw [must_f h]; exact (Try.implMust_nil n C hC h).pcall 0 (by rintro r H rfl; exact view_nil)
end Go.Sh

/-
  Contracts: the components of the must-link constraints, of the reference.
-/
namespace Go.Sh
set_option linter.unusedSimpArgs false
set_option linter.unusedVariables false
open Go Go.Proofs

set_option maxHeartbeats 4000000 in
theorem Try.specMust_f (n : Int) (C : List Con) (hC : C.length ≤ 1048576) (h : areCons n C = true) : FCall Try.prog 75 [.val (.int .i64 n), rc C] (FlatRes n.toNat 1 (ints (must n C))) := by
  obtain ⟨⟨n1, n2⟩, hC10, hg⟩ := areCons_t h
  obtain ⟨m, rfl⟩ := Int.eq_ofNat_of_zero_le (by omega : 0 ≤ n)
  have w1 := Try.specAreConstraints_ok m C hC (by omega) (by omega)
  rw [h] at w1
  have lC := cons_length C
  rw [must_t h, Int.toNat_natCast]
  refine FCall.of_body Try.func75 rfl (by kernel_rfl) (by simp [Try.ntmps75]) ?_
  refine SW_of_vc Try.mixed _ _ _ (by kernel_rfl) ?_
  simp (disch := omega) only [Try.ntmps75, Try.results75, go_sem, Nat.reduceLT, Nat.reduceLeDiff, Nat.reduceEqDiff, Nat.reduceAdd, Nat.reduceSub, Nat.reduceMul, reduceIte, ↓reduceIte, reduceCtorEq, Int.reduceToNat, Int.reduceLE, Int.reduceLT, Int.reduceNeg, Int.reduceSub, Int.reduceAdd, Int.reduceMul, rc]
  refine w1.callV 0 (viewL_cons_of (view_int) (viewL_cons_of (view_row) viewL_nil_of)) ?_
  simp (disch := omega) only [Try.ntmps75, Try.results75, go_sem, Nat.reduceLT, Nat.reduceLeDiff, Nat.reduceEqDiff, Nat.reduceAdd, Nat.reduceSub, Nat.reduceMul, reduceIte, ↓reduceIte, reduceCtorEq, Int.reduceToNat, Int.reduceLE, Int.reduceLT, Int.reduceNeg, Int.reduceSub, Int.reduceAdd, Int.reduceMul, rc]
  refine (Try.l17Links_one m (by omega)).callMat (mb_vals _) 0 (viewL_cons_of (view_int) viewL_nil_of) ?_
  simp (disch := omega) only [Try.ntmps75, Try.results75, go_sem, Nat.reduceLT, Nat.reduceLeDiff, Nat.reduceEqDiff, Nat.reduceAdd, Nat.reduceSub, Nat.reduceMul, reduceIte, ↓reduceIte, reduceCtorEq, Int.reduceToNat, Int.reduceLE, Int.reduceLT, Int.reduceNeg, Int.reduceSub, Int.reduceAdd, Int.reduceMul, rc, bz_length]
  refine LoopW.loop (fun p : Nat × List (List Bool) => ⟨ofL [(0, .val (.int .i64 m)), (1, rc C), (5, .own 0 0 m m 1 false), (6, .val (.int .i64 p.1))], hx [.mat 0 (mb p.2)] (m + 1)⟩)
    (fun p => p.1 ≤ C.length ∧ Sq m p.2 ∧ ∀ x y, x < m → y < m → bmat p.2 x y = mustB (C.take p.1) x y) (fun p => C.length - p.1) (0, bz m) ⟨by simp, .bz _, fun x y _ _ => by simpa [mustB] using bz_at⟩
    (Wk.ofX (by simp only [go_sem, ↓List.forall_mem_cons, List.not_mem_nil, false_implies, implies_true, and_true, true_and, and_self, Nat.reduceEqDiff, reduceIte, ↓reduceIte, ri_eq, Int.natCast_add, Int.cast_ofNat_Int, rc]; try simp) (by simp only [List.forall_mem_cons]; exact ⟨.self, by simp⟩) (Nat.le_refl _)) ?_
  rintro ⟨k, X⟩ ⟨hk, hX, hXX⟩
  simp only at hk hX hXX
  have hX1 := hX.1
  refine SW_of_vc Try.mixed _ _ _ (by kernel_rfl) ?_
  by_cases hlt : k < C.length
  · obtain ⟨x, y, s, hc, hxy, hyn⟩ := con_nat h hlt
    have hy : y < m := by omega
    have hx : x < m := by omega
    obtain ⟨q0, q1, q2, q3⟩ := cons_of hlt hc
    have hsucc := mustB_succ hlt
    rw [hc] at hsucc
    have r1 := hX.2 x hx
    have r2 := hX.2 y hy
    have l2 : (bset X x y true).length = m := by rw [bset_length, hX1]
    have r3 : (brow (bset X x y true) y).length = m := by rw [bset_row_length, r2]
    cases s with
    | true =>
      have hnew : ∀ a b, a < m → b < m → bmat (bset (bset X x y true) y x true) a b = mustB (C.take (k + 1)) a b := by
        intro a b ha hb
        rw [bset_at _ _ _ _ (by omega) (by omega), bset_at _ _ _ _ (by omega) (by omega), hXX a b ha hb, hsucc, linkB_at]
        by_cases e1 : a = y ∧ b = x
        · have : (decide (x = a ∧ y = b) || decide (x = b ∧ y = a)) = true := by simp; omega
          rw [if_pos e1, this]; simp
        · rw [if_neg e1]
          by_cases e2 : a = x ∧ b = y
          · have : (decide (x = a ∧ y = b) || decide (x = b ∧ y = a)) = true := by simp; omega
            rw [if_pos e2, this]; simp
          · have : (decide (x = a ∧ y = b) || decide (x = b ∧ y = a)) = false := by simp; omega
            rw [if_neg e2, this]; simp
      simp (disch := omega) only [Try.ntmps75, Try.results75, go_sem, Nat.reduceLT, Nat.reduceLeDiff, Nat.reduceEqDiff, Nat.reduceAdd, Nat.reduceSub, Nat.reduceMul, reduceIte, ↓reduceIte, reduceCtorEq, Int.reduceToNat, Int.reduceLE, Int.reduceLT, Int.reduceNeg, Int.reduceSub, Int.reduceAdd, Int.reduceMul, rc, q0, q1, q2, lC, outerB_getB, xmap_skipB, xmap_rowB, xset_rowB, xset_skipB, r1, r2, r3, bools_set]
      refine ⟨(k + 1, bset (bset X x y true) y x true), ⟨hlt, (hX.set _ _ _).set _ _ _, hnew⟩, by show C.length - (k + 1) < C.length - k; omega, ?_⟩
      exact Wk.ofX (by simp only [go_sem, ↓List.forall_mem_cons, List.not_mem_nil, false_implies, implies_true, and_true, true_and, and_self, Nat.reduceEqDiff, reduceIte, ↓reduceIte, ri_eq, Int.natCast_add, Int.cast_ofNat_Int, rc]; try simp) (by simp only [List.forall_mem_cons]; exact ⟨.self, by simp⟩) (Nat.le_refl _)
    | false =>
      have hnew : ∀ a b, a < m → b < m → bmat X a b = mustB (C.take (k + 1)) a b := by
        intro a b ha hb
        rw [hXX a b ha hb, hsucc, linkB_at]; simp
      simp (disch := omega) only [Try.ntmps75, Try.results75, go_sem, Nat.reduceLT, Nat.reduceLeDiff, Nat.reduceEqDiff, Nat.reduceAdd, Nat.reduceSub, Nat.reduceMul, reduceIte, ↓reduceIte, reduceCtorEq, Int.reduceToNat, Int.reduceLE, Int.reduceLT, Int.reduceNeg, Int.reduceSub, Int.reduceAdd, Int.reduceMul, rc, q0, q1, q2, lC]
      refine ⟨(k + 1, X), ⟨hlt, hX, hnew⟩, by show C.length - (k + 1) < C.length - k; omega, ?_⟩
      exact Wk.ofX (by simp only [go_sem, ↓List.forall_mem_cons, List.not_mem_nil, false_implies, implies_true, and_true, true_and, and_self, Nat.reduceEqDiff, reduceIte, ↓reduceIte, ri_eq, Int.natCast_add, Int.cast_ofNat_Int, rc]; try simp) (by simp only [List.forall_mem_cons]; exact ⟨.self, by simp⟩) (Nat.le_refl _)
  · obtain rfl : k = C.length := by omega
    rw [List.take_length] at hXX
    have w := Try.l17Labels_f m X (by omega) hX.1 hX.2 (fun x y hx hy h => by rw [hXX y x hy hx, mustB_sym]; rw [hXX x y hx hy] at h; exact h)
    have w2 : FCall Try.prog 143 [.val (.int .i64 m), rb X] (FlatRes m 1 (ints (comp m (mustB C)))) := w.mono fun r H ⟨h1, h2⟩ => by
      rw [(h1.congr hXX).eq] at h2; exact h2
    simp (disch := omega) only [Try.ntmps75, Try.results75, go_sem, Nat.reduceLT, Nat.reduceLeDiff, Nat.reduceEqDiff, Nat.reduceAdd, Nat.reduceSub, Nat.reduceMul, reduceIte, ↓reduceIte, reduceCtorEq, Int.reduceToNat, Int.reduceLE, Int.reduceLT, Int.reduceNeg, Int.reduceSub, Int.reduceAdd, Int.reduceMul, rc]
    refine w2.one.callOne (ints_vals _) 2 (viewL_cons_of view_int (viewL_cons_of (view_mb .self hX.1.symm) viewL_nil_of)) ?_
    simp (disch := omega) only [Try.ntmps75, Try.results75, go_sem, Nat.reduceLT, Nat.reduceLeDiff, Nat.reduceEqDiff, Nat.reduceAdd, Nat.reduceSub, Nat.reduceMul, reduceIte, ↓reduceIte, reduceCtorEq, Int.reduceToNat, Int.reduceLE, Int.reduceLT, Int.reduceNeg, Int.reduceSub, Int.reduceAdd, Int.reduceMul, rc]
    exact fin_ints must_ok.len.symm (by rw [hx_map, xmap_blk, if_pos rfl])
theorem Try.specMust_not (n : Int) (C : List Con) (hC : C.length ≤ 1048576) (g1 : -9223372036854775808 ≤ n) (g2 : n ≤ 9223372036854775807) (h : areCons n C = false) : FCall Try.prog 75 [.val (.int .i64 n), rc C] (FlatRes 0 1 (ints [])) := by
  have w1 := Try.specAreConstraints_ok n C hC g1 g2
  rw [h] at w1
  refine FCall.of_body Try.func75 rfl (by kernel_rfl) (by simp [Try.ntmps75]) ?_
  refine SW_of_vc Try.mixed _ _ _ (by kernel_rfl) ?_
  simp (disch := omega) only [Try.ntmps75, Try.results75, go_sem, Nat.reduceLT, Nat.reduceLeDiff, Nat.reduceEqDiff, Nat.reduceAdd, Nat.reduceSub, Nat.reduceMul, reduceIte, ↓reduceIte, reduceCtorEq, Int.reduceToNat, Int.reduceLE, Int.reduceLT, Int.reduceNeg, Int.reduceSub, Int.reduceAdd, Int.reduceMul, rc]
  refine w1.callV 0 (viewL_cons_of (view_int) (viewL_cons_of (view_row) viewL_nil_of)) ?_
  simp (disch := omega) only [Try.ntmps75, Try.results75, go_sem, Nat.reduceLT, Nat.reduceLeDiff, Nat.reduceEqDiff, Nat.reduceAdd, Nat.reduceSub, Nat.reduceMul, reduceIte, ↓reduceIte, reduceCtorEq, Int.reduceToNat, Int.reduceLE, Int.reduceLT, Int.reduceNeg, Int.reduceSub, Int.reduceAdd, Int.reduceMul, rc]
  exact fin_ints (L := []) (b := 0) (e2 := false) rfl rfl
theorem Try.specMust_ok (n : Int) (C : List Con) (hC : C.length ≤ 1048576) (g1 : -9223372036854775808 ≤ n) (g2 : n ≤ 9223372036854775807) : PCall Try.prog 75 [.val (.int .i64 n), rc C] (ri (must n C)) := by
  rcases Bool.eq_false_or_eq_true (areCons n C) with h | h
  · exact (Try.specMust_f n C hC h).pcall 2 (fun _ _ h => flat_view h)
  · rw [must_f h]; exact (Try.specMust_not n C hC g1 g2 h).pcall 2 (fun _ _ h => flat_view h)
end Go.Sh
