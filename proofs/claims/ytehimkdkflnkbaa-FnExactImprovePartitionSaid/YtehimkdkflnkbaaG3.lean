/-
  Contracts: does a partition keep constraints? Of the reference and of the program.
-/
import Derived.Test.YtehimkdkflnkbaaG2
import Derived.Test.YtehimkdkflnkbaaD2
namespace Go.Sh
set_option linter.unusedSimpArgs false
set_option linter.unusedVariables false
open Go Go.Proofs

def kp (L : List Int) (c : Con) : Bool := inR c.1 0 ((L.length : Int) - 1) && (inR c.2.1 0 ((L.length : Int) - 1) && (decide (L.getD c.1.toNat 0 = L.getD c.2.1.toNat 0) == c.2.2))

set_option maxHeartbeats 1000000 in
theorem Try.keepsFn_ok (L : List Int) (a b : Int) (s : Bool) (hL : L.length ≤ 1048576) :
    PCall Try.prog 135 [.agg [.val (.int .i64 a), .val (.int .i64 b), .val (.bool s)], .rptr [ri L] 0] (.val (.bool (!kp L (a, b, s)))) := by
  refine FCall.pcall (R := fun r _ => r = .val (.bool (!kp L (a, b, s)))) ?_ 0 (by rintro r H rfl; exact view_bool)
  refine FCall.of_body Try.func135 rfl (by kernel_rfl) (by simp [Try.ntmps135]) ?_
  refine SW_of_vc Try.mixed _ _ _ (by kernel_rfl) ?_
  have w1 := Try.isItem_ok a (L.length : Int) (by omega) (by omega)
  have w2 := Try.isItem_ok b (L.length : Int) (by omega) (by omega)
  rcases Bool.eq_false_or_eq_true (inR a 0 ((L.length : Int) - 1)) with ha | ha
  · obtain ⟨a1, a2⟩ := inR_of ha
    rcases Bool.eq_false_or_eq_true (inR b 0 ((L.length : Int) - 1)) with hb | hb
    · obtain ⟨b1, b2⟩ := inR_of hb
      rw [ha] at w1
      rw [hb] at w2
      by_cases he : L.getD a.toNat 0 = L.getD b.toNat 0
      · cases s <;> (simp (disch := omega) only [Try.ntmps135, Try.results135, go_sem, Nat.reduceLT, Nat.reduceLeDiff, Nat.reduceEqDiff, Nat.reduceAdd, Nat.reduceSub, Nat.reduceMul, reduceIte, ↓reduceIte, reduceCtorEq, Int.reduceToNat, Int.reduceLE, Int.reduceLT, Int.reduceNeg, Int.reduceSub, Int.reduceAdd, Int.reduceMul]; refine w1.callDV 0 (viewL_cons_of (view_int) (viewL_cons_of (view_int) viewL_nil_of)) ?_; simp (disch := omega) only [Try.ntmps135, Try.results135, go_sem, Nat.reduceLT, Nat.reduceLeDiff, Nat.reduceEqDiff, Nat.reduceAdd, Nat.reduceSub, Nat.reduceMul, reduceIte, ↓reduceIte, reduceCtorEq, Int.reduceToNat, Int.reduceLE, Int.reduceLT, Int.reduceNeg, Int.reduceSub, Int.reduceAdd, Int.reduceMul]; refine w2.callDV 0 (viewL_cons_of (view_int) (viewL_cons_of (view_int) viewL_nil_of)) ?_; simp (disch := omega) only [Try.ntmps135, Try.results135, go_sem, Nat.reduceLT, Nat.reduceLeDiff, Nat.reduceEqDiff, Nat.reduceAdd, Nat.reduceSub, Nat.reduceMul, reduceIte, ↓reduceIte, reduceCtorEq, Int.reduceToNat, Int.reduceLE, Int.reduceLT, Int.reduceNeg, Int.reduceSub, Int.reduceAdd, Int.reduceMul, he]; exact Fin.val (by rw [kp]; simp only [ha, hb, he]; simp))
      · cases s <;> (simp (disch := omega) only [Try.ntmps135, Try.results135, go_sem, Nat.reduceLT, Nat.reduceLeDiff, Nat.reduceEqDiff, Nat.reduceAdd, Nat.reduceSub, Nat.reduceMul, reduceIte, ↓reduceIte, reduceCtorEq, Int.reduceToNat, Int.reduceLE, Int.reduceLT, Int.reduceNeg, Int.reduceSub, Int.reduceAdd, Int.reduceMul]; refine w1.callDV 0 (viewL_cons_of (view_int) (viewL_cons_of (view_int) viewL_nil_of)) ?_; simp (disch := omega) only [Try.ntmps135, Try.results135, go_sem, Nat.reduceLT, Nat.reduceLeDiff, Nat.reduceEqDiff, Nat.reduceAdd, Nat.reduceSub, Nat.reduceMul, reduceIte, ↓reduceIte, reduceCtorEq, Int.reduceToNat, Int.reduceLE, Int.reduceLT, Int.reduceNeg, Int.reduceSub, Int.reduceAdd, Int.reduceMul]; refine w2.callDV 0 (viewL_cons_of (view_int) (viewL_cons_of (view_int) viewL_nil_of)) ?_; simp (disch := omega) only [Try.ntmps135, Try.results135, go_sem, Nat.reduceLT, Nat.reduceLeDiff, Nat.reduceEqDiff, Nat.reduceAdd, Nat.reduceSub, Nat.reduceMul, reduceIte, ↓reduceIte, reduceCtorEq, Int.reduceToNat, Int.reduceLE, Int.reduceLT, Int.reduceNeg, Int.reduceSub, Int.reduceAdd, Int.reduceMul]; exact Fin.val (by rw [kp]; simp only [ha, hb, he]; simp))
    · rw [ha] at w1
      rw [hb] at w2
      simp (disch := omega) only [Try.ntmps135, Try.results135, go_sem, Nat.reduceLT, Nat.reduceLeDiff, Nat.reduceEqDiff, Nat.reduceAdd, Nat.reduceSub, Nat.reduceMul, reduceIte, ↓reduceIte, reduceCtorEq, Int.reduceToNat, Int.reduceLE, Int.reduceLT, Int.reduceNeg, Int.reduceSub, Int.reduceAdd, Int.reduceMul]
      refine w1.callDV 0 (viewL_cons_of (view_int) (viewL_cons_of (view_int) viewL_nil_of)) ?_
      simp (disch := omega) only [Try.ntmps135, Try.results135, go_sem, Nat.reduceLT, Nat.reduceLeDiff, Nat.reduceEqDiff, Nat.reduceAdd, Nat.reduceSub, Nat.reduceMul, reduceIte, ↓reduceIte, reduceCtorEq, Int.reduceToNat, Int.reduceLE, Int.reduceLT, Int.reduceNeg, Int.reduceSub, Int.reduceAdd, Int.reduceMul]
      refine w2.callDV 0 (viewL_cons_of (view_int) (viewL_cons_of (view_int) viewL_nil_of)) ?_
      simp (disch := omega) only [Try.ntmps135, Try.results135, go_sem, Nat.reduceLT, Nat.reduceLeDiff, Nat.reduceEqDiff, Nat.reduceAdd, Nat.reduceSub, Nat.reduceMul, reduceIte, ↓reduceIte, reduceCtorEq, Int.reduceToNat, Int.reduceLE, Int.reduceLT, Int.reduceNeg, Int.reduceSub, Int.reduceAdd, Int.reduceMul]
      exact Fin.val (by simp [kp, hb])
  · rw [ha] at w1
    simp (disch := omega) only [Try.ntmps135, Try.results135, go_sem, Nat.reduceLT, Nat.reduceLeDiff, Nat.reduceEqDiff, Nat.reduceAdd, Nat.reduceSub, Nat.reduceMul, reduceIte, ↓reduceIte, reduceCtorEq, Int.reduceToNat, Int.reduceLE, Int.reduceLT, Int.reduceNeg, Int.reduceSub, Int.reduceAdd, Int.reduceMul]
    refine w1.callDV 0 (viewL_cons_of (view_int) (viewL_cons_of (view_int) viewL_nil_of)) ?_
    simp (disch := omega) only [Try.ntmps135, Try.results135, go_sem, Nat.reduceLT, Nat.reduceLeDiff, Nat.reduceEqDiff, Nat.reduceAdd, Nat.reduceSub, Nat.reduceMul, reduceIte, ↓reduceIte, reduceCtorEq, Int.reduceToNat, Int.reduceLE, Int.reduceLT, Int.reduceNeg, Int.reduceSub, Int.reduceAdd, Int.reduceMul]
    exact Fin.val (by simp [kp, ha])

theorem Try.keeps_ok (L : List Int) (C : List Con) (hL : L.length ≤ 1048576) (hC : C.length ≤ 1048576) : PCall Try.prog 104 [ri L, rc C] (.val (.bool (C.all (kp L)))) := by
  refine FCall.pcall (R := fun r _ => r = .val (.bool (C.all (kp L)))) ?_ 0 (by rintro r H rfl; exact view_bool)
  refine FCall.of_body Try.func104 rfl (by kernel_rfl) (by simp [Try.ntmps104]) ?_
  refine SW_of_vc Try.mixed _ _ _ (by kernel_rfl) ?_
  simp (disch := omega) only [Try.ntmps104, Try.results104, go_sem, Nat.reduceLT, Nat.reduceLeDiff, Nat.reduceEqDiff, Nat.reduceAdd, Nat.reduceSub, Nat.reduceMul, reduceIte, ↓reduceIte, reduceCtorEq, Int.reduceToNat, Int.reduceLE, Int.reduceLT, Int.reduceNeg, Int.reduceSub, Int.reduceAdd, Int.reduceMul, rc]
  refine (Try.containsFunc_ok 135 [.rptr [ri L] 0] C (fun c => !kp L c) hC (cap_rptr _ _) (fun a b s => Try.keepsFn_ok L a b s hL)).callV 2
    (viewL_cons_of view_row (viewL_cons_of (view_clos (viewL_cons_of (view_optr rfl (viewL_cons_of (view_rowL rfl) viewL_nil_of)) viewL_nil_of)) viewL_nil_of)) ?_
  simp (disch := omega) only [Try.ntmps104, Try.results104, go_sem, Nat.reduceLT, Nat.reduceLeDiff, Nat.reduceEqDiff, Nat.reduceAdd, Nat.reduceSub, Nat.reduceMul, reduceIte, ↓reduceIte, reduceCtorEq, Int.reduceToNat, Int.reduceLE, Int.reduceLT, Int.reduceNeg, Int.reduceSub, Int.reduceAdd, Int.reduceMul]
  exact Fin.val (by rw [not_any_not])

set_option maxHeartbeats 4000000 in
theorem Try.specKeepsConstraints_ok (L : List Int) (C : List Con) (hL : L.length ≤ 1048576) (hC : C.length ≤ 1048576) : PCall Try.prog 98 [ri L, rc C] (.val (.bool (isPart L && C.all (kp L)))) := by
  refine FCall.pcall (R := fun r _ => r = .val (.bool (isPart L && C.all (kp L)))) ?_ 0 (by rintro r H rfl; exact view_bool)
  refine FCall.of_body Try.func98 rfl (by kernel_rfl) (by simp [Try.ntmps98]) ?_
  refine SW_of_vc Try.mixed _ _ _ (by kernel_rfl) ?_
  have lC := cons_length C
  simp (disch := omega) only [Try.ntmps98, Try.results98, go_sem, Nat.reduceLT, Nat.reduceLeDiff, Nat.reduceEqDiff, Nat.reduceAdd, Nat.reduceSub, Nat.reduceMul, reduceIte, ↓reduceIte, reduceCtorEq, Int.reduceToNat, Int.reduceLE, Int.reduceLT, Int.reduceNeg, Int.reduceSub, Int.reduceAdd, Int.reduceMul, rc]
  have hbad : ∀ k, k < C.length → kp L (cg C k) = false → (isPart L && C.all (kp L)) = false := by
    intro k hk hg
    have : C.all (kp L) = false := by
      rw [List.all_eq_false]
      exact ⟨C[k], List.getElem_mem hk, by simpa [cg, hk] using hg⟩
    simp [this]
  refine LoopW.loop (fun k : Nat => ⟨ofL [(0, ri L), (1, rc C), (5, .val (.int .i64 k))], hp [] 0⟩) (fun k => k ≤ C.length ∧ (∀ i, i < k → kp L (cg C i) = true)) (fun k => C.length - k) 0 ⟨by omega, by simp⟩ (Wk.of (by simp only [go_sem, ↓List.forall_mem_cons, List.not_mem_nil, false_implies, implies_true, and_true, true_and, and_self, Nat.reduceEqDiff, reduceIte, ↓reduceIte, ri_eq, Int.natCast_add, Int.cast_ofNat_Int, rc]; try simp) rfl) ?_
  rintro k ⟨hk, hkk⟩
  refine SW_of_vc Try.mixed _ _ _ (by kernel_rfl) ?_
  by_cases hlt : k < C.length
  · obtain ⟨a, b, s, hc⟩ := con_ex C k
    obtain ⟨q0, q1, q2, _⟩ := cons_of hlt hc
    have w1 := Try.l1In_ok a 0 ((L.length : Int) - 1)
    have w2 := Try.l1In_ok b 0 ((L.length : Int) - 1)
    have hb0 := hbad k hlt
    rw [hc] at hb0
    rcases Bool.eq_false_or_eq_true (inR a 0 ((L.length : Int) - 1)) with ha | ha
    · obtain ⟨a1, a2⟩ := inR_of ha
      rcases Bool.eq_false_or_eq_true (inR b 0 ((L.length : Int) - 1)) with hb | hb
      · obtain ⟨b1, b2⟩ := inR_of hb
        rw [ha] at w1
        rw [hb] at w2
        by_cases hs : (decide (L.getD a.toNat 0 = L.getD b.toNat 0) == s) = true
        · have hkp : kp L (a, b, s) = true := by rw [kp]; simp only [ha, hb, hs]; rfl
          have hnew : ∀ i, i < k + 1 → kp L (cg C i) = true := by
            intro i hi
            rcases Nat.lt_succ_iff_lt_or_eq.mp hi with h' | rfl
            · exact hkk i h'
            · rw [hc]; exact hkp
          by_cases he : L.getD a.toNat 0 = L.getD b.toNat 0
          · obtain rfl : s = true := by
              rw [decide_eq_true he] at hs
              cases s with
              | false => cases hs
              | true => rfl
            simp (disch := omega) only [Try.ntmps98, Try.results98, go_sem, Nat.reduceLT, Nat.reduceLeDiff, Nat.reduceEqDiff, Nat.reduceAdd, Nat.reduceSub, Nat.reduceMul, reduceIte, ↓reduceIte, reduceCtorEq, Int.reduceToNat, Int.reduceLE, Int.reduceLT, Int.reduceNeg, Int.reduceSub, Int.reduceAdd, Int.reduceMul, rc, q0, q1, q2]
            refine w1.callDV 0 (viewL_cons_of (view_int) (viewL_cons_of (view_int) (viewL_cons_of (view_int) viewL_nil_of))) ?_
            simp (disch := omega) only [Try.ntmps98, Try.results98, go_sem, Nat.reduceLT, Nat.reduceLeDiff, Nat.reduceEqDiff, Nat.reduceAdd, Nat.reduceSub, Nat.reduceMul, reduceIte, ↓reduceIte, reduceCtorEq, Int.reduceToNat, Int.reduceLE, Int.reduceLT, Int.reduceNeg, Int.reduceSub, Int.reduceAdd, Int.reduceMul, rc, q0, q1, q2]
            refine w2.callDV 0 (viewL_cons_of (view_int) (viewL_cons_of (view_int) (viewL_cons_of (view_int) viewL_nil_of))) ?_
            simp (disch := omega) only [Try.ntmps98, Try.results98, go_sem, Nat.reduceLT, Nat.reduceLeDiff, Nat.reduceEqDiff, Nat.reduceAdd, Nat.reduceSub, Nat.reduceMul, reduceIte, ↓reduceIte, reduceCtorEq, Int.reduceToNat, Int.reduceLE, Int.reduceLT, Int.reduceNeg, Int.reduceSub, Int.reduceAdd, Int.reduceMul, rc, q0, q1, q2, he]
            exact ⟨k + 1, ⟨by omega, hnew⟩, by omega, Wk.of (by simp only [go_sem, ↓List.forall_mem_cons, List.not_mem_nil, false_implies, implies_true, and_true, true_and, and_self, Nat.reduceEqDiff, reduceIte, ↓reduceIte, ri_eq, Int.natCast_add, Int.cast_ofNat_Int, rc]; try simp) rfl⟩
          · obtain rfl : s = false := by
              rw [decide_eq_false he] at hs
              cases s with
              | false => rfl
              | true => cases hs
            simp (disch := omega) only [Try.ntmps98, Try.results98, go_sem, Nat.reduceLT, Nat.reduceLeDiff, Nat.reduceEqDiff, Nat.reduceAdd, Nat.reduceSub, Nat.reduceMul, reduceIte, ↓reduceIte, reduceCtorEq, Int.reduceToNat, Int.reduceLE, Int.reduceLT, Int.reduceNeg, Int.reduceSub, Int.reduceAdd, Int.reduceMul, rc, q0, q1, q2]
            refine w1.callDV 0 (viewL_cons_of (view_int) (viewL_cons_of (view_int) (viewL_cons_of (view_int) viewL_nil_of))) ?_
            simp (disch := omega) only [Try.ntmps98, Try.results98, go_sem, Nat.reduceLT, Nat.reduceLeDiff, Nat.reduceEqDiff, Nat.reduceAdd, Nat.reduceSub, Nat.reduceMul, reduceIte, ↓reduceIte, reduceCtorEq, Int.reduceToNat, Int.reduceLE, Int.reduceLT, Int.reduceNeg, Int.reduceSub, Int.reduceAdd, Int.reduceMul, rc, q0, q1, q2]
            refine w2.callDV 0 (viewL_cons_of (view_int) (viewL_cons_of (view_int) (viewL_cons_of (view_int) viewL_nil_of))) ?_
            simp (disch := omega) only [Try.ntmps98, Try.results98, go_sem, Nat.reduceLT, Nat.reduceLeDiff, Nat.reduceEqDiff, Nat.reduceAdd, Nat.reduceSub, Nat.reduceMul, reduceIte, ↓reduceIte, reduceCtorEq, Int.reduceToNat, Int.reduceLE, Int.reduceLT, Int.reduceNeg, Int.reduceSub, Int.reduceAdd, Int.reduceMul, rc, q0, q1, q2]
            exact ⟨k + 1, ⟨by omega, hnew⟩, by omega, Wk.of (by simp only [go_sem, ↓List.forall_mem_cons, List.not_mem_nil, false_implies, implies_true, and_true, true_and, and_self, Nat.reduceEqDiff, reduceIte, ↓reduceIte, ri_eq, Int.natCast_add, Int.cast_ofNat_Int, rc]; try simp) rfl⟩
        · have hs : (decide (L.getD a.toNat 0 = L.getD b.toNat 0) == s) = false := by simpa using hs
          have hkp : kp L (a, b, s) = false := by rw [kp]; simp only [hs, Bool.and_false]
          by_cases he : L.getD a.toNat 0 = L.getD b.toNat 0
          · obtain rfl : s = false := by
              rw [decide_eq_true he] at hs
              cases s with
              | false => rfl
              | true => cases hs
            simp (disch := omega) only [Try.ntmps98, Try.results98, go_sem, Nat.reduceLT, Nat.reduceLeDiff, Nat.reduceEqDiff, Nat.reduceAdd, Nat.reduceSub, Nat.reduceMul, reduceIte, ↓reduceIte, reduceCtorEq, Int.reduceToNat, Int.reduceLE, Int.reduceLT, Int.reduceNeg, Int.reduceSub, Int.reduceAdd, Int.reduceMul, rc, q0, q1, q2]
            refine w1.callDV 0 (viewL_cons_of (view_int) (viewL_cons_of (view_int) (viewL_cons_of (view_int) viewL_nil_of))) ?_
            simp (disch := omega) only [Try.ntmps98, Try.results98, go_sem, Nat.reduceLT, Nat.reduceLeDiff, Nat.reduceEqDiff, Nat.reduceAdd, Nat.reduceSub, Nat.reduceMul, reduceIte, ↓reduceIte, reduceCtorEq, Int.reduceToNat, Int.reduceLE, Int.reduceLT, Int.reduceNeg, Int.reduceSub, Int.reduceAdd, Int.reduceMul, rc, q0, q1, q2]
            refine w2.callDV 0 (viewL_cons_of (view_int) (viewL_cons_of (view_int) (viewL_cons_of (view_int) viewL_nil_of))) ?_
            simp (disch := omega) only [Try.ntmps98, Try.results98, go_sem, Nat.reduceLT, Nat.reduceLeDiff, Nat.reduceEqDiff, Nat.reduceAdd, Nat.reduceSub, Nat.reduceMul, reduceIte, ↓reduceIte, reduceCtorEq, Int.reduceToNat, Int.reduceLE, Int.reduceLT, Int.reduceNeg, Int.reduceSub, Int.reduceAdd, Int.reduceMul, rc, q0, q1, q2, he]
            exact Fin.val (by rw [hb0 hkp])
          · obtain rfl : s = true := by
              rw [decide_eq_false he] at hs
              cases s with
              | false => cases hs
              | true => rfl
            simp (disch := omega) only [Try.ntmps98, Try.results98, go_sem, Nat.reduceLT, Nat.reduceLeDiff, Nat.reduceEqDiff, Nat.reduceAdd, Nat.reduceSub, Nat.reduceMul, reduceIte, ↓reduceIte, reduceCtorEq, Int.reduceToNat, Int.reduceLE, Int.reduceLT, Int.reduceNeg, Int.reduceSub, Int.reduceAdd, Int.reduceMul, rc, q0, q1, q2]
            refine w1.callDV 0 (viewL_cons_of (view_int) (viewL_cons_of (view_int) (viewL_cons_of (view_int) viewL_nil_of))) ?_
            simp (disch := omega) only [Try.ntmps98, Try.results98, go_sem, Nat.reduceLT, Nat.reduceLeDiff, Nat.reduceEqDiff, Nat.reduceAdd, Nat.reduceSub, Nat.reduceMul, reduceIte, ↓reduceIte, reduceCtorEq, Int.reduceToNat, Int.reduceLE, Int.reduceLT, Int.reduceNeg, Int.reduceSub, Int.reduceAdd, Int.reduceMul, rc, q0, q1, q2]
            refine w2.callDV 0 (viewL_cons_of (view_int) (viewL_cons_of (view_int) (viewL_cons_of (view_int) viewL_nil_of))) ?_
            simp (disch := omega) only [Try.ntmps98, Try.results98, go_sem, Nat.reduceLT, Nat.reduceLeDiff, Nat.reduceEqDiff, Nat.reduceAdd, Nat.reduceSub, Nat.reduceMul, reduceIte, ↓reduceIte, reduceCtorEq, Int.reduceToNat, Int.reduceLE, Int.reduceLT, Int.reduceNeg, Int.reduceSub, Int.reduceAdd, Int.reduceMul, rc, q0, q1, q2]
            exact Fin.val (by rw [hb0 hkp])
      · have hkp : kp L (a, b, s) = false := by rw [kp]; simp only [hb, Bool.false_and, Bool.and_false]
        rw [ha] at w1
        rw [hb] at w2
        simp (disch := omega) only [Try.ntmps98, Try.results98, go_sem, Nat.reduceLT, Nat.reduceLeDiff, Nat.reduceEqDiff, Nat.reduceAdd, Nat.reduceSub, Nat.reduceMul, reduceIte, ↓reduceIte, reduceCtorEq, Int.reduceToNat, Int.reduceLE, Int.reduceLT, Int.reduceNeg, Int.reduceSub, Int.reduceAdd, Int.reduceMul, rc, q0, q1, q2]
        refine w1.callDV 0 (viewL_cons_of (view_int) (viewL_cons_of (view_int) (viewL_cons_of (view_int) viewL_nil_of))) ?_
        simp (disch := omega) only [Try.ntmps98, Try.results98, go_sem, Nat.reduceLT, Nat.reduceLeDiff, Nat.reduceEqDiff, Nat.reduceAdd, Nat.reduceSub, Nat.reduceMul, reduceIte, ↓reduceIte, reduceCtorEq, Int.reduceToNat, Int.reduceLE, Int.reduceLT, Int.reduceNeg, Int.reduceSub, Int.reduceAdd, Int.reduceMul, rc, q0, q1, q2]
        refine w2.callDV 0 (viewL_cons_of (view_int) (viewL_cons_of (view_int) (viewL_cons_of (view_int) viewL_nil_of))) ?_
        simp (disch := omega) only [Try.ntmps98, Try.results98, go_sem, Nat.reduceLT, Nat.reduceLeDiff, Nat.reduceEqDiff, Nat.reduceAdd, Nat.reduceSub, Nat.reduceMul, reduceIte, ↓reduceIte, reduceCtorEq, Int.reduceToNat, Int.reduceLE, Int.reduceLT, Int.reduceNeg, Int.reduceSub, Int.reduceAdd, Int.reduceMul, rc]
        exact Fin.val (by rw [hb0 hkp])
    · have hkp : kp L (a, b, s) = false := by rw [kp]; simp only [ha, Bool.false_and]
      rw [ha] at w1
      simp (disch := omega) only [Try.ntmps98, Try.results98, go_sem, Nat.reduceLT, Nat.reduceLeDiff, Nat.reduceEqDiff, Nat.reduceAdd, Nat.reduceSub, Nat.reduceMul, reduceIte, ↓reduceIte, reduceCtorEq, Int.reduceToNat, Int.reduceLE, Int.reduceLT, Int.reduceNeg, Int.reduceSub, Int.reduceAdd, Int.reduceMul, rc, q0, q1, q2]
      refine w1.callDV 0 (viewL_cons_of (view_int) (viewL_cons_of (view_int) (viewL_cons_of (view_int) viewL_nil_of))) ?_
      simp (disch := omega) only [Try.ntmps98, Try.results98, go_sem, Nat.reduceLT, Nat.reduceLeDiff, Nat.reduceEqDiff, Nat.reduceAdd, Nat.reduceSub, Nat.reduceMul, reduceIte, ↓reduceIte, reduceCtorEq, Int.reduceToNat, Int.reduceLE, Int.reduceLT, Int.reduceNeg, Int.reduceSub, Int.reduceAdd, Int.reduceMul, rc]
      exact Fin.val (by rw [hb0 hkp])
  · obtain rfl : k = C.length := by omega
    simp (disch := omega) only [Try.ntmps98, Try.results98, go_sem, Nat.reduceLT, Nat.reduceLeDiff, Nat.reduceEqDiff, Nat.reduceAdd, Nat.reduceSub, Nat.reduceMul, reduceIte, ↓reduceIte, reduceCtorEq, Int.reduceToNat, Int.reduceLE, Int.reduceLT, Int.reduceNeg, Int.reduceSub, Int.reduceAdd, Int.reduceMul, rc]
    refine (Try.specIsPartition_ok L hL).callV 0 (viewL_cons_of (view_rowL (by first | rfl | simp [marks_length, canon_length] | omega)) viewL_nil_of) ?_
    simp (disch := omega) only [Try.ntmps98, Try.results98, go_sem, Nat.reduceLT, Nat.reduceLeDiff, Nat.reduceEqDiff, Nat.reduceAdd, Nat.reduceSub, Nat.reduceMul, reduceIte, ↓reduceIte, reduceCtorEq, Int.reduceToNat, Int.reduceLE, Int.reduceLT, Int.reduceNeg, Int.reduceSub, Int.reduceAdd, Int.reduceMul, rc]
    have hall : C.all (kp L) = true := by
      rw [List.all_eq_true]
      intro c hc
      obtain ⟨i, hi, e⟩ := List.getElem_of_mem hc
      have := hkk i hi
      simpa [cg, hi, e] using this
    exact Fin.val (by rw [hall]; simp)
end Go.Sh
