/-
  Contracts: is a triangle bad? Of the reference and of the program; the law.
-/
import Derived.Test.YtehimkdkflnkbaaK4
namespace Go.Sh
set_option linter.unusedSimpArgs false
set_option linter.unusedVariables false
open Go Go.Proofs

noncomputable def isBT (M : List (List Int)) (a b c : Int) : Bool := isWM M && (triB M.length a b c && badB (mat M a.toNat b.toNat) (mat M a.toNat c.toNat) (mat M b.toNat c.toNat))

set_option maxHeartbeats 4000000 in
theorem Try.specIsBT_ok (M : List (List Int)) (a b c : Int) (hM : M.length ≤ 1048576) (hR : ∀ i, i < M.length → (mrow M i).length ≤ 1048576) : PCall Try.prog 123 [rr M, .val (.int .i64 a), .val (.int .i64 b), .val (.int .i64 c)] (.val (.bool (isBT M a b c))) := by
  refine FCall.pcall (R := fun r _ => r = .val (.bool (isBT M a b c))) ?_ 0 (by rintro r H rfl; exact view_bool)
  refine FCall.of_body Try.func123 rfl (by kernel_rfl) (by simp [Try.ntmps123]) ?_
  refine SW_of_vc Try.mixed _ _ _ (by kernel_rfl) ?_
  have w1 := Try.specIsWM_ok M hM hR
  have bad : triB M.length a b c = false → isBT M a b c = false := fun h => by rw [isBT, h, Bool.false_and, Bool.and_false]
  rcases Bool.eq_false_or_eq_true (isWM M) with h1 | h1
  · have hw := WM_of h1
    rw [h1] at w1
    by_cases t1 : a < 0
    · simp (disch := omega) only [Try.ntmps123, Try.results123, go_sem, Nat.reduceLT, Nat.reduceLeDiff, Nat.reduceEqDiff, Nat.reduceAdd, Nat.reduceSub, Nat.reduceMul, reduceIte, ↓reduceIte, reduceCtorEq, Int.reduceToNat, Int.reduceLE, Int.reduceLT, Int.reduceNeg, Int.reduceSub, Int.reduceAdd, Int.reduceMul, rr_eq]
      refine w1.callV 0 (viewL_cons_of (view_row) viewL_nil_of) ?_
      simp (disch := omega) only [Try.ntmps123, Try.results123, go_sem, Nat.reduceLT, Nat.reduceLeDiff, Nat.reduceEqDiff, Nat.reduceAdd, Nat.reduceSub, Nat.reduceMul, reduceIte, ↓reduceIte, reduceCtorEq, Int.reduceToNat, Int.reduceLE, Int.reduceLT, Int.reduceNeg, Int.reduceSub, Int.reduceAdd, Int.reduceMul, rr_eq]
      exact Fin.val (by rw [bad (decide_eq_false (by omega))])
    by_cases t2 : b ≤ a
    · simp (disch := omega) only [Try.ntmps123, Try.results123, go_sem, Nat.reduceLT, Nat.reduceLeDiff, Nat.reduceEqDiff, Nat.reduceAdd, Nat.reduceSub, Nat.reduceMul, reduceIte, ↓reduceIte, reduceCtorEq, Int.reduceToNat, Int.reduceLE, Int.reduceLT, Int.reduceNeg, Int.reduceSub, Int.reduceAdd, Int.reduceMul, rr_eq]
      refine w1.callV 0 (viewL_cons_of (view_row) viewL_nil_of) ?_
      simp (disch := omega) only [Try.ntmps123, Try.results123, go_sem, Nat.reduceLT, Nat.reduceLeDiff, Nat.reduceEqDiff, Nat.reduceAdd, Nat.reduceSub, Nat.reduceMul, reduceIte, ↓reduceIte, reduceCtorEq, Int.reduceToNat, Int.reduceLE, Int.reduceLT, Int.reduceNeg, Int.reduceSub, Int.reduceAdd, Int.reduceMul, rr_eq]
      exact Fin.val (by rw [bad (decide_eq_false (by omega))])
    by_cases t3 : c ≤ b
    · simp (disch := omega) only [Try.ntmps123, Try.results123, go_sem, Nat.reduceLT, Nat.reduceLeDiff, Nat.reduceEqDiff, Nat.reduceAdd, Nat.reduceSub, Nat.reduceMul, reduceIte, ↓reduceIte, reduceCtorEq, Int.reduceToNat, Int.reduceLE, Int.reduceLT, Int.reduceNeg, Int.reduceSub, Int.reduceAdd, Int.reduceMul, rr_eq]
      refine w1.callV 0 (viewL_cons_of (view_row) viewL_nil_of) ?_
      simp (disch := omega) only [Try.ntmps123, Try.results123, go_sem, Nat.reduceLT, Nat.reduceLeDiff, Nat.reduceEqDiff, Nat.reduceAdd, Nat.reduceSub, Nat.reduceMul, reduceIte, ↓reduceIte, reduceCtorEq, Int.reduceToNat, Int.reduceLE, Int.reduceLT, Int.reduceNeg, Int.reduceSub, Int.reduceAdd, Int.reduceMul, rr_eq]
      exact Fin.val (by rw [bad (decide_eq_false (by omega))])
    by_cases t4 : (M.length : Int) ≤ c
    · simp (disch := omega) only [Try.ntmps123, Try.results123, go_sem, Nat.reduceLT, Nat.reduceLeDiff, Nat.reduceEqDiff, Nat.reduceAdd, Nat.reduceSub, Nat.reduceMul, reduceIte, ↓reduceIte, reduceCtorEq, Int.reduceToNat, Int.reduceLE, Int.reduceLT, Int.reduceNeg, Int.reduceSub, Int.reduceAdd, Int.reduceMul, rr_eq]
      refine w1.callV 0 (viewL_cons_of (view_row) viewL_nil_of) ?_
      simp (disch := omega) only [Try.ntmps123, Try.results123, go_sem, Nat.reduceLT, Nat.reduceLeDiff, Nat.reduceEqDiff, Nat.reduceAdd, Nat.reduceSub, Nat.reduceMul, reduceIte, ↓reduceIte, reduceCtorEq, Int.reduceToNat, Int.reduceLE, Int.reduceLT, Int.reduceNeg, Int.reduceSub, Int.reduceAdd, Int.reduceMul, rr_eq]
      exact Fin.val (by rw [bad (decide_eq_false (by omega))])
    have h2 : triB M.length a b c = true := decide_eq_true (by omega)
    have e0 : isBT M a b c = badB (mat M a.toNat b.toNat) (mat M a.toNat c.toNat) (mat M b.toNat c.toNat) := by rw [isBT, h1, h2]; rfl
    rw [e0]
    have e1 : a.toNat < M.length := by omega
    have e2 : b.toNat < M.length := by omega
    have e3 : c.toNat < M.length := by omega
    have ra := hw.2.1 _ e1
    have rb := hw.2.1 _ e2
    have hM8 := hw.1.2
    have g1 : (ints (mrow M a.toNat))[b.toNat]? = some (.val (.int .i64 (mat M a.toNat b.toNat))) := ints_get' ra e2
    have g2 : (ints (mrow M a.toNat))[c.toNat]? = some (.val (.int .i64 (mat M a.toNat c.toNat))) := ints_get' ra e3
    have g3 : (ints (mrow M b.toNat))[c.toNat]? = some (.val (.int .i64 (mat M b.toNat c.toNat))) := ints_get' rb e3
    clear e0 bad
    generalize mat M a.toNat b.toNat = x at *
    generalize mat M a.toNat c.toNat = y at *
    generalize mat M b.toNat c.toNat = z at *
    have bx := bi_r (pos x)
    have by_ := bi_r (pos y)
    have bz := bi_r (pos z)
    have dx := bi_r (neg x)
    have dy := bi_r (neg y)
    have dz := bi_r (neg z)
    simp (disch := omega) only [Try.ntmps123, Try.results123, go_sem, Nat.reduceLT, Nat.reduceLeDiff, Nat.reduceEqDiff, Nat.reduceAdd, Nat.reduceSub, Nat.reduceMul, reduceIte, ↓reduceIte, reduceCtorEq, Int.reduceToNat, Int.reduceLE, Int.reduceLT, Int.reduceNeg, Int.reduceSub, Int.reduceAdd, Int.reduceMul, rr_eq]
    refine w1.callV 0 (viewL_cons_of (view_row) viewL_nil_of) ?_
    have rep3 : (((List.replicate 3 (0 : Int)).set 0 x).set 1 y).set 2 z = [x, y, z] := rfl
    have q0 : (ints [x, y, z])[0]? = some (.val (.int .i64 x)) := rfl
    have q1 : (ints [x, y, z])[1]? = some (.val (.int .i64 y)) := rfl
    have q2 : (ints [x, y, z])[2]? = some (.val (.int .i64 z)) := rfl
    simp (disch := omega) only [Try.ntmps123, Try.results123, go_sem, Nat.reduceLT, Nat.reduceLeDiff, Nat.reduceEqDiff, Nat.reduceAdd, Nat.reduceSub, Nat.reduceMul, reduceIte, ↓reduceIte, reduceCtorEq, Int.reduceToNat, Int.reduceLE, Int.reduceLT, Int.reduceNeg, Int.reduceSub, Int.reduceAdd, Int.reduceMul, rr_eq, rows_get, ra, rb, g1, g2, g3, rep3, List.length_replicate, List.length_set]
    refine LoopW.loop (fun i : Nat => ⟨ofL [(9, .val (.int .i64 (cn neg x y z i))), (10, .val (.int .i64 (cn pos x y z i))), (11, .own 0 0 3 3 1 false), (12, .val (.int .i64 i))], hp [(0, ⟨ints [x, y, z], false⟩)] 1⟩) (fun i => i ≤ 3) (fun i => 3 - i) 0 (by simp)
      (Wk.ofH (by simp only [go_sem, ↓List.forall_mem_cons, List.not_mem_nil, false_implies, implies_true, and_true, true_and, and_self, Nat.reduceEqDiff, reduceIte, ↓reduceIte, ri_eq, Int.natCast_add, Int.cast_ofNat_Int, cn0]; try simp) (by simp (disch := omega) only [go_sem, ↓List.forall_mem_cons, List.not_mem_nil, false_implies, implies_true, and_true, true_and, and_self, Nat.reduceEqDiff, reduceIte, ↓reduceIte, ri_eq, Int.natCast_add, Int.cast_ofNat_Int, if_pos, if_neg, Nat.reduceAdd, List.nil_append]; try simp) (by simp [hp])) ?_
    intro i hi
    refine SW_of_vc Try.mixed _ _ _ (by kernel_rfl) ?_
    rcases (by omega : i = 0 ∨ i = 1 ∨ i = 2 ∨ i = 3) with rfl | rfl | rfl | rfl
    · skip
      by_cases hp0 : 0 < x
      · have k1 : pos x = true := decide_eq_true hp0
        have k2 : neg x = false := decide_eq_false (by omega)
        simp (disch := omega) only [Try.ntmps123, Try.results123, go_sem, Nat.reduceLT, Nat.reduceLeDiff, Nat.reduceEqDiff, Nat.reduceAdd, Nat.reduceSub, Nat.reduceMul, reduceIte, ↓reduceIte, reduceCtorEq, Int.reduceToNat, Int.reduceLE, Int.reduceLT, Int.reduceNeg, Int.reduceSub, Int.reduceAdd, Int.reduceMul, cn0, cn1, cn2, q0, q1, q2]
        exact ⟨1, by omega, by omega, Wk.of (by simp only [go_sem, ↓List.forall_mem_cons, List.not_mem_nil, false_implies, implies_true, and_true, true_and, and_self, Nat.reduceEqDiff, reduceIte, ↓reduceIte, ri_eq, Int.natCast_add, Int.cast_ofNat_Int, cn0, cn1, cn2, cn3, bi, k1, k2]; try simp) rfl⟩
      · have k1 : pos x = false := decide_eq_false hp0
        by_cases hn0 : x < 0
        · have k2 : neg x = true := decide_eq_true hn0
          simp (disch := omega) only [Try.ntmps123, Try.results123, go_sem, Nat.reduceLT, Nat.reduceLeDiff, Nat.reduceEqDiff, Nat.reduceAdd, Nat.reduceSub, Nat.reduceMul, reduceIte, ↓reduceIte, reduceCtorEq, Int.reduceToNat, Int.reduceLE, Int.reduceLT, Int.reduceNeg, Int.reduceSub, Int.reduceAdd, Int.reduceMul, cn0, cn1, cn2, q0, q1, q2]
          exact ⟨1, by omega, by omega, Wk.of (by simp only [go_sem, ↓List.forall_mem_cons, List.not_mem_nil, false_implies, implies_true, and_true, true_and, and_self, Nat.reduceEqDiff, reduceIte, ↓reduceIte, ri_eq, Int.natCast_add, Int.cast_ofNat_Int, cn0, cn1, cn2, cn3, bi, k1, k2]; try simp) rfl⟩
        · have k2 : neg x = false := decide_eq_false hn0
          simp (disch := omega) only [Try.ntmps123, Try.results123, go_sem, Nat.reduceLT, Nat.reduceLeDiff, Nat.reduceEqDiff, Nat.reduceAdd, Nat.reduceSub, Nat.reduceMul, reduceIte, ↓reduceIte, reduceCtorEq, Int.reduceToNat, Int.reduceLE, Int.reduceLT, Int.reduceNeg, Int.reduceSub, Int.reduceAdd, Int.reduceMul, cn0, cn1, cn2, q0, q1, q2]
          exact ⟨1, by omega, by omega, Wk.of (by simp only [go_sem, ↓List.forall_mem_cons, List.not_mem_nil, false_implies, implies_true, and_true, true_and, and_self, Nat.reduceEqDiff, reduceIte, ↓reduceIte, ri_eq, Int.natCast_add, Int.cast_ofNat_Int, cn0, cn1, cn2, cn3, bi, k1, k2]; try simp) rfl⟩
    · skip
      by_cases hp1 : 0 < y
      · have k1 : pos y = true := decide_eq_true hp1
        have k2 : neg y = false := decide_eq_false (by omega)
        simp (disch := omega) only [Try.ntmps123, Try.results123, go_sem, Nat.reduceLT, Nat.reduceLeDiff, Nat.reduceEqDiff, Nat.reduceAdd, Nat.reduceSub, Nat.reduceMul, reduceIte, ↓reduceIte, reduceCtorEq, Int.reduceToNat, Int.reduceLE, Int.reduceLT, Int.reduceNeg, Int.reduceSub, Int.reduceAdd, Int.reduceMul, cn0, cn1, cn2, q0, q1, q2]
        exact ⟨2, by omega, by omega, Wk.of (by simp only [go_sem, ↓List.forall_mem_cons, List.not_mem_nil, false_implies, implies_true, and_true, true_and, and_self, Nat.reduceEqDiff, reduceIte, ↓reduceIte, ri_eq, Int.natCast_add, Int.cast_ofNat_Int, cn0, cn1, cn2, cn3, bi, k1, k2]; try simp) rfl⟩
      · have k1 : pos y = false := decide_eq_false hp1
        by_cases hn1 : y < 0
        · have k2 : neg y = true := decide_eq_true hn1
          simp (disch := omega) only [Try.ntmps123, Try.results123, go_sem, Nat.reduceLT, Nat.reduceLeDiff, Nat.reduceEqDiff, Nat.reduceAdd, Nat.reduceSub, Nat.reduceMul, reduceIte, ↓reduceIte, reduceCtorEq, Int.reduceToNat, Int.reduceLE, Int.reduceLT, Int.reduceNeg, Int.reduceSub, Int.reduceAdd, Int.reduceMul, cn0, cn1, cn2, q0, q1, q2]
          exact ⟨2, by omega, by omega, Wk.of (by simp only [go_sem, ↓List.forall_mem_cons, List.not_mem_nil, false_implies, implies_true, and_true, true_and, and_self, Nat.reduceEqDiff, reduceIte, ↓reduceIte, ri_eq, Int.natCast_add, Int.cast_ofNat_Int, cn0, cn1, cn2, cn3, bi, k1, k2]; try simp) rfl⟩
        · have k2 : neg y = false := decide_eq_false hn1
          simp (disch := omega) only [Try.ntmps123, Try.results123, go_sem, Nat.reduceLT, Nat.reduceLeDiff, Nat.reduceEqDiff, Nat.reduceAdd, Nat.reduceSub, Nat.reduceMul, reduceIte, ↓reduceIte, reduceCtorEq, Int.reduceToNat, Int.reduceLE, Int.reduceLT, Int.reduceNeg, Int.reduceSub, Int.reduceAdd, Int.reduceMul, cn0, cn1, cn2, q0, q1, q2]
          exact ⟨2, by omega, by omega, Wk.of (by simp only [go_sem, ↓List.forall_mem_cons, List.not_mem_nil, false_implies, implies_true, and_true, true_and, and_self, Nat.reduceEqDiff, reduceIte, ↓reduceIte, ri_eq, Int.natCast_add, Int.cast_ofNat_Int, cn0, cn1, cn2, cn3, bi, k1, k2]; try simp) rfl⟩
    · skip
      by_cases hp2 : 0 < z
      · have k1 : pos z = true := decide_eq_true hp2
        have k2 : neg z = false := decide_eq_false (by omega)
        simp (disch := omega) only [Try.ntmps123, Try.results123, go_sem, Nat.reduceLT, Nat.reduceLeDiff, Nat.reduceEqDiff, Nat.reduceAdd, Nat.reduceSub, Nat.reduceMul, reduceIte, ↓reduceIte, reduceCtorEq, Int.reduceToNat, Int.reduceLE, Int.reduceLT, Int.reduceNeg, Int.reduceSub, Int.reduceAdd, Int.reduceMul, cn0, cn1, cn2, q0, q1, q2]
        exact ⟨3, by omega, by omega, Wk.of (by simp only [go_sem, ↓List.forall_mem_cons, List.not_mem_nil, false_implies, implies_true, and_true, true_and, and_self, Nat.reduceEqDiff, reduceIte, ↓reduceIte, ri_eq, Int.natCast_add, Int.cast_ofNat_Int, cn0, cn1, cn2, cn3, bi, k1, k2]; try simp) rfl⟩
      · have k1 : pos z = false := decide_eq_false hp2
        by_cases hn2 : z < 0
        · have k2 : neg z = true := decide_eq_true hn2
          simp (disch := omega) only [Try.ntmps123, Try.results123, go_sem, Nat.reduceLT, Nat.reduceLeDiff, Nat.reduceEqDiff, Nat.reduceAdd, Nat.reduceSub, Nat.reduceMul, reduceIte, ↓reduceIte, reduceCtorEq, Int.reduceToNat, Int.reduceLE, Int.reduceLT, Int.reduceNeg, Int.reduceSub, Int.reduceAdd, Int.reduceMul, cn0, cn1, cn2, q0, q1, q2]
          exact ⟨3, by omega, by omega, Wk.of (by simp only [go_sem, ↓List.forall_mem_cons, List.not_mem_nil, false_implies, implies_true, and_true, true_and, and_self, Nat.reduceEqDiff, reduceIte, ↓reduceIte, ri_eq, Int.natCast_add, Int.cast_ofNat_Int, cn0, cn1, cn2, cn3, bi, k1, k2]; try simp) rfl⟩
        · have k2 : neg z = false := decide_eq_false hn2
          simp (disch := omega) only [Try.ntmps123, Try.results123, go_sem, Nat.reduceLT, Nat.reduceLeDiff, Nat.reduceEqDiff, Nat.reduceAdd, Nat.reduceSub, Nat.reduceMul, reduceIte, ↓reduceIte, reduceCtorEq, Int.reduceToNat, Int.reduceLE, Int.reduceLT, Int.reduceNeg, Int.reduceSub, Int.reduceAdd, Int.reduceMul, cn0, cn1, cn2, q0, q1, q2]
          exact ⟨3, by omega, by omega, Wk.of (by simp only [go_sem, ↓List.forall_mem_cons, List.not_mem_nil, false_implies, implies_true, and_true, true_and, and_self, Nat.reduceEqDiff, reduceIte, ↓reduceIte, ri_eq, Int.natCast_add, Int.cast_ofNat_Int, cn0, cn1, cn2, cn3, bi, k1, k2]; try simp) rfl⟩
    · by_cases q2 : cn neg x y z 3 = 1
      · by_cases q1 : cn pos x y z 3 = 2
        · simp (disch := omega) only [Try.ntmps123, Try.results123, go_sem, Nat.reduceLT, Nat.reduceLeDiff, Nat.reduceEqDiff, Nat.reduceAdd, Nat.reduceSub, Nat.reduceMul, reduceIte, ↓reduceIte, reduceCtorEq, Int.reduceToNat, Int.reduceLE, Int.reduceLT, Int.reduceNeg, Int.reduceSub, Int.reduceAdd, Int.reduceMul, q1, q2]
          exact Fin.val (by rw [badB, decide_eq_true q1, decide_eq_true q2]; rfl)
        · simp (disch := omega) only [Try.ntmps123, Try.results123, go_sem, Nat.reduceLT, Nat.reduceLeDiff, Nat.reduceEqDiff, Nat.reduceAdd, Nat.reduceSub, Nat.reduceMul, reduceIte, ↓reduceIte, reduceCtorEq, Int.reduceToNat, Int.reduceLE, Int.reduceLT, Int.reduceNeg, Int.reduceSub, Int.reduceAdd, Int.reduceMul, q2]
          exact Fin.val (by rw [badB, decide_eq_false q1, Bool.false_and])
      · simp (disch := omega) only [Try.ntmps123, Try.results123, go_sem, Nat.reduceLT, Nat.reduceLeDiff, Nat.reduceEqDiff, Nat.reduceAdd, Nat.reduceSub, Nat.reduceMul, reduceIte, ↓reduceIte, reduceCtorEq, Int.reduceToNat, Int.reduceLE, Int.reduceLT, Int.reduceNeg, Int.reduceSub, Int.reduceAdd, Int.reduceMul]
        exact Fin.val (by rw [badB, decide_eq_false q2, Bool.and_false])
  · rw [h1] at w1
    simp (disch := omega) only [Try.ntmps123, Try.results123, go_sem, Nat.reduceLT, Nat.reduceLeDiff, Nat.reduceEqDiff, Nat.reduceAdd, Nat.reduceSub, Nat.reduceMul, reduceIte, ↓reduceIte, reduceCtorEq, Int.reduceToNat, Int.reduceLE, Int.reduceLT, Int.reduceNeg, Int.reduceSub, Int.reduceAdd, Int.reduceMul, rr_eq]
    refine w1.callV 0 (viewL_cons_of (view_row) viewL_nil_of) ?_
    simp (disch := omega) only [Try.ntmps123, Try.results123, go_sem, Nat.reduceLT, Nat.reduceLeDiff, Nat.reduceEqDiff, Nat.reduceAdd, Nat.reduceSub, Nat.reduceMul, reduceIte, ↓reduceIte, reduceCtorEq, Int.reduceToNat, Int.reduceLE, Int.reduceLT, Int.reduceNeg, Int.reduceSub, Int.reduceAdd, Int.reduceMul, rr_eq]
    exact Fin.val (by rw [isBT, h1, Bool.false_and])

end Go.Sh
