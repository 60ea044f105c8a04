/-
  Is a list of triangles a packing, and its bound? Of the reference and of the program.
-/
import Derived.Test.YtehimkdkflnkbaaY2
namespace Go.Sh
set_option linter.unusedSimpArgs false
set_option linter.unusedVariables false
open Go Go.Proofs

set_option maxRecDepth 20000 in
set_option maxHeartbeats 8000000 in
theorem Try.specPack_ok (M : List (List Int)) (T : List Tri) (hM : M.length ≤ 1048576) (hR : ∀ i, i < M.length → (mrow M i).length ≤ 1048576) (hT : T.length ≤ 1048576) : PCall Try.prog 110 [rr M, rt T] (.val (.bool (isPk M T))) := by
  refine FCall.pcall (R := fun r _ => r = .val (.bool (isPk M T))) ?_ 0 (by rintro r H rfl; exact view_bool)
  have w1 := Try.specIsWM_ok M hM hR
  have lT := encL_length (enc := tri4) (z := 4) tri4_z T
  refine FCall.of_body Try.func110 rfl (by kernel_rfl) (by simp [Try.ntmps110]) ?_
  refine SW_of_vc Try.mixed _ _ _ (by kernel_rfl) ?_
  simp (disch := omega) only [Try.ntmps110, Try.results110, go_sem, Nat.reduceLT, Nat.reduceLeDiff, Nat.reduceEqDiff, Nat.reduceAdd, Nat.reduceSub, Nat.reduceMul, reduceIte, ↓reduceIte, reduceCtorEq, Int.reduceToNat, Int.reduceLE, Int.reduceLT, Int.reduceNeg, Int.reduceSub, Int.reduceAdd, Int.reduceMul, rr_eq, rt]
  refine LoopW.loop (fun k : Nat => ⟨ofL [(0, rr M), (1, rt T), (5, .val (.int .i64 k))], hp [] 0⟩)
    (fun k => k ≤ T.length ∧ ∀ i, i < k → isBT M (tg T i).1 (tg T i).2.1 (tg T i).2.2.1 = true ∧ 1 ≤ (tg T i).2.2.2 ∧ (tg T i).2.2.2 ≤ 1000) (fun k => T.length - k) 0 ⟨by simp, fun i h => by simp at h⟩ (Wk.of (by simp only [go_sem, ↓List.forall_mem_cons, List.not_mem_nil, false_implies, implies_true, and_true, true_and, and_self, Nat.reduceEqDiff, reduceIte, ↓reduceIte, ri_eq, Int.natCast_add, Int.cast_ofNat_Int, rr_eq, rt]; try simp) rfl) ?_
  rintro k ⟨hk, hok⟩
  refine SW_of_vc Try.mixed _ _ _ (by kernel_rfl) ?_
  by_cases hlt : k < T.length
  · obtain ⟨a, b, c, w, ht⟩ := tri_ex T k
    obtain ⟨q0, q1, q2, q3, _⟩ := tri_of hlt ht
    have hbad : ¬ (isBT M a b c = true ∧ 1 ≤ w ∧ w ≤ 1000) → isPk M T = false := fun h => isPk_f fun g => h (by have := g.2.2.1 k hlt; rw [ht] at this; exact this)
    have w2 := Try.specIsBT_ok M a b c hM hR
    have w3 := Try.l1In_ok w 1 1000
    have hnew : isBT M a b c = true → 1 ≤ w ∧ w ≤ 1000 → ∀ i, i < k + 1 → isBT M (tg T i).1 (tg T i).2.1 (tg T i).2.2.1 = true ∧ 1 ≤ (tg T i).2.2.2 ∧ (tg T i).2.2.2 ≤ 1000 := fun h1 h2 i hi => by
      rcases Nat.lt_succ_iff_lt_or_eq.1 hi with g | rfl
      · exact hok i g
      · rw [ht]; exact ⟨h1, h2⟩
    rcases Bool.eq_false_or_eq_true (isBT M a b c) with h2 | h2
    · rw [h2] at w2
      rcases Bool.eq_false_or_eq_true (inR w 1 1000) with h3 | h3
      · rw [h3] at w3
        simp (disch := omega) only [Try.ntmps110, Try.results110, go_sem, Nat.reduceLT, Nat.reduceLeDiff, Nat.reduceEqDiff, Nat.reduceAdd, Nat.reduceSub, Nat.reduceMul, reduceIte, ↓reduceIte, reduceCtorEq, Int.reduceToNat, Int.reduceLE, Int.reduceLT, Int.reduceNeg, Int.reduceSub, Int.reduceAdd, Int.reduceMul, rr_eq, rt, lT, q0, q1, q2, q3]
        refine w2.callDV 0 (viewL_cons_of (view_row) (viewL_cons_of (view_int) (viewL_cons_of (view_int) (viewL_cons_of (view_int) viewL_nil_of)))) ?_
        simp (disch := omega) only [Try.ntmps110, Try.results110, go_sem, Nat.reduceLT, Nat.reduceLeDiff, Nat.reduceEqDiff, Nat.reduceAdd, Nat.reduceSub, Nat.reduceMul, reduceIte, ↓reduceIte, reduceCtorEq, Int.reduceToNat, Int.reduceLE, Int.reduceLT, Int.reduceNeg, Int.reduceSub, Int.reduceAdd, Int.reduceMul, rr_eq, rt, lT, q0, q1, q2, q3]
        refine w3.callDV 0 (viewL_cons_of (view_int) (viewL_cons_of (view_int) (viewL_cons_of (view_int) viewL_nil_of))) ?_
        simp (disch := omega) only [Try.ntmps110, Try.results110, go_sem, Nat.reduceLT, Nat.reduceLeDiff, Nat.reduceEqDiff, Nat.reduceAdd, Nat.reduceSub, Nat.reduceMul, reduceIte, ↓reduceIte, reduceCtorEq, Int.reduceToNat, Int.reduceLE, Int.reduceLT, Int.reduceNeg, Int.reduceSub, Int.reduceAdd, Int.reduceMul, rr_eq, rt]
        exact ⟨k + 1, ⟨hlt, hnew h2 (inR_of h3)⟩, by omega, Wk.of (by simp only [go_sem, ↓List.forall_mem_cons, List.not_mem_nil, false_implies, implies_true, and_true, true_and, and_self, Nat.reduceEqDiff, reduceIte, ↓reduceIte, ri_eq, Int.natCast_add, Int.cast_ofNat_Int, rr_eq, rt]; try simp) rfl⟩
      · rw [h3] at w3
        simp (disch := omega) only [Try.ntmps110, Try.results110, go_sem, Nat.reduceLT, Nat.reduceLeDiff, Nat.reduceEqDiff, Nat.reduceAdd, Nat.reduceSub, Nat.reduceMul, reduceIte, ↓reduceIte, reduceCtorEq, Int.reduceToNat, Int.reduceLE, Int.reduceLT, Int.reduceNeg, Int.reduceSub, Int.reduceAdd, Int.reduceMul, rr_eq, rt, lT, q0, q1, q2, q3]
        refine w2.callDV 0 (viewL_cons_of (view_row) (viewL_cons_of (view_int) (viewL_cons_of (view_int) (viewL_cons_of (view_int) viewL_nil_of)))) ?_
        simp (disch := omega) only [Try.ntmps110, Try.results110, go_sem, Nat.reduceLT, Nat.reduceLeDiff, Nat.reduceEqDiff, Nat.reduceAdd, Nat.reduceSub, Nat.reduceMul, reduceIte, ↓reduceIte, reduceCtorEq, Int.reduceToNat, Int.reduceLE, Int.reduceLT, Int.reduceNeg, Int.reduceSub, Int.reduceAdd, Int.reduceMul, rr_eq, rt, lT, q0, q1, q2, q3]
        refine w3.callDV 0 (viewL_cons_of (view_int) (viewL_cons_of (view_int) (viewL_cons_of (view_int) viewL_nil_of))) ?_
        simp (disch := omega) only [Try.ntmps110, Try.results110, go_sem, Nat.reduceLT, Nat.reduceLeDiff, Nat.reduceEqDiff, Nat.reduceAdd, Nat.reduceSub, Nat.reduceMul, reduceIte, ↓reduceIte, reduceCtorEq, Int.reduceToNat, Int.reduceLE, Int.reduceLT, Int.reduceNeg, Int.reduceSub, Int.reduceAdd, Int.reduceMul, rr_eq, rt]
        exact Fin.val (by rw [hbad (fun g => inR_not h3 g.2)])
    · rw [h2] at w2
      simp (disch := omega) only [Try.ntmps110, Try.results110, go_sem, Nat.reduceLT, Nat.reduceLeDiff, Nat.reduceEqDiff, Nat.reduceAdd, Nat.reduceSub, Nat.reduceMul, reduceIte, ↓reduceIte, reduceCtorEq, Int.reduceToNat, Int.reduceLE, Int.reduceLT, Int.reduceNeg, Int.reduceSub, Int.reduceAdd, Int.reduceMul, rr_eq, rt, lT, q0, q1, q2, q3]
      refine w2.callDV 0 (viewL_cons_of (view_row) (viewL_cons_of (view_int) (viewL_cons_of (view_int) (viewL_cons_of (view_int) viewL_nil_of)))) ?_
      simp (disch := omega) only [Try.ntmps110, Try.results110, go_sem, Nat.reduceLT, Nat.reduceLeDiff, Nat.reduceEqDiff, Nat.reduceAdd, Nat.reduceSub, Nat.reduceMul, reduceIte, ↓reduceIte, reduceCtorEq, Int.reduceToNat, Int.reduceLE, Int.reduceLT, Int.reduceNeg, Int.reduceSub, Int.reduceAdd, Int.reduceMul, rr_eq, rt, lT, q0, q1, q2, q3]
      exact Fin.val (by rw [hbad (fun g => by rw [h2] at g; cases g.1)])
  obtain rfl : k = T.length := by omega
  by_cases hw : WM M
  · rw [isWM_t hw] at w1
    have hln := hw.1
    have hwk : wOk T := fun i hi => (hok i hi).2
    simp (disch := omega) only [Try.ntmps110, Try.results110, go_sem, Nat.reduceLT, Nat.reduceLeDiff, Nat.reduceEqDiff, Nat.reduceAdd, Nat.reduceSub, Nat.reduceMul, reduceIte, ↓reduceIte, reduceCtorEq, Int.reduceToNat, Int.reduceLE, Int.reduceLT, Int.reduceNeg, Int.reduceSub, Int.reduceAdd, Int.reduceMul, rr_eq, rt]
    refine LoopW.loop (fun x : Nat => ⟨ofL [(0, rr M), (1, rt T), (6, .val (.int .i64 x))], hp [] 0⟩) (fun x => x ≤ M.length ∧ ∀ x' y, x' < x → x' < y → y < M.length → usedT T x' y ≤ absI (mat M x' y)) (fun x => M.length - x) 0 ⟨by simp, fun x y h => by simp at h⟩ (Wk.of (by simp only [go_sem, ↓List.forall_mem_cons, List.not_mem_nil, false_implies, implies_true, and_true, true_and, and_self, Nat.reduceEqDiff, reduceIte, ↓reduceIte, ri_eq, Int.natCast_add, Int.cast_ofNat_Int, rr_eq, rt]; try simp) rfl) ?_
    rintro x ⟨hx, hxx⟩
    refine SW_of_vc Try.mixed _ _ _ (by kernel_rfl) ?_
    by_cases hlx : x < M.length
    · simp (disch := omega) only [Try.ntmps110, Try.results110, go_sem, Nat.reduceLT, Nat.reduceLeDiff, Nat.reduceEqDiff, Nat.reduceAdd, Nat.reduceSub, Nat.reduceMul, reduceIte, ↓reduceIte, reduceCtorEq, Int.reduceToNat, Int.reduceLE, Int.reduceLT, Int.reduceNeg, Int.reduceSub, Int.reduceAdd, Int.reduceMul, rr_eq, rt]
      refine LoopW.loop (fun y : Nat => ⟨ofL [(0, rr M), (1, rt T), (6, .val (.int .i64 x)), (7, .val (.int .i64 y))], hp [] 0⟩) (fun y => x < y ∧ y ≤ M.length ∧ ∀ y', x < y' → y' < y → usedT T x y' ≤ absI (mat M x y')) (fun y => M.length - y) (x + 1) ⟨by omega, by omega, fun y h1 h2 => by omega⟩ (Wk.of (by simp only [go_sem, ↓List.forall_mem_cons, List.not_mem_nil, false_implies, implies_true, and_true, true_and, and_self, Nat.reduceEqDiff, reduceIte, ↓reduceIte, ri_eq, Int.natCast_add, Int.cast_ofNat_Int, rr_eq, rt]; try simp) rfl) ?_
      rintro y ⟨hxy, hy, hyy⟩
      refine SW_of_vc Try.mixed _ _ _ (by kernel_rfl) ?_
      by_cases hly : y < M.length
      · have w4 := Try.l21Used_ok T x y hT hwk
        have ra := hw.2.1 x hlx
        have g1 : (ints (mrow M x))[y]? = some (.val (.int .i64 (mat M x y))) := ints_get' ra hly
        have k1 := (hw.2.2.1 x y hlx hly).1
        have w5 := Try.l21Size_ok (mat M x y) (by omega) (by omega)
        have hfalse : absI (mat M x y) < usedT T x y → isPk M T = false := fun h => isPk_f fun g => by have := g.2.2.2 x y hxy hly; omega
        have hnext : usedT T x y ≤ absI (mat M x y) → ∀ y', x < y' → y' < y + 1 → usedT T x y' ≤ absI (mat M x y') := fun h y' h1 h2 => by
          rcases Nat.lt_succ_iff_lt_or_eq.1 h2 with g | rfl
          · exact hyy y' h1 g
          · exact h
        by_cases hov : absI (mat M x y) < usedT T x y
        · have hfalse2 := hfalse hov
          clear hfalse
          clear hnext
          generalize usedT T x y = u at *
          generalize absI (mat M x y) = am at *
          generalize mat M x y = mm at *
          simp (disch := omega) only [Try.ntmps110, Try.results110, go_sem, Nat.reduceLT, Nat.reduceLeDiff, Nat.reduceEqDiff, Nat.reduceAdd, Nat.reduceSub, Nat.reduceMul, reduceIte, ↓reduceIte, reduceCtorEq, Int.reduceToNat, Int.reduceLE, Int.reduceLT, Int.reduceNeg, Int.reduceSub, Int.reduceAdd, Int.reduceMul, rr_eq, rt, rows_get, ra, g1]
          refine w1.callDV 0 (viewL_cons_of (view_row) viewL_nil_of) ?_
          simp (disch := omega) only [Try.ntmps110, Try.results110, go_sem, Nat.reduceLT, Nat.reduceLeDiff, Nat.reduceEqDiff, Nat.reduceAdd, Nat.reduceSub, Nat.reduceMul, reduceIte, ↓reduceIte, reduceCtorEq, Int.reduceToNat, Int.reduceLE, Int.reduceLT, Int.reduceNeg, Int.reduceSub, Int.reduceAdd, Int.reduceMul, rr_eq, rt, rows_get, ra, g1]
          refine w4.callDV 0 (viewL_cons_of (view_row) (viewL_cons_of (view_int) (viewL_cons_of (view_int) viewL_nil_of))) ?_
          simp (disch := omega) only [Try.ntmps110, Try.results110, go_sem, Nat.reduceLT, Nat.reduceLeDiff, Nat.reduceEqDiff, Nat.reduceAdd, Nat.reduceSub, Nat.reduceMul, reduceIte, ↓reduceIte, reduceCtorEq, Int.reduceToNat, Int.reduceLE, Int.reduceLT, Int.reduceNeg, Int.reduceSub, Int.reduceAdd, Int.reduceMul, rr_eq, rt, rows_get, ra, g1]
          refine w5.callDV 0 (viewL_cons_of (view_int) viewL_nil_of) ?_
          simp (disch := omega) only [Try.ntmps110, Try.results110, go_sem, Nat.reduceLT, Nat.reduceLeDiff, Nat.reduceEqDiff, Nat.reduceAdd, Nat.reduceSub, Nat.reduceMul, reduceIte, ↓reduceIte, reduceCtorEq, Int.reduceToNat, Int.reduceLE, Int.reduceLT, Int.reduceNeg, Int.reduceSub, Int.reduceAdd, Int.reduceMul, rr_eq, rt, rows_get, ra, g1]
          exact Fin.val (by rw [hfalse2])
        · have hnext := hnext (by omega)
          clear hfalse
          simp (disch := omega) only [Try.ntmps110, Try.results110, go_sem, Nat.reduceLT, Nat.reduceLeDiff, Nat.reduceEqDiff, Nat.reduceAdd, Nat.reduceSub, Nat.reduceMul, reduceIte, ↓reduceIte, reduceCtorEq, Int.reduceToNat, Int.reduceLE, Int.reduceLT, Int.reduceNeg, Int.reduceSub, Int.reduceAdd, Int.reduceMul, rr_eq, rt, rows_get, ra, g1]
          refine w1.callDV 0 (viewL_cons_of (view_row) viewL_nil_of) ?_
          simp (disch := omega) only [Try.ntmps110, Try.results110, go_sem, Nat.reduceLT, Nat.reduceLeDiff, Nat.reduceEqDiff, Nat.reduceAdd, Nat.reduceSub, Nat.reduceMul, reduceIte, ↓reduceIte, reduceCtorEq, Int.reduceToNat, Int.reduceLE, Int.reduceLT, Int.reduceNeg, Int.reduceSub, Int.reduceAdd, Int.reduceMul, rr_eq, rt, rows_get, ra, g1]
          refine w4.callDV 0 (viewL_cons_of (view_row) (viewL_cons_of (view_int) (viewL_cons_of (view_int) viewL_nil_of))) ?_
          simp (disch := omega) only [Try.ntmps110, Try.results110, go_sem, Nat.reduceLT, Nat.reduceLeDiff, Nat.reduceEqDiff, Nat.reduceAdd, Nat.reduceSub, Nat.reduceMul, reduceIte, ↓reduceIte, reduceCtorEq, Int.reduceToNat, Int.reduceLE, Int.reduceLT, Int.reduceNeg, Int.reduceSub, Int.reduceAdd, Int.reduceMul, rr_eq, rt, rows_get, ra, g1]
          refine w5.callDV 0 (viewL_cons_of (view_int) viewL_nil_of) ?_
          simp (disch := omega) only [Try.ntmps110, Try.results110, go_sem, Nat.reduceLT, Nat.reduceLeDiff, Nat.reduceEqDiff, Nat.reduceAdd, Nat.reduceSub, Nat.reduceMul, reduceIte, ↓reduceIte, reduceCtorEq, Int.reduceToNat, Int.reduceLE, Int.reduceLT, Int.reduceNeg, Int.reduceSub, Int.reduceAdd, Int.reduceMul, rr_eq, rt, rows_get, ra, g1]
          exact ⟨y + 1, ⟨by omega, by omega, hnext⟩, by omega, Wk.of (by simp only [go_sem, ↓List.forall_mem_cons, List.not_mem_nil, false_implies, implies_true, and_true, true_and, and_self, Nat.reduceEqDiff, reduceIte, ↓reduceIte, ri_eq, Int.natCast_add, Int.cast_ofNat_Int, rr_eq, rt]; try simp) rfl⟩
      · simp (disch := omega) only [Try.ntmps110, Try.results110, go_sem, Nat.reduceLT, Nat.reduceLeDiff, Nat.reduceEqDiff, Nat.reduceAdd, Nat.reduceSub, Nat.reduceMul, reduceIte, ↓reduceIte, reduceCtorEq, Int.reduceToNat, Int.reduceLE, Int.reduceLT, Int.reduceNeg, Int.reduceSub, Int.reduceAdd, Int.reduceMul, rr_eq, rt]
        refine ⟨x + 1, ⟨by omega, fun x' y' h1 h2 h3 => ?_⟩, by omega, Wk.of (by simp only [go_sem, ↓List.forall_mem_cons, List.not_mem_nil, false_implies, implies_true, and_true, true_and, and_self, Nat.reduceEqDiff, reduceIte, ↓reduceIte, ri_eq, Int.natCast_add, Int.cast_ofNat_Int, rr_eq, rt]; try simp) rfl⟩
        rcases Nat.lt_succ_iff_lt_or_eq.1 h1 with g | rfl
        · exact hxx x' y' g h2 h3
        · exact hyy y' h2 (by omega)
    · by_cases hl : T.length ≤ 100
      · simp (disch := omega) only [Try.ntmps110, Try.results110, go_sem, Nat.reduceLT, Nat.reduceLeDiff, Nat.reduceEqDiff, Nat.reduceAdd, Nat.reduceSub, Nat.reduceMul, reduceIte, ↓reduceIte, reduceCtorEq, Int.reduceToNat, Int.reduceLE, Int.reduceLT, Int.reduceNeg, Int.reduceSub, Int.reduceAdd, Int.reduceMul, rr_eq, rt]
        refine w1.callV 0 (viewL_cons_of (view_row) viewL_nil_of) ?_
        simp (disch := omega) only [Try.ntmps110, Try.results110, go_sem, Nat.reduceLT, Nat.reduceLeDiff, Nat.reduceEqDiff, Nat.reduceAdd, Nat.reduceSub, Nat.reduceMul, reduceIte, ↓reduceIte, reduceCtorEq, Int.reduceToNat, Int.reduceLE, Int.reduceLT, Int.reduceNeg, Int.reduceSub, Int.reduceAdd, Int.reduceMul, rr_eq, rt]
        exact Fin.val (by rw [isPk_t ⟨hw, hl, hok, fun x' y' h1 h2 => hxx x' y' (by omega) h1 h2⟩])
      · simp (disch := omega) only [Try.ntmps110, Try.results110, go_sem, Nat.reduceLT, Nat.reduceLeDiff, Nat.reduceEqDiff, Nat.reduceAdd, Nat.reduceSub, Nat.reduceMul, reduceIte, ↓reduceIte, reduceCtorEq, Int.reduceToNat, Int.reduceLE, Int.reduceLT, Int.reduceNeg, Int.reduceSub, Int.reduceAdd, Int.reduceMul, rr_eq, rt]
        refine w1.callV 0 (viewL_cons_of (view_row) viewL_nil_of) ?_
        simp (disch := omega) only [Try.ntmps110, Try.results110, go_sem, Nat.reduceLT, Nat.reduceLeDiff, Nat.reduceEqDiff, Nat.reduceAdd, Nat.reduceSub, Nat.reduceMul, reduceIte, ↓reduceIte, reduceCtorEq, Int.reduceToNat, Int.reduceLE, Int.reduceLT, Int.reduceNeg, Int.reduceSub, Int.reduceAdd, Int.reduceMul, rr_eq, rt]
        exact Fin.val (by rw [isPk_f (fun g => hl g.2.1)])
  · rw [isWM_f hw] at w1
    simp (disch := omega) only [Try.ntmps110, Try.results110, go_sem, Nat.reduceLT, Nat.reduceLeDiff, Nat.reduceEqDiff, Nat.reduceAdd, Nat.reduceSub, Nat.reduceMul, reduceIte, ↓reduceIte, reduceCtorEq, Int.reduceToNat, Int.reduceLE, Int.reduceLT, Int.reduceNeg, Int.reduceSub, Int.reduceAdd, Int.reduceMul, rr_eq, rt]
    refine LoopW.loop (fun x : Nat => ⟨ofL [(0, rr M), (1, rt T), (6, .val (.int .i64 x))], hp [] 0⟩) (fun x => x ≤ M.length) (fun x => M.length - x) 0 (by omega) (Wk.of (by simp only [go_sem, ↓List.forall_mem_cons, List.not_mem_nil, false_implies, implies_true, and_true, true_and, and_self, Nat.reduceEqDiff, reduceIte, ↓reduceIte, ri_eq, Int.natCast_add, Int.cast_ofNat_Int, rr_eq, rt]; try simp) rfl) ?_
    intro x hx
    refine SW_of_vc Try.mixed _ _ _ (by kernel_rfl) ?_
    by_cases hlx : x < M.length
    · simp (disch := omega) only [Try.ntmps110, Try.results110, go_sem, Nat.reduceLT, Nat.reduceLeDiff, Nat.reduceEqDiff, Nat.reduceAdd, Nat.reduceSub, Nat.reduceMul, reduceIte, ↓reduceIte, reduceCtorEq, Int.reduceToNat, Int.reduceLE, Int.reduceLT, Int.reduceNeg, Int.reduceSub, Int.reduceAdd, Int.reduceMul, rr_eq, rt]
      refine LoopW.loop (fun y : Nat => ⟨ofL [(0, rr M), (1, rt T), (6, .val (.int .i64 x)), (7, .val (.int .i64 y))], hp [] 0⟩) (fun y => y ≤ M.length) (fun y => M.length - y) (x + 1) (by omega) (Wk.of (by simp only [go_sem, ↓List.forall_mem_cons, List.not_mem_nil, false_implies, implies_true, and_true, true_and, and_self, Nat.reduceEqDiff, reduceIte, ↓reduceIte, ri_eq, Int.natCast_add, Int.cast_ofNat_Int, rr_eq, rt]; try simp) rfl) ?_
      intro y hy
      refine SW_of_vc Try.mixed _ _ _ (by kernel_rfl) ?_
      by_cases hly : y < M.length
      · simp (disch := omega) only [Try.ntmps110, Try.results110, go_sem, Nat.reduceLT, Nat.reduceLeDiff, Nat.reduceEqDiff, Nat.reduceAdd, Nat.reduceSub, Nat.reduceMul, reduceIte, ↓reduceIte, reduceCtorEq, Int.reduceToNat, Int.reduceLE, Int.reduceLT, Int.reduceNeg, Int.reduceSub, Int.reduceAdd, Int.reduceMul, rr_eq, rt]
        refine w1.callDV 0 (viewL_cons_of (view_row) viewL_nil_of) ?_
        simp (disch := omega) only [Try.ntmps110, Try.results110, go_sem, Nat.reduceLT, Nat.reduceLeDiff, Nat.reduceEqDiff, Nat.reduceAdd, Nat.reduceSub, Nat.reduceMul, reduceIte, ↓reduceIte, reduceCtorEq, Int.reduceToNat, Int.reduceLE, Int.reduceLT, Int.reduceNeg, Int.reduceSub, Int.reduceAdd, Int.reduceMul, rr_eq, rt]
        exact ⟨y + 1, by omega, by omega, Wk.of (by simp only [go_sem, ↓List.forall_mem_cons, List.not_mem_nil, false_implies, implies_true, and_true, true_and, and_self, Nat.reduceEqDiff, reduceIte, ↓reduceIte, ri_eq, Int.natCast_add, Int.cast_ofNat_Int, rr_eq, rt]; try simp) rfl⟩
      · simp (disch := omega) only [Try.ntmps110, Try.results110, go_sem, Nat.reduceLT, Nat.reduceLeDiff, Nat.reduceEqDiff, Nat.reduceAdd, Nat.reduceSub, Nat.reduceMul, reduceIte, ↓reduceIte, reduceCtorEq, Int.reduceToNat, Int.reduceLE, Int.reduceLT, Int.reduceNeg, Int.reduceSub, Int.reduceAdd, Int.reduceMul, rr_eq, rt]
        exact ⟨x + 1, by omega, by omega, Wk.of (by simp only [go_sem, ↓List.forall_mem_cons, List.not_mem_nil, false_implies, implies_true, and_true, true_and, and_self, Nat.reduceEqDiff, reduceIte, ↓reduceIte, ri_eq, Int.natCast_add, Int.cast_ofNat_Int, rr_eq, rt]; try simp) rfl⟩
    · simp (disch := omega) only [Try.ntmps110, Try.results110, go_sem, Nat.reduceLT, Nat.reduceLeDiff, Nat.reduceEqDiff, Nat.reduceAdd, Nat.reduceSub, Nat.reduceMul, reduceIte, ↓reduceIte, reduceCtorEq, Int.reduceToNat, Int.reduceLE, Int.reduceLT, Int.reduceNeg, Int.reduceSub, Int.reduceAdd, Int.reduceMul, rr_eq, rt]
      refine w1.callV 0 (viewL_cons_of (view_row) viewL_nil_of) ?_
      simp (disch := omega) only [Try.ntmps110, Try.results110, go_sem, Nat.reduceLT, Nat.reduceLeDiff, Nat.reduceEqDiff, Nat.reduceAdd, Nat.reduceSub, Nat.reduceMul, reduceIte, ↓reduceIte, reduceCtorEq, Int.reduceToNat, Int.reduceLE, Int.reduceLT, Int.reduceNeg, Int.reduceSub, Int.reduceAdd, Int.reduceMul, rr_eq, rt]
      exact Fin.val (by rw [isPk_f (fun g => hw g.1)])

def wsum (T : List Tri) (k : Nat) : Int := ((T.take k).map fun t => t.2.2.2).sum
theorem wsum_succ {T : List Tri} {k : Nat} (h : k < T.length) : wsum T (k + 1) = wsum T k + (tg T k).2.2.2 := by
  rw [tg_get h, wsum, List.take_succ_eq_append_getElem h, List.map_append, List.sum_append]
  simp [wsum]
theorem wsum_r {T : List Tri} (h : wOk T) : ∀ k, k ≤ T.length → 0 ≤ wsum T k ∧ wsum T k ≤ 1000 * (k : Int)
  | 0, _ => by simp [wsum]
  | k + 1, hk => by
    have ih := wsum_r h k (by omega)
    have := h k (by omega)
    rw [wsum_succ (by omega)]
    omega
noncomputable def boundOf (M : List (List Int)) (T : List Tri) : Int := if isPk M T = true then wsum T T.length else -1
open Classical in
theorem packP_of {M : List (List Int)} {T : List Tri} (h : isPk M T = true) : packP M T := by
  unfold isPk at h
  exact of_decide_eq_true h
set_option maxHeartbeats 4000000 in
theorem Try.implBound_ok (M : List (List Int)) (T : List Tri) (hM : M.length ≤ 1048576) (hR : ∀ i, i < M.length → (mrow M i).length ≤ 1048576) (hT : T.length ≤ 1048576) : PCall Try.prog 62 [rr M, rt T] (.val (.int .i64 (boundOf M T))) := by
  refine FCall.pcall (R := fun r _ => r = .val (.int .i64 (boundOf M T))) ?_ 0 (by rintro r H rfl; exact view_int)
  have w1 := Try.implPack_ok M T hM hR hT
  have lT := encL_length (enc := tri4) (z := 4) tri4_z T
  refine FCall.of_body Try.func62 rfl (by kernel_rfl) (by simp [Try.ntmps62]) ?_
  refine SW_of_vc Try.mixed _ _ _ (by kernel_rfl) ?_
  rcases Bool.eq_false_or_eq_true (isPk M T) with h | h
  · have hwk := (packP_of h).w
    have hb : boundOf M T = wsum T T.length := by rw [boundOf, if_pos h]
    rw [h] at w1
    simp (disch := omega) only [Try.ntmps62, Try.results62, go_sem, Nat.reduceLT, Nat.reduceLeDiff, Nat.reduceEqDiff, Nat.reduceAdd, Nat.reduceSub, Nat.reduceMul, reduceIte, ↓reduceIte, reduceCtorEq, Int.reduceToNat, Int.reduceLE, Int.reduceLT, Int.reduceNeg, Int.reduceSub, Int.reduceAdd, Int.reduceMul, rr_eq, rt]
    refine w1.callV 0 (viewL_cons_of (view_row) (viewL_cons_of (view_row) viewL_nil_of)) ?_
    simp (disch := omega) only [Try.ntmps62, Try.results62, go_sem, Nat.reduceLT, Nat.reduceLeDiff, Nat.reduceEqDiff, Nat.reduceAdd, Nat.reduceSub, Nat.reduceMul, reduceIte, ↓reduceIte, reduceCtorEq, Int.reduceToNat, Int.reduceLE, Int.reduceLT, Int.reduceNeg, Int.reduceSub, Int.reduceAdd, Int.reduceMul, rr_eq, rt]
    refine LoopW.loop (fun p : Nat × Nat => ⟨ofL [(5, .val (.int .i64 (wsum T p.1))), (12, rt T), (13, .val (.int .i64 T.length)), (14, .val (.int .i64 p.1))], hp [] p.2⟩) (fun p => p.1 ≤ T.length) (fun p => T.length - p.1) (0, 0) (by simp) (Wk.of (by simp only [go_sem, ↓List.forall_mem_cons, List.not_mem_nil, false_implies, implies_true, and_true, true_and, and_self, Nat.reduceEqDiff, reduceIte, ↓reduceIte, ri_eq, Int.natCast_add, Int.cast_ofNat_Int, rt, wsum, List.take_zero, List.map_nil, List.sum_nil]; try simp) rfl) ?_
    rintro ⟨k, nb⟩ hk
    simp only at hk
    refine SW_of_vc Try.mixed _ _ _ (by kernel_rfl) ?_
    by_cases hlt : k < T.length
    · obtain ⟨a, b, c, w, ht⟩ := tri_ex T k
      obtain ⟨_, _, _, _, q⟩ := tri_of hlt ht
      have hs := wsum_succ hlt
      have hr := wsum_r hwk k hk
      have hwk2 := hwk k hlt
      rw [ht] at hs hwk2
      simp only at hs hwk2
      simp (disch := omega) only [Try.ntmps62, Try.results62, go_sem, Nat.reduceLT, Nat.reduceLeDiff, Nat.reduceEqDiff, Nat.reduceAdd, Nat.reduceSub, Nat.reduceMul, reduceIte, ↓reduceIte, reduceCtorEq, Int.reduceToNat, Int.reduceLE, Int.reduceLT, Int.reduceNeg, Int.reduceSub, Int.reduceAdd, Int.reduceMul, rt, lT, q]
      exact ⟨(k + 1, nb + 1), hlt, by show T.length - (k + 1) < T.length - k; omega, Wk.ofH (by simp only [go_sem, ↓List.forall_mem_cons, List.not_mem_nil, false_implies, implies_true, and_true, true_and, and_self, Nat.reduceEqDiff, reduceIte, ↓reduceIte, ri_eq, Int.natCast_add, Int.cast_ofNat_Int, rt, hs]; try simp) (by simp (disch := omega) only [go_sem, ↓List.forall_mem_cons, List.not_mem_nil, false_implies, implies_true, and_true, true_and, and_self, Nat.reduceEqDiff, reduceIte, ↓reduceIte, ri_eq, Int.natCast_add, Int.cast_ofNat_Int, if_pos, if_neg, Nat.reduceAdd, List.nil_append]; try simp) (Nat.le_refl _)⟩
    · obtain rfl : k = T.length := by omega
      simp (disch := omega) only [Try.ntmps62, Try.results62, go_sem, Nat.reduceLT, Nat.reduceLeDiff, Nat.reduceEqDiff, Nat.reduceAdd, Nat.reduceSub, Nat.reduceMul, reduceIte, ↓reduceIte, reduceCtorEq, Int.reduceToNat, Int.reduceLE, Int.reduceLT, Int.reduceNeg, Int.reduceSub, Int.reduceAdd, Int.reduceMul, rt]
      exact Fin.val (by rw [hb])
  · have hb : boundOf M T = -1 := by rw [boundOf, if_neg (by rw [h]; simp)]
    rw [h] at w1
    simp (disch := omega) only [Try.ntmps62, Try.results62, go_sem, Nat.reduceLT, Nat.reduceLeDiff, Nat.reduceEqDiff, Nat.reduceAdd, Nat.reduceSub, Nat.reduceMul, reduceIte, ↓reduceIte, reduceCtorEq, Int.reduceToNat, Int.reduceLE, Int.reduceLT, Int.reduceNeg, Int.reduceSub, Int.reduceAdd, Int.reduceMul, rr_eq, rt]
    refine w1.callV 0 (viewL_cons_of (view_row) (viewL_cons_of (view_row) viewL_nil_of)) ?_
    simp (disch := omega) only [Try.ntmps62, Try.results62, go_sem, Nat.reduceLT, Nat.reduceLeDiff, Nat.reduceEqDiff, Nat.reduceAdd, Nat.reduceSub, Nat.reduceMul, reduceIte, ↓reduceIte, reduceCtorEq, Int.reduceToNat, Int.reduceLE, Int.reduceLT, Int.reduceNeg, Int.reduceSub, Int.reduceAdd, Int.reduceMul, rr_eq, rt]
    exact Fin.val (by rw [hb])
set_option maxHeartbeats 4000000 in
theorem Try.specBound_ok (M : List (List Int)) (T : List Tri) (hM : M.length ≤ 1048576) (hR : ∀ i, i < M.length → (mrow M i).length ≤ 1048576) (hT : T.length ≤ 1048576) : PCall Try.prog 59 [rr M, rt T] (.val (.int .i64 (boundOf M T))) := by
  refine FCall.pcall (R := fun r _ => r = .val (.int .i64 (boundOf M T))) ?_ 0 (by rintro r H rfl; exact view_int)
  have w1 := Try.specPack_ok M T hM hR hT
  have lT := encL_length (enc := tri4) (z := 4) tri4_z T
  refine FCall.of_body Try.func59 rfl (by kernel_rfl) (by simp [Try.ntmps59]) ?_
  refine SW_of_vc Try.mixed _ _ _ (by kernel_rfl) ?_
  rcases Bool.eq_false_or_eq_true (isPk M T) with h | h
  · have hwk := (packP_of h).w
    have hb : boundOf M T = wsum T T.length := by rw [boundOf, if_pos h]
    rw [h] at w1
    simp (disch := omega) only [Try.ntmps59, Try.results59, go_sem, Nat.reduceLT, Nat.reduceLeDiff, Nat.reduceEqDiff, Nat.reduceAdd, Nat.reduceSub, Nat.reduceMul, reduceIte, ↓reduceIte, reduceCtorEq, Int.reduceToNat, Int.reduceLE, Int.reduceLT, Int.reduceNeg, Int.reduceSub, Int.reduceAdd, Int.reduceMul, rr_eq, rt]
    refine w1.callV 0 (viewL_cons_of (view_row) (viewL_cons_of (view_row) viewL_nil_of)) ?_
    simp (disch := omega) only [Try.ntmps59, Try.results59, go_sem, Nat.reduceLT, Nat.reduceLeDiff, Nat.reduceEqDiff, Nat.reduceAdd, Nat.reduceSub, Nat.reduceMul, reduceIte, ↓reduceIte, reduceCtorEq, Int.reduceToNat, Int.reduceLE, Int.reduceLT, Int.reduceNeg, Int.reduceSub, Int.reduceAdd, Int.reduceMul, rr_eq, rt]
    refine LoopW.loop (fun k : Nat => ⟨ofL [(1, rt T), (5, .val (.int .i64 (wsum T k))), (6, .val (.int .i64 k))], hp [] 0⟩) (fun k => k ≤ T.length) (fun k => T.length - k) 0 (by simp) (Wk.of (by simp only [go_sem, ↓List.forall_mem_cons, List.not_mem_nil, false_implies, implies_true, and_true, true_and, and_self, Nat.reduceEqDiff, reduceIte, ↓reduceIte, ri_eq, Int.natCast_add, Int.cast_ofNat_Int, rt, wsum, List.take_zero, List.map_nil, List.sum_nil]; try simp) rfl) ?_
    intro k hk
    refine SW_of_vc Try.mixed _ _ _ (by kernel_rfl) ?_
    by_cases hlt : k < T.length
    · obtain ⟨a, b, c, w, ht⟩ := tri_ex T k
      obtain ⟨_, _, _, q3, _⟩ := tri_of hlt ht
      have hs := wsum_succ hlt
      have hr := wsum_r hwk k hk
      have hwk2 := hwk k hlt
      rw [ht] at hs hwk2
      simp only at hs hwk2
      simp (disch := omega) only [Try.ntmps59, Try.results59, go_sem, Nat.reduceLT, Nat.reduceLeDiff, Nat.reduceEqDiff, Nat.reduceAdd, Nat.reduceSub, Nat.reduceMul, reduceIte, ↓reduceIte, reduceCtorEq, Int.reduceToNat, Int.reduceLE, Int.reduceLT, Int.reduceNeg, Int.reduceSub, Int.reduceAdd, Int.reduceMul, rt, lT, q3]
      exact ⟨k + 1, hlt, by omega, Wk.of (by simp only [go_sem, ↓List.forall_mem_cons, List.not_mem_nil, false_implies, implies_true, and_true, true_and, and_self, Nat.reduceEqDiff, reduceIte, ↓reduceIte, ri_eq, Int.natCast_add, Int.cast_ofNat_Int, rt, hs]; try simp) rfl⟩
    · obtain rfl : k = T.length := by omega
      simp (disch := omega) only [Try.ntmps59, Try.results59, go_sem, Nat.reduceLT, Nat.reduceLeDiff, Nat.reduceEqDiff, Nat.reduceAdd, Nat.reduceSub, Nat.reduceMul, reduceIte, ↓reduceIte, reduceCtorEq, Int.reduceToNat, Int.reduceLE, Int.reduceLT, Int.reduceNeg, Int.reduceSub, Int.reduceAdd, Int.reduceMul, rt]
      exact Fin.val (by rw [hb])
  · have hb : boundOf M T = -1 := by rw [boundOf, if_neg (by rw [h]; simp)]
    rw [h] at w1
    simp (disch := omega) only [Try.ntmps59, Try.results59, go_sem, Nat.reduceLT, Nat.reduceLeDiff, Nat.reduceEqDiff, Nat.reduceAdd, Nat.reduceSub, Nat.reduceMul, reduceIte, ↓reduceIte, reduceCtorEq, Int.reduceToNat, Int.reduceLE, Int.reduceLT, Int.reduceNeg, Int.reduceSub, Int.reduceAdd, Int.reduceMul, rr_eq, rt]
    refine w1.callV 0 (viewL_cons_of (view_row) (viewL_cons_of (view_row) viewL_nil_of)) ?_
    simp (disch := omega) only [Try.ntmps59, Try.results59, go_sem, Nat.reduceLT, Nat.reduceLeDiff, Nat.reduceEqDiff, Nat.reduceAdd, Nat.reduceSub, Nat.reduceMul, reduceIte, ↓reduceIte, reduceCtorEq, Int.reduceToNat, Int.reduceLE, Int.reduceLT, Int.reduceNeg, Int.reduceSub, Int.reduceAdd, Int.reduceMul, rr_eq, rt]
    exact Fin.val (by rw [hb])
end Go.Sh
