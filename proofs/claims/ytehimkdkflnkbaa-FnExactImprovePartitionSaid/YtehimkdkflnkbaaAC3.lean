/-
  The best move, of the program.
-/
import Derived.Test.YtehimkdkflnkbaaAC2
namespace Go.Sh
set_option linter.unusedSimpArgs false
set_option linter.unusedVariables false
open Go Go.Proofs

theorem Try.canMove_t (M : List (List Int)) (C : List Con) (L : List Int) (hM : M.length ≤ 1048576) (hR : ∀ i, i < M.length → (mrow M i).length ≤ 1048576) (hC : C.length ≤ 1048576) (hL : L.length ≤ 1048576) (h : canM M C L) :
    PCall Try.prog 99 [rr M, rc C, ri L] (.val (.bool true)) := by
  refine FCall.pcall (R := fun r _ => r = .val (.bool true)) ?_ 0 (by rintro r H rfl; exact view_bool)
  have w1 := Try.implPartitionCost_ok M L hM hR hL
  have w2 := Try.keeps_ok L C hL hC
  rw [h.2] at w2
  have hp0 := h.1
  refine FCall.of_body Try.func99 rfl (by kernel_rfl) (by simp [Try.ntmps99]) ?_
  refine SW_of_vc Try.mixed _ _ _ (by kernel_rfl) ?_
  simp (disch := omega) only [Try.ntmps99, Try.results99, go_sem, Nat.reduceLT, Nat.reduceLeDiff, Nat.reduceEqDiff, Nat.reduceAdd, Nat.reduceSub, Nat.reduceMul, reduceIte, ↓reduceIte, reduceCtorEq, Int.reduceToNat, Int.reduceLE, Int.reduceLT, Int.reduceNeg, Int.reduceSub, Int.reduceAdd, Int.reduceMul, rr_eq, rc]
  refine w1.callV 0 (viewL_cons_of (view_row) (viewL_cons_of (view_rowL (by first | rfl | simp [marks_length, canon_length] | omega)) viewL_nil_of)) ?_
  simp (disch := omega) only [Try.ntmps99, Try.results99, go_sem, Nat.reduceLT, Nat.reduceLeDiff, Nat.reduceEqDiff, Nat.reduceAdd, Nat.reduceSub, Nat.reduceMul, reduceIte, ↓reduceIte, reduceCtorEq, Int.reduceToNat, Int.reduceLE, Int.reduceLT, Int.reduceNeg, Int.reduceSub, Int.reduceAdd, Int.reduceMul, rr_eq, rc]
  refine w2.callV 2 (viewL_cons_of view_row (viewL_cons_of view_row viewL_nil_of)) ?_
  simp (disch := omega) only [Try.ntmps99, Try.results99, go_sem, Nat.reduceLT, Nat.reduceLeDiff, Nat.reduceEqDiff, Nat.reduceAdd, Nat.reduceSub, Nat.reduceMul, reduceIte, ↓reduceIte, reduceCtorEq, Int.reduceToNat, Int.reduceLE, Int.reduceLT, Int.reduceNeg, Int.reduceSub, Int.reduceAdd, Int.reduceMul, rr_eq, rc]
  exact Fin.val rfl
theorem Try.canMove_f (M : List (List Int)) (C : List Con) (L : List Int) (hM : M.length ≤ 1048576) (hR : ∀ i, i < M.length → (mrow M i).length ≤ 1048576) (hC : C.length ≤ 1048576) (hL : L.length ≤ 1048576) (h : ¬ canM M C L) :
    PCall Try.prog 99 [rr M, rc C, ri L] (.val (.bool false)) := by
  refine FCall.pcall (R := fun r _ => r = .val (.bool false)) ?_ 0 (by rintro r H rfl; exact view_bool)
  have w1 := Try.implPartitionCost_ok M L hM hR hL
  have w2 := Try.keeps_ok L C hL hC
  refine FCall.of_body Try.func99 rfl (by kernel_rfl) (by simp [Try.ntmps99]) ?_
  refine SW_of_vc Try.mixed _ _ _ (by kernel_rfl) ?_
  by_cases hp : pcost M L < 0
  · simp (disch := omega) only [Try.ntmps99, Try.results99, go_sem, Nat.reduceLT, Nat.reduceLeDiff, Nat.reduceEqDiff, Nat.reduceAdd, Nat.reduceSub, Nat.reduceMul, reduceIte, ↓reduceIte, reduceCtorEq, Int.reduceToNat, Int.reduceLE, Int.reduceLT, Int.reduceNeg, Int.reduceSub, Int.reduceAdd, Int.reduceMul, rr_eq, rc]
    refine w1.callV 0 (viewL_cons_of (view_row) (viewL_cons_of (view_rowL (by first | rfl | simp [marks_length, canon_length] | omega)) viewL_nil_of)) ?_
    simp (disch := omega) only [Try.ntmps99, Try.results99, go_sem, Nat.reduceLT, Nat.reduceLeDiff, Nat.reduceEqDiff, Nat.reduceAdd, Nat.reduceSub, Nat.reduceMul, reduceIte, ↓reduceIte, reduceCtorEq, Int.reduceToNat, Int.reduceLE, Int.reduceLT, Int.reduceNeg, Int.reduceSub, Int.reduceAdd, Int.reduceMul, rr_eq, rc]
    exact Fin.val rfl
  · rw [kp_not hp h] at w2
    simp (disch := omega) only [Try.ntmps99, Try.results99, go_sem, Nat.reduceLT, Nat.reduceLeDiff, Nat.reduceEqDiff, Nat.reduceAdd, Nat.reduceSub, Nat.reduceMul, reduceIte, ↓reduceIte, reduceCtorEq, Int.reduceToNat, Int.reduceLE, Int.reduceLT, Int.reduceNeg, Int.reduceSub, Int.reduceAdd, Int.reduceMul, rr_eq, rc]
    refine w1.callV 0 (viewL_cons_of (view_row) (viewL_cons_of (view_rowL (by first | rfl | simp [marks_length, canon_length] | omega)) viewL_nil_of)) ?_
    simp (disch := omega) only [Try.ntmps99, Try.results99, go_sem, Nat.reduceLT, Nat.reduceLeDiff, Nat.reduceEqDiff, Nat.reduceAdd, Nat.reduceSub, Nat.reduceMul, reduceIte, ↓reduceIte, reduceCtorEq, Int.reduceToNat, Int.reduceLE, Int.reduceLT, Int.reduceNeg, Int.reduceSub, Int.reduceAdd, Int.reduceMul, rr_eq, rc]
    refine w2.callV 2 (viewL_cons_of view_row (viewL_cons_of view_row viewL_nil_of)) ?_
    simp (disch := omega) only [Try.ntmps99, Try.results99, go_sem, Nat.reduceLT, Nat.reduceLeDiff, Nat.reduceEqDiff, Nat.reduceAdd, Nat.reduceSub, Nat.reduceMul, reduceIte, ↓reduceIte, reduceCtorEq, Int.reduceToNat, Int.reduceLE, Int.reduceLT, Int.reduceNeg, Int.reduceSub, Int.reduceAdd, Int.reduceMul, rr_eq, rc]
    exact Fin.val rfl
theorem Try.moved_ok (L : List Int) (it bl : Int) (h : moveOk L it bl = true) : PCall Try.prog 103 [ri L, .val (.int .i64 it), .val (.int .i64 bl)] (ri (moveTo L it bl)) :=
  (Try.moved_f L it bl h).one.pcall 2 (fun _ _ h => one_view h (moveTo_length L it bl).symm)

set_option maxRecDepth 20000 in
set_option maxHeartbeats 8000000 in
theorem Try.implBM_ok (M : List (List Int)) (C : List Con) (L : List Int) (hM : M.length ≤ 1048576) (hR : ∀ i, i < M.length → (mrow M i).length ≤ 1048576) (hC : C.length ≤ 1048576) (hL : L.length ≤ 1048576) :
    PCall Try.prog 47 [rr M, rc C, ri L] (mvR (bmv M C L)) := by
  refine FCall.pcall (R := fun r _ => r = mvR (bmv M C L)) ?_ 2 (by rintro r H rfl; exact view_mv)
  refine FCall.of_body Try.func47 rfl (by kernel_rfl) (by simp [Try.ntmps47]) ?_
  refine SW_of_vc2 (onD 16 [(58, 6)] []) Try.mixed _ _ _ (by kernel_rfl) ?_
  by_cases hcan : canM M C L
  case neg =>
    rw [bmv_f hcan]
    simp (disch := omega) only [Try.ntmps47, Try.results47, go_sem, Nat.reduceLT, Nat.reduceLeDiff, Nat.reduceEqDiff, Nat.reduceAdd, Nat.reduceSub, Nat.reduceMul, reduceIte, ↓reduceIte, reduceCtorEq, Int.reduceToNat, Int.reduceLE, Int.reduceLT, Int.reduceNeg, Int.reduceSub, Int.reduceAdd, Int.reduceMul, rr_eq, rc, mvS]
    refine (Try.canMove_f M C L hM hR hC hL hcan).callV 2 (viewL_cons_of view_row (viewL_cons_of view_row (viewL_cons_of view_row viewL_nil_of))) ?_
    simp (disch := omega) only [Try.ntmps47, Try.results47, go_sem, Nat.reduceLT, Nat.reduceLeDiff, Nat.reduceEqDiff, Nat.reduceAdd, Nat.reduceSub, Nat.reduceMul, reduceIte, ↓reduceIte, reduceCtorEq, Int.reduceToNat, Int.reduceLE, Int.reduceLT, Int.reduceNeg, Int.reduceSub, Int.reduceAdd, Int.reduceMul, rr_eq, rc, mvS]
    exact fin_mv rfl
  rw [bmv_t hcan]
  obtain ⟨hw, hpt, hl, hpc⟩ := canM_r hcan
  have hln := hw.1
  have w1 := Try.implCost_ok M L hw hl
  have b1 := cc_b (L := L) hw L.length (by omega)
  have wB := Try.blockCount_ok L hpt
  have g1 := top_ge L L.length (Nat.le_refl _)
  have g2 := top_lt hpt L.length (Nat.le_refl _)
  have hok : ∀ i b : Nat, i < L.length → moveOk L i b = decide ((b : Int) ≤ top L L.length + 1) := fun i b h => moveOk_in hpt h
  obtain ⟨T, hT⟩ : ∃ T : Nat, top L L.length + 1 = T := ⟨(top L L.length + 1).toNat, by omega⟩
  rw [hT] at hok wB
  have hTl : T ≤ L.length := by omega
  clear g1 g2
  simp (disch := omega) only [Try.ntmps47, Try.results47, go_sem, Nat.reduceLT, Nat.reduceLeDiff, Nat.reduceEqDiff, Nat.reduceAdd, Nat.reduceSub, Nat.reduceMul, reduceIte, ↓reduceIte, reduceCtorEq, Int.reduceToNat, Int.reduceLE, Int.reduceLT, Int.reduceNeg, Int.reduceSub, Int.reduceAdd, Int.reduceMul, rr_eq, rc, mvS]
  refine (Try.canMove_t M C L hM hR hC hL hcan).callV 2 (viewL_cons_of view_row (viewL_cons_of view_row (viewL_cons_of view_row viewL_nil_of))) ?_
  simp (disch := omega) only [Try.ntmps47, Try.results47, go_sem, Nat.reduceLT, Nat.reduceLeDiff, Nat.reduceEqDiff, Nat.reduceAdd, Nat.reduceSub, Nat.reduceMul, reduceIte, ↓reduceIte, reduceCtorEq, Int.reduceToNat, Int.reduceLE, Int.reduceLT, Int.reduceNeg, Int.reduceSub, Int.reduceAdd, Int.reduceMul, rr_eq, rc, mvS]
  refine w1.callV 0 (viewL_cons_of (view_row) (viewL_cons_of (view_rowL (by first | rfl | simp [marks_length, canon_length] | omega)) viewL_nil_of)) ?_
  simp (disch := omega) only [Try.ntmps47, Try.results47, go_sem, Nat.reduceLT, Nat.reduceLeDiff, Nat.reduceEqDiff, Nat.reduceAdd, Nat.reduceSub, Nat.reduceMul, reduceIte, ↓reduceIte, reduceCtorEq, Int.reduceToNat, Int.reduceLE, Int.reduceLT, Int.reduceNeg, Int.reduceSub, Int.reduceAdd, Int.reduceMul, rr_eq, rc, mvS]
  clear w1
  refine LoopW.loop (fun i : Nat => ⟨ofL [(0, rr M), (1, rc C), (2, ri L), (6, .optr 0 0), (7, .val (.bool false)), (8, .optr 1 0), (9, .val (.int .i64 (cc M L L.length))), (24, .val (.int .i64 L.length)), (25, .val (.int .i64 i))], hp [(1, ⟨mvS (bmTo M C L i), true⟩), (0, ⟨mvS (0, 0, 0), true⟩)] 2⟩) (fun i => i ≤ L.length) (fun i => L.length - i) 0 (by omega) (Wk.ofH (by simp only [go_sem, ↓List.forall_mem_cons, List.not_mem_nil, false_implies, implies_true, and_true, true_and, and_self, Nat.reduceEqDiff, reduceIte, ↓reduceIte, ri_eq, Int.natCast_add, Int.cast_ofNat_Int, rr_eq, rc]; try simp) (by simp [hp, hmap, bmTo]) (by simp [hp])) ?_
  intro i hi
  refine SW_of_vc2 (onD 16 [(58, 6)] []) Try.mixed _ _ _ (by kernel_rfl) ?_
  by_cases hlt : i < L.length
  · simp (disch := omega) only [Try.ntmps47, Try.results47, go_sem, Nat.reduceLT, Nat.reduceLeDiff, Nat.reduceEqDiff, Nat.reduceAdd, Nat.reduceSub, Nat.reduceMul, reduceIte, ↓reduceIte, reduceCtorEq, Int.reduceToNat, Int.reduceLE, Int.reduceLT, Int.reduceNeg, Int.reduceSub, Int.reduceAdd, Int.reduceMul, rr_eq, rc, mvS]
    refine LoopW.loop (fun k : Nat => ⟨ofL [(0, rr M), (1, rc C), (2, ri L), (6, .optr 0 0), (7, .val (.bool false)), (8, .optr 1 0), (9, .val (.int .i64 (cc M L L.length))), (10, .val (.int .i64 i)), (24, .val (.int .i64 L.length)), (25, .val (.int .i64 i)), (11, .val (.int .i64 k))], hp [(1, ⟨mvS (bmRow M C L (bmTo M C L i) i k), true⟩), (0, ⟨mvS (0, 0, 0), true⟩)] 2⟩) (fun k => k ≤ T + 1) (fun k => T + 1 - k) 0 (by omega) (Wk.ofH (by simp only [go_sem, ↓List.forall_mem_cons, List.not_mem_nil, false_implies, implies_true, and_true, true_and, and_self, Nat.reduceEqDiff, reduceIte, ↓reduceIte, ri_eq, Int.natCast_add, Int.cast_ofNat_Int, rr_eq, rc]; try simp) (by simp [hp, hmap, bmRow]) (by simp [hp])) ?_
    intro k hk
    refine SW_of_vc2 (onD 16 [(58, 6)] []) Try.mixed _ _ _ (by kernel_rfl) ?_
    by_cases hlt2 : k ≤ T
    · have hokk : moveOk L i k = true := by rw [hok i k hlt]; exact decide_eq_true (by omega)
      have hml := moveTo_length L i k
      have w3 := Try.moved_ok L i k hokk
      have w4 := Try.implCost_ok M (moveTo L i k) hw (by omega)
      have b2 := cc_b (L := moveTo L i k) hw L.length (by omega)
      rw [hml] at w4
      have w5 := Try.keeps_ok (moveTo L i k) C (by rw [hml]; exact hL) hC
      have hgn : gain M L i k = cc M L L.length - cc M (moveTo L i k) L.length := if_pos ⟨hokk, hcan.1⟩
      have hb : bmRow M C L (bmTo M C L i) i (k + 1) = bstep M C L (bmRow M C L (bmTo M C L i) i k) i k := rfl
      rw [bstep, hgn] at hb
      generalize hb2 : bmRow M C L (bmTo M C L i) i (k + 1) = t2 at *
      generalize bmRow M C L (bmTo M C L i) i k = t at *
      generalize cc M (moveTo L i k) L.length = c2 at *
      generalize cc M L L.length = c1 at *
      by_cases hg : t.2.2 < c1 - c2
      · rcases Bool.eq_false_or_eq_true (C.all (kp (moveTo L i k))) with hkp | hkp
        · rw [hkp] at w5
          rw [if_pos ⟨hokk, hg, hkp⟩] at hb
          subst hb
          simp (disch := omega) only [Try.ntmps47, Try.results47, go_sem, Nat.reduceLT, Nat.reduceLeDiff, Nat.reduceEqDiff, Nat.reduceAdd, Nat.reduceSub, Nat.reduceMul, reduceIte, ↓reduceIte, reduceCtorEq, Int.reduceToNat, Int.reduceLE, Int.reduceLT, Int.reduceNeg, Int.reduceSub, Int.reduceAdd, Int.reduceMul, rr_eq, rc, mvS]
          refine wB.callV 0 (viewL_cons_of (view_rowL (by first | rfl | simp [marks_length, canon_length] | omega)) viewL_nil_of) ?_
          simp (disch := omega) only [Try.ntmps47, Try.results47, go_sem, Nat.reduceLT, Nat.reduceLeDiff, Nat.reduceEqDiff, Nat.reduceAdd, Nat.reduceSub, Nat.reduceMul, reduceIte, ↓reduceIte, reduceCtorEq, Int.reduceToNat, Int.reduceLE, Int.reduceLT, Int.reduceNeg, Int.reduceSub, Int.reduceAdd, Int.reduceMul, rr_eq, rc, mvS]
          refine w3.callV 0 (viewL_cons_of (view_rowL (by first | rfl | simp [marks_length, canon_length] | omega)) (viewL_cons_of (view_int) (viewL_cons_of (view_int) viewL_nil_of))) ?_
          simp (disch := omega) only [Try.ntmps47, Try.results47, go_sem, Nat.reduceLT, Nat.reduceLeDiff, Nat.reduceEqDiff, Nat.reduceAdd, Nat.reduceSub, Nat.reduceMul, reduceIte, ↓reduceIte, reduceCtorEq, Int.reduceToNat, Int.reduceLE, Int.reduceLT, Int.reduceNeg, Int.reduceSub, Int.reduceAdd, Int.reduceMul, rr_eq, rc, mvS]
          refine w4.callV 0 (viewL_cons_of (view_row) (viewL_cons_of (view_rowL (by first | rfl | simp [marks_length, canon_length] | omega)) viewL_nil_of)) ?_
          simp (disch := omega) only [Try.ntmps47, Try.results47, go_sem, Nat.reduceLT, Nat.reduceLeDiff, Nat.reduceEqDiff, Nat.reduceAdd, Nat.reduceSub, Nat.reduceMul, reduceIte, ↓reduceIte, reduceCtorEq, Int.reduceToNat, Int.reduceLE, Int.reduceLT, Int.reduceNeg, Int.reduceSub, Int.reduceAdd, Int.reduceMul, rr_eq, rc, mvS]
          refine w5.callV 2 (viewL_cons_of view_row (viewL_cons_of view_row viewL_nil_of)) ?_
          simp (disch := omega) only [Try.ntmps47, Try.results47, go_sem, Nat.reduceLT, Nat.reduceLeDiff, Nat.reduceEqDiff, Nat.reduceAdd, Nat.reduceSub, Nat.reduceMul, reduceIte, ↓reduceIte, reduceCtorEq, Int.reduceToNat, Int.reduceLE, Int.reduceLT, Int.reduceNeg, Int.reduceSub, Int.reduceAdd, Int.reduceMul, rr_eq, rc, mvS]
          exact ⟨k + 1, by omega, by omega, Wk.ofH (by simp only [go_sem, ↓List.forall_mem_cons, List.not_mem_nil, false_implies, implies_true, and_true, true_and, and_self, Nat.reduceEqDiff, reduceIte, ↓reduceIte, ri_eq, Int.natCast_add, Int.cast_ofNat_Int, rr_eq, rc]; try simp) (by simp (disch := omega) only [go_sem, ↓List.forall_mem_cons, List.not_mem_nil, false_implies, implies_true, and_true, true_and, and_self, Nat.reduceEqDiff, reduceIte, ↓reduceIte, ri_eq, Int.natCast_add, Int.cast_ofNat_Int, if_pos, if_neg, Nat.reduceAdd, List.nil_append, hb2]; try simp) (Nat.le_refl _)⟩
        · rw [hkp] at w5
          rw [if_neg (fun h => by rw [hkp] at h; cases h.2.2)] at hb
          subst hb
          simp (disch := omega) only [Try.ntmps47, Try.results47, go_sem, Nat.reduceLT, Nat.reduceLeDiff, Nat.reduceEqDiff, Nat.reduceAdd, Nat.reduceSub, Nat.reduceMul, reduceIte, ↓reduceIte, reduceCtorEq, Int.reduceToNat, Int.reduceLE, Int.reduceLT, Int.reduceNeg, Int.reduceSub, Int.reduceAdd, Int.reduceMul, rr_eq, rc, mvS]
          refine wB.callV 0 (viewL_cons_of (view_rowL (by first | rfl | simp [marks_length, canon_length] | omega)) viewL_nil_of) ?_
          simp (disch := omega) only [Try.ntmps47, Try.results47, go_sem, Nat.reduceLT, Nat.reduceLeDiff, Nat.reduceEqDiff, Nat.reduceAdd, Nat.reduceSub, Nat.reduceMul, reduceIte, ↓reduceIte, reduceCtorEq, Int.reduceToNat, Int.reduceLE, Int.reduceLT, Int.reduceNeg, Int.reduceSub, Int.reduceAdd, Int.reduceMul, rr_eq, rc, mvS]
          refine w3.callV 0 (viewL_cons_of (view_rowL (by first | rfl | simp [marks_length, canon_length] | omega)) (viewL_cons_of (view_int) (viewL_cons_of (view_int) viewL_nil_of))) ?_
          simp (disch := omega) only [Try.ntmps47, Try.results47, go_sem, Nat.reduceLT, Nat.reduceLeDiff, Nat.reduceEqDiff, Nat.reduceAdd, Nat.reduceSub, Nat.reduceMul, reduceIte, ↓reduceIte, reduceCtorEq, Int.reduceToNat, Int.reduceLE, Int.reduceLT, Int.reduceNeg, Int.reduceSub, Int.reduceAdd, Int.reduceMul, rr_eq, rc, mvS]
          refine w4.callV 0 (viewL_cons_of (view_row) (viewL_cons_of (view_rowL (by first | rfl | simp [marks_length, canon_length] | omega)) viewL_nil_of)) ?_
          simp (disch := omega) only [Try.ntmps47, Try.results47, go_sem, Nat.reduceLT, Nat.reduceLeDiff, Nat.reduceEqDiff, Nat.reduceAdd, Nat.reduceSub, Nat.reduceMul, reduceIte, ↓reduceIte, reduceCtorEq, Int.reduceToNat, Int.reduceLE, Int.reduceLT, Int.reduceNeg, Int.reduceSub, Int.reduceAdd, Int.reduceMul, rr_eq, rc, mvS]
          refine w5.callV 2 (viewL_cons_of view_row (viewL_cons_of view_row viewL_nil_of)) ?_
          simp (disch := omega) only [Try.ntmps47, Try.results47, go_sem, Nat.reduceLT, Nat.reduceLeDiff, Nat.reduceEqDiff, Nat.reduceAdd, Nat.reduceSub, Nat.reduceMul, reduceIte, ↓reduceIte, reduceCtorEq, Int.reduceToNat, Int.reduceLE, Int.reduceLT, Int.reduceNeg, Int.reduceSub, Int.reduceAdd, Int.reduceMul, rr_eq, rc, mvS]
          exact ⟨k + 1, by omega, by omega, Wk.ofH (by simp only [go_sem, ↓List.forall_mem_cons, List.not_mem_nil, false_implies, implies_true, and_true, true_and, and_self, Nat.reduceEqDiff, reduceIte, ↓reduceIte, ri_eq, Int.natCast_add, Int.cast_ofNat_Int, rr_eq, rc]; try simp) (by simp (disch := omega) only [go_sem, ↓List.forall_mem_cons, List.not_mem_nil, false_implies, implies_true, and_true, true_and, and_self, Nat.reduceEqDiff, reduceIte, ↓reduceIte, ri_eq, Int.natCast_add, Int.cast_ofNat_Int, if_pos, if_neg, Nat.reduceAdd, List.nil_append, hb2]; try simp) (Nat.le_refl _)⟩
      · rw [if_neg (fun h => hg h.2.1)] at hb
        subst hb
        simp (disch := omega) only [Try.ntmps47, Try.results47, go_sem, Nat.reduceLT, Nat.reduceLeDiff, Nat.reduceEqDiff, Nat.reduceAdd, Nat.reduceSub, Nat.reduceMul, reduceIte, ↓reduceIte, reduceCtorEq, Int.reduceToNat, Int.reduceLE, Int.reduceLT, Int.reduceNeg, Int.reduceSub, Int.reduceAdd, Int.reduceMul, rr_eq, rc, mvS]
        refine wB.callV 0 (viewL_cons_of (view_rowL (by first | rfl | simp [marks_length, canon_length] | omega)) viewL_nil_of) ?_
        simp (disch := omega) only [Try.ntmps47, Try.results47, go_sem, Nat.reduceLT, Nat.reduceLeDiff, Nat.reduceEqDiff, Nat.reduceAdd, Nat.reduceSub, Nat.reduceMul, reduceIte, ↓reduceIte, reduceCtorEq, Int.reduceToNat, Int.reduceLE, Int.reduceLT, Int.reduceNeg, Int.reduceSub, Int.reduceAdd, Int.reduceMul, rr_eq, rc, mvS]
        refine w3.callV 0 (viewL_cons_of (view_rowL (by first | rfl | simp [marks_length, canon_length] | omega)) (viewL_cons_of (view_int) (viewL_cons_of (view_int) viewL_nil_of))) ?_
        simp (disch := omega) only [Try.ntmps47, Try.results47, go_sem, Nat.reduceLT, Nat.reduceLeDiff, Nat.reduceEqDiff, Nat.reduceAdd, Nat.reduceSub, Nat.reduceMul, reduceIte, ↓reduceIte, reduceCtorEq, Int.reduceToNat, Int.reduceLE, Int.reduceLT, Int.reduceNeg, Int.reduceSub, Int.reduceAdd, Int.reduceMul, rr_eq, rc, mvS]
        refine w4.callV 0 (viewL_cons_of (view_row) (viewL_cons_of (view_rowL (by first | rfl | simp [marks_length, canon_length] | omega)) viewL_nil_of)) ?_
        simp (disch := omega) only [Try.ntmps47, Try.results47, go_sem, Nat.reduceLT, Nat.reduceLeDiff, Nat.reduceEqDiff, Nat.reduceAdd, Nat.reduceSub, Nat.reduceMul, reduceIte, ↓reduceIte, reduceCtorEq, Int.reduceToNat, Int.reduceLE, Int.reduceLT, Int.reduceNeg, Int.reduceSub, Int.reduceAdd, Int.reduceMul, rr_eq, rc, mvS]
        exact ⟨k + 1, by omega, by omega, Wk.ofH (by simp only [go_sem, ↓List.forall_mem_cons, List.not_mem_nil, false_implies, implies_true, and_true, true_and, and_self, Nat.reduceEqDiff, reduceIte, ↓reduceIte, ri_eq, Int.natCast_add, Int.cast_ofNat_Int, rr_eq, rc]; try simp) (by simp (disch := omega) only [go_sem, ↓List.forall_mem_cons, List.not_mem_nil, false_implies, implies_true, and_true, true_and, and_self, Nat.reduceEqDiff, reduceIte, ↓reduceIte, ri_eq, Int.natCast_add, Int.cast_ofNat_Int, if_pos, if_neg, Nat.reduceAdd, List.nil_append, hb2]; try simp) (Nat.le_refl _)⟩
    · obtain rfl : k = T + 1 := by omega
      have e : bmRow M C L (bmTo M C L i) i (T + 1) = bmTo M C L (i + 1) := by
        show _ = bmRow M C L (bmTo M C L i) i (L.length + 1)
        exact (bmRow_stop (fun b hb => by rw [hok i b hlt]; exact decide_eq_false (by omega)) (by omega)).symm
      rw [e]
      simp (disch := omega) only [Try.ntmps47, Try.results47, go_sem, Nat.reduceLT, Nat.reduceLeDiff, Nat.reduceEqDiff, Nat.reduceAdd, Nat.reduceSub, Nat.reduceMul, reduceIte, ↓reduceIte, reduceCtorEq, Int.reduceToNat, Int.reduceLE, Int.reduceLT, Int.reduceNeg, Int.reduceSub, Int.reduceAdd, Int.reduceMul, rr_eq, rc, mvS]
      refine wB.callV 0 (viewL_cons_of (view_rowL (by first | rfl | simp [marks_length, canon_length] | omega)) viewL_nil_of) ?_
      simp (disch := omega) only [Try.ntmps47, Try.results47, go_sem, Nat.reduceLT, Nat.reduceLeDiff, Nat.reduceEqDiff, Nat.reduceAdd, Nat.reduceSub, Nat.reduceMul, reduceIte, ↓reduceIte, reduceCtorEq, Int.reduceToNat, Int.reduceLE, Int.reduceLT, Int.reduceNeg, Int.reduceSub, Int.reduceAdd, Int.reduceMul, rr_eq, rc, mvS]
      exact ⟨i + 1, hlt, by omega, Wk.ofH (by simp only [go_sem, ↓List.forall_mem_cons, List.not_mem_nil, false_implies, implies_true, and_true, true_and, and_self, Nat.reduceEqDiff, reduceIte, ↓reduceIte, ri_eq, Int.natCast_add, Int.cast_ofNat_Int, rr_eq, rc]; try simp) (by simp (disch := omega) only [go_sem, ↓List.forall_mem_cons, List.not_mem_nil, false_implies, implies_true, and_true, true_and, and_self, Nat.reduceEqDiff, reduceIte, ↓reduceIte, ri_eq, Int.natCast_add, Int.cast_ofNat_Int, if_pos, if_neg, Nat.reduceAdd, List.nil_append]; try simp) (Nat.le_refl _)⟩
  · obtain rfl : i = L.length := by omega
    simp (disch := omega) only [Try.ntmps47, Try.results47, go_sem, Nat.reduceLT, Nat.reduceLeDiff, Nat.reduceEqDiff, Nat.reduceAdd, Nat.reduceSub, Nat.reduceMul, reduceIte, ↓reduceIte, reduceCtorEq, Int.reduceToNat, Int.reduceLE, Int.reduceLT, Int.reduceNeg, Int.reduceSub, Int.reduceAdd, Int.reduceMul, rr_eq, rc, mvS]
    exact fin_mv rfl
end Go.Sh
