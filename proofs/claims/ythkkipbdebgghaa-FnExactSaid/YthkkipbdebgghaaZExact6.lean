/-
  Texts put together: EExact, LiftB. What each proves stands at its own head, with its conditions.
-/
import Derived.Test.YthkkipbdebgghaaZExact5

/-
  The law FnExact, walked: the best partition keeps the constraints, has the least cost, and no partition that keeps them is cheaper.
-/
namespace Go.Sh
set_option linter.unusedSimpArgs false
set_option linter.unusedVariables false
open Go Go.RowKit Go.Proofs

theorem pcost_t {M : List (List Int)} {L : List Int} (hw : WM M) (hp : isPart L = true) (hl : L.length = M.length) : pcost M L = cc M L L.length := by rw [pcost, if_pos ⟨isWM_t hw, hp, hl⟩]
theorem pcost_nn {M : List (List Int)} {L : List Int} (h : 0 ≤ pcost M L) : isPart L = true ∧ L.length = M.length ∧ pcost M L = cc M L L.length := by
  unfold pcost at h ⊢
  split at h
  · rename_i g
    exact ⟨g.2.1, g.2.2, if_pos g⟩
  · omega
theorem okB_least {M : List (List Int)} {C : List Con} {L : List Int} (h : okB M C) (hk : C.all (kp L) = true) (hc : 0 ≤ pcost M L) : (bs M C).least ≤ pcost M L := by
  obtain ⟨h1, h2, h3⟩ := pcost_nn hc
  rw [h3, h2]
  rw [isPart, Bool.and_eq_true] at h1
  exact (bs_least h.1 h2 h1.1 hk).2
theorem okB_facts {M : List (List Int)} {C : List Con} (h : okB M C) : (isPart (bs M C).first && C.all (kp (bs M C).first)) = true ∧ pcost M (bs M C).first = (bs M C).least ∧ isOpt M C (bs M C).first = true ∧ 0 ≤ ccost M C ∧ 0 < bCount M C := by
  obtain ⟨b1, b2, b3, b4, b5⟩ := (bs_best (C := C) h.1).ok (bs_ok h.1 h.2)
  have hln := h.1.1
  have hl0 := bs_ok h.1 h.2
  have hp : isPart (bs M C).first = true := by
    rw [isPart, b2, b1]; simp [inR]; omega
  have hpc : pcost M (bs M C).first = (bs M C).least := by rw [pcost_t h.1 hp b1, b1, b4]
  have hk : (isPart (bs M C).first && C.all (kp (bs M C).first)) = true := by rw [hp, b3]; rfl
  have hn : okB M [] := ⟨h.1, by
    have ha : areCons M.length [] = true := by simp [areCons, inR]; omega
    rw [isCst, ha, conflict_t ha]; simp [fidx]⟩
  refine ⟨hk, hpc, ?_, ?_, ?_⟩
  · rw [isOpt_t h, hk, hpc]; simp
  · have := okB_least (C := []) (L := (bs M C).first) hn (by simp) (by omega)
    rw [ccost, bCost_t h, bCost_t hn, if_neg (by omega)]
    omega
  · rw [bCount_t h]; omega

set_option maxRecDepth 20000 in
set_option maxHeartbeats 8000000 in
theorem Try.fnExact_ok (B : List Int) (hBw : B.length ≤ 9223372036854775807) : PCall Try.prog 12 [rby B] (.val (.bool true)) := by
  have wbig := Try.big_ok B hBw
  refine FCall.pcall (R := fun r _ => r = .val (.bool true)) ?_ 0 (by rintro r H rfl; exact view_bool)
  refine FCall.of_body Try.func12 rfl (by kernel_rfl) (by simp [Try.ntmps12]) ?_
  refine SW.seqW ⟨ofL [(0, rby B)], hp [] 0⟩ ?_ ?_
  · refine SW_of_vc Try.mixed _ _ _ (by kernel_rfl) ?_
    simp (disch := omega) only [Try.ntmps12, Try.results12, go_sem, Nat.reduceLT, Nat.reduceLeDiff, Nat.reduceEqDiff, Nat.reduceAdd, Nat.reduceSub, Nat.reduceMul, reduceIte, ↓reduceIte, reduceCtorEq, Int.reduceToNat, Int.reduceLE, Int.reduceLT, Int.reduceNeg, Int.reduceSub, Int.reduceAdd, Int.reduceMul, rby, rr_eq, rc, bne_self_eq_false, beq_self_eq_true]
    exact Wk.of (by simp only [go_sem, ↓List.forall_mem_cons, List.not_mem_nil, false_implies, implies_true, and_true, true_and, and_self, Nat.reduceEqDiff, reduceIte, ↓reduceIte, ri_eq, Int.natCast_add, Int.cast_ofNat_Int, rby]; try simp) rfl
  by_cases hB : 1048576 < B.length
  · rw [decide_eq_true hB] at wbig
    refine SW_of_vc Try.mixed _ _ _ (by kernel_rfl) ?_
    simp (disch := omega) only [Try.ntmps12, Try.results12, go_sem, Nat.reduceLT, Nat.reduceLeDiff, Nat.reduceEqDiff, Nat.reduceAdd, Nat.reduceSub, Nat.reduceMul, reduceIte, ↓reduceIte, reduceCtorEq, Int.reduceToNat, Int.reduceLE, Int.reduceLT, Int.reduceNeg, Int.reduceSub, Int.reduceAdd, Int.reduceMul, rby, rr_eq, rc, bne_self_eq_false, beq_self_eq_true]
    refine wbig.callV 0 (viewL_cons_of (view_row) viewL_nil_of) ?_
    simp (disch := omega) only [Try.ntmps12, Try.results12, go_sem, Nat.reduceLT, Nat.reduceLeDiff, Nat.reduceEqDiff, Nat.reduceAdd, Nat.reduceSub, Nat.reduceMul, reduceIte, ↓reduceIte, reduceCtorEq, Int.reduceToNat, Int.reduceLE, Int.reduceLT, Int.reduceNeg, Int.reduceSub, Int.reduceAdd, Int.reduceMul, rby, rr_eq, rc, bne_self_eq_false, beq_self_eq_true]
    exact Fin.val rfl
  rw [decide_eq_false hB] at wbig
  have hB : B.length ≤ 1048576 := by omega
  refine SW.seqW ⟨ofL [(0, rby B)], hp [] 0⟩ ?_ ?_
  · refine SW_of_vc Try.mixed _ _ _ (by kernel_rfl) ?_
    simp (disch := omega) only [Try.ntmps12, Try.results12, go_sem, Nat.reduceLT, Nat.reduceLeDiff, Nat.reduceEqDiff, Nat.reduceAdd, Nat.reduceSub, Nat.reduceMul, reduceIte, ↓reduceIte, reduceCtorEq, Int.reduceToNat, Int.reduceLE, Int.reduceLT, Int.reduceNeg, Int.reduceSub, Int.reduceAdd, Int.reduceMul, rby, rr_eq, rc, bne_self_eq_false, beq_self_eq_true]
    refine wbig.callV 0 (viewL_cons_of (view_row) viewL_nil_of) ?_
    simp (disch := omega) only [Try.ntmps12, Try.results12, go_sem, Nat.reduceLT, Nat.reduceLeDiff, Nat.reduceEqDiff, Nat.reduceAdd, Nat.reduceSub, Nat.reduceMul, reduceIte, ↓reduceIte, reduceCtorEq, Int.reduceToNat, Int.reduceLE, Int.reduceLT, Int.reduceNeg, Int.reduceSub, Int.reduceAdd, Int.reduceMul, rby, rr_eq, rc, bne_self_eq_false, beq_self_eq_true]
    exact Wk.of (by simp only [go_sem, ↓List.forall_mem_cons, List.not_mem_nil, false_implies, implies_true, and_true, true_and, and_self, Nat.reduceEqDiff, reduceIte, ↓reduceIte, ri_eq, Int.natCast_add, Int.cast_ofNat_Int, rby]; try simp) rfl
  refine SW.seqI (fun y : List (List Int) × List Con × List Int => ⟨ofL [(3, rr y.1), (4, rc y.2.1), (5, ri y.2.2)], hp [] 0⟩) (fun y => y.1.length ≤ 7 ∧ (∀ i, i < y.1.length → (mrow y.1 i).length ≤ 6) ∧ y.2.1.length ≤ 5 ∧ y.2.2.length ≤ 9) ?_ ?_
  · refine SW_of_vc Try.mixed _ _ _ (by kernel_rfl) ?_
    simp (disch := omega) only [Try.ntmps12, Try.results12, go_sem, Nat.reduceLT, Nat.reduceLeDiff, Nat.reduceEqDiff, Nat.reduceAdd, Nat.reduceSub, Nat.reduceMul, reduceIte, ↓reduceIte, reduceCtorEq, Int.reduceToNat, Int.reduceLE, Int.reduceLT, Int.reduceNeg, Int.reduceSub, Int.reduceAdd, Int.reduceMul, rby, rr_eq, rc, bne_self_eq_false, beq_self_eq_true]
    refine (Try.drawOpt_e B hB).callE 0 (viewL_cons_of (view_row) viewL_nil_of) ?_
    rintro T ⟨M, C, L, rfl, hM7, hR6, hC5, hL9⟩
    simp (disch := omega) only [Try.ntmps12, Try.results12, go_sem, Nat.reduceLT, Nat.reduceLeDiff, Nat.reduceEqDiff, Nat.reduceAdd, Nat.reduceSub, Nat.reduceMul, reduceIte, ↓reduceIte, reduceCtorEq, Int.reduceToNat, Int.reduceLE, Int.reduceLT, Int.reduceNeg, Int.reduceSub, Int.reduceAdd, Int.reduceMul, rby, rr_eq, rc, bne_self_eq_false, beq_self_eq_true]
    exact ⟨(M, C, L), ⟨hM7, hR6, hC5, hL9⟩, Wk.of (by simp only [go_sem, ↓List.forall_mem_cons, List.not_mem_nil, false_implies, implies_true, and_true, true_and, and_self, Nat.reduceEqDiff, reduceIte, ↓reduceIte, ri_eq, Int.natCast_add, Int.cast_ofNat_Int, rr_eq, rc]; try simp) rfl⟩
  rintro ⟨M, C, L⟩ ⟨hM7, hR6, hC5, hL9⟩
  simp only at hM7 hR6 hC5 hL9
  have hM : M.length ≤ 1048576 := by omega
  have hR : ∀ i, i < M.length → (mrow M i).length ≤ 1048576 := fun i hi => by have := hR6 i hi; omega
  have hC : C.length ≤ 1048576 := by omega
  have hL : L.length ≤ 1048576 := by omega
  have w1 := Try.implBest_ok M C hM hR hC
  have w2 := Try.specBest_ok M C hM hR hC
  have w3 := Try.implBestCost_ok (C := C) hM hR hC
  have w4 := Try.specBestCost_ok (C := C) hM hR hC
  have w5 := Try.implCount_ok (C := C) hM hR hC
  have w6 := Try.specCount_ok (C := C) hM hR hC
  have w7 := Try.implOpt_ok M C L hM hR hC hL
  have w8 := Try.specOpt_ok M C L hM hR hC hL
  have w9 := Try.implCC_ok M C hM hR hC
  have w10 := Try.specCC_ok M C hM hR hC
  have w11 := Try.specPartitionCost_ok M L hM hR hL
  have w12 := Try.specKeepsConstraints_ok L C hL hC
  have hbl : (bpt M C).1.length ≤ 7 := by
    by_cases h : okB M C
    · rw [bpt_len h]; exact hM7
    · rw [bpt_f h]; simp
  have ws := Try.sameInts_ok (bpt M C).1 (by omega)
  have hfacts : (bpt M C).2.2 = true → okB M C ∧ bpt M C = ((bs M C).first, (bs M C).least, true) := fun e => by
    by_cases h : okB M C
    · exact ⟨h, bpt_t h⟩
    · rw [bpt_f h] at e; cases e
  have hno : (bpt M C).2.2 = false → (bpt M C).1.length = 0 ∧ bCount M C = 0 := fun e => by
    by_cases h : okB M C
    · rw [bpt_t h] at e; cases e
    · rw [bpt_f h]; exact ⟨rfl, bCount_f h⟩
  generalize bpt M C = t at *
  obtain ⟨F, z, is⟩ := t
  simp only at w1 w2 hbl ws hfacts hno
  generalize hbc : bCost M C = bc at *
  generalize hbn : bCount M C = bn at *
  generalize hcx : ccost M C = cx at *
  generalize isOpt M C L = io at *
  refine SW.seqW ⟨ofL [(3, rr M), (4, rc C), (5, ri L), (6, ri F), (7, .val (.int .i64 z)), (8, .val (.bool is))], hp [] 0⟩ ?_ ?_
  · refine SW_of_vc Try.mixed _ _ _ (by kernel_rfl) ?_
    simp (disch := omega) only [Try.ntmps12, Try.results12, go_sem, Nat.reduceLT, Nat.reduceLeDiff, Nat.reduceEqDiff, Nat.reduceAdd, Nat.reduceSub, Nat.reduceMul, reduceIte, ↓reduceIte, reduceCtorEq, Int.reduceToNat, Int.reduceLE, Int.reduceLT, Int.reduceNeg, Int.reduceSub, Int.reduceAdd, Int.reduceMul, rby, rr_eq, rc, bne_self_eq_false, beq_self_eq_true]
    refine w1.callV 0 (viewL_cons_of (view_row) (viewL_cons_of (view_row) viewL_nil_of)) ?_
    simp (disch := omega) only [Try.ntmps12, Try.results12, go_sem, Nat.reduceLT, Nat.reduceLeDiff, Nat.reduceEqDiff, Nat.reduceAdd, Nat.reduceSub, Nat.reduceMul, reduceIte, ↓reduceIte, reduceCtorEq, Int.reduceToNat, Int.reduceLE, Int.reduceLT, Int.reduceNeg, Int.reduceSub, Int.reduceAdd, Int.reduceMul, rby, rr_eq, rc, bne_self_eq_false, beq_self_eq_true]
    exact Wk.of (by simp only [go_sem, ↓List.forall_mem_cons, List.not_mem_nil, false_implies, implies_true, and_true, true_and, and_self, Nat.reduceEqDiff, reduceIte, ↓reduceIte, ri_eq, Int.natCast_add, Int.cast_ofNat_Int, rr_eq, rc]; try simp) rfl
  refine SW.seqW ⟨ofL [(3, rr M), (4, rc C), (5, ri L), (6, ri F), (7, .val (.int .i64 z)), (8, .val (.bool is)), (9, ri F), (10, .val (.int .i64 z)), (11, .val (.bool is))], hp [] 0⟩ ?_ ?_
  · refine SW_of_vc Try.mixed _ _ _ (by kernel_rfl) ?_
    simp (disch := omega) only [Try.ntmps12, Try.results12, go_sem, Nat.reduceLT, Nat.reduceLeDiff, Nat.reduceEqDiff, Nat.reduceAdd, Nat.reduceSub, Nat.reduceMul, reduceIte, ↓reduceIte, reduceCtorEq, Int.reduceToNat, Int.reduceLE, Int.reduceLT, Int.reduceNeg, Int.reduceSub, Int.reduceAdd, Int.reduceMul, rby, rr_eq, rc, bne_self_eq_false, beq_self_eq_true]
    refine w2.callV 0 (viewL_cons_of (view_row) (viewL_cons_of (view_row) viewL_nil_of)) ?_
    simp (disch := omega) only [Try.ntmps12, Try.results12, go_sem, Nat.reduceLT, Nat.reduceLeDiff, Nat.reduceEqDiff, Nat.reduceAdd, Nat.reduceSub, Nat.reduceMul, reduceIte, ↓reduceIte, reduceCtorEq, Int.reduceToNat, Int.reduceLE, Int.reduceLT, Int.reduceNeg, Int.reduceSub, Int.reduceAdd, Int.reduceMul, rby, rr_eq, rc, bne_self_eq_false, beq_self_eq_true]
    exact Wk.of (by simp only [go_sem, ↓List.forall_mem_cons, List.not_mem_nil, false_implies, implies_true, and_true, true_and, and_self, Nat.reduceEqDiff, reduceIte, ↓reduceIte, ri_eq, Int.natCast_add, Int.cast_ofNat_Int, rr_eq, rc]; try simp) rfl
  refine SW.seqW ⟨ofL [(3, rr M), (4, rc C), (5, ri L), (6, ri F), (7, .val (.int .i64 z)), (8, .val (.bool is))], hp [] 0⟩ ?_ ?_
  · refine SW_of_vc Try.mixed _ _ _ (by kernel_rfl) ?_
    simp (disch := omega) only [Try.ntmps12, Try.results12, go_sem, Nat.reduceLT, Nat.reduceLeDiff, Nat.reduceEqDiff, Nat.reduceAdd, Nat.reduceSub, Nat.reduceMul, reduceIte, ↓reduceIte, reduceCtorEq, Int.reduceToNat, Int.reduceLE, Int.reduceLT, Int.reduceNeg, Int.reduceSub, Int.reduceAdd, Int.reduceMul, rby, rr_eq, rc, bne_self_eq_false, beq_self_eq_true]
    refine ws.callV 0 (viewL_cons_of (view_row) (viewL_cons_of (view_row) viewL_nil_of)) ?_
    simp (disch := omega) only [Try.ntmps12, Try.results12, go_sem, Nat.reduceLT, Nat.reduceLeDiff, Nat.reduceEqDiff, Nat.reduceAdd, Nat.reduceSub, Nat.reduceMul, reduceIte, ↓reduceIte, reduceCtorEq, Int.reduceToNat, Int.reduceLE, Int.reduceLT, Int.reduceNeg, Int.reduceSub, Int.reduceAdd, Int.reduceMul, rby, rr_eq, rc, bne_self_eq_false, beq_self_eq_true]
    refine w3.callV 0 (viewL_cons_of (view_row) (viewL_cons_of (view_row) viewL_nil_of)) ?_
    simp (disch := omega) only [Try.ntmps12, Try.results12, go_sem, Nat.reduceLT, Nat.reduceLeDiff, Nat.reduceEqDiff, Nat.reduceAdd, Nat.reduceSub, Nat.reduceMul, reduceIte, ↓reduceIte, reduceCtorEq, Int.reduceToNat, Int.reduceLE, Int.reduceLT, Int.reduceNeg, Int.reduceSub, Int.reduceAdd, Int.reduceMul, rby, rr_eq, rc, bne_self_eq_false, beq_self_eq_true]
    refine w4.callV 0 (viewL_cons_of (view_row) (viewL_cons_of (view_row) viewL_nil_of)) ?_
    simp (disch := omega) only [Try.ntmps12, Try.results12, go_sem, Nat.reduceLT, Nat.reduceLeDiff, Nat.reduceEqDiff, Nat.reduceAdd, Nat.reduceSub, Nat.reduceMul, reduceIte, ↓reduceIte, reduceCtorEq, Int.reduceToNat, Int.reduceLE, Int.reduceLT, Int.reduceNeg, Int.reduceSub, Int.reduceAdd, Int.reduceMul, rby, rr_eq, rc, bne_self_eq_false, beq_self_eq_true]
    refine w5.callV 0 (viewL_cons_of (view_row) (viewL_cons_of (view_row) viewL_nil_of)) ?_
    simp (disch := omega) only [Try.ntmps12, Try.results12, go_sem, Nat.reduceLT, Nat.reduceLeDiff, Nat.reduceEqDiff, Nat.reduceAdd, Nat.reduceSub, Nat.reduceMul, reduceIte, ↓reduceIte, reduceCtorEq, Int.reduceToNat, Int.reduceLE, Int.reduceLT, Int.reduceNeg, Int.reduceSub, Int.reduceAdd, Int.reduceMul, rby, rr_eq, rc, bne_self_eq_false, beq_self_eq_true]
    refine w6.callV 0 (viewL_cons_of (view_row) (viewL_cons_of (view_row) viewL_nil_of)) ?_
    simp (disch := omega) only [Try.ntmps12, Try.results12, go_sem, Nat.reduceLT, Nat.reduceLeDiff, Nat.reduceEqDiff, Nat.reduceAdd, Nat.reduceSub, Nat.reduceMul, reduceIte, ↓reduceIte, reduceCtorEq, Int.reduceToNat, Int.reduceLE, Int.reduceLT, Int.reduceNeg, Int.reduceSub, Int.reduceAdd, Int.reduceMul, rby, rr_eq, rc, bne_self_eq_false, beq_self_eq_true]
    exact Wk.of (by simp only [go_sem, ↓List.forall_mem_cons, List.not_mem_nil, false_implies, implies_true, and_true, true_and, and_self, Nat.reduceEqDiff, reduceIte, ↓reduceIte, ri_eq, Int.natCast_add, Int.cast_ofNat_Int, rr_eq, rc]; try simp) rfl
  refine SW.seqW ⟨ofL [(3, rr M), (4, rc C), (5, ri L), (6, ri F), (7, .val (.int .i64 z)), (8, .val (.bool is))], hp [] 0⟩ ?_ ?_
  · refine SW_of_vc Try.mixed _ _ _ (by kernel_rfl) ?_
    simp (disch := omega) only [Try.ntmps12, Try.results12, go_sem, Nat.reduceLT, Nat.reduceLeDiff, Nat.reduceEqDiff, Nat.reduceAdd, Nat.reduceSub, Nat.reduceMul, reduceIte, ↓reduceIte, reduceCtorEq, Int.reduceToNat, Int.reduceLE, Int.reduceLT, Int.reduceNeg, Int.reduceSub, Int.reduceAdd, Int.reduceMul, rby, rr_eq, rc, bne_self_eq_false, beq_self_eq_true]
    refine w7.callV 0 (viewL_cons_of (view_row) (viewL_cons_of (view_row) (viewL_cons_of (view_row) viewL_nil_of))) ?_
    simp (disch := omega) only [Try.ntmps12, Try.results12, go_sem, Nat.reduceLT, Nat.reduceLeDiff, Nat.reduceEqDiff, Nat.reduceAdd, Nat.reduceSub, Nat.reduceMul, reduceIte, ↓reduceIte, reduceCtorEq, Int.reduceToNat, Int.reduceLE, Int.reduceLT, Int.reduceNeg, Int.reduceSub, Int.reduceAdd, Int.reduceMul, rby, rr_eq, rc, bne_self_eq_false, beq_self_eq_true]
    refine w8.callV 0 (viewL_cons_of (view_row) (viewL_cons_of (view_row) (viewL_cons_of (view_row) viewL_nil_of))) ?_
    simp (disch := omega) only [Try.ntmps12, Try.results12, go_sem, Nat.reduceLT, Nat.reduceLeDiff, Nat.reduceEqDiff, Nat.reduceAdd, Nat.reduceSub, Nat.reduceMul, reduceIte, ↓reduceIte, reduceCtorEq, Int.reduceToNat, Int.reduceLE, Int.reduceLT, Int.reduceNeg, Int.reduceSub, Int.reduceAdd, Int.reduceMul, rby, rr_eq, rc, bne_self_eq_false, beq_self_eq_true]
    refine w9.callV 0 (viewL_cons_of (view_row) (viewL_cons_of (view_row) viewL_nil_of)) ?_
    simp (disch := omega) only [Try.ntmps12, Try.results12, go_sem, Nat.reduceLT, Nat.reduceLeDiff, Nat.reduceEqDiff, Nat.reduceAdd, Nat.reduceSub, Nat.reduceMul, reduceIte, ↓reduceIte, reduceCtorEq, Int.reduceToNat, Int.reduceLE, Int.reduceLT, Int.reduceNeg, Int.reduceSub, Int.reduceAdd, Int.reduceMul, rby, rr_eq, rc, bne_self_eq_false, beq_self_eq_true]
    refine w10.callV 0 (viewL_cons_of (view_row) (viewL_cons_of (view_row) viewL_nil_of)) ?_
    simp (disch := omega) only [Try.ntmps12, Try.results12, go_sem, Nat.reduceLT, Nat.reduceLeDiff, Nat.reduceEqDiff, Nat.reduceAdd, Nat.reduceSub, Nat.reduceMul, reduceIte, ↓reduceIte, reduceCtorEq, Int.reduceToNat, Int.reduceLE, Int.reduceLT, Int.reduceNeg, Int.reduceSub, Int.reduceAdd, Int.reduceMul, rby, rr_eq, rc, bne_self_eq_false, beq_self_eq_true]
    exact Wk.of (by simp only [go_sem, ↓List.forall_mem_cons, List.not_mem_nil, false_implies, implies_true, and_true, true_and, and_self, Nat.reduceEqDiff, reduceIte, ↓reduceIte, ri_eq, Int.natCast_add, Int.cast_ofNat_Int, rr_eq, rc]; try simp) rfl
  cases is with
  | false =>
    obtain ⟨n1, n2⟩ := hno rfl
    rw [n2] at w5
    refine SW_of_vc Try.mixed _ _ _ (by kernel_rfl) ?_
    simp (disch := omega) only [Try.ntmps12, Try.results12, go_sem, Nat.reduceLT, Nat.reduceLeDiff, Nat.reduceEqDiff, Nat.reduceAdd, Nat.reduceSub, Nat.reduceMul, reduceIte, ↓reduceIte, reduceCtorEq, Int.reduceToNat, Int.reduceLE, Int.reduceLT, Int.reduceNeg, Int.reduceSub, Int.reduceAdd, Int.reduceMul, rby, rr_eq, rc, bne_self_eq_false, beq_self_eq_true, n1]
    refine w5.callV 0 (viewL_cons_of (view_row) (viewL_cons_of (view_row) viewL_nil_of)) ?_
    simp (disch := omega) only [Try.ntmps12, Try.results12, go_sem, Nat.reduceLT, Nat.reduceLeDiff, Nat.reduceEqDiff, Nat.reduceAdd, Nat.reduceSub, Nat.reduceMul, reduceIte, ↓reduceIte, reduceCtorEq, Int.reduceToNat, Int.reduceLE, Int.reduceLT, Int.reduceNeg, Int.reduceSub, Int.reduceAdd, Int.reduceMul, rby, rr_eq, rc, bne_self_eq_false, beq_self_eq_true, n1]
    exact Fin.val rfl
  | true =>
    obtain ⟨h, hF⟩ := hfacts rfl
    obtain ⟨rfl, rfl⟩ : F = (bs M C).first ∧ z = (bs M C).least := by
      have h1 := congrArg (·.1) hF
      have h2 := congrArg (·.2.1) hF
      exact ⟨h1, h2⟩
    obtain ⟨f1, f2, f3, f4, f5⟩ := okB_facts h
    have hle := okB_least (L := L) h
    have w13 := Try.implKeepsConstraints_ok (bs M C).first C (by omega) hC
    have w14 := Try.implPartitionCost_ok M (bs M C).first hM hR (by omega)
    have w15 := Try.implOpt_ok M C (bs M C).first hM hR hC (by omega)
    rw [f1] at w13
    rw [f2] at w14
    rw [f3] at w15
    rw [hcx] at f4
    rw [hbn] at f5
    clear hF hfacts hno f1 f2 f3
    generalize (bs M C).first = F at *
    generalize (bs M C).least = z at *
    generalize pcost M L = c at *
    refine SW.seqW ⟨ofL [(3, rr M), (4, rc C), (5, ri L), (6, ri F), (7, .val (.int .i64 z))], hp [] 0⟩ ?_ ?_
    · refine SW_of_vc Try.mixed _ _ _ (by kernel_rfl) ?_
      simp (disch := omega) only [Try.ntmps12, Try.results12, go_sem, Nat.reduceLT, Nat.reduceLeDiff, Nat.reduceEqDiff, Nat.reduceAdd, Nat.reduceSub, Nat.reduceMul, reduceIte, ↓reduceIte, reduceCtorEq, Int.reduceToNat, Int.reduceLE, Int.reduceLT, Int.reduceNeg, Int.reduceSub, Int.reduceAdd, Int.reduceMul, rby, rr_eq, rc, bne_self_eq_false, beq_self_eq_true]
      exact Wk.of (by simp only [go_sem, ↓List.forall_mem_cons, List.not_mem_nil, false_implies, implies_true, and_true, true_and, and_self, Nat.reduceEqDiff, reduceIte, ↓reduceIte, ri_eq, Int.natCast_add, Int.cast_ofNat_Int, rr_eq, rc]; try simp) rfl
    refine SW.seqW ⟨ofL [(3, rr M), (4, rc C), (5, ri L), (6, ri F), (7, .val (.int .i64 z)), (12, .val (.int .i64 c))], hp [] 0⟩ ?_ ?_
    · refine SW_of_vc Try.mixed _ _ _ (by kernel_rfl) ?_
      simp (disch := omega) only [Try.ntmps12, Try.results12, go_sem, Nat.reduceLT, Nat.reduceLeDiff, Nat.reduceEqDiff, Nat.reduceAdd, Nat.reduceSub, Nat.reduceMul, reduceIte, ↓reduceIte, reduceCtorEq, Int.reduceToNat, Int.reduceLE, Int.reduceLT, Int.reduceNeg, Int.reduceSub, Int.reduceAdd, Int.reduceMul, rby, rr_eq, rc, bne_self_eq_false, beq_self_eq_true]
      refine w11.callV 0 (viewL_cons_of (view_row) (viewL_cons_of (view_row) viewL_nil_of)) ?_
      simp (disch := omega) only [Try.ntmps12, Try.results12, go_sem, Nat.reduceLT, Nat.reduceLeDiff, Nat.reduceEqDiff, Nat.reduceAdd, Nat.reduceSub, Nat.reduceMul, reduceIte, ↓reduceIte, reduceCtorEq, Int.reduceToNat, Int.reduceLE, Int.reduceLT, Int.reduceNeg, Int.reduceSub, Int.reduceAdd, Int.reduceMul, rby, rr_eq, rc, bne_self_eq_false, beq_self_eq_true]
      exact Wk.of (by simp only [go_sem, ↓List.forall_mem_cons, List.not_mem_nil, false_implies, implies_true, and_true, true_and, and_self, Nat.reduceEqDiff, reduceIte, ↓reduceIte, ri_eq, Int.natCast_add, Int.cast_ofNat_Int, rr_eq, rc]; try simp) rfl
    refine SW.seqW ⟨ofL [(3, rr M), (4, rc C), (6, ri F), (7, .val (.int .i64 z))], hp [] 0⟩ ?_ ?_
    · by_cases hkc : (isPart L && C.all (kp L)) = true
      · rw [hkc] at w12
        have hle := hle (by rw [Bool.and_eq_true] at hkc; exact hkc.2)
        by_cases hc0 : 0 ≤ c
        · have hle := hle hc0
          refine SW_of_vc Try.mixed _ _ _ (by kernel_rfl) ?_
          simp (disch := omega) only [Try.ntmps12, Try.results12, go_sem, Nat.reduceLT, Nat.reduceLeDiff, Nat.reduceEqDiff, Nat.reduceAdd, Nat.reduceSub, Nat.reduceMul, reduceIte, ↓reduceIte, reduceCtorEq, Int.reduceToNat, Int.reduceLE, Int.reduceLT, Int.reduceNeg, Int.reduceSub, Int.reduceAdd, Int.reduceMul, rby, rr_eq, rc, bne_self_eq_false, beq_self_eq_true]
          refine w12.callV 0 (viewL_cons_of (view_row) (viewL_cons_of (view_row) viewL_nil_of)) ?_
          simp (disch := omega) only [Try.ntmps12, Try.results12, go_sem, Nat.reduceLT, Nat.reduceLeDiff, Nat.reduceEqDiff, Nat.reduceAdd, Nat.reduceSub, Nat.reduceMul, reduceIte, ↓reduceIte, reduceCtorEq, Int.reduceToNat, Int.reduceLE, Int.reduceLT, Int.reduceNeg, Int.reduceSub, Int.reduceAdd, Int.reduceMul, rby, rr_eq, rc, bne_self_eq_false, beq_self_eq_true]
          exact Wk.of (by simp only [go_sem, ↓List.forall_mem_cons, List.not_mem_nil, false_implies, implies_true, and_true, true_and, and_self, Nat.reduceEqDiff, reduceIte, ↓reduceIte, ri_eq, Int.natCast_add, Int.cast_ofNat_Int, rr_eq, rc]; try simp) rfl
        · refine SW_of_vc Try.mixed _ _ _ (by kernel_rfl) ?_
          simp (disch := omega) only [Try.ntmps12, Try.results12, go_sem, Nat.reduceLT, Nat.reduceLeDiff, Nat.reduceEqDiff, Nat.reduceAdd, Nat.reduceSub, Nat.reduceMul, reduceIte, ↓reduceIte, reduceCtorEq, Int.reduceToNat, Int.reduceLE, Int.reduceLT, Int.reduceNeg, Int.reduceSub, Int.reduceAdd, Int.reduceMul, rby, rr_eq, rc, bne_self_eq_false, beq_self_eq_true]
          refine w12.callV 0 (viewL_cons_of (view_row) (viewL_cons_of (view_row) viewL_nil_of)) ?_
          simp (disch := omega) only [Try.ntmps12, Try.results12, go_sem, Nat.reduceLT, Nat.reduceLeDiff, Nat.reduceEqDiff, Nat.reduceAdd, Nat.reduceSub, Nat.reduceMul, reduceIte, ↓reduceIte, reduceCtorEq, Int.reduceToNat, Int.reduceLE, Int.reduceLT, Int.reduceNeg, Int.reduceSub, Int.reduceAdd, Int.reduceMul, rby, rr_eq, rc, bne_self_eq_false, beq_self_eq_true]
          exact Wk.of (by simp only [go_sem, ↓List.forall_mem_cons, List.not_mem_nil, false_implies, implies_true, and_true, true_and, and_self, Nat.reduceEqDiff, reduceIte, ↓reduceIte, ri_eq, Int.natCast_add, Int.cast_ofNat_Int, rr_eq, rc]; try simp) rfl
      · have hkc : (isPart L && C.all (kp L)) = false := (Bool.not_eq_true _).mp hkc
        rw [hkc] at w12
        refine SW_of_vc Try.mixed _ _ _ (by kernel_rfl) ?_
        simp (disch := omega) only [Try.ntmps12, Try.results12, go_sem, Nat.reduceLT, Nat.reduceLeDiff, Nat.reduceEqDiff, Nat.reduceAdd, Nat.reduceSub, Nat.reduceMul, reduceIte, ↓reduceIte, reduceCtorEq, Int.reduceToNat, Int.reduceLE, Int.reduceLT, Int.reduceNeg, Int.reduceSub, Int.reduceAdd, Int.reduceMul, rby, rr_eq, rc, bne_self_eq_false, beq_self_eq_true]
        refine w12.callV 0 (viewL_cons_of (view_row) (viewL_cons_of (view_row) viewL_nil_of)) ?_
        simp (disch := omega) only [Try.ntmps12, Try.results12, go_sem, Nat.reduceLT, Nat.reduceLeDiff, Nat.reduceEqDiff, Nat.reduceAdd, Nat.reduceSub, Nat.reduceMul, reduceIte, ↓reduceIte, reduceCtorEq, Int.reduceToNat, Int.reduceLE, Int.reduceLT, Int.reduceNeg, Int.reduceSub, Int.reduceAdd, Int.reduceMul, rby, rr_eq, rc, bne_self_eq_false, beq_self_eq_true]
        exact Wk.of (by simp only [go_sem, ↓List.forall_mem_cons, List.not_mem_nil, false_implies, implies_true, and_true, true_and, and_self, Nat.reduceEqDiff, reduceIte, ↓reduceIte, ri_eq, Int.natCast_add, Int.cast_ofNat_Int, rr_eq, rc]; try simp) rfl
    refine SW_of_vc Try.mixed _ _ _ (by kernel_rfl) ?_
    simp (disch := omega) only [Try.ntmps12, Try.results12, go_sem, Nat.reduceLT, Nat.reduceLeDiff, Nat.reduceEqDiff, Nat.reduceAdd, Nat.reduceSub, Nat.reduceMul, reduceIte, ↓reduceIte, reduceCtorEq, Int.reduceToNat, Int.reduceLE, Int.reduceLT, Int.reduceNeg, Int.reduceSub, Int.reduceAdd, Int.reduceMul, rby, rr_eq, rc, bne_self_eq_false, beq_self_eq_true]
    refine w13.callV 0 (viewL_cons_of (view_row) (viewL_cons_of (view_row) viewL_nil_of)) ?_
    simp (disch := omega) only [Try.ntmps12, Try.results12, go_sem, Nat.reduceLT, Nat.reduceLeDiff, Nat.reduceEqDiff, Nat.reduceAdd, Nat.reduceSub, Nat.reduceMul, reduceIte, ↓reduceIte, reduceCtorEq, Int.reduceToNat, Int.reduceLE, Int.reduceLT, Int.reduceNeg, Int.reduceSub, Int.reduceAdd, Int.reduceMul, rby, rr_eq, rc, bne_self_eq_false, beq_self_eq_true]
    refine w14.callV 0 (viewL_cons_of (view_row) (viewL_cons_of (view_row) viewL_nil_of)) ?_
    simp (disch := omega) only [Try.ntmps12, Try.results12, go_sem, Nat.reduceLT, Nat.reduceLeDiff, Nat.reduceEqDiff, Nat.reduceAdd, Nat.reduceSub, Nat.reduceMul, reduceIte, ↓reduceIte, reduceCtorEq, Int.reduceToNat, Int.reduceLE, Int.reduceLT, Int.reduceNeg, Int.reduceSub, Int.reduceAdd, Int.reduceMul, rby, rr_eq, rc, bne_self_eq_false, beq_self_eq_true]
    refine w15.callV 0 (viewL_cons_of (view_row) (viewL_cons_of (view_row) (viewL_cons_of (view_row) viewL_nil_of))) ?_
    simp (disch := omega) only [Try.ntmps12, Try.results12, go_sem, Nat.reduceLT, Nat.reduceLeDiff, Nat.reduceEqDiff, Nat.reduceAdd, Nat.reduceSub, Nat.reduceMul, reduceIte, ↓reduceIte, reduceCtorEq, Int.reduceToNat, Int.reduceLE, Int.reduceLT, Int.reduceNeg, Int.reduceSub, Int.reduceAdd, Int.reduceMul, rby, rr_eq, rc, bne_self_eq_false, beq_self_eq_true]
    refine w9.callV 0 (viewL_cons_of (view_row) (viewL_cons_of (view_row) viewL_nil_of)) ?_
    simp (disch := omega) only [Try.ntmps12, Try.results12, go_sem, Nat.reduceLT, Nat.reduceLeDiff, Nat.reduceEqDiff, Nat.reduceAdd, Nat.reduceSub, Nat.reduceMul, reduceIte, ↓reduceIte, reduceCtorEq, Int.reduceToNat, Int.reduceLE, Int.reduceLT, Int.reduceNeg, Int.reduceSub, Int.reduceAdd, Int.reduceMul, rby, rr_eq, rc, bne_self_eq_false, beq_self_eq_true]
    refine w5.callV 0 (viewL_cons_of (view_row) (viewL_cons_of (view_row) viewL_nil_of)) ?_
    simp (disch := omega) only [Try.ntmps12, Try.results12, go_sem, Nat.reduceLT, Nat.reduceLeDiff, Nat.reduceEqDiff, Nat.reduceAdd, Nat.reduceSub, Nat.reduceMul, reduceIte, ↓reduceIte, reduceCtorEq, Int.reduceToNat, Int.reduceLE, Int.reduceLT, Int.reduceNeg, Int.reduceSub, Int.reduceAdd, Int.reduceMul, rby, rr_eq, rc, bne_self_eq_false, beq_self_eq_true]
    exact Fin.val rfl
end Go.Sh

/-
  From the values that came in to the shadow's: bytes.
-/
namespace Go.Sh
set_option linter.unusedSimpArgs false
set_option linter.unusedVariables false
open Go Go.RowKit
open Go.ChangeShapes Go.WideShapes

theorem crel_bys {O : Nat → Prop} {w : World} : ∀ (L : List Int) (x : Addr), (L ≠ [] → ¬ O x.block) → (∀ i, i < L.length → w.cell? (x.add i) = some (.int .u8 (L.getD i 0))) → CRel O w (bys L) x
  | [], x, _, _ => by simp only [bys, List.map_nil, CRel]
  | n :: L, x, hO, h => by
    have h0 := h 0 (by simp)
    rw [Addr.add_zero'] at h0
    have hs : x.spot = none := World.cell?_spot h0
    have e : bys (n :: L) = .val (.int .u8 n) :: bys L := rfl
    rw [e]
    simp only [CRel]
    refine ⟨hs, hO (by simp), ⟨_, h0, by simp [VRel]⟩, crel_bys L ⟨x.block, x.off + 1, none⟩ (fun _ => hO (by simp)) (fun i hi => ?_)⟩
    have := h (i + 1) (by simpa using hi)
    have e2 : (⟨x.block, x.off + 1, none⟩ : Addr).add i = x.add (i + 1) := by
      rw [Addr.add_lit, Addr.add_succ']
      simp [Nat.add_assoc, Nat.add_comm 1 i]
    rw [e2, this]
    simp
theorem isRow_bys {w : World} {a : Option Addr} {len cap : Nat} {zs : List Int} (h : IsRow .u8 w a len cap zs) : VRel (fun _ => False) w noj (rby (zs.take len)) (.slice a len cap) := by
  rcases h with ⟨rfl, rfl, rfl, rfl⟩ | ⟨x, rfl, h1, h2, h3, h4, h5⟩
  · simp only [rby, VRel]
    exact ⟨none, 0, rfl, Nat.le_refl _, by simp, .inl (by simp [bys])⟩
  · have hl : (zs.take len).length = len := by simp; omega
    simp only [rby, VRel]
    refine ⟨some x, cap, by rw [hl], by omega, by simp, .inr ⟨x, rfl, crel_bys _ x (fun _ h => h) (fun i hi => ?_)⟩⟩
    have hi' : i < len := by rw [hl] at hi; exact hi
    rw [h4 i (by omega)]
    congr 2
    simp [List.getD, hi']
theorem cell_bys {Hh : Type} {enc : TypeId × Value → Hh} {P : Program} {w : World} {held : Bool} {t e : TypeId} {fuel : Nat} {v : Value} {x : DataW Hh × List MemPlace} (ht : P.underlying t = some (.slice e)) (he : P.underlying e = some (.int .u8)) (hc : P.cellsOf e = 1)
    (h : DataW.trod enc P w 0 (fun _ => true) held fuel t [v] = some x) : ∃ L : List Int, VRel (fun _ => False) w noj (rby L) v ∧ L.length ≤ maxLen := by
  rcases open_ints ht he hc h with ⟨hcs, _⟩ | ⟨a, l, c, zs, hcs, _, hl, hm, hz, _, hcell, hwz⟩
  · simp at hcs
    subst hcs
    exact ⟨[], isRow_bys (zs := []) (.inl ⟨rfl, rfl, rfl, rfl⟩), by simp⟩
  · simp at hcs
    subst hcs
    exact ⟨zs.take l, isRow_bys (.inr ⟨_, rfl, hl, hm, by simpa using hz, hcell, hwz⟩), by simp; omega⟩
end Go.Sh
