/-
  The best move, of the reference.
-/
import Derived.Test.YtehimkdkflnkbaaAC1
import Derived.Test.YtehimkdkflnkbaaShM
namespace Go.Sh
set_option linter.unusedSimpArgs false
set_option linter.unusedVariables false
open Go Go.Proofs

abbrev mvS (t : Mv) : List SV := [.val (.int .i64 t.1), .val (.int .i64 t.2.1), .val (.int .i64 t.2.2)]
abbrev mvR (t : Mv) : SV := .tup [.agg (mvS t), .val (.bool (decide (0 < t.2.2)))]
theorem fin_mv {R : SV → Heap → Prop} {a b c : Value} {u : Value} {H : Heap} (h : R (.tup [.agg [.val a, .val b, .val c], .val u]) ⟨fun _ => none, H.nb⟩) : Fin R (.tup [.agg [.val a, .val b, .val c], .val u]) H :=
  ⟨⟨fun _ => none, H.nb⟩, ⟨rfl, fun _ => .inl rfl⟩, by simp [noRow, noRowL], fun b blk hb => by simp at hb, h⟩
theorem view_mv {H : Heap} {f : Nat} {a b c : Int} {u : Bool} : view H (f + 2) (.tup [.agg [.val (.int .i64 a), .val (.int .i64 b), .val (.int .i64 c)], .val (.bool u)]) = some (.tup [.agg [.val (.int .i64 a), .val (.int .i64 b), .val (.int .i64 c)], .val (.bool u)]) := by
  simp only [view, viewL, viewV]
theorem moveOk_part {L : List Int} {i b : Int} (h : moveOk L i b = true) : isPart L = true := by
  unfold moveOk at h
  simp only [Bool.and_eq_true] at h
  exact h.1
theorem kp_not {M : List (List Int)} {C : List Con} {L : List Int} (h1 : ¬ pcost M L < 0) (h : ¬ canM M C L) : C.all (kp L) = false := by
  cases hk : C.all (kp L) with
  | false => rfl
  | true => exact absurd ⟨by omega, hk⟩ h

set_option maxRecDepth 20000 in
set_option maxHeartbeats 8000000 in
theorem Try.specBM_ok (M : List (List Int)) (C : List Con) (L : List Int) (hM : M.length ≤ 1048576) (hR : ∀ i, i < M.length → (mrow M i).length ≤ 1048576) (hC : C.length ≤ 1048576) (hL : L.length ≤ 1048576) :
    PCall Try.prog 46 [rr M, rc C, ri L] (mvR (bmv M C L)) := by
  refine FCall.pcall (R := fun r _ => r = mvR (bmv M C L)) ?_ 2 (by rintro r H rfl; exact view_mv)
  have w1 := Try.specPartitionCost_ok M L hM hR hL
  have w2 := Try.specKeepsConstraints_ok L C hL hC
  refine FCall.of_body Try.func46 rfl (by kernel_rfl) (by simp [Try.ntmps46]) ?_
  refine SW_of_vc2 (onD 14 [(67, 6)] []) Try.mixed _ _ _ (by kernel_rfl) ?_
  by_cases hcan : canM M C L
  case neg =>
    rw [bmv_f hcan]
    by_cases hp : pcost M L < 0
    · simp (disch := omega) only [Try.ntmps46, Try.results46, go_sem, Nat.reduceLT, Nat.reduceLeDiff, Nat.reduceEqDiff, Nat.reduceAdd, Nat.reduceSub, Nat.reduceMul, reduceIte, ↓reduceIte, reduceCtorEq, Int.reduceToNat, Int.reduceLE, Int.reduceLT, Int.reduceNeg, Int.reduceSub, Int.reduceAdd, Int.reduceMul, rr_eq, rc, mvS]
      refine w1.callV 0 (viewL_cons_of (view_row) (viewL_cons_of (view_rowL (by first | rfl | simp [marks_length, canon_length] | omega)) viewL_nil_of)) ?_
      simp (disch := omega) only [Try.ntmps46, Try.results46, go_sem, Nat.reduceLT, Nat.reduceLeDiff, Nat.reduceEqDiff, Nat.reduceAdd, Nat.reduceSub, Nat.reduceMul, reduceIte, ↓reduceIte, reduceCtorEq, Int.reduceToNat, Int.reduceLE, Int.reduceLT, Int.reduceNeg, Int.reduceSub, Int.reduceAdd, Int.reduceMul, rr_eq, rc, mvS]
      exact fin_mv rfl
    · rw [kp_not hp hcan, Bool.and_false] at w2
      simp (disch := omega) only [Try.ntmps46, Try.results46, go_sem, Nat.reduceLT, Nat.reduceLeDiff, Nat.reduceEqDiff, Nat.reduceAdd, Nat.reduceSub, Nat.reduceMul, reduceIte, ↓reduceIte, reduceCtorEq, Int.reduceToNat, Int.reduceLE, Int.reduceLT, Int.reduceNeg, Int.reduceSub, Int.reduceAdd, Int.reduceMul, rr_eq, rc, mvS]
      refine w1.callV 0 (viewL_cons_of (view_row) (viewL_cons_of (view_rowL (by first | rfl | simp [marks_length, canon_length] | omega)) viewL_nil_of)) ?_
      simp (disch := omega) only [Try.ntmps46, Try.results46, go_sem, Nat.reduceLT, Nat.reduceLeDiff, Nat.reduceEqDiff, Nat.reduceAdd, Nat.reduceSub, Nat.reduceMul, reduceIte, ↓reduceIte, reduceCtorEq, Int.reduceToNat, Int.reduceLE, Int.reduceLT, Int.reduceNeg, Int.reduceSub, Int.reduceAdd, Int.reduceMul, rr_eq, rc, mvS]
      refine w2.callV 2 (viewL_cons_of view_row (viewL_cons_of view_row viewL_nil_of)) ?_
      simp (disch := omega) only [Try.ntmps46, Try.results46, go_sem, Nat.reduceLT, Nat.reduceLeDiff, Nat.reduceEqDiff, Nat.reduceAdd, Nat.reduceSub, Nat.reduceMul, reduceIte, ↓reduceIte, reduceCtorEq, Int.reduceToNat, Int.reduceLE, Int.reduceLT, Int.reduceNeg, Int.reduceSub, Int.reduceAdd, Int.reduceMul, rr_eq, rc, mvS]
      exact fin_mv rfl
  rw [bmv_t hcan]
  obtain ⟨hw, hpt, hl, hpc⟩ := canM_r hcan
  have hp0 := hcan.1
  rw [hpt, hcan.2] at w2
  have hln := hw.1
  simp (disch := omega) only [Try.ntmps46, Try.results46, go_sem, Nat.reduceLT, Nat.reduceLeDiff, Nat.reduceEqDiff, Nat.reduceAdd, Nat.reduceSub, Nat.reduceMul, reduceIte, ↓reduceIte, reduceCtorEq, Int.reduceToNat, Int.reduceLE, Int.reduceLT, Int.reduceNeg, Int.reduceSub, Int.reduceAdd, Int.reduceMul, rr_eq, rc, mvS]
  refine w1.callV 0 (viewL_cons_of (view_row) (viewL_cons_of (view_rowL (by first | rfl | simp [marks_length, canon_length] | omega)) viewL_nil_of)) ?_
  simp (disch := omega) only [Try.ntmps46, Try.results46, go_sem, Nat.reduceLT, Nat.reduceLeDiff, Nat.reduceEqDiff, Nat.reduceAdd, Nat.reduceSub, Nat.reduceMul, reduceIte, ↓reduceIte, reduceCtorEq, Int.reduceToNat, Int.reduceLE, Int.reduceLT, Int.reduceNeg, Int.reduceSub, Int.reduceAdd, Int.reduceMul, rr_eq, rc, mvS]
  refine w2.callV 2 (viewL_cons_of view_row (viewL_cons_of view_row viewL_nil_of)) ?_
  simp (disch := omega) only [Try.ntmps46, Try.results46, go_sem, Nat.reduceLT, Nat.reduceLeDiff, Nat.reduceEqDiff, Nat.reduceAdd, Nat.reduceSub, Nat.reduceMul, reduceIte, ↓reduceIte, reduceCtorEq, Int.reduceToNat, Int.reduceLE, Int.reduceLT, Int.reduceNeg, Int.reduceSub, Int.reduceAdd, Int.reduceMul, rr_eq, rc, mvS]
  clear w1 w2
  refine LoopW.loop (fun i : Nat => ⟨ofL [(0, rr M), (1, rc C), (2, ri L), (6, .optr 0 0), (7, .val (.bool false)), (8, .optr 1 0), (9, .val (.int .i64 i))], hp [(1, ⟨mvS (bmTo M C L i), true⟩), (0, ⟨mvS (0, 0, 0), true⟩)] 2⟩) (fun i => i ≤ L.length) (fun i => L.length - i) 0 (by omega) (Wk.ofH (by simp only [go_sem, ↓List.forall_mem_cons, List.not_mem_nil, false_implies, implies_true, and_true, true_and, and_self, Nat.reduceEqDiff, reduceIte, ↓reduceIte, ri_eq, Int.natCast_add, Int.cast_ofNat_Int, rr_eq, rc]; try simp) (by simp [hp, hmap, bmTo]) (by simp [hp])) ?_
  intro i hi
  refine SW_of_vc2 (onD 14 [(67, 6)] []) Try.mixed _ _ _ (by kernel_rfl) ?_
  by_cases hlt : i < L.length
  · simp (disch := omega) only [Try.ntmps46, Try.results46, go_sem, Nat.reduceLT, Nat.reduceLeDiff, Nat.reduceEqDiff, Nat.reduceAdd, Nat.reduceSub, Nat.reduceMul, reduceIte, ↓reduceIte, reduceCtorEq, Int.reduceToNat, Int.reduceLE, Int.reduceLT, Int.reduceNeg, Int.reduceSub, Int.reduceAdd, Int.reduceMul, rr_eq, rc, mvS]
    refine LoopW.loop (fun k : Nat => ⟨ofL [(0, rr M), (1, rc C), (2, ri L), (6, .optr 0 0), (7, .val (.bool false)), (8, .optr 1 0), (9, .val (.int .i64 i)), (10, .val (.int .i64 k))], hp [(1, ⟨mvS (bmRow M C L (bmTo M C L i) i k), true⟩), (0, ⟨mvS (0, 0, 0), true⟩)] 2⟩) (fun k => k ≤ L.length + 1) (fun k => L.length + 1 - k) 0 (by omega) (Wk.ofH (by simp only [go_sem, ↓List.forall_mem_cons, List.not_mem_nil, false_implies, implies_true, and_true, true_and, and_self, Nat.reduceEqDiff, reduceIte, ↓reduceIte, ri_eq, Int.natCast_add, Int.cast_ofNat_Int, rr_eq, rc]; try simp) (by simp [hp, hmap, bmRow]) (by simp [hp])) ?_
    intro k hk
    refine SW_of_vc2 (onD 14 [(67, 6)] []) Try.mixed _ _ _ (by kernel_rfl) ?_
    by_cases hlt2 : k ≤ L.length
    · have w3 := Try.specMove_ok L i k hL
      have w4 := Try.specGain_ok M L i k hM hR hL
      have w5 := Try.specKeepsConstraints_ok (moveTo L i k) C (by rw [moveTo_length]; exact hL) hC
      have hb : bmRow M C L (bmTo M C L i) i (k + 1) = bstep M C L (bmRow M C L (bmTo M C L i) i k) i k := rfl
      rw [bstep] at hb
      generalize hb2 : bmRow M C L (bmTo M C L i) i (k + 1) = t2 at *
      generalize bmRow M C L (bmTo M C L i) i k = t at *
      generalize gain M L i k = g at *
      rcases Bool.eq_false_or_eq_true (moveOk L i k) with hok | hok
      · rw [moveTo_part hok, Bool.true_and] at w5
        rw [hok] at w3 hb
        by_cases hg : t.2.2 < g
        · rcases Bool.eq_false_or_eq_true (C.all (kp (moveTo L i k))) with hkp | hkp
          · rw [hkp] at w5
            rw [if_pos ⟨rfl, hg, hkp⟩] at hb
            subst hb
            simp (disch := omega) only [Try.ntmps46, Try.results46, go_sem, Nat.reduceLT, Nat.reduceLeDiff, Nat.reduceEqDiff, Nat.reduceAdd, Nat.reduceSub, Nat.reduceMul, reduceIte, ↓reduceIte, reduceCtorEq, Int.reduceToNat, Int.reduceLE, Int.reduceLT, Int.reduceNeg, Int.reduceSub, Int.reduceAdd, Int.reduceMul, rr_eq, rc, mvS]
            refine w3.callV 0 (viewL_cons_of (view_rowL (by first | rfl | simp [marks_length, canon_length] | omega)) (viewL_cons_of (view_int) (viewL_cons_of (view_int) viewL_nil_of))) ?_
            simp (disch := omega) only [Try.ntmps46, Try.results46, go_sem, Nat.reduceLT, Nat.reduceLeDiff, Nat.reduceEqDiff, Nat.reduceAdd, Nat.reduceSub, Nat.reduceMul, reduceIte, ↓reduceIte, reduceCtorEq, Int.reduceToNat, Int.reduceLE, Int.reduceLT, Int.reduceNeg, Int.reduceSub, Int.reduceAdd, Int.reduceMul, rr_eq, rc, mvS]
            refine w4.callV 0 (viewL_cons_of (view_row) (viewL_cons_of (view_rowL (by first | rfl | simp [marks_length, canon_length] | omega)) (viewL_cons_of (view_int) (viewL_cons_of (view_int) viewL_nil_of)))) ?_
            simp (disch := omega) only [Try.ntmps46, Try.results46, go_sem, Nat.reduceLT, Nat.reduceLeDiff, Nat.reduceEqDiff, Nat.reduceAdd, Nat.reduceSub, Nat.reduceMul, reduceIte, ↓reduceIte, reduceCtorEq, Int.reduceToNat, Int.reduceLE, Int.reduceLT, Int.reduceNeg, Int.reduceSub, Int.reduceAdd, Int.reduceMul, rr_eq, rc, mvS]
            refine w5.callV 2 (viewL_cons_of view_row (viewL_cons_of view_row viewL_nil_of)) ?_
            simp (disch := omega) only [Try.ntmps46, Try.results46, go_sem, Nat.reduceLT, Nat.reduceLeDiff, Nat.reduceEqDiff, Nat.reduceAdd, Nat.reduceSub, Nat.reduceMul, reduceIte, ↓reduceIte, reduceCtorEq, Int.reduceToNat, Int.reduceLE, Int.reduceLT, Int.reduceNeg, Int.reduceSub, Int.reduceAdd, Int.reduceMul, rr_eq, rc, mvS]
            exact ⟨k + 1, by omega, by omega, Wk.ofH (by simp only [go_sem, ↓List.forall_mem_cons, List.not_mem_nil, false_implies, implies_true, and_true, true_and, and_self, Nat.reduceEqDiff, reduceIte, ↓reduceIte, ri_eq, Int.natCast_add, Int.cast_ofNat_Int, rr_eq, rc]; try simp) (by simp (disch := omega) only [go_sem, ↓List.forall_mem_cons, List.not_mem_nil, false_implies, implies_true, and_true, true_and, and_self, Nat.reduceEqDiff, reduceIte, ↓reduceIte, ri_eq, Int.natCast_add, Int.cast_ofNat_Int, if_pos, if_neg, Nat.reduceAdd, List.nil_append, hb2]; try simp) (Nat.le_refl _)⟩
          · rw [hkp] at w5
            rw [if_neg (fun h => by rw [hkp] at h; cases h.2.2)] at hb
            subst hb
            simp (disch := omega) only [Try.ntmps46, Try.results46, go_sem, Nat.reduceLT, Nat.reduceLeDiff, Nat.reduceEqDiff, Nat.reduceAdd, Nat.reduceSub, Nat.reduceMul, reduceIte, ↓reduceIte, reduceCtorEq, Int.reduceToNat, Int.reduceLE, Int.reduceLT, Int.reduceNeg, Int.reduceSub, Int.reduceAdd, Int.reduceMul, rr_eq, rc, mvS]
            refine w3.callV 0 (viewL_cons_of (view_rowL (by first | rfl | simp [marks_length, canon_length] | omega)) (viewL_cons_of (view_int) (viewL_cons_of (view_int) viewL_nil_of))) ?_
            simp (disch := omega) only [Try.ntmps46, Try.results46, go_sem, Nat.reduceLT, Nat.reduceLeDiff, Nat.reduceEqDiff, Nat.reduceAdd, Nat.reduceSub, Nat.reduceMul, reduceIte, ↓reduceIte, reduceCtorEq, Int.reduceToNat, Int.reduceLE, Int.reduceLT, Int.reduceNeg, Int.reduceSub, Int.reduceAdd, Int.reduceMul, rr_eq, rc, mvS]
            refine w4.callV 0 (viewL_cons_of (view_row) (viewL_cons_of (view_rowL (by first | rfl | simp [marks_length, canon_length] | omega)) (viewL_cons_of (view_int) (viewL_cons_of (view_int) viewL_nil_of)))) ?_
            simp (disch := omega) only [Try.ntmps46, Try.results46, go_sem, Nat.reduceLT, Nat.reduceLeDiff, Nat.reduceEqDiff, Nat.reduceAdd, Nat.reduceSub, Nat.reduceMul, reduceIte, ↓reduceIte, reduceCtorEq, Int.reduceToNat, Int.reduceLE, Int.reduceLT, Int.reduceNeg, Int.reduceSub, Int.reduceAdd, Int.reduceMul, rr_eq, rc, mvS]
            refine w5.callV 2 (viewL_cons_of view_row (viewL_cons_of view_row viewL_nil_of)) ?_
            simp (disch := omega) only [Try.ntmps46, Try.results46, go_sem, Nat.reduceLT, Nat.reduceLeDiff, Nat.reduceEqDiff, Nat.reduceAdd, Nat.reduceSub, Nat.reduceMul, reduceIte, ↓reduceIte, reduceCtorEq, Int.reduceToNat, Int.reduceLE, Int.reduceLT, Int.reduceNeg, Int.reduceSub, Int.reduceAdd, Int.reduceMul, rr_eq, rc, mvS]
            exact ⟨k + 1, by omega, by omega, Wk.ofH (by simp only [go_sem, ↓List.forall_mem_cons, List.not_mem_nil, false_implies, implies_true, and_true, true_and, and_self, Nat.reduceEqDiff, reduceIte, ↓reduceIte, ri_eq, Int.natCast_add, Int.cast_ofNat_Int, rr_eq, rc]; try simp) (by simp (disch := omega) only [go_sem, ↓List.forall_mem_cons, List.not_mem_nil, false_implies, implies_true, and_true, true_and, and_self, Nat.reduceEqDiff, reduceIte, ↓reduceIte, ri_eq, Int.natCast_add, Int.cast_ofNat_Int, if_pos, if_neg, Nat.reduceAdd, List.nil_append, hb2]; try simp) (Nat.le_refl _)⟩
        · rw [if_neg (fun h => hg h.2.1)] at hb
          subst hb
          simp (disch := omega) only [Try.ntmps46, Try.results46, go_sem, Nat.reduceLT, Nat.reduceLeDiff, Nat.reduceEqDiff, Nat.reduceAdd, Nat.reduceSub, Nat.reduceMul, reduceIte, ↓reduceIte, reduceCtorEq, Int.reduceToNat, Int.reduceLE, Int.reduceLT, Int.reduceNeg, Int.reduceSub, Int.reduceAdd, Int.reduceMul, rr_eq, rc, mvS]
          refine w3.callV 0 (viewL_cons_of (view_rowL (by first | rfl | simp [marks_length, canon_length] | omega)) (viewL_cons_of (view_int) (viewL_cons_of (view_int) viewL_nil_of))) ?_
          simp (disch := omega) only [Try.ntmps46, Try.results46, go_sem, Nat.reduceLT, Nat.reduceLeDiff, Nat.reduceEqDiff, Nat.reduceAdd, Nat.reduceSub, Nat.reduceMul, reduceIte, ↓reduceIte, reduceCtorEq, Int.reduceToNat, Int.reduceLE, Int.reduceLT, Int.reduceNeg, Int.reduceSub, Int.reduceAdd, Int.reduceMul, rr_eq, rc, mvS]
          refine w4.callV 0 (viewL_cons_of (view_row) (viewL_cons_of (view_rowL (by first | rfl | simp [marks_length, canon_length] | omega)) (viewL_cons_of (view_int) (viewL_cons_of (view_int) viewL_nil_of)))) ?_
          simp (disch := omega) only [Try.ntmps46, Try.results46, go_sem, Nat.reduceLT, Nat.reduceLeDiff, Nat.reduceEqDiff, Nat.reduceAdd, Nat.reduceSub, Nat.reduceMul, reduceIte, ↓reduceIte, reduceCtorEq, Int.reduceToNat, Int.reduceLE, Int.reduceLT, Int.reduceNeg, Int.reduceSub, Int.reduceAdd, Int.reduceMul, rr_eq, rc, mvS]
          exact ⟨k + 1, by omega, by omega, Wk.ofH (by simp only [go_sem, ↓List.forall_mem_cons, List.not_mem_nil, false_implies, implies_true, and_true, true_and, and_self, Nat.reduceEqDiff, reduceIte, ↓reduceIte, ri_eq, Int.natCast_add, Int.cast_ofNat_Int, rr_eq, rc]; try simp) (by simp (disch := omega) only [go_sem, ↓List.forall_mem_cons, List.not_mem_nil, false_implies, implies_true, and_true, true_and, and_self, Nat.reduceEqDiff, reduceIte, ↓reduceIte, ri_eq, Int.natCast_add, Int.cast_ofNat_Int, if_pos, if_neg, Nat.reduceAdd, List.nil_append, hb2]; try simp) (Nat.le_refl _)⟩
      · rw [hok] at w3
        rw [if_neg (fun h => by rw [hok] at h; cases h.1)] at hb
        subst hb
        simp (disch := omega) only [Try.ntmps46, Try.results46, go_sem, Nat.reduceLT, Nat.reduceLeDiff, Nat.reduceEqDiff, Nat.reduceAdd, Nat.reduceSub, Nat.reduceMul, reduceIte, ↓reduceIte, reduceCtorEq, Int.reduceToNat, Int.reduceLE, Int.reduceLT, Int.reduceNeg, Int.reduceSub, Int.reduceAdd, Int.reduceMul, rr_eq, rc, mvS]
        refine w3.callV 0 (viewL_cons_of (view_rowL (by first | rfl | simp [marks_length, canon_length] | omega)) (viewL_cons_of (view_int) (viewL_cons_of (view_int) viewL_nil_of))) ?_
        simp (disch := omega) only [Try.ntmps46, Try.results46, go_sem, Nat.reduceLT, Nat.reduceLeDiff, Nat.reduceEqDiff, Nat.reduceAdd, Nat.reduceSub, Nat.reduceMul, reduceIte, ↓reduceIte, reduceCtorEq, Int.reduceToNat, Int.reduceLE, Int.reduceLT, Int.reduceNeg, Int.reduceSub, Int.reduceAdd, Int.reduceMul, rr_eq, rc, mvS]
        refine w4.callV 0 (viewL_cons_of (view_row) (viewL_cons_of (view_rowL (by first | rfl | simp [marks_length, canon_length] | omega)) (viewL_cons_of (view_int) (viewL_cons_of (view_int) viewL_nil_of)))) ?_
        simp (disch := omega) only [Try.ntmps46, Try.results46, go_sem, Nat.reduceLT, Nat.reduceLeDiff, Nat.reduceEqDiff, Nat.reduceAdd, Nat.reduceSub, Nat.reduceMul, reduceIte, ↓reduceIte, reduceCtorEq, Int.reduceToNat, Int.reduceLE, Int.reduceLT, Int.reduceNeg, Int.reduceSub, Int.reduceAdd, Int.reduceMul, rr_eq, rc, mvS]
        exact ⟨k + 1, by omega, by omega, Wk.ofH (by simp only [go_sem, ↓List.forall_mem_cons, List.not_mem_nil, false_implies, implies_true, and_true, true_and, and_self, Nat.reduceEqDiff, reduceIte, ↓reduceIte, ri_eq, Int.natCast_add, Int.cast_ofNat_Int, rr_eq, rc]; try simp) (by simp (disch := omega) only [go_sem, ↓List.forall_mem_cons, List.not_mem_nil, false_implies, implies_true, and_true, true_and, and_self, Nat.reduceEqDiff, reduceIte, ↓reduceIte, ri_eq, Int.natCast_add, Int.cast_ofNat_Int, if_pos, if_neg, Nat.reduceAdd, List.nil_append, hb2]; try simp) (Nat.le_refl _)⟩
    · obtain rfl : k = L.length + 1 := by omega
      have e : bmRow M C L (bmTo M C L i) i (L.length + 1) = bmTo M C L (i + 1) := rfl
      rw [e]
      simp (disch := omega) only [Try.ntmps46, Try.results46, go_sem, Nat.reduceLT, Nat.reduceLeDiff, Nat.reduceEqDiff, Nat.reduceAdd, Nat.reduceSub, Nat.reduceMul, reduceIte, ↓reduceIte, reduceCtorEq, Int.reduceToNat, Int.reduceLE, Int.reduceLT, Int.reduceNeg, Int.reduceSub, Int.reduceAdd, Int.reduceMul, rr_eq, rc, mvS]
      exact ⟨i + 1, hlt, by omega, Wk.ofH (by simp only [go_sem, ↓List.forall_mem_cons, List.not_mem_nil, false_implies, implies_true, and_true, true_and, and_self, Nat.reduceEqDiff, reduceIte, ↓reduceIte, ri_eq, Int.natCast_add, Int.cast_ofNat_Int, rr_eq, rc]; try simp) (by simp (disch := omega) only [go_sem, ↓List.forall_mem_cons, List.not_mem_nil, false_implies, implies_true, and_true, true_and, and_self, Nat.reduceEqDiff, reduceIte, ↓reduceIte, ri_eq, Int.natCast_add, Int.cast_ofNat_Int, if_pos, if_neg, Nat.reduceAdd, List.nil_append]; try simp) (Nat.le_refl _)⟩
  · obtain rfl : i = L.length := by omega
    simp (disch := omega) only [Try.ntmps46, Try.results46, go_sem, Nat.reduceLT, Nat.reduceLeDiff, Nat.reduceEqDiff, Nat.reduceAdd, Nat.reduceSub, Nat.reduceMul, reduceIte, ↓reduceIte, reduceCtorEq, Int.reduceToNat, Int.reduceLE, Int.reduceLT, Int.reduceNeg, Int.reduceSub, Int.reduceAdd, Int.reduceMul, rr_eq, rc, mvS]
    exact fin_mv rfl
end Go.Sh
