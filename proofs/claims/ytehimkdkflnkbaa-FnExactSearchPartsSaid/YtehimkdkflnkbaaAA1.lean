/-
  Contracts: the parts that are searched; how far a partition is from a bound. Of the program and the reference.
-/
import Derived.Test.YtehimkdkflnkbaaT2
import Derived.Test.YtehimkdkflnkbaaS2
namespace Go.Sh
set_option linter.unusedSimpArgs false
set_option linter.unusedVariables false
open Go Go.Proofs

def spOk (M : List (List Int)) (C : List Con) : Prop := WM M ∧ areCons M.length C = true
open Classical in
noncomputable def sp (M : List (List Int)) (C : List Con) : List Int := if spOk M C then jn (pcomp M) (must M.length C) else []
theorem sp_t {M : List (List Int)} {C : List Con} (h : spOk M C) : sp M C = jn (pcomp M) (must M.length C) := by rw [sp, if_pos h]
theorem sp_f {M : List (List Int)} {C : List Con} (h : ¬ spOk M C) : sp M C = [] := by rw [sp, if_neg h]
def spP (M : List (List Int)) (C : List Con) : Prop := spOk M C ∧ pairB (pcomp M) (must M.length C) = true
theorem sp_len {M : List (List Int)} {C : List Con} (h : spP M C) : (sp M C).length = M.length := by
  rw [sp_t h.1, jn_length h.2, pcomp_length h.1.1]
theorem sp_nil {M : List (List Int)} {C : List Con} (h : ¬ spP M C) : sp M C = [] := by
  by_cases g : spOk M C
  · rw [sp_t g, jn_f (by
      rcases Bool.eq_false_or_eq_true (pairB (pcomp M) (must M.length C)) with k | k
      · exact absurd ⟨g, k⟩ h
      · exact k)]
  · exact sp_f g

set_option maxHeartbeats 4000000 in
theorem Try.implSp_f (M : List (List Int)) (C : List Con) (hM : M.length ≤ 1048576) (hR : ∀ i, i < M.length → (mrow M i).length ≤ 1048576) (hC : C.length ≤ 1048576) (h : spP M C) : FCall Try.prog 28 [rr M, rc C] (FlatRes M.length 1 (ints (sp M C))) := by
  have hl1 := pcomp_length h.1.1
  have hl2 := must_length h.1.2
  have hln := h.1.1.1
  have w1 := Try.implIsWM_ok M hM hR
  rw [isWM_t h.1.1] at w1
  have w2 := Try.implAreConstraints_ok M.length C hC
  rw [h.1.2] at w2
  have w3 := Try.implPC_one M hM hR h.1.1
  have w4 := Try.implMust_one M.length C hC h.1.2
  rw [Int.toNat_natCast] at w4 hl2
  have w5 := Try.implJoin_one (pcomp M) (must M.length C) (by omega) (by omega) h.2
  rw [← sp_t h.1, hl1] at w5
  refine FCall.of_body Try.func28 rfl (by kernel_rfl) (by simp [Try.ntmps28]) ?_
  refine SW_of_vc Try.mixed _ _ _ (by kernel_rfl) ?_
  simp (disch := omega) only [Try.ntmps28, Try.results28, go_sem, Nat.reduceLT, Nat.reduceLeDiff, Nat.reduceEqDiff, Nat.reduceAdd, Nat.reduceSub, Nat.reduceMul, reduceIte, ↓reduceIte, reduceCtorEq, Int.reduceToNat, Int.reduceLE, Int.reduceLT, Int.reduceNeg, Int.reduceSub, Int.reduceAdd, Int.reduceMul, rr_eq, rc]
  refine w1.callV 0 (viewL_cons_of (view_row) viewL_nil_of) ?_
  simp (disch := omega) only [Try.ntmps28, Try.results28, go_sem, Nat.reduceLT, Nat.reduceLeDiff, Nat.reduceEqDiff, Nat.reduceAdd, Nat.reduceSub, Nat.reduceMul, reduceIte, ↓reduceIte, reduceCtorEq, Int.reduceToNat, Int.reduceLE, Int.reduceLT, Int.reduceNeg, Int.reduceSub, Int.reduceAdd, Int.reduceMul, rr_eq, rc]
  refine w2.callV 0 (viewL_cons_of (view_int) (viewL_cons_of (view_row) viewL_nil_of)) ?_
  simp (disch := omega) only [Try.ntmps28, Try.results28, go_sem, Nat.reduceLT, Nat.reduceLeDiff, Nat.reduceEqDiff, Nat.reduceAdd, Nat.reduceSub, Nat.reduceMul, reduceIte, ↓reduceIte, reduceCtorEq, Int.reduceToNat, Int.reduceLE, Int.reduceLT, Int.reduceNeg, Int.reduceSub, Int.reduceAdd, Int.reduceMul, rr_eq, rc]
  refine w3.callOne (ints_vals _) 0 (viewL_cons_of (view_row) viewL_nil_of) ?_
  simp (disch := omega) only [Try.ntmps28, Try.results28, go_sem, Nat.reduceLT, Nat.reduceLeDiff, Nat.reduceEqDiff, Nat.reduceAdd, Nat.reduceSub, Nat.reduceMul, reduceIte, ↓reduceIte, reduceCtorEq, Int.reduceToNat, Int.reduceLE, Int.reduceLT, Int.reduceNeg, Int.reduceSub, Int.reduceAdd, Int.reduceMul, rr_eq, rc]
  refine w4.callOne (ints_vals _) 0 (viewL_cons_of (view_int) (viewL_cons_of (view_row) viewL_nil_of)) ?_
  simp (disch := omega) only [Try.ntmps28, Try.results28, go_sem, Nat.reduceLT, Nat.reduceLeDiff, Nat.reduceEqDiff, Nat.reduceAdd, Nat.reduceSub, Nat.reduceMul, reduceIte, ↓reduceIte, reduceCtorEq, Int.reduceToNat, Int.reduceLE, Int.reduceLT, Int.reduceNeg, Int.reduceSub, Int.reduceAdd, Int.reduceMul, rr_eq, rc]
  refine w5.callOne (ints_vals _) 1 (viewL_cons_of (view_own (e2 := false) rfl hl1.symm) (viewL_cons_of (view_own (e2 := false) rfl hl2.symm) viewL_nil_of)) ?_
  simp (disch := omega) only [Try.ntmps28, Try.results28, go_sem, Nat.reduceLT, Nat.reduceLeDiff, Nat.reduceEqDiff, Nat.reduceAdd, Nat.reduceSub, Nat.reduceMul, reduceIte, ↓reduceIte, reduceCtorEq, Int.reduceToNat, Int.reduceLE, Int.reduceLT, Int.reduceNeg, Int.reduceSub, Int.reduceAdd, Int.reduceMul, rr_eq, rc]
  exact fin_ints (sp_len h).symm (by rw [hp_map, hmap_cons, if_pos rfl])
set_option maxHeartbeats 4000000 in
theorem Try.implSp_nil (M : List (List Int)) (C : List Con) (hM : M.length ≤ 1048576) (hR : ∀ i, i < M.length → (mrow M i).length ≤ 1048576) (hC : C.length ≤ 1048576) (h : ¬ spP M C) : FCall Try.prog 28 [rr M, rc C] (fun r _ => r = .val (.slice none 0 0)) := by
  have w1 := Try.implIsWM_ok M hM hR
  have w2 := Try.implAreConstraints_ok M.length C hC
  refine FCall.of_body Try.func28 rfl (by kernel_rfl) (by simp [Try.ntmps28]) ?_
  refine SW_of_vc Try.mixed _ _ _ (by kernel_rfl) ?_
  by_cases hw : WM M
  · rw [isWM_t hw] at w1
    rcases Bool.eq_false_or_eq_true (areCons M.length C) with ha | ha
    · have hl1 := pcomp_length hw
      have hl2 := must_length ha
      have hln := hw.1
      rw [ha] at w2
      have w3 := Try.implPC_one M hM hR hw
      have w4 := Try.implMust_one M.length C hC ha
      rw [Int.toNat_natCast] at w4 hl2
      have w5 := Try.implJoin_nil (pcomp M) (must M.length C) (by omega) (by omega) (by
        rcases Bool.eq_false_or_eq_true (pairB (pcomp M) (must M.length C)) with k | k
        · exact absurd ⟨⟨hw, ha⟩, k⟩ h
        · exact k)
      simp (disch := omega) only [Try.ntmps28, Try.results28, go_sem, Nat.reduceLT, Nat.reduceLeDiff, Nat.reduceEqDiff, Nat.reduceAdd, Nat.reduceSub, Nat.reduceMul, reduceIte, ↓reduceIte, reduceCtorEq, Int.reduceToNat, Int.reduceLE, Int.reduceLT, Int.reduceNeg, Int.reduceSub, Int.reduceAdd, Int.reduceMul, rr_eq, rc]
      refine w1.callV 0 (viewL_cons_of (view_row) viewL_nil_of) ?_
      simp (disch := omega) only [Try.ntmps28, Try.results28, go_sem, Nat.reduceLT, Nat.reduceLeDiff, Nat.reduceEqDiff, Nat.reduceAdd, Nat.reduceSub, Nat.reduceMul, reduceIte, ↓reduceIte, reduceCtorEq, Int.reduceToNat, Int.reduceLE, Int.reduceLT, Int.reduceNeg, Int.reduceSub, Int.reduceAdd, Int.reduceMul, rr_eq, rc]
      refine w2.callV 0 (viewL_cons_of (view_int) (viewL_cons_of (view_row) viewL_nil_of)) ?_
      simp (disch := omega) only [Try.ntmps28, Try.results28, go_sem, Nat.reduceLT, Nat.reduceLeDiff, Nat.reduceEqDiff, Nat.reduceAdd, Nat.reduceSub, Nat.reduceMul, reduceIte, ↓reduceIte, reduceCtorEq, Int.reduceToNat, Int.reduceLE, Int.reduceLT, Int.reduceNeg, Int.reduceSub, Int.reduceAdd, Int.reduceMul, rr_eq, rc]
      refine w3.callOne (ints_vals _) 0 (viewL_cons_of (view_row) viewL_nil_of) ?_
      simp (disch := omega) only [Try.ntmps28, Try.results28, go_sem, Nat.reduceLT, Nat.reduceLeDiff, Nat.reduceEqDiff, Nat.reduceAdd, Nat.reduceSub, Nat.reduceMul, reduceIte, ↓reduceIte, reduceCtorEq, Int.reduceToNat, Int.reduceLE, Int.reduceLT, Int.reduceNeg, Int.reduceSub, Int.reduceAdd, Int.reduceMul, rr_eq, rc]
      refine w4.callOne (ints_vals _) 0 (viewL_cons_of (view_int) (viewL_cons_of (view_row) viewL_nil_of)) ?_
      simp (disch := omega) only [Try.ntmps28, Try.results28, go_sem, Nat.reduceLT, Nat.reduceLeDiff, Nat.reduceEqDiff, Nat.reduceAdd, Nat.reduceSub, Nat.reduceMul, reduceIte, ↓reduceIte, reduceCtorEq, Int.reduceToNat, Int.reduceLE, Int.reduceLT, Int.reduceNeg, Int.reduceSub, Int.reduceAdd, Int.reduceMul, rr_eq, rc]
      refine w5.callVal 1 (viewL_cons_of (view_own (e2 := false) rfl hl1.symm) (viewL_cons_of (view_own (e2 := false) rfl hl2.symm) viewL_nil_of)) ?_
      simp (disch := omega) only [Try.ntmps28, Try.results28, go_sem, Nat.reduceLT, Nat.reduceLeDiff, Nat.reduceEqDiff, Nat.reduceAdd, Nat.reduceSub, Nat.reduceMul, reduceIte, ↓reduceIte, reduceCtorEq, Int.reduceToNat, Int.reduceLE, Int.reduceLT, Int.reduceNeg, Int.reduceSub, Int.reduceAdd, Int.reduceMul, rr_eq, rc]
      exact Fin.val rfl
    · rw [ha] at w2
      simp (disch := omega) only [Try.ntmps28, Try.results28, go_sem, Nat.reduceLT, Nat.reduceLeDiff, Nat.reduceEqDiff, Nat.reduceAdd, Nat.reduceSub, Nat.reduceMul, reduceIte, ↓reduceIte, reduceCtorEq, Int.reduceToNat, Int.reduceLE, Int.reduceLT, Int.reduceNeg, Int.reduceSub, Int.reduceAdd, Int.reduceMul, rr_eq, rc]
      refine w1.callV 0 (viewL_cons_of (view_row) viewL_nil_of) ?_
      simp (disch := omega) only [Try.ntmps28, Try.results28, go_sem, Nat.reduceLT, Nat.reduceLeDiff, Nat.reduceEqDiff, Nat.reduceAdd, Nat.reduceSub, Nat.reduceMul, reduceIte, ↓reduceIte, reduceCtorEq, Int.reduceToNat, Int.reduceLE, Int.reduceLT, Int.reduceNeg, Int.reduceSub, Int.reduceAdd, Int.reduceMul, rr_eq, rc]
      refine w2.callV 0 (viewL_cons_of (view_int) (viewL_cons_of (view_row) viewL_nil_of)) ?_
      simp (disch := omega) only [Try.ntmps28, Try.results28, go_sem, Nat.reduceLT, Nat.reduceLeDiff, Nat.reduceEqDiff, Nat.reduceAdd, Nat.reduceSub, Nat.reduceMul, reduceIte, ↓reduceIte, reduceCtorEq, Int.reduceToNat, Int.reduceLE, Int.reduceLT, Int.reduceNeg, Int.reduceSub, Int.reduceAdd, Int.reduceMul, rr_eq, rc]
      exact Fin.val rfl
  · rw [isWM_f hw] at w1
    simp (disch := omega) only [Try.ntmps28, Try.results28, go_sem, Nat.reduceLT, Nat.reduceLeDiff, Nat.reduceEqDiff, Nat.reduceAdd, Nat.reduceSub, Nat.reduceMul, reduceIte, ↓reduceIte, reduceCtorEq, Int.reduceToNat, Int.reduceLE, Int.reduceLT, Int.reduceNeg, Int.reduceSub, Int.reduceAdd, Int.reduceMul, rr_eq, rc]
    refine w1.callV 0 (viewL_cons_of (view_row) viewL_nil_of) ?_
    simp (disch := omega) only [Try.ntmps28, Try.results28, go_sem, Nat.reduceLT, Nat.reduceLeDiff, Nat.reduceEqDiff, Nat.reduceAdd, Nat.reduceSub, Nat.reduceMul, reduceIte, ↓reduceIte, reduceCtorEq, Int.reduceToNat, Int.reduceLE, Int.reduceLT, Int.reduceNeg, Int.reduceSub, Int.reduceAdd, Int.reduceMul, rr_eq, rc]
    exact Fin.val rfl
theorem Try.implSp_one (M : List (List Int)) (C : List Con) (hM : M.length ≤ 1048576) (hR : ∀ i, i < M.length → (mrow M i).length ≤ 1048576) (hC : C.length ≤ 1048576) (h : spP M C) : FCall Try.prog 28 [rr M, rc C] (OneRes M.length 1 (ints (sp M C))) := (Try.implSp_f M C hM hR hC h).one
theorem Try.implSp_ok (M : List (List Int)) (C : List Con) (hM : M.length ≤ 1048576) (hR : ∀ i, i < M.length → (mrow M i).length ≤ 1048576) (hC : C.length ≤ 1048576) : PCall Try.prog 28 [rr M, rc C] (ri (sp M C)) := by
  by_cases h : spP M C
  · exact (Try.implSp_f M C hM hR hC h).pcall 2 (fun _ _ h => flat_view h)
  · rw [sp_nil h]; exact (Try.implSp_nil M C hM hR hC h).pcall 0 (by rintro r H rfl; exact view_nil)
set_option maxHeartbeats 4000000 in
theorem Try.specSp_ok (M : List (List Int)) (C : List Con) (hM : M.length ≤ 1048576) (hR : ∀ i, i < M.length → (mrow M i).length ≤ 1048576) (hC : C.length ≤ 1048576) : PCall Try.prog 26 [rr M, rc C] (ri (sp M C)) := by
  refine FCall.pcall (R := fun r H => view H 2 r = some (ri (sp M C))) ?_ 2 (fun _ _ h => h)
  have w1 := Try.specIsWM_ok M hM hR
  have w2 := Try.specAreConstraints_ok M.length C hC (by omega) (by omega)
  refine FCall.of_body Try.func26 rfl (by kernel_rfl) (by simp [Try.ntmps26]) ?_
  refine SW_of_vc Try.mixed _ _ _ (by kernel_rfl) ?_
  by_cases hw : WM M
  · have hln := hw.1
    rw [isWM_t hw] at w1
    rcases Bool.eq_false_or_eq_true (areCons M.length C) with ha | ha
    · have hl1 := pcomp_length hw
      have hl2 := must_length ha
      rw [ha] at w2
      rw [Int.toNat_natCast] at hl2
      have w3 := Try.specPC_ok M hM hR
      have w4 := Try.specMust_ok M.length C hC (by omega) (by omega)
      rw [sp_t ⟨hw, ha⟩]
      have w5 : FCall Try.prog 66 [ri (pcomp M), ri (must M.length C)] (FlatRes (jn (pcomp M) (must M.length C)).length 1 (ints (jn (pcomp M) (must M.length C)))) := by
        rcases Bool.eq_false_or_eq_true (pairB (pcomp M) (must M.length C)) with k | k
        · rw [jn_length k]; exact Try.specJoin_f _ _ (by omega) (by omega) k
        · rw [jn_f k]; exact Try.specJoin_not _ _ (by omega) (by omega) k
      simp (disch := omega) only [Try.ntmps26, Try.results26, go_sem, Nat.reduceLT, Nat.reduceLeDiff, Nat.reduceEqDiff, Nat.reduceAdd, Nat.reduceSub, Nat.reduceMul, reduceIte, ↓reduceIte, reduceCtorEq, Int.reduceToNat, Int.reduceLE, Int.reduceLT, Int.reduceNeg, Int.reduceSub, Int.reduceAdd, Int.reduceMul, rr_eq, rc]
      refine w1.callV 0 (viewL_cons_of (view_row) viewL_nil_of) ?_
      simp (disch := omega) only [Try.ntmps26, Try.results26, go_sem, Nat.reduceLT, Nat.reduceLeDiff, Nat.reduceEqDiff, Nat.reduceAdd, Nat.reduceSub, Nat.reduceMul, reduceIte, ↓reduceIte, reduceCtorEq, Int.reduceToNat, Int.reduceLE, Int.reduceLT, Int.reduceNeg, Int.reduceSub, Int.reduceAdd, Int.reduceMul, rr_eq, rc]
      refine w2.callV 0 (viewL_cons_of (view_int) (viewL_cons_of (view_row) viewL_nil_of)) ?_
      simp (disch := omega) only [Try.ntmps26, Try.results26, go_sem, Nat.reduceLT, Nat.reduceLeDiff, Nat.reduceEqDiff, Nat.reduceAdd, Nat.reduceSub, Nat.reduceMul, reduceIte, ↓reduceIte, reduceCtorEq, Int.reduceToNat, Int.reduceLE, Int.reduceLT, Int.reduceNeg, Int.reduceSub, Int.reduceAdd, Int.reduceMul, rr_eq, rc]
      refine w3.callV 0 (viewL_cons_of (view_row) viewL_nil_of) ?_
      simp (disch := omega) only [Try.ntmps26, Try.results26, go_sem, Nat.reduceLT, Nat.reduceLeDiff, Nat.reduceEqDiff, Nat.reduceAdd, Nat.reduceSub, Nat.reduceMul, reduceIte, ↓reduceIte, reduceCtorEq, Int.reduceToNat, Int.reduceLE, Int.reduceLT, Int.reduceNeg, Int.reduceSub, Int.reduceAdd, Int.reduceMul, rr_eq, rc]
      refine w4.callV 0 (viewL_cons_of (view_int) (viewL_cons_of (view_row) viewL_nil_of)) ?_
      simp (disch := omega) only [Try.ntmps26, Try.results26, go_sem, Nat.reduceLT, Nat.reduceLeDiff, Nat.reduceEqDiff, Nat.reduceAdd, Nat.reduceSub, Nat.reduceMul, reduceIte, ↓reduceIte, reduceCtorEq, Int.reduceToNat, Int.reduceLE, Int.reduceLT, Int.reduceNeg, Int.reduceSub, Int.reduceAdd, Int.reduceMul, rr_eq, rc]
      refine w5.one.callOne (ints_vals _) 1 (viewL_cons_of (view_rowL (by first | rfl | simp [marks_length, canon_length] | omega)) (viewL_cons_of (view_rowL (by first | rfl | simp [marks_length, canon_length] | omega)) viewL_nil_of)) ?_
      simp (disch := omega) only [Try.ntmps26, Try.results26, go_sem, Nat.reduceLT, Nat.reduceLeDiff, Nat.reduceEqDiff, Nat.reduceAdd, Nat.reduceSub, Nat.reduceMul, reduceIte, ↓reduceIte, reduceCtorEq, Int.reduceToNat, Int.reduceLE, Int.reduceLT, Int.reduceNeg, Int.reduceSub, Int.reduceAdd, Int.reduceMul, rr_eq, rc]
      exact Fin.imp (fun _ _ h => flat_view h) (fin_ints rfl (by rw [hp_map, hmap_cons, if_pos rfl]))
    · rw [ha] at w2
      rw [sp_f (fun g => by have := g.2; rw [ha] at this; cases this)]
      simp (disch := omega) only [Try.ntmps26, Try.results26, go_sem, Nat.reduceLT, Nat.reduceLeDiff, Nat.reduceEqDiff, Nat.reduceAdd, Nat.reduceSub, Nat.reduceMul, reduceIte, ↓reduceIte, reduceCtorEq, Int.reduceToNat, Int.reduceLE, Int.reduceLT, Int.reduceNeg, Int.reduceSub, Int.reduceAdd, Int.reduceMul, rr_eq, rc]
      refine w1.callV 0 (viewL_cons_of (view_row) viewL_nil_of) ?_
      simp (disch := omega) only [Try.ntmps26, Try.results26, go_sem, Nat.reduceLT, Nat.reduceLeDiff, Nat.reduceEqDiff, Nat.reduceAdd, Nat.reduceSub, Nat.reduceMul, reduceIte, ↓reduceIte, reduceCtorEq, Int.reduceToNat, Int.reduceLE, Int.reduceLT, Int.reduceNeg, Int.reduceSub, Int.reduceAdd, Int.reduceMul, rr_eq, rc]
      refine w2.callV 0 (viewL_cons_of (view_int) (viewL_cons_of (view_row) viewL_nil_of)) ?_
      simp (disch := omega) only [Try.ntmps26, Try.results26, go_sem, Nat.reduceLT, Nat.reduceLeDiff, Nat.reduceEqDiff, Nat.reduceAdd, Nat.reduceSub, Nat.reduceMul, reduceIte, ↓reduceIte, reduceCtorEq, Int.reduceToNat, Int.reduceLE, Int.reduceLT, Int.reduceNeg, Int.reduceSub, Int.reduceAdd, Int.reduceMul, rr_eq, rc]
      exact Fin.imp (fun _ _ h => flat_view h) (fin_ints (L := []) (b := 0) (e2 := false) rfl rfl)
  · rw [isWM_f hw] at w1
    rw [sp_f (fun g => hw g.1)]
    simp (disch := omega) only [Try.ntmps26, Try.results26, go_sem, Nat.reduceLT, Nat.reduceLeDiff, Nat.reduceEqDiff, Nat.reduceAdd, Nat.reduceSub, Nat.reduceMul, reduceIte, ↓reduceIte, reduceCtorEq, Int.reduceToNat, Int.reduceLE, Int.reduceLT, Int.reduceNeg, Int.reduceSub, Int.reduceAdd, Int.reduceMul, rr_eq, rc]
    refine w1.callV 0 (viewL_cons_of (view_row) viewL_nil_of) ?_
    simp (disch := omega) only [Try.ntmps26, Try.results26, go_sem, Nat.reduceLT, Nat.reduceLeDiff, Nat.reduceEqDiff, Nat.reduceAdd, Nat.reduceSub, Nat.reduceMul, reduceIte, ↓reduceIte, reduceCtorEq, Int.reduceToNat, Int.reduceLE, Int.reduceLT, Int.reduceNeg, Int.reduceSub, Int.reduceAdd, Int.reduceMul, rr_eq, rc]
    exact Fin.imp (fun _ _ h => flat_view h) (fin_ints (L := []) (b := 0) (e2 := false) rfl rfl)
end Go.Sh
