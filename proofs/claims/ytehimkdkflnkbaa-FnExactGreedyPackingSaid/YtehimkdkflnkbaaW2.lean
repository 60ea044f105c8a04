/-
  Contracts: all bad triangles. Of the reference.
-/
import Derived.Test.YtehimkdkflnkbaaW1
namespace Go.Sh
set_option linter.unusedSimpArgs false
set_option linter.unusedVariables false
open Go Go.Proofs

theorem rep_zero (zs : List SV) : rep zs 0 = [] := rfl
theorem isBT_at {M : List (List Int)} (hw : WM M) {a b c : Nat} (h1 : a < b) (h2 : b < c) (h3 : c < M.length) : isBT M a b c = badB (mat M a b) (mat M a c) (mat M b c) := by
  have : triB M.length a b c = true := decide_eq_true (by omega)
  rw [isBT, isWM_t hw, this]; rfl
set_option maxHeartbeats 8000000 in
theorem Try.specBadT_f (M : List (List Int)) (hM : M.length ≤ 1048576) (hR : ∀ i, i < M.length → (mrow M i).length ≤ 1048576) (hw : WM M) : FCall Try.prog 76 [rr M] (FlatRes (badT M).length 4 (encL tri4 (badT M))) := by
  have hln := hw.1
  rw [badT_t hw]
  refine FCall.of_body Try.func76 rfl (by kernel_rfl) (by simp [Try.ntmps76]) ?_
  refine SW_of_vc Try.mixed _ _ _ (by kernel_rfl) ?_
  simp (disch := omega) only [Try.ntmps76, Try.results76, go_sem, Nat.reduceLT, Nat.reduceLeDiff, Nat.reduceEqDiff, Nat.reduceAdd, Nat.reduceSub, Nat.reduceMul, reduceIte, ↓reduceIte, reduceCtorEq, Int.reduceToNat, Int.reduceLE, Int.reduceLT, Int.reduceNeg, Int.reduceSub, Int.reduceAdd, Int.reduceMul, rr_eq]
  refine LoopW.loop (fun p : Nat × Nat × Nat => ⟨ofL [(0, rr M), (3, .own p.2.1 0 (Ta M p.1).length (Ta M p.1).length 4 false), (4, .val (.int .i64 p.1))], hp [(p.2.1, ⟨encL tri4 (Ta M p.1), false⟩)] p.2.2⟩)
    (fun p => p.1 ≤ M.length ∧ p.2.1 < p.2.2) (fun p => M.length - p.1) (0, 0, 1) ⟨by simp, by simp⟩ (Wk.ofH (by simp only [go_sem, ↓List.forall_mem_cons, List.not_mem_nil, false_implies, implies_true, and_true, true_and, and_self, Nat.reduceEqDiff, reduceIte, ↓reduceIte, ri_eq, Int.natCast_add, Int.cast_ofNat_Int, rr_eq, Ta, List.range_zero, List.flatMap_nil, List.length_nil]; try simp) (by simp [Ta, encL, hp, hmap, rep_zero]) (by simp [hp])) ?_
  rintro ⟨a, ob, nb⟩ ⟨ha, hob⟩
  simp only at ha hob
  refine SW_of_vc Try.mixed _ _ _ (by kernel_rfl) ?_
  by_cases hlt : a < M.length
  · simp (disch := omega) only [Try.ntmps76, Try.results76, go_sem, Nat.reduceLT, Nat.reduceLeDiff, Nat.reduceEqDiff, Nat.reduceAdd, Nat.reduceSub, Nat.reduceMul, reduceIte, ↓reduceIte, reduceCtorEq, Int.reduceToNat, Int.reduceLE, Int.reduceLT, Int.reduceNeg, Int.reduceSub, Int.reduceAdd, Int.reduceMul, rr_eq]
    refine LoopW.loop (fun p : Nat × Nat × Nat => ⟨ofL [(0, rr M), (3, .own p.2.1 0 (Ta M a ++ Tb M a p.1).length (Ta M a ++ Tb M a p.1).length 4 false), (4, .val (.int .i64 a)), (5, .val (.int .i64 p.1))], hp [(p.2.1, ⟨encL tri4 (Ta M a ++ Tb M a p.1), false⟩)] p.2.2⟩)
      (fun p => a < p.1 ∧ p.1 ≤ M.length ∧ p.2.1 < p.2.2) (fun p => M.length - p.1) (a + 1, ob, nb) ⟨by simp, hlt, hob⟩
      (by
        have e : Tb M a (a + 1) = [] := Tb_start M a (a + 1) (Nat.le_refl _)
        exact Wk.ofH (by simp only [go_sem, ↓List.forall_mem_cons, List.not_mem_nil, false_implies, implies_true, and_true, true_and, and_self, Nat.reduceEqDiff, reduceIte, ↓reduceIte, ri_eq, Int.natCast_add, Int.cast_ofNat_Int, rr_eq, e, List.append_nil]; try simp) (by simp (disch := omega) only [go_sem, ↓List.forall_mem_cons, List.not_mem_nil, false_implies, implies_true, and_true, true_and, and_self, Nat.reduceEqDiff, reduceIte, ↓reduceIte, ri_eq, Int.natCast_add, Int.cast_ofNat_Int, if_pos, if_neg, Nat.reduceAdd, List.nil_append, e, List.append_nil]; try simp) (Nat.le_refl _)) ?_
    rintro ⟨b, ob, nb⟩ ⟨hab, hb, hob⟩
    simp only at hab hb hob
    refine SW_of_vc Try.mixed _ _ _ (by kernel_rfl) ?_
    by_cases hlt2 : b < M.length
    · simp (disch := omega) only [Try.ntmps76, Try.results76, go_sem, Nat.reduceLT, Nat.reduceLeDiff, Nat.reduceEqDiff, Nat.reduceAdd, Nat.reduceSub, Nat.reduceMul, reduceIte, ↓reduceIte, reduceCtorEq, Int.reduceToNat, Int.reduceLE, Int.reduceLT, Int.reduceNeg, Int.reduceSub, Int.reduceAdd, Int.reduceMul, rr_eq]
      refine LoopW.loop (fun p : Nat × Nat × Nat => ⟨ofL [(0, rr M), (3, .own p.2.1 0 (Ta M a ++ Tb M a b ++ Tc M a b p.1).length (Ta M a ++ Tb M a b ++ Tc M a b p.1).length 4 false), (4, .val (.int .i64 a)), (5, .val (.int .i64 b)), (6, .val (.int .i64 p.1))], hp [(p.2.1, ⟨encL tri4 (Ta M a ++ Tb M a b ++ Tc M a b p.1), false⟩)] p.2.2⟩)
        (fun p => b < p.1 ∧ p.1 ≤ M.length ∧ p.2.1 < p.2.2) (fun p => M.length - p.1) (b + 1, ob, nb) ⟨by simp, hlt2, hob⟩
        (by
          have e : Tc M a b (b + 1) = [] := Tc_start M a b (b + 1) (Nat.le_refl _)
          exact Wk.ofH (by simp only [go_sem, ↓List.forall_mem_cons, List.not_mem_nil, false_implies, implies_true, and_true, true_and, and_self, Nat.reduceEqDiff, reduceIte, ↓reduceIte, ri_eq, Int.natCast_add, Int.cast_ofNat_Int, rr_eq, e, List.append_nil]; try simp) (by simp (disch := omega) only [go_sem, ↓List.forall_mem_cons, List.not_mem_nil, false_implies, implies_true, and_true, true_and, and_self, Nat.reduceEqDiff, reduceIte, ↓reduceIte, ri_eq, Int.natCast_add, Int.cast_ofNat_Int, if_pos, if_neg, Nat.reduceAdd, List.nil_append, e, List.append_nil]; try simp) (Nat.le_refl _)) ?_
      rintro ⟨c, ob, nb⟩ ⟨hbc, hc, hob⟩
      simp only at hbc hc hob
      refine SW_of_vc Try.mixed _ _ _ (by kernel_rfl) ?_
      by_cases hlt3 : c < M.length
      · have ra := hw.2.1 a hlt
        have rb := hw.2.1 b hlt2
        have g1 : (ints (mrow M a))[b]? = some (.val (.int .i64 (mat M a b))) := ints_get' ra hlt2
        have g2 : (ints (mrow M a))[c]? = some (.val (.int .i64 (mat M a c))) := ints_get' ra hlt3
        have g3 : (ints (mrow M b))[c]? = some (.val (.int .i64 (mat M b c))) := ints_get' rb hlt3
        have k1 := (hw.2.2.1 a b hlt hlt2).1
        have k2 := (hw.2.2.1 a c hlt hlt3).1
        have k3 := (hw.2.2.1 b c hlt2 hlt3).1
        have wa := Try.l21Size_ok (mat M a b) (by omega) (by omega)
        have wb := Try.l21Size_ok (mat M a c) (by omega) (by omega)
        have wc := Try.l21Size_ok (mat M b c) (by omega) (by omega)
        have wd := Try.specIsBT_ok M a b c hM hR
        rw [isBT_at hw hab hbc hlt3] at wd
        have hsucc := Tc_succ M a b c
        rw [if_pos hbc] at hsucc
        have hlen : (Ta M a ++ Tb M a b ++ Tc M a b c).length ≤ 1000 := by
          have := Ta_len hln.2 a
          have := Tb_len hln.2 a b
          have := Tc_len M a b c
          simp only [List.length_append]; omega
        rcases Bool.eq_false_or_eq_true (badB (mat M a b) (mat M a c) (mat M b c)) with hbad | hbad
        · have hbc2 : badC M a b c = [((a : Int), (b : Int), (c : Int), mn2 (mn2 (absI (mat M a b)) (absI (mat M a c))) (absI (mat M b c)))] := by rw [badC, if_pos hbad]
          rw [hbad] at wd
          rw [hbc2] at hsucc
          have hnew : Ta M a ++ Tb M a b ++ Tc M a b (c + 1) = (Ta M a ++ Tb M a b ++ Tc M a b c) ++ [((a : Int), (b : Int), (c : Int), mn2 (mn2 (absI (mat M a b)) (absI (mat M a c))) (absI (mat M b c)))] := by rw [hsucc, List.append_assoc, List.append_assoc, List.append_assoc]
          have hl2 : (Ta M a ++ Tb M a b ++ Tc M a b (c + 1)).length = (Ta M a ++ Tb M a b ++ Tc M a b c).length + 1 := by rw [hnew, List.length_append]; rfl
          have ts := tri_snoc (Ta M a ++ Tb M a b ++ Tc M a b c) a b c (mn2 (mn2 (absI (mat M a b)) (absI (mat M a c))) (absI (mat M b c)))
          rw [← hnew] at ts
          clear hsucc hbc2 hnew hbad
          generalize Ta M a ++ Tb M a b ++ Tc M a b c = T at *
          generalize hT' : Ta M a ++ Tb M a b ++ Tc M a b (c + 1) = T' at *
          generalize mat M a b = x at *
          generalize mat M a c = y at *
          generalize mat M b c = z at *
          generalize hax : absI x = ax at *
          generalize hay : absI y = ay at *
          generalize haz : absI z = az at *
          have hTl := encL_length (enc := tri4) (z := 4) tri4_z T
          have hTt := encL_take_self (enc := tri4) (z := 4) tri4_z T
          simp (disch := omega) only [Try.ntmps76, Try.results76, go_sem, Nat.reduceLT, Nat.reduceLeDiff, Nat.reduceEqDiff, Nat.reduceAdd, Nat.reduceSub, Nat.reduceMul, reduceIte, ↓reduceIte, reduceCtorEq, Int.reduceToNat, Int.reduceLE, Int.reduceLT, Int.reduceNeg, Int.reduceSub, Int.reduceAdd, Int.reduceMul, rr_eq]
          refine wd.callV 0 (viewL_cons_of (view_row) (viewL_cons_of (view_int) (viewL_cons_of (view_int) (viewL_cons_of (view_int) viewL_nil_of)))) ?_
          simp (disch := omega) only [Try.ntmps76, Try.results76, go_sem, Nat.reduceLT, Nat.reduceLeDiff, Nat.reduceEqDiff, Nat.reduceAdd, Nat.reduceSub, Nat.reduceMul, reduceIte, ↓reduceIte, reduceCtorEq, Int.reduceToNat, Int.reduceLE, Int.reduceLT, Int.reduceNeg, Int.reduceSub, Int.reduceAdd, Int.reduceMul, rr_eq, rows_get, ra, rb, g1, g2, g3]
          refine wa.callDV 0 (viewL_cons_of (view_int) viewL_nil_of) ?_
          simp (disch := omega) only [Try.ntmps76, Try.results76, go_sem, Nat.reduceLT, Nat.reduceLeDiff, Nat.reduceEqDiff, Nat.reduceAdd, Nat.reduceSub, Nat.reduceMul, reduceIte, ↓reduceIte, reduceCtorEq, Int.reduceToNat, Int.reduceLE, Int.reduceLT, Int.reduceNeg, Int.reduceSub, Int.reduceAdd, Int.reduceMul, rr_eq, rows_get, ra, rb, g1, g2, g3]
          refine wb.callDV 0 (viewL_cons_of (view_int) viewL_nil_of) ?_
          simp (disch := omega) only [Try.ntmps76, Try.results76, go_sem, Nat.reduceLT, Nat.reduceLeDiff, Nat.reduceEqDiff, Nat.reduceAdd, Nat.reduceSub, Nat.reduceMul, reduceIte, ↓reduceIte, reduceCtorEq, Int.reduceToNat, Int.reduceLE, Int.reduceLT, Int.reduceNeg, Int.reduceSub, Int.reduceAdd, Int.reduceMul, rr_eq, rows_get, ra, rb, g1, g2, g3]
          refine wc.callDV 0 (viewL_cons_of (view_int) viewL_nil_of) ?_
          simp (disch := omega) only [Try.ntmps76, Try.results76, go_sem, Nat.reduceLT, Nat.reduceLeDiff, Nat.reduceEqDiff, Nat.reduceAdd, Nat.reduceSub, Nat.reduceMul, reduceIte, ↓reduceIte, reduceCtorEq, Int.reduceToNat, Int.reduceLE, Int.reduceLT, Int.reduceNeg, Int.reduceSub, Int.reduceAdd, Int.reduceMul, rr_eq, rows_get, ra, rb, g1, g2, g3, ite_mn2, rep4c, hTl, hTt, ts]
          refine ⟨(c + 1, nb + 1, nb + 1 + 1), ⟨by show b < c + 1; omega, hlt3, by show nb + 1 < nb + 1 + 1; omega⟩, by show M.length - (c + 1) < M.length - c; omega, ?_⟩
          exact Wk.ofH (by simp only [go_sem, ↓List.forall_mem_cons, List.not_mem_nil, false_implies, implies_true, and_true, true_and, and_self, Nat.reduceEqDiff, reduceIte, ↓reduceIte, ri_eq, Int.natCast_add, Int.cast_ofNat_Int, rr_eq, hT', hl2]; try simp) (by simp (disch := omega) only [go_sem, ↓List.forall_mem_cons, List.not_mem_nil, false_implies, implies_true, and_true, true_and, and_self, Nat.reduceEqDiff, reduceIte, ↓reduceIte, ri_eq, Int.natCast_add, Int.cast_ofNat_Int, if_pos, if_neg, Nat.reduceAdd, List.nil_append, hT']; try simp) (Nat.le_refl _)
        · have hbc2 : badC M a b c = [] := by rw [badC, if_neg (by rw [hbad]; simp)]
          rw [hbad] at wd
          rw [hbc2, List.append_nil] at hsucc
          simp (disch := omega) only [Try.ntmps76, Try.results76, go_sem, Nat.reduceLT, Nat.reduceLeDiff, Nat.reduceEqDiff, Nat.reduceAdd, Nat.reduceSub, Nat.reduceMul, reduceIte, ↓reduceIte, reduceCtorEq, Int.reduceToNat, Int.reduceLE, Int.reduceLT, Int.reduceNeg, Int.reduceSub, Int.reduceAdd, Int.reduceMul, rr_eq]
          refine wd.callV 0 (viewL_cons_of (view_row) (viewL_cons_of (view_int) (viewL_cons_of (view_int) (viewL_cons_of (view_int) viewL_nil_of)))) ?_
          simp (disch := omega) only [Try.ntmps76, Try.results76, go_sem, Nat.reduceLT, Nat.reduceLeDiff, Nat.reduceEqDiff, Nat.reduceAdd, Nat.reduceSub, Nat.reduceMul, reduceIte, ↓reduceIte, reduceCtorEq, Int.reduceToNat, Int.reduceLE, Int.reduceLT, Int.reduceNeg, Int.reduceSub, Int.reduceAdd, Int.reduceMul, rr_eq]
          refine ⟨(c + 1, ob, nb), ⟨by show b < c + 1; omega, hlt3, hob⟩, by show M.length - (c + 1) < M.length - c; omega, ?_⟩
          exact Wk.ofH (by simp only [go_sem, ↓List.forall_mem_cons, List.not_mem_nil, false_implies, implies_true, and_true, true_and, and_self, Nat.reduceEqDiff, reduceIte, ↓reduceIte, ri_eq, Int.natCast_add, Int.cast_ofNat_Int, rr_eq, hsucc]; try simp) (by simp (disch := omega) only [go_sem, ↓List.forall_mem_cons, List.not_mem_nil, false_implies, implies_true, and_true, true_and, and_self, Nat.reduceEqDiff, reduceIte, ↓reduceIte, ri_eq, Int.natCast_add, Int.cast_ofNat_Int, if_pos, if_neg, Nat.reduceAdd, List.nil_append, hsucc]; try simp) (Nat.le_refl _)
      · obtain rfl : c = M.length := by omega
        have e : Ta M a ++ Tb M a b ++ Tc M a b M.length = Ta M a ++ Tb M a (b + 1) := by rw [Tb_succ, if_pos hab, List.append_assoc]
        rw [e]
        simp (disch := omega) only [Try.ntmps76, Try.results76, go_sem, Nat.reduceLT, Nat.reduceLeDiff, Nat.reduceEqDiff, Nat.reduceAdd, Nat.reduceSub, Nat.reduceMul, reduceIte, ↓reduceIte, reduceCtorEq, Int.reduceToNat, Int.reduceLE, Int.reduceLT, Int.reduceNeg, Int.reduceSub, Int.reduceAdd, Int.reduceMul, rr_eq]
        exact ⟨(b + 1, ob, nb), ⟨by show a < b + 1; omega, hlt2, hob⟩, by show M.length - (b + 1) < M.length - b; omega, Wk.ofH (by simp only [go_sem, ↓List.forall_mem_cons, List.not_mem_nil, false_implies, implies_true, and_true, true_and, and_self, Nat.reduceEqDiff, reduceIte, ↓reduceIte, ri_eq, Int.natCast_add, Int.cast_ofNat_Int, rr_eq]; try simp) (by simp (disch := omega) only [go_sem, ↓List.forall_mem_cons, List.not_mem_nil, false_implies, implies_true, and_true, true_and, and_self, Nat.reduceEqDiff, reduceIte, ↓reduceIte, ri_eq, Int.natCast_add, Int.cast_ofNat_Int, if_pos, if_neg, Nat.reduceAdd, List.nil_append]; try simp) (Nat.le_refl _)⟩
    · obtain rfl : b = M.length := by omega
      have e : Ta M a ++ Tb M a M.length = Ta M (a + 1) := (Ta_succ M a).symm
      rw [e]
      simp (disch := omega) only [Try.ntmps76, Try.results76, go_sem, Nat.reduceLT, Nat.reduceLeDiff, Nat.reduceEqDiff, Nat.reduceAdd, Nat.reduceSub, Nat.reduceMul, reduceIte, ↓reduceIte, reduceCtorEq, Int.reduceToNat, Int.reduceLE, Int.reduceLT, Int.reduceNeg, Int.reduceSub, Int.reduceAdd, Int.reduceMul, rr_eq]
      exact ⟨(a + 1, ob, nb), ⟨hlt, hob⟩, by show M.length - (a + 1) < M.length - a; omega, Wk.ofH (by simp only [go_sem, ↓List.forall_mem_cons, List.not_mem_nil, false_implies, implies_true, and_true, true_and, and_self, Nat.reduceEqDiff, reduceIte, ↓reduceIte, ri_eq, Int.natCast_add, Int.cast_ofNat_Int, rr_eq]; try simp) (by simp (disch := omega) only [go_sem, ↓List.forall_mem_cons, List.not_mem_nil, false_implies, implies_true, and_true, true_and, and_self, Nat.reduceEqDiff, reduceIte, ↓reduceIte, ri_eq, Int.natCast_add, Int.cast_ofNat_Int, if_pos, if_neg, Nat.reduceAdd, List.nil_append]; try simp) (Nat.le_refl _)⟩
  · obtain rfl : a = M.length := by omega
    simp (disch := omega) only [Try.ntmps76, Try.results76, go_sem, Nat.reduceLT, Nat.reduceLeDiff, Nat.reduceEqDiff, Nat.reduceAdd, Nat.reduceSub, Nat.reduceMul, reduceIte, ↓reduceIte, reduceCtorEq, Int.reduceToNat, Int.reduceLE, Int.reduceLT, Int.reduceNeg, Int.reduceSub, Int.reduceAdd, Int.reduceMul, rr_eq]
    exact flat_fin (encL_length (z := 4) tri4_z _) (encL_vals tri4_v _) (by rw [hp_map, hmap_cons, if_pos rfl])

set_option maxHeartbeats 4000000 in
theorem Try.specBadT_not (M : List (List Int)) (hM : M.length ≤ 1048576) (hR : ∀ i, i < M.length → (mrow M i).length ≤ 1048576) (hw : ¬ WM M) : FCall Try.prog 76 [rr M] (FlatRes 0 4 (encL tri4 [])) := by
  have wd := fun a b c => Try.specIsBT_ok M a b c hM hR
  have hf : ∀ a b c, isBT M a b c = false := fun a b c => by rw [isBT, isWM_f hw]; rfl
  simp only [hf] at wd
  refine FCall.of_body Try.func76 rfl (by kernel_rfl) (by simp [Try.ntmps76]) ?_
  refine SW_of_vc Try.mixed _ _ _ (by kernel_rfl) ?_
  simp (disch := omega) only [Try.ntmps76, Try.results76, go_sem, Nat.reduceLT, Nat.reduceLeDiff, Nat.reduceEqDiff, Nat.reduceAdd, Nat.reduceSub, Nat.reduceMul, reduceIte, ↓reduceIte, reduceCtorEq, Int.reduceToNat, Int.reduceLE, Int.reduceLT, Int.reduceNeg, Int.reduceSub, Int.reduceAdd, Int.reduceMul, rr_eq]
  refine LoopW.loop (fun a : Nat => ⟨ofL [(0, rr M), (3, .own 0 0 0 0 4 false), (4, .val (.int .i64 a))], hp [(0, ⟨[], false⟩)] 1⟩) (fun a => a ≤ M.length) (fun a => M.length - a) 0 (by omega) (Wk.ofH (by simp only [go_sem, ↓List.forall_mem_cons, List.not_mem_nil, false_implies, implies_true, and_true, true_and, and_self, Nat.reduceEqDiff, reduceIte, ↓reduceIte, ri_eq, Int.natCast_add, Int.cast_ofNat_Int, rr_eq]; try simp) (by simp [hp, hmap, rep_zero]) (by simp [hp])) ?_
  intro a ha
  refine SW_of_vc Try.mixed _ _ _ (by kernel_rfl) ?_
  by_cases hlt : a < M.length
  · simp (disch := omega) only [Try.ntmps76, Try.results76, go_sem, Nat.reduceLT, Nat.reduceLeDiff, Nat.reduceEqDiff, Nat.reduceAdd, Nat.reduceSub, Nat.reduceMul, reduceIte, ↓reduceIte, reduceCtorEq, Int.reduceToNat, Int.reduceLE, Int.reduceLT, Int.reduceNeg, Int.reduceSub, Int.reduceAdd, Int.reduceMul, rr_eq]
    refine LoopW.loop (fun b : Nat => ⟨ofL [(0, rr M), (3, .own 0 0 0 0 4 false), (4, .val (.int .i64 a)), (5, .val (.int .i64 b))], hp [(0, ⟨[], false⟩)] 1⟩) (fun b => b ≤ M.length) (fun b => M.length - b) (a + 1) (by omega) (Wk.ofH (by simp only [go_sem, ↓List.forall_mem_cons, List.not_mem_nil, false_implies, implies_true, and_true, true_and, and_self, Nat.reduceEqDiff, reduceIte, ↓reduceIte, ri_eq, Int.natCast_add, Int.cast_ofNat_Int, rr_eq]; try simp) (by simp (disch := omega) only [go_sem, ↓List.forall_mem_cons, List.not_mem_nil, false_implies, implies_true, and_true, true_and, and_self, Nat.reduceEqDiff, reduceIte, ↓reduceIte, ri_eq, Int.natCast_add, Int.cast_ofNat_Int, if_pos, if_neg, Nat.reduceAdd, List.nil_append]; try simp) (Nat.le_refl _)) ?_
    intro b hb
    refine SW_of_vc Try.mixed _ _ _ (by kernel_rfl) ?_
    by_cases hlt2 : b < M.length
    · simp (disch := omega) only [Try.ntmps76, Try.results76, go_sem, Nat.reduceLT, Nat.reduceLeDiff, Nat.reduceEqDiff, Nat.reduceAdd, Nat.reduceSub, Nat.reduceMul, reduceIte, ↓reduceIte, reduceCtorEq, Int.reduceToNat, Int.reduceLE, Int.reduceLT, Int.reduceNeg, Int.reduceSub, Int.reduceAdd, Int.reduceMul, rr_eq]
      refine LoopW.loop (fun c : Nat => ⟨ofL [(0, rr M), (3, .own 0 0 0 0 4 false), (4, .val (.int .i64 a)), (5, .val (.int .i64 b)), (6, .val (.int .i64 c))], hp [(0, ⟨[], false⟩)] 1⟩) (fun c => c ≤ M.length) (fun c => M.length - c) (b + 1) (by omega) (Wk.ofH (by simp only [go_sem, ↓List.forall_mem_cons, List.not_mem_nil, false_implies, implies_true, and_true, true_and, and_self, Nat.reduceEqDiff, reduceIte, ↓reduceIte, ri_eq, Int.natCast_add, Int.cast_ofNat_Int, rr_eq]; try simp) (by simp (disch := omega) only [go_sem, ↓List.forall_mem_cons, List.not_mem_nil, false_implies, implies_true, and_true, true_and, and_self, Nat.reduceEqDiff, reduceIte, ↓reduceIte, ri_eq, Int.natCast_add, Int.cast_ofNat_Int, if_pos, if_neg, Nat.reduceAdd, List.nil_append]; try simp) (Nat.le_refl _)) ?_
      intro c hc
      refine SW_of_vc Try.mixed _ _ _ (by kernel_rfl) ?_
      by_cases hlt3 : c < M.length
      · simp (disch := omega) only [Try.ntmps76, Try.results76, go_sem, Nat.reduceLT, Nat.reduceLeDiff, Nat.reduceEqDiff, Nat.reduceAdd, Nat.reduceSub, Nat.reduceMul, reduceIte, ↓reduceIte, reduceCtorEq, Int.reduceToNat, Int.reduceLE, Int.reduceLT, Int.reduceNeg, Int.reduceSub, Int.reduceAdd, Int.reduceMul, rr_eq]
        refine (wd a b c).callV 0 (viewL_cons_of (view_row) (viewL_cons_of (view_int) (viewL_cons_of (view_int) (viewL_cons_of (view_int) viewL_nil_of)))) ?_
        simp (disch := omega) only [Try.ntmps76, Try.results76, go_sem, Nat.reduceLT, Nat.reduceLeDiff, Nat.reduceEqDiff, Nat.reduceAdd, Nat.reduceSub, Nat.reduceMul, reduceIte, ↓reduceIte, reduceCtorEq, Int.reduceToNat, Int.reduceLE, Int.reduceLT, Int.reduceNeg, Int.reduceSub, Int.reduceAdd, Int.reduceMul, rr_eq]
        exact ⟨c + 1, by omega, by omega, Wk.ofH (by simp only [go_sem, ↓List.forall_mem_cons, List.not_mem_nil, false_implies, implies_true, and_true, true_and, and_self, Nat.reduceEqDiff, reduceIte, ↓reduceIte, ri_eq, Int.natCast_add, Int.cast_ofNat_Int, rr_eq]; try simp) (by simp (disch := omega) only [go_sem, ↓List.forall_mem_cons, List.not_mem_nil, false_implies, implies_true, and_true, true_and, and_self, Nat.reduceEqDiff, reduceIte, ↓reduceIte, ri_eq, Int.natCast_add, Int.cast_ofNat_Int, if_pos, if_neg, Nat.reduceAdd, List.nil_append]; try simp) (Nat.le_refl _)⟩
      · simp (disch := omega) only [Try.ntmps76, Try.results76, go_sem, Nat.reduceLT, Nat.reduceLeDiff, Nat.reduceEqDiff, Nat.reduceAdd, Nat.reduceSub, Nat.reduceMul, reduceIte, ↓reduceIte, reduceCtorEq, Int.reduceToNat, Int.reduceLE, Int.reduceLT, Int.reduceNeg, Int.reduceSub, Int.reduceAdd, Int.reduceMul, rr_eq]
        exact ⟨b + 1, by omega, by omega, Wk.ofH (by simp only [go_sem, ↓List.forall_mem_cons, List.not_mem_nil, false_implies, implies_true, and_true, true_and, and_self, Nat.reduceEqDiff, reduceIte, ↓reduceIte, ri_eq, Int.natCast_add, Int.cast_ofNat_Int, rr_eq]; try simp) (by simp (disch := omega) only [go_sem, ↓List.forall_mem_cons, List.not_mem_nil, false_implies, implies_true, and_true, true_and, and_self, Nat.reduceEqDiff, reduceIte, ↓reduceIte, ri_eq, Int.natCast_add, Int.cast_ofNat_Int, if_pos, if_neg, Nat.reduceAdd, List.nil_append]; try simp) (Nat.le_refl _)⟩
    · simp (disch := omega) only [Try.ntmps76, Try.results76, go_sem, Nat.reduceLT, Nat.reduceLeDiff, Nat.reduceEqDiff, Nat.reduceAdd, Nat.reduceSub, Nat.reduceMul, reduceIte, ↓reduceIte, reduceCtorEq, Int.reduceToNat, Int.reduceLE, Int.reduceLT, Int.reduceNeg, Int.reduceSub, Int.reduceAdd, Int.reduceMul, rr_eq]
      exact ⟨a + 1, by omega, by omega, Wk.ofH (by simp only [go_sem, ↓List.forall_mem_cons, List.not_mem_nil, false_implies, implies_true, and_true, true_and, and_self, Nat.reduceEqDiff, reduceIte, ↓reduceIte, ri_eq, Int.natCast_add, Int.cast_ofNat_Int, rr_eq]; try simp) (by simp (disch := omega) only [go_sem, ↓List.forall_mem_cons, List.not_mem_nil, false_implies, implies_true, and_true, true_and, and_self, Nat.reduceEqDiff, reduceIte, ↓reduceIte, ri_eq, Int.natCast_add, Int.cast_ofNat_Int, if_pos, if_neg, Nat.reduceAdd, List.nil_append]; try simp) (Nat.le_refl _)⟩
  · simp (disch := omega) only [Try.ntmps76, Try.results76, go_sem, Nat.reduceLT, Nat.reduceLeDiff, Nat.reduceEqDiff, Nat.reduceAdd, Nat.reduceSub, Nat.reduceMul, reduceIte, ↓reduceIte, reduceCtorEq, Int.reduceToNat, Int.reduceLE, Int.reduceLT, Int.reduceNeg, Int.reduceSub, Int.reduceAdd, Int.reduceMul, rr_eq]
    exact flat_fin (cs := encL tri4 []) rfl rfl (by rw [hp_map, hmap_cons, if_pos rfl]; rfl)
theorem Try.specBadT_ok (M : List (List Int)) (hM : M.length ≤ 1048576) (hR : ∀ i, i < M.length → (mrow M i).length ≤ 1048576) : PCall Try.prog 76 [rr M] (rt (badT M)) := by
  by_cases hw : WM M
  · exact (Try.specBadT_f M hM hR hw).pcall 2 (fun _ _ h => flat_viewT h)
  · rw [badT_f hw]
    exact (Try.specBadT_not M hM hR hw).pcall 2 (fun _ _ h => flat_viewT h)
end Go.Sh
