/-
  Contracts: joins of partitions, of the reference.
-/
import Derived.Test.YtehimkdkflnkbaaT1
namespace Go.Sh
set_option linter.unusedSimpArgs false
set_option linter.unusedVariables false
open Go Go.Proofs

set_option maxHeartbeats 4000000 in
theorem Try.specJoin_f (A B : List Int) (hA : A.length ≤ 1048576) (hB : B.length ≤ 1048576) (h : pairB A B = true) : FCall Try.prog 66 [ri A, ri B] (FlatRes A.length 1 (ints (jn A B))) := by
  obtain ⟨pa, pb, hl⟩ := pairB_t h
  obtain ⟨l1, l2⟩ := isPart_len pa
  have w1 := Try.l19Pair_ok A B hA hB
  rw [h] at w1
  rw [jn_t h]
  refine FCall.of_body Try.func66 rfl (by kernel_rfl) (by simp [Try.ntmps66]) ?_
  refine SW_of_vc Try.mixed _ _ _ (by kernel_rfl) ?_
  simp (disch := omega) only [Try.ntmps66, Try.results66, go_sem, Nat.reduceLT, Nat.reduceLeDiff, Nat.reduceEqDiff, Nat.reduceAdd, Nat.reduceSub, Nat.reduceMul, reduceIte, ↓reduceIte, reduceCtorEq, Int.reduceToNat, Int.reduceLE, Int.reduceLT, Int.reduceNeg, Int.reduceSub, Int.reduceAdd, Int.reduceMul]
  refine w1.callV 0 (viewL_cons_of (view_rowL (by first | rfl | simp [marks_length, canon_length] | omega)) (viewL_cons_of (view_rowL (by first | rfl | simp [marks_length, canon_length] | omega)) viewL_nil_of)) ?_
  simp (disch := omega) only [Try.ntmps66, Try.results66, go_sem, Nat.reduceLT, Nat.reduceLeDiff, Nat.reduceEqDiff, Nat.reduceAdd, Nat.reduceSub, Nat.reduceMul, reduceIte, ↓reduceIte, reduceCtorEq, Int.reduceToNat, Int.reduceLE, Int.reduceLT, Int.reduceNeg, Int.reduceSub, Int.reduceAdd, Int.reduceMul]
  refine (Try.l17Links_one A.length hA).callMat (mb_vals _) 0 (viewL_cons_of (view_int) viewL_nil_of) ?_
  simp (disch := omega) only [Try.ntmps66, Try.results66, go_sem, Nat.reduceLT, Nat.reduceLeDiff, Nat.reduceEqDiff, Nat.reduceAdd, Nat.reduceSub, Nat.reduceMul, reduceIte, ↓reduceIte, reduceCtorEq, Int.reduceToNat, Int.reduceLE, Int.reduceLT, Int.reduceNeg, Int.reduceSub, Int.reduceAdd, Int.reduceMul, bz_length]
  generalize hn : A.length = n at *
  refine LoopW.loop (fun p : Nat × List (List Bool) => ⟨ofL [(0, .row n false (ints A)), (1, .row B.length false (ints B)), (5, .own 0 0 n n 1 false), (6, .val (.int .i64 p.1))], hx [.mat 0 (mb p.2)] (n + 1)⟩)
    (fun p => p.1 ≤ n ∧ Sq n p.2 ∧ ∀ x y, x < p.1 → y < n → bmat p.2 x y = joinB A B x y) (fun p => n - p.1) (0, bz n) ⟨by simp, .bz _, fun x y h => by simp at h⟩
    (Wk.ofX (by simp only [go_sem, ↓List.forall_mem_cons, List.not_mem_nil, false_implies, implies_true, and_true, true_and, and_self, Nat.reduceEqDiff, reduceIte, ↓reduceIte, ri_eq, Int.natCast_add, Int.cast_ofNat_Int, hn]; try simp) (by simp only [List.forall_mem_cons]; exact ⟨.self, by simp⟩) (Nat.le_refl _)) ?_
  rintro ⟨i, X⟩ ⟨hi, hX, hXX⟩
  simp only at hi hX hXX
  refine SW_of_vc Try.mixed _ _ _ (by kernel_rfl) ?_
  by_cases hlt : i < n
  · simp (disch := omega) only [Try.ntmps66, Try.results66, go_sem, Nat.reduceLT, Nat.reduceLeDiff, Nat.reduceEqDiff, Nat.reduceAdd, Nat.reduceSub, Nat.reduceMul, reduceIte, ↓reduceIte, reduceCtorEq, Int.reduceToNat, Int.reduceLE, Int.reduceLT, Int.reduceNeg, Int.reduceSub, Int.reduceAdd, Int.reduceMul, hn]
    refine LoopW.loop (fun p : Nat × List (List Bool) => ⟨ofL [(0, .row n false (ints A)), (1, .row B.length false (ints B)), (5, .own 0 0 n n 1 false), (6, .val (.int .i64 i)), (7, .val (.int .i64 p.1))], hx [.mat 0 (mb p.2)] (n + 1)⟩)
      (fun p => p.1 ≤ n ∧ Sq n p.2 ∧ ∀ x y, (x < i ∨ (x = i ∧ y < p.1)) → y < n → bmat p.2 x y = joinB A B x y) (fun p => n - p.1) (0, X) ⟨by simp, hX, fun x y h => hXX x y (by simpa using h)⟩
      (Wk.ofX (by simp only [go_sem, ↓List.forall_mem_cons, List.not_mem_nil, false_implies, implies_true, and_true, true_and, and_self, Nat.reduceEqDiff, reduceIte, ↓reduceIte, ri_eq, Int.natCast_add, Int.cast_ofNat_Int, hn]; try simp) (by simp only [List.forall_mem_cons]; exact ⟨.self, by simp⟩) (Nat.le_refl _)) ?_
    rintro ⟨k, Y⟩ ⟨hk, hY, hYY⟩
    simp only at hk hY hYY
    have hYi := hY.2 i hlt
    have hY1 := hY.1
    refine SW_of_vc Try.mixed _ _ _ (by kernel_rfl) ?_
    by_cases hlt2 : k < n
    · have g1 := ints_get (L := A) (k := i) (by omega)
      have g2 := ints_get (L := A) (k := k) (by omega)
      have g3 := ints_get (L := B) (k := i) (by omega)
      have g4 := ints_get (L := B) (k := k) (by omega)
      have hset := fun x y => bset_at Y i k (joinB A B i k) (k := x) (d := y) (by omega) (by omega)
      have hfin : ∀ x y, (x < i ∨ (x = i ∧ y < k + 1)) → y < n → bmat (bset Y i k (joinB A B i k)) x y = joinB A B x y := by
        intro x y h hy
        rw [hset]
        split
        · rename_i e; rw [e.1, e.2]
        · exact hYY x y (by omega) hy
      have hjd : joinB A B i k = (decide (A.getD i 0 = A.getD k 0) || decide (B.getD i 0 = B.getD k 0)) := rfl
      generalize A.getD i 0 = a1 at *
      generalize A.getD k 0 = a2 at *
      generalize B.getD i 0 = b1 at *
      generalize B.getD k 0 = b2 at *
      by_cases e1 : a1 = a2
      · have e : joinB A B i k = true := by rw [hjd]; simp [e1]
        rw [e] at hfin
        simp (disch := omega) only [Try.ntmps66, Try.results66, go_sem, Nat.reduceLT, Nat.reduceLeDiff, Nat.reduceEqDiff, Nat.reduceAdd, Nat.reduceSub, Nat.reduceMul, reduceIte, ↓reduceIte, reduceCtorEq, Int.reduceToNat, Int.reduceLE, Int.reduceLT, Int.reduceNeg, Int.reduceSub, Int.reduceAdd, Int.reduceMul, hn, g1, g2, outerB_getB, hYi, xmap_rowB, xset_rowB, bools_set, hY1]
        exact ⟨(k + 1, bset Y i k true), ⟨hlt2, hY.set _ _ _, hfin⟩, by show n - (k + 1) < n - k; omega, (Wk.ofX (by simp only [go_sem, ↓List.forall_mem_cons, List.not_mem_nil, false_implies, implies_true, and_true, true_and, and_self, Nat.reduceEqDiff, reduceIte, ↓reduceIte, ri_eq, Int.natCast_add, Int.cast_ofNat_Int]; try simp) (by simp only [List.forall_mem_cons]; exact ⟨.self, by simp⟩) (Nat.le_refl _))⟩
      · by_cases e2 : b1 = b2
        · have e : joinB A B i k = true := by rw [hjd]; simp [e2]
          rw [e] at hfin
          simp (disch := omega) only [Try.ntmps66, Try.results66, go_sem, Nat.reduceLT, Nat.reduceLeDiff, Nat.reduceEqDiff, Nat.reduceAdd, Nat.reduceSub, Nat.reduceMul, reduceIte, ↓reduceIte, reduceCtorEq, Int.reduceToNat, Int.reduceLE, Int.reduceLT, Int.reduceNeg, Int.reduceSub, Int.reduceAdd, Int.reduceMul, hn, g1, g2, g3, g4, outerB_getB, hYi, xmap_rowB, xset_rowB, bools_set, hY1]
          exact ⟨(k + 1, bset Y i k true), ⟨hlt2, hY.set _ _ _, hfin⟩, by show n - (k + 1) < n - k; omega, (Wk.ofX (by simp only [go_sem, ↓List.forall_mem_cons, List.not_mem_nil, false_implies, implies_true, and_true, true_and, and_self, Nat.reduceEqDiff, reduceIte, ↓reduceIte, ri_eq, Int.natCast_add, Int.cast_ofNat_Int]; try simp) (by simp only [List.forall_mem_cons]; exact ⟨.self, by simp⟩) (Nat.le_refl _))⟩
        · have e : joinB A B i k = false := by rw [hjd]; simp [e1, e2]
          rw [e] at hfin
          simp (disch := omega) only [Try.ntmps66, Try.results66, go_sem, Nat.reduceLT, Nat.reduceLeDiff, Nat.reduceEqDiff, Nat.reduceAdd, Nat.reduceSub, Nat.reduceMul, reduceIte, ↓reduceIte, reduceCtorEq, Int.reduceToNat, Int.reduceLE, Int.reduceLT, Int.reduceNeg, Int.reduceSub, Int.reduceAdd, Int.reduceMul, hn, g1, g2, g3, g4, outerB_getB, hYi, xmap_rowB, xset_rowB, bools_set, hY1]
          exact ⟨(k + 1, bset Y i k false), ⟨hlt2, hY.set _ _ _, hfin⟩, by show n - (k + 1) < n - k; omega, (Wk.ofX (by simp only [go_sem, ↓List.forall_mem_cons, List.not_mem_nil, false_implies, implies_true, and_true, true_and, and_self, Nat.reduceEqDiff, reduceIte, ↓reduceIte, ri_eq, Int.natCast_add, Int.cast_ofNat_Int]; try simp) (by simp only [List.forall_mem_cons]; exact ⟨.self, by simp⟩) (Nat.le_refl _))⟩
    · simp (disch := omega) only [Try.ntmps66, Try.results66, go_sem, Nat.reduceLT, Nat.reduceLeDiff, Nat.reduceEqDiff, Nat.reduceAdd, Nat.reduceSub, Nat.reduceMul, reduceIte, ↓reduceIte, reduceCtorEq, Int.reduceToNat, Int.reduceLE, Int.reduceLT, Int.reduceNeg, Int.reduceSub, Int.reduceAdd, Int.reduceMul, hn]
      exact ⟨(i + 1, Y), ⟨hlt, hY, fun x y h hy => hYY x y (by omega) hy⟩, by show n - (i + 1) < n - i; omega, (Wk.ofX (by simp only [go_sem, ↓List.forall_mem_cons, List.not_mem_nil, false_implies, implies_true, and_true, true_and, and_self, Nat.reduceEqDiff, reduceIte, ↓reduceIte, ri_eq, Int.natCast_add, Int.cast_ofNat_Int]; try simp) (by simp only [List.forall_mem_cons]; exact ⟨.self, by simp⟩) (Nat.le_refl _))⟩
  · have hB : ∀ x y, x < n → y < n → bmat X x y = joinB A B x y := fun x y hx hy => hXX x y (by omega) hy
    have w := Try.l17Labels_f n X hA hX.1 hX.2 (fun x y hx hy h => by rw [hB y x hy hx, joinB_sym]; rw [hB x y hx hy] at h; exact h)
    have w2 : FCall Try.prog 116 [.val (.int .i64 n), rb X] (FlatRes n 1 (ints (comp n (joinB A B)))) := w.mono fun r H ⟨h1, h2⟩ => by
      rw [(h1.congr hB).eq] at h2; exact h2
    simp (disch := omega) only [Try.ntmps66, Try.results66, go_sem, Nat.reduceLT, Nat.reduceLeDiff, Nat.reduceEqDiff, Nat.reduceAdd, Nat.reduceSub, Nat.reduceMul, reduceIte, ↓reduceIte, reduceCtorEq, Int.reduceToNat, Int.reduceLE, Int.reduceLT, Int.reduceNeg, Int.reduceSub, Int.reduceAdd, Int.reduceMul, hn]
    refine w2.one.callOne (ints_vals _) 2 (viewL_cons_of view_int (viewL_cons_of (view_mb .self hX.1.symm) viewL_nil_of)) ?_
    simp (disch := omega) only [Try.ntmps66, Try.results66, go_sem, Nat.reduceLT, Nat.reduceLeDiff, Nat.reduceEqDiff, Nat.reduceAdd, Nat.reduceSub, Nat.reduceMul, reduceIte, ↓reduceIte, reduceCtorEq, Int.reduceToNat, Int.reduceLE, Int.reduceLT, Int.reduceNeg, Int.reduceSub, Int.reduceAdd, Int.reduceMul, hn]
    exact fin_ints join_ok.len.symm (by rw [hx_map, xmap_blk, if_pos rfl])
theorem Try.specJoin_not (A B : List Int) (hA : A.length ≤ 1048576) (hB : B.length ≤ 1048576) (h : pairB A B = false) : FCall Try.prog 66 [ri A, ri B] (FlatRes 0 1 (ints [])) := by
  have w1 := Try.l19Pair_ok A B hA hB
  rw [h] at w1
  refine FCall.of_body Try.func66 rfl (by kernel_rfl) (by simp [Try.ntmps66]) ?_
  refine SW_of_vc Try.mixed _ _ _ (by kernel_rfl) ?_
  simp (disch := omega) only [Try.ntmps66, Try.results66, go_sem, Nat.reduceLT, Nat.reduceLeDiff, Nat.reduceEqDiff, Nat.reduceAdd, Nat.reduceSub, Nat.reduceMul, reduceIte, ↓reduceIte, reduceCtorEq, Int.reduceToNat, Int.reduceLE, Int.reduceLT, Int.reduceNeg, Int.reduceSub, Int.reduceAdd, Int.reduceMul]
  refine w1.callV 0 (viewL_cons_of (view_rowL (by first | rfl | simp [marks_length, canon_length] | omega)) (viewL_cons_of (view_rowL (by first | rfl | simp [marks_length, canon_length] | omega)) viewL_nil_of)) ?_
  simp (disch := omega) only [Try.ntmps66, Try.results66, go_sem, Nat.reduceLT, Nat.reduceLeDiff, Nat.reduceEqDiff, Nat.reduceAdd, Nat.reduceSub, Nat.reduceMul, reduceIte, ↓reduceIte, reduceCtorEq, Int.reduceToNat, Int.reduceLE, Int.reduceLT, Int.reduceNeg, Int.reduceSub, Int.reduceAdd, Int.reduceMul]
  exact fin_ints (L := []) (b := 0) (e2 := false) rfl rfl
theorem Try.specJoin_ok (A B : List Int) (hA : A.length ≤ 1048576) (hB : B.length ≤ 1048576) : PCall Try.prog 66 [ri A, ri B] (ri (jn A B)) := by
  rcases Bool.eq_false_or_eq_true (pairB A B) with h | h
  · exact (Try.specJoin_f A B hA hB h).pcall 2 (fun _ _ h => flat_view h)
  · rw [jn_f h]; exact (Try.specJoin_not A B hA hB h).pcall 2 (fun _ _ h => flat_view h)
end Go.Sh
