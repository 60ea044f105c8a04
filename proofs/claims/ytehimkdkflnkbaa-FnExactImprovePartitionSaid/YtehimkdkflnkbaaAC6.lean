/-
  Best moves again and again: plain; of the program and of the reference.
-/
import Derived.Test.YtehimkdkflnkbaaAC5
namespace Go.Sh
set_option linter.unusedSimpArgs false
set_option linter.unusedVariables false
open Go Go.Proofs

theorem bmRow_ok {M : List (List Int)} {C : List Con} {L : List Int} {best : Mv} {i : Nat} (h : 0 < best.2.2 → moveOk L best.1 best.2.1 = true) : ∀ b, 0 < (bmRow M C L best i b).2.2 → moveOk L (bmRow M C L best i b).1 (bmRow M C L best i b).2.1 = true
  | 0 => h
  | b + 1 => by
    have ih := bmRow_ok (C := C) (M := M) (i := i) h b
    rw [bmRow, bstep]
    split
    · rename_i hh
      exact fun _ => hh.1
    · exact ih
theorem bmTo_ok {M : List (List Int)} {C : List Con} {L : List Int} : ∀ i, 0 < (bmTo M C L i).2.2 → moveOk L (bmTo M C L i).1 (bmTo M C L i).2.1 = true
  | 0 => fun h => by simp [bmTo] at h
  | i + 1 => bmRow_ok (bmTo_ok i) _
theorem bmv_ok {M : List (List Int)} {C : List Con} {L : List Int} (h : 0 < (bmv M C L).2.2) : moveOk L (bmv M C L).1 (bmv M C L).2.1 = true := by
  by_cases hc : canM M C L
  · rw [bmv_t hc] at h ⊢; exact bmTo_ok _ h
  · rw [bmv_f hc] at h; simp at h
/-- What is reached from X, of which n moves led there, in at most f more. -/
noncomputable def im (M : List (List Int)) (C : List Con) : Nat → List Int → Nat → List Int × Nat
  | 0, X, n => (X, n)
  | f + 1, X, n => if 0 < (bmv M C X).2.2 then im M C f (moveTo X (bmv M C X).1 (bmv M C X).2.1) (n + 1) else (X, n)
theorem im_go {M : List (List Int)} {C : List Con} {f n : Nat} {X : List Int} (h : 0 < (bmv M C X).2.2) : im M C (f + 1) X n = im M C f (moveTo X (bmv M C X).1 (bmv M C X).2.1) (n + 1) := by rw [im, if_pos h]
theorem im_stop {M : List (List Int)} {C : List Con} {f n : Nat} {X : List Int} (h : ¬ 0 < (bmv M C X).2.2) : im M C f X n = (X, n) := by
  cases f with
  | zero => rfl
  | succ f => rw [im, if_neg h]
theorem im_len {M : List (List Int)} {C : List Con} : ∀ (f : Nat) (X : List Int) (n : Nat), (im M C f X n).1.length = X.length
  | 0, X, n => rfl
  | f + 1, X, n => by
    rw [im]
    split
    · rw [im_len f, moveTo_length]
    · rfl
theorem im_le {M : List (List Int)} {C : List Con} : ∀ (f : Nat) (X : List Int) (n : Nat), (im M C f X n).2 ≤ n + f
  | 0, X, n => Nat.le_refl _
  | f + 1, X, n => by
    rw [im]
    split
    · have := im_le (M := M) (C := C) f (moveTo X (bmv M C X).1 (bmv M C X).2.1) (n + 1); omega
    · show n ≤ _; omega
theorem bmv_nil {M : List (List Int)} {C : List Con} : bmv M C [] = (0, 0, 0) := bmv_f (fun h => by
  have := (canM_r h).2.1
  rw [isPart_nil] at this; cases this)
abbrev ImR (L : List Int) (p : List Int × Nat) (r : SV) (H : Heap) : Prop := ∃ r0, r = .tup [r0, .val (.int .i64 p.2)] ∧ FlatRes L.length 1 (ints p.1) r0 H

set_option maxHeartbeats 4000000 in
theorem Try.specMove_t (L : List Int) (it bl : Int) (hL : L.length ≤ 1048576) (hok : moveOk L it bl = true) : FCall Try.prog 100 [ri L, .val (.int .i64 it), .val (.int .i64 bl)] (fun r H => ∃ r0, r = .tup [r0, .val (.bool true)] ∧ FlatRes L.length 1 (ints (moveTo L it bl)) r0 H) := by
  have w1 := Try.specIsPartition_ok L hL
  have hf := ints_flat L
  have hml := moveTo_length L it bl
  have hm : moveTo L it bl = canon (L.set it.toNat bl) := by rw [moveTo, if_pos hok]
  unfold moveOk at hok
  simp only [Bool.and_eq_true] at hok
  obtain ⟨h1, h2, h3⟩ := hok
  have h0 := (isPart_len h1).1
  refine FCall.of_body Try.func100 rfl (by kernel_rfl) (by simp [Try.ntmps100]) ?_
  refine SW_of_vc Try.mixed _ _ _ (by kernel_rfl) ?_
  simp (disch := omega) only [Try.ntmps100, Try.results100, go_sem, Nat.reduceLT, Nat.reduceLeDiff, Nat.reduceEqDiff, Nat.reduceAdd, Nat.reduceSub, Nat.reduceMul, reduceIte, ↓reduceIte, reduceCtorEq, Int.reduceToNat, Int.reduceLE, Int.reduceLT, Int.reduceNeg, Int.reduceSub, Int.reduceAdd, Int.reduceMul, hf]
  refine LoopW.loop (fun k : Nat => ⟨ofL [(0, ri L), (1, .val (.int .i64 it)), (2, .val (.int .i64 bl)), (8, .own 1 0 L.length L.length 1 false), (9, .val (.int .i64 (top L k))), (10, .val (.int .i64 k))], hp [(1, ⟨ints L, false⟩)] 2⟩) (fun k => k ≤ L.length) (fun k => L.length - k) 0 (by omega)
    (Wk.ofH (by simp only [go_sem, ↓List.forall_mem_cons, List.not_mem_nil, false_implies, implies_true, and_true, true_and, and_self, Nat.reduceEqDiff, reduceIte, ↓reduceIte, ri_eq, Int.natCast_add, Int.cast_ofNat_Int, top_zero]; try simp) (by simp (disch := omega) only [go_sem, ↓List.forall_mem_cons, List.not_mem_nil, false_implies, implies_true, and_true, true_and, and_self, Nat.reduceEqDiff, reduceIte, ↓reduceIte, ri_eq, Int.natCast_add, Int.cast_ofNat_Int, if_pos, if_neg, Nat.reduceAdd, List.nil_append]; try simp) (by simp [hp])) ?_
  intro k hk
  refine SW_of_vc Try.mixed _ _ _ (by kernel_rfl) ?_
  by_cases hlt : k < L.length
  · have e : top L (k + 1) = if top L k < L.getD k 0 then L.getD k 0 else top L k := by
      rw [top_succ hlt, Int.max_def]
      split <;> split <;> omega
    simp (disch := omega) only [Try.ntmps100, Try.results100, go_sem, Nat.reduceLT, Nat.reduceLeDiff, Nat.reduceEqDiff, Nat.reduceAdd, Nat.reduceSub, Nat.reduceMul, reduceIte, ↓reduceIte, reduceCtorEq, Int.reduceToNat, Int.reduceLE, Int.reduceLT, Int.reduceNeg, Int.reduceSub, Int.reduceAdd, Int.reduceMul]
    exact ⟨k + 1, by omega, by omega, Wk.of (by simp only [go_sem, ↓List.forall_mem_cons, List.not_mem_nil, false_implies, implies_true, and_true, true_and, and_self, Nat.reduceEqDiff, reduceIte, ↓reduceIte, ri_eq, Int.natCast_add, Int.cast_ofNat_Int, e]; try simp) rfl⟩
  · obtain rfl : k = L.length := by omega
    rw [h1] at w1
    have tg := top_ge L L.length (Nat.le_refl _)
    have tp := top_part h1 L.length (Nat.le_refl _)
    have w2 := Try.l1In_ok it 0 ((L.length : Int) - 1)
    rw [h2] at w2
    obtain ⟨i1, i2⟩ := inR_of h2
    have w4 := Try.l1In_ok bl 0 (top L L.length + 1)
    rw [h3] at w4
    have hsl : (L.set it.toNat bl).length = L.length := by simp
    have w5 := (Try.specCanon_f (L.set it.toNat bl) (by omega)).one
    rw [hsl] at w5
    simp (disch := omega) only [Try.ntmps100, Try.results100, go_sem, Nat.reduceLT, Nat.reduceLeDiff, Nat.reduceEqDiff, Nat.reduceAdd, Nat.reduceSub, Nat.reduceMul, reduceIte, ↓reduceIte, reduceCtorEq, Int.reduceToNat, Int.reduceLE, Int.reduceLT, Int.reduceNeg, Int.reduceSub, Int.reduceAdd, Int.reduceMul]
    refine w1.callV 0 (viewL_cons_of (view_rowL (by first | rfl | simp [marks_length, canon_length] | omega)) viewL_nil_of) ?_
    simp (disch := omega) only [Try.ntmps100, Try.results100, go_sem, Nat.reduceLT, Nat.reduceLeDiff, Nat.reduceEqDiff, Nat.reduceAdd, Nat.reduceSub, Nat.reduceMul, reduceIte, ↓reduceIte, reduceCtorEq, Int.reduceToNat, Int.reduceLE, Int.reduceLT, Int.reduceNeg, Int.reduceSub, Int.reduceAdd, Int.reduceMul]
    refine w2.callV 0 (viewL_cons_of (view_int) (viewL_cons_of (view_int) (viewL_cons_of (view_int) viewL_nil_of))) ?_
    simp (disch := omega) only [Try.ntmps100, Try.results100, go_sem, Nat.reduceLT, Nat.reduceLeDiff, Nat.reduceEqDiff, Nat.reduceAdd, Nat.reduceSub, Nat.reduceMul, reduceIte, ↓reduceIte, reduceCtorEq, Int.reduceToNat, Int.reduceLE, Int.reduceLT, Int.reduceNeg, Int.reduceSub, Int.reduceAdd, Int.reduceMul]
    refine w4.callV 0 (viewL_cons_of (view_int) (viewL_cons_of (view_int) (viewL_cons_of (view_int) viewL_nil_of))) ?_
    simp (disch := omega) only [Try.ntmps100, Try.results100, go_sem, Nat.reduceLT, Nat.reduceLeDiff, Nat.reduceEqDiff, Nat.reduceAdd, Nat.reduceSub, Nat.reduceMul, reduceIte, ↓reduceIte, reduceCtorEq, Int.reduceToNat, Int.reduceLE, Int.reduceLT, Int.reduceNeg, Int.reduceSub, Int.reduceAdd, Int.reduceMul]
    refine w5.callOne (ints_vals _) 1 (viewL_cons_of (view_own (by rw [hp_map, hmap_cons, if_pos rfl]) (by omega)) viewL_nil_of) ?_
    simp (disch := omega) only [Try.ntmps100, Try.results100, go_sem, Nat.reduceLT, Nat.reduceLeDiff, Nat.reduceEqDiff, Nat.reduceAdd, Nat.reduceSub, Nat.reduceMul, reduceIte, ↓reduceIte, reduceCtorEq, Int.reduceToNat, Int.reduceLE, Int.reduceLT, Int.reduceNeg, Int.reduceSub, Int.reduceAdd, Int.reduceMul]
    rw [hm]
    exact fin_tup (by simp [ints, canon_length]) (ints_vals _) (by rw [hp_map, hmap_cons, if_pos rfl])

set_option maxHeartbeats 4000000 in
theorem Try.implIm_f (M : List (List Int)) (C : List Con) (L : List Int) (hM : M.length ≤ 1048576) (hR : ∀ i, i < M.length → (mrow M i).length ≤ 1048576) (hC : C.length ≤ 1048576) (hL : L.length ≤ 1048576) (h0 : 0 < L.length) :
    FCall Try.prog 50 [rr M, rc C, ri L] (ImR L (im M C 100 L 0)) := by
  refine FCall.of_body Try.func50 rfl (by kernel_rfl) (by simp [Try.ntmps50]) ?_
  refine SW_of_vc Try.mixed _ _ _ (by kernel_rfl) ?_
  simp (disch := omega) only [Try.ntmps50, Try.results50, go_sem, Nat.reduceLT, Nat.reduceLeDiff, Nat.reduceEqDiff, Nat.reduceAdd, Nat.reduceSub, Nat.reduceMul, reduceIte, ↓reduceIte, reduceCtorEq, Int.reduceToNat, Int.reduceLE, Int.reduceLT, Int.reduceNeg, Int.reduceSub, Int.reduceAdd, Int.reduceMul, rr_eq, rc]
  refine (Try.clone_f L hL h0).one.callOne (ints_vals L) 0 (viewL_cons_of (view_rowL (by first | rfl | simp [marks_length, canon_length] | omega)) viewL_nil_of) ?_
  simp (disch := omega) only [Try.ntmps50, Try.results50, go_sem, Nat.reduceLT, Nat.reduceLeDiff, Nat.reduceEqDiff, Nat.reduceAdd, Nat.reduceSub, Nat.reduceMul, reduceIte, ↓reduceIte, reduceCtorEq, Int.reduceToNat, Int.reduceLE, Int.reduceLT, Int.reduceNeg, Int.reduceSub, Int.reduceAdd, Int.reduceMul, rr_eq, rc]
  refine LoopW.loop (fun p : Nat × List Int × Nat × Nat => ⟨ofL [(0, rr M), (1, rc C), (2, ri L), (8, .own p.2.2.1 0 L.length L.length 1 false), (14, .val (.int .i64 p.1))], hp [(p.2.2.1, ⟨ints p.2.1, false⟩)] p.2.2.2⟩)
    (fun p => p.1 ≤ 100 ∧ p.2.1.length = L.length ∧ im M C (100 - p.1) p.2.1 p.1 = im M C 100 L 0 ∧ p.2.2.1 < p.2.2.2) (fun p => 100 - p.1) (0, L, 0, 1) ⟨by simp, rfl, rfl, by simp⟩ (Wk.ofH (by simp only [go_sem, ↓List.forall_mem_cons, List.not_mem_nil, false_implies, implies_true, and_true, true_and, and_self, Nat.reduceEqDiff, reduceIte, ↓reduceIte, ri_eq, Int.natCast_add, Int.cast_ofNat_Int, rr_eq, rc]; try simp) (by simp (disch := omega) only [go_sem, ↓List.forall_mem_cons, List.not_mem_nil, false_implies, implies_true, and_true, true_and, and_self, Nat.reduceEqDiff, reduceIte, ↓reduceIte, ri_eq, Int.natCast_add, Int.cast_ofNat_Int, if_pos, if_neg, Nat.reduceAdd, List.nil_append]; try simp) (by simp [hp])) ?_
  rintro ⟨k, X, ob, nb⟩ ⟨hk, hX, him, hob⟩
  simp only at hk hX him hob
  have hXl : X.length ≤ 1048576 := by omega
  refine SW_of_vc Try.mixed _ _ _ (by kernel_rfl) ?_
  by_cases hlt : k < 100
  · have w1 := Try.implBM_ok M C X hM hR hC hXl
    by_cases hg : 0 < (bmv M C X).2.2
    · have w2 := (Try.moved_f X (bmv M C X).1 (bmv M C X).2.1 (bmv_ok hg)).one
      have e1 : 100 - k = (100 - (k + 1)) + 1 := by omega
      have hml := moveTo_length X (bmv M C X).1 (bmv M C X).2.1
      rw [e1, im_go hg] at him
      rw [hX] at w2 hml
      rw [mvR, decide_eq_true hg] at w1
      clear e1 hg
      generalize moveTo X (bmv M C X).1 (bmv M C X).2.1 = Y at *
      generalize bmv M C X = t at *
      simp (disch := omega) only [Try.ntmps50, Try.results50, go_sem, Nat.reduceLT, Nat.reduceLeDiff, Nat.reduceEqDiff, Nat.reduceAdd, Nat.reduceSub, Nat.reduceMul, reduceIte, ↓reduceIte, reduceCtorEq, Int.reduceToNat, Int.reduceLE, Int.reduceLT, Int.reduceNeg, Int.reduceSub, Int.reduceAdd, Int.reduceMul, rr_eq, rc]
      refine w1.callV 2 (viewL_cons_of view_row (viewL_cons_of view_row (viewL_cons_of (view_own (by rw [hp_map, hmap_cons, if_pos rfl]) (by omega)) viewL_nil_of))) ?_
      simp (disch := omega) only [Try.ntmps50, Try.results50, go_sem, Nat.reduceLT, Nat.reduceLeDiff, Nat.reduceEqDiff, Nat.reduceAdd, Nat.reduceSub, Nat.reduceMul, reduceIte, ↓reduceIte, reduceCtorEq, Int.reduceToNat, Int.reduceLE, Int.reduceLT, Int.reduceNeg, Int.reduceSub, Int.reduceAdd, Int.reduceMul, rr_eq, rc, mvS]
      refine w2.callOne (ints_vals _) 2 (viewL_cons_of (view_own (by rw [hp_map, hmap_cons, if_neg (by omega), hmap_cons, if_pos rfl]) (by omega)) (viewL_cons_of view_int (viewL_cons_of view_int viewL_nil_of))) ?_
      simp (disch := omega) only [Try.ntmps50, Try.results50, go_sem, Nat.reduceLT, Nat.reduceLeDiff, Nat.reduceEqDiff, Nat.reduceAdd, Nat.reduceSub, Nat.reduceMul, reduceIte, ↓reduceIte, reduceCtorEq, Int.reduceToNat, Int.reduceLE, Int.reduceLT, Int.reduceNeg, Int.reduceSub, Int.reduceAdd, Int.reduceMul, rr_eq, rc, mvS]
      exact ⟨(k + 1, Y, nb + 1, nb + 1 + 1), ⟨by show k + 1 ≤ 100; omega, hml, him, by show nb + 1 < nb + 1 + 1; omega⟩, by show 100 - (k + 1) < 100 - k; omega, Wk.ofH (by simp only [go_sem, ↓List.forall_mem_cons, List.not_mem_nil, false_implies, implies_true, and_true, true_and, and_self, Nat.reduceEqDiff, reduceIte, ↓reduceIte, ri_eq, Int.natCast_add, Int.cast_ofNat_Int, rr_eq, rc]; try simp) (by simp (disch := omega) only [go_sem, ↓List.forall_mem_cons, List.not_mem_nil, false_implies, implies_true, and_true, true_and, and_self, Nat.reduceEqDiff, reduceIte, ↓reduceIte, ri_eq, Int.natCast_add, Int.cast_ofNat_Int, if_pos, if_neg, Nat.reduceAdd, List.nil_append]; try simp) (Nat.le_refl _)⟩
    · rw [im_stop hg] at him
      rw [← him]
      rw [mvR, decide_eq_false hg] at w1
      clear hg him
      generalize bmv M C X = t at *
      simp (disch := omega) only [Try.ntmps50, Try.results50, go_sem, Nat.reduceLT, Nat.reduceLeDiff, Nat.reduceEqDiff, Nat.reduceAdd, Nat.reduceSub, Nat.reduceMul, reduceIte, ↓reduceIte, reduceCtorEq, Int.reduceToNat, Int.reduceLE, Int.reduceLT, Int.reduceNeg, Int.reduceSub, Int.reduceAdd, Int.reduceMul, rr_eq, rc]
      refine w1.callV 2 (viewL_cons_of view_row (viewL_cons_of view_row (viewL_cons_of (view_own (by rw [hp_map, hmap_cons, if_pos rfl]) (by omega)) viewL_nil_of))) ?_
      simp (disch := omega) only [Try.ntmps50, Try.results50, go_sem, Nat.reduceLT, Nat.reduceLeDiff, Nat.reduceEqDiff, Nat.reduceAdd, Nat.reduceSub, Nat.reduceMul, reduceIte, ↓reduceIte, reduceCtorEq, Int.reduceToNat, Int.reduceLE, Int.reduceLT, Int.reduceNeg, Int.reduceSub, Int.reduceAdd, Int.reduceMul, rr_eq, rc, mvS]
      exact fin_tup (by simp [ints, hX]) (ints_vals _) (by rw [hp_map, hmap_cons, if_neg (by omega), hmap_cons, if_pos rfl])
  · obtain rfl : k = 100 := by omega
    have him : (X, 100) = im M C 100 L 0 := him
    rw [← him]
    simp (disch := omega) only [Try.ntmps50, Try.results50, go_sem, Nat.reduceLT, Nat.reduceLeDiff, Nat.reduceEqDiff, Nat.reduceAdd, Nat.reduceSub, Nat.reduceMul, reduceIte, ↓reduceIte, reduceCtorEq, Int.reduceToNat, Int.reduceLE, Int.reduceLT, Int.reduceNeg, Int.reduceSub, Int.reduceAdd, Int.reduceMul, rr_eq, rc]
    exact fin_tup (by simp [ints, hX]) (ints_vals _) (by rw [hp_map, hmap_cons, if_pos rfl])

set_option maxHeartbeats 4000000 in
theorem Try.specIm_f (M : List (List Int)) (C : List Con) (L : List Int) (hM : M.length ≤ 1048576) (hR : ∀ i, i < M.length → (mrow M i).length ≤ 1048576) (hC : C.length ≤ 1048576) (hL : L.length ≤ 1048576) :
    FCall Try.prog 49 [rr M, rc C, ri L] (ImR L (im M C 100 L 0)) := by
  have hf := ints_flat L
  refine FCall.of_body Try.func49 rfl (by kernel_rfl) (by simp [Try.ntmps49]) ?_
  refine SW_of_vc Try.mixed _ _ _ (by kernel_rfl) ?_
  by_cases h0 : 0 < L.length
  case neg =>
    obtain rfl : L = [] := by cases L with | nil => rfl | cons a l => simp at h0
    have w1 := Try.specBM_ok M C [] hM hR hC hL
    have him : im M C 100 [] 0 = ([], 0) := im_stop (by rw [bmv_nil]; simp)
    rw [bmv_nil] at w1
    rw [him]
    simp (disch := omega) only [Try.ntmps49, Try.results49, go_sem, Nat.reduceLT, Nat.reduceLeDiff, Nat.reduceEqDiff, Nat.reduceAdd, Nat.reduceSub, Nat.reduceMul, reduceIte, ↓reduceIte, reduceCtorEq, Int.reduceToNat, Int.reduceLE, Int.reduceLT, Int.reduceNeg, Int.reduceSub, Int.reduceAdd, Int.reduceMul, rr_eq, rc, hf]
    refine LoopW.loop (fun _ : Unit => ⟨ofL [(0, rr M), (1, rc C), (2, ri []), (8, .own 0 0 0 0 1 false), (9, .val (.int .i64 0))], hp [(0, ⟨[], false⟩)] 1⟩) (fun _ => True) (fun _ => 0) () trivial
      (Wk.ofH (by simp only [go_sem, ↓List.forall_mem_cons, List.not_mem_nil, false_implies, implies_true, and_true, true_and, and_self, Nat.reduceEqDiff, reduceIte, ↓reduceIte, ri_eq, Int.natCast_add, Int.cast_ofNat_Int, rr_eq, rc]; try simp) (by simp (disch := omega) only [go_sem, ↓List.forall_mem_cons, List.not_mem_nil, false_implies, implies_true, and_true, true_and, and_self, Nat.reduceEqDiff, reduceIte, ↓reduceIte, ri_eq, Int.natCast_add, Int.cast_ofNat_Int, if_pos, if_neg, Nat.reduceAdd, List.nil_append]; try simp) (by simp [hp])) ?_
    rintro _ _
    refine SW_of_vc Try.mixed _ _ _ (by kernel_rfl) ?_
    simp (disch := omega) only [Try.ntmps49, Try.results49, go_sem, Nat.reduceLT, Nat.reduceLeDiff, Nat.reduceEqDiff, Nat.reduceAdd, Nat.reduceSub, Nat.reduceMul, reduceIte, ↓reduceIte, reduceCtorEq, Int.reduceToNat, Int.reduceLE, Int.reduceLT, Int.reduceNeg, Int.reduceSub, Int.reduceAdd, Int.reduceMul, rr_eq, rc]
    refine w1.callV 2 (viewL_cons_of view_row (viewL_cons_of view_row (viewL_cons_of (view_own (L := []) (by rw [hp_map, hmap_cons, if_pos rfl]; rfl) (by simp)) viewL_nil_of))) ?_
    simp (disch := omega) only [Try.ntmps49, Try.results49, go_sem, Nat.reduceLT, Nat.reduceLeDiff, Nat.reduceEqDiff, Nat.reduceAdd, Nat.reduceSub, Nat.reduceMul, reduceIte, ↓reduceIte, reduceCtorEq, Int.reduceToNat, Int.reduceLE, Int.reduceLT, Int.reduceNeg, Int.reduceSub, Int.reduceAdd, Int.reduceMul, rr_eq, rc, mvS]
    exact fin_tup (by simp [ints]) (ints_vals _) (by rw [hp_map, hmap_cons, if_neg (by omega), hmap_cons, if_pos rfl]; rfl)
  simp (disch := omega) only [Try.ntmps49, Try.results49, go_sem, Nat.reduceLT, Nat.reduceLeDiff, Nat.reduceEqDiff, Nat.reduceAdd, Nat.reduceSub, Nat.reduceMul, reduceIte, ↓reduceIte, reduceCtorEq, Int.reduceToNat, Int.reduceLE, Int.reduceLT, Int.reduceNeg, Int.reduceSub, Int.reduceAdd, Int.reduceMul, rr_eq, rc, hf]
  refine LoopW.loop (fun p : Nat × List Int × Nat × Nat => ⟨ofL [(0, rr M), (1, rc C), (2, ri L), (8, .own p.2.2.1 0 L.length L.length 1 false), (9, .val (.int .i64 p.1))], hp [(p.2.2.1, ⟨ints p.2.1, false⟩)] p.2.2.2⟩)
    (fun p => p.1 ≤ 100 ∧ p.2.1.length = L.length ∧ im M C (100 - p.1) p.2.1 p.1 = im M C 100 L 0 ∧ p.2.2.1 < p.2.2.2) (fun p => 100 - p.1) (0, L, 1, 2) ⟨by simp, rfl, rfl, by simp⟩ (Wk.ofH (by simp only [go_sem, ↓List.forall_mem_cons, List.not_mem_nil, false_implies, implies_true, and_true, true_and, and_self, Nat.reduceEqDiff, reduceIte, ↓reduceIte, ri_eq, Int.natCast_add, Int.cast_ofNat_Int, rr_eq, rc]; try simp) (by simp (disch := omega) only [go_sem, ↓List.forall_mem_cons, List.not_mem_nil, false_implies, implies_true, and_true, true_and, and_self, Nat.reduceEqDiff, reduceIte, ↓reduceIte, ri_eq, Int.natCast_add, Int.cast_ofNat_Int, if_pos, if_neg, Nat.reduceAdd, List.nil_append]; try simp) (by simp [hp])) ?_
  rintro ⟨k, X, ob, nb⟩ ⟨hk, hX, him, hob⟩
  simp only at hk hX him hob
  have hXl : X.length ≤ 1048576 := by omega
  refine SW_of_vc Try.mixed _ _ _ (by kernel_rfl) ?_
  by_cases hlt : k < 100
  · have w1 := Try.specBM_ok M C X hM hR hC hXl
    by_cases hg : 0 < (bmv M C X).2.2
    · have w2 := (Try.specMove_t X (bmv M C X).1 (bmv M C X).2.1 hXl (bmv_ok hg)).oneT
      have e1 : 100 - k = (100 - (k + 1)) + 1 := by omega
      have hml := moveTo_length X (bmv M C X).1 (bmv M C X).2.1
      rw [e1, im_go hg] at him
      rw [hX] at w2 hml
      rw [mvR, decide_eq_true hg] at w1
      clear e1 hg
      generalize moveTo X (bmv M C X).1 (bmv M C X).2.1 = Y at *
      generalize bmv M C X = t at *
      simp (disch := omega) only [Try.ntmps49, Try.results49, go_sem, Nat.reduceLT, Nat.reduceLeDiff, Nat.reduceEqDiff, Nat.reduceAdd, Nat.reduceSub, Nat.reduceMul, reduceIte, ↓reduceIte, reduceCtorEq, Int.reduceToNat, Int.reduceLE, Int.reduceLT, Int.reduceNeg, Int.reduceSub, Int.reduceAdd, Int.reduceMul, rr_eq, rc]
      refine w1.callV 2 (viewL_cons_of view_row (viewL_cons_of view_row (viewL_cons_of (view_own (by rw [hp_map, hmap_cons, if_pos rfl]) (by omega)) viewL_nil_of))) ?_
      simp (disch := omega) only [Try.ntmps49, Try.results49, go_sem, Nat.reduceLT, Nat.reduceLeDiff, Nat.reduceEqDiff, Nat.reduceAdd, Nat.reduceSub, Nat.reduceMul, reduceIte, ↓reduceIte, reduceCtorEq, Int.reduceToNat, Int.reduceLE, Int.reduceLT, Int.reduceNeg, Int.reduceSub, Int.reduceAdd, Int.reduceMul, rr_eq, rc, mvS]
      refine w2.callOneT (ints_vals _) 2 (viewL_cons_of (view_own (by rw [hp_map, hmap_cons, if_neg (by omega), hmap_cons, if_pos rfl]) (by omega)) (viewL_cons_of view_int (viewL_cons_of view_int viewL_nil_of))) ?_
      simp (disch := omega) only [Try.ntmps49, Try.results49, go_sem, Nat.reduceLT, Nat.reduceLeDiff, Nat.reduceEqDiff, Nat.reduceAdd, Nat.reduceSub, Nat.reduceMul, reduceIte, ↓reduceIte, reduceCtorEq, Int.reduceToNat, Int.reduceLE, Int.reduceLT, Int.reduceNeg, Int.reduceSub, Int.reduceAdd, Int.reduceMul, rr_eq, rc, mvS]
      exact ⟨(k + 1, Y, nb + 1, nb + 1 + 1), ⟨by show k + 1 ≤ 100; omega, hml, him, by show nb + 1 < nb + 1 + 1; omega⟩, by show 100 - (k + 1) < 100 - k; omega, Wk.ofH (by simp only [go_sem, ↓List.forall_mem_cons, List.not_mem_nil, false_implies, implies_true, and_true, true_and, and_self, Nat.reduceEqDiff, reduceIte, ↓reduceIte, ri_eq, Int.natCast_add, Int.cast_ofNat_Int, rr_eq, rc]; try simp) (by simp (disch := omega) only [go_sem, ↓List.forall_mem_cons, List.not_mem_nil, false_implies, implies_true, and_true, true_and, and_self, Nat.reduceEqDiff, reduceIte, ↓reduceIte, ri_eq, Int.natCast_add, Int.cast_ofNat_Int, if_pos, if_neg, Nat.reduceAdd, List.nil_append]; try simp) (Nat.le_refl _)⟩
    · rw [im_stop hg] at him
      rw [← him]
      rw [mvR, decide_eq_false hg] at w1
      clear hg him
      generalize bmv M C X = t at *
      simp (disch := omega) only [Try.ntmps49, Try.results49, go_sem, Nat.reduceLT, Nat.reduceLeDiff, Nat.reduceEqDiff, Nat.reduceAdd, Nat.reduceSub, Nat.reduceMul, reduceIte, ↓reduceIte, reduceCtorEq, Int.reduceToNat, Int.reduceLE, Int.reduceLT, Int.reduceNeg, Int.reduceSub, Int.reduceAdd, Int.reduceMul, rr_eq, rc]
      refine w1.callV 2 (viewL_cons_of view_row (viewL_cons_of view_row (viewL_cons_of (view_own (by rw [hp_map, hmap_cons, if_pos rfl]) (by omega)) viewL_nil_of))) ?_
      simp (disch := omega) only [Try.ntmps49, Try.results49, go_sem, Nat.reduceLT, Nat.reduceLeDiff, Nat.reduceEqDiff, Nat.reduceAdd, Nat.reduceSub, Nat.reduceMul, reduceIte, ↓reduceIte, reduceCtorEq, Int.reduceToNat, Int.reduceLE, Int.reduceLT, Int.reduceNeg, Int.reduceSub, Int.reduceAdd, Int.reduceMul, rr_eq, rc, mvS]
      exact fin_tup (by simp [ints, hX]) (ints_vals _) (by rw [hp_map, hmap_cons, if_neg (by omega), hmap_cons, if_pos rfl])
  · obtain rfl : k = 100 := by omega
    have him : (X, 100) = im M C 100 L 0 := him
    rw [← him]
    simp (disch := omega) only [Try.ntmps49, Try.results49, go_sem, Nat.reduceLT, Nat.reduceLeDiff, Nat.reduceEqDiff, Nat.reduceAdd, Nat.reduceSub, Nat.reduceMul, reduceIte, ↓reduceIte, reduceCtorEq, Int.reduceToNat, Int.reduceLE, Int.reduceLT, Int.reduceNeg, Int.reduceSub, Int.reduceAdd, Int.reduceMul, rr_eq, rc]
    exact fin_tup (by simp [ints, hX]) (ints_vals _) (by rw [hp_map, hmap_cons, if_pos rfl])
end Go.Sh
