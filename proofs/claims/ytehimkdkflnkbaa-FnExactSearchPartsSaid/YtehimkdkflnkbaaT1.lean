/-
  Contracts: joins of partitions. Of the reference and of the program.
-/
import Derived.Test.YtehimkdkflnkbaaJ1
import Derived.Test.YtehimkdkflnkbaaS1
namespace Go.Sh
set_option linter.unusedSimpArgs false
set_option linter.unusedVariables false
open Go Go.Proofs

def joinB (A B : List Int) (x y : Nat) : Bool := decide (A.getD x 0 = A.getD y 0) || decide (B.getD x 0 = B.getD y 0)
theorem joinB_sym (A B : List Int) (x y : Nat) : joinB A B x y = joinB A B y x := by
  simp only [joinB]
  rw [decide_eq_decide.2 (eq_comm (a := A.getD x 0)), decide_eq_decide.2 (eq_comm (a := B.getD x 0))]
def joinD (A B : List Int) (x y : Nat) : Bool := !decide (x = y) && joinB A B x y
theorem joinD_sym (A B : List Int) (x y : Nat) : joinD A B x y = joinD A B y x := by
  simp only [joinD]
  rw [joinB_sym, decide_eq_decide.2 (eq_comm (a := x))]
def joinM (A B : List Int) : List (List Int) := genM A.length fun x y => bint (joinD A B x y)
theorem joinM_length (A B : List Int) : (joinM A B).length = A.length := (genM_sq _ _).1
theorem joinM_wm {A B : List Int} (h : 1 ≤ A.length ∧ A.length ≤ 8) : WM (joinM A B) := by
  have hs := genM_sq A.length fun x y => bint (joinD A B x y)
  have hb : ∀ b, 0 ≤ bint b ∧ bint b ≤ 1 := fun b => by cases b <;> simp [bint]
  have e1 : (joinM A B).length = A.length := hs.1
  refine ⟨by rw [e1]; omega, fun i hi => by rw [e1] at hi ⊢; exact hs.2 i hi, fun i k hi hk => ?_, fun i hi => ?_⟩
  · rw [e1] at hi hk
    rw [joinM, genM_at hi hk, genM_at hk hi, joinD_sym]
    have := hb (joinD A B k i)
    exact ⟨by omega, rfl⟩
  · rw [e1] at hi
    rw [joinM, genM_at hi hi]
    simp [joinD, bint]
theorem joinM_pB {A B : List Int} {x y : Nat} (hx : x < A.length) (hy : y < A.length) : pB (joinM A B) x y = joinD A B x y := by
  rw [pB, joinM, genM_at hx hy]
  cases joinD A B x y <;> simp [bint]
noncomputable def jn (A B : List Int) : List Int := if pairB A B = true then comp A.length (joinB A B) else []
theorem jn_t {A B : List Int} (h : pairB A B = true) : jn A B = comp A.length (joinB A B) := by rw [jn, if_pos h]
theorem jn_f {A B : List Int} (h : pairB A B = false) : jn A B = [] := by rw [jn, if_neg (by rw [h]; simp)]
theorem join_ok {n : Nat} {A B : List Int} : CompL n (joinB A B) (comp n (joinB A B)) := comp_ok fun x y _ _ h => by rw [joinB_sym]; exact h
theorem jn_length {A B : List Int} (h : pairB A B = true) : (jn A B).length = A.length := by rw [jn_t h]; exact join_ok.len
theorem jn_pcomp {A B : List Int} (h : 1 ≤ A.length ∧ A.length ≤ 8) : pcomp (joinM A B) = comp A.length (joinB A B) := by
  have hw := joinM_wm (B := B) h
  rw [pcomp_t hw, joinM_length]
  have hc := comp_ok (n := A.length) (B := pB (joinM A B)) (by have := hw.sym; rwa [joinM_length] at this)
  refine comp_congr hc join_ok (fun x y hx hy hb => ?_) (fun x y hx hy hb => ?_)
  · rw [joinM_pB hx hy, joinD, Bool.and_eq_true] at hb
    exact .one hx hy hb.2
  · by_cases e : x = y
    · subst e; exact .refl
    · refine .one hx hy ?_
      rw [joinM_pB hx hy, joinD, hb]; simp [e]

set_option maxHeartbeats 4000000 in
theorem Try.implJoin_f (A B : List Int) (hA : A.length ≤ 1048576) (hB : B.length ≤ 1048576) (h : pairB A B = true) : FCall Try.prog 72 [ri A, ri B] (FlatRes A.length 1 (ints (jn A B))) := by
  obtain ⟨pa, pb, hl⟩ := pairB_t h
  have l12 := isPart_len pa
  obtain ⟨l1, l2⟩ := l12
  have w1 := Try.arePartitions_ok A B hA hB
  rw [h] at w1
  have hw := joinM_wm (B := B) ⟨l1, l2⟩
  have hml := joinM_length A B
  have w3 := Try.implPC_one (joinM A B) (by rw [hml]; omega) (fun i hi => by rw [hw.2.1 i hi, hml]; omega) hw
  rw [jn_pcomp ⟨l1, l2⟩, hml] at w3
  rw [jn_t h]
  refine FCall.of_body Try.func72 rfl (by kernel_rfl) (by simp [Try.ntmps72]) ?_
  refine SW_of_vc Try.mixed _ _ _ (by kernel_rfl) ?_
  simp (disch := omega) only [Try.ntmps72, Try.results72, go_sem, Nat.reduceLT, Nat.reduceLeDiff, Nat.reduceEqDiff, Nat.reduceAdd, Nat.reduceSub, Nat.reduceMul, reduceIte, ↓reduceIte, reduceCtorEq, Int.reduceToNat, Int.reduceLE, Int.reduceLT, Int.reduceNeg, Int.reduceSub, Int.reduceAdd, Int.reduceMul]
  refine w1.callV 0 (viewL_cons_of (view_rowL (by first | rfl | simp [marks_length, canon_length] | omega)) (viewL_cons_of (view_rowL (by first | rfl | simp [marks_length, canon_length] | omega)) viewL_nil_of)) ?_
  simp (disch := omega) only [Try.ntmps72, Try.results72, go_sem, Nat.reduceLT, Nat.reduceLeDiff, Nat.reduceEqDiff, Nat.reduceAdd, Nat.reduceSub, Nat.reduceMul, reduceIte, ↓reduceIte, reduceCtorEq, Int.reduceToNat, Int.reduceLE, Int.reduceLT, Int.reduceNeg, Int.reduceSub, Int.reduceAdd, Int.reduceMul]
  refine (Try.square_one A.length hA).callMat (mi_vals _) 0 (viewL_cons_of (view_int) viewL_nil_of) ?_
  simp (disch := omega) only [Try.ntmps72, Try.results72, go_sem, Nat.reduceLT, Nat.reduceLeDiff, Nat.reduceEqDiff, Nat.reduceAdd, Nat.reduceSub, Nat.reduceMul, reduceIte, ↓reduceIte, reduceCtorEq, Int.reduceToNat, Int.reduceLE, Int.reduceLT, Int.reduceNeg, Int.reduceSub, Int.reduceAdd, Int.reduceMul, zs_length]
  generalize hn : A.length = n at *
  refine LoopW.loop (fun p : Nat × List (List Int) => ⟨ofL [(0, .row n false (ints A)), (1, .row B.length false (ints B)), (5, .own 0 0 n n 1 false), (16, .val (.int .i64 n)), (17, .val (.int .i64 p.1))], hx [.mat 0 (mi p.2)] (n + 1)⟩)
    (fun p => p.1 ≤ n ∧ SqI n p.2 ∧ (∀ x y, x < p.1 → y < n → mat p.2 x y = bint (joinD A B x y)) ∧ ∀ x y, p.1 ≤ x → mat p.2 x y = 0) (fun p => n - p.1) (0, zs n) ⟨by simp, .zs _, fun x y h => by simp at h, fun x y _ => zs_at⟩
    (Wk.ofX (by simp only [go_sem, ↓List.forall_mem_cons, List.not_mem_nil, false_implies, implies_true, and_true, true_and, and_self, Nat.reduceEqDiff, reduceIte, ↓reduceIte, ri_eq, Int.natCast_add, Int.cast_ofNat_Int, hn]; try simp) (by simp only [List.forall_mem_cons]; exact ⟨.self, by simp⟩) (Nat.le_refl _)) ?_
  rintro ⟨i, M⟩ ⟨hi, hM, hMM, hM0⟩
  simp only at hi hM hMM hM0
  refine SW_of_vc Try.mixed _ _ _ (by kernel_rfl) ?_
  by_cases hlt : i < n
  · simp (disch := omega) only [Try.ntmps72, Try.results72, go_sem, Nat.reduceLT, Nat.reduceLeDiff, Nat.reduceEqDiff, Nat.reduceAdd, Nat.reduceSub, Nat.reduceMul, reduceIte, ↓reduceIte, reduceCtorEq, Int.reduceToNat, Int.reduceLE, Int.reduceLT, Int.reduceNeg, Int.reduceSub, Int.reduceAdd, Int.reduceMul, hn]
    refine LoopW.loop (fun p : Nat × List (List Int) => ⟨ofL [(0, .row n false (ints A)), (1, .row B.length false (ints B)), (5, .own 0 0 n n 1 false), (6, .val (.int .i64 i)), (16, .val (.int .i64 n)), (17, .val (.int .i64 i)), (21, .val (.int .i64 n)), (22, .val (.int .i64 p.1))], hx [.mat 0 (mi p.2)] (n + 1)⟩)
      (fun p => p.1 ≤ n ∧ SqI n p.2 ∧ (∀ x y, (x < i ∨ (x = i ∧ y < p.1)) → y < n → mat p.2 x y = bint (joinD A B x y)) ∧ ∀ x y, (i < x ∨ (x = i ∧ p.1 ≤ y)) → mat p.2 x y = 0) (fun p => n - p.1) (0, M) ⟨by simp, hM, fun x y h => hMM x y (by simpa using h), fun x y h => hM0 x y (by omega)⟩
      (Wk.ofX (by simp only [go_sem, ↓List.forall_mem_cons, List.not_mem_nil, false_implies, implies_true, and_true, true_and, and_self, Nat.reduceEqDiff, reduceIte, ↓reduceIte, ri_eq, Int.natCast_add, Int.cast_ofNat_Int, hn]; try simp) (by simp only [List.forall_mem_cons]; exact ⟨.self, by simp⟩) (Nat.le_refl _)) ?_
    rintro ⟨k, Y⟩ ⟨hk, hY, hYY, hY0⟩
    simp only at hk hY hYY hY0
    have hYi := hY.2 i hlt
    have hY1 := hY.1
    refine SW_of_vc Try.mixed _ _ _ (by kernel_rfl) ?_
    by_cases hlt2 : k < n
    · have g1 := ints_get (L := A) (k := i) (by omega)
      have g2 := ints_get (L := A) (k := k) (by omega)
      have g3 := ints_get (L := B) (k := i) (by omega)
      have g4 := ints_get (L := B) (k := k) (by omega)
      have hset := fun x y => mset_at Y i k 1 (k := x) (d := y) (by omega) (by omega)
      have hput : joinD A B i k = true → (∀ x y, (x < i ∨ (x = i ∧ y < k + 1)) → y < n → mat (mset Y i k 1) x y = bint (joinD A B x y)) ∧ ∀ x y, (i < x ∨ (x = i ∧ k + 1 ≤ y)) → mat (mset Y i k 1) x y = 0 := by
        intro hj
        refine ⟨fun x y h hy => ?_, fun x y h => ?_⟩
        · rw [hset]
          split
          · rename_i e; rw [e.1, e.2, hj]; rfl
          · exact hYY x y (by omega) hy
        · rw [hset, if_neg (by omega)]
          exact hY0 x y (by omega)
      have hskip : joinD A B i k = false → (∀ x y, (x < i ∨ (x = i ∧ y < k + 1)) → y < n → mat Y x y = bint (joinD A B x y)) ∧ ∀ x y, (i < x ∨ (x = i ∧ k + 1 ≤ y)) → mat Y x y = 0 := by
        intro hj
        refine ⟨fun x y h hy => ?_, fun x y h => hY0 x y (by omega)⟩
        by_cases e : x = i ∧ y = k
        · rw [e.1, e.2, hj, hY0 i k (by omega)]; rfl
        · exact hYY x y (by omega) hy
      have hjd : joinD A B i k = (!decide (i = k) && (decide (A.getD i 0 = A.getD k 0) || decide (B.getD i 0 = B.getD k 0))) := rfl
      generalize A.getD i 0 = a1 at *
      generalize A.getD k 0 = a2 at *
      generalize B.getD i 0 = b1 at *
      generalize B.getD k 0 = b2 at *
      by_cases e0 : i = k
      · obtain ⟨k1, k2⟩ := hskip (by rw [hjd]; simp [e0])
        simp (disch := omega) only [Try.ntmps72, Try.results72, go_sem, Nat.reduceLT, Nat.reduceLeDiff, Nat.reduceEqDiff, Nat.reduceAdd, Nat.reduceSub, Nat.reduceMul, reduceIte, ↓reduceIte, reduceCtorEq, Int.reduceToNat, Int.reduceLE, Int.reduceLT, Int.reduceNeg, Int.reduceSub, Int.reduceAdd, Int.reduceMul, hn]
        exact ⟨(k + 1, Y), ⟨hlt2, hY, k1, k2⟩, by show n - (k + 1) < n - k; omega, (Wk.ofX (by simp only [go_sem, ↓List.forall_mem_cons, List.not_mem_nil, false_implies, implies_true, and_true, true_and, and_self, Nat.reduceEqDiff, reduceIte, ↓reduceIte, ri_eq, Int.natCast_add, Int.cast_ofNat_Int]; try simp) (by simp only [List.forall_mem_cons]; exact ⟨.self, by simp⟩) (Nat.le_refl _))⟩
      · by_cases e1 : a1 = a2
        · obtain ⟨k1, k2⟩ := hput (by rw [hjd]; simp [e0, e1])
          simp (disch := omega) only [Try.ntmps72, Try.results72, go_sem, Nat.reduceLT, Nat.reduceLeDiff, Nat.reduceEqDiff, Nat.reduceAdd, Nat.reduceSub, Nat.reduceMul, reduceIte, ↓reduceIte, reduceCtorEq, Int.reduceToNat, Int.reduceLE, Int.reduceLT, Int.reduceNeg, Int.reduceSub, Int.reduceAdd, Int.reduceMul, hn, g1, g2, outerB_getI, hYi, xmap_rowI, xset_rowI, hY1]
          exact ⟨(k + 1, mset Y i k 1), ⟨hlt2, hY.set _ _ _, k1, k2⟩, by show n - (k + 1) < n - k; omega, (Wk.ofX (by simp only [go_sem, ↓List.forall_mem_cons, List.not_mem_nil, false_implies, implies_true, and_true, true_and, and_self, Nat.reduceEqDiff, reduceIte, ↓reduceIte, ri_eq, Int.natCast_add, Int.cast_ofNat_Int]; try simp) (by simp only [List.forall_mem_cons]; exact ⟨.self, by simp⟩) (Nat.le_refl _))⟩
        · by_cases e2 : b1 = b2
          · obtain ⟨k1, k2⟩ := hput (by rw [hjd]; simp [e0, e2])
            simp (disch := omega) only [Try.ntmps72, Try.results72, go_sem, Nat.reduceLT, Nat.reduceLeDiff, Nat.reduceEqDiff, Nat.reduceAdd, Nat.reduceSub, Nat.reduceMul, reduceIte, ↓reduceIte, reduceCtorEq, Int.reduceToNat, Int.reduceLE, Int.reduceLT, Int.reduceNeg, Int.reduceSub, Int.reduceAdd, Int.reduceMul, hn, g1, g2, g3, g4, outerB_getI, hYi, xmap_rowI, xset_rowI, hY1]
            exact ⟨(k + 1, mset Y i k 1), ⟨hlt2, hY.set _ _ _, k1, k2⟩, by show n - (k + 1) < n - k; omega, (Wk.ofX (by simp only [go_sem, ↓List.forall_mem_cons, List.not_mem_nil, false_implies, implies_true, and_true, true_and, and_self, Nat.reduceEqDiff, reduceIte, ↓reduceIte, ri_eq, Int.natCast_add, Int.cast_ofNat_Int]; try simp) (by simp only [List.forall_mem_cons]; exact ⟨.self, by simp⟩) (Nat.le_refl _))⟩
          · obtain ⟨k1, k2⟩ := hskip (by rw [hjd]; simp [e1, e2])
            simp (disch := omega) only [Try.ntmps72, Try.results72, go_sem, Nat.reduceLT, Nat.reduceLeDiff, Nat.reduceEqDiff, Nat.reduceAdd, Nat.reduceSub, Nat.reduceMul, reduceIte, ↓reduceIte, reduceCtorEq, Int.reduceToNat, Int.reduceLE, Int.reduceLT, Int.reduceNeg, Int.reduceSub, Int.reduceAdd, Int.reduceMul, hn, g1, g2, g3, g4]
            exact ⟨(k + 1, Y), ⟨hlt2, hY, k1, k2⟩, by show n - (k + 1) < n - k; omega, (Wk.ofX (by simp only [go_sem, ↓List.forall_mem_cons, List.not_mem_nil, false_implies, implies_true, and_true, true_and, and_self, Nat.reduceEqDiff, reduceIte, ↓reduceIte, ri_eq, Int.natCast_add, Int.cast_ofNat_Int]; try simp) (by simp only [List.forall_mem_cons]; exact ⟨.self, by simp⟩) (Nat.le_refl _))⟩
    · simp (disch := omega) only [Try.ntmps72, Try.results72, go_sem, Nat.reduceLT, Nat.reduceLeDiff, Nat.reduceEqDiff, Nat.reduceAdd, Nat.reduceSub, Nat.reduceMul, reduceIte, ↓reduceIte, reduceCtorEq, Int.reduceToNat, Int.reduceLE, Int.reduceLT, Int.reduceNeg, Int.reduceSub, Int.reduceAdd, Int.reduceMul, hn]
      exact ⟨(i + 1, Y), ⟨hlt, hY, fun x y h hy => hYY x y (by omega) hy, fun x y h => hY0 x y (by omega)⟩, by show n - (i + 1) < n - i; omega, (Wk.ofX (by simp only [go_sem, ↓List.forall_mem_cons, List.not_mem_nil, false_implies, implies_true, and_true, true_and, and_self, Nat.reduceEqDiff, reduceIte, ↓reduceIte, ri_eq, Int.natCast_add, Int.cast_ofNat_Int]; try simp) (by simp only [List.forall_mem_cons]; exact ⟨.self, by simp⟩) (Nat.le_refl _))⟩
  · have he : M = joinM A B := by
      have := genM_sq A.length fun x y => bint (joinD A B x y)
      rw [hn] at this
      refine hM.ext (by rw [joinM, hn]; exact this) fun x y hx hy => ?_
      rw [hMM x y (by omega) hy, joinM, genM_at (by omega) (by omega)]
    subst he
    simp (disch := omega) only [Try.ntmps72, Try.results72, go_sem, Nat.reduceLT, Nat.reduceLeDiff, Nat.reduceEqDiff, Nat.reduceAdd, Nat.reduceSub, Nat.reduceMul, reduceIte, ↓reduceIte, reduceCtorEq, Int.reduceToNat, Int.reduceLE, Int.reduceLT, Int.reduceNeg, Int.reduceSub, Int.reduceAdd, Int.reduceMul, hn]
    refine w3.callOne (ints_vals _) 2 (viewL_cons_of (view_mi .self (by rw [joinM_length, hn])) viewL_nil_of) ?_
    simp (disch := omega) only [Try.ntmps72, Try.results72, go_sem, Nat.reduceLT, Nat.reduceLeDiff, Nat.reduceEqDiff, Nat.reduceAdd, Nat.reduceSub, Nat.reduceMul, reduceIte, ↓reduceIte, reduceCtorEq, Int.reduceToNat, Int.reduceLE, Int.reduceLT, Int.reduceNeg, Int.reduceSub, Int.reduceAdd, Int.reduceMul, hn]
    exact fin_ints join_ok.len.symm (by rw [hx_map, xmap_blk, if_pos rfl])
theorem Try.implJoin_nil (A B : List Int) (hA : A.length ≤ 1048576) (hB : B.length ≤ 1048576) (h : pairB A B = false) : FCall Try.prog 72 [ri A, ri B] (fun r _ => r = .val (.slice none 0 0)) := by
  have w1 := Try.arePartitions_ok A B hA hB
  rw [h] at w1
  refine FCall.of_body Try.func72 rfl (by kernel_rfl) (by simp [Try.ntmps72]) ?_
  refine SW_of_vc Try.mixed _ _ _ (by kernel_rfl) ?_
  simp (disch := omega) only [Try.ntmps72, Try.results72, go_sem, Nat.reduceLT, Nat.reduceLeDiff, Nat.reduceEqDiff, Nat.reduceAdd, Nat.reduceSub, Nat.reduceMul, reduceIte, ↓reduceIte, reduceCtorEq, Int.reduceToNat, Int.reduceLE, Int.reduceLT, Int.reduceNeg, Int.reduceSub, Int.reduceAdd, Int.reduceMul]
  refine w1.callV 0 (viewL_cons_of (view_rowL (by first | rfl | simp [marks_length, canon_length] | omega)) (viewL_cons_of (view_rowL (by first | rfl | simp [marks_length, canon_length] | omega)) viewL_nil_of)) ?_
  simp (disch := omega) only [Try.ntmps72, Try.results72, go_sem, Nat.reduceLT, Nat.reduceLeDiff, Nat.reduceEqDiff, Nat.reduceAdd, Nat.reduceSub, Nat.reduceMul, reduceIte, ↓reduceIte, reduceCtorEq, Int.reduceToNat, Int.reduceLE, Int.reduceLT, Int.reduceNeg, Int.reduceSub, Int.reduceAdd, Int.reduceMul]
  exact Fin.val rfl
theorem Try.implJoin_one (A B : List Int) (hA : A.length ≤ 1048576) (hB : B.length ≤ 1048576) (h : pairB A B = true) : FCall Try.prog 72 [ri A, ri B] (OneRes A.length 1 (ints (jn A B))) := (Try.implJoin_f A B hA hB h).one
theorem Try.implJoin_ok (A B : List Int) (hA : A.length ≤ 1048576) (hB : B.length ≤ 1048576) : PCall Try.prog 72 [ri A, ri B] (ri (jn A B)) := by
  rcases Bool.eq_false_or_eq_true (pairB A B) with h | h
  · exact (Try.implJoin_f A B hA hB h).pcall 2 (fun _ _ h => flat_view h)
  · rw [jn_f h]; exact (Try.implJoin_nil A B hA hB h).pcall 0 (by rintro r H rfl; exact view_nil)
end Go.Sh
