/-
  Contracts: what a partition costs. Of the reference and of the program; the law.
-/
import Derived.Test.YtehimkdkflnkbaaK2
import Derived.Test.YtehimkdkflnkbaaK3
namespace Go.Sh
set_option linter.unusedSimpArgs false
set_option linter.unusedVariables false
open Go Go.Proofs

def ct (M : List (List Int)) (L : List Int) (i k : Nat) : Int := if L.getD i 0 = L.getD k 0 then max 0 (-mat M i k) else max 0 (mat M i k)
def cr (M : List (List Int)) (L : List Int) (i : Nat) : Nat → Int
  | 0 => 0
  | k + 1 => cr M L i k + ct M L i k
def cc (M : List (List Int)) (L : List Int) : Nat → Int
  | 0 => 0
  | i + 1 => cc M L i + cr M L i i
theorem ct_b {M : List (List Int)} {L : List Int} (h : WM M) {i k : Nat} (hi : i < M.length) (hk : k < M.length) : 0 ≤ ct M L i k ∧ ct M L i k ≤ 1000 := by
  have := (h.2.2.1 i k hi hk).1
  unfold ct
  split <;> omega
theorem cr_b {M : List (List Int)} {L : List Int} (h : WM M) {i : Nat} (hi : i < M.length) : ∀ k, k ≤ M.length → 0 ≤ cr M L i k ∧ cr M L i k ≤ 1000 * k
  | 0, _ => by simp [cr]
  | k + 1, hk => by
    have h1 := cr_b h hi (L := L) k (by omega)
    have h2 := ct_b (L := L) h hi (k := k) (by omega)
    rw [cr]; omega
theorem cc_b {M : List (List Int)} {L : List Int} (h : WM M) : ∀ i, i ≤ M.length → 0 ≤ cc M L i ∧ cc M L i ≤ 8000 * i
  | 0, _ => by simp [cc]
  | i + 1, hi => by
    have h1 := cc_b h (L := L) i (by omega)
    have h2 := cr_b (L := L) h (i := i) (by omega) i (by omega)
    have := h.1
    rw [cc]; omega
noncomputable def pcost (M : List (List Int)) (L : List Int) : Int := if isWM M = true ∧ isPart L = true ∧ L.length = M.length then cc M L L.length else -1
set_option maxHeartbeats 4000000 in
set_option maxRecDepth 100000 in
theorem Try.implCost_ok (M : List (List Int)) (L : List Int) (hw : WM M) (hl : L.length = M.length) : PCall Try.prog 86 [rr M, ri L] (.val (.int .i64 (cc M L L.length))) := by
  have hM8 := hw.1.2
  have c1 := cc_b (L := L) hw
  refine FCall.pcall (R := fun r _ => r = .val (.int .i64 (cc M L L.length))) ?_ 0 (by rintro r H rfl; exact view_int)
  refine FCall.of_body Try.func86 rfl (by kernel_rfl) (by simp [Try.ntmps86]) ?_
  refine SW_of_vc Try.mixed _ _ _ (by kernel_rfl) ?_
  simp (disch := omega) only [Try.ntmps86, Try.results86, go_sem, Nat.reduceLT, Nat.reduceLeDiff, Nat.reduceEqDiff, Nat.reduceAdd, Nat.reduceSub, Nat.reduceMul, reduceIte, ↓reduceIte, reduceCtorEq, Int.reduceToNat, Int.reduceLE, Int.reduceLT, Int.reduceNeg, Int.reduceSub, Int.reduceAdd, Int.reduceMul, rr_eq]
  refine LoopW.loop (fun i : Nat => ⟨ofL [(0, rr M), (1, ri L), (5, .val (.int .i64 (cc M L i))), (8, ri L), (9, .val (.int .i64 L.length)), (10, .val (.int .i64 i))], hp [] 0⟩) (fun i => i ≤ L.length) (fun i => L.length - i) 0 (by omega) (Wk.of (by simp only [go_sem, ↓List.forall_mem_cons, List.not_mem_nil, false_implies, implies_true, and_true, true_and, and_self, Nat.reduceEqDiff, reduceIte, ↓reduceIte, ri_eq, Int.natCast_add, Int.cast_ofNat_Int, rr_eq, cc]; try simp) rfl) ?_
  intro i hi
  refine SW_of_vc Try.mixed _ _ _ (by kernel_rfl) ?_
  by_cases hlt : i < L.length
  · simp (disch := omega) only [Try.ntmps86, Try.results86, go_sem, Nat.reduceLT, Nat.reduceLeDiff, Nat.reduceEqDiff, Nat.reduceAdd, Nat.reduceSub, Nat.reduceMul, reduceIte, ↓reduceIte, reduceCtorEq, Int.reduceToNat, Int.reduceLE, Int.reduceLT, Int.reduceNeg, Int.reduceSub, Int.reduceAdd, Int.reduceMul, rr_eq]
    refine LoopW.loop (fun k : Nat => ⟨ofL [(0, rr M), (1, ri L), (5, .val (.int .i64 (cc M L i + cr M L i k))), (6, .val (.int .i64 i)), (8, ri L), (9, .val (.int .i64 L.length)), (10, .val (.int .i64 i)), (13, .val (.int .i64 i)), (14, .val (.int .i64 k))], hp [] 0⟩) (fun k => k ≤ i) (fun k => i - k) 0 (by omega) (Wk.of (by simp only [go_sem, ↓List.forall_mem_cons, List.not_mem_nil, false_implies, implies_true, and_true, true_and, and_self, Nat.reduceEqDiff, reduceIte, ↓reduceIte, ri_eq, Int.natCast_add, Int.cast_ofNat_Int, rr_eq, cr, Int.add_zero]; try simp) rfl) ?_
    intro k hk
    refine SW_of_vc Try.mixed _ _ _ (by kernel_rfl) ?_
    by_cases hki : k < i
    · skip
      have hri := hw.2.1 i (by omega)
      have c2 := c1 i (by omega)
      have c3 := cr_b (L := L) hw (i := i) (by omega)
      have c4 := c3 k (by omega)
      have c5 := (hw.2.2.1 i k (by omega) (by omega)).1
      have g1 : (ints (mrow M i))[k]? = some (.val (.int .i64 (mat M i k))) := ints_get' hri (by omega)
      have hct : cr M L i (k + 1) = cr M L i k + ct M L i k := rfl
      unfold ct at hct
      by_cases he : L.getD i 0 = L.getD k 0
      · rw [if_pos he] at hct
        generalize mat M i k = a at *
        by_cases p1 : 0 < a
        · have e : cc M L i + cr M L i (k + 1) = cc M L i + cr M L i k + 0 := by omega
          simp (disch := omega) only [Try.ntmps86, Try.results86, go_sem, Nat.reduceLT, Nat.reduceLeDiff, Nat.reduceEqDiff, Nat.reduceAdd, Nat.reduceSub, Nat.reduceMul, reduceIte, ↓reduceIte, reduceCtorEq, Int.reduceToNat, Int.reduceLE, Int.reduceLT, Int.reduceNeg, Int.reduceSub, Int.reduceAdd, Int.reduceMul, rr_eq, rows_get, hri, g1, he]
          exact ⟨k + 1, by omega, by omega, Wk.of (by simp only [go_sem, ↓List.forall_mem_cons, List.not_mem_nil, false_implies, implies_true, and_true, true_and, and_self, Nat.reduceEqDiff, reduceIte, ↓reduceIte, ri_eq, Int.natCast_add, Int.cast_ofNat_Int, rr_eq, e, Int.add_zero, Int.sub_eq_add_neg]; try simp) rfl⟩
        · by_cases p2 : a < 0
          · have e : cc M L i + cr M L i (k + 1) = cc M L i + cr M L i k + -a := by omega
            simp (disch := omega) only [Try.ntmps86, Try.results86, go_sem, Nat.reduceLT, Nat.reduceLeDiff, Nat.reduceEqDiff, Nat.reduceAdd, Nat.reduceSub, Nat.reduceMul, reduceIte, ↓reduceIte, reduceCtorEq, Int.reduceToNat, Int.reduceLE, Int.reduceLT, Int.reduceNeg, Int.reduceSub, Int.reduceAdd, Int.reduceMul, rr_eq, rows_get, hri, g1, he]
            exact ⟨k + 1, by omega, by omega, Wk.of (by simp only [go_sem, ↓List.forall_mem_cons, List.not_mem_nil, false_implies, implies_true, and_true, true_and, and_self, Nat.reduceEqDiff, reduceIte, ↓reduceIte, ri_eq, Int.natCast_add, Int.cast_ofNat_Int, rr_eq, e, Int.add_zero, Int.sub_eq_add_neg]; try simp) rfl⟩
          · have e : cc M L i + cr M L i (k + 1) = cc M L i + cr M L i k + 0 := by omega
            simp (disch := omega) only [Try.ntmps86, Try.results86, go_sem, Nat.reduceLT, Nat.reduceLeDiff, Nat.reduceEqDiff, Nat.reduceAdd, Nat.reduceSub, Nat.reduceMul, reduceIte, ↓reduceIte, reduceCtorEq, Int.reduceToNat, Int.reduceLE, Int.reduceLT, Int.reduceNeg, Int.reduceSub, Int.reduceAdd, Int.reduceMul, rr_eq, rows_get, hri, g1, he]
            exact ⟨k + 1, by omega, by omega, Wk.of (by simp only [go_sem, ↓List.forall_mem_cons, List.not_mem_nil, false_implies, implies_true, and_true, true_and, and_self, Nat.reduceEqDiff, reduceIte, ↓reduceIte, ri_eq, Int.natCast_add, Int.cast_ofNat_Int, rr_eq, e, Int.add_zero, Int.sub_eq_add_neg]; try simp) rfl⟩
      · rw [if_neg he] at hct
        generalize mat M i k = a at *
        by_cases p1 : 0 < a
        · have e : cc M L i + cr M L i (k + 1) = cc M L i + cr M L i k + a := by omega
          simp (disch := omega) only [Try.ntmps86, Try.results86, go_sem, Nat.reduceLT, Nat.reduceLeDiff, Nat.reduceEqDiff, Nat.reduceAdd, Nat.reduceSub, Nat.reduceMul, reduceIte, ↓reduceIte, reduceCtorEq, Int.reduceToNat, Int.reduceLE, Int.reduceLT, Int.reduceNeg, Int.reduceSub, Int.reduceAdd, Int.reduceMul, rr_eq, rows_get, hri, g1]
          exact ⟨k + 1, by omega, by omega, Wk.of (by simp only [go_sem, ↓List.forall_mem_cons, List.not_mem_nil, false_implies, implies_true, and_true, true_and, and_self, Nat.reduceEqDiff, reduceIte, ↓reduceIte, ri_eq, Int.natCast_add, Int.cast_ofNat_Int, rr_eq, e, Int.add_zero, Int.sub_eq_add_neg]; try simp) rfl⟩
        · by_cases p2 : a < 0
          · have e : cc M L i + cr M L i (k + 1) = cc M L i + cr M L i k + 0 := by omega
            simp (disch := omega) only [Try.ntmps86, Try.results86, go_sem, Nat.reduceLT, Nat.reduceLeDiff, Nat.reduceEqDiff, Nat.reduceAdd, Nat.reduceSub, Nat.reduceMul, reduceIte, ↓reduceIte, reduceCtorEq, Int.reduceToNat, Int.reduceLE, Int.reduceLT, Int.reduceNeg, Int.reduceSub, Int.reduceAdd, Int.reduceMul, rr_eq, rows_get, hri, g1]
            exact ⟨k + 1, by omega, by omega, Wk.of (by simp only [go_sem, ↓List.forall_mem_cons, List.not_mem_nil, false_implies, implies_true, and_true, true_and, and_self, Nat.reduceEqDiff, reduceIte, ↓reduceIte, ri_eq, Int.natCast_add, Int.cast_ofNat_Int, rr_eq, e, Int.add_zero, Int.sub_eq_add_neg]; try simp) rfl⟩
          · have e : cc M L i + cr M L i (k + 1) = cc M L i + cr M L i k + 0 := by omega
            simp (disch := omega) only [Try.ntmps86, Try.results86, go_sem, Nat.reduceLT, Nat.reduceLeDiff, Nat.reduceEqDiff, Nat.reduceAdd, Nat.reduceSub, Nat.reduceMul, reduceIte, ↓reduceIte, reduceCtorEq, Int.reduceToNat, Int.reduceLE, Int.reduceLT, Int.reduceNeg, Int.reduceSub, Int.reduceAdd, Int.reduceMul, rr_eq, rows_get, hri, g1]
            exact ⟨k + 1, by omega, by omega, Wk.of (by simp only [go_sem, ↓List.forall_mem_cons, List.not_mem_nil, false_implies, implies_true, and_true, true_and, and_self, Nat.reduceEqDiff, reduceIte, ↓reduceIte, ri_eq, Int.natCast_add, Int.cast_ofNat_Int, rr_eq, e, Int.add_zero, Int.sub_eq_add_neg]; try simp) rfl⟩
    · obtain rfl : k = i := by omega
      have ec : cc M L (k + 1) = cc M L k + cr M L k k := rfl
      simp (disch := omega) only [Try.ntmps86, Try.results86, go_sem, Nat.reduceLT, Nat.reduceLeDiff, Nat.reduceEqDiff, Nat.reduceAdd, Nat.reduceSub, Nat.reduceMul, reduceIte, ↓reduceIte, reduceCtorEq, Int.reduceToNat, Int.reduceLE, Int.reduceLT, Int.reduceNeg, Int.reduceSub, Int.reduceAdd, Int.reduceMul, rr_eq]
      exact ⟨k + 1, by omega, by omega, Wk.of (by simp only [go_sem, ↓List.forall_mem_cons, List.not_mem_nil, false_implies, implies_true, and_true, true_and, and_self, Nat.reduceEqDiff, reduceIte, ↓reduceIte, ri_eq, Int.natCast_add, Int.cast_ofNat_Int, rr_eq, ec]; try simp) rfl⟩
  · obtain rfl : i = L.length := by omega
    simp (disch := omega) only [Try.ntmps86, Try.results86, go_sem, Nat.reduceLT, Nat.reduceLeDiff, Nat.reduceEqDiff, Nat.reduceAdd, Nat.reduceSub, Nat.reduceMul, reduceIte, ↓reduceIte, reduceCtorEq, Int.reduceToNat, Int.reduceLE, Int.reduceLT, Int.reduceNeg, Int.reduceSub, Int.reduceAdd, Int.reduceMul, rr_eq]
    exact Fin.val rfl

set_option maxHeartbeats 4000000 in
set_option maxRecDepth 100000 in
theorem Try.specCost_ok (M : List (List Int)) (L : List Int) (hw : WM M) (hl : L.length = M.length) : PCall Try.prog 84 [rr M, ri L] (.val (.int .i64 (cc M L L.length))) := by
  have hM8 := hw.1.2
  have c1 := cc_b (L := L) hw
  refine FCall.pcall (R := fun r _ => r = .val (.int .i64 (cc M L L.length))) ?_ 0 (by rintro r H rfl; exact view_int)
  refine FCall.of_body Try.func84 rfl (by kernel_rfl) (by simp [Try.ntmps84]) ?_
  refine SW_of_vc Try.mixed _ _ _ (by kernel_rfl) ?_
  simp (disch := omega) only [Try.ntmps84, Try.results84, go_sem, Nat.reduceLT, Nat.reduceLeDiff, Nat.reduceEqDiff, Nat.reduceAdd, Nat.reduceSub, Nat.reduceMul, reduceIte, ↓reduceIte, reduceCtorEq, Int.reduceToNat, Int.reduceLE, Int.reduceLT, Int.reduceNeg, Int.reduceSub, Int.reduceAdd, Int.reduceMul, rr_eq]
  refine LoopW.loop (fun i : Nat => ⟨ofL [(0, rr M), (1, ri L), (5, .val (.int .i64 (cc M L i))), (6, .val (.int .i64 i))], hp [] 0⟩) (fun i => i ≤ L.length) (fun i => L.length - i) 0 (by omega) (Wk.of (by simp only [go_sem, ↓List.forall_mem_cons, List.not_mem_nil, false_implies, implies_true, and_true, true_and, and_self, Nat.reduceEqDiff, reduceIte, ↓reduceIte, ri_eq, Int.natCast_add, Int.cast_ofNat_Int, rr_eq, cc]; try simp) rfl) ?_
  intro i hi
  refine SW_of_vc Try.mixed _ _ _ (by kernel_rfl) ?_
  by_cases hlt : i < L.length
  · simp (disch := omega) only [Try.ntmps84, Try.results84, go_sem, Nat.reduceLT, Nat.reduceLeDiff, Nat.reduceEqDiff, Nat.reduceAdd, Nat.reduceSub, Nat.reduceMul, reduceIte, ↓reduceIte, reduceCtorEq, Int.reduceToNat, Int.reduceLE, Int.reduceLT, Int.reduceNeg, Int.reduceSub, Int.reduceAdd, Int.reduceMul, rr_eq]
    refine LoopW.loop (fun k : Nat => ⟨ofL [(0, rr M), (1, ri L), (5, .val (.int .i64 (cc M L i + cr M L i k))), (6, .val (.int .i64 i)), (7, .val (.int .i64 k))], hp [] 0⟩) (fun k => k ≤ i) (fun k => i - k) 0 (by omega) (Wk.of (by simp only [go_sem, ↓List.forall_mem_cons, List.not_mem_nil, false_implies, implies_true, and_true, true_and, and_self, Nat.reduceEqDiff, reduceIte, ↓reduceIte, ri_eq, Int.natCast_add, Int.cast_ofNat_Int, rr_eq, cr, Int.add_zero]; try simp) rfl) ?_
    intro k hk
    refine SW_of_vc Try.mixed _ _ _ (by kernel_rfl) ?_
    by_cases hki : k < i
    · skip
      have hri := hw.2.1 i (by omega)
      have c2 := c1 i (by omega)
      have c3 := cr_b (L := L) hw (i := i) (by omega)
      have c4 := c3 k (by omega)
      have c5 := (hw.2.2.1 i k (by omega) (by omega)).1
      have g1 : (ints (mrow M i))[k]? = some (.val (.int .i64 (mat M i k))) := ints_get' hri (by omega)
      have hct : cr M L i (k + 1) = cr M L i k + ct M L i k := rfl
      unfold ct at hct
      by_cases he : L.getD i 0 = L.getD k 0
      · rw [if_pos he] at hct
        generalize mat M i k = a at *
        by_cases p1 : 0 < a
        · have e : cc M L i + cr M L i (k + 1) = cc M L i + cr M L i k + 0 := by omega
          simp (disch := omega) only [Try.ntmps84, Try.results84, go_sem, Nat.reduceLT, Nat.reduceLeDiff, Nat.reduceEqDiff, Nat.reduceAdd, Nat.reduceSub, Nat.reduceMul, reduceIte, ↓reduceIte, reduceCtorEq, Int.reduceToNat, Int.reduceLE, Int.reduceLT, Int.reduceNeg, Int.reduceSub, Int.reduceAdd, Int.reduceMul, rr_eq, rows_get, hri, g1, he]
          exact ⟨k + 1, by omega, by omega, Wk.of (by simp only [go_sem, ↓List.forall_mem_cons, List.not_mem_nil, false_implies, implies_true, and_true, true_and, and_self, Nat.reduceEqDiff, reduceIte, ↓reduceIte, ri_eq, Int.natCast_add, Int.cast_ofNat_Int, rr_eq, e, Int.add_zero, Int.sub_eq_add_neg]; try simp) rfl⟩
        · by_cases p2 : a < 0
          · have e : cc M L i + cr M L i (k + 1) = cc M L i + cr M L i k + -a := by omega
            simp (disch := omega) only [Try.ntmps84, Try.results84, go_sem, Nat.reduceLT, Nat.reduceLeDiff, Nat.reduceEqDiff, Nat.reduceAdd, Nat.reduceSub, Nat.reduceMul, reduceIte, ↓reduceIte, reduceCtorEq, Int.reduceToNat, Int.reduceLE, Int.reduceLT, Int.reduceNeg, Int.reduceSub, Int.reduceAdd, Int.reduceMul, rr_eq, rows_get, hri, g1, he]
            exact ⟨k + 1, by omega, by omega, Wk.of (by simp only [go_sem, ↓List.forall_mem_cons, List.not_mem_nil, false_implies, implies_true, and_true, true_and, and_self, Nat.reduceEqDiff, reduceIte, ↓reduceIte, ri_eq, Int.natCast_add, Int.cast_ofNat_Int, rr_eq, e, Int.add_zero, Int.sub_eq_add_neg]; try simp) rfl⟩
          · have e : cc M L i + cr M L i (k + 1) = cc M L i + cr M L i k + 0 := by omega
            simp (disch := omega) only [Try.ntmps84, Try.results84, go_sem, Nat.reduceLT, Nat.reduceLeDiff, Nat.reduceEqDiff, Nat.reduceAdd, Nat.reduceSub, Nat.reduceMul, reduceIte, ↓reduceIte, reduceCtorEq, Int.reduceToNat, Int.reduceLE, Int.reduceLT, Int.reduceNeg, Int.reduceSub, Int.reduceAdd, Int.reduceMul, rr_eq, rows_get, hri, g1, he]
            exact ⟨k + 1, by omega, by omega, Wk.of (by simp only [go_sem, ↓List.forall_mem_cons, List.not_mem_nil, false_implies, implies_true, and_true, true_and, and_self, Nat.reduceEqDiff, reduceIte, ↓reduceIte, ri_eq, Int.natCast_add, Int.cast_ofNat_Int, rr_eq, e, Int.add_zero, Int.sub_eq_add_neg]; try simp) rfl⟩
      · rw [if_neg he] at hct
        generalize mat M i k = a at *
        by_cases p1 : 0 < a
        · have e : cc M L i + cr M L i (k + 1) = cc M L i + cr M L i k + a := by omega
          simp (disch := omega) only [Try.ntmps84, Try.results84, go_sem, Nat.reduceLT, Nat.reduceLeDiff, Nat.reduceEqDiff, Nat.reduceAdd, Nat.reduceSub, Nat.reduceMul, reduceIte, ↓reduceIte, reduceCtorEq, Int.reduceToNat, Int.reduceLE, Int.reduceLT, Int.reduceNeg, Int.reduceSub, Int.reduceAdd, Int.reduceMul, rr_eq, rows_get, hri, g1]
          exact ⟨k + 1, by omega, by omega, Wk.of (by simp only [go_sem, ↓List.forall_mem_cons, List.not_mem_nil, false_implies, implies_true, and_true, true_and, and_self, Nat.reduceEqDiff, reduceIte, ↓reduceIte, ri_eq, Int.natCast_add, Int.cast_ofNat_Int, rr_eq, e, Int.add_zero, Int.sub_eq_add_neg]; try simp) rfl⟩
        · by_cases p2 : a < 0
          · have e : cc M L i + cr M L i (k + 1) = cc M L i + cr M L i k + 0 := by omega
            simp (disch := omega) only [Try.ntmps84, Try.results84, go_sem, Nat.reduceLT, Nat.reduceLeDiff, Nat.reduceEqDiff, Nat.reduceAdd, Nat.reduceSub, Nat.reduceMul, reduceIte, ↓reduceIte, reduceCtorEq, Int.reduceToNat, Int.reduceLE, Int.reduceLT, Int.reduceNeg, Int.reduceSub, Int.reduceAdd, Int.reduceMul, rr_eq, rows_get, hri, g1]
            exact ⟨k + 1, by omega, by omega, Wk.of (by simp only [go_sem, ↓List.forall_mem_cons, List.not_mem_nil, false_implies, implies_true, and_true, true_and, and_self, Nat.reduceEqDiff, reduceIte, ↓reduceIte, ri_eq, Int.natCast_add, Int.cast_ofNat_Int, rr_eq, e, Int.add_zero, Int.sub_eq_add_neg]; try simp) rfl⟩
          · have e : cc M L i + cr M L i (k + 1) = cc M L i + cr M L i k + 0 := by omega
            simp (disch := omega) only [Try.ntmps84, Try.results84, go_sem, Nat.reduceLT, Nat.reduceLeDiff, Nat.reduceEqDiff, Nat.reduceAdd, Nat.reduceSub, Nat.reduceMul, reduceIte, ↓reduceIte, reduceCtorEq, Int.reduceToNat, Int.reduceLE, Int.reduceLT, Int.reduceNeg, Int.reduceSub, Int.reduceAdd, Int.reduceMul, rr_eq, rows_get, hri, g1]
            exact ⟨k + 1, by omega, by omega, Wk.of (by simp only [go_sem, ↓List.forall_mem_cons, List.not_mem_nil, false_implies, implies_true, and_true, true_and, and_self, Nat.reduceEqDiff, reduceIte, ↓reduceIte, ri_eq, Int.natCast_add, Int.cast_ofNat_Int, rr_eq, e, Int.add_zero, Int.sub_eq_add_neg]; try simp) rfl⟩
    · obtain rfl : k = i := by omega
      have ec : cc M L (k + 1) = cc M L k + cr M L k k := rfl
      simp (disch := omega) only [Try.ntmps84, Try.results84, go_sem, Nat.reduceLT, Nat.reduceLeDiff, Nat.reduceEqDiff, Nat.reduceAdd, Nat.reduceSub, Nat.reduceMul, reduceIte, ↓reduceIte, reduceCtorEq, Int.reduceToNat, Int.reduceLE, Int.reduceLT, Int.reduceNeg, Int.reduceSub, Int.reduceAdd, Int.reduceMul, rr_eq]
      exact ⟨k + 1, by omega, by omega, Wk.of (by simp only [go_sem, ↓List.forall_mem_cons, List.not_mem_nil, false_implies, implies_true, and_true, true_and, and_self, Nat.reduceEqDiff, reduceIte, ↓reduceIte, ri_eq, Int.natCast_add, Int.cast_ofNat_Int, rr_eq, ec]; try simp) rfl⟩
  · obtain rfl : i = L.length := by omega
    simp (disch := omega) only [Try.ntmps84, Try.results84, go_sem, Nat.reduceLT, Nat.reduceLeDiff, Nat.reduceEqDiff, Nat.reduceAdd, Nat.reduceSub, Nat.reduceMul, reduceIte, ↓reduceIte, reduceCtorEq, Int.reduceToNat, Int.reduceLE, Int.reduceLT, Int.reduceNeg, Int.reduceSub, Int.reduceAdd, Int.reduceMul, rr_eq]
    exact Fin.val rfl

set_option maxHeartbeats 1000000 in
theorem Try.implPartitionCost_ok (M : List (List Int)) (L : List Int) (hM : M.length ≤ 1048576) (hR : ∀ i, i < M.length → (mrow M i).length ≤ 1048576) (hL : L.length ≤ 1048576) : PCall Try.prog 61 [rr M, ri L] (.val (.int .i64 (pcost M L))) := by
  refine FCall.pcall (R := fun r _ => r = .val (.int .i64 (pcost M L))) ?_ 0 (by rintro r H rfl; exact view_int)
  refine FCall.of_body Try.func61 rfl (by kernel_rfl) (by simp [Try.ntmps61]) ?_
  refine SW_of_vc Try.mixed _ _ _ (by kernel_rfl) ?_
  have w1 := Try.implIsWM_ok M hM hR
  have w2 := Try.implIsPartition_ok L hL
  rcases Bool.eq_false_or_eq_true (isWM M) with h1 | h1
  · rw [h1] at w1
    have hw := WM_of h1
    rcases Bool.eq_false_or_eq_true (isPart L) with h2 | h2
    · rw [h2] at w2
      by_cases h3 : L.length = M.length
      · have hp : pcost M L = cc M L L.length := if_pos ⟨h1, h2, h3⟩
        rw [hp]
        have w3 := Try.implCost_ok M L hw h3
        simp (disch := omega) only [Try.ntmps61, Try.results61, go_sem, Nat.reduceLT, Nat.reduceLeDiff, Nat.reduceEqDiff, Nat.reduceAdd, Nat.reduceSub, Nat.reduceMul, reduceIte, ↓reduceIte, reduceCtorEq, Int.reduceToNat, Int.reduceLE, Int.reduceLT, Int.reduceNeg, Int.reduceSub, Int.reduceAdd, Int.reduceMul, rr_eq]
        refine w1.callV 0 (viewL_cons_of (view_row) viewL_nil_of) ?_
        simp (disch := omega) only [Try.ntmps61, Try.results61, go_sem, Nat.reduceLT, Nat.reduceLeDiff, Nat.reduceEqDiff, Nat.reduceAdd, Nat.reduceSub, Nat.reduceMul, reduceIte, ↓reduceIte, reduceCtorEq, Int.reduceToNat, Int.reduceLE, Int.reduceLT, Int.reduceNeg, Int.reduceSub, Int.reduceAdd, Int.reduceMul, rr_eq]
        refine w2.callV 0 (viewL_cons_of (view_rowL (by first | rfl | simp [marks_length, canon_length] | omega)) viewL_nil_of) ?_
        simp (disch := omega) only [Try.ntmps61, Try.results61, go_sem, Nat.reduceLT, Nat.reduceLeDiff, Nat.reduceEqDiff, Nat.reduceAdd, Nat.reduceSub, Nat.reduceMul, reduceIte, ↓reduceIte, reduceCtorEq, Int.reduceToNat, Int.reduceLE, Int.reduceLT, Int.reduceNeg, Int.reduceSub, Int.reduceAdd, Int.reduceMul, rr_eq]
        refine w3.callV 0 (viewL_cons_of (view_row) (viewL_cons_of (view_rowL (by first | rfl | simp [marks_length, canon_length] | omega)) viewL_nil_of)) ?_
        simp (disch := omega) only [Try.ntmps61, Try.results61, go_sem, Nat.reduceLT, Nat.reduceLeDiff, Nat.reduceEqDiff, Nat.reduceAdd, Nat.reduceSub, Nat.reduceMul, reduceIte, ↓reduceIte, reduceCtorEq, Int.reduceToNat, Int.reduceLE, Int.reduceLT, Int.reduceNeg, Int.reduceSub, Int.reduceAdd, Int.reduceMul, rr_eq]
        exact Fin.val rfl
      · have hp : pcost M L = -1 := if_neg (fun h => h3 h.2.2)
        rw [hp]
        simp (disch := omega) only [Try.ntmps61, Try.results61, go_sem, Nat.reduceLT, Nat.reduceLeDiff, Nat.reduceEqDiff, Nat.reduceAdd, Nat.reduceSub, Nat.reduceMul, reduceIte, ↓reduceIte, reduceCtorEq, Int.reduceToNat, Int.reduceLE, Int.reduceLT, Int.reduceNeg, Int.reduceSub, Int.reduceAdd, Int.reduceMul, rr_eq]
        refine w1.callV 0 (viewL_cons_of (view_row) viewL_nil_of) ?_
        simp (disch := omega) only [Try.ntmps61, Try.results61, go_sem, Nat.reduceLT, Nat.reduceLeDiff, Nat.reduceEqDiff, Nat.reduceAdd, Nat.reduceSub, Nat.reduceMul, reduceIte, ↓reduceIte, reduceCtorEq, Int.reduceToNat, Int.reduceLE, Int.reduceLT, Int.reduceNeg, Int.reduceSub, Int.reduceAdd, Int.reduceMul, rr_eq]
        refine w2.callV 0 (viewL_cons_of (view_rowL (by first | rfl | simp [marks_length, canon_length] | omega)) viewL_nil_of) ?_
        simp (disch := omega) only [Try.ntmps61, Try.results61, go_sem, Nat.reduceLT, Nat.reduceLeDiff, Nat.reduceEqDiff, Nat.reduceAdd, Nat.reduceSub, Nat.reduceMul, reduceIte, ↓reduceIte, reduceCtorEq, Int.reduceToNat, Int.reduceLE, Int.reduceLT, Int.reduceNeg, Int.reduceSub, Int.reduceAdd, Int.reduceMul, rr_eq]
        exact Fin.val rfl
    · rw [h2] at w2
      have hp : pcost M L = -1 := if_neg (fun h => by rw [h2] at h; cases h.2.1)
      rw [hp]
      simp (disch := omega) only [Try.ntmps61, Try.results61, go_sem, Nat.reduceLT, Nat.reduceLeDiff, Nat.reduceEqDiff, Nat.reduceAdd, Nat.reduceSub, Nat.reduceMul, reduceIte, ↓reduceIte, reduceCtorEq, Int.reduceToNat, Int.reduceLE, Int.reduceLT, Int.reduceNeg, Int.reduceSub, Int.reduceAdd, Int.reduceMul, rr_eq]
      refine w1.callV 0 (viewL_cons_of (view_row) viewL_nil_of) ?_
      simp (disch := omega) only [Try.ntmps61, Try.results61, go_sem, Nat.reduceLT, Nat.reduceLeDiff, Nat.reduceEqDiff, Nat.reduceAdd, Nat.reduceSub, Nat.reduceMul, reduceIte, ↓reduceIte, reduceCtorEq, Int.reduceToNat, Int.reduceLE, Int.reduceLT, Int.reduceNeg, Int.reduceSub, Int.reduceAdd, Int.reduceMul, rr_eq]
      refine w2.callV 0 (viewL_cons_of (view_rowL (by first | rfl | simp [marks_length, canon_length] | omega)) viewL_nil_of) ?_
      simp (disch := omega) only [Try.ntmps61, Try.results61, go_sem, Nat.reduceLT, Nat.reduceLeDiff, Nat.reduceEqDiff, Nat.reduceAdd, Nat.reduceSub, Nat.reduceMul, reduceIte, ↓reduceIte, reduceCtorEq, Int.reduceToNat, Int.reduceLE, Int.reduceLT, Int.reduceNeg, Int.reduceSub, Int.reduceAdd, Int.reduceMul, rr_eq]
      exact Fin.val rfl
  · rw [h1] at w1
    have hp : pcost M L = -1 := if_neg (fun h => by rw [h1] at h; cases h.1)
    rw [hp]
    simp (disch := omega) only [Try.ntmps61, Try.results61, go_sem, Nat.reduceLT, Nat.reduceLeDiff, Nat.reduceEqDiff, Nat.reduceAdd, Nat.reduceSub, Nat.reduceMul, reduceIte, ↓reduceIte, reduceCtorEq, Int.reduceToNat, Int.reduceLE, Int.reduceLT, Int.reduceNeg, Int.reduceSub, Int.reduceAdd, Int.reduceMul, rr_eq]
    refine w1.callV 0 (viewL_cons_of (view_row) viewL_nil_of) ?_
    simp (disch := omega) only [Try.ntmps61, Try.results61, go_sem, Nat.reduceLT, Nat.reduceLeDiff, Nat.reduceEqDiff, Nat.reduceAdd, Nat.reduceSub, Nat.reduceMul, reduceIte, ↓reduceIte, reduceCtorEq, Int.reduceToNat, Int.reduceLE, Int.reduceLT, Int.reduceNeg, Int.reduceSub, Int.reduceAdd, Int.reduceMul, rr_eq]
    exact Fin.val rfl

set_option maxHeartbeats 1000000 in
theorem Try.specPartitionCost_ok (M : List (List Int)) (L : List Int) (hM : M.length ≤ 1048576) (hR : ∀ i, i < M.length → (mrow M i).length ≤ 1048576) (hL : L.length ≤ 1048576) : PCall Try.prog 58 [rr M, ri L] (.val (.int .i64 (pcost M L))) := by
  refine FCall.pcall (R := fun r _ => r = .val (.int .i64 (pcost M L))) ?_ 0 (by rintro r H rfl; exact view_int)
  refine FCall.of_body Try.func58 rfl (by kernel_rfl) (by simp [Try.ntmps58]) ?_
  refine SW_of_vc Try.mixed _ _ _ (by kernel_rfl) ?_
  have w1 := Try.specIsWM_ok M hM hR
  have w2 := Try.specIsPartition_ok L hL
  rcases Bool.eq_false_or_eq_true (isWM M) with h1 | h1
  · rw [h1] at w1
    have hw := WM_of h1
    rcases Bool.eq_false_or_eq_true (isPart L) with h2 | h2
    · rw [h2] at w2
      by_cases h3 : L.length = M.length
      · have hp : pcost M L = cc M L L.length := if_pos ⟨h1, h2, h3⟩
        rw [hp]
        have w3 := Try.specCost_ok M L hw h3
        simp (disch := omega) only [Try.ntmps58, Try.results58, go_sem, Nat.reduceLT, Nat.reduceLeDiff, Nat.reduceEqDiff, Nat.reduceAdd, Nat.reduceSub, Nat.reduceMul, reduceIte, ↓reduceIte, reduceCtorEq, Int.reduceToNat, Int.reduceLE, Int.reduceLT, Int.reduceNeg, Int.reduceSub, Int.reduceAdd, Int.reduceMul, rr_eq]
        refine w1.callV 0 (viewL_cons_of (view_row) viewL_nil_of) ?_
        simp (disch := omega) only [Try.ntmps58, Try.results58, go_sem, Nat.reduceLT, Nat.reduceLeDiff, Nat.reduceEqDiff, Nat.reduceAdd, Nat.reduceSub, Nat.reduceMul, reduceIte, ↓reduceIte, reduceCtorEq, Int.reduceToNat, Int.reduceLE, Int.reduceLT, Int.reduceNeg, Int.reduceSub, Int.reduceAdd, Int.reduceMul, rr_eq]
        refine w2.callV 0 (viewL_cons_of (view_rowL (by first | rfl | simp [marks_length, canon_length] | omega)) viewL_nil_of) ?_
        simp (disch := omega) only [Try.ntmps58, Try.results58, go_sem, Nat.reduceLT, Nat.reduceLeDiff, Nat.reduceEqDiff, Nat.reduceAdd, Nat.reduceSub, Nat.reduceMul, reduceIte, ↓reduceIte, reduceCtorEq, Int.reduceToNat, Int.reduceLE, Int.reduceLT, Int.reduceNeg, Int.reduceSub, Int.reduceAdd, Int.reduceMul, rr_eq]
        refine w3.callV 0 (viewL_cons_of (view_row) (viewL_cons_of (view_rowL (by first | rfl | simp [marks_length, canon_length] | omega)) viewL_nil_of)) ?_
        simp (disch := omega) only [Try.ntmps58, Try.results58, go_sem, Nat.reduceLT, Nat.reduceLeDiff, Nat.reduceEqDiff, Nat.reduceAdd, Nat.reduceSub, Nat.reduceMul, reduceIte, ↓reduceIte, reduceCtorEq, Int.reduceToNat, Int.reduceLE, Int.reduceLT, Int.reduceNeg, Int.reduceSub, Int.reduceAdd, Int.reduceMul, rr_eq]
        exact Fin.val rfl
      · have hp : pcost M L = -1 := if_neg (fun h => h3 h.2.2)
        rw [hp]
        simp (disch := omega) only [Try.ntmps58, Try.results58, go_sem, Nat.reduceLT, Nat.reduceLeDiff, Nat.reduceEqDiff, Nat.reduceAdd, Nat.reduceSub, Nat.reduceMul, reduceIte, ↓reduceIte, reduceCtorEq, Int.reduceToNat, Int.reduceLE, Int.reduceLT, Int.reduceNeg, Int.reduceSub, Int.reduceAdd, Int.reduceMul, rr_eq]
        refine w1.callV 0 (viewL_cons_of (view_row) viewL_nil_of) ?_
        simp (disch := omega) only [Try.ntmps58, Try.results58, go_sem, Nat.reduceLT, Nat.reduceLeDiff, Nat.reduceEqDiff, Nat.reduceAdd, Nat.reduceSub, Nat.reduceMul, reduceIte, ↓reduceIte, reduceCtorEq, Int.reduceToNat, Int.reduceLE, Int.reduceLT, Int.reduceNeg, Int.reduceSub, Int.reduceAdd, Int.reduceMul, rr_eq]
        refine w2.callV 0 (viewL_cons_of (view_rowL (by first | rfl | simp [marks_length, canon_length] | omega)) viewL_nil_of) ?_
        simp (disch := omega) only [Try.ntmps58, Try.results58, go_sem, Nat.reduceLT, Nat.reduceLeDiff, Nat.reduceEqDiff, Nat.reduceAdd, Nat.reduceSub, Nat.reduceMul, reduceIte, ↓reduceIte, reduceCtorEq, Int.reduceToNat, Int.reduceLE, Int.reduceLT, Int.reduceNeg, Int.reduceSub, Int.reduceAdd, Int.reduceMul, rr_eq]
        exact Fin.val rfl
    · rw [h2] at w2
      have hp : pcost M L = -1 := if_neg (fun h => by rw [h2] at h; cases h.2.1)
      rw [hp]
      simp (disch := omega) only [Try.ntmps58, Try.results58, go_sem, Nat.reduceLT, Nat.reduceLeDiff, Nat.reduceEqDiff, Nat.reduceAdd, Nat.reduceSub, Nat.reduceMul, reduceIte, ↓reduceIte, reduceCtorEq, Int.reduceToNat, Int.reduceLE, Int.reduceLT, Int.reduceNeg, Int.reduceSub, Int.reduceAdd, Int.reduceMul, rr_eq]
      refine w1.callV 0 (viewL_cons_of (view_row) viewL_nil_of) ?_
      simp (disch := omega) only [Try.ntmps58, Try.results58, go_sem, Nat.reduceLT, Nat.reduceLeDiff, Nat.reduceEqDiff, Nat.reduceAdd, Nat.reduceSub, Nat.reduceMul, reduceIte, ↓reduceIte, reduceCtorEq, Int.reduceToNat, Int.reduceLE, Int.reduceLT, Int.reduceNeg, Int.reduceSub, Int.reduceAdd, Int.reduceMul, rr_eq]
      refine w2.callV 0 (viewL_cons_of (view_rowL (by first | rfl | simp [marks_length, canon_length] | omega)) viewL_nil_of) ?_
      simp (disch := omega) only [Try.ntmps58, Try.results58, go_sem, Nat.reduceLT, Nat.reduceLeDiff, Nat.reduceEqDiff, Nat.reduceAdd, Nat.reduceSub, Nat.reduceMul, reduceIte, ↓reduceIte, reduceCtorEq, Int.reduceToNat, Int.reduceLE, Int.reduceLT, Int.reduceNeg, Int.reduceSub, Int.reduceAdd, Int.reduceMul, rr_eq]
      exact Fin.val rfl
  · rw [h1] at w1
    have hp : pcost M L = -1 := if_neg (fun h => by rw [h1] at h; cases h.1)
    rw [hp]
    simp (disch := omega) only [Try.ntmps58, Try.results58, go_sem, Nat.reduceLT, Nat.reduceLeDiff, Nat.reduceEqDiff, Nat.reduceAdd, Nat.reduceSub, Nat.reduceMul, reduceIte, ↓reduceIte, reduceCtorEq, Int.reduceToNat, Int.reduceLE, Int.reduceLT, Int.reduceNeg, Int.reduceSub, Int.reduceAdd, Int.reduceMul, rr_eq]
    refine w1.callV 0 (viewL_cons_of (view_row) viewL_nil_of) ?_
    simp (disch := omega) only [Try.ntmps58, Try.results58, go_sem, Nat.reduceLT, Nat.reduceLeDiff, Nat.reduceEqDiff, Nat.reduceAdd, Nat.reduceSub, Nat.reduceMul, reduceIte, ↓reduceIte, reduceCtorEq, Int.reduceToNat, Int.reduceLE, Int.reduceLT, Int.reduceNeg, Int.reduceSub, Int.reduceAdd, Int.reduceMul, rr_eq]
    exact Fin.val rfl

end Go.Sh
