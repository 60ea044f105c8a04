/-
  Contracts: is it a weight matrix? Of the reference and of the program.
-/
import Derived.Test.YtehimkdkflnkbaaK1
namespace Go.Sh
set_option linter.unusedSimpArgs false
set_option linter.unusedVariables false
open Go Go.Proofs

def WM (M : List (List Int)) : Prop := (1 ≤ M.length ∧ M.length ≤ 8) ∧ (∀ i, i < M.length → (mrow M i).length = M.length) ∧ (∀ i k, i < M.length → k < M.length → (-1000 ≤ mat M i k ∧ mat M i k ≤ 1000) ∧ mat M i k = mat M k i) ∧ ∀ i, i < M.length → mat M i i = 0
open Classical in
noncomputable def isWM (M : List (List Int)) : Bool := decide (WM M)
open Classical in
theorem isWM_f {M : List (List Int)} (h : ¬ WM M) : isWM M = false := decide_eq_false h
open Classical in
theorem isWM_t {M : List (List Int)} (h : WM M) : isWM M = true := decide_eq_true h

open Classical in
theorem WM_of {M : List (List Int)} (h : isWM M = true) : WM M := by
  unfold isWM at h
  exact of_decide_eq_true h
theorem inR_not {x a b : Int} (h : inR x a b = false) : ¬ (a ≤ x ∧ x ≤ b) := by
  rintro ⟨h1, h2⟩
  rw [inR_tt h1 h2] at h
  cases h
theorem ints_get' {L : List Int} {k n : Nat} (hl : L.length = n) (h : k < n) : (ints L)[k]? = some (.val (.int .i64 (L.getD k 0))) := ints_get (by omega)

set_option maxHeartbeats 4000000 in
theorem Try.specIsWM_ok (M : List (List Int)) (hM : M.length ≤ 1048576) (hR : ∀ i, i < M.length → (mrow M i).length ≤ 1048576) : PCall Try.prog 64 [rr M] (.val (.bool (isWM M))) := by
  refine FCall.pcall (R := fun r _ => r = .val (.bool (isWM M))) ?_ 0 (by rintro r H rfl; exact view_bool)
  refine FCall.of_body Try.func64 rfl (by kernel_rfl) (by simp [Try.ntmps64]) ?_
  refine SW_of_vc Try.mixed _ _ _ (by kernel_rfl) ?_
  simp (disch := omega) only [Try.ntmps64, Try.results64, go_sem, Nat.reduceLT, Nat.reduceLeDiff, Nat.reduceEqDiff, Nat.reduceAdd, Nat.reduceSub, Nat.reduceMul, reduceIte, ↓reduceIte, reduceCtorEq, Int.reduceToNat, Int.reduceLE, Int.reduceLT, Int.reduceNeg, Int.reduceSub, Int.reduceAdd, Int.reduceMul, rr_eq]
  refine LoopW.loop (fun i : Nat => ⟨ofL [(0, rr M), (3, .val (.int .i64 i))], hp [] 0⟩) (fun i => i ≤ M.length ∧ ∀ x, x < i → (mrow M x).length = M.length) (fun i => M.length - i) 0 ⟨by omega, by intro x h; omega⟩ (Wk.of (by simp only [go_sem, ↓List.forall_mem_cons, List.not_mem_nil, false_implies, implies_true, and_true, true_and, and_self, Nat.reduceEqDiff, reduceIte, ↓reduceIte, ri_eq, Int.natCast_add, Int.cast_ofNat_Int, rr_eq]; try simp) rfl) ?_
  rintro i ⟨hi, hii⟩
  refine SW_of_vc Try.mixed _ _ _ (by kernel_rfl) ?_
  by_cases hlt : i < M.length
  · by_cases hr : (mrow M i).length = M.length
    · simp (disch := omega) only [Try.ntmps64, Try.results64, go_sem, Nat.reduceLT, Nat.reduceLeDiff, Nat.reduceEqDiff, Nat.reduceAdd, Nat.reduceSub, Nat.reduceMul, reduceIte, ↓reduceIte, reduceCtorEq, Int.reduceToNat, Int.reduceLE, Int.reduceLT, Int.reduceNeg, Int.reduceSub, Int.reduceAdd, Int.reduceMul, rr_eq, rows_get, hr]
      refine ⟨i + 1, ⟨by omega, fun x hx => ?_⟩, by omega, Wk.of (by simp only [go_sem, ↓List.forall_mem_cons, List.not_mem_nil, false_implies, implies_true, and_true, true_and, and_self, Nat.reduceEqDiff, reduceIte, ↓reduceIte, ri_eq, Int.natCast_add, Int.cast_ofNat_Int, rr_eq]; try simp) rfl⟩
      rcases Nat.lt_succ_iff_lt_or_eq.mp hx with h | rfl
      · exact hii x h
      · exact hr
    · have hri := hR i hlt
      simp (disch := omega) only [Try.ntmps64, Try.results64, go_sem, Nat.reduceLT, Nat.reduceLeDiff, Nat.reduceEqDiff, Nat.reduceAdd, Nat.reduceSub, Nat.reduceMul, reduceIte, ↓reduceIte, reduceCtorEq, Int.reduceToNat, Int.reduceLE, Int.reduceLT, Int.reduceNeg, Int.reduceSub, Int.reduceAdd, Int.reduceMul, rr_eq, rows_get]
      exact Fin.val (by rw [isWM_f (fun h => hr (h.2.1 i hlt))])
  · obtain rfl : i = M.length := by omega
    simp (disch := omega) only [Try.ntmps64, Try.results64, go_sem, Nat.reduceLT, Nat.reduceLeDiff, Nat.reduceEqDiff, Nat.reduceAdd, Nat.reduceSub, Nat.reduceMul, reduceIte, ↓reduceIte, reduceCtorEq, Int.reduceToNat, Int.reduceLE, Int.reduceLT, Int.reduceNeg, Int.reduceSub, Int.reduceAdd, Int.reduceMul, rr_eq]
    refine LoopW.loop (fun i : Nat => ⟨ofL [(0, rr M), (4, .val (.int .i64 i))], hp [] 0⟩) (fun i => i ≤ M.length ∧ ∀ x k, x < i → k < M.length → (-1000 ≤ mat M x k ∧ mat M x k ≤ 1000) ∧ mat M x k = mat M k x ∧ (x = k → mat M x k = 0)) (fun i => M.length - i) 0 ⟨by omega, by intro x k h; omega⟩ (Wk.of (by simp only [go_sem, ↓List.forall_mem_cons, List.not_mem_nil, false_implies, implies_true, and_true, true_and, and_self, Nat.reduceEqDiff, reduceIte, ↓reduceIte, ri_eq, Int.natCast_add, Int.cast_ofNat_Int, rr_eq]; try simp) rfl) ?_
    rintro i ⟨hi1, hi2⟩
    refine SW_of_vc Try.mixed _ _ _ (by kernel_rfl) ?_
    by_cases hlt1 : i < M.length
    · simp (disch := omega) only [Try.ntmps64, Try.results64, go_sem, Nat.reduceLT, Nat.reduceLeDiff, Nat.reduceEqDiff, Nat.reduceAdd, Nat.reduceSub, Nat.reduceMul, reduceIte, ↓reduceIte, reduceCtorEq, Int.reduceToNat, Int.reduceLE, Int.reduceLT, Int.reduceNeg, Int.reduceSub, Int.reduceAdd, Int.reduceMul, rr_eq]
      refine LoopW.loop (fun k : Nat => ⟨ofL [(0, rr M), (4, .val (.int .i64 i)), (5, .val (.int .i64 k))], hp [] 0⟩) (fun k => k ≤ M.length ∧ ∀ y, y < k → (-1000 ≤ mat M i y ∧ mat M i y ≤ 1000) ∧ mat M i y = mat M y i ∧ (i = y → mat M i y = 0)) (fun k => M.length - k) 0 ⟨by omega, by intro y h; omega⟩ (Wk.of (by simp only [go_sem, ↓List.forall_mem_cons, List.not_mem_nil, false_implies, implies_true, and_true, true_and, and_self, Nat.reduceEqDiff, reduceIte, ↓reduceIte, ri_eq, Int.natCast_add, Int.cast_ofNat_Int, rr_eq]; try simp) rfl) ?_
      rintro k ⟨hk1, hk2⟩
      refine SW_of_vc Try.mixed _ _ _ (by kernel_rfl) ?_
      by_cases hlt2 : k < M.length
      · have hri := hii i hlt1
        have hrk := hii k hlt2
        have g1 : (ints (mrow M i))[k]? = some (.val (.int .i64 (mat M i k))) := ints_get' hri hlt2
        have g2 : (ints (mrow M k))[i]? = some (.val (.int .i64 (mat M k i))) := ints_get' hrk hlt1
        obtain ⟨a, ha⟩ : ∃ a, mat M i k = a := ⟨_, rfl⟩
        obtain ⟨b, hb⟩ : ∃ b, mat M k i = b := ⟨_, rfl⟩
        rw [ha] at g1
        rw [hb] at g2
        have w := Try.l1In_ok a (-1000) 1000
        rcases Bool.eq_false_or_eq_true (inR a (-1000) 1000) with h1 | h1
        · obtain ⟨r1, r2⟩ := inR_of h1
          rw [h1] at w
          by_cases h2 : a = b
          · by_cases h3 : i = k
            · by_cases h4 : a = 0
              · simp (disch := omega) only [Try.ntmps64, Try.results64, go_sem, Nat.reduceLT, Nat.reduceLeDiff, Nat.reduceEqDiff, Nat.reduceAdd, Nat.reduceSub, Nat.reduceMul, reduceIte, ↓reduceIte, reduceCtorEq, Int.reduceToNat, Int.reduceLE, Int.reduceLT, Int.reduceNeg, Int.reduceSub, Int.reduceAdd, Int.reduceMul, rr_eq, rows_get, hri, hrk, g1, g2]
                refine w.callDV 0 (viewL_cons_of (view_int) (viewL_cons_of (view_int) (viewL_cons_of (view_int) viewL_nil_of))) ?_
                simp (disch := omega) only [Try.ntmps64, Try.results64, go_sem, Nat.reduceLT, Nat.reduceLeDiff, Nat.reduceEqDiff, Nat.reduceAdd, Nat.reduceSub, Nat.reduceMul, reduceIte, ↓reduceIte, reduceCtorEq, Int.reduceToNat, Int.reduceLE, Int.reduceLT, Int.reduceNeg, Int.reduceSub, Int.reduceAdd, Int.reduceMul, rr_eq, rows_get, hri, hrk, g1, g2]
                refine ⟨k + 1, ⟨by omega, fun y hy => ?_⟩, by omega, Wk.of (by simp only [go_sem, ↓List.forall_mem_cons, List.not_mem_nil, false_implies, implies_true, and_true, true_and, and_self, Nat.reduceEqDiff, reduceIte, ↓reduceIte, ri_eq, Int.natCast_add, Int.cast_ofNat_Int, rr_eq]; try simp) rfl⟩
                rcases Nat.lt_succ_iff_lt_or_eq.mp hy with h | rfl
                · exact hk2 y h
                · rw [ha, hb]; exact ⟨⟨r1, r2⟩, h2, fun _ => h4⟩
              · simp (disch := omega) only [Try.ntmps64, Try.results64, go_sem, Nat.reduceLT, Nat.reduceLeDiff, Nat.reduceEqDiff, Nat.reduceAdd, Nat.reduceSub, Nat.reduceMul, reduceIte, ↓reduceIte, reduceCtorEq, Int.reduceToNat, Int.reduceLE, Int.reduceLT, Int.reduceNeg, Int.reduceSub, Int.reduceAdd, Int.reduceMul, rr_eq, rows_get, hri, hrk, g1, g2]
                refine w.callDV 0 (viewL_cons_of (view_int) (viewL_cons_of (view_int) (viewL_cons_of (view_int) viewL_nil_of))) ?_
                simp (disch := omega) only [Try.ntmps64, Try.results64, go_sem, Nat.reduceLT, Nat.reduceLeDiff, Nat.reduceEqDiff, Nat.reduceAdd, Nat.reduceSub, Nat.reduceMul, reduceIte, ↓reduceIte, reduceCtorEq, Int.reduceToNat, Int.reduceLE, Int.reduceLT, Int.reduceNeg, Int.reduceSub, Int.reduceAdd, Int.reduceMul, rr_eq, rows_get, hri, hrk, g1, g2]
                exact Fin.val (by rw [isWM_f (fun h => h4 (by have := h.2.2.2 i hlt1; rw [← ha, ← h3]; exact this))])
            · simp (disch := omega) only [Try.ntmps64, Try.results64, go_sem, Nat.reduceLT, Nat.reduceLeDiff, Nat.reduceEqDiff, Nat.reduceAdd, Nat.reduceSub, Nat.reduceMul, reduceIte, ↓reduceIte, reduceCtorEq, Int.reduceToNat, Int.reduceLE, Int.reduceLT, Int.reduceNeg, Int.reduceSub, Int.reduceAdd, Int.reduceMul, rr_eq, rows_get, hri, hrk, g1, g2]
              refine w.callDV 0 (viewL_cons_of (view_int) (viewL_cons_of (view_int) (viewL_cons_of (view_int) viewL_nil_of))) ?_
              simp (disch := omega) only [Try.ntmps64, Try.results64, go_sem, Nat.reduceLT, Nat.reduceLeDiff, Nat.reduceEqDiff, Nat.reduceAdd, Nat.reduceSub, Nat.reduceMul, reduceIte, ↓reduceIte, reduceCtorEq, Int.reduceToNat, Int.reduceLE, Int.reduceLT, Int.reduceNeg, Int.reduceSub, Int.reduceAdd, Int.reduceMul, rr_eq, rows_get, hri, hrk, g1, g2]
              refine ⟨k + 1, ⟨by omega, fun y hy => ?_⟩, by omega, Wk.of (by simp only [go_sem, ↓List.forall_mem_cons, List.not_mem_nil, false_implies, implies_true, and_true, true_and, and_self, Nat.reduceEqDiff, reduceIte, ↓reduceIte, ri_eq, Int.natCast_add, Int.cast_ofNat_Int, rr_eq]; try simp) rfl⟩
              rcases Nat.lt_succ_iff_lt_or_eq.mp hy with h | rfl
              · exact hk2 y h
              · rw [ha, hb]; exact ⟨⟨r1, r2⟩, h2, fun e => absurd e h3⟩
          · simp (disch := omega) only [Try.ntmps64, Try.results64, go_sem, Nat.reduceLT, Nat.reduceLeDiff, Nat.reduceEqDiff, Nat.reduceAdd, Nat.reduceSub, Nat.reduceMul, reduceIte, ↓reduceIte, reduceCtorEq, Int.reduceToNat, Int.reduceLE, Int.reduceLT, Int.reduceNeg, Int.reduceSub, Int.reduceAdd, Int.reduceMul, rr_eq, rows_get, hri, hrk, g1, g2]
            refine w.callDV 0 (viewL_cons_of (view_int) (viewL_cons_of (view_int) (viewL_cons_of (view_int) viewL_nil_of))) ?_
            simp (disch := omega) only [Try.ntmps64, Try.results64, go_sem, Nat.reduceLT, Nat.reduceLeDiff, Nat.reduceEqDiff, Nat.reduceAdd, Nat.reduceSub, Nat.reduceMul, reduceIte, ↓reduceIte, reduceCtorEq, Int.reduceToNat, Int.reduceLE, Int.reduceLT, Int.reduceNeg, Int.reduceSub, Int.reduceAdd, Int.reduceMul, rr_eq, rows_get, hri, hrk, g1, g2]
            exact Fin.val (by rw [isWM_f (fun h => h2 (by have := (h.2.2.1 i k hlt1 hlt2).2; rw [ha, hb] at this; exact this))])
        · rw [h1] at w
          simp (disch := omega) only [Try.ntmps64, Try.results64, go_sem, Nat.reduceLT, Nat.reduceLeDiff, Nat.reduceEqDiff, Nat.reduceAdd, Nat.reduceSub, Nat.reduceMul, reduceIte, ↓reduceIte, reduceCtorEq, Int.reduceToNat, Int.reduceLE, Int.reduceLT, Int.reduceNeg, Int.reduceSub, Int.reduceAdd, Int.reduceMul, rr_eq, rows_get, hri, hrk, g1, g2]
          refine w.callDV 0 (viewL_cons_of (view_int) (viewL_cons_of (view_int) (viewL_cons_of (view_int) viewL_nil_of))) ?_
          simp (disch := omega) only [Try.ntmps64, Try.results64, go_sem, Nat.reduceLT, Nat.reduceLeDiff, Nat.reduceEqDiff, Nat.reduceAdd, Nat.reduceSub, Nat.reduceMul, reduceIte, ↓reduceIte, reduceCtorEq, Int.reduceToNat, Int.reduceLE, Int.reduceLT, Int.reduceNeg, Int.reduceSub, Int.reduceAdd, Int.reduceMul, rr_eq]
          exact Fin.val (by rw [isWM_f (fun h => inR_not h1 (by have := (h.2.2.1 i k hlt1 hlt2).1; rw [ha] at this; exact this))])
      · obtain rfl : k = M.length := by omega
        simp (disch := omega) only [Try.ntmps64, Try.results64, go_sem, Nat.reduceLT, Nat.reduceLeDiff, Nat.reduceEqDiff, Nat.reduceAdd, Nat.reduceSub, Nat.reduceMul, reduceIte, ↓reduceIte, reduceCtorEq, Int.reduceToNat, Int.reduceLE, Int.reduceLT, Int.reduceNeg, Int.reduceSub, Int.reduceAdd, Int.reduceMul, rr_eq]
        refine ⟨i + 1, ⟨by omega, fun x y hx hy => ?_⟩, by omega, Wk.of (by simp only [go_sem, ↓List.forall_mem_cons, List.not_mem_nil, false_implies, implies_true, and_true, true_and, and_self, Nat.reduceEqDiff, reduceIte, ↓reduceIte, ri_eq, Int.natCast_add, Int.cast_ofNat_Int, rr_eq]; try simp) rfl⟩
        rcases Nat.lt_succ_iff_lt_or_eq.mp hx with h | rfl
        · exact hi2 x y h hy
        · exact hk2 y hy
    · obtain rfl : i = M.length := by omega
      have w := Try.l1In_ok (M.length : Int) 1 8
      rcases Bool.eq_false_or_eq_true (inR (M.length : Int) 1 8) with h1 | h1
      · obtain ⟨r1, r2⟩ := inR_of h1
        rw [h1] at w
        simp (disch := omega) only [Try.ntmps64, Try.results64, go_sem, Nat.reduceLT, Nat.reduceLeDiff, Nat.reduceEqDiff, Nat.reduceAdd, Nat.reduceSub, Nat.reduceMul, reduceIte, ↓reduceIte, reduceCtorEq, Int.reduceToNat, Int.reduceLE, Int.reduceLT, Int.reduceNeg, Int.reduceSub, Int.reduceAdd, Int.reduceMul, rr_eq]
        refine w.callV 0 (viewL_cons_of (view_int) (viewL_cons_of (view_int) (viewL_cons_of (view_int) viewL_nil_of))) ?_
        simp (disch := omega) only [Try.ntmps64, Try.results64, go_sem, Nat.reduceLT, Nat.reduceLeDiff, Nat.reduceEqDiff, Nat.reduceAdd, Nat.reduceSub, Nat.reduceMul, reduceIte, ↓reduceIte, reduceCtorEq, Int.reduceToNat, Int.reduceLE, Int.reduceLT, Int.reduceNeg, Int.reduceSub, Int.reduceAdd, Int.reduceMul, rr_eq]
        exact Fin.val (by rw [isWM_t ⟨⟨by omega, by omega⟩, hii, fun x y hx hy => ⟨(hi2 x y hx hy).1, (hi2 x y hx hy).2.1⟩, fun x hx => (hi2 x x hx hx).2.2 rfl⟩])
      · rw [h1] at w
        simp (disch := omega) only [Try.ntmps64, Try.results64, go_sem, Nat.reduceLT, Nat.reduceLeDiff, Nat.reduceEqDiff, Nat.reduceAdd, Nat.reduceSub, Nat.reduceMul, reduceIte, ↓reduceIte, reduceCtorEq, Int.reduceToNat, Int.reduceLE, Int.reduceLT, Int.reduceNeg, Int.reduceSub, Int.reduceAdd, Int.reduceMul, rr_eq]
        refine w.callV 0 (viewL_cons_of (view_int) (viewL_cons_of (view_int) (viewL_cons_of (view_int) viewL_nil_of))) ?_
        simp (disch := omega) only [Try.ntmps64, Try.results64, go_sem, Nat.reduceLT, Nat.reduceLeDiff, Nat.reduceEqDiff, Nat.reduceAdd, Nat.reduceSub, Nat.reduceMul, reduceIte, ↓reduceIte, reduceCtorEq, Int.reduceToNat, Int.reduceLE, Int.reduceLT, Int.reduceNeg, Int.reduceSub, Int.reduceAdd, Int.reduceMul, rr_eq]
        exact Fin.val (by rw [isWM_f (fun h => inR_not h1 (by have := h.1; omega))])

set_option maxHeartbeats 4000000 in
theorem Try.implIsWM_ok (M : List (List Int)) (hM : M.length ≤ 1048576) (hR : ∀ i, i < M.length → (mrow M i).length ≤ 1048576) : PCall Try.prog 70 [rr M] (.val (.bool (isWM M))) := by
  refine FCall.pcall (R := fun r _ => r = .val (.bool (isWM M))) ?_ 0 (by rintro r H rfl; exact view_bool)
  refine FCall.of_body Try.func70 rfl (by kernel_rfl) (by simp [Try.ntmps70]) ?_
  refine SW_of_vc Try.mixed _ _ _ (by kernel_rfl) ?_
  have w := Try.within_ok (M.length : Int) 1 8
  rcases Bool.eq_false_or_eq_true (inR (M.length : Int) 1 8) with hn | hn
  · obtain ⟨n1, n2⟩ := inR_of hn
    rw [hn] at w
    simp (disch := omega) only [Try.ntmps70, Try.results70, go_sem, Nat.reduceLT, Nat.reduceLeDiff, Nat.reduceEqDiff, Nat.reduceAdd, Nat.reduceSub, Nat.reduceMul, reduceIte, ↓reduceIte, reduceCtorEq, Int.reduceToNat, Int.reduceLE, Int.reduceLT, Int.reduceNeg, Int.reduceSub, Int.reduceAdd, Int.reduceMul, rr_eq]
    refine w.callV 0 (viewL_cons_of (view_int) (viewL_cons_of (view_int) (viewL_cons_of (view_int) viewL_nil_of))) ?_
    simp (disch := omega) only [Try.ntmps70, Try.results70, go_sem, Nat.reduceLT, Nat.reduceLeDiff, Nat.reduceEqDiff, Nat.reduceAdd, Nat.reduceSub, Nat.reduceMul, reduceIte, ↓reduceIte, reduceCtorEq, Int.reduceToNat, Int.reduceLE, Int.reduceLT, Int.reduceNeg, Int.reduceSub, Int.reduceAdd, Int.reduceMul, rr_eq]
    refine LoopW.loop (fun i : Nat => ⟨ofL [(0, rr M), (11, rr M), (12, .val (.int .i64 M.length)), (13, .val (.int .i64 i))], hp [] 0⟩) (fun i => i ≤ M.length ∧ ∀ x, x < i → (mrow M x).length = M.length ∧ mat M x x = 0 ∧ ∀ y, y < x → (-1000 ≤ mat M x y ∧ mat M x y ≤ 1000) ∧ mat M y x = mat M x y) (fun i => M.length - i) 0 ⟨by omega, by intro x h; omega⟩ (Wk.of (by simp only [go_sem, ↓List.forall_mem_cons, List.not_mem_nil, false_implies, implies_true, and_true, true_and, and_self, Nat.reduceEqDiff, reduceIte, ↓reduceIte, ri_eq, Int.natCast_add, Int.cast_ofNat_Int, rr_eq]; try simp) rfl) ?_
    rintro i ⟨hi, hii⟩
    refine SW_of_vc Try.mixed _ _ _ (by kernel_rfl) ?_
    by_cases hlt : i < M.length
    · have hrm := hR i hlt
      by_cases hr : (mrow M i).length = M.length
      · have g0 : (ints (mrow M i))[i]? = some (.val (.int .i64 (mat M i i))) := ints_get' hr hlt
        by_cases hd : mat M i i = 0
        · rw [hd] at g0
          simp (disch := omega) only [Try.ntmps70, Try.results70, go_sem, Nat.reduceLT, Nat.reduceLeDiff, Nat.reduceEqDiff, Nat.reduceAdd, Nat.reduceSub, Nat.reduceMul, reduceIte, ↓reduceIte, reduceCtorEq, Int.reduceToNat, Int.reduceLE, Int.reduceLT, Int.reduceNeg, Int.reduceSub, Int.reduceAdd, Int.reduceMul, rr_eq, rows_get, hr, g0]
          have hlt' : ((mrow M i).take i).length = i := by simp; omega
          refine LoopW.loop (fun k : Nat => ⟨ofL [(0, rr M), (3, .val (.int .i64 i)), (11, rr M), (12, .val (.int .i64 M.length)), (13, .val (.int .i64 i)), (32, .row i false ((ints (mrow M i)).take i)), (33, .val (.int .i64 i)), (34, .val (.int .i64 k))], hp [] 0⟩)
            (fun k => k ≤ i ∧ ∀ y, y < k → (-1000 ≤ mat M i y ∧ mat M i y ≤ 1000) ∧ mat M y i = mat M i y) (fun k => i - k) 0 ⟨by omega, by intro y h; omega⟩ (Wk.of (by simp only [go_sem, ↓List.forall_mem_cons, List.not_mem_nil, false_implies, implies_true, and_true, true_and, and_self, Nat.reduceEqDiff, reduceIte, ↓reduceIte, ri_eq, Int.natCast_add, Int.cast_ofNat_Int, rr_eq]; try simp) rfl) ?_
          rintro k ⟨hk, hkk⟩
          refine SW_of_vc Try.mixed _ _ _ (by kernel_rfl) ?_
          by_cases hki : k < i
          · have hrk := (hii k hki).1
            have g1 : ((ints (mrow M i)).take i)[k]? = some (.val (.int .i64 (mat M i k))) := by
              rw [List.getElem?_take, if_pos hki]; exact ints_get' hr (by omega)
            have g2 : (ints (mrow M k))[i]? = some (.val (.int .i64 (mat M k i))) := ints_get' hrk hlt
            obtain ⟨a, ha⟩ : ∃ a, mat M i k = a := ⟨_, rfl⟩
            obtain ⟨b, hb⟩ : ∃ b, mat M k i = b := ⟨_, rfl⟩
            rw [ha] at g1
            rw [hb] at g2
            have w2 := Try.within_ok a (-1000) 1000
            rcases Bool.eq_false_or_eq_true (inR a (-1000) 1000) with h1 | h1
            · obtain ⟨r1, r2⟩ := inR_of h1
              rw [h1] at w2
              by_cases h2 : b = a
              · simp (disch := omega) only [Try.ntmps70, Try.results70, go_sem, Nat.reduceLT, Nat.reduceLeDiff, Nat.reduceEqDiff, Nat.reduceAdd, Nat.reduceSub, Nat.reduceMul, reduceIte, ↓reduceIte, reduceCtorEq, Int.reduceToNat, Int.reduceLE, Int.reduceLT, Int.reduceNeg, Int.reduceSub, Int.reduceAdd, Int.reduceMul, rr_eq, rows_get, hrk, g1, g2]
                refine w2.callV 0 (viewL_cons_of (view_int) (viewL_cons_of (view_int) (viewL_cons_of (view_int) viewL_nil_of))) ?_
                simp (disch := omega) only [Try.ntmps70, Try.results70, go_sem, Nat.reduceLT, Nat.reduceLeDiff, Nat.reduceEqDiff, Nat.reduceAdd, Nat.reduceSub, Nat.reduceMul, reduceIte, ↓reduceIte, reduceCtorEq, Int.reduceToNat, Int.reduceLE, Int.reduceLT, Int.reduceNeg, Int.reduceSub, Int.reduceAdd, Int.reduceMul, rr_eq, rows_get, hrk, g1, g2]
                refine ⟨k + 1, ⟨by omega, fun y hy => ?_⟩, by omega, Wk.of (by simp only [go_sem, ↓List.forall_mem_cons, List.not_mem_nil, false_implies, implies_true, and_true, true_and, and_self, Nat.reduceEqDiff, reduceIte, ↓reduceIte, ri_eq, Int.natCast_add, Int.cast_ofNat_Int, rr_eq]; try simp) rfl⟩
                rcases Nat.lt_succ_iff_lt_or_eq.mp hy with h | rfl
                · exact hkk y h
                · rw [ha, hb]; exact ⟨⟨r1, r2⟩, h2⟩
              · simp (disch := omega) only [Try.ntmps70, Try.results70, go_sem, Nat.reduceLT, Nat.reduceLeDiff, Nat.reduceEqDiff, Nat.reduceAdd, Nat.reduceSub, Nat.reduceMul, reduceIte, ↓reduceIte, reduceCtorEq, Int.reduceToNat, Int.reduceLE, Int.reduceLT, Int.reduceNeg, Int.reduceSub, Int.reduceAdd, Int.reduceMul, rr_eq, rows_get, hrk, g1, g2]
                refine w2.callV 0 (viewL_cons_of (view_int) (viewL_cons_of (view_int) (viewL_cons_of (view_int) viewL_nil_of))) ?_
                simp (disch := omega) only [Try.ntmps70, Try.results70, go_sem, Nat.reduceLT, Nat.reduceLeDiff, Nat.reduceEqDiff, Nat.reduceAdd, Nat.reduceSub, Nat.reduceMul, reduceIte, ↓reduceIte, reduceCtorEq, Int.reduceToNat, Int.reduceLE, Int.reduceLT, Int.reduceNeg, Int.reduceSub, Int.reduceAdd, Int.reduceMul, rr_eq, rows_get, hrk, g1, g2]
                exact Fin.val (by rw [isWM_f (fun h => h2 (by have := (h.2.2.1 k i (by omega) hlt).2; rw [ha, hb] at this; exact this))])
            · rw [h1] at w2
              simp (disch := omega) only [Try.ntmps70, Try.results70, go_sem, Nat.reduceLT, Nat.reduceLeDiff, Nat.reduceEqDiff, Nat.reduceAdd, Nat.reduceSub, Nat.reduceMul, reduceIte, ↓reduceIte, reduceCtorEq, Int.reduceToNat, Int.reduceLE, Int.reduceLT, Int.reduceNeg, Int.reduceSub, Int.reduceAdd, Int.reduceMul, rr_eq, rows_get, hrk, g1, g2]
              refine w2.callV 0 (viewL_cons_of (view_int) (viewL_cons_of (view_int) (viewL_cons_of (view_int) viewL_nil_of))) ?_
              simp (disch := omega) only [Try.ntmps70, Try.results70, go_sem, Nat.reduceLT, Nat.reduceLeDiff, Nat.reduceEqDiff, Nat.reduceAdd, Nat.reduceSub, Nat.reduceMul, reduceIte, ↓reduceIte, reduceCtorEq, Int.reduceToNat, Int.reduceLE, Int.reduceLT, Int.reduceNeg, Int.reduceSub, Int.reduceAdd, Int.reduceMul, rr_eq]
              exact Fin.val (by rw [isWM_f (fun h => inR_not h1 (by have := (h.2.2.1 i k hlt (by omega)).1; rw [ha] at this; exact this))])
          · obtain rfl : k = i := by omega
            simp (disch := omega) only [Try.ntmps70, Try.results70, go_sem, Nat.reduceLT, Nat.reduceLeDiff, Nat.reduceEqDiff, Nat.reduceAdd, Nat.reduceSub, Nat.reduceMul, reduceIte, ↓reduceIte, reduceCtorEq, Int.reduceToNat, Int.reduceLE, Int.reduceLT, Int.reduceNeg, Int.reduceSub, Int.reduceAdd, Int.reduceMul, rr_eq]
            refine ⟨k + 1, ⟨by omega, fun x hx => ?_⟩, by omega, Wk.of (by simp only [go_sem, ↓List.forall_mem_cons, List.not_mem_nil, false_implies, implies_true, and_true, true_and, and_self, Nat.reduceEqDiff, reduceIte, ↓reduceIte, ri_eq, Int.natCast_add, Int.cast_ofNat_Int, rr_eq]; try simp) rfl⟩
            rcases Nat.lt_succ_iff_lt_or_eq.mp hx with h | rfl
            · exact hii x h
            · exact ⟨hr, hd, hkk⟩
        · obtain ⟨d, hd'⟩ : ∃ d, mat M i i = d := ⟨_, rfl⟩
          rw [hd'] at g0 hd
          simp (disch := omega) only [Try.ntmps70, Try.results70, go_sem, Nat.reduceLT, Nat.reduceLeDiff, Nat.reduceEqDiff, Nat.reduceAdd, Nat.reduceSub, Nat.reduceMul, reduceIte, ↓reduceIte, reduceCtorEq, Int.reduceToNat, Int.reduceLE, Int.reduceLT, Int.reduceNeg, Int.reduceSub, Int.reduceAdd, Int.reduceMul, rr_eq, rows_get, hr, g0]
          exact Fin.val (by rw [isWM_f (fun h => hd (by rw [← hd']; exact h.2.2.2 i hlt))])
      · simp (disch := omega) only [Try.ntmps70, Try.results70, go_sem, Nat.reduceLT, Nat.reduceLeDiff, Nat.reduceEqDiff, Nat.reduceAdd, Nat.reduceSub, Nat.reduceMul, reduceIte, ↓reduceIte, reduceCtorEq, Int.reduceToNat, Int.reduceLE, Int.reduceLT, Int.reduceNeg, Int.reduceSub, Int.reduceAdd, Int.reduceMul, rr_eq, rows_get]
        exact Fin.val (by rw [isWM_f (fun h => hr (h.2.1 i hlt))])
    · obtain rfl : i = M.length := by omega
      simp (disch := omega) only [Try.ntmps70, Try.results70, go_sem, Nat.reduceLT, Nat.reduceLeDiff, Nat.reduceEqDiff, Nat.reduceAdd, Nat.reduceSub, Nat.reduceMul, reduceIte, ↓reduceIte, reduceCtorEq, Int.reduceToNat, Int.reduceLE, Int.reduceLT, Int.reduceNeg, Int.reduceSub, Int.reduceAdd, Int.reduceMul, rr_eq]
      refine Fin.val ?_
      rw [isWM_t ⟨⟨by omega, by omega⟩, fun x hx => (hii x hx).1, fun x y hx hy => ?_, fun x hx => (hii x hx).2.1⟩]
      rcases Nat.lt_trichotomy y x with h | h | h
      · obtain ⟨q1, q2⟩ := (hii x hx).2.2 y h
        exact ⟨q1, q2.symm⟩
      · subst h
        have := (hii y hy).2.1
        exact ⟨by omega, rfl⟩
      · obtain ⟨q1, q2⟩ := (hii y hy).2.2 x h
        exact ⟨by omega, q2⟩
  · rw [hn] at w
    simp (disch := omega) only [Try.ntmps70, Try.results70, go_sem, Nat.reduceLT, Nat.reduceLeDiff, Nat.reduceEqDiff, Nat.reduceAdd, Nat.reduceSub, Nat.reduceMul, reduceIte, ↓reduceIte, reduceCtorEq, Int.reduceToNat, Int.reduceLE, Int.reduceLT, Int.reduceNeg, Int.reduceSub, Int.reduceAdd, Int.reduceMul, rr_eq]
    refine w.callV 0 (viewL_cons_of (view_int) (viewL_cons_of (view_int) (viewL_cons_of (view_int) viewL_nil_of))) ?_
    simp (disch := omega) only [Try.ntmps70, Try.results70, go_sem, Nat.reduceLT, Nat.reduceLeDiff, Nat.reduceEqDiff, Nat.reduceAdd, Nat.reduceSub, Nat.reduceMul, reduceIte, ↓reduceIte, reduceCtorEq, Int.reduceToNat, Int.reduceLE, Int.reduceLT, Int.reduceNeg, Int.reduceSub, Int.reduceAdd, Int.reduceMul, rr_eq]
    exact Fin.val (by rw [isWM_f (fun h => inR_not hn (by have := h.1; omega))])
end Go.Sh
