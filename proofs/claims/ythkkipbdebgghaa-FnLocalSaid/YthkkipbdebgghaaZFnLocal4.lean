/-
  Texts put together: S3, S4, BA2, X1, Z1, D3, J1, J2, C4, Bits, C5, Z2, Z3, M1, AD1, AD2, BA3, DA1. What each proves stands at its own head, with its conditions.
-/
import Derived.Test.YthkkipbdebgghaaZFnLocal3

/-
  Contracts: conflicts of constraints. Of the reference and of the program.
-/
namespace Go.Sh
set_option linter.unusedSimpArgs false
set_option linter.unusedVariables false
open Go Go.Proofs

def cfl (L : List Int) (c : Con) : Bool := !c.2.2 && decide (L.getD c.1.toNat 0 = L.getD c.2.1.toNat 0)
noncomputable def conflict (n : Int) (C : List Con) : Int := if areCons n C = true then fidx (cfl (must n C)) C else -1
theorem conflict_t {n : Int} {C : List Con} (h : areCons n C = true) : conflict n C = fidx (cfl (must n C)) C := by rw [conflict, if_pos h]
theorem conflict_f {n : Int} {C : List Con} (h : areCons n C = false) : conflict n C = -1 := by rw [conflict, if_neg (by rw [h]; simp)]
theorem cfl_at (L : List Int) (x y : Nat) (s : Bool) : cfl L ((x : Int), (y : Int), s) = (!s && decide (L.getD x 0 = L.getD y 0)) := rfl

set_option maxHeartbeats 2000000 in
theorem Try.findFn_ok (L : List Int) (x y : Nat) (s : Bool) (hx : x < L.length) (hy : y < L.length) (hL : L.length ≤ 1048576) :
    PCall Try.prog 139 [.agg [.val (.int .i64 x), .val (.int .i64 y), .val (.bool s)], .rptr [ri L] 0] (.val (.bool (!s && decide (L.getD x 0 = L.getD y 0)))) := by
  refine FCall.pcall (R := fun r _ => r = .val (.bool (!s && decide (L.getD x 0 = L.getD y 0)))) ?_ 0 (by rintro r H rfl; exact view_bool)
  refine FCall.of_body Try.func139 rfl (by kernel_rfl) (by simp [Try.ntmps139]) ?_
  refine SW_of_vc Try.mixed _ _ _ (by kernel_rfl) ?_
  cases s with
  | true =>
    simp (disch := omega) only [Try.ntmps139, Try.results139, go_sem, Nat.reduceLT, Nat.reduceLeDiff, Nat.reduceEqDiff, Nat.reduceAdd, Nat.reduceSub, Nat.reduceMul, reduceIte, ↓reduceIte, reduceCtorEq, Int.reduceToNat, Int.reduceLE, Int.reduceLT, Int.reduceNeg, Int.reduceSub, Int.reduceAdd, Int.reduceMul]
    exact Fin.val rfl
  | false =>
    have g1 := ints_get hx
    have g2 := ints_get hy
    generalize L.getD x 0 = a at *
    generalize L.getD y 0 = b at *
    by_cases h : a = b
    · simp (disch := omega) only [Try.ntmps139, Try.results139, go_sem, Nat.reduceLT, Nat.reduceLeDiff, Nat.reduceEqDiff, Nat.reduceAdd, Nat.reduceSub, Nat.reduceMul, reduceIte, ↓reduceIte, reduceCtorEq, Int.reduceToNat, Int.reduceLE, Int.reduceLT, Int.reduceNeg, Int.reduceSub, Int.reduceAdd, Int.reduceMul, g1, g2]
      exact Fin.val (by simp [h])
    · simp (disch := omega) only [Try.ntmps139, Try.results139, go_sem, Nat.reduceLT, Nat.reduceLeDiff, Nat.reduceEqDiff, Nat.reduceAdd, Nat.reduceSub, Nat.reduceMul, reduceIte, ↓reduceIte, reduceCtorEq, Int.reduceToNat, Int.reduceLE, Int.reduceLT, Int.reduceNeg, Int.reduceSub, Int.reduceAdd, Int.reduceMul, g1, g2]
      exact Fin.val (by simp [h])

theorem Try.implFind_ok (n : Int) (C : List Con) (hC : C.length ≤ 1048576) : PCall Try.prog 70 [.val (.int .i64 n), rc C] (.val (.int .i64 (conflict n C))) := by
  refine FCall.pcall (R := fun r _ => r = .val (.int .i64 (conflict n C))) ?_ 0 (by rintro r H rfl; exact view_int)
  refine FCall.of_body Try.func70 rfl (by kernel_rfl) (by simp [Try.ntmps70]) ?_
  refine SW_of_vc Try.mixed _ _ _ (by kernel_rfl) ?_
  rcases Bool.eq_false_or_eq_true (areCons n C) with h | h
  · have hl := must_length h
    obtain ⟨⟨n1, n2⟩, _, hg⟩ := areCons_t h
    rw [conflict_t h]
    simp (disch := omega) only [Try.ntmps70, Try.results70, go_sem, Nat.reduceLT, Nat.reduceLeDiff, Nat.reduceEqDiff, Nat.reduceAdd, Nat.reduceSub, Nat.reduceMul, reduceIte, ↓reduceIte, reduceCtorEq, Int.reduceToNat, Int.reduceLE, Int.reduceLT, Int.reduceNeg, Int.reduceSub, Int.reduceAdd, Int.reduceMul, rc]
    refine (Try.implMust_one n C hC h).callOne (ints_vals _) 0 (viewL_cons_of (view_int) (viewL_cons_of (view_row) viewL_nil_of)) ?_
    simp (disch := omega) only [Try.ntmps70, Try.results70, go_sem, Nat.reduceLT, Nat.reduceLeDiff, Nat.reduceEqDiff, Nat.reduceAdd, Nat.reduceSub, Nat.reduceMul, reduceIte, ↓reduceIte, reduceCtorEq, Int.reduceToNat, Int.reduceLE, Int.reduceLT, Int.reduceNeg, Int.reduceSub, Int.reduceAdd, Int.reduceMul, rc]
    refine (Try.indexFuncM_ok 139 [.rptr [ri (must n C)] 0] C (cfl (must n C)) hC (cap_rptr _ _) (fun k hk => ?_)).callV 3
      (viewL_cons_of view_row (viewL_cons_of (view_clos (viewL_cons_of (view_optr rfl (viewL_cons_of (view_own rfl hl.symm) viewL_nil_of)) viewL_nil_of)) viewL_nil_of)) ?_
    · obtain ⟨x, y, s, hc, hxy, hyn⟩ := con_nat h hk
      rw [hc]
      exact Try.findFn_ok (must n C) x y s (by omega) (by omega) (by omega)
    simp (disch := omega) only [Try.ntmps70, Try.results70, go_sem, Nat.reduceLT, Nat.reduceLeDiff, Nat.reduceEqDiff, Nat.reduceAdd, Nat.reduceSub, Nat.reduceMul, reduceIte, ↓reduceIte, reduceCtorEq, Int.reduceToNat, Int.reduceLE, Int.reduceLT, Int.reduceNeg, Int.reduceSub, Int.reduceAdd, Int.reduceMul, rc]
    exact Fin.val rfl
  · rw [conflict_f h]
    simp (disch := omega) only [Try.ntmps70, Try.results70, go_sem, Nat.reduceLT, Nat.reduceLeDiff, Nat.reduceEqDiff, Nat.reduceAdd, Nat.reduceSub, Nat.reduceMul, reduceIte, ↓reduceIte, reduceCtorEq, Int.reduceToNat, Int.reduceLE, Int.reduceLT, Int.reduceNeg, Int.reduceSub, Int.reduceAdd, Int.reduceMul, rc]
    refine (Try.implMust_nil n C hC h).callVal 0 (viewL_cons_of (view_int) (viewL_cons_of (view_row) viewL_nil_of)) ?_
    simp (disch := omega) only [Try.ntmps70, Try.results70, go_sem, Nat.reduceLT, Nat.reduceLeDiff, Nat.reduceEqDiff, Nat.reduceAdd, Nat.reduceSub, Nat.reduceMul, reduceIte, ↓reduceIte, reduceCtorEq, Int.reduceToNat, Int.reduceLE, Int.reduceLT, Int.reduceNeg, Int.reduceSub, Int.reduceAdd, Int.reduceMul, rc]
    exact Fin.val rfl

set_option maxHeartbeats 2000000 in
theorem Try.specFind_ok (n : Int) (C : List Con) (hC : C.length ≤ 1048576) (z1 : -9223372036854775808 ≤ n) (z2 : n ≤ 9223372036854775807) : PCall Try.prog 71 [.val (.int .i64 n), rc C] (.val (.int .i64 (conflict n C))) := by
  refine FCall.pcall (R := fun r _ => r = .val (.int .i64 (conflict n C))) ?_ 0 (by rintro r H rfl; exact view_int)
  refine FCall.of_body Try.func71 rfl (by kernel_rfl) (by simp [Try.ntmps71]) ?_
  refine SW_of_vc Try.mixed _ _ _ (by kernel_rfl) ?_
  have lC := cons_length C
  have w := Try.specMust_ok n C hC z1 z2
  simp (disch := omega) only [Try.ntmps71, Try.results71, go_sem, Nat.reduceLT, Nat.reduceLeDiff, Nat.reduceEqDiff, Nat.reduceAdd, Nat.reduceSub, Nat.reduceMul, reduceIte, ↓reduceIte, reduceCtorEq, Int.reduceToNat, Int.reduceLE, Int.reduceLT, Int.reduceNeg, Int.reduceSub, Int.reduceAdd, Int.reduceMul, rc]
  refine w.callV 0 (viewL_cons_of (view_int) (viewL_cons_of (view_row) viewL_nil_of)) ?_
  simp (disch := omega) only [Try.ntmps71, Try.results71, go_sem, Nat.reduceLT, Nat.reduceLeDiff, Nat.reduceEqDiff, Nat.reduceAdd, Nat.reduceSub, Nat.reduceMul, reduceIte, ↓reduceIte, reduceCtorEq, Int.reduceToNat, Int.reduceLE, Int.reduceLT, Int.reduceNeg, Int.reduceSub, Int.reduceAdd, Int.reduceMul, rc]
  refine LoopW.loop (fun k : Nat => ⟨ofL [(1, rc C), (5, ri (must n C)), (6, .val (.int .i64 k))], hp [] 0⟩) (fun k => k ≤ C.length ∧ (areCons n C = true → ∀ i, i < k → cfl (must n C) (cg C i) = false) ∧ (areCons n C = false → k = 0)) (fun k => C.length - k) 0 ⟨by omega, by simp, by simp⟩ (Wk.of (by simp only [go_sem, ↓List.forall_mem_cons, List.not_mem_nil, false_implies, implies_true, and_true, true_and, and_self, Nat.reduceEqDiff, reduceIte, ↓reduceIte, ri_eq, Int.natCast_add, Int.cast_ofNat_Int, rc]; try simp) rfl) ?_
  rintro k ⟨hk, hkk, hk0⟩
  refine SW_of_vc Try.mixed _ _ _ (by kernel_rfl) ?_
  rcases Bool.eq_false_or_eq_true (areCons n C) with h | h
  · have hl := must_length h
    obtain ⟨⟨n1, n2⟩, _, hg⟩ := areCons_t h
    have hkk := hkk h
    rw [conflict_t h]
    generalize must n C = L at *
    by_cases hlt : k < C.length
    · obtain ⟨x, y, s, hc, hxy, hyn⟩ := con_nat h hlt
      obtain ⟨q0, q1, q2, q3⟩ := cons_of hlt hc
      have hcf := cfl_at L x y s
      cases s with
      | true =>
        simp (disch := omega) only [Try.ntmps71, Try.results71, go_sem, Nat.reduceLT, Nat.reduceLeDiff, Nat.reduceEqDiff, Nat.reduceAdd, Nat.reduceSub, Nat.reduceMul, reduceIte, ↓reduceIte, reduceCtorEq, Int.reduceToNat, Int.reduceLE, Int.reduceLT, Int.reduceNeg, Int.reduceSub, Int.reduceAdd, Int.reduceMul, rc, q0, q1, q2, lC]
        refine ⟨k + 1, ⟨by omega, fun _ i hi => ?_, fun e => by rw [h] at e; cases e⟩, by omega, Wk.of (by simp only [go_sem, ↓List.forall_mem_cons, List.not_mem_nil, false_implies, implies_true, and_true, true_and, and_self, Nat.reduceEqDiff, reduceIte, ↓reduceIte, ri_eq, Int.natCast_add, Int.cast_ofNat_Int, rc]; try simp) rfl⟩
        rcases Nat.lt_succ_iff_lt_or_eq.mp hi with g | rfl
        · exact hkk i g
        · rw [hc, hcf]; rfl
      | false =>
        have g1 := ints_get (L := L) (k := x) (by omega)
        have g2 := ints_get (L := L) (k := y) (by omega)
        generalize hva : L.getD x 0 = a at *
        generalize hvb : L.getD y 0 = b at *
        by_cases hab : a = b
        · simp (disch := omega) only [Try.ntmps71, Try.results71, go_sem, Nat.reduceLT, Nat.reduceLeDiff, Nat.reduceEqDiff, Nat.reduceAdd, Nat.reduceSub, Nat.reduceMul, reduceIte, ↓reduceIte, reduceCtorEq, Int.reduceToNat, Int.reduceLE, Int.reduceLT, Int.reduceNeg, Int.reduceSub, Int.reduceAdd, Int.reduceMul, rc, q0, q1, q2, lC, g1, g2]
          exact Fin.val (by rw [fidx_some hlt hkk (by rw [hc, hcf]; simp [hab])])
        · simp (disch := omega) only [Try.ntmps71, Try.results71, go_sem, Nat.reduceLT, Nat.reduceLeDiff, Nat.reduceEqDiff, Nat.reduceAdd, Nat.reduceSub, Nat.reduceMul, reduceIte, ↓reduceIte, reduceCtorEq, Int.reduceToNat, Int.reduceLE, Int.reduceLT, Int.reduceNeg, Int.reduceSub, Int.reduceAdd, Int.reduceMul, rc, q0, q1, q2, lC, g1, g2]
          refine ⟨k + 1, ⟨by omega, fun _ i hi => ?_, fun e => by rw [h] at e; cases e⟩, by omega, Wk.of (by simp only [go_sem, ↓List.forall_mem_cons, List.not_mem_nil, false_implies, implies_true, and_true, true_and, and_self, Nat.reduceEqDiff, reduceIte, ↓reduceIte, ri_eq, Int.natCast_add, Int.cast_ofNat_Int, rc]; try simp) rfl⟩
          rcases Nat.lt_succ_iff_lt_or_eq.mp hi with g | rfl
          · exact hkk i g
          · rw [hc, hcf]; simp [hab]
    · simp (disch := omega) only [Try.ntmps71, Try.results71, go_sem, Nat.reduceLT, Nat.reduceLeDiff, Nat.reduceEqDiff, Nat.reduceAdd, Nat.reduceSub, Nat.reduceMul, reduceIte, ↓reduceIte, reduceCtorEq, Int.reduceToNat, Int.reduceLE, Int.reduceLT, Int.reduceNeg, Int.reduceSub, Int.reduceAdd, Int.reduceMul, rc, lC]
      exact Fin.val (by rw [fidx_none (fun i hi => hkk i (by omega))])
  · have hm := must_f h
    rw [conflict_f h]
    by_cases hlt : k < C.length
    · simp (disch := omega) only [Try.ntmps71, Try.results71, go_sem, Nat.reduceLT, Nat.reduceLeDiff, Nat.reduceEqDiff, Nat.reduceAdd, Nat.reduceSub, Nat.reduceMul, reduceIte, ↓reduceIte, reduceCtorEq, Int.reduceToNat, Int.reduceLE, Int.reduceLT, Int.reduceNeg, Int.reduceSub, Int.reduceAdd, Int.reduceMul, rc, lC, hm]
      exact Fin.val rfl
    · simp (disch := omega) only [Try.ntmps71, Try.results71, go_sem, Nat.reduceLT, Nat.reduceLeDiff, Nat.reduceEqDiff, Nat.reduceAdd, Nat.reduceSub, Nat.reduceMul, reduceIte, ↓reduceIte, reduceCtorEq, Int.reduceToNat, Int.reduceLE, Int.reduceLT, Int.reduceNeg, Int.reduceSub, Int.reduceAdd, Int.reduceMul, rc, lC, hm]
      exact Fin.val rfl

def consistent (n : Int) (C : List Con) : Prop := areCons n C = true ∧ conflict n C < 0
open Classical in
noncomputable def isCst (n : Int) (C : List Con) : Bool := areCons n C && decide (conflict n C < 0)
theorem Try.implConsistent_ok (n : Int) (C : List Con) (hC : C.length ≤ 1048576) : PCall Try.prog 72 [.val (.int .i64 n), rc C] (.val (.bool (isCst n C))) := by
  refine FCall.pcall (R := fun r _ => r = .val (.bool (isCst n C))) ?_ 0 (by rintro r H rfl; exact view_bool)
  refine FCall.of_body Try.func72 rfl (by kernel_rfl) (by simp [Try.ntmps72]) ?_
  refine SW_of_vc Try.mixed _ _ _ (by kernel_rfl) ?_
  have w1 := Try.implAreConstraints_ok n C hC
  have w2 := Try.implFind_ok n C hC
  rcases Bool.eq_false_or_eq_true (areCons n C) with h | h
  · rw [h] at w1
    by_cases hc : conflict n C < 0
    · simp (disch := omega) only [Try.ntmps72, Try.results72, go_sem, Nat.reduceLT, Nat.reduceLeDiff, Nat.reduceEqDiff, Nat.reduceAdd, Nat.reduceSub, Nat.reduceMul, reduceIte, ↓reduceIte, reduceCtorEq, Int.reduceToNat, Int.reduceLE, Int.reduceLT, Int.reduceNeg, Int.reduceSub, Int.reduceAdd, Int.reduceMul, rc]
      refine w1.callV 0 (viewL_cons_of (view_int) (viewL_cons_of (view_row) viewL_nil_of)) ?_
      simp (disch := omega) only [Try.ntmps72, Try.results72, go_sem, Nat.reduceLT, Nat.reduceLeDiff, Nat.reduceEqDiff, Nat.reduceAdd, Nat.reduceSub, Nat.reduceMul, reduceIte, ↓reduceIte, reduceCtorEq, Int.reduceToNat, Int.reduceLE, Int.reduceLT, Int.reduceNeg, Int.reduceSub, Int.reduceAdd, Int.reduceMul, rc]
      refine w2.callV 0 (viewL_cons_of (view_int) (viewL_cons_of (view_row) viewL_nil_of)) ?_
      simp (disch := omega) only [Try.ntmps72, Try.results72, go_sem, Nat.reduceLT, Nat.reduceLeDiff, Nat.reduceEqDiff, Nat.reduceAdd, Nat.reduceSub, Nat.reduceMul, reduceIte, ↓reduceIte, reduceCtorEq, Int.reduceToNat, Int.reduceLE, Int.reduceLT, Int.reduceNeg, Int.reduceSub, Int.reduceAdd, Int.reduceMul, rc]
      exact Fin.val (by simp [isCst, h, hc])
    · simp (disch := omega) only [Try.ntmps72, Try.results72, go_sem, Nat.reduceLT, Nat.reduceLeDiff, Nat.reduceEqDiff, Nat.reduceAdd, Nat.reduceSub, Nat.reduceMul, reduceIte, ↓reduceIte, reduceCtorEq, Int.reduceToNat, Int.reduceLE, Int.reduceLT, Int.reduceNeg, Int.reduceSub, Int.reduceAdd, Int.reduceMul, rc]
      refine w1.callV 0 (viewL_cons_of (view_int) (viewL_cons_of (view_row) viewL_nil_of)) ?_
      simp (disch := omega) only [Try.ntmps72, Try.results72, go_sem, Nat.reduceLT, Nat.reduceLeDiff, Nat.reduceEqDiff, Nat.reduceAdd, Nat.reduceSub, Nat.reduceMul, reduceIte, ↓reduceIte, reduceCtorEq, Int.reduceToNat, Int.reduceLE, Int.reduceLT, Int.reduceNeg, Int.reduceSub, Int.reduceAdd, Int.reduceMul, rc]
      refine w2.callV 0 (viewL_cons_of (view_int) (viewL_cons_of (view_row) viewL_nil_of)) ?_
      simp (disch := omega) only [Try.ntmps72, Try.results72, go_sem, Nat.reduceLT, Nat.reduceLeDiff, Nat.reduceEqDiff, Nat.reduceAdd, Nat.reduceSub, Nat.reduceMul, reduceIte, ↓reduceIte, reduceCtorEq, Int.reduceToNat, Int.reduceLE, Int.reduceLT, Int.reduceNeg, Int.reduceSub, Int.reduceAdd, Int.reduceMul, rc]
      exact Fin.val (by simp [isCst, hc])
  · rw [h] at w1
    simp (disch := omega) only [Try.ntmps72, Try.results72, go_sem, Nat.reduceLT, Nat.reduceLeDiff, Nat.reduceEqDiff, Nat.reduceAdd, Nat.reduceSub, Nat.reduceMul, reduceIte, ↓reduceIte, reduceCtorEq, Int.reduceToNat, Int.reduceLE, Int.reduceLT, Int.reduceNeg, Int.reduceSub, Int.reduceAdd, Int.reduceMul, rc]
    refine w1.callV 0 (viewL_cons_of (view_int) (viewL_cons_of (view_row) viewL_nil_of)) ?_
    simp (disch := omega) only [Try.ntmps72, Try.results72, go_sem, Nat.reduceLT, Nat.reduceLeDiff, Nat.reduceEqDiff, Nat.reduceAdd, Nat.reduceSub, Nat.reduceMul, reduceIte, ↓reduceIte, reduceCtorEq, Int.reduceToNat, Int.reduceLE, Int.reduceLT, Int.reduceNeg, Int.reduceSub, Int.reduceAdd, Int.reduceMul, rc]
    exact Fin.val (by simp [isCst, h])
theorem Try.specConsistent_ok (n : Int) (C : List Con) (hC : C.length ≤ 1048576) (z1 : -9223372036854775808 ≤ n) (z2 : n ≤ 9223372036854775807) : PCall Try.prog 73 [.val (.int .i64 n), rc C] (.val (.bool (isCst n C))) := by
  refine FCall.pcall (R := fun r _ => r = .val (.bool (isCst n C))) ?_ 0 (by rintro r H rfl; exact view_bool)
  refine FCall.of_body Try.func73 rfl (by kernel_rfl) (by simp [Try.ntmps73]) ?_
  refine SW_of_vc Try.mixed _ _ _ (by kernel_rfl) ?_
  have w1 := Try.specAreConstraints_ok n C hC z1 z2
  have w2 := Try.specFind_ok n C hC z1 z2
  rcases Bool.eq_false_or_eq_true (areCons n C) with h | h
  · rw [h] at w1
    by_cases hc : conflict n C < 0
    · simp (disch := omega) only [Try.ntmps73, Try.results73, go_sem, Nat.reduceLT, Nat.reduceLeDiff, Nat.reduceEqDiff, Nat.reduceAdd, Nat.reduceSub, Nat.reduceMul, reduceIte, ↓reduceIte, reduceCtorEq, Int.reduceToNat, Int.reduceLE, Int.reduceLT, Int.reduceNeg, Int.reduceSub, Int.reduceAdd, Int.reduceMul, rc]
      refine w1.callV 0 (viewL_cons_of (view_int) (viewL_cons_of (view_row) viewL_nil_of)) ?_
      simp (disch := omega) only [Try.ntmps73, Try.results73, go_sem, Nat.reduceLT, Nat.reduceLeDiff, Nat.reduceEqDiff, Nat.reduceAdd, Nat.reduceSub, Nat.reduceMul, reduceIte, ↓reduceIte, reduceCtorEq, Int.reduceToNat, Int.reduceLE, Int.reduceLT, Int.reduceNeg, Int.reduceSub, Int.reduceAdd, Int.reduceMul, rc]
      refine w2.callV 0 (viewL_cons_of (view_int) (viewL_cons_of (view_row) viewL_nil_of)) ?_
      simp (disch := omega) only [Try.ntmps73, Try.results73, go_sem, Nat.reduceLT, Nat.reduceLeDiff, Nat.reduceEqDiff, Nat.reduceAdd, Nat.reduceSub, Nat.reduceMul, reduceIte, ↓reduceIte, reduceCtorEq, Int.reduceToNat, Int.reduceLE, Int.reduceLT, Int.reduceNeg, Int.reduceSub, Int.reduceAdd, Int.reduceMul, rc]
      exact Fin.val (by simp [isCst, h, hc])
    · simp (disch := omega) only [Try.ntmps73, Try.results73, go_sem, Nat.reduceLT, Nat.reduceLeDiff, Nat.reduceEqDiff, Nat.reduceAdd, Nat.reduceSub, Nat.reduceMul, reduceIte, ↓reduceIte, reduceCtorEq, Int.reduceToNat, Int.reduceLE, Int.reduceLT, Int.reduceNeg, Int.reduceSub, Int.reduceAdd, Int.reduceMul, rc]
      refine w1.callV 0 (viewL_cons_of (view_int) (viewL_cons_of (view_row) viewL_nil_of)) ?_
      simp (disch := omega) only [Try.ntmps73, Try.results73, go_sem, Nat.reduceLT, Nat.reduceLeDiff, Nat.reduceEqDiff, Nat.reduceAdd, Nat.reduceSub, Nat.reduceMul, reduceIte, ↓reduceIte, reduceCtorEq, Int.reduceToNat, Int.reduceLE, Int.reduceLT, Int.reduceNeg, Int.reduceSub, Int.reduceAdd, Int.reduceMul, rc]
      refine w2.callV 0 (viewL_cons_of (view_int) (viewL_cons_of (view_row) viewL_nil_of)) ?_
      simp (disch := omega) only [Try.ntmps73, Try.results73, go_sem, Nat.reduceLT, Nat.reduceLeDiff, Nat.reduceEqDiff, Nat.reduceAdd, Nat.reduceSub, Nat.reduceMul, reduceIte, ↓reduceIte, reduceCtorEq, Int.reduceToNat, Int.reduceLE, Int.reduceLT, Int.reduceNeg, Int.reduceSub, Int.reduceAdd, Int.reduceMul, rc]
      exact Fin.val (by simp [isCst, hc])
  · rw [h] at w1
    simp (disch := omega) only [Try.ntmps73, Try.results73, go_sem, Nat.reduceLT, Nat.reduceLeDiff, Nat.reduceEqDiff, Nat.reduceAdd, Nat.reduceSub, Nat.reduceMul, reduceIte, ↓reduceIte, reduceCtorEq, Int.reduceToNat, Int.reduceLE, Int.reduceLT, Int.reduceNeg, Int.reduceSub, Int.reduceAdd, Int.reduceMul, rc]
    refine w1.callV 0 (viewL_cons_of (view_int) (viewL_cons_of (view_row) viewL_nil_of)) ?_
    simp (disch := omega) only [Try.ntmps73, Try.results73, go_sem, Nat.reduceLT, Nat.reduceLeDiff, Nat.reduceEqDiff, Nat.reduceAdd, Nat.reduceSub, Nat.reduceMul, reduceIte, ↓reduceIte, reduceCtorEq, Int.reduceToNat, Int.reduceLE, Int.reduceLT, Int.reduceNeg, Int.reduceSub, Int.reduceAdd, Int.reduceMul, rc]
    exact Fin.val (by simp [isCst, h])
end Go.Sh

/-
  Contracts: how constraints relate two items. Of the reference and of the program.
-/
namespace Go.Sh
set_option linter.unusedSimpArgs false
set_option linter.unusedVariables false
open Go Go.Proofs

def apF (L : List Int) (p q : Int) (c : Con) : Bool := !c.2.2 && ((decide (L.getD c.1.toNat 0 = p) && decide (L.getD c.2.1.toNat 0 = q)) || (decide (L.getD c.1.toNat 0 = q) && decide (L.getD c.2.1.toNat 0 = p)))
theorem apF_at (L : List Int) (p q : Int) (x y : Nat) (s : Bool) : apF L p q ((x : Int), (y : Int), s) = (!s && ((decide (L.getD x 0 = p) && decide (L.getD y 0 = q)) || (decide (L.getD x 0 = q) && decide (L.getD y 0 = p)))) := rfl
noncomputable def relOf (n : Int) (C : List Con) (a b : Int) : Int :=
  if isCst n C = true ∧ inR a 0 (n - 1) = true ∧ inR b 0 (n - 1) = true then
    (if (must n C).getD a.toNat 0 = (must n C).getD b.toNat 0 then 1 else if C.any (apF (must n C) ((must n C).getD a.toNat 0) ((must n C).getD b.toNat 0)) = true then -1 else 0)
  else 0
theorem isCst_t {n : Int} {C : List Con} (h : isCst n C = true) : areCons n C = true := by
  simp only [isCst, Bool.and_eq_true] at h; exact h.1

set_option maxHeartbeats 8000000 in
theorem Try.relFn_ok (L : List Int) (a b x y : Nat) (s : Bool) (ha : a < L.length) (hb : b < L.length) (hx : x < L.length) (hy : y < L.length) (hL : L.length ≤ 1048576) :
    PCall Try.prog 146 [.agg [.val (.int .i64 x), .val (.int .i64 y), .val (.bool s)], .rptr [ri L] 0, .rptr [.val (.int .i64 a)] 0, .rptr [.val (.int .i64 b)] 0] (.val (.bool (apF L (L.getD a 0) (L.getD b 0) ((x : Int), (y : Int), s)))) := by
  refine FCall.pcall (R := fun r _ => r = .val (.bool (apF L (L.getD a 0) (L.getD b 0) ((x : Int), (y : Int), s)))) ?_ 0 (by rintro r H rfl; exact view_bool)
  refine FCall.of_body Try.func146 rfl (by kernel_rfl) (by simp [Try.ntmps146]) ?_
  refine SW_of_vc Try.mixed _ _ _ (by kernel_rfl) ?_
  rw [apF_at]
  have g1 := ints_get hx
  have g2 := ints_get hy
  have g3 := ints_get ha
  have g4 := ints_get hb
  generalize L.getD x 0 = u at *
  generalize L.getD y 0 = v at *
  generalize L.getD a 0 = p at *
  generalize L.getD b 0 = q at *
  cases s with
  | true =>
    simp (disch := omega) only [Try.ntmps146, Try.results146, go_sem, Nat.reduceLT, Nat.reduceLeDiff, Nat.reduceEqDiff, Nat.reduceAdd, Nat.reduceSub, Nat.reduceMul, reduceIte, ↓reduceIte, reduceCtorEq, Int.reduceToNat, Int.reduceLE, Int.reduceLT, Int.reduceNeg, Int.reduceSub, Int.reduceAdd, Int.reduceMul]
    exact Fin.val rfl
  | false =>
    by_cases h1 : u = p
    · by_cases h2 : v = q
      · simp (disch := omega) only [Try.ntmps146, Try.results146, go_sem, Nat.reduceLT, Nat.reduceLeDiff, Nat.reduceEqDiff, Nat.reduceAdd, Nat.reduceSub, Nat.reduceMul, reduceIte, ↓reduceIte, reduceCtorEq, Int.reduceToNat, Int.reduceLE, Int.reduceLT, Int.reduceNeg, Int.reduceSub, Int.reduceAdd, Int.reduceMul, g1, g2, g3, g4]
        exact Fin.val (by simp [h1, h2])
      · by_cases h3 : u = q
        · by_cases h4 : v = p
          · simp (disch := omega) only [Try.ntmps146, Try.results146, go_sem, Nat.reduceLT, Nat.reduceLeDiff, Nat.reduceEqDiff, Nat.reduceAdd, Nat.reduceSub, Nat.reduceMul, reduceIte, ↓reduceIte, reduceCtorEq, Int.reduceToNat, Int.reduceLE, Int.reduceLT, Int.reduceNeg, Int.reduceSub, Int.reduceAdd, Int.reduceMul, g1, g2, g3, g4]
            exact Fin.val (by simp [h3, h4])
          · simp (disch := omega) only [Try.ntmps146, Try.results146, go_sem, Nat.reduceLT, Nat.reduceLeDiff, Nat.reduceEqDiff, Nat.reduceAdd, Nat.reduceSub, Nat.reduceMul, reduceIte, ↓reduceIte, reduceCtorEq, Int.reduceToNat, Int.reduceLE, Int.reduceLT, Int.reduceNeg, Int.reduceSub, Int.reduceAdd, Int.reduceMul, g1, g2, g3, g4]
            exact Fin.val (by simp [h2, h4])
        · simp (disch := omega) only [Try.ntmps146, Try.results146, go_sem, Nat.reduceLT, Nat.reduceLeDiff, Nat.reduceEqDiff, Nat.reduceAdd, Nat.reduceSub, Nat.reduceMul, reduceIte, ↓reduceIte, reduceCtorEq, Int.reduceToNat, Int.reduceLE, Int.reduceLT, Int.reduceNeg, Int.reduceSub, Int.reduceAdd, Int.reduceMul, g1, g2, g3, g4]
          exact Fin.val (by simp [h2, h3])
    · by_cases h3 : u = q
      · by_cases h4 : v = p
        · simp (disch := omega) only [Try.ntmps146, Try.results146, go_sem, Nat.reduceLT, Nat.reduceLeDiff, Nat.reduceEqDiff, Nat.reduceAdd, Nat.reduceSub, Nat.reduceMul, reduceIte, ↓reduceIte, reduceCtorEq, Int.reduceToNat, Int.reduceLE, Int.reduceLT, Int.reduceNeg, Int.reduceSub, Int.reduceAdd, Int.reduceMul, g1, g2, g3, g4]
          exact Fin.val (by simp [h3, h4])
        · simp (disch := omega) only [Try.ntmps146, Try.results146, go_sem, Nat.reduceLT, Nat.reduceLeDiff, Nat.reduceEqDiff, Nat.reduceAdd, Nat.reduceSub, Nat.reduceMul, reduceIte, ↓reduceIte, reduceCtorEq, Int.reduceToNat, Int.reduceLE, Int.reduceLT, Int.reduceNeg, Int.reduceSub, Int.reduceAdd, Int.reduceMul, g1, g2, g3, g4]
          exact Fin.val (by simp [h1, h4])
      · simp (disch := omega) only [Try.ntmps146, Try.results146, go_sem, Nat.reduceLT, Nat.reduceLeDiff, Nat.reduceEqDiff, Nat.reduceAdd, Nat.reduceSub, Nat.reduceMul, reduceIte, ↓reduceIte, reduceCtorEq, Int.reduceToNat, Int.reduceLE, Int.reduceLT, Int.reduceNeg, Int.reduceSub, Int.reduceAdd, Int.reduceMul, g1, g2, g3, g4]
        exact Fin.val (by simp [h1, h3])

set_option maxHeartbeats 4000000 in
theorem Try.implRel_ok (n : Int) (C : List Con) (a b : Int) (hC : C.length ≤ 1048576) : PCall Try.prog 77 [.val (.int .i64 n), rc C, .val (.int .i64 a), .val (.int .i64 b)] (.val (.int .i64 (relOf n C a b))) := by
  refine FCall.pcall (R := fun r _ => r = .val (.int .i64 (relOf n C a b))) ?_ 0 (by rintro r H rfl; exact view_int)
  refine FCall.of_body Try.func77 rfl (by kernel_rfl) (by simp [Try.ntmps77]) ?_
  refine SW_of_vc Try.mixed _ _ _ (by kernel_rfl) ?_
  have w1 := Try.implConsistent_ok n C hC
  rcases Bool.eq_false_or_eq_true (isCst n C) with h | h
  · have hcs := isCst_t h
    have hl := must_length hcs
    obtain ⟨⟨n1, n2⟩, _, hg⟩ := areCons_t hcs
    have w2 := Try.isItem_ok a n (by omega) (by omega)
    have w3 := Try.isItem_ok b n (by omega) (by omega)
    rw [h] at w1
    rcases Bool.eq_false_or_eq_true (inR a 0 (n - 1)) with h2 | h2
    · rw [h2] at w2
      obtain ⟨a1, a2⟩ := inR_of h2
      rcases Bool.eq_false_or_eq_true (inR b 0 (n - 1)) with h3 | h3
      · rw [h3] at w3
        obtain ⟨b1, b2⟩ := inR_of h3
        obtain ⟨a, rfl⟩ := Int.eq_ofNat_of_zero_le a1
        obtain ⟨b, rfl⟩ := Int.eq_ofNat_of_zero_le b1
        have hr : relOf n C a b = (if (must n C).getD a 0 = (must n C).getD b 0 then 1 else if C.any (apF (must n C) ((must n C).getD a 0) ((must n C).getD b 0)) = true then -1 else 0) := if_pos ⟨h, h2, h3⟩
        have wm := Try.implMust_one n C hC hcs
        rw [hr]
        generalize must n C = L at *
        have g1 := ints_get (L := L) (k := a) (by omega)
        have g2 := ints_get (L := L) (k := b) (by omega)
        have hf : ∀ k, k < C.length → PCall Try.prog 146 (.agg [.val (.int .i64 (cg C k).1), .val (.int .i64 (cg C k).2.1), .val (.bool (cg C k).2.2)] :: [.rptr [ri L] 0, .rptr [.val (.int .i64 a)] 0, .rptr [.val (.int .i64 b)] 0]) (.val (.bool (apF L (L.getD a 0) (L.getD b 0) ((cg C k).1, (cg C k).2.1, (cg C k).2.2)))) := fun k hk => by
          obtain ⟨x, y, s, hc, hxy, hyn⟩ := con_nat hcs hk
          rw [hc]
          exact Try.relFn_ok L a b x y s (by omega) (by omega) (by omega) (by omega) (by omega)
        have wc := Try.containsFuncM_ok 146 [.rptr [ri L] 0, .rptr [.val (.int .i64 a)] 0, .rptr [.val (.int .i64 b)] 0] C (apF L (L.getD a 0) (L.getD b 0)) hC (fun _ _ => viewL_cons_of view_rptr (viewL_cons_of view_rptr (viewL_cons_of view_rptr viewL_nil_of))) hf
        clear hf hr
        generalize L.getD a 0 = p at *
        generalize L.getD b 0 = q at *
        by_cases hpq : p = q
        · simp (disch := omega) only [Try.ntmps77, Try.results77, go_sem, Nat.reduceLT, Nat.reduceLeDiff, Nat.reduceEqDiff, Nat.reduceAdd, Nat.reduceSub, Nat.reduceMul, reduceIte, ↓reduceIte, reduceCtorEq, Int.reduceToNat, Int.reduceLE, Int.reduceLT, Int.reduceNeg, Int.reduceSub, Int.reduceAdd, Int.reduceMul, rc]
          refine w1.callV 0 (viewL_cons_of (view_int) (viewL_cons_of (view_row) viewL_nil_of)) ?_
          simp (disch := omega) only [Try.ntmps77, Try.results77, go_sem, Nat.reduceLT, Nat.reduceLeDiff, Nat.reduceEqDiff, Nat.reduceAdd, Nat.reduceSub, Nat.reduceMul, reduceIte, ↓reduceIte, reduceCtorEq, Int.reduceToNat, Int.reduceLE, Int.reduceLT, Int.reduceNeg, Int.reduceSub, Int.reduceAdd, Int.reduceMul, rc]
          refine w2.callV 0 (viewL_cons_of (view_int) (viewL_cons_of (view_int) viewL_nil_of)) ?_
          simp (disch := omega) only [Try.ntmps77, Try.results77, go_sem, Nat.reduceLT, Nat.reduceLeDiff, Nat.reduceEqDiff, Nat.reduceAdd, Nat.reduceSub, Nat.reduceMul, reduceIte, ↓reduceIte, reduceCtorEq, Int.reduceToNat, Int.reduceLE, Int.reduceLT, Int.reduceNeg, Int.reduceSub, Int.reduceAdd, Int.reduceMul, rc]
          refine w3.callV 0 (viewL_cons_of (view_int) (viewL_cons_of (view_int) viewL_nil_of)) ?_
          simp (disch := omega) only [Try.ntmps77, Try.results77, go_sem, Nat.reduceLT, Nat.reduceLeDiff, Nat.reduceEqDiff, Nat.reduceAdd, Nat.reduceSub, Nat.reduceMul, reduceIte, ↓reduceIte, reduceCtorEq, Int.reduceToNat, Int.reduceLE, Int.reduceLT, Int.reduceNeg, Int.reduceSub, Int.reduceAdd, Int.reduceMul, rc]
          refine wm.callOne (ints_vals _) 0 (viewL_cons_of (view_int) (viewL_cons_of (view_row) viewL_nil_of)) ?_
          simp (disch := omega) only [Try.ntmps77, Try.results77, go_sem, Nat.reduceLT, Nat.reduceLeDiff, Nat.reduceEqDiff, Nat.reduceAdd, Nat.reduceSub, Nat.reduceMul, reduceIte, ↓reduceIte, reduceCtorEq, Int.reduceToNat, Int.reduceLE, Int.reduceLT, Int.reduceNeg, Int.reduceSub, Int.reduceAdd, Int.reduceMul, rc, g1, g2, hl]
          exact Fin.val rfl
        · rw [if_neg hpq]
          rcases Bool.eq_false_or_eq_true (C.any (apF L p q)) with h4 | h4
          · rw [h4] at wc ⊢
            simp (disch := omega) only [Try.ntmps77, Try.results77, go_sem, Nat.reduceLT, Nat.reduceLeDiff, Nat.reduceEqDiff, Nat.reduceAdd, Nat.reduceSub, Nat.reduceMul, reduceIte, ↓reduceIte, reduceCtorEq, Int.reduceToNat, Int.reduceLE, Int.reduceLT, Int.reduceNeg, Int.reduceSub, Int.reduceAdd, Int.reduceMul, rc]
            refine w1.callV 0 (viewL_cons_of (view_int) (viewL_cons_of (view_row) viewL_nil_of)) ?_
            simp (disch := omega) only [Try.ntmps77, Try.results77, go_sem, Nat.reduceLT, Nat.reduceLeDiff, Nat.reduceEqDiff, Nat.reduceAdd, Nat.reduceSub, Nat.reduceMul, reduceIte, ↓reduceIte, reduceCtorEq, Int.reduceToNat, Int.reduceLE, Int.reduceLT, Int.reduceNeg, Int.reduceSub, Int.reduceAdd, Int.reduceMul, rc]
            refine w2.callV 0 (viewL_cons_of (view_int) (viewL_cons_of (view_int) viewL_nil_of)) ?_
            simp (disch := omega) only [Try.ntmps77, Try.results77, go_sem, Nat.reduceLT, Nat.reduceLeDiff, Nat.reduceEqDiff, Nat.reduceAdd, Nat.reduceSub, Nat.reduceMul, reduceIte, ↓reduceIte, reduceCtorEq, Int.reduceToNat, Int.reduceLE, Int.reduceLT, Int.reduceNeg, Int.reduceSub, Int.reduceAdd, Int.reduceMul, rc]
            refine w3.callV 0 (viewL_cons_of (view_int) (viewL_cons_of (view_int) viewL_nil_of)) ?_
            simp (disch := omega) only [Try.ntmps77, Try.results77, go_sem, Nat.reduceLT, Nat.reduceLeDiff, Nat.reduceEqDiff, Nat.reduceAdd, Nat.reduceSub, Nat.reduceMul, reduceIte, ↓reduceIte, reduceCtorEq, Int.reduceToNat, Int.reduceLE, Int.reduceLT, Int.reduceNeg, Int.reduceSub, Int.reduceAdd, Int.reduceMul, rc]
            refine wm.callOne (ints_vals _) 0 (viewL_cons_of (view_int) (viewL_cons_of (view_row) viewL_nil_of)) ?_
            simp (disch := omega) only [Try.ntmps77, Try.results77, go_sem, Nat.reduceLT, Nat.reduceLeDiff, Nat.reduceEqDiff, Nat.reduceAdd, Nat.reduceSub, Nat.reduceMul, reduceIte, ↓reduceIte, reduceCtorEq, Int.reduceToNat, Int.reduceLE, Int.reduceLT, Int.reduceNeg, Int.reduceSub, Int.reduceAdd, Int.reduceMul, rc, g1, g2, hl]
            refine wc.callV 3 (viewL_cons_of view_row (viewL_cons_of (view_clos (viewL_cons_of (view_optr rfl (viewL_cons_of (view_own rfl hl.symm) viewL_nil_of)) (viewL_cons_of (view_optr rfl (viewL_cons_of view_int viewL_nil_of)) (viewL_cons_of (view_optr rfl (viewL_cons_of view_int viewL_nil_of)) viewL_nil_of)))) viewL_nil_of)) ?_
            simp (disch := omega) only [Try.ntmps77, Try.results77, go_sem, Nat.reduceLT, Nat.reduceLeDiff, Nat.reduceEqDiff, Nat.reduceAdd, Nat.reduceSub, Nat.reduceMul, reduceIte, ↓reduceIte, reduceCtorEq, Int.reduceToNat, Int.reduceLE, Int.reduceLT, Int.reduceNeg, Int.reduceSub, Int.reduceAdd, Int.reduceMul, rc]
            exact Fin.val rfl
          · rw [h4] at wc ⊢
            simp (disch := omega) only [Try.ntmps77, Try.results77, go_sem, Nat.reduceLT, Nat.reduceLeDiff, Nat.reduceEqDiff, Nat.reduceAdd, Nat.reduceSub, Nat.reduceMul, reduceIte, ↓reduceIte, reduceCtorEq, Int.reduceToNat, Int.reduceLE, Int.reduceLT, Int.reduceNeg, Int.reduceSub, Int.reduceAdd, Int.reduceMul, rc]
            refine w1.callV 0 (viewL_cons_of (view_int) (viewL_cons_of (view_row) viewL_nil_of)) ?_
            simp (disch := omega) only [Try.ntmps77, Try.results77, go_sem, Nat.reduceLT, Nat.reduceLeDiff, Nat.reduceEqDiff, Nat.reduceAdd, Nat.reduceSub, Nat.reduceMul, reduceIte, ↓reduceIte, reduceCtorEq, Int.reduceToNat, Int.reduceLE, Int.reduceLT, Int.reduceNeg, Int.reduceSub, Int.reduceAdd, Int.reduceMul, rc]
            refine w2.callV 0 (viewL_cons_of (view_int) (viewL_cons_of (view_int) viewL_nil_of)) ?_
            simp (disch := omega) only [Try.ntmps77, Try.results77, go_sem, Nat.reduceLT, Nat.reduceLeDiff, Nat.reduceEqDiff, Nat.reduceAdd, Nat.reduceSub, Nat.reduceMul, reduceIte, ↓reduceIte, reduceCtorEq, Int.reduceToNat, Int.reduceLE, Int.reduceLT, Int.reduceNeg, Int.reduceSub, Int.reduceAdd, Int.reduceMul, rc]
            refine w3.callV 0 (viewL_cons_of (view_int) (viewL_cons_of (view_int) viewL_nil_of)) ?_
            simp (disch := omega) only [Try.ntmps77, Try.results77, go_sem, Nat.reduceLT, Nat.reduceLeDiff, Nat.reduceEqDiff, Nat.reduceAdd, Nat.reduceSub, Nat.reduceMul, reduceIte, ↓reduceIte, reduceCtorEq, Int.reduceToNat, Int.reduceLE, Int.reduceLT, Int.reduceNeg, Int.reduceSub, Int.reduceAdd, Int.reduceMul, rc]
            refine wm.callOne (ints_vals _) 0 (viewL_cons_of (view_int) (viewL_cons_of (view_row) viewL_nil_of)) ?_
            simp (disch := omega) only [Try.ntmps77, Try.results77, go_sem, Nat.reduceLT, Nat.reduceLeDiff, Nat.reduceEqDiff, Nat.reduceAdd, Nat.reduceSub, Nat.reduceMul, reduceIte, ↓reduceIte, reduceCtorEq, Int.reduceToNat, Int.reduceLE, Int.reduceLT, Int.reduceNeg, Int.reduceSub, Int.reduceAdd, Int.reduceMul, rc, g1, g2, hl]
            refine wc.callV 3 (viewL_cons_of view_row (viewL_cons_of (view_clos (viewL_cons_of (view_optr rfl (viewL_cons_of (view_own rfl hl.symm) viewL_nil_of)) (viewL_cons_of (view_optr rfl (viewL_cons_of view_int viewL_nil_of)) (viewL_cons_of (view_optr rfl (viewL_cons_of view_int viewL_nil_of)) viewL_nil_of)))) viewL_nil_of)) ?_
            simp (disch := omega) only [Try.ntmps77, Try.results77, go_sem, Nat.reduceLT, Nat.reduceLeDiff, Nat.reduceEqDiff, Nat.reduceAdd, Nat.reduceSub, Nat.reduceMul, reduceIte, ↓reduceIte, reduceCtorEq, Int.reduceToNat, Int.reduceLE, Int.reduceLT, Int.reduceNeg, Int.reduceSub, Int.reduceAdd, Int.reduceMul, rc]
            exact Fin.val rfl
      · rw [h3] at w3
        have hr : relOf n C a b = 0 := if_neg (by rw [h3]; simp)
        simp (disch := omega) only [Try.ntmps77, Try.results77, go_sem, Nat.reduceLT, Nat.reduceLeDiff, Nat.reduceEqDiff, Nat.reduceAdd, Nat.reduceSub, Nat.reduceMul, reduceIte, ↓reduceIte, reduceCtorEq, Int.reduceToNat, Int.reduceLE, Int.reduceLT, Int.reduceNeg, Int.reduceSub, Int.reduceAdd, Int.reduceMul, rc]
        refine w1.callV 0 (viewL_cons_of (view_int) (viewL_cons_of (view_row) viewL_nil_of)) ?_
        simp (disch := omega) only [Try.ntmps77, Try.results77, go_sem, Nat.reduceLT, Nat.reduceLeDiff, Nat.reduceEqDiff, Nat.reduceAdd, Nat.reduceSub, Nat.reduceMul, reduceIte, ↓reduceIte, reduceCtorEq, Int.reduceToNat, Int.reduceLE, Int.reduceLT, Int.reduceNeg, Int.reduceSub, Int.reduceAdd, Int.reduceMul, rc]
        refine w2.callV 0 (viewL_cons_of (view_int) (viewL_cons_of (view_int) viewL_nil_of)) ?_
        simp (disch := omega) only [Try.ntmps77, Try.results77, go_sem, Nat.reduceLT, Nat.reduceLeDiff, Nat.reduceEqDiff, Nat.reduceAdd, Nat.reduceSub, Nat.reduceMul, reduceIte, ↓reduceIte, reduceCtorEq, Int.reduceToNat, Int.reduceLE, Int.reduceLT, Int.reduceNeg, Int.reduceSub, Int.reduceAdd, Int.reduceMul, rc]
        refine w3.callV 0 (viewL_cons_of (view_int) (viewL_cons_of (view_int) viewL_nil_of)) ?_
        simp (disch := omega) only [Try.ntmps77, Try.results77, go_sem, Nat.reduceLT, Nat.reduceLeDiff, Nat.reduceEqDiff, Nat.reduceAdd, Nat.reduceSub, Nat.reduceMul, reduceIte, ↓reduceIte, reduceCtorEq, Int.reduceToNat, Int.reduceLE, Int.reduceLT, Int.reduceNeg, Int.reduceSub, Int.reduceAdd, Int.reduceMul, rc]
        exact Fin.val (by rw [hr])
    · rw [h2] at w2
      have hr : relOf n C a b = 0 := if_neg (by rw [h2]; simp)
      simp (disch := omega) only [Try.ntmps77, Try.results77, go_sem, Nat.reduceLT, Nat.reduceLeDiff, Nat.reduceEqDiff, Nat.reduceAdd, Nat.reduceSub, Nat.reduceMul, reduceIte, ↓reduceIte, reduceCtorEq, Int.reduceToNat, Int.reduceLE, Int.reduceLT, Int.reduceNeg, Int.reduceSub, Int.reduceAdd, Int.reduceMul, rc]
      refine w1.callV 0 (viewL_cons_of (view_int) (viewL_cons_of (view_row) viewL_nil_of)) ?_
      simp (disch := omega) only [Try.ntmps77, Try.results77, go_sem, Nat.reduceLT, Nat.reduceLeDiff, Nat.reduceEqDiff, Nat.reduceAdd, Nat.reduceSub, Nat.reduceMul, reduceIte, ↓reduceIte, reduceCtorEq, Int.reduceToNat, Int.reduceLE, Int.reduceLT, Int.reduceNeg, Int.reduceSub, Int.reduceAdd, Int.reduceMul, rc]
      refine w2.callV 0 (viewL_cons_of (view_int) (viewL_cons_of (view_int) viewL_nil_of)) ?_
      simp (disch := omega) only [Try.ntmps77, Try.results77, go_sem, Nat.reduceLT, Nat.reduceLeDiff, Nat.reduceEqDiff, Nat.reduceAdd, Nat.reduceSub, Nat.reduceMul, reduceIte, ↓reduceIte, reduceCtorEq, Int.reduceToNat, Int.reduceLE, Int.reduceLT, Int.reduceNeg, Int.reduceSub, Int.reduceAdd, Int.reduceMul, rc]
      exact Fin.val (by rw [hr])
  · have hr : relOf n C a b = 0 := if_neg (by rw [h]; simp)
    rw [h] at w1
    simp (disch := omega) only [Try.ntmps77, Try.results77, go_sem, Nat.reduceLT, Nat.reduceLeDiff, Nat.reduceEqDiff, Nat.reduceAdd, Nat.reduceSub, Nat.reduceMul, reduceIte, ↓reduceIte, reduceCtorEq, Int.reduceToNat, Int.reduceLE, Int.reduceLT, Int.reduceNeg, Int.reduceSub, Int.reduceAdd, Int.reduceMul, rc]
    refine w1.callV 0 (viewL_cons_of (view_int) (viewL_cons_of (view_row) viewL_nil_of)) ?_
    simp (disch := omega) only [Try.ntmps77, Try.results77, go_sem, Nat.reduceLT, Nat.reduceLeDiff, Nat.reduceEqDiff, Nat.reduceAdd, Nat.reduceSub, Nat.reduceMul, reduceIte, ↓reduceIte, reduceCtorEq, Int.reduceToNat, Int.reduceLE, Int.reduceLT, Int.reduceNeg, Int.reduceSub, Int.reduceAdd, Int.reduceMul, rc]
    exact Fin.val (by rw [hr])

set_option maxRecDepth 20000 in
set_option maxHeartbeats 8000000 in
theorem Try.specRel_ok (n : Int) (C : List Con) (a b : Int) (hC : C.length ≤ 1048576) (z1 : -9223372036854775808 ≤ n) (z2 : n ≤ 9223372036854775807) : PCall Try.prog 78 [.val (.int .i64 n), rc C, .val (.int .i64 a), .val (.int .i64 b)] (.val (.int .i64 (relOf n C a b))) := by
  refine FCall.pcall (R := fun r _ => r = .val (.int .i64 (relOf n C a b))) ?_ 0 (by rintro r H rfl; exact view_int)
  refine FCall.of_body Try.func78 rfl (by kernel_rfl) (by simp [Try.ntmps78]) ?_
  refine SW_of_vc Try.mixed _ _ _ (by kernel_rfl) ?_
  have lC := cons_length C
  have w0 := Try.specMust_ok n C hC z1 z2
  have w1 := Try.specConsistent_ok n C hC z1 z2
  rcases Bool.eq_false_or_eq_true (isCst n C) with h | h
  · have hcs := isCst_t h
    have hl := must_length hcs
    obtain ⟨⟨n1, n2⟩, _, hg⟩ := areCons_t hcs
    have w2 := Try.l1In_ok a 0 (n - 1)
    have w3 := Try.l1In_ok b 0 (n - 1)
    rw [h] at w1
    rcases Bool.eq_false_or_eq_true (inR a 0 (n - 1)) with h2 | h2
    · rw [h2] at w2
      obtain ⟨a1, a2⟩ := inR_of h2
      rcases Bool.eq_false_or_eq_true (inR b 0 (n - 1)) with h3 | h3
      · rw [h3] at w3
        obtain ⟨b1, b2⟩ := inR_of h3
        obtain ⟨a, rfl⟩ := Int.eq_ofNat_of_zero_le a1
        obtain ⟨b, rfl⟩ := Int.eq_ofNat_of_zero_le b1
        have hr : relOf n C a b = (if (must n C).getD a 0 = (must n C).getD b 0 then 1 else if C.any (apF (must n C) ((must n C).getD a 0) ((must n C).getD b 0)) = true then -1 else 0) := if_pos ⟨h, h2, h3⟩
        rw [hr]
        generalize must n C = L at *
        have g1 := ints_get (L := L) (k := a) (by omega)
        have g2 := ints_get (L := L) (k := b) (by omega)
        clear hr
        generalize L.getD a 0 = p at *
        generalize L.getD b 0 = q at *
        by_cases hpq : p = q
        · simp (disch := omega) only [Try.ntmps78, Try.results78, go_sem, Nat.reduceLT, Nat.reduceLeDiff, Nat.reduceEqDiff, Nat.reduceAdd, Nat.reduceSub, Nat.reduceMul, reduceIte, ↓reduceIte, reduceCtorEq, Int.reduceToNat, Int.reduceLE, Int.reduceLT, Int.reduceNeg, Int.reduceSub, Int.reduceAdd, Int.reduceMul, rc]
          refine w0.callV 0 (viewL_cons_of (view_int) (viewL_cons_of (view_row) viewL_nil_of)) ?_
          simp (disch := omega) only [Try.ntmps78, Try.results78, go_sem, Nat.reduceLT, Nat.reduceLeDiff, Nat.reduceEqDiff, Nat.reduceAdd, Nat.reduceSub, Nat.reduceMul, reduceIte, ↓reduceIte, reduceCtorEq, Int.reduceToNat, Int.reduceLE, Int.reduceLT, Int.reduceNeg, Int.reduceSub, Int.reduceAdd, Int.reduceMul, rc]
          refine w1.callV 0 (viewL_cons_of (view_int) (viewL_cons_of (view_row) viewL_nil_of)) ?_
          simp (disch := omega) only [Try.ntmps78, Try.results78, go_sem, Nat.reduceLT, Nat.reduceLeDiff, Nat.reduceEqDiff, Nat.reduceAdd, Nat.reduceSub, Nat.reduceMul, reduceIte, ↓reduceIte, reduceCtorEq, Int.reduceToNat, Int.reduceLE, Int.reduceLT, Int.reduceNeg, Int.reduceSub, Int.reduceAdd, Int.reduceMul, rc]
          refine w2.callV 0 (viewL_cons_of (view_int) (viewL_cons_of (view_int) (viewL_cons_of (view_int) viewL_nil_of))) ?_
          simp (disch := omega) only [Try.ntmps78, Try.results78, go_sem, Nat.reduceLT, Nat.reduceLeDiff, Nat.reduceEqDiff, Nat.reduceAdd, Nat.reduceSub, Nat.reduceMul, reduceIte, ↓reduceIte, reduceCtorEq, Int.reduceToNat, Int.reduceLE, Int.reduceLT, Int.reduceNeg, Int.reduceSub, Int.reduceAdd, Int.reduceMul, rc]
          refine w3.callV 0 (viewL_cons_of (view_int) (viewL_cons_of (view_int) (viewL_cons_of (view_int) viewL_nil_of))) ?_
          simp (disch := omega) only [Try.ntmps78, Try.results78, go_sem, Nat.reduceLT, Nat.reduceLeDiff, Nat.reduceEqDiff, Nat.reduceAdd, Nat.reduceSub, Nat.reduceMul, reduceIte, ↓reduceIte, reduceCtorEq, Int.reduceToNat, Int.reduceLE, Int.reduceLT, Int.reduceNeg, Int.reduceSub, Int.reduceAdd, Int.reduceMul, rc, g1, g2, hl]
          exact Fin.val rfl
        · rw [if_neg hpq]
          simp (disch := omega) only [Try.ntmps78, Try.results78, go_sem, Nat.reduceLT, Nat.reduceLeDiff, Nat.reduceEqDiff, Nat.reduceAdd, Nat.reduceSub, Nat.reduceMul, reduceIte, ↓reduceIte, reduceCtorEq, Int.reduceToNat, Int.reduceLE, Int.reduceLT, Int.reduceNeg, Int.reduceSub, Int.reduceAdd, Int.reduceMul, rc]
          refine w0.callV 0 (viewL_cons_of (view_int) (viewL_cons_of (view_row) viewL_nil_of)) ?_
          simp (disch := omega) only [Try.ntmps78, Try.results78, go_sem, Nat.reduceLT, Nat.reduceLeDiff, Nat.reduceEqDiff, Nat.reduceAdd, Nat.reduceSub, Nat.reduceMul, reduceIte, ↓reduceIte, reduceCtorEq, Int.reduceToNat, Int.reduceLE, Int.reduceLT, Int.reduceNeg, Int.reduceSub, Int.reduceAdd, Int.reduceMul, rc]
          refine w1.callV 0 (viewL_cons_of (view_int) (viewL_cons_of (view_row) viewL_nil_of)) ?_
          simp (disch := omega) only [Try.ntmps78, Try.results78, go_sem, Nat.reduceLT, Nat.reduceLeDiff, Nat.reduceEqDiff, Nat.reduceAdd, Nat.reduceSub, Nat.reduceMul, reduceIte, ↓reduceIte, reduceCtorEq, Int.reduceToNat, Int.reduceLE, Int.reduceLT, Int.reduceNeg, Int.reduceSub, Int.reduceAdd, Int.reduceMul, rc]
          refine w2.callV 0 (viewL_cons_of (view_int) (viewL_cons_of (view_int) (viewL_cons_of (view_int) viewL_nil_of))) ?_
          simp (disch := omega) only [Try.ntmps78, Try.results78, go_sem, Nat.reduceLT, Nat.reduceLeDiff, Nat.reduceEqDiff, Nat.reduceAdd, Nat.reduceSub, Nat.reduceMul, reduceIte, ↓reduceIte, reduceCtorEq, Int.reduceToNat, Int.reduceLE, Int.reduceLT, Int.reduceNeg, Int.reduceSub, Int.reduceAdd, Int.reduceMul, rc]
          refine w3.callV 0 (viewL_cons_of (view_int) (viewL_cons_of (view_int) (viewL_cons_of (view_int) viewL_nil_of))) ?_
          simp (disch := omega) only [Try.ntmps78, Try.results78, go_sem, Nat.reduceLT, Nat.reduceLeDiff, Nat.reduceEqDiff, Nat.reduceAdd, Nat.reduceSub, Nat.reduceMul, reduceIte, ↓reduceIte, reduceCtorEq, Int.reduceToNat, Int.reduceLE, Int.reduceLT, Int.reduceNeg, Int.reduceSub, Int.reduceAdd, Int.reduceMul, rc, g1, g2, hl]
          refine LoopW.loop (fun k : Nat => ⟨ofL [(1, rc C), (2, .val (.int .i64 a)), (3, .val (.int .i64 b)), (9, .row n.toNat false (ints L)), (10, .val (.int .i64 k))], hp [] 0⟩) (fun k => k ≤ C.length ∧ ∀ i, i < k → apF L p q (cg C i) = false) (fun k => C.length - k) 0 ⟨by omega, by simp⟩ (Wk.of (by simp only [go_sem, ↓List.forall_mem_cons, List.not_mem_nil, false_implies, implies_true, and_true, true_and, and_self, Nat.reduceEqDiff, reduceIte, ↓reduceIte, ri_eq, Int.natCast_add, Int.cast_ofNat_Int, rc, hl]; try simp) rfl) ?_
          rintro k ⟨hk, hkk⟩
          refine SW_of_vc Try.mixed _ _ _ (by kernel_rfl) ?_
          by_cases hlt : k < C.length
          · obtain ⟨x, y, s, hc, hxy, hyn⟩ := con_nat hcs hlt
            obtain ⟨q0, q1, q2, q3⟩ := cons_of hlt hc
            have hap := apF_at L p q x y s
            rw [← hc] at hap
            have g3 := ints_get (L := L) (k := x) (by omega)
            have g4 := ints_get (L := L) (k := y) (by omega)
            have hyes : apF L p q (cg C k) = true → C.any (apF L p q) = true := fun e => List.any_eq_true.2 ⟨_, cg_mem hlt, e⟩
            have hno : apF L p q (cg C k) = false → ∀ i, i < k + 1 → apF L p q (cg C i) = false := fun e i hi => by
              rcases Nat.lt_succ_iff_lt_or_eq.mp hi with g | rfl
              · exact hkk i g
              · exact e
            generalize L.getD x 0 = u at *
            generalize L.getD y 0 = v at *
            cases s with
            | true =>
              simp (disch := omega) only [Try.ntmps78, Try.results78, go_sem, Nat.reduceLT, Nat.reduceLeDiff, Nat.reduceEqDiff, Nat.reduceAdd, Nat.reduceSub, Nat.reduceMul, reduceIte, ↓reduceIte, reduceCtorEq, Int.reduceToNat, Int.reduceLE, Int.reduceLT, Int.reduceNeg, Int.reduceSub, Int.reduceAdd, Int.reduceMul, rc, q0, q1, q2, lC, g3, g4]
              exact ⟨k + 1, ⟨by omega, hno (by rw [hap]; rfl)⟩, by omega, Wk.of (by simp only [go_sem, ↓List.forall_mem_cons, List.not_mem_nil, false_implies, implies_true, and_true, true_and, and_self, Nat.reduceEqDiff, reduceIte, ↓reduceIte, ri_eq, Int.natCast_add, Int.cast_ofNat_Int, rc]; try simp) rfl⟩
            | false =>
              by_cases h1 : u = p
              · by_cases h2 : v = q
                · simp (disch := omega) only [Try.ntmps78, Try.results78, go_sem, Nat.reduceLT, Nat.reduceLeDiff, Nat.reduceEqDiff, Nat.reduceAdd, Nat.reduceSub, Nat.reduceMul, reduceIte, ↓reduceIte, reduceCtorEq, Int.reduceToNat, Int.reduceLE, Int.reduceLT, Int.reduceNeg, Int.reduceSub, Int.reduceAdd, Int.reduceMul, rc, q0, q1, q2, lC, g1, g2, g3, g4]
                  exact Fin.val (by rw [if_pos (hyes (by rw [hap]; simp [h1, h2]))])
                · have h3 : ¬ u = q := by omega
                  simp (disch := omega) only [Try.ntmps78, Try.results78, go_sem, Nat.reduceLT, Nat.reduceLeDiff, Nat.reduceEqDiff, Nat.reduceAdd, Nat.reduceSub, Nat.reduceMul, reduceIte, ↓reduceIte, reduceCtorEq, Int.reduceToNat, Int.reduceLE, Int.reduceLT, Int.reduceNeg, Int.reduceSub, Int.reduceAdd, Int.reduceMul, rc, q0, q1, q2, lC, g1, g2, g3, g4]
                  exact ⟨k + 1, ⟨by omega, hno (by rw [hap]; simp [h2, h3])⟩, by omega, Wk.of (by simp only [go_sem, ↓List.forall_mem_cons, List.not_mem_nil, false_implies, implies_true, and_true, true_and, and_self, Nat.reduceEqDiff, reduceIte, ↓reduceIte, ri_eq, Int.natCast_add, Int.cast_ofNat_Int, rc]; try simp) rfl⟩
              · by_cases h3 : u = q
                · by_cases h4 : v = p
                  · simp (disch := omega) only [Try.ntmps78, Try.results78, go_sem, Nat.reduceLT, Nat.reduceLeDiff, Nat.reduceEqDiff, Nat.reduceAdd, Nat.reduceSub, Nat.reduceMul, reduceIte, ↓reduceIte, reduceCtorEq, Int.reduceToNat, Int.reduceLE, Int.reduceLT, Int.reduceNeg, Int.reduceSub, Int.reduceAdd, Int.reduceMul, rc, q0, q1, q2, lC, g1, g2, g3, g4]
                    exact Fin.val (by rw [if_pos (hyes (by rw [hap]; simp [h3, h4]))])
                  · simp (disch := omega) only [Try.ntmps78, Try.results78, go_sem, Nat.reduceLT, Nat.reduceLeDiff, Nat.reduceEqDiff, Nat.reduceAdd, Nat.reduceSub, Nat.reduceMul, reduceIte, ↓reduceIte, reduceCtorEq, Int.reduceToNat, Int.reduceLE, Int.reduceLT, Int.reduceNeg, Int.reduceSub, Int.reduceAdd, Int.reduceMul, rc, q0, q1, q2, lC, g1, g2, g3, g4]
                    exact ⟨k + 1, ⟨by omega, hno (by rw [hap]; simp [h1, h4])⟩, by omega, Wk.of (by simp only [go_sem, ↓List.forall_mem_cons, List.not_mem_nil, false_implies, implies_true, and_true, true_and, and_self, Nat.reduceEqDiff, reduceIte, ↓reduceIte, ri_eq, Int.natCast_add, Int.cast_ofNat_Int, rc]; try simp) rfl⟩
                · simp (disch := omega) only [Try.ntmps78, Try.results78, go_sem, Nat.reduceLT, Nat.reduceLeDiff, Nat.reduceEqDiff, Nat.reduceAdd, Nat.reduceSub, Nat.reduceMul, reduceIte, ↓reduceIte, reduceCtorEq, Int.reduceToNat, Int.reduceLE, Int.reduceLT, Int.reduceNeg, Int.reduceSub, Int.reduceAdd, Int.reduceMul, rc, q0, q1, q2, lC, g1, g2, g3, g4]
                  exact ⟨k + 1, ⟨by omega, hno (by rw [hap]; simp [h1, h3])⟩, by omega, Wk.of (by simp only [go_sem, ↓List.forall_mem_cons, List.not_mem_nil, false_implies, implies_true, and_true, true_and, and_self, Nat.reduceEqDiff, reduceIte, ↓reduceIte, ri_eq, Int.natCast_add, Int.cast_ofNat_Int, rc]; try simp) rfl⟩
          · have hno : C.any (apF L p q) = false := by
              rw [List.any_eq_false]
              intro c hc
              obtain ⟨i, hi, rfl⟩ := List.getElem_of_mem hc
              have := hkk i (by omega)
              simpa [cg, hi] using this
            simp (disch := omega) only [Try.ntmps78, Try.results78, go_sem, Nat.reduceLT, Nat.reduceLeDiff, Nat.reduceEqDiff, Nat.reduceAdd, Nat.reduceSub, Nat.reduceMul, reduceIte, ↓reduceIte, reduceCtorEq, Int.reduceToNat, Int.reduceLE, Int.reduceLT, Int.reduceNeg, Int.reduceSub, Int.reduceAdd, Int.reduceMul, rc]
            exact Fin.val (by rw [hno]; rfl)
      · rw [h3] at w3
        have hr : relOf n C a b = 0 := if_neg (by rw [h3]; simp)
        simp (disch := omega) only [Try.ntmps78, Try.results78, go_sem, Nat.reduceLT, Nat.reduceLeDiff, Nat.reduceEqDiff, Nat.reduceAdd, Nat.reduceSub, Nat.reduceMul, reduceIte, ↓reduceIte, reduceCtorEq, Int.reduceToNat, Int.reduceLE, Int.reduceLT, Int.reduceNeg, Int.reduceSub, Int.reduceAdd, Int.reduceMul, rc]
        refine w0.callV 0 (viewL_cons_of (view_int) (viewL_cons_of (view_row) viewL_nil_of)) ?_
        simp (disch := omega) only [Try.ntmps78, Try.results78, go_sem, Nat.reduceLT, Nat.reduceLeDiff, Nat.reduceEqDiff, Nat.reduceAdd, Nat.reduceSub, Nat.reduceMul, reduceIte, ↓reduceIte, reduceCtorEq, Int.reduceToNat, Int.reduceLE, Int.reduceLT, Int.reduceNeg, Int.reduceSub, Int.reduceAdd, Int.reduceMul, rc]
        refine w1.callV 0 (viewL_cons_of (view_int) (viewL_cons_of (view_row) viewL_nil_of)) ?_
        simp (disch := omega) only [Try.ntmps78, Try.results78, go_sem, Nat.reduceLT, Nat.reduceLeDiff, Nat.reduceEqDiff, Nat.reduceAdd, Nat.reduceSub, Nat.reduceMul, reduceIte, ↓reduceIte, reduceCtorEq, Int.reduceToNat, Int.reduceLE, Int.reduceLT, Int.reduceNeg, Int.reduceSub, Int.reduceAdd, Int.reduceMul, rc]
        refine w2.callV 0 (viewL_cons_of (view_int) (viewL_cons_of (view_int) (viewL_cons_of (view_int) viewL_nil_of))) ?_
        simp (disch := omega) only [Try.ntmps78, Try.results78, go_sem, Nat.reduceLT, Nat.reduceLeDiff, Nat.reduceEqDiff, Nat.reduceAdd, Nat.reduceSub, Nat.reduceMul, reduceIte, ↓reduceIte, reduceCtorEq, Int.reduceToNat, Int.reduceLE, Int.reduceLT, Int.reduceNeg, Int.reduceSub, Int.reduceAdd, Int.reduceMul, rc]
        refine w3.callV 0 (viewL_cons_of (view_int) (viewL_cons_of (view_int) (viewL_cons_of (view_int) viewL_nil_of))) ?_
        simp (disch := omega) only [Try.ntmps78, Try.results78, go_sem, Nat.reduceLT, Nat.reduceLeDiff, Nat.reduceEqDiff, Nat.reduceAdd, Nat.reduceSub, Nat.reduceMul, reduceIte, ↓reduceIte, reduceCtorEq, Int.reduceToNat, Int.reduceLE, Int.reduceLT, Int.reduceNeg, Int.reduceSub, Int.reduceAdd, Int.reduceMul, rc]
        exact Fin.val (by rw [hr])
    · rw [h2] at w2
      have hr : relOf n C a b = 0 := if_neg (by rw [h2]; simp)
      simp (disch := omega) only [Try.ntmps78, Try.results78, go_sem, Nat.reduceLT, Nat.reduceLeDiff, Nat.reduceEqDiff, Nat.reduceAdd, Nat.reduceSub, Nat.reduceMul, reduceIte, ↓reduceIte, reduceCtorEq, Int.reduceToNat, Int.reduceLE, Int.reduceLT, Int.reduceNeg, Int.reduceSub, Int.reduceAdd, Int.reduceMul, rc]
      refine w0.callV 0 (viewL_cons_of (view_int) (viewL_cons_of (view_row) viewL_nil_of)) ?_
      simp (disch := omega) only [Try.ntmps78, Try.results78, go_sem, Nat.reduceLT, Nat.reduceLeDiff, Nat.reduceEqDiff, Nat.reduceAdd, Nat.reduceSub, Nat.reduceMul, reduceIte, ↓reduceIte, reduceCtorEq, Int.reduceToNat, Int.reduceLE, Int.reduceLT, Int.reduceNeg, Int.reduceSub, Int.reduceAdd, Int.reduceMul, rc]
      refine w1.callV 0 (viewL_cons_of (view_int) (viewL_cons_of (view_row) viewL_nil_of)) ?_
      simp (disch := omega) only [Try.ntmps78, Try.results78, go_sem, Nat.reduceLT, Nat.reduceLeDiff, Nat.reduceEqDiff, Nat.reduceAdd, Nat.reduceSub, Nat.reduceMul, reduceIte, ↓reduceIte, reduceCtorEq, Int.reduceToNat, Int.reduceLE, Int.reduceLT, Int.reduceNeg, Int.reduceSub, Int.reduceAdd, Int.reduceMul, rc]
      refine w2.callV 0 (viewL_cons_of (view_int) (viewL_cons_of (view_int) (viewL_cons_of (view_int) viewL_nil_of))) ?_
      simp (disch := omega) only [Try.ntmps78, Try.results78, go_sem, Nat.reduceLT, Nat.reduceLeDiff, Nat.reduceEqDiff, Nat.reduceAdd, Nat.reduceSub, Nat.reduceMul, reduceIte, ↓reduceIte, reduceCtorEq, Int.reduceToNat, Int.reduceLE, Int.reduceLT, Int.reduceNeg, Int.reduceSub, Int.reduceAdd, Int.reduceMul, rc]
      exact Fin.val (by rw [hr])
  · have hr : relOf n C a b = 0 := if_neg (by rw [h]; simp)
    rw [h] at w1
    simp (disch := omega) only [Try.ntmps78, Try.results78, go_sem, Nat.reduceLT, Nat.reduceLeDiff, Nat.reduceEqDiff, Nat.reduceAdd, Nat.reduceSub, Nat.reduceMul, reduceIte, ↓reduceIte, reduceCtorEq, Int.reduceToNat, Int.reduceLE, Int.reduceLT, Int.reduceNeg, Int.reduceSub, Int.reduceAdd, Int.reduceMul, rc]
    refine w0.callV 0 (viewL_cons_of (view_int) (viewL_cons_of (view_row) viewL_nil_of)) ?_
    simp (disch := omega) only [Try.ntmps78, Try.results78, go_sem, Nat.reduceLT, Nat.reduceLeDiff, Nat.reduceEqDiff, Nat.reduceAdd, Nat.reduceSub, Nat.reduceMul, reduceIte, ↓reduceIte, reduceCtorEq, Int.reduceToNat, Int.reduceLE, Int.reduceLT, Int.reduceNeg, Int.reduceSub, Int.reduceAdd, Int.reduceMul, rc]
    refine w1.callV 0 (viewL_cons_of (view_int) (viewL_cons_of (view_row) viewL_nil_of)) ?_
    simp (disch := omega) only [Try.ntmps78, Try.results78, go_sem, Nat.reduceLT, Nat.reduceLeDiff, Nat.reduceEqDiff, Nat.reduceAdd, Nat.reduceSub, Nat.reduceMul, reduceIte, ↓reduceIte, reduceCtorEq, Int.reduceToNat, Int.reduceLE, Int.reduceLT, Int.reduceNeg, Int.reduceSub, Int.reduceAdd, Int.reduceMul, rc]
    exact Fin.val (by rw [hr])
end Go.Sh

/-
  What the search for the best partition finds: plain.
-/
namespace Go.Sh
set_option linter.unusedSimpArgs false
set_option linter.unusedVariables false
open Go Go.Proofs

def topP (nx : Int) (L : List Int) : Int := L.foldl (fun m x => max m (x + 1)) nx
theorem topP_append (nx : Int) (L K : List Int) : topP nx (L ++ K) = topP (topP nx L) K := by simp [topP, List.foldl_append]
theorem okP_append2 : ∀ (L K : List Int) (nx : Int), okP nx (L ++ K) = (okP nx L && okP (topP nx L) K)
  | [], K, nx => by simp [okP, topP]
  | x :: L, K, nx => by
    rw [List.cons_append, okP, okP_append2 L K, okP, Bool.and_assoc]
    rfl
theorem take_snoc {L : List Int} {k : Nat} (h : k < L.length) : L.take (k + 1) = L.take k ++ [L.getD k 0] := by
  rw [List.take_succ_eq_append_getElem h]; simp [h]
theorem okP_take {L : List Int} (h0 : ∀ x, x < L.length → 0 ≤ L.getD x 0) (hc : ∀ x v, x < L.length → 0 ≤ v → v < L.getD x 0 → ∃ y, y < x ∧ L.getD y 0 = v) : ∀ k, k ≤ L.length →
    okP 0 (L.take k) = true ∧ 0 ≤ topP 0 (L.take k) ∧ ∀ y, y < k → L.getD y 0 + 1 ≤ topP 0 (L.take k)
  | 0, _ => by simp [okP, topP]
  | k + 1, hk => by
    obtain ⟨h1, h2, h3⟩ := okP_take h0 hc k (by omega)
    rw [take_snoc (by omega), okP_append2, topP_append]
    have e : topP (topP 0 (L.take k)) [L.getD k 0] = max (topP 0 (L.take k)) (L.getD k 0 + 1) := rfl
    have hk0 := h0 k (by omega)
    have hle : L.getD k 0 ≤ topP 0 (L.take k) := by
      by_cases hz : L.getD k 0 = 0
      · omega
      · obtain ⟨y, g1, g2⟩ := hc k (L.getD k 0 - 1) (by omega) (by omega) (by omega)
        have := h3 y g1
        omega
    rw [e]
    refine ⟨?_, by omega, fun y hy => ?_⟩
    · simp only [okP, h1, Bool.and_true, Bool.true_and, inR, Bool.and_eq_true, decide_eq_true_eq]
      exact ⟨hk0, hle⟩
    · rcases Nat.lt_succ_iff_lt_or_eq.mp hy with h | rfl
      · have := h3 y h; omega
      · omega
theorem CompL.okP {n : Nat} {B : Nat → Nat → Bool} {L : List Int} (h : CompL n B L) : okP 0 L = true := by
  have hl := h.len
  have := (okP_take (L := L) (fun x hx => h.nn x (by omega)) (fun x v hx => h.can x v (by omega)) L.length (Nat.le_refl _)).1
  rwa [List.take_length] at this
theorem CompL.part {n : Nat} {B : Nat → Nat → Bool} {L : List Int} (h : CompL n B L) (h1 : 1 ≤ n) (h8 : n ≤ 8) : isPart L = true := by
  have hl := h.len
  rw [isPart, h.okP, hl]
  simp [inR]; omega
theorem must_part {n : Nat} {C : List Con} (h : areCons n C = true) : isPart (must n C) = true := by
  obtain ⟨⟨h1, h2⟩, _⟩ := areCons_t h
  rw [must_t h]
  exact must_ok.part (by omega) (by omega)
theorem isCst_neg {n : Int} {C : List Con} (h : isCst n C = true) : conflict n C < 0 := by
  rw [isCst, Bool.and_eq_true] at h
  simpa using h.2
/-- The closure of consistent constraints keeps them. -/
theorem must_keeps {n : Nat} {C : List Con} (h : isCst n C = true) : C.all (kp (must n C)) = true := by
  have ha := isCst_t h
  have hn := isCst_neg h
  rw [conflict_t ha] at hn
  have hno : C.any (cfl (must n C)) = false := by
    rw [← Bool.not_eq_true, ← fidx_ge]; omega
  have hl := must_length ha
  rw [List.all_eq_true]
  intro c hc
  obtain ⟨⟨h1, h2⟩, _, hg⟩ := areCons_t ha
  obtain ⟨g1, g2, g3⟩ := hg c hc
  rw [List.any_eq_false] at hno
  have hcf := hno c hc
  obtain ⟨a, b, s⟩ := c
  simp only at g1 g2 g3
  obtain ⟨x, rfl⟩ := Int.eq_ofNat_of_zero_le g1
  obtain ⟨y, rfl⟩ := Int.eq_ofNat_of_zero_le (by omega : 0 ≤ b)
  have r1 : inR (x : Int) 0 (((must n C).length : Int) - 1) = true := by rw [hl]; simp [inR]; omega
  have r2 : inR (y : Int) 0 (((must n C).length : Int) - 1) = true := by rw [hl]; simp [inR]; omega
  rw [kp]
  simp only [r1, r2, Bool.true_and]
  cases s with
  | false =>
    simp only [cfl, Bool.not_false, Bool.true_and, decide_eq_true_eq] at hcf
    rw [decide_eq_false hcf]; rfl
  | true =>
    have : mustB C x y = true := by
      rw [mustB, List.any_eq_true]
      exact ⟨_, hc, by simp [linkB]⟩
    have e : (must n C).getD x 0 = (must n C).getD y 0 := by
      rw [must_t ha]
      have hx : x < ((n : Int)).toNat := by omega
      have hy : y < ((n : Int)).toNat := by omega
      exact (must_ok.iff x y hx hy).2 (.one hx hy this)
    have e2 : (must n C).getD ((x : Int)).toNat 0 = (must n C).getD ((y : Int)).toNat 0 := e
    rw [decide_eq_true e2]; rfl

/-- What a search of all partitions keeps true. -/
theorem foldl_inv {α β : Type} {g : α → β → α} {I : α → Prop} : ∀ (l : List β) (s : α), I s → (∀ s x, x ∈ l → I s → I (g s x)) → I (l.foldl g s)
  | [], _, h, _ => h
  | x :: l, s, h, hg => by rw [List.foldl_cons]; exact foldl_inv l _ (hg s x (by simp) h) fun s y hy => hg s y (by simp [hy])
theorem each_inv {f : BS → List Int → BS} {I : BS → Prop} {n : Nat} (hf : ∀ s q, q.length = n → okP 0 q = true → I s → I (f s q)) : ∀ (k : Nat) (p : List Int) (nx : Nat) (s : BS), p.length + k = n → okP 0 p = true → topP 0 p = nx → I s → I (each f k p nx s)
  | 0, p, nx, s, hl, hp, _, hs => hf s p (by omega) hp hs
  | k + 1, p, nx, s, hl, hp, ht, hs => by
    rw [each]
    refine foldl_inv _ s hs fun s x hx hs => each_inv hf k _ _ s (by simp; omega) ?_ ?_ hs
    · have hx := List.mem_range.1 hx
      rw [okP_append2, hp, ht]
      simp [okP, inR]; omega
    · rw [topP_append, ht]
      simp [topP]; omega
theorem foldl_rel {α : Type} {g : α → Nat → α} {R : α → α → Prop} (hr : ∀ a, R a a) (ht : ∀ a b c, R a b → R b c → R a c) (hg : ∀ s x, R s (g s x)) : ∀ (l : List Nat) (s : α), R s (l.foldl g s)
  | [], s => hr s
  | x :: l, s => by rw [List.foldl_cons]; exact ht _ _ _ (hg s x) (foldl_rel hr ht hg l _)
theorem each_rel {f : BS → List Int → BS} {R : BS → BS → Prop} (hr : ∀ a, R a a) (ht : ∀ a b c, R a b → R b c → R a c) (hf : ∀ s q, R s (f s q)) : ∀ (k : Nat) (p : List Int) (nx : Nat) (s : BS), R s (each f k p nx s)
  | 0, p, nx, s => hf s p
  | k + 1, p, nx, s => by
    rw [each]
    exact foldl_rel hr ht (fun s x => each_rel hr ht hf k _ _ s) _ s
/-- Every partition is looked at. -/
theorem foldl_visit {α : Type} {g : α → Nat → α} {R : α → α → Prop} (ht : ∀ a b c, R a b → R b c → R a c) (hr : ∀ a, R a a) (hg : ∀ s x, R s (g s x)) {y : Nat} : ∀ (l : List Nat) (s : α), y ∈ l → ∃ s1, R s s1 ∧ R (g s1 y) (l.foldl g s)
  | x :: l, s, h => by
    rw [List.foldl_cons]
    by_cases e : y = x
    · subst e
      exact ⟨s, hr s, foldl_rel hr ht hg l _⟩
    · obtain ⟨s1, h1, h2⟩ := foldl_visit ht hr hg l (g s x) (by simpa [e] using h)
      exact ⟨s1, ht _ _ _ (hg s x) h1, h2⟩
theorem each_visit {f : BS → List Int → BS} {R : BS → BS → Prop} (hr : ∀ a, R a a) (ht : ∀ a b c, R a b → R b c → R a c) (hf : ∀ s q, R s (f s q)) : ∀ (k : Nat) (p r : List Int) (nx : Nat) (s : BS), r.length = k → okP nx r = true → ∃ s1, R s s1 ∧ R (f s1 (p ++ r)) (each f k p nx s)
  | 0, p, r, nx, s, hl, hp => by
    obtain rfl := List.length_eq_zero_iff.1 hl
    exact ⟨s, hr s, by rw [List.append_nil]; exact hr _⟩
  | k + 1, p, [], nx, s, hl, hp => by simp at hl
  | k + 1, p, y :: r, nx, s, hl, hp => by
    rw [okP, Bool.and_eq_true] at hp
    obtain ⟨y0, y1⟩ := inR_of hp.1
    obtain ⟨x, rfl⟩ := Int.eq_ofNat_of_zero_le y0
    rw [each]
    obtain ⟨s1, h1, h2⟩ := foldl_visit (g := fun s (x : Nat) => each f k (p ++ [(x : Int)]) (max nx (x + 1)) s) ht hr (fun s x => each_rel hr ht hf k _ _ s) (y := x) (List.range (nx + 1)) s (List.mem_range.2 (by omega))
    obtain ⟨s2, g1, g2⟩ := each_visit hr ht hf k (p ++ [(x : Int)]) r (max nx (x + 1)) s1 (by simpa using hl) (by
      have e : (((max nx (x + 1) : Nat)) : Int) = max (nx : Int) ((x : Int) + 1) := by omega
      rw [e]; exact hp.2)
    refine ⟨s2, ht _ _ _ h1 g1, ht _ _ _ ?_ h2⟩
    rw [List.append_assoc] at g2
    exact g2

def bs (M : List (List Int)) (C : List Con) : BS := each (updB M C) M.length [] 0 ⟨[], -1, 0⟩
structure Best (M : List (List Int)) (C : List Con) (s : BS) : Prop where
  nn : s.least < 0 → s.least = -1 ∧ s.first = [] ∧ s.count = 0
  ok : 0 ≤ s.least → s.first.length = M.length ∧ okP 0 s.first = true ∧ C.all (kp s.first) = true ∧ cc M s.first M.length = s.least ∧ 0 < s.count
theorem Best.updB {M : List (List Int)} {C : List Con} (hw : WM M) {s : BS} {q : List Int} (hl : q.length = M.length) (hq : okP 0 q = true) (h : Best M C s) : Best M C (updB M C s q) := by
  unfold Go.Sh.updB
  have hc := cc_b (L := q) hw M.length (Nat.le_refl _)
  split
  · rename_i hk
    rw [hl]
    split
    · exact ⟨fun g => by simp only at g; omega, fun _ => ⟨hl, hq, hk, rfl, by simp⟩⟩
    · split
      · rename_i g1 g2
        refine ⟨fun g => by simp only at g; omega, fun g => ?_⟩
        obtain ⟨a1, a2, a3, a4, a5⟩ := h.ok (by omega)
        exact ⟨a1, a2, a3, a4, by simp⟩
      · exact h
  · exact h
theorem bs_best {M : List (List Int)} {C : List Con} (hw : WM M) : Best M C (bs M C) :=
  each_inv (n := M.length) (fun s q h1 h2 h3 => h3.updB hw h1 h2) M.length [] 0 _ (by simp) rfl rfl ⟨fun _ => ⟨rfl, rfl, rfl⟩, fun h => by simp at h⟩
def Dn (s t : BS) : Prop := 0 ≤ s.least → 0 ≤ t.least ∧ t.least ≤ s.least
theorem upd_dn {M : List (List Int)} {C : List Con} (hw : WM M) (s : BS) (q : List Int) : q.length = M.length → Dn s (updB M C s q) := by
  intro hl h
  have hc := cc_b (L := q) hw M.length (Nat.le_refl _)
  unfold updB
  rw [hl]
  split
  · split
    · exact ⟨hc.1, by show cc M q M.length ≤ _; omega⟩
    · split
      · exact ⟨h, Int.le_refl _⟩
      · exact ⟨h, Int.le_refl _⟩
  · exact ⟨h, Int.le_refl _⟩
/-- No partition that keeps the constraints costs less. -/
theorem bs_least {M : List (List Int)} {C : List Con} (hw : WM M) {q : List Int} (hl : q.length = M.length) (hq : okP 0 q = true) (hk : C.all (kp q) = true) : 0 ≤ (bs M C).least ∧ (bs M C).least ≤ cc M q M.length := by
  have hc := cc_b (L := q) hw M.length (Nat.le_refl _)
  let f : BS → List Int → BS := fun s p => if p.length = M.length then updB M C s p else s
  have hfe : ∀ (k : Nat) (p : List Int) (nx : Nat) (s : BS), p.length + k = M.length → each f k p nx s = each (updB M C) k p nx s := by
    intro k
    induction k with
    | zero => intro p nx s h; exact if_pos (by omega)
    | succ k ih =>
      intro p nx s h
      rw [each, each]
      exact foldl_same _ _ fun s x _ => ih _ _ _ (by simp; omega)
  obtain ⟨s1, _, h2⟩ := each_visit (f := f) (R := Dn) (fun a h => ⟨h, Int.le_refl _⟩) (fun a b c h1 h2 h => by
    obtain ⟨a1, a2⟩ := h1 h
    obtain ⟨b1, b2⟩ := h2 a1
    exact ⟨b1, by omega⟩) (fun s p => by
      show Dn s (if p.length = M.length then updB M C s p else s)
      split
      · rename_i h; exact upd_dn hw s p h
      · exact fun h => ⟨h, Int.le_refl _⟩) M.length [] q 0 ⟨[], -1, 0⟩ hl hq
  rw [hfe _ _ _ _ (by simp), List.nil_append] at h2
  have e : f s1 q = updB M C s1 q := if_pos hl
  have h3 : 0 ≤ (updB M C s1 q).least ∧ (updB M C s1 q).least ≤ cc M q M.length := by
    unfold updB
    rw [if_pos hk, hl]
    split
    · exact ⟨hc.1, Int.le_refl _⟩
    · split
      · rename_i g1 g2
        exact ⟨by show 0 ≤ s1.least; omega, by show s1.least ≤ _; omega⟩
      · exact ⟨by omega, by omega⟩
  rw [e] at h2
  obtain ⟨a1, a2⟩ := h2 h3.1
  exact ⟨a1, by have : (each (updB M C) M.length [] 0 ⟨[], -1, 0⟩) = bs M C := rfl
                rw [this] at a2; omega⟩
/-- Consistent constraints are kept by a partition. -/
theorem bs_ok {M : List (List Int)} {C : List Con} (hw : WM M) (h : isCst M.length C = true) : 0 ≤ (bs M C).least := by
  have hp := must_part (isCst_t h)
  have hl := must_length (isCst_t h)
  rw [isPart, Bool.and_eq_true] at hp
  exact (bs_least hw (q := must M.length C) (by omega) hp.1 (must_keeps h)).1
theorem bs_walk {M : List (List Int)} {C : List Con} (hw : WM M) (h : areCons M.length C = true) : walkB M C M.length [] 0 0 ⟨[], -1, 0⟩ = bs M C := by
  have hg : C.all (goodCon M.length) = true := by
    rw [areCons] at h
    simp only [Bool.and_eq_true] at h
    exact h.2.2
  exact walk_each hw hg M.length [] 0 _ (by simp) (fun c hc hlt => by
    have g := List.all_eq_true.1 hg c hc
    simp only [goodCon, Bool.and_eq_true] at g
    have := inR_of g.2.1
    simp at hlt; omega)
end Go.Sh

/-
  Lists of structs as cells, for elements of any fixed number of cells; triangles.
-/
namespace Go.Sh
set_option linter.unusedSimpArgs false
set_option linter.unusedVariables false
open Go

section
variable {α : Type} {enc : α → List SV} {z : Nat}
def encL (enc : α → List SV) (L : List α) : List SV := L.flatMap enc
theorem encL_nil : encL enc [] = [] := rfl
theorem encL_cons (a : α) (L : List α) : encL enc (a :: L) = enc a ++ encL enc L := rfl
theorem encL_length (hz : ∀ a, (enc a).length = z) : ∀ L : List α, (encL enc L).length = L.length * z
  | [] => by simp [encL]
  | a :: L => by
    rw [encL_cons, List.length_append, hz, encL_length hz L, List.length_cons, Nat.add_mul, Nat.one_mul, Nat.add_comm]
theorem encL_drop (hz : ∀ a, (enc a).length = z) : ∀ (L : List α) (k : Nat), (encL enc L).drop (k * z) = encL enc (L.drop k)
  | L, 0 => by simp
  | [], k + 1 => by simp [encL]
  | a :: L, k + 1 => by
    rw [encL_cons, Nat.add_mul, Nat.one_mul, Nat.add_comm (k * z) z, ← hz a, List.drop_append, List.drop_eq_nil_of_le (by omega), List.nil_append, Nat.add_sub_cancel_left, hz a, encL_drop hz L k]
    rfl
theorem encL_load (hz : ∀ a, (enc a).length = z) {L : List α} {k : Nat} (h : k < L.length) : ((encL enc L).drop (k * z)).take z = enc L[k] := by
  rw [encL_drop hz, List.drop_eq_getElem_cons h, encL_cons, ← hz L[k], List.take_left]
theorem encL_at (hz : ∀ a, (enc a).length = z) {L : List α} {k i : Nat} (h : k < L.length) (hi : i < z) : (encL enc L)[k * z + i]? = (enc L[k])[i]? := by
  have h2 : (((encL enc L).drop (k * z)).take z)[i]? = (enc L[k])[i]? := by rw [encL_load hz h]
  rw [List.getElem?_take, if_pos hi, List.getElem?_drop] at h2
  exact h2
theorem encL_append (A B : List α) : encL enc A ++ encL enc B = encL enc (A ++ B) := by simp [encL]
theorem encL_take_self (hz : ∀ a, (enc a).length = z) (L : List α) : (encL enc L).take (L.length * z) = encL enc L := by rw [← encL_length hz, List.take_length]
theorem encL_vals (hv : ∀ a, (enc a).all isVal = true) : ∀ L : List α, (encL enc L).all isVal = true
  | [] => rfl
  | a :: L => by rw [encL_cons, List.all_append, hv, encL_vals hv L]; rfl
theorem splice_ge : ∀ (new l : List SV) (x : SV) (o : Nat), splice (x :: l) (o + 1) new = x :: splice l o new
  | [], l, x, o => rfl
  | c :: new, l, x, o => by
    show splice (x :: l.set o c) (o + 1 + 1) new = x :: splice (l.set o c) (o + 1) new
    exact splice_ge new (l.set o c) x (o + 1)
theorem splice_app : ∀ (pre l new : List SV) (o : Nat), splice (pre ++ l) (pre.length + o) new = pre ++ splice l o new
  | [], l, new, o => by simp
  | p :: pre, l, new, o => by
    have e : (p :: pre).length + o = pre.length + o + 1 := by simp; omega
    rw [e, List.cons_append, splice_ge, splice_app pre l new o, List.cons_append]
theorem splice_front : ∀ (new old l : List SV), old.length = new.length → splice (old ++ l) 0 new = new ++ l
  | [], old, l, h => by
    have : old = [] := List.length_eq_zero_iff.1 (by simpa using h)
    subst this; rfl
  | c :: new, [], l, h => by simp at h
  | c :: new, o :: old, l, h => by
    show splice ((o :: (old ++ l)).set 0 c) (0 + 1) new = c :: (new ++ l)
    rw [List.set_cons_zero, splice_ge, splice_front new old l (by simpa using h)]
theorem encL_splice (hz : ∀ a, (enc a).length = z) : ∀ {L : List α} {k : Nat} (a : α), k < L.length → splice (encL enc L) (k * z) (enc a) = encL enc (L.set k a)
  | [], k, a, h => by simp at h
  | b :: L, 0, a, _ => by
    rw [encL_cons, Nat.zero_mul, splice_front _ _ _ (by rw [hz, hz])]; rfl
  | b :: L, k + 1, a, h => by
    have e : (k + 1) * z = (enc b).length + k * z := by rw [hz, Nat.add_mul, Nat.one_mul, Nat.add_comm]
    rw [encL_cons, e, splice_app, encL_splice hz a (by simpa using h)]; rfl
theorem rep_enc (hz : ∀ a, (enc a).length = z) (h0 : 0 < z) (d : α) (n : Nat) : rep (enc d) (n * z) = encL enc (List.replicate n d) := by
  apply List.ext_getElem?
  intro i
  by_cases h : i < n * z
  · have h3 : i / z < n := Nat.div_lt_of_lt_mul (by rw [Nat.mul_comm]; exact h)
    have hm : i % z < z := Nat.mod_lt _ h0
    have e : i = i / z * z + i % z := (Nat.div_add_mod' i z).symm
    have h4 : (encL enc (List.replicate n d))[i]? = (enc d)[i % z]? := by
      conv => lhs; rw [e]
      rw [encL_at hz (by simpa using h3) hm]
      simp
    rw [h4]
    simp only [rep, List.getElem?_map]
    rw [List.getElem?_range h]
    simp only [Option.map_some, hz d]
    rw [List.getElem?_eq_getElem (by rw [hz d]; exact hm), List.getD_eq_getElem?_getD, List.getElem?_eq_getElem (by rw [hz d]; exact hm)]
    rfl
  · rw [List.getElem?_eq_none (by simp [rep]; omega), List.getElem?_eq_none (by rw [encL_length hz]; simp; omega)]
end

/-- A triangle: its items, its weight. -/
abbrev Tri := Int × Int × Int × Int
def tri4 (t : Tri) : List SV := [.val (.int .i64 t.1), .val (.int .i64 t.2.1), .val (.int .i64 t.2.2.1), .val (.int .i64 t.2.2.2)]
theorem tri4_z (t : Tri) : (tri4 t).length = 4 := rfl
theorem tri4_v (t : Tri) : (tri4 t).all isVal = true := rfl
def rt (T : List Tri) : SV := .row T.length false (encL tri4 T)
def tg (T : List Tri) (k : Nat) : Tri := T.getD k (0, 0, 0, 0)
theorem tri_of {T : List Tri} {k : Nat} {a b c w : Int} (h : k < T.length) (e : tg T k = (a, b, c, w)) : (encL tri4 T)[k * 4]? = some (.val (.int .i64 a)) ∧ (encL tri4 T)[k * 4 + 1]? = some (.val (.int .i64 b)) ∧ (encL tri4 T)[k * 4 + 2]? = some (.val (.int .i64 c)) ∧ (encL tri4 T)[k * 4 + 3]? = some (.val (.int .i64 w)) ∧
    ((encL tri4 T).drop (k * 4)).take 4 = [.val (.int .i64 a), .val (.int .i64 b), .val (.int .i64 c), .val (.int .i64 w)] := by
  have e2 : T[k] = (a, b, c, w) := by rw [← e]; simp [tg, h]
  have g := fun i hi => encL_at (enc := tri4) (z := 4) tri4_z h (i := i) hi
  rw [e2] at g
  refine ⟨g 0 (by omega), g 1 (by omega), g 2 (by omega), g 3 (by omega), ?_⟩
  rw [encL_load tri4_z h, e2]; rfl
theorem tri_set4 {T : List Tri} {k : Nat} {a b c w : Int} (h : k < T.length) : ((((encL tri4 T).set (k * 4) (.val (.int .i64 a))).set (k * 4 + 1) (.val (.int .i64 b))).set (k * 4 + 1 + 1) (.val (.int .i64 c))).set (k * 4 + 1 + 1 + 1) (.val (.int .i64 w)) = encL tri4 (T.set k (a, b, c, w)) := by
  have := encL_splice (enc := tri4) (z := 4) tri4_z (a, b, c, w) h
  simpa only [splice, tri4] using this
theorem rep_tri (n : Nat) : rep [.val (.int .i64 0), .val (.int .i64 0), .val (.int .i64 0), .val (.int .i64 0)] (n * 4) = encL tri4 (List.replicate n (0, 0, 0, 0)) := rep_enc (enc := tri4) tri4_z (by omega) (0, 0, 0, 0) n
theorem tri_ex (T : List Tri) (k : Nat) : ∃ a b c w, tg T k = (a, b, c, w) := ⟨_, _, _, _, rfl⟩
theorem viewL_encL {H : Heap} {f : Nat} : ∀ T : List Tri, viewL H f (encL tri4 T) = some (encL tri4 T)
  | [] => viewL_nil_of
  | t :: T => viewL_cons_of view_int (viewL_cons_of view_int (viewL_cons_of view_int (viewL_cons_of view_int (viewL_encL T))))
theorem flat_viewT {T : List Tri} {n : Nat} {r : SV} {H : Heap} (h : FlatRes n 4 (encL tri4 T) r H) : view H 2 r = some (rt T) := by
  have hl := h.length
  rw [encL_length (z := 4) tri4_z] at hl
  have hn : T.length = n := by omega
  obtain ⟨b, off, cap, ex, blk, rfl, h1, h2, h3, h4⟩ := h
  simp only [view, h1, h3, if_true, h2, viewL_encL, rt, hn]
end Go.Sh

/-
  Contracts: a number repeated.
-/
namespace Go.Sh
set_option linter.unusedSimpArgs false
set_option linter.unusedVariables false
open Go Go.Proofs

theorem fin_tup2 {R : SV → Heap → Prop} {a b : Value} {H : Heap} (h : R (.tup [.val a, .val b]) ⟨fun _ => none, H.nb⟩) : Fin R (.tup [.val a, .val b]) H :=
  ⟨⟨fun _ => none, H.nb⟩, ⟨rfl, fun _ => .inl rfl⟩, by simp [noRow, noRowL], fun b blk hb => by simp at hb, h⟩
theorem view_tup2 {H : Heap} {f : Nat} {j k : IntKind} {a b : Int} : view H (f + 1) (.tup [.val (.int j a), .val (.int k b)]) = some (.tup [.val (.int j a), .val (.int k b)]) := by
  simp only [view, viewL, viewV]

set_option maxHeartbeats 4000000 in
theorem Try.mul64_ok (n : Nat) (h : n ≤ 8) : PCall Try.prog 184 [.val (.int .u64 1), .val (.int .u64 n)] (.tup [.val (.int .u64 0), .val (.int .u64 n)]) := by
  refine FCall.pcall (R := fun r _ => r = .tup [.val (.int .u64 0), .val (.int .u64 n)]) ?_ 1 (by rintro r H rfl; exact view_tup2)
  refine FCall.of_body Try.func184 rfl (by kernel_rfl) (by simp [Try.ntmps184]) ?_
  refine SW_of_vc Try.mixed _ _ _ (by kernel_rfl) ?_
  simp (disch := omega) only [Try.ntmps184, Try.results184, go_sem, Nat.reduceLT, Nat.reduceLeDiff, Nat.reduceEqDiff, Nat.reduceAdd, Nat.reduceSub, Nat.reduceMul, reduceIte, ↓reduceIte, reduceCtorEq, Int.reduceToNat, Int.reduceLE, Int.reduceLT, Int.reduceNeg, Int.reduceSub, Int.reduceAdd, Int.reduceMul]
  refine fin_tup2 ?_
  rcases (by omega : n = 0 ∨ n = 1 ∨ n = 2 ∨ n = 3 ∨ n = 4 ∨ n = 5 ∨ n = 6 ∨ n = 7 ∨ n = 8) with rfl | rfl | rfl | rfl | rfl | rfl | rfl | rfl | rfl
  all_goals kernel_rfl
set_option maxHeartbeats 4000000 in
theorem Try.bitsMul_ok (n : Nat) (h : n ≤ 8) : PCall Try.prog 156 [.val (.int .u64 1), .val (.int .u64 n)] (.tup [.val (.int .u64 0), .val (.int .u64 n)]) := by
  refine FCall.pcall (R := fun r _ => r = .tup [.val (.int .u64 0), .val (.int .u64 n)]) ?_ 1 (by rintro r H rfl; exact view_tup2)
  refine FCall.of_body Try.func156 rfl (by kernel_rfl) (by simp [Try.ntmps156]) ?_
  refine SW_of_vc Try.mixed _ _ _ (by kernel_rfl) ?_
  simp (disch := omega) only [Try.ntmps156, Try.results156, go_sem, Nat.reduceLT, Nat.reduceLeDiff, Nat.reduceEqDiff, Nat.reduceAdd, Nat.reduceSub, Nat.reduceMul, reduceIte, ↓reduceIte, reduceCtorEq, Int.reduceToNat, Int.reduceLE, Int.reduceLT, Int.reduceNeg, Int.reduceSub, Int.reduceAdd, Int.reduceMul]
  refine (Try.mul64_ok n h).callV 0 (viewL_cons_of (view_int) (viewL_cons_of (view_int) viewL_nil_of)) ?_
  simp (disch := omega) only [Try.ntmps156, Try.results156, go_sem, Nat.reduceLT, Nat.reduceLeDiff, Nat.reduceEqDiff, Nat.reduceAdd, Nat.reduceSub, Nat.reduceMul, reduceIte, ↓reduceIte, reduceCtorEq, Int.reduceToNat, Int.reduceLE, Int.reduceLT, Int.reduceNeg, Int.reduceSub, Int.reduceAdd, Int.reduceMul]
  exact fin_tup2 rfl

def repL (n c : Nat) (a : Int) : List Int := List.replicate c a ++ List.replicate (n - c) 0
theorem repL_length {n c : Nat} {a : Int} (h : c ≤ n) : (repL n c a).length = n := by simp [repL]; omega
theorem repL_zero (n : Nat) (a : Int) : repL n 0 a = List.replicate n 0 := by simp [repL]
theorem repL_all (n : Nat) (a : Int) : repL n n a = List.replicate n a := by simp [repL]
theorem repL_splice {n c m : Nat} {a : Int} (h : c + m ≤ n) : splice (ints (repL n c a)) c (ints (List.replicate m a)) = ints (repL n (c + m) a) := by
  have e1 : ints (repL n c a) = ints (List.replicate c a) ++ (ints (List.replicate m 0) ++ ints (List.replicate (n - c - m) 0)) := by
    rw [repL, ints_append, ints_append]
    congr 2
    have : n - c = m + (n - c - m) := by omega
    conv => lhs; rw [this]
    rw [← List.replicate_append_replicate]
  have e2 : c = (ints (List.replicate c a)).length + 0 := by simp [ints]
  rw [e1]
  conv => lhs; arg 2; rw [e2]
  rw [splice_app, splice_front _ _ _ (by simp [ints]), repL, ints_append, ints_append]
  congr 1
  rw [← List.replicate_append_replicate, List.append_assoc]
  congr 3; omega
theorem repL_take {n c m : Nat} {a : Int} (h : m ≤ c) : (repL n c a).take m = List.replicate m a := by
  rw [repL, List.take_append_of_le_length (by simpa using h), List.take_replicate]
  congr 1; omega

set_option maxHeartbeats 4000000 in
theorem Try.repeat_f (n : Nat) (a : Int) (h1 : 1 ≤ n) (h : n ≤ 8) : FCall Try.prog 97 [ri [a], .val (.int .i64 n)] (FlatRes n 1 (ints (List.replicate n a))) := by
  refine FCall.of_body Try.func97 rfl (by kernel_rfl) (by simp [Try.ntmps97]) ?_
  refine SW_of_vc Try.mixed _ _ _ (by kernel_rfl) ?_
  have hz := repL_zero n a
  have e1 : IntKind.u64.wrap ((1 : Nat) : Int) = 1 := by kernel_rfl
  have e2 : IntKind.u64.wrap (n : Int) = n := by
    rcases (by omega : n = 1 ∨ n = 2 ∨ n = 3 ∨ n = 4 ∨ n = 5 ∨ n = 6 ∨ n = 7 ∨ n = 8) with rfl | rfl | rfl | rfl | rfl | rfl | rfl | rfl
    all_goals kernel_rfl
  simp (disch := omega) only [Try.ntmps97, Try.results97, go_sem, Nat.reduceLT, Nat.reduceLeDiff, Nat.reduceEqDiff, Nat.reduceAdd, Nat.reduceSub, Nat.reduceMul, reduceIte, ↓reduceIte, reduceCtorEq, Int.reduceToNat, Int.reduceLE, Int.reduceLT, Int.reduceNeg, Int.reduceSub, Int.reduceAdd, Int.reduceMul, e1, e2]
  have hmin : min 1 n = 1 := by omega
  have hlr : (List.replicate n (0 : Int)).length = n := by simp
  have ht1 : (ints (List.replicate n 0)).take n = ints (List.replicate n 0) := ints_take_of hlr
  have ht2 : (ints [a]).take 1 = ints [a] := rfl
  have hs0 : splice (ints (List.replicate n 0)) 0 (ints [a]) = ints (repL n 1 a) := by
    have := repL_splice (n := n) (c := 0) (m := 1) (a := a) (by omega)
    rwa [hz] at this
  refine (Try.bitsMul_ok n h).callV 0 (viewL_cons_of (view_int) (viewL_cons_of (view_int) viewL_nil_of)) ?_
  simp (disch := omega) only [Try.ntmps97, Try.results97, go_sem, Nat.reduceLT, Nat.reduceLeDiff, Nat.reduceEqDiff, Nat.reduceAdd, Nat.reduceSub, Nat.reduceMul, reduceIte, ↓reduceIte, reduceCtorEq, Int.reduceToNat, Int.reduceLE, Int.reduceLT, Int.reduceNeg, Int.reduceSub, Int.reduceAdd, Int.reduceMul, e1, e2, hlr, ht1, ints_flat, hmin, ht2, hs0]
  refine LoopW.loop (fun c : Nat => ⟨ofL [(7, .own 0 0 n n 1 true), (8, .val (.int .i64 c))], hp [(0, ⟨ints (repL n c a), true⟩)] 1⟩) (fun c => 1 ≤ c ∧ c ≤ n) (fun c => n - c) 1 ⟨by omega, h1⟩ (Wk.of (by simp only [go_sem, ↓List.forall_mem_cons, List.not_mem_nil, false_implies, implies_true, and_true, true_and, and_self, Nat.reduceEqDiff, reduceIte, ↓reduceIte, ri_eq, Int.natCast_add, Int.cast_ofNat_Int]; try simp) rfl) ?_
  rintro c ⟨hc1, hc⟩
  have hl := repL_length (a := a) hc
  refine SW_of_vc Try.mixed _ _ _ (by kernel_rfl) ?_
  by_cases hlt : c < n
  · obtain ⟨m, hm⟩ : ∃ m, min c (n - c) = m := ⟨_, rfl⟩
    have hm1 : c + m ≤ n := by omega
    have hm2 : m ≤ c := by omega
    have hm3 : 1 ≤ m := by omega
    have hsp := repL_splice (n := n) (c := c) (m := m) (a := a) hm1
    have htk := repL_take (n := n) (c := c) (m := m) (a := a) hm2
    have htc : ((ints (repL n c a)).take c).take m = ints (List.replicate m a) := by rw [List.take_take, Nat.min_eq_left hm2, ints_take, htk]
    have hfl : ((ints (repL n c a)).take c).all flat = true := by rw [ints_take]; exact ints_flat _
    simp (disch := omega) only [Try.ntmps97, Try.results97, go_sem, Nat.reduceLT, Nat.reduceLeDiff, Nat.reduceEqDiff, Nat.reduceAdd, Nat.reduceSub, Nat.reduceMul, reduceIte, ↓reduceIte, reduceCtorEq, Int.reduceToNat, Int.reduceLE, Int.reduceLT, Int.reduceNeg, Int.reduceSub, Int.reduceAdd, Int.reduceMul, hl, hfl, hm, htc, hsp]
    exact ⟨c + m, ⟨by omega, hm1⟩, by omega, Wk.of (by simp only [go_sem, ↓List.forall_mem_cons, List.not_mem_nil, false_implies, implies_true, and_true, true_and, and_self, Nat.reduceEqDiff, reduceIte, ↓reduceIte, ri_eq, Int.natCast_add, Int.cast_ofNat_Int]; try simp) rfl⟩
  · obtain rfl : c = n := by omega
    rw [repL_all]
    simp (disch := omega) only [Try.ntmps97, Try.results97, go_sem, Nat.reduceLT, Nat.reduceLeDiff, Nat.reduceEqDiff, Nat.reduceAdd, Nat.reduceSub, Nat.reduceMul, reduceIte, ↓reduceIte, reduceCtorEq, Int.reduceToNat, Int.reduceLE, Int.reduceLT, Int.reduceNeg, Int.reduceSub, Int.reduceAdd, Int.reduceMul]
    exact fin_ints (by simp) (by rw [hp_map, hmap_cons, if_pos rfl])
theorem Try.repeat_one (n : Nat) (a : Int) (h1 : 1 ≤ n) (h : n ≤ 8) : FCall Try.prog 97 [ri [a], .val (.int .i64 n)] (OneRes n 1 (ints (List.replicate n a))) := (Try.repeat_f n a h1 h).one
end Go.Sh

/-
  Contracts: labels by first occurrence. Of the reference.
-/
namespace Go.Sh
set_option linter.unusedSimpArgs false
set_option linter.unusedVariables false
open Go Go.Proofs

theorem cstep_nodup {s : List Int × List Int} {x : Int} (h : s.1.Nodup) : (cstep s x).1.Nodup := by
  unfold cstep
  split
  · exact h
  · rename_i hx
    show (s.1 ++ [x]).Nodup
    rw [List.nodup_append]
    refine ⟨h, by simp, ?_⟩
    intro a ha b hb
    simp at hb
    subst hb
    exact fun e => hx (e ▸ ha)
theorem cst_nodup : ∀ (L : List Int) (s : List Int × List Int), s.1.Nodup → (L.foldl cstep s).1.Nodup
  | [], s, h => h
  | x :: L, s, h => cst_nodup L (cstep s x) (cstep_nodup h)
theorem idx_eq {x : Int} {L : List Int} {k : Nat} (hk : k < L.length) (hd : L.Nodup) (e : L.getD k 0 = x) : idx x (L.take (k + 1)) = k := by
  refine idx_some (by simp; omega) (fun i hi => ?_) ?_
  · intro h
    have hi' : i < L.length := by omega
    have h1 : L[i] = L[k] := by
      have h2 : (L.take (k + 1)).getD i 0 = L[i] := by simp [hi', show i < k + 1 by omega]
      have h3 : L.getD k 0 = L[k] := by simp [hk]
      rw [← h2, h, ← h3, e]
    exact List.pairwise_iff_getElem.1 hd i k hi' hk hi h1
  · rw [← e]; simp [hk]
theorem idx_ne {x : Int} {L : List Int} {k : Nat} (hk : k < L.length) (e : L.getD k 0 ≠ x) : idx x (L.take (k + 1)) = idx x (L.take k) := by
  have h3 : L.getD k 0 = L[k] := by simp [hk]
  rw [h3] at e
  rw [List.take_succ_eq_append_getElem hk]
  unfold idx
  by_cases h : x ∈ L.take k
  · rw [if_pos h, if_pos (List.mem_append.2 (.inl h)), List.idxOf_append, if_pos h]
  · rw [if_neg h, if_neg]
    simp only [List.mem_append, List.mem_singleton, not_or]
    exact ⟨h, fun h => e h.symm⟩
theorem idx_nil (x : Int) : idx x [] = -1 := by simp [idx]

set_option maxHeartbeats 2000000 in
theorem Try.specCanon_f (L : List Int) (hL : L.length ≤ 1048576) : FCall Try.prog 179 [ri L] (FlatRes L.length 1 (ints (canon L))) := by
  refine FCall.of_body Try.func179 rfl (by kernel_rfl) (by simp [Try.ntmps179]) ?_
  refine SW_of_vc Try.mixed _ _ _ (by kernel_rfl) ?_
  simp (disch := omega) only [Try.ntmps179, Try.results179, go_sem, Nat.reduceLT, Nat.reduceLeDiff, Nat.reduceEqDiff, Nat.reduceAdd, Nat.reduceSub, Nat.reduceMul, reduceIte, ↓reduceIte, reduceCtorEq, Int.reduceToNat, Int.reduceLE, Int.reduceLT, Int.reduceNeg, Int.reduceSub, Int.reduceAdd, Int.reduceMul]
  refine LoopW.loop (fun p : Nat × Nat × Nat × Nat => ⟨ofL [(0, ri L), (3, .own p.2.1 0 (cst (L.take p.1)).2.length (cst (L.take p.1)).2.length 1 false), (4, .own p.2.2.1 0 (cst (L.take p.1)).1.length (cst (L.take p.1)).1.length 1 false), (5, .val (.int .i64 p.1))],
      hp [(p.2.1, ⟨ints (cst (L.take p.1)).2, false⟩), (p.2.2.1, ⟨ints (cst (L.take p.1)).1, false⟩)] p.2.2.2⟩)
    (fun p => p.1 ≤ L.length ∧ p.2.1 < p.2.2.2 ∧ p.2.2.1 < p.2.2.2 ∧ p.2.1 ≠ p.2.2.1) (fun p => L.length - p.1) (0, 0, 1, 2) ⟨by simp, by simp, by simp, by simp⟩
    (Wk.ofH (by simp only [go_sem, ↓List.forall_mem_cons, List.not_mem_nil, false_implies, implies_true, and_true, true_and, and_self, Nat.reduceEqDiff, reduceIte, ↓reduceIte, ri_eq, Int.natCast_add, Int.cast_ofNat_Int, List.take_zero, cst_zero, List.length_nil]; try simp) (by simp (disch := omega) only [go_sem, ↓List.forall_mem_cons, List.not_mem_nil, false_implies, implies_true, and_true, true_and, and_self, Nat.reduceEqDiff, reduceIte, ↓reduceIte, ri_eq, Int.natCast_add, Int.cast_ofNat_Int, if_pos, if_neg, Nat.reduceAdd, List.nil_append, List.take_zero, cst_zero, ints_nil]; try simp) (by simp [hp])) ?_
  rintro ⟨k, b1, b2, nb⟩ ⟨hk, hb1, hb2, hb3⟩
  simp only at hk hb1 hb2 hb3
  have l1 := cst_len1 (L.take k)
  have l2 := cst_len2 (L.take k)
  have l3 : (L.take k).length = k := by simp; omega
  have e1 := fun h => cst_succ (L := L) (k := k) h
  have hd : (cst (L.take k)).1.Nodup := cst_nodup _ _ (by simp)
  generalize he : cst (L.take k) = st at *
  obtain ⟨seen, out⟩ := st
  simp only at l1 l2 e1 hd ⊢
  refine SW_of_vc Try.mixed _ _ _ (by kernel_rfl) ?_
  by_cases hlt : k < L.length
  · have e1 := e1 hlt
    simp (disch := omega) only [Try.ntmps179, Try.results179, go_sem, Nat.reduceLT, Nat.reduceLeDiff, Nat.reduceEqDiff, Nat.reduceAdd, Nat.reduceSub, Nat.reduceMul, reduceIte, ↓reduceIte, reduceCtorEq, Int.reduceToNat, Int.reduceLE, Int.reduceLT, Int.reduceNeg, Int.reduceSub, Int.reduceAdd, Int.reduceMul]
    refine LoopW.loop (fun i : Nat => ⟨ofL [(0, ri L), (3, .own b1 0 out.length out.length 1 false), (4, .own b2 0 seen.length seen.length 1 false), (5, .val (.int .i64 k)), (6, .val (.int .i64 (idx (L.getD k 0) (seen.take i)))), (7, .val (.int .i64 i))],
        hp [(b1, ⟨ints out, false⟩), (b2, ⟨ints seen, false⟩)] nb⟩) (fun i => i ≤ seen.length) (fun i => seen.length - i) 0 (by omega) (Wk.of (by simp only [go_sem, ↓List.forall_mem_cons, List.not_mem_nil, false_implies, implies_true, and_true, true_and, and_self, Nat.reduceEqDiff, reduceIte, ↓reduceIte, ri_eq, Int.natCast_add, Int.cast_ofNat_Int, List.take_zero, idx_nil]; try simp) rfl) ?_
    intro i hi
    refine SW_of_vc Try.mixed _ _ _ (by kernel_rfl) ?_
    by_cases hil : i < seen.length
    · by_cases hx : seen.getD i 0 = L.getD k 0
      · have ei := idx_eq hil hd hx
        simp (disch := omega) only [Try.ntmps179, Try.results179, go_sem, Nat.reduceLT, Nat.reduceLeDiff, Nat.reduceEqDiff, Nat.reduceAdd, Nat.reduceSub, Nat.reduceMul, reduceIte, ↓reduceIte, reduceCtorEq, Int.reduceToNat, Int.reduceLE, Int.reduceLT, Int.reduceNeg, Int.reduceSub, Int.reduceAdd, Int.reduceMul]
        exact ⟨i + 1, by omega, by omega, Wk.of (by simp only [go_sem, ↓List.forall_mem_cons, List.not_mem_nil, false_implies, implies_true, and_true, true_and, and_self, Nat.reduceEqDiff, reduceIte, ↓reduceIte, ri_eq, Int.natCast_add, Int.cast_ofNat_Int, ei]; try simp) rfl⟩
      · have ei := idx_ne hil hx
        simp (disch := omega) only [Try.ntmps179, Try.results179, go_sem, Nat.reduceLT, Nat.reduceLeDiff, Nat.reduceEqDiff, Nat.reduceAdd, Nat.reduceSub, Nat.reduceMul, reduceIte, ↓reduceIte, reduceCtorEq, Int.reduceToNat, Int.reduceLE, Int.reduceLT, Int.reduceNeg, Int.reduceSub, Int.reduceAdd, Int.reduceMul]
        exact ⟨i + 1, by omega, by omega, Wk.of (by simp only [go_sem, ↓List.forall_mem_cons, List.not_mem_nil, false_implies, implies_true, and_true, true_and, and_self, Nat.reduceEqDiff, reduceIte, ↓reduceIte, ri_eq, Int.natCast_add, Int.cast_ofNat_Int, ei]; try simp) rfl⟩
    · obtain rfl : i = seen.length := by omega
      rw [List.take_length]
      by_cases hm : L.getD k 0 ∈ seen
      · have hi := idx_nonneg hm
        simp (disch := omega) only [Try.ntmps179, Try.results179, go_sem, Nat.reduceLT, Nat.reduceLeDiff, Nat.reduceEqDiff, Nat.reduceAdd, Nat.reduceSub, Nat.reduceMul, reduceIte, ↓reduceIte, reduceCtorEq, Int.reduceToNat, Int.reduceLE, Int.reduceLT, Int.reduceNeg, Int.reduceSub, Int.reduceAdd, Int.reduceMul]
        simp only [cstep, if_pos hm] at e1
        refine ⟨(k + 1, nb + 1, b2, nb + 1 + 1), ⟨hlt, by show nb + 1 < nb + 1 + 1; omega, by show b2 < nb + 1 + 1; omega, by show nb + 1 ≠ b2; omega⟩, by show L.length - (k + 1) < L.length - k; omega, ?_⟩
        exact Wk.ofH (by simp only [go_sem, ↓List.forall_mem_cons, List.not_mem_nil, false_implies, implies_true, and_true, true_and, and_self, Nat.reduceEqDiff, reduceIte, ↓reduceIte, ri_eq, Int.natCast_add, Int.cast_ofNat_Int, e1, List.length_append, List.length_cons, List.length_nil, Nat.zero_add]; try simp) (by simp (disch := omega) only [go_sem, ↓List.forall_mem_cons, List.not_mem_nil, false_implies, implies_true, and_true, true_and, and_self, Nat.reduceEqDiff, reduceIte, ↓reduceIte, ri_eq, Int.natCast_add, Int.cast_ofNat_Int, if_pos, if_neg, Nat.reduceAdd, List.nil_append, e1]; try simp) (by simp [hp])
      · rw [idx_neg hm]
        simp (disch := omega) only [Try.ntmps179, Try.results179, go_sem, Nat.reduceLT, Nat.reduceLeDiff, Nat.reduceEqDiff, Nat.reduceAdd, Nat.reduceSub, Nat.reduceMul, reduceIte, ↓reduceIte, reduceCtorEq, Int.reduceToNat, Int.reduceLE, Int.reduceLT, Int.reduceNeg, Int.reduceSub, Int.reduceAdd, Int.reduceMul]
        simp only [cstep, if_neg hm] at e1
        refine ⟨(k + 1, nb + 1 + 1 + 1, nb + 1, nb + 1 + 1 + 1 + 1), ⟨hlt, by show nb + 1 + 1 + 1 < nb + 1 + 1 + 1 + 1; omega, by show nb + 1 < nb + 1 + 1 + 1 + 1; omega, by show nb + 1 + 1 + 1 ≠ nb + 1; omega⟩, by show L.length - (k + 1) < L.length - k; omega, ?_⟩
        exact Wk.ofH (by simp only [go_sem, ↓List.forall_mem_cons, List.not_mem_nil, false_implies, implies_true, and_true, true_and, and_self, Nat.reduceEqDiff, reduceIte, ↓reduceIte, ri_eq, Int.natCast_add, Int.cast_ofNat_Int, e1, List.length_append, List.length_cons, List.length_nil, Nat.zero_add]; try simp) (by simp (disch := omega) only [go_sem, ↓List.forall_mem_cons, List.not_mem_nil, false_implies, implies_true, and_true, true_and, and_self, Nat.reduceEqDiff, reduceIte, ↓reduceIte, ri_eq, Int.natCast_add, Int.cast_ofNat_Int, if_pos, if_neg, Nat.reduceAdd, List.nil_append, e1]; try simp) (by simp [hp])
  · simp (disch := omega) only [Try.ntmps179, Try.results179, go_sem, Nat.reduceLT, Nat.reduceLeDiff, Nat.reduceEqDiff, Nat.reduceAdd, Nat.reduceSub, Nat.reduceMul, reduceIte, ↓reduceIte, reduceCtorEq, Int.reduceToNat, Int.reduceLE, Int.reduceLT, Int.reduceNeg, Int.reduceSub, Int.reduceAdd, Int.reduceMul]
    have e2 : canon L = out := by
      have : L.take k = L := List.take_of_length_le (by omega)
      rw [canon, ← this, he]
    have e3 : out.length = L.length := by rw [l2, l3]; omega
    rw [e2, e3]
    exact fin_ints e3.symm (by rw [hp_map, hmap_cons, if_pos rfl])
theorem Try.specCanon_ok (L : List Int) (hL : L.length ≤ 1048576) : PCall Try.prog 179 [ri L] (ri (canon L)) :=
  (Try.specCanon_f L hL).pcall 2 (fun _ _ h => flat_view h)
end Go.Sh

/-
  Contracts: pairs of partitions and their meet. Of the reference and of the program.
-/
namespace Go.Sh
set_option linter.unusedSimpArgs false
set_option linter.unusedVariables false
open Go Go.Proofs

def pairB (A B : List Int) : Bool := isPart A && (isPart B && decide (A.length = B.length))
theorem pairB_t {A B : List Int} (h : pairB A B = true) : isPart A = true ∧ isPart B = true ∧ A.length = B.length := by
  simpa [pairB] using h

theorem okP_bound : ∀ (L : List Int) (nx : Int), okP nx L = true → ∀ i, i < L.length → 0 ≤ L.getD i 0 ∧ L.getD i 0 ≤ nx + i
  | [], nx, _, i, hi => by simp at hi
  | x :: L, nx, h, i, hi => by
    rw [okP, Bool.and_eq_true] at h
    obtain ⟨h1, h2⟩ := inR_of h.1
    match i with
    | 0 => simp; omega
    | i + 1 =>
      have := okP_bound L (max nx (x + 1)) h.2 i (by simpa using hi)
      have e : (x :: L).getD (i + 1) 0 = L.getD i 0 := by simp
      rw [e]
      omega
theorem isPart_len {L : List Int} (h : isPart L = true) : 1 ≤ L.length ∧ L.length ≤ 8 := by
  rw [isPart, Bool.and_eq_true] at h
  have := inR_of h.2
  omega
theorem isPart_bound {L : List Int} (h : isPart L = true) {i : Nat} (hi : i < L.length) : 0 ≤ L.getD i 0 ∧ L.getD i 0 ≤ 7 := by
  have hl := isPart_len h
  rw [isPart, Bool.and_eq_true] at h
  have := okP_bound L 0 h.1 i hi
  omega

def both (A B : List Int) : List Int := List.zipWith (fun x y => x * 8 + y) A B
theorem both_length {A B : List Int} (h : A.length = B.length) : (both A B).length = A.length := by simp [both, h]
theorem both_take {A B : List Int} {k : Nat} (h : A.length = B.length) (hk : k < A.length) : (both A B).take (k + 1) = (both A B).take k ++ [A.getD k 0 * 8 + B.getD k 0] := by
  have hb : k < (both A B).length := by rw [both_length h]; exact hk
  rw [List.take_succ_eq_append_getElem hb]
  congr 2
  have hk2 : k < B.length := by omega
  simp [both, hk, hk2]
theorem both_take_len {A B : List Int} {k : Nat} (h : A.length = B.length) (hk : k ≤ A.length) : ((both A B).take k).length = k := by
  rw [List.length_take, both_length h]; omega
def meet (A B : List Int) : List Int := canon (if pairB A B = true then both A B else [])

def meetF (A B : List Int) : Nat × Nat × Nat → St
  | (0, _, nb) => ⟨ofL [(0, ri A), (1, ri B), (5, .val (.slice none 0 0)), (12, .val (.int .i64 A.length)), (13, .val (.int .i64 0))], hp [] nb⟩
  | (k + 1, b, nb) => ⟨ofL [(0, ri A), (1, ri B), (5, .own b 0 (k + 1) (k + 1) 1 false), (12, .val (.int .i64 A.length)), (13, .val (.int .i64 ((k + 1 : Nat) : Int)))], hp [(b, ⟨ints ((both A B).take (k + 1)), false⟩)] nb⟩

theorem meet_f {A B : List Int} (h : pairB A B = false) : meet A B = [] := by rw [meet, if_neg (by simp [h])]; rfl
theorem meet_length {A B : List Int} (h : pairB A B = true) : (meet A B).length = A.length := by
  rw [meet, if_pos h, canon_length, both_length (pairB_t h).2.2]

end Go.Sh

/-
  Labels by first occurrence: what they tell of the list; refinement as equality of the meet.
-/
namespace Go.Sh
set_option linter.unusedSimpArgs false
set_option linter.unusedVariables false
open Go Go.Proofs

theorem idx_append {x y : Int} {S : List Int} (h : x ∈ S) : idx x (S ++ [y]) = idx x S := by
  unfold idx
  rw [if_pos h, if_pos (List.mem_append.2 (.inl h)), List.idxOf_append, if_pos h]
theorem idx_last {x : Int} {S : List Int} (h : ¬ x ∈ S) : idx x (S ++ [x]) = S.length := by
  unfold idx
  rw [if_pos (by simp), List.idxOf_append, if_neg h]
  simp
theorem idx_inj {x y : Int} {S : List Int} (hx : x ∈ S) (hy : y ∈ S) (h : idx x S = idx y S) : x = y := by
  unfold idx at h
  rw [if_pos hx, if_pos hy] at h
  have h' : S.idxOf x = S.idxOf y := by omega
  have h1 := List.getElem_idxOf (List.idxOf_lt_length_of_mem hx)
  have h2 := List.getElem_idxOf (List.idxOf_lt_length_of_mem hy)
  rw [← h1, ← h2]
  simp only [h']

theorem cst_spec (X : List Int) : ∀ k, k ≤ X.length → (∀ i, i < k → X.getD i 0 ∈ (cst (X.take k)).1 ∧ (cst (X.take k)).2.getD i 0 = idx (X.getD i 0) (cst (X.take k)).1) ∧ ∀ z, z ∈ (cst (X.take k)).1 → ∃ i, i < k ∧ X.getD i 0 = z
  | 0, _ => by
    refine ⟨fun i hi => by omega, fun z hz => ?_⟩
    rw [List.take_zero, cst_zero] at hz
    simp at hz
  | k + 1, hk => by
    obtain ⟨h1, h2⟩ := cst_spec X k (by omega)
    have e := cst_succ (L := X) (k := k) (by omega)
    have hlen : (cst (X.take k)).2.length = k := by rw [cst_len2]; simp; omega
    rw [e]
    generalize hs : cst (X.take k) = st at *
    obtain ⟨S, O⟩ := st
    simp only at h1 h2 hlen ⊢
    unfold cstep
    simp only
    by_cases hx : X.getD k 0 ∈ S
    · rw [if_pos hx]
      refine ⟨fun i hi => ?_, fun z hz => ?_⟩
      · rcases Nat.lt_succ_iff_lt_or_eq.mp hi with h | rfl
        · obtain ⟨g1, g2⟩ := h1 i h
          refine ⟨g1, ?_⟩
          rw [← g2]
          simp [List.getD, List.getElem?_append_left (show i < O.length by omega)]
        · refine ⟨hx, ?_⟩
          simp [List.getD, List.getElem?_append_right (show O.length ≤ i by omega), hlen]
      · obtain ⟨i, g1, g2⟩ := h2 z hz
        exact ⟨i, by omega, g2⟩
    · rw [if_neg hx]
      refine ⟨fun i hi => ?_, fun z hz => ?_⟩
      · rcases Nat.lt_succ_iff_lt_or_eq.mp hi with h | rfl
        · obtain ⟨g1, g2⟩ := h1 i h
          refine ⟨List.mem_append.2 (.inl g1), ?_⟩
          show (O ++ [(S.length : Int)]).getD i 0 = idx (X.getD i 0) (S ++ [X.getD k 0])
          rw [idx_append g1, ← g2]
          simp [List.getD, List.getElem?_append_left (show i < O.length by omega)]
        · refine ⟨by simp, ?_⟩
          show (O ++ [(S.length : Int)]).getD i 0 = idx (X.getD i 0) (S ++ [X.getD i 0])
          rw [idx_last hx]
          simp [List.getD, List.getElem?_append_right (show O.length ≤ i by omega), hlen]
      · rcases List.mem_append.1 hz with h | h
        · obtain ⟨i, g1, g2⟩ := h2 z h
          exact ⟨i, by omega, g2⟩
        · simp at h
          exact ⟨k, by omega, by simpa using h.symm⟩

theorem canon_inj {X : List Int} {i k : Nat} (hi : i < X.length) (hk : k < X.length) (h : (canon X).getD i 0 = (canon X).getD k 0) : X.getD i 0 = X.getD k 0 := by
  have := (cst_spec X X.length (Nat.le_refl _)).1
  rw [List.take_length] at this
  obtain ⟨g1, g2⟩ := this i hi
  obtain ⟨q1, q2⟩ := this k hk
  refine idx_inj g1 q1 ?_
  rw [← g2, ← q2]
  exact h

theorem canon_congr {X Y : List Int} (hl : X.length = Y.length) (h : ∀ i k, i < X.length → k < X.length → (X.getD i 0 = X.getD k 0 ↔ Y.getD i 0 = Y.getD k 0)) : canon X = canon Y := by
  have key : ∀ k, k ≤ X.length → (cst (X.take k)).2 = (cst (Y.take k)).2 ∧ (cst (X.take k)).1.length = (cst (Y.take k)).1.length := by
    intro k
    induction k with
    | zero => intro _; simp
    | succ k ih =>
      intro hk
      obtain ⟨i1, i2⟩ := ih (by omega)
      obtain ⟨x1, x2⟩ := cst_spec X k (by omega)
      obtain ⟨y1, y2⟩ := cst_spec Y k (by omega)
      rw [cst_succ (L := X) (by omega), cst_succ (L := Y) (by omega)]
      generalize hs : cst (X.take k) = sx at *
      generalize ht : cst (Y.take k) = sy at *
      obtain ⟨SX, OX⟩ := sx
      obtain ⟨SY, OY⟩ := sy
      simp only at i1 i2 x1 x2 y1 y2
      subst i1
      unfold cstep
      simp only
      by_cases hx : X.getD k 0 ∈ SX
      · obtain ⟨i, g1, g2⟩ := x2 _ hx
        have hy' := (h i k (by omega) (by omega)).1 g2
        have hy : Y.getD k 0 ∈ SY := by rw [← hy']; exact (y1 i g1).1
        rw [if_pos hx, if_pos hy]
        refine ⟨?_, i2⟩
        show OX ++ [idx (X.getD k 0) SX] = OX ++ [idx (Y.getD k 0) SY]
        rw [← g2, ← hy', ← (x1 i g1).2, ← (y1 i g1).2]
      · have hy : ¬ Y.getD k 0 ∈ SY := by
          intro hy
          obtain ⟨i, g1, g2⟩ := y2 _ hy
          have hx' := (h i k (by omega) (by omega)).2 g2
          exact hx (by rw [← hx']; exact (x1 i g1).1)
        rw [if_neg hx, if_neg hy]
        refine ⟨?_, ?_⟩
        · show OX ++ [(SX.length : Int)] = OX ++ [(SY.length : Int)]
          rw [i2]
        · simp [i2]
  have := (key X.length (Nat.le_refl _)).1
  rw [List.take_length] at this
  rw [canon, this, hl, List.take_length]; rfl

def rng (n : Nat) : List Int := (List.range n).map fun x : Nat => (x : Int)
theorem rng_succ (n : Nat) : rng (n + 1) = rng n ++ [(n : Int)] := by simp [rng, List.range_succ]
theorem rng_len (n : Nat) : (rng n).length = n := by simp [rng]
theorem rng_mem {n : Nat} {x : Int} : x ∈ rng n ↔ 0 ≤ x ∧ x < n := by
  simp only [rng, List.mem_map, List.mem_range]
  constructor
  · rintro ⟨a, h, rfl⟩; omega
  · rintro ⟨h1, h2⟩; exact ⟨x.toNat, by omega, by omega⟩
theorem rng_get {n i : Nat} (h : i < n) : (rng n).getD i 0 = i := by simp [rng, h]
theorem rng_idx {n : Nat} {x : Int} (h1 : 0 ≤ x) (h2 : x < n) : idx x (rng n) = x := by
  have hk : x.toNat < (rng n).length := by rw [rng_len]; omega
  have := idx_some (x := x) hk (fun i hi => by rw [rng_get (by omega)]; omega) (by rw [rng_get (by omega)]; omega)
  rw [this]; omega
theorem fold_part : ∀ (L : List Int) (n : Nat) (out : List Int), okP n L = true → ∃ m, L.foldl cstep (rng n, out) = (rng m, out ++ L)
  | [], n, out, _ => ⟨n, by simp⟩
  | x :: L, n, out, h => by
    rw [okP, Bool.and_eq_true] at h
    obtain ⟨h1, h2⟩ := inR_of h.1
    rw [List.foldl_cons]
    by_cases hx : x < n
    · have hm : x ∈ rng n := rng_mem.2 ⟨h1, hx⟩
      have e : max (n : Int) (x + 1) = n := by omega
      have h3 := h.2
      rw [e] at h3
      obtain ⟨m, hm'⟩ := fold_part L n (out ++ [x]) h3
      refine ⟨m, ?_⟩
      have : cstep (rng n, out) x = (rng n, out ++ [x]) := by
        unfold cstep
        rw [if_pos hm, rng_idx h1 hx]
      rw [this, hm']
      simp
    · have hm : ¬ x ∈ rng n := fun h => hx (rng_mem.1 h).2
      have ex : x = n := by omega
      have e : max (n : Int) (x + 1) = ((n + 1 : Nat) : Int) := by omega
      have h3 := h.2
      rw [e] at h3
      obtain ⟨m, hm'⟩ := fold_part L (n + 1) (out ++ [x]) h3
      refine ⟨m, ?_⟩
      have : cstep (rng n, out) x = (rng (n + 1), out ++ [x]) := by
        unfold cstep
        rw [if_neg hm, rng_succ]
        simp only [rng_len, ex]
      rw [this, hm']
      simp
theorem canon_part {A : List Int} (h : isPart A = true) : canon A = A := by
  rw [isPart, Bool.and_eq_true] at h
  obtain ⟨m, hm⟩ := fold_part A 0 [] h.1
  have : rng 0 = [] := rfl
  rw [this] at hm
  rw [canon, cst, hm]
  simp

def Ref (A B : List Int) : Prop := ∀ i k, k < i → i < A.length → A.getD i 0 = A.getD k 0 → B.getD i 0 = B.getD k 0
theorem both_get {A B : List Int} {k : Nat} (hl : A.length = B.length) (hk : k < A.length) : (both A B).getD k 0 = A.getD k 0 * 8 + B.getD k 0 := by
  have hk2 : k < B.length := by omega
  simp [both, List.getElem?_zipWith, hk, hk2]
theorem meet_iff {A B : List Int} (h : pairB A B = true) : meet A B = A ↔ Ref A B := by
  obtain ⟨pa, pb, hl⟩ := pairB_t h
  have hbl := both_length hl
  rw [meet, if_pos h]
  have hpat : ∀ i k, i < A.length → k < A.length → ((both A B).getD i 0 = (both A B).getD k 0 ↔ (A.getD i 0 = A.getD k 0 ∧ B.getD i 0 = B.getD k 0)) := by
    intro i k hi hk
    rw [both_get hl hi, both_get hl hk]
    have b1 := isPart_bound pb (i := i) (by omega)
    have b2 := isPart_bound pb (i := k) (by omega)
    constructor
    · intro e; omega
    · rintro ⟨e1, e2⟩; rw [e1, e2]
  constructor
  · intro e i k hki hi ha
    have h1 : (canon (both A B)).getD i 0 = (canon (both A B)).getD k 0 := by rw [e]; exact ha
    have h2 := canon_inj (by omega) (by omega) h1
    exact ((hpat i k hi (by omega)).1 h2).2
  · intro hr
    have hr' : ∀ i k, i < A.length → k < A.length → A.getD i 0 = A.getD k 0 → B.getD i 0 = B.getD k 0 := by
      intro i k hi hk e
      rcases Nat.lt_trichotomy k i with h | h | h
      · exact hr i k h hi e
      · rw [h]
      · exact (hr k i h hk e.symm).symm
    rw [canon_congr (Y := A) (by omega) (fun i k hi hk => ?_), canon_part pa]
    rw [hpat i k (by omega) (by omega)]
    exact ⟨fun e => e.1, fun e => ⟨e, hr' i k (by omega) (by omega) e⟩⟩
end Go.Sh

/-
  Contracts: is a list of numbers an order? Of the reference and of the program.
-/
namespace Go.Sh
set_option linter.unusedSimpArgs false
set_option linter.unusedVariables false
open Go Go.Proofs

theorem row_take {L : List Int} {k : Nat} (h : k ≤ L.length) : SV.row k false ((ints L).take k) = ri (L.take k) := by
  rw [ri]; simp [ints, Nat.min_eq_left h]

end Go.Sh

/-
  Sets of items as bits.
-/
namespace Go.Sh
set_option linter.unusedSimpArgs false
set_option linter.unusedVariables false
open Go

theorem bit_step : ∀ m : _root_.Fin 256, ∀ x y : _root_.Fin 8, 0 ≤ kor .i64 (m.val : Int) (kshl .i64 1 (x.val : Int)) ∧ kor .i64 (m.val : Int) (kshl .i64 1 (x.val : Int)) < 256 ∧
    (kand .i64 (kshr .i64 (kor .i64 (m.val : Int) (kshl .i64 1 (x.val : Int))) (y.val : Int)) 1 = 1 ↔ (kand .i64 (kshr .i64 (m.val : Int) (y.val : Int)) 1 = 1 ∨ y = x)) := by decide +kernel

def bits (m : Int) (L : List Int) : Prop := 0 ≤ m ∧ m < 256 ∧ ∀ y : Int, 0 ≤ y → y < 8 → (kand .i64 (kshr .i64 m y) 1 = 1 ↔ y ∈ L)
theorem bits_nil : bits 0 [] := by
  refine ⟨by omega, by omega, ?_⟩
  have h : ∀ y : _root_.Fin 8, ¬ kand .i64 (kshr .i64 0 (y.val : Int)) 1 = 1 := by decide +kernel
  intro y h1 h2
  have := h ⟨y.toNat, by omega⟩
  simp only [Int.toNat_of_nonneg h1] at this
  simp [this]
theorem bits_step {m x : Int} {L : List Int} (h : bits m L) (h1 : 0 ≤ x) (h2 : x < 8) : bits (kor .i64 m (kshl .i64 1 x)) (L ++ [x]) := by
  obtain ⟨a, b, c⟩ := h
  have e (y : Int) (h3 : 0 ≤ y) (h4 : y < 8) := bit_step ⟨m.toNat, by omega⟩ ⟨x.toNat, by omega⟩ ⟨y.toNat, by omega⟩
  simp only [Int.toNat_of_nonneg a, Int.toNat_of_nonneg h1] at e
  refine ⟨(e 0 (by omega) (by omega)).1, (e 0 (by omega) (by omega)).2.1, fun y h3 h4 => ?_⟩
  have e2 := (e y h3 h4).2.2
  simp only [Int.toNat_of_nonneg h3] at e2
  rw [e2, List.mem_append, c y h3 h4, List.mem_singleton]
  have : ((⟨y.toNat, by omega⟩ : _root_.Fin 8) = ⟨x.toNat, by omega⟩) ↔ y = x := by
    rw [_root_.Fin.mk.injEq]; omega
  rw [this]
end Go.Sh

/-
  Contracts: is a list of numbers an order? Of the reference.
-/
namespace Go.Sh
set_option linter.unusedSimpArgs false
set_option linter.unusedVariables false
open Go Go.Proofs

end Go.Sh

/-
  Pivots. Plain; and of the program and the reference.
-/
namespace Go.Sh
set_option linter.unusedSimpArgs false
set_option linter.unusedVariables false
open Go Go.Proofs

theorem ord_t {n : Int} {L : List Int} (h : isOrd n L = true) : (1 ≤ n ∧ n ≤ 8) ∧ (L.length : Int) = n ∧ (∀ k, k < L.length → 0 ≤ L.getD k 0 ∧ L.getD k 0 ≤ n - 1) ∧ ∀ i k, i < k → k < L.length → L.getD i 0 ≠ L.getD k 0 := by
  simp only [isOrd, Bool.and_eq_true] at h
  have hl := of_decide_eq_true h.2.1
  have hs : ∀ k, k ≤ L.length → okO n (L.take k) (L.drop k) = true := by
    intro k
    induction k with
    | zero => intro _; simpa using h.2.2
    | succ k ih =>
      intro hk
      have := ih (by omega)
      rw [okO_step (by omega), Bool.and_eq_true, Bool.and_eq_true] at this
      exact this.2.2
  have hk : ∀ k, k < L.length → inR (L.getD k 0) 0 (n - 1) = true ∧ (L.take k).contains (L.getD k 0) = false := fun k hk => by
    have := hs k (by omega)
    rw [okO_step hk, Bool.and_eq_true, Bool.and_eq_true] at this
    exact ⟨this.1, by simpa using this.2.1⟩
  refine ⟨inR_of h.1, hl, fun k h => inR_of (hk k h).1, fun i k hik hkl e => ?_⟩
  have h2 := (hk k hkl).2
  have : L.getD k 0 ∈ L.take k := by
    rw [← e]
    have hi : i < (L.take k).length := by rw [List.length_take]; omega
    have e2 : L.getD i 0 = (L.take k)[i] := by simp [show i < L.length by omega]
    rw [e2]; exact List.getElem_mem hi
  rw [List.contains_iff_mem.2 this] at h2
  cases h2

def gen (n : Nat) (f : Nat → Int) : List Int := (List.range n).map f
theorem gen_length (n : Nat) (f : Nat → Int) : (gen n f).length = n := by simp [gen]
theorem gen_at {n : Nat} {f : Nat → Int} {x : Nat} (h : x < n) : (gen n f).getD x 0 = f x := by simp [gen, h]
theorem gen_congr {n : Nat} {f g : Nat → Int} (h : ∀ x, x < n → f x = g x) : gen n f = gen n g := List.map_congr_left fun x hx => h x (by simpa using hx)
theorem gen_set {n k : Nat} {f : Nat → Int} {a : Int} (h : k < n) : (gen n f).set k a = gen n fun x => if x = k then a else f x := by
  refine list_ext (by simp [gen]) fun x hx => ?_
  rw [List.length_set, gen_length] at hx
  rw [getD_set (by rw [gen_length]; exact h), gen_at hx, gen_at hx]
theorem gen_self {n : Nat} {L : List Int} (h : L.length = n) : L = gen n fun x => L.getD x 0 := list_ext (by rw [gen_length, h]) fun x hx => by rw [gen_at (by omega)]
/-- The labels after i items of the order: the number of the pivot. -/
def pv (M : List (List Int)) (O : List Int) : Nat → List Int
  | 0 => List.replicate M.length (-1)
  | i + 1 => if 0 ≤ (pv M O i).getD (O.getD i 0).toNat 0 then pv M O i else gen M.length fun x => if (pv M O i).getD x 0 < 0 ∧ (x = (O.getD i 0).toNat ∨ 0 < mat M (O.getD i 0).toNat x) then (i : Int) else (pv M O i).getD x 0
theorem pv_length (M : List (List Int)) (O : List Int) : ∀ i, (pv M O i).length = M.length
  | 0 => by simp [pv]
  | i + 1 => by
    rw [pv]
    split
    · exact pv_length M O i
    · exact gen_length _ _
theorem pv_skip {M : List (List Int)} {O : List Int} {i p : Nat} (hp : O.getD i 0 = p) (h : 0 ≤ (pv M O i).getD p 0) : pv M O (i + 1) = pv M O i := by rw [pv, hp, Int.toNat_natCast, if_pos h]
theorem pv_step {M : List (List Int)} {O : List Int} {i p : Nat} (hp : O.getD i 0 = p) (h : (pv M O i).getD p 0 < 0) : pv M O (i + 1) = gen M.length fun x => if (pv M O i).getD x 0 < 0 ∧ (x = p ∨ 0 < mat M p x) then (i : Int) else (pv M O i).getD x 0 := by rw [pv, hp, Int.toNat_natCast, if_neg (by omega)]
theorem pv_r (M : List (List Int)) (O : List Int) : ∀ i x, x < M.length → -1 ≤ (pv M O i).getD x 0 ∧ (pv M O i).getD x 0 < i
  | 0, x, h => by rw [pv, getD_rep h]; simp
  | i + 1, x, h => by
    have ih := pv_r M O i x h
    rw [pv]
    split
    · omega
    · rw [gen_at h]
      split <;> omega
def fO (O : List Int) (q : Int) : Int := if q < 0 then -1 else O.getD q.toNat 0
/-- .. and the pivot itself. -/
def pw (M : List (List Int)) (O : List Int) (i : Nat) : List Int := gen M.length fun x => fO O ((pv M O i).getD x 0)
theorem pw_zero (M : List (List Int)) (O : List Int) : pw M O 0 = List.replicate M.length (-1) := by
  refine list_ext (by rw [pw, gen_length]; simp) fun x hx => ?_
  rw [pw, gen_length] at hx
  rw [pw, gen_at hx, pv, getD_rep hx]; rfl
theorem pw_at {M : List (List Int)} {O : List Int} {i x : Nat} (h : x < M.length) : (pw M O i).getD x 0 = fO O ((pv M O i).getD x 0) := gen_at h
theorem fO_neg {O : List Int} (h : ∀ k, k < O.length → 0 ≤ O.getD k 0) {q : Int} (hq : q < O.length) : fO O q < 0 ↔ q < 0 := by
  unfold fO
  split
  · simp_all
  · have := h q.toNat (by omega); omega
theorem pw_step {M : List (List Int)} {O : List Int} {i p : Nat} (ho : ∀ k, k < O.length → 0 ≤ O.getD k 0) (hi : i < O.length) (hp : O.getD i 0 = p) (h : (pv M O i).getD p 0 < 0) :
    pw M O (i + 1) = gen M.length fun x => if (pw M O i).getD x 0 < 0 ∧ (x = p ∨ 0 < mat M p x) then (p : Int) else (pw M O i).getD x 0 := by
  rw [pw, pv_step hp h]
  refine gen_congr fun x hx => ?_
  rw [gen_at hx, pw_at hx]
  have hr := pv_r M O i x hx
  have hn := fO_neg ho (q := (pv M O i).getD x 0) (by omega)
  by_cases hc : (pv M O i).getD x 0 < 0 ∧ (x = p ∨ 0 < mat M p x)
  · rw [if_pos hc, if_pos ⟨hn.2 hc.1, hc.2⟩, fO, if_neg (by omega), Int.toNat_natCast, hp]
  · rw [if_neg hc, if_neg (fun g => hc ⟨hn.1 g.1, g.2⟩)]
theorem pw_canon {M : List (List Int)} {O : List Int} (h : isOrd M.length O = true) : canon (pw M O O.length) = canon (pv M O O.length) := by
  obtain ⟨h1, h2, h3, h4⟩ := ord_t h
  have ho : ∀ k, k < O.length → 0 ≤ O.getD k 0 := fun k hk => (h3 k hk).1
  refine canon_congr (by rw [pw, gen_length, pv_length]) fun i k hi hk => ?_
  rw [pw, gen_length] at hi hk
  rw [pw_at hi, pw_at hk]
  have r1 := pv_r M O O.length i hi
  have r2 := pv_r M O O.length k hk
  have n1 := fO_neg ho (q := (pv M O O.length).getD i 0) (by omega)
  have n2 := fO_neg ho (q := (pv M O O.length).getD k 0) (by omega)
  generalize (pv M O O.length).getD i 0 = a at *
  generalize (pv M O O.length).getD k 0 = b at *
  refine ⟨fun e => ?_, fun e => by rw [e]⟩
  by_cases ha : a < 0
  · have := n1.2 ha
    have := n2.1 (by omega)
    omega
  · have hb : ¬ b < 0 := fun g => by have := n2.2 g; have := n1.1 (by omega); omega
    rw [fO, fO, if_neg ha, if_neg hb] at e
    rcases Nat.lt_trichotomy a.toNat b.toNat with g | g | g
    · exact absurd e (h4 _ _ g (by omega))
    · omega
    · exact absurd e.symm (h4 _ _ g (by omega))
open Classical in
noncomputable def piv (M : List (List Int)) (O : List Int) : List Int := if WM M ∧ isOrd M.length O = true then canon (pv M O O.length) else []
theorem piv_t {M : List (List Int)} {O : List Int} (h : WM M ∧ isOrd M.length O = true) : piv M O = canon (pv M O O.length) := by rw [piv, if_pos h]
theorem piv_f {M : List (List Int)} {O : List Int} (h : ¬ (WM M ∧ isOrd M.length O = true)) : piv M O = [] := by rw [piv, if_neg h]
theorem piv_length {M : List (List Int)} {O : List Int} (h : WM M ∧ isOrd M.length O = true) : (piv M O).length = M.length := by rw [piv_t h, canon_length, pv_length]

/-- Inside a step of the program: the first k items looked at. -/
def pwk (M : List (List Int)) (P : List Int) (p k : Nat) : List Int := gen M.length fun x => if P.getD x 0 < 0 ∧ (x = p ∨ (x < k ∧ 0 < mat M p x)) then (p : Int) else P.getD x 0
theorem pwk_zero {M : List (List Int)} {P : List Int} {p : Nat} (hl : P.length = M.length) (hp : p < M.length) (h : P.getD p 0 < 0) : P.set p p = pwk M P p 0 := by
  refine list_ext (by rw [List.length_set, pwk, gen_length, hl]) fun x hx => ?_
  rw [List.length_set] at hx
  rw [getD_set (by omega), pwk, gen_at (by omega)]
  by_cases e : x = p
  · rw [if_pos e, if_pos ⟨by rw [e]; exact h, .inl e⟩]
  · rw [if_neg e, if_neg (by rintro ⟨_, g | g⟩ <;> omega)]
theorem pwk_at {M : List (List Int)} {P : List Int} {p k x : Nat} (h : x < M.length) : (pwk M P p k).getD x 0 = if P.getD x 0 < 0 ∧ (x = p ∨ (x < k ∧ 0 < mat M p x)) then (p : Int) else P.getD x 0 := gen_at h
theorem pwk_put {M : List (List Int)} {P : List Int} {p k : Nat} (hk : k < M.length) (hw : 0 < mat M p k) (h : (pwk M P p k).getD k 0 < 0) : (pwk M P p k).set k p = pwk M P p (k + 1) := by
  rw [pwk, gen_set hk, pwk]
  refine gen_congr fun x hx => ?_
  have hkk := pwk_at (P := P) (p := p) (k := k) hk
  rw [hkk] at h
  by_cases e : x = k
  · subst e
    have hP : P.getD x 0 < 0 := by
      split at h
      · omega
      · exact h
    rw [if_pos rfl, if_pos ⟨hP, .inr ⟨by omega, hw⟩⟩]
  · rw [if_neg e]
    by_cases hc : P.getD x 0 < 0 ∧ (x = p ∨ (x < k ∧ 0 < mat M p x))
    · rw [if_pos hc, if_pos ⟨hc.1, hc.2.imp id fun g => ⟨by omega, g.2⟩⟩]
    · rw [if_neg hc, if_neg (fun g => hc ⟨g.1, g.2.imp id fun q => ⟨by omega, q.2⟩⟩)]
theorem pwk_skip {M : List (List Int)} {P : List Int} {p k : Nat} (h : ¬ (0 < mat M p k ∧ (pwk M P p k).getD k 0 < 0)) (hk : k < M.length) : pwk M P p k = pwk M P p (k + 1) := by
  refine gen_congr fun x hx => ?_
  by_cases e : x = k
  · subst e
    by_cases hc : P.getD x 0 < 0 ∧ (x = p ∨ (x < x ∧ 0 < mat M p x))
    · rw [if_pos hc, if_pos ⟨hc.1, hc.2.imp id fun g => ⟨by omega, g.2⟩⟩]
    · rw [if_neg hc]
      rw [pwk_at hx, if_neg hc] at h
      rw [if_neg (fun g => ?_)]
      rcases g.2 with g2 | g2
      · exact hc ⟨g.1, .inl g2⟩
      · exact h ⟨g2.2, g.1⟩
  · by_cases hc : P.getD x 0 < 0 ∧ (x = p ∨ (x < k ∧ 0 < mat M p x))
    · rw [if_pos hc, if_pos ⟨hc.1, hc.2.imp id fun g => ⟨by omega, g.2⟩⟩]
    · rw [if_neg hc, if_neg (fun g => hc ⟨g.1, g.2.imp id fun q => ⟨by omega, q.2⟩⟩)]
theorem pwk_all {M : List (List Int)} {P : List Int} {p : Nat} : pwk M P p M.length = gen M.length fun x => if P.getD x 0 < 0 ∧ (x = p ∨ 0 < mat M p x) then (p : Int) else P.getD x 0 := by
  refine gen_congr fun x hx => ?_
  by_cases hc : P.getD x 0 < 0 ∧ (x = p ∨ 0 < mat M p x)
  · rw [if_pos hc, if_pos ⟨hc.1, hc.2.imp id fun g => ⟨hx, g⟩⟩]
  · rw [if_neg hc, if_neg (fun g => hc ⟨g.1, g.2.imp id fun q => q.2⟩)]

end Go.Sh

/-
  Contracts: pivots, of the reference; both as one.
-/
namespace Go.Sh
set_option linter.unusedSimpArgs false
set_option linter.unusedVariables false
open Go Go.Proofs

def pvk (M : List (List Int)) (Q : List Int) (p i k : Nat) : List Int := gen M.length fun x => if x < k ∧ Q.getD x 0 < 0 ∧ (x = p ∨ 0 < mat M p x) then (i : Int) else Q.getD x 0
theorem pvk_zero {M : List (List Int)} {Q : List Int} {p i : Nat} (hl : Q.length = M.length) : pvk M Q p i 0 = Q := by
  rw [pvk, gen_self hl]
  refine gen_congr fun x hx => ?_
  rw [if_neg (by omega), gen_at hx]
theorem pvk_self {M : List (List Int)} {Q : List Int} {p i k : Nat} (h : k < M.length) : (pvk M Q p i k).getD k 0 = Q.getD k 0 := by rw [pvk, gen_at h, if_neg (by omega)]
theorem pvk_put {M : List (List Int)} {Q : List Int} {p i k : Nat} (hk : k < M.length) (h : Q.getD k 0 < 0 ∧ (k = p ∨ 0 < mat M p k)) : (pvk M Q p i k).set k i = pvk M Q p i (k + 1) := by
  rw [pvk, gen_set hk, pvk]
  refine gen_congr fun x hx => ?_
  by_cases e : x = k
  · subst e; rw [if_pos rfl, if_pos ⟨by omega, h⟩]
  · rw [if_neg e]
    by_cases hc : x < k ∧ Q.getD x 0 < 0 ∧ (x = p ∨ 0 < mat M p x)
    · rw [if_pos hc, if_pos ⟨by omega, hc.2⟩]
    · rw [if_neg hc, if_neg (fun g => hc ⟨by omega, g.2⟩)]
theorem pvk_skip {M : List (List Int)} {Q : List Int} {p i k : Nat} (h : ¬ (Q.getD k 0 < 0 ∧ (k = p ∨ 0 < mat M p k))) : pvk M Q p i k = pvk M Q p i (k + 1) := by
  refine gen_congr fun x hx => ?_
  by_cases e : x = k
  · subst e; rw [if_neg (by omega), if_neg (fun g => h g.2)]
  · by_cases hc : x < k ∧ Q.getD x 0 < 0 ∧ (x = p ∨ 0 < mat M p x)
    · rw [if_pos hc, if_pos ⟨by omega, hc.2⟩]
    · rw [if_neg hc, if_neg (fun g => hc ⟨by omega, g.2⟩)]
theorem pvk_all {M : List (List Int)} {Q : List Int} {p i : Nat} : pvk M Q p i M.length = gen M.length fun x => if Q.getD x 0 < 0 ∧ (x = p ∨ 0 < mat M p x) then (i : Int) else Q.getD x 0 := by
  refine gen_congr fun x hx => ?_
  by_cases hc : Q.getD x 0 < 0 ∧ (x = p ∨ 0 < mat M p x)
  · rw [if_pos hc, if_pos ⟨hx, hc⟩]
  · rw [if_neg hc, if_neg (fun g => hc g.2)]

end Go.Sh

/-
  Contracts: an item moved to another block. Of the program.
-/
namespace Go.Sh
set_option linter.unusedSimpArgs false
set_option linter.unusedVariables false
open Go Go.Proofs

def top (L : List Int) (k : Nat) : Int := (L.take k).foldl max (-1)
theorem top_zero (L : List Int) : top L 0 = -1 := rfl
theorem top_succ {L : List Int} {k : Nat} (h : k < L.length) : top L (k + 1) = max (top L k) (L.getD k 0) := by
  rw [top, List.take_succ_eq_append_getElem h, List.foldl_append]
  simp [top, h]
theorem top_ge (L : List Int) : ∀ k, k ≤ L.length → -1 ≤ top L k
  | 0, _ => by rw [top_zero]; omega
  | k + 1, h => by
    have := top_ge L k (by omega)
    rw [top_succ (by omega)]; omega
theorem top_part {L : List Int} (h : isPart L = true) : ∀ k, k ≤ L.length → top L k ≤ 7
  | 0, _ => by rw [top_zero]; omega
  | k + 1, hk => by
    have := top_part h k (by omega)
    have := (isPart_bound h (i := k) (by omega)).2
    rw [top_succ (by omega)]; omega
def moveOk (L : List Int) (it bl : Int) : Bool := isPart L && (inR it 0 ((L.length : Int) - 1) && inR bl 0 (top L L.length + 1))
def moveTo (L : List Int) (it bl : Int) : List Int := if moveOk L it bl = true then canon (L.set it.toNat bl) else L
theorem moveTo_length (L : List Int) (it bl : Int) : (moveTo L it bl).length = L.length := by
  unfold moveTo
  split
  · rw [canon_length]; simp
  · rfl

set_option maxHeartbeats 1000000 in
theorem Try.slicesMax_ok (L : List Int) (h : isPart L = true) : PCall Try.prog 180 [ri L] (.val (.int .i64 (top L L.length))) := by
  obtain ⟨l1, l2⟩ := isPart_len h
  have b0 := isPart_bound h (i := 0) (by omega)
  have t1 : top L 1 = L.getD 0 0 := by
    have := top_succ (L := L) (k := 0) (by omega)
    rw [top_zero, Int.max_def] at this
    rw [this, if_pos (by omega)]
  refine FCall.pcall (R := fun r _ => r = .val (.int .i64 (top L L.length))) ?_ 0 (by rintro r H rfl; exact view_int)
  refine FCall.of_body Try.func180 rfl (by kernel_rfl) (by simp [Try.ntmps180]) ?_
  refine SW_of_vc Try.mixed _ _ _ (by kernel_rfl) ?_
  simp (disch := omega) only [Try.ntmps180, Try.results180, go_sem, Nat.reduceLT, Nat.reduceLeDiff, Nat.reduceEqDiff, Nat.reduceAdd, Nat.reduceSub, Nat.reduceMul, reduceIte, ↓reduceIte, reduceCtorEq, Int.reduceToNat, Int.reduceLE, Int.reduceLT, Int.reduceNeg, Int.reduceSub, Int.reduceAdd, Int.reduceMul]
  refine LoopW.loop (fun k : Nat => ⟨ofL [(0, ri L), (3, .val (.int .i64 (top L k))), (4, .val (.int .i64 k))], hp [] 0⟩) (fun k => 1 ≤ k ∧ k ≤ L.length) (fun k => L.length - k) 1 ⟨by omega, by omega⟩ (Wk.of (by simp only [go_sem, ↓List.forall_mem_cons, List.not_mem_nil, false_implies, implies_true, and_true, true_and, and_self, Nat.reduceEqDiff, reduceIte, ↓reduceIte, ri_eq, Int.natCast_add, Int.cast_ofNat_Int, t1]; try simp) rfl) ?_
  rintro k ⟨hk1, hk⟩
  refine SW_of_vc Try.mixed _ _ _ (by kernel_rfl) ?_
  by_cases hlt : k < L.length
  · have e : top L (k + 1) = if top L k < L.getD k 0 then L.getD k 0 else top L k := by
      rw [top_succ hlt, Int.max_def]
      split <;> split <;> omega
    simp (disch := omega) only [Try.ntmps180, Try.results180, go_sem, Nat.reduceLT, Nat.reduceLeDiff, Nat.reduceEqDiff, Nat.reduceAdd, Nat.reduceSub, Nat.reduceMul, reduceIte, ↓reduceIte, reduceCtorEq, Int.reduceToNat, Int.reduceLE, Int.reduceLT, Int.reduceNeg, Int.reduceSub, Int.reduceAdd, Int.reduceMul]
    exact ⟨k + 1, ⟨by omega, by omega⟩, by omega, Wk.of (by simp only [go_sem, ↓List.forall_mem_cons, List.not_mem_nil, false_implies, implies_true, and_true, true_and, and_self, Nat.reduceEqDiff, reduceIte, ↓reduceIte, ri_eq, Int.natCast_add, Int.cast_ofNat_Int, e]; try simp) rfl⟩
  · obtain rfl : k = L.length := by omega
    simp (disch := omega) only [Try.ntmps180, Try.results180, go_sem, Nat.reduceLT, Nat.reduceLeDiff, Nat.reduceEqDiff, Nat.reduceAdd, Nat.reduceSub, Nat.reduceMul, reduceIte, ↓reduceIte, reduceCtorEq, Int.reduceToNat, Int.reduceLE, Int.reduceLT, Int.reduceNeg, Int.reduceSub, Int.reduceAdd, Int.reduceMul]
    exact Fin.val rfl

theorem Try.blockCount_ok (L : List Int) (h : isPart L = true) : PCall Try.prog 152 [ri L] (.val (.int .i64 (top L L.length + 1))) := by
  have h1 := top_ge L L.length (Nat.le_refl _)
  have h2 := top_part h L.length (Nat.le_refl _)
  refine FCall.pcall (R := fun r _ => r = .val (.int .i64 (top L L.length + 1))) ?_ 0 (by rintro r H rfl; exact view_int)
  refine FCall.of_body Try.func152 rfl (by kernel_rfl) (by simp [Try.ntmps152]) ?_
  refine SW_of_vc Try.mixed _ _ _ (by kernel_rfl) ?_
  simp (disch := omega) only [Try.ntmps152, Try.results152, go_sem, Nat.reduceLT, Nat.reduceLeDiff, Nat.reduceEqDiff, Nat.reduceAdd, Nat.reduceSub, Nat.reduceMul, reduceIte, ↓reduceIte, reduceCtorEq, Int.reduceToNat, Int.reduceLE, Int.reduceLT, Int.reduceNeg, Int.reduceSub, Int.reduceAdd, Int.reduceMul]
  refine (Try.slicesMax_ok L h).callV 0 (viewL_cons_of (view_rowL (by first | rfl | simp [marks_length, canon_length] | omega)) viewL_nil_of) ?_
  simp (disch := omega) only [Try.ntmps152, Try.results152, go_sem, Nat.reduceLT, Nat.reduceLeDiff, Nat.reduceEqDiff, Nat.reduceAdd, Nat.reduceSub, Nat.reduceMul, reduceIte, ↓reduceIte, reduceCtorEq, Int.reduceToNat, Int.reduceLE, Int.reduceLT, Int.reduceNeg, Int.reduceSub, Int.reduceAdd, Int.reduceMul]
  exact Fin.val rfl

theorem Try.clone_f (L : List Int) (hL : L.length ≤ 1048576) (h0 : 0 < L.length) : FCall Try.prog 148 [ri L] (FlatRes L.length 1 (ints L)) := by
  have hf := ints_flat L
  refine FCall.of_body Try.func148 rfl (by kernel_rfl) (by simp [Try.ntmps148]) ?_
  refine SW_of_vc Try.mixed _ _ _ (by kernel_rfl) ?_
  simp (disch := omega) only [Try.ntmps148, Try.results148, go_sem, Nat.reduceLT, Nat.reduceLeDiff, Nat.reduceEqDiff, Nat.reduceAdd, Nat.reduceSub, Nat.reduceMul, reduceIte, ↓reduceIte, reduceCtorEq, Int.reduceToNat, Int.reduceLE, Int.reduceLT, Int.reduceNeg, Int.reduceSub, Int.reduceAdd, Int.reduceMul, hf]
  exact fin_ints rfl (by rw [hp_map, hmap_cons, if_pos rfl])

/-- Of an empty slice that is not nil. -/
theorem Try.clone_0 (H : Heap) (b cap : Nat) (ex e2 : Bool) (hb : H.map b = some ⟨ints [], e2⟩) (hbn : b ≠ H.nb) : CallS Try.prog 148 [.own b 0 0 cap 1 ex] H (fun r H' => r = .own H.nb 0 0 0 1 false ∧ H' = H.push ⟨[], false⟩) := by
  refine CallS.of_body Try.func148 rfl (by kernel_rfl) (by simp [Try.ntmps148]) ?_
  refine SW_of_vc Try.mixed _ _ _ (by kernel_rfl) ?_
  have p1 : (H.push ⟨[], false⟩).map H.nb = some ⟨[], false⟩ := by simp [Heap.push]
  have p2 : (H.push ⟨[], false⟩).map b = some ⟨ints [], e2⟩ := by simp [Heap.push, hbn, hb]
  simp (disch := omega) only [Try.ntmps148, Try.results148, go_sem, Nat.reduceLT, Nat.reduceLeDiff, Nat.reduceEqDiff, Nat.reduceAdd, Nat.reduceSub, Nat.reduceMul, reduceIte, ↓reduceIte, reduceCtorEq, Int.reduceToNat, Int.reduceLE, Int.reduceLT, Int.reduceNeg, Int.reduceSub, Int.reduceAdd, Int.reduceMul, hb, p1, p2]

set_option maxHeartbeats 1000000 in
theorem Try.moved_f (L : List Int) (it bl : Int) (h : moveOk L it bl = true) : FCall Try.prog 149 [ri L, .val (.int .i64 it), .val (.int .i64 bl)] (FlatRes L.length 1 (ints (moveTo L it bl))) := by
  have hm : moveTo L it bl = canon (L.set it.toNat bl) := by rw [moveTo, if_pos h]
  have hml := moveTo_length L it bl
  unfold moveOk at h
  simp only [Bool.and_eq_true] at h
  obtain ⟨hp1, hi, _⟩ := h
  obtain ⟨l1, l2⟩ := isPart_len hp1
  obtain ⟨i1, i2⟩ := inR_of hi
  have hsl : (L.set it.toNat bl).length = L.length := by simp
  have w2 := (Try.implCanon_f (L.set it.toNat bl) (by omega) (fun e => by rw [e] at hsl; simp at hsl; omega)).one
  rw [hsl] at w2
  refine FCall.of_body Try.func149 rfl (by kernel_rfl) (by simp [Try.ntmps149]) ?_
  refine SW_of_vc Try.mixed _ _ _ (by kernel_rfl) ?_
  simp (disch := omega) only [Try.ntmps149, Try.results149, go_sem, Nat.reduceLT, Nat.reduceLeDiff, Nat.reduceEqDiff, Nat.reduceAdd, Nat.reduceSub, Nat.reduceMul, reduceIte, ↓reduceIte, reduceCtorEq, Int.reduceToNat, Int.reduceLE, Int.reduceLT, Int.reduceNeg, Int.reduceSub, Int.reduceAdd, Int.reduceMul]
  refine (Try.clone_f L (by omega) (by omega)).one.callOne (ints_vals L) 0 (viewL_cons_of (view_rowL (by first | rfl | simp [marks_length, canon_length] | omega)) viewL_nil_of) ?_
  simp (disch := omega) only [Try.ntmps149, Try.results149, go_sem, Nat.reduceLT, Nat.reduceLeDiff, Nat.reduceEqDiff, Nat.reduceAdd, Nat.reduceSub, Nat.reduceMul, reduceIte, ↓reduceIte, reduceCtorEq, Int.reduceToNat, Int.reduceLE, Int.reduceLT, Int.reduceNeg, Int.reduceSub, Int.reduceAdd, Int.reduceMul]
  refine w2.callOne (ints_vals _) 1 (viewL_cons_of (view_own (by rw [hp_map, hmap_cons, if_pos rfl]) (by omega)) viewL_nil_of) ?_
  simp (disch := omega) only [Try.ntmps149, Try.results149, go_sem, Nat.reduceLT, Nat.reduceLeDiff, Nat.reduceEqDiff, Nat.reduceAdd, Nat.reduceSub, Nat.reduceMul, reduceIte, ↓reduceIte, reduceCtorEq, Int.reduceToNat, Int.reduceLE, Int.reduceLT, Int.reduceNeg, Int.reduceSub, Int.reduceAdd, Int.reduceMul]
  rw [hm]
  exact fin_ints (by rw [← hm]; omega) (by rw [hp_map, hmap_cons, if_pos rfl])

theorem fin_tup {n z cap b : Nat} {ex e2 : Bool} {cs : List SV} {u : Value} {H : Heap} (hn : cs.length = n * z) (hv : cs.all isVal = true) (hb : H.map b = some ⟨cs, e2⟩) :
    Fin (fun r H => ∃ r0, r = .tup [r0, .val u] ∧ FlatRes n z cs r0 H) (.tup [.own b 0 n cap z ex, .val u]) H := by
  obtain ⟨H2, h1, _, h3, h4⟩ := flat_fin (ex := ex) (cap := cap) hn hv hb
  exact ⟨H2, h1, by simp [noRow, noRowL], h3, _, rfl, h4⟩

set_option maxHeartbeats 2000000 in
theorem Try.implMove_f (L : List Int) (it bl : Int) (hL : L.length ≤ 1048576) (h0 : 0 < L.length) : FCall Try.prog 86 [ri L, .val (.int .i64 it), .val (.int .i64 bl)] (fun r H => ∃ r0, r = .tup [r0, .val (.bool (moveOk L it bl))] ∧ FlatRes L.length 1 (ints (moveTo L it bl)) r0 H) := by
  have w1 := Try.implIsPartition_ok L hL
  have wc := (Try.clone_f L hL h0).one
  have hml := moveTo_length L it bl
  refine FCall.of_body Try.func86 rfl (by kernel_rfl) (by simp [Try.ntmps86]) ?_
  refine SW_of_vc Try.mixed _ _ _ (by kernel_rfl) ?_
  rcases Bool.eq_false_or_eq_true (isPart L) with h1 | h1
  · rw [h1] at w1
    have w2 := Try.isItem_ok it L.length (by omega) (by omega)
    rcases Bool.eq_false_or_eq_true (inR it 0 ((L.length : Int) - 1)) with h2 | h2
    · rw [h2] at w2
      have w3 := Try.blockCount_ok L h1
      have w4 := Try.within_ok bl 0 (top L L.length + 1)
      rcases Bool.eq_false_or_eq_true (inR bl 0 (top L L.length + 1)) with h3 | h3
      · rw [h3] at w4
        have hok : moveOk L it bl = true := by rw [moveOk, h1, h2, h3]; rfl
        have w5 := (Try.moved_f L it bl hok).one
        simp (disch := omega) only [Try.ntmps86, Try.results86, go_sem, Nat.reduceLT, Nat.reduceLeDiff, Nat.reduceEqDiff, Nat.reduceAdd, Nat.reduceSub, Nat.reduceMul, reduceIte, ↓reduceIte, reduceCtorEq, Int.reduceToNat, Int.reduceLE, Int.reduceLT, Int.reduceNeg, Int.reduceSub, Int.reduceAdd, Int.reduceMul]
        refine w1.callV 0 (viewL_cons_of (view_rowL (by first | rfl | simp [marks_length, canon_length] | omega)) viewL_nil_of) ?_
        simp (disch := omega) only [Try.ntmps86, Try.results86, go_sem, Nat.reduceLT, Nat.reduceLeDiff, Nat.reduceEqDiff, Nat.reduceAdd, Nat.reduceSub, Nat.reduceMul, reduceIte, ↓reduceIte, reduceCtorEq, Int.reduceToNat, Int.reduceLE, Int.reduceLT, Int.reduceNeg, Int.reduceSub, Int.reduceAdd, Int.reduceMul]
        refine w2.callV 0 (viewL_cons_of (view_int) (viewL_cons_of (view_int) viewL_nil_of)) ?_
        simp (disch := omega) only [Try.ntmps86, Try.results86, go_sem, Nat.reduceLT, Nat.reduceLeDiff, Nat.reduceEqDiff, Nat.reduceAdd, Nat.reduceSub, Nat.reduceMul, reduceIte, ↓reduceIte, reduceCtorEq, Int.reduceToNat, Int.reduceLE, Int.reduceLT, Int.reduceNeg, Int.reduceSub, Int.reduceAdd, Int.reduceMul]
        refine w3.callV 0 (viewL_cons_of (view_rowL (by first | rfl | simp [marks_length, canon_length] | omega)) viewL_nil_of) ?_
        simp (disch := omega) only [Try.ntmps86, Try.results86, go_sem, Nat.reduceLT, Nat.reduceLeDiff, Nat.reduceEqDiff, Nat.reduceAdd, Nat.reduceSub, Nat.reduceMul, reduceIte, ↓reduceIte, reduceCtorEq, Int.reduceToNat, Int.reduceLE, Int.reduceLT, Int.reduceNeg, Int.reduceSub, Int.reduceAdd, Int.reduceMul]
        refine w4.callV 0 (viewL_cons_of (view_int) (viewL_cons_of (view_int) (viewL_cons_of (view_int) viewL_nil_of))) ?_
        simp (disch := omega) only [Try.ntmps86, Try.results86, go_sem, Nat.reduceLT, Nat.reduceLeDiff, Nat.reduceEqDiff, Nat.reduceAdd, Nat.reduceSub, Nat.reduceMul, reduceIte, ↓reduceIte, reduceCtorEq, Int.reduceToNat, Int.reduceLE, Int.reduceLT, Int.reduceNeg, Int.reduceSub, Int.reduceAdd, Int.reduceMul]
        refine w5.callOne (ints_vals _) 0 (viewL_cons_of (view_rowL (by first | rfl | simp [marks_length, canon_length] | omega)) (viewL_cons_of (view_int) (viewL_cons_of (view_int) viewL_nil_of))) ?_
        simp (disch := omega) only [Try.ntmps86, Try.results86, go_sem, Nat.reduceLT, Nat.reduceLeDiff, Nat.reduceEqDiff, Nat.reduceAdd, Nat.reduceSub, Nat.reduceMul, reduceIte, ↓reduceIte, reduceCtorEq, Int.reduceToNat, Int.reduceLE, Int.reduceLT, Int.reduceNeg, Int.reduceSub, Int.reduceAdd, Int.reduceMul]
        rw [hok]
        exact fin_tup (by simp [ints, hml]) (ints_vals _) (by rw [hp_map, hmap_cons, if_pos rfl])
      · rw [h3] at w4
        have hok : moveOk L it bl = false := by rw [moveOk, h3, Bool.and_false, Bool.and_false]
        have hmt : moveTo L it bl = L := by rw [moveTo, if_neg (by rw [hok]; simp)]
        simp (disch := omega) only [Try.ntmps86, Try.results86, go_sem, Nat.reduceLT, Nat.reduceLeDiff, Nat.reduceEqDiff, Nat.reduceAdd, Nat.reduceSub, Nat.reduceMul, reduceIte, ↓reduceIte, reduceCtorEq, Int.reduceToNat, Int.reduceLE, Int.reduceLT, Int.reduceNeg, Int.reduceSub, Int.reduceAdd, Int.reduceMul]
        refine w1.callV 0 (viewL_cons_of (view_rowL (by first | rfl | simp [marks_length, canon_length] | omega)) viewL_nil_of) ?_
        simp (disch := omega) only [Try.ntmps86, Try.results86, go_sem, Nat.reduceLT, Nat.reduceLeDiff, Nat.reduceEqDiff, Nat.reduceAdd, Nat.reduceSub, Nat.reduceMul, reduceIte, ↓reduceIte, reduceCtorEq, Int.reduceToNat, Int.reduceLE, Int.reduceLT, Int.reduceNeg, Int.reduceSub, Int.reduceAdd, Int.reduceMul]
        refine w2.callV 0 (viewL_cons_of (view_int) (viewL_cons_of (view_int) viewL_nil_of)) ?_
        simp (disch := omega) only [Try.ntmps86, Try.results86, go_sem, Nat.reduceLT, Nat.reduceLeDiff, Nat.reduceEqDiff, Nat.reduceAdd, Nat.reduceSub, Nat.reduceMul, reduceIte, ↓reduceIte, reduceCtorEq, Int.reduceToNat, Int.reduceLE, Int.reduceLT, Int.reduceNeg, Int.reduceSub, Int.reduceAdd, Int.reduceMul]
        refine w3.callV 0 (viewL_cons_of (view_rowL (by first | rfl | simp [marks_length, canon_length] | omega)) viewL_nil_of) ?_
        simp (disch := omega) only [Try.ntmps86, Try.results86, go_sem, Nat.reduceLT, Nat.reduceLeDiff, Nat.reduceEqDiff, Nat.reduceAdd, Nat.reduceSub, Nat.reduceMul, reduceIte, ↓reduceIte, reduceCtorEq, Int.reduceToNat, Int.reduceLE, Int.reduceLT, Int.reduceNeg, Int.reduceSub, Int.reduceAdd, Int.reduceMul]
        refine w4.callV 0 (viewL_cons_of (view_int) (viewL_cons_of (view_int) (viewL_cons_of (view_int) viewL_nil_of))) ?_
        simp (disch := omega) only [Try.ntmps86, Try.results86, go_sem, Nat.reduceLT, Nat.reduceLeDiff, Nat.reduceEqDiff, Nat.reduceAdd, Nat.reduceSub, Nat.reduceMul, reduceIte, ↓reduceIte, reduceCtorEq, Int.reduceToNat, Int.reduceLE, Int.reduceLT, Int.reduceNeg, Int.reduceSub, Int.reduceAdd, Int.reduceMul]
        refine wc.callOne (ints_vals _) 0 (viewL_cons_of (view_rowL (by first | rfl | simp [marks_length, canon_length] | omega)) viewL_nil_of) ?_
        simp (disch := omega) only [Try.ntmps86, Try.results86, go_sem, Nat.reduceLT, Nat.reduceLeDiff, Nat.reduceEqDiff, Nat.reduceAdd, Nat.reduceSub, Nat.reduceMul, reduceIte, ↓reduceIte, reduceCtorEq, Int.reduceToNat, Int.reduceLE, Int.reduceLT, Int.reduceNeg, Int.reduceSub, Int.reduceAdd, Int.reduceMul]
        rw [hok, hmt]
        exact fin_tup (by simp [ints]) (ints_vals _) (by rw [hp_map, hmap_cons, if_pos rfl])
    · rw [h2] at w2
      have hok : moveOk L it bl = false := by rw [moveOk, h2, Bool.false_and, Bool.and_false]
      have hmt : moveTo L it bl = L := by rw [moveTo, if_neg (by rw [hok]; simp)]
      simp (disch := omega) only [Try.ntmps86, Try.results86, go_sem, Nat.reduceLT, Nat.reduceLeDiff, Nat.reduceEqDiff, Nat.reduceAdd, Nat.reduceSub, Nat.reduceMul, reduceIte, ↓reduceIte, reduceCtorEq, Int.reduceToNat, Int.reduceLE, Int.reduceLT, Int.reduceNeg, Int.reduceSub, Int.reduceAdd, Int.reduceMul]
      refine w1.callV 0 (viewL_cons_of (view_rowL (by first | rfl | simp [marks_length, canon_length] | omega)) viewL_nil_of) ?_
      simp (disch := omega) only [Try.ntmps86, Try.results86, go_sem, Nat.reduceLT, Nat.reduceLeDiff, Nat.reduceEqDiff, Nat.reduceAdd, Nat.reduceSub, Nat.reduceMul, reduceIte, ↓reduceIte, reduceCtorEq, Int.reduceToNat, Int.reduceLE, Int.reduceLT, Int.reduceNeg, Int.reduceSub, Int.reduceAdd, Int.reduceMul]
      refine w2.callV 0 (viewL_cons_of (view_int) (viewL_cons_of (view_int) viewL_nil_of)) ?_
      simp (disch := omega) only [Try.ntmps86, Try.results86, go_sem, Nat.reduceLT, Nat.reduceLeDiff, Nat.reduceEqDiff, Nat.reduceAdd, Nat.reduceSub, Nat.reduceMul, reduceIte, ↓reduceIte, reduceCtorEq, Int.reduceToNat, Int.reduceLE, Int.reduceLT, Int.reduceNeg, Int.reduceSub, Int.reduceAdd, Int.reduceMul]
      refine wc.callOne (ints_vals _) 0 (viewL_cons_of (view_rowL (by first | rfl | simp [marks_length, canon_length] | omega)) viewL_nil_of) ?_
      simp (disch := omega) only [Try.ntmps86, Try.results86, go_sem, Nat.reduceLT, Nat.reduceLeDiff, Nat.reduceEqDiff, Nat.reduceAdd, Nat.reduceSub, Nat.reduceMul, reduceIte, ↓reduceIte, reduceCtorEq, Int.reduceToNat, Int.reduceLE, Int.reduceLT, Int.reduceNeg, Int.reduceSub, Int.reduceAdd, Int.reduceMul]
      rw [hok, hmt]
      exact fin_tup (by simp [ints]) (ints_vals _) (by rw [hp_map, hmap_cons, if_pos rfl])
  · rw [h1] at w1
    have hok : moveOk L it bl = false := by rw [moveOk, h1, Bool.false_and]
    have hmt : moveTo L it bl = L := by rw [moveTo, if_neg (by rw [hok]; simp)]
    simp (disch := omega) only [Try.ntmps86, Try.results86, go_sem, Nat.reduceLT, Nat.reduceLeDiff, Nat.reduceEqDiff, Nat.reduceAdd, Nat.reduceSub, Nat.reduceMul, reduceIte, ↓reduceIte, reduceCtorEq, Int.reduceToNat, Int.reduceLE, Int.reduceLT, Int.reduceNeg, Int.reduceSub, Int.reduceAdd, Int.reduceMul]
    refine w1.callV 0 (viewL_cons_of (view_rowL (by first | rfl | simp [marks_length, canon_length] | omega)) viewL_nil_of) ?_
    simp (disch := omega) only [Try.ntmps86, Try.results86, go_sem, Nat.reduceLT, Nat.reduceLeDiff, Nat.reduceEqDiff, Nat.reduceAdd, Nat.reduceSub, Nat.reduceMul, reduceIte, ↓reduceIte, reduceCtorEq, Int.reduceToNat, Int.reduceLE, Int.reduceLT, Int.reduceNeg, Int.reduceSub, Int.reduceAdd, Int.reduceMul]
    refine wc.callOne (ints_vals _) 0 (viewL_cons_of (view_rowL (by first | rfl | simp [marks_length, canon_length] | omega)) viewL_nil_of) ?_
    simp (disch := omega) only [Try.ntmps86, Try.results86, go_sem, Nat.reduceLT, Nat.reduceLeDiff, Nat.reduceEqDiff, Nat.reduceAdd, Nat.reduceSub, Nat.reduceMul, reduceIte, ↓reduceIte, reduceCtorEq, Int.reduceToNat, Int.reduceLE, Int.reduceLT, Int.reduceNeg, Int.reduceSub, Int.reduceAdd, Int.reduceMul]
    rw [hok, hmt]
    exact fin_tup (by simp [ints]) (ints_vals _) (by rw [hp_map, hmap_cons, if_pos rfl])
end Go.Sh

/-
  The best of the orders that begin with each item: plain; of the reference.
-/
namespace Go.Sh
set_option linter.unusedSimpArgs false
set_option linter.unusedVariables false
open Go Go.Proofs

theorem rep_none (zs : List SV) : rep zs 0 = [] := rfl
/-- The first k items of the order that begins with s. -/
def rot (n s k : Nat) : List Int := (List.range k).map fun i => (((s + i) % n : Nat) : Int)
theorem rot_length (n s k : Nat) : (rot n s k).length = k := by simp [rot]
theorem rot_succ (n s k : Nat) : rot n s (k + 1) = rot n s k ++ [(((s + k) % n : Nat) : Int)] := by simp [rot, List.range_succ]
theorem rot_snoc (n s k : Nat) : ints (rot n s k) ++ [.val (.int .i64 (((s + k) % n : Nat) : Int))] = ints (rot n s (k + 1)) := by rw [rot_succ]; simp [ints]
theorem rot_ord {n s : Nat} (h0 : 1 ≤ n) (h8 : n ≤ 8) (hs : s < n) : isOrd n (rot n s n) = true := by
  have : ∀ n : _root_.Fin 9, ∀ s : _root_.Fin 9, 1 ≤ n.val → s.val < n.val → isOrd n.val (rot n.val s.val n.val) = true := by decide +kernel
  exact this ⟨n, by omega⟩ ⟨s, by omega⟩ h0 hs
noncomputable def bpv (M : List (List Int)) : Nat → List Int × Int
  | 0 => ([], -1)
  | s + 1 => if (bpv M s).2 < 0 ∨ cc M (piv M (rot M.length s M.length)) M.length < (bpv M s).2 then (piv M (rot M.length s M.length), cc M (piv M (rot M.length s M.length)) M.length) else bpv M s
theorem bpv_inv {M : List (List Int)} (hw : WM M) : ∀ s, s ≤ M.length → (s = 0 ∨ ((bpv M s).1.length = M.length ∧ 0 ≤ (bpv M s).2))
  | 0, _ => .inl rfl
  | s + 1, hs => by
    have ih := bpv_inv hw s (by omega)
    have hb := cc_b (L := piv M (rot M.length s M.length)) hw M.length (Nat.le_refl _)
    right
    rw [bpv]
    split
    · exact ⟨piv_length ⟨hw, rot_ord (by have := hw.1; omega) hw.1.2 (by omega)⟩, hb.1⟩
    · rename_i h
      rcases ih with rfl | ih
      · simp [bpv] at h
      · exact ih
theorem rot_mod (s k n : Nat) : ((s : Int) + (k : Int)).tmod (n : Int) = (((s + k) % n : Nat) : Int) := by
  rw [← Int.natCast_add]; exact (Int.ofNat_tmod _ _).symm
open Classical in
noncomputable def bp (M : List (List Int)) : List Int × Int := if WM M then bpv M M.length else ([], -1)
theorem bp_t {M : List (List Int)} (h : WM M) : bp M = bpv M M.length := by rw [bp, if_pos h]
theorem bp_f {M : List (List Int)} (h : ¬ WM M) : bp M = ([], -1) := by rw [bp, if_neg h]
abbrev BpR (p : List Int × Int) (r : SV) (H : Heap) : Prop := ∃ r0, r = .tup [r0, .val (.int .i64 p.2)] ∧ FlatRes p.1.length 1 (ints p.1) r0 H

end Go.Sh

/-
  The best of the orders that begin with each item: of the program.
-/
namespace Go.Sh
set_option linter.unusedSimpArgs false
set_option linter.unusedVariables false
open Go Go.Proofs

/-- A slice of ints that is nil as long as it is empty. -/
def nlI (b : Nat) (T : List Int) : SV := if T.length = 0 then .val (.slice none 0 0) else .own b 0 T.length T.length 1 false
def nlH (b : Nat) (T : List Int) : List (Nat × Blk) := if T.length = 0 then [] else [(b, ⟨ints T, false⟩)]
theorem nlI_f {b : Nat} {T : List Int} (h : T.length ≠ 0) : nlI b T = .own b 0 T.length T.length 1 false := if_neg h
theorem nlH_f {b : Nat} {T : List Int} (h : T.length ≠ 0) : nlH b T = [(b, ⟨ints T, false⟩)] := if_neg h
theorem nlI_t {b : Nat} {T : List Int} (h : T.length = 0) : nlI b T = .val (.slice none 0 0) := if_pos h
theorem nlH_t {b : Nat} {T : List Int} (h : T.length = 0) : nlH b T = [] := if_pos h
theorem nlH_in {b : Nat} {T : List Int} {H : Heap} (h : T.length ≠ 0 → H.map b = some ⟨ints T, false⟩) : ∀ q ∈ nlH b T, H.map q.1 = some q.2 := by
  intro q hq
  unfold nlH at hq
  split at hq
  · simp at hq
  · rename_i h0
    simp at hq; subst hq
    exact h h0
theorem nlH_map {b : Nat} {T : List Int} (h : T.length ≠ 0) : hmap (nlH b T) b = some ⟨ints T, false⟩ := by rw [nlH_f h, hmap_cons, if_pos rfl]

theorem nlI_nil (b : Nat) : nlI b [] = .val (.slice none 0 0) := rfl
theorem delB_nlH {b x : Nat} {T : List Int} (h : T.length ≠ 0 → b ≠ x) : delB (nlH b T) x = nlH b T := by
  by_cases h0 : T.length = 0
  · rw [nlH_t h0]; rfl
  · rw [nlH_f h0]; have := h h0; simp [delB, this]

theorem view_tupJ {L : List Int} {n : Nat} {u : Int} {r r0 : SV} {H : Heap} (h : r = .tup [r0, .val (.int .i64 u)]) (hf : FlatRes n 1 (ints L) r0 H) : view H 3 r = some (.tup [ri L, .val (.int .i64 u)]) := by
  subst h
  have h1 : viewL H 2 [r0, .val (.int .i64 u)] = some [ri L, .val (.int .i64 u)] := viewL_cons_of (flat_view hf) (viewL_cons_of view_int viewL_nil_of)
  simp only [view, h1]
theorem bp_len {M : List (List Int)} (hw : WM M) : (bp M).1.length = M.length := by
  rw [bp_t hw]
  rcases bpv_inv hw M.length (Nat.le_refl _) with h | h
  · have := hw.1; omega
  · exact h.1
end Go.Sh

/-
  The search for the best partition: of the program.
-/
namespace Go.Sh
set_option linter.unusedSimpArgs false
set_option linter.unusedVariables false
open Go Go.Proofs

theorem hset_map (H : Heap) (b x : Nat) (k : Option Blk) : (H.set b k).map x = if x = b then k else H.map x := rfl
theorem hset_nb (H : Heap) (b : Nat) (k : Option Blk) : (H.set b k).nb = H.nb := rfl
theorem hpush_map (H : Heap) (x : Nat) (k : Blk) : (H.push k).map x = if x = H.nb then some k else H.map x := rfl
theorem hpush_nb (H : Heap) (k : Blk) : (H.push k).nb = H.nb + 1 := rfl

def yClos : SV := .clos (.func 159) [] [.optr 1 0, .optr 0 0, .optr 3 0, .optr 2 0, .optr 4 0]
def fClos : SV := .clos (.func 186) [] [.optr 5 0, .optr 6 0, .optr 8 0, .optr 9 0]
/-- What best and eachPartition hold in memory. -/
structure EH (M : List (List Int)) (C : List Con) (H : Heap) (s : BS) (fb : Nat) (W : List Int) : Prop where
  m0 : H.map 0 = some ⟨[rr M], true⟩
  m1 : H.map 1 = some ⟨[rc C], true⟩
  m2 : H.map 2 = some ⟨[nlI fb s.first], true⟩
  m3 : H.map 3 = some ⟨[.val (.int .i64 s.least)], true⟩
  m4 : H.map 4 = some ⟨[.val (.int .i64 s.count)], true⟩
  m5 : H.map 5 = some ⟨[.val (.int .i64 M.length)], true⟩
  m6 : H.map 6 = some ⟨[yClos], true⟩
  m7 : H.map 7 = some ⟨ints W, true⟩
  m8 : H.map 8 = some ⟨[.own 7 0 M.length M.length 1 true], true⟩
  m9 : H.map 9 = some ⟨[fClos], true⟩
  mf : s.first.length ≠ 0 → H.map fb = some ⟨ints s.first, false⟩
  bf : s.first.length ≠ 0 → 10 ≤ fb ∧ fb < H.nb
  nb : 10 ≤ H.nb
def EQ (M : List (List Int)) (C : List Con) (t : BS) (p : List Int) (n : Nat) (r : SV) (H' : Heap) : Prop := r = .tup [] ∧ ∃ fb', EH M C H' t fb' p ∧ n ≤ H'.nb

set_option maxRecDepth 20000 in
set_option maxHeartbeats 4000000 in
theorem Try.yield_ok {M : List (List Int)} {C : List Con} (hw : WM M) (hC : C.length ≤ 1048576) (s : BS) (p : List Int) (hpl : p.length = M.length) (hcnt : s.count ≤ 1000000000) (fb : Nat) (H : Heap) (h : EH M C H s fb p) :
    CallS Try.prog 159 [.own 7 0 M.length M.length 1 true, .optr 1 0, .optr 0 0, .optr 3 0, .optr 2 0, .optr 4 0] H (EQ M C (updB M C s p) p H.nb) := by
  have hln := hw.1
  have wk := Try.keeps_ok p C (by omega) hC
  have wc := Try.implCost_ok M p hw hpl
  rw [hpl] at wc
  have hc := cc_b (L := p) hw M.length (Nat.le_refl _)
  have hu : updB M C s p = updB M C s p := rfl
  conv at hu => rhs; rw [updB, hpl]
  generalize updB M C s p = t at *
  have hnb := h.nb
  have m0 := h.m0
  have m1 := h.m1
  have m2 := h.m2
  have m3 := h.m3
  have m4 := h.m4
  have m7 := h.m7
  refine CallS.of_body Try.func159 rfl (by kernel_rfl) (by simp [Try.ntmps159]) ?_
  refine SW_of_vc Try.mixed _ _ _ (by kernel_rfl) ?_
  rcases Bool.eq_false_or_eq_true (C.all (kp p)) with hk | hk
  · rw [hk] at wk
    rw [if_pos hk] at hu
    generalize hcc : cc M p M.length = z at *
    have wl := (Try.clone_f p (by omega) (by omega)).one
    by_cases g1 : s.least < 0 ∨ z < s.least
    · rw [if_pos g1] at hu
      have hfin : EQ M C t p H.nb (.tup []) ((((H.push ⟨ints p, false⟩).set 2 (some ⟨[.own H.nb 0 M.length M.length 1 false], true⟩)).set 3 (some ⟨[.val (.int .i64 z)], true⟩)).set 4 (some ⟨[.val (.int .i64 1)], true⟩)) := by
        subst hu
        refine ⟨rfl, H.nb, ⟨?_, ?_, ?_, ?_, ?_, ?_, ?_, ?_, ?_, ?_, ?_, ?_, ?_⟩, by simp only [hset_nb, hpush_nb]; omega⟩
        all_goals simp (disch := omega) only [hset_map, hpush_map, hset_nb, hpush_nb, if_neg, ↓reduceIte, Nat.reduceEqDiff, h.m0, h.m1, h.m5, h.m6, h.m7, h.m8, h.m9]
        · rw [nlI_f (by omega), hpl]
        · rfl
        · exact fun _ => trivial
        · intro _; omega
        · omega
      rw [hpl] at wl
      have p0 : ∀ k, (H.push k).map 2 = some ⟨[nlI fb s.first], true⟩ := fun k => by rw [hpush_map, if_neg (by omega), m2]
      have p1 : ∀ k, (H.push k).map 3 = some ⟨[.val (.int .i64 s.least)], true⟩ := fun k => by rw [hpush_map, if_neg (by omega), m3]
      have p2 : ∀ k, (H.push k).map 4 = some ⟨[.val (.int .i64 s.count)], true⟩ := fun k => by rw [hpush_map, if_neg (by omega), m4]
      simp (disch := omega) only [Try.ntmps159, Try.results159, go_sem, Nat.reduceLT, Nat.reduceLeDiff, Nat.reduceEqDiff, Nat.reduceAdd, Nat.reduceSub, Nat.reduceMul, reduceIte, ↓reduceIte, reduceCtorEq, Int.reduceToNat, Int.reduceLE, Int.reduceLT, Int.reduceNeg, Int.reduceSub, Int.reduceAdd, Int.reduceMul, rc, m1]
      refine wk.callV 2 (viewL_cons_of (view_own (L := p) (e2 := true) m7 hpl.symm) (viewL_cons_of view_row viewL_nil_of)) ?_
      simp (disch := omega) only [Try.ntmps159, Try.results159, go_sem, Nat.reduceLT, Nat.reduceLeDiff, Nat.reduceEqDiff, Nat.reduceAdd, Nat.reduceSub, Nat.reduceMul, reduceIte, ↓reduceIte, reduceCtorEq, Int.reduceToNat, Int.reduceLE, Int.reduceLT, Int.reduceNeg, Int.reduceSub, Int.reduceAdd, Int.reduceMul, rc, m0]
      refine wc.callV 2 (viewL_cons_of view_row (viewL_cons_of (view_own (L := p) (e2 := true) m7 hpl.symm) viewL_nil_of)) ?_
      have hgd : s.least < 0 ∨ (¬ s.least < 0 ∧ z < s.least) := by omega
      rcases hgd with hg | ⟨hg, hg2⟩
      · simp (disch := omega) only [Try.ntmps159, Try.results159, go_sem, Nat.reduceLT, Nat.reduceLeDiff, Nat.reduceEqDiff, Nat.reduceAdd, Nat.reduceSub, Nat.reduceMul, reduceIte, ↓reduceIte, reduceCtorEq, Int.reduceToNat, Int.reduceLE, Int.reduceLT, Int.reduceNeg, Int.reduceSub, Int.reduceAdd, Int.reduceMul, rc, m3]
        refine wl.callOne (ints_vals _) 2 (viewL_cons_of (view_own (L := p) (e2 := true) m7 hpl.symm) viewL_nil_of) ?_
        simp (disch := omega) only [Try.ntmps159, Try.results159, go_sem, Nat.reduceLT, Nat.reduceLeDiff, Nat.reduceEqDiff, Nat.reduceAdd, Nat.reduceSub, Nat.reduceMul, reduceIte, ↓reduceIte, reduceCtorEq, Int.reduceToNat, Int.reduceLE, Int.reduceLT, Int.reduceNeg, Int.reduceSub, Int.reduceAdd, Int.reduceMul, rc, p0, p1, p2, hset_map]
        exact hfin
      · simp (disch := omega) only [Try.ntmps159, Try.results159, go_sem, Nat.reduceLT, Nat.reduceLeDiff, Nat.reduceEqDiff, Nat.reduceAdd, Nat.reduceSub, Nat.reduceMul, reduceIte, ↓reduceIte, reduceCtorEq, Int.reduceToNat, Int.reduceLE, Int.reduceLT, Int.reduceNeg, Int.reduceSub, Int.reduceAdd, Int.reduceMul, rc, m3]
        refine wl.callOne (ints_vals _) 2 (viewL_cons_of (view_own (L := p) (e2 := true) m7 hpl.symm) viewL_nil_of) ?_
        simp (disch := omega) only [Try.ntmps159, Try.results159, go_sem, Nat.reduceLT, Nat.reduceLeDiff, Nat.reduceEqDiff, Nat.reduceAdd, Nat.reduceSub, Nat.reduceMul, reduceIte, ↓reduceIte, reduceCtorEq, Int.reduceToNat, Int.reduceLE, Int.reduceLT, Int.reduceNeg, Int.reduceSub, Int.reduceAdd, Int.reduceMul, rc, p0, p1, p2, hset_map]
        exact hfin
    · rw [if_neg g1] at hu
      by_cases g2 : z = s.least
      · rw [if_pos g2] at hu
        have hfin : EQ M C t p H.nb (.tup []) (H.set 4 (some ⟨[.val (.int .i64 ((s.count : Int) + 1))], true⟩)) := by
          subst hu
          refine ⟨rfl, fb, ⟨?_, ?_, ?_, ?_, ?_, ?_, ?_, ?_, ?_, ?_, fun hf => ?_, h.bf, h.nb⟩, by simp only [hset_nb]; omega⟩
          all_goals simp (disch := omega) only [hset_map, hset_nb, if_neg, ↓reduceIte, Nat.reduceEqDiff, h.m0, h.m1, h.m2, h.m3, h.m5, h.m6, h.m7, h.m8, h.m9]
          · rfl
          · have := h.bf hf
            rw [if_neg (by omega)]; exact h.mf hf
        simp (disch := omega) only [Try.ntmps159, Try.results159, go_sem, Nat.reduceLT, Nat.reduceLeDiff, Nat.reduceEqDiff, Nat.reduceAdd, Nat.reduceSub, Nat.reduceMul, reduceIte, ↓reduceIte, reduceCtorEq, Int.reduceToNat, Int.reduceLE, Int.reduceLT, Int.reduceNeg, Int.reduceSub, Int.reduceAdd, Int.reduceMul, rc, m1]
        refine wk.callV 2 (viewL_cons_of (view_own (L := p) (e2 := true) m7 hpl.symm) (viewL_cons_of view_row viewL_nil_of)) ?_
        simp (disch := omega) only [Try.ntmps159, Try.results159, go_sem, Nat.reduceLT, Nat.reduceLeDiff, Nat.reduceEqDiff, Nat.reduceAdd, Nat.reduceSub, Nat.reduceMul, reduceIte, ↓reduceIte, reduceCtorEq, Int.reduceToNat, Int.reduceLE, Int.reduceLT, Int.reduceNeg, Int.reduceSub, Int.reduceAdd, Int.reduceMul, rc, m0]
        refine wc.callV 2 (viewL_cons_of view_row (viewL_cons_of (view_own (L := p) (e2 := true) m7 hpl.symm) viewL_nil_of)) ?_
        simp (disch := omega) only [Try.ntmps159, Try.results159, go_sem, Nat.reduceLT, Nat.reduceLeDiff, Nat.reduceEqDiff, Nat.reduceAdd, Nat.reduceSub, Nat.reduceMul, reduceIte, ↓reduceIte, reduceCtorEq, Int.reduceToNat, Int.reduceLE, Int.reduceLT, Int.reduceNeg, Int.reduceSub, Int.reduceAdd, Int.reduceMul, rc, m3, m4]
        exact hfin
      · rw [if_neg g2] at hu
        subst hu
        have hfin : EQ M C t p H.nb (.tup []) H := ⟨rfl, fb, h, Nat.le_refl _⟩
        simp (disch := omega) only [Try.ntmps159, Try.results159, go_sem, Nat.reduceLT, Nat.reduceLeDiff, Nat.reduceEqDiff, Nat.reduceAdd, Nat.reduceSub, Nat.reduceMul, reduceIte, ↓reduceIte, reduceCtorEq, Int.reduceToNat, Int.reduceLE, Int.reduceLT, Int.reduceNeg, Int.reduceSub, Int.reduceAdd, Int.reduceMul, rc, m1]
        refine wk.callV 2 (viewL_cons_of (view_own (L := p) (e2 := true) m7 hpl.symm) (viewL_cons_of view_row viewL_nil_of)) ?_
        simp (disch := omega) only [Try.ntmps159, Try.results159, go_sem, Nat.reduceLT, Nat.reduceLeDiff, Nat.reduceEqDiff, Nat.reduceAdd, Nat.reduceSub, Nat.reduceMul, reduceIte, ↓reduceIte, reduceCtorEq, Int.reduceToNat, Int.reduceLE, Int.reduceLT, Int.reduceNeg, Int.reduceSub, Int.reduceAdd, Int.reduceMul, rc, m0]
        refine wc.callV 2 (viewL_cons_of view_row (viewL_cons_of (view_own (L := p) (e2 := true) m7 hpl.symm) viewL_nil_of)) ?_
        simp (disch := omega) only [Try.ntmps159, Try.results159, go_sem, Nat.reduceLT, Nat.reduceLeDiff, Nat.reduceEqDiff, Nat.reduceAdd, Nat.reduceSub, Nat.reduceMul, reduceIte, ↓reduceIte, reduceCtorEq, Int.reduceToNat, Int.reduceLE, Int.reduceLT, Int.reduceNeg, Int.reduceSub, Int.reduceAdd, Int.reduceMul, rc, m3]
        exact hfin
  · rw [hk] at wk
    rw [if_neg (by rw [hk]; simp)] at hu
    subst hu
    have hfin : EQ M C t p H.nb (.tup []) H := ⟨rfl, fb, h, Nat.le_refl _⟩
    simp (disch := omega) only [Try.ntmps159, Try.results159, go_sem, Nat.reduceLT, Nat.reduceLeDiff, Nat.reduceEqDiff, Nat.reduceAdd, Nat.reduceSub, Nat.reduceMul, reduceIte, ↓reduceIte, reduceCtorEq, Int.reduceToNat, Int.reduceLE, Int.reduceLT, Int.reduceNeg, Int.reduceSub, Int.reduceAdd, Int.reduceMul, rc, m1]
    refine wk.callV 2 (viewL_cons_of (view_own (L := p) (e2 := true) m7 hpl.symm) (viewL_cons_of view_row viewL_nil_of)) ?_
    simp (disch := omega) only [Try.ntmps159, Try.results159, go_sem, Nat.reduceLT, Nat.reduceLeDiff, Nat.reduceEqDiff, Nat.reduceAdd, Nat.reduceSub, Nat.reduceMul, reduceIte, ↓reduceIte, reduceCtorEq, Int.reduceToNat, Int.reduceLE, Int.reduceLT, Int.reduceNeg, Int.reduceSub, Int.reduceAdd, Int.reduceMul, rc]
    exact hfin

def FQ (M : List (List Int)) (C : List Con) (t : BS) (p : List Int) (n : Nat) (r : SV) (H' : Heap) : Prop := r = .tup [] ∧ ∃ fb' W', EH M C H' t fb' W' ∧ n ≤ H'.nb ∧ W'.length = M.length ∧ W'.take p.length = p
theorem EH.put {M : List (List Int)} {C : List Con} {H : Heap} {s : BS} {fb : Nat} {W V : List Int} (h : EH M C H s fb W) : EH M C (H.set 7 (some ⟨ints V, true⟩)) s fb V := by
  refine ⟨?_, ?_, ?_, ?_, ?_, ?_, ?_, ?_, ?_, ?_, fun hf => ?_, h.bf, h.nb⟩
  all_goals simp (disch := omega) only [hset_map, hset_nb, if_neg, ↓reduceIte, Nat.reduceEqDiff, h.m0, h.m1, h.m2, h.m3, h.m4, h.m5, h.m6, h.m8, h.m9]
  have := h.bf hf
  rw [if_neg (by omega)]; exact h.mf hf
theorem take_set {W p : List Int} {x : Int} (hl : p.length < W.length) (h : W.take p.length = p) : (W.set p.length x).take (p.length + 1) = p ++ [x] := by
  rw [List.take_succ_eq_append_getElem (by simpa using hl)]
  simp [List.take_set_of_le, h]
def eachTo (M : List (List Int)) (C : List Con) (k : Nat) (p : List Int) (nx : Nat) (s : BS) (x : Nat) : BS := (List.range x).foldl (fun s (x : Nat) => each (updB M C) k (p ++ [(x : Int)]) (max nx (x + 1)) s) s
theorem eachTo_succ {M : List (List Int)} {C : List Con} {k : Nat} {p : List Int} {nx : Nat} {s : BS} {x : Nat} : eachTo M C k p nx s (x + 1) = each (updB M C) k (p ++ [(x : Int)]) (max nx (x + 1)) (eachTo M C k p nx s x) := by
  rw [eachTo, List.range_succ, List.foldl_append]; rfl
theorem eachTo_count {M : List (List Int)} {C : List Con} {k : Nat} {p : List Int} {nx : Nat} {s : BS} {x : Nat} (hx : x ≤ nx + 1) (h : nx + (k + 1) ≤ 8) : (eachTo M C k p nx s x).count ≤ s.count + x * 9 ^ k :=
  foldl_count (g := fun s (x : Nat) => each (updB M C) k (p ++ [(x : Int)]) (max nx (x + 1)) s) (B := 9 ^ k) x s fun s y hy => each_count k _ _ s (by omega)

set_option maxRecDepth 20000 in
set_option maxHeartbeats 4000000 in
theorem Try.from_ok {M : List (List Int)} {C : List Con} (hw : WM M) (hC : C.length ≤ 1048576) : ∀ (k : Nat) (p W : List Int) (nx : Nat) (s : BS) (fb : Nat) (H : Heap), p.length + k = M.length → W.length = M.length → W.take p.length = p → nx + k ≤ 8 → s.count + 9 ^ k ≤ 1000000000 → EH M C H s fb W →
    CallS Try.prog 186 [.val (.int .i64 p.length), .val (.int .i64 nx), .optr 5 0, .optr 6 0, .optr 8 0, .optr 9 0] H (FQ M C (each (updB M C) k p nx s) p H.nb)
  | 0, p, W, nx, s, fb, H, hl, hWl, hW, hnx, hc, h => by
    have hln := hw.1
    have hWp : W = p := by rw [← hW, List.take_of_length_le (by omega)]
    subst hWp
    have wy := Try.yield_ok hw hC s W hWl (by omega) fb H h
    have m5 := h.m5
    have m6 := h.m6
    have m8 := h.m8
    rw [each]
    generalize updB M C s W = t at *
    rw [hWl]
    refine CallS.of_body Try.func186 rfl (by kernel_rfl) (by simp [Try.ntmps186]) ?_
    refine SW_of_vc Try.mixed _ _ _ (by kernel_rfl) ?_
    simp (disch := omega) only [Try.ntmps186, Try.results186, go_sem, Nat.reduceLT, Nat.reduceLeDiff, Nat.reduceEqDiff, Nat.reduceAdd, Nat.reduceSub, Nat.reduceMul, reduceIte, ↓reduceIte, reduceCtorEq, Int.reduceToNat, Int.reduceLE, Int.reduceLT, Int.reduceNeg, Int.reduceSub, Int.reduceAdd, Int.reduceMul, m5, m6, m8, yClos]
    refine wy.callX ?_
    rintro r H' ⟨rfl, fb', h', hnb⟩
    have hfin : FQ M C t W H.nb (.tup []) H' := ⟨rfl, fb', W, h', hnb, hWl, List.take_length⟩
    simp (disch := omega) only [Try.ntmps186, Try.results186, go_sem, Nat.reduceLT, Nat.reduceLeDiff, Nat.reduceEqDiff, Nat.reduceAdd, Nat.reduceSub, Nat.reduceMul, reduceIte, ↓reduceIte, reduceCtorEq, Int.reduceToNat, Int.reduceLE, Int.reduceLT, Int.reduceNeg, Int.reduceSub, Int.reduceAdd, Int.reduceMul]
    exact hfin
  | k + 1, p, W, nx, s, fb, H, hl, hWl, hW, hnx, hc, h => by
    have hln := hw.1
    have m5 := h.m5
    have he : each (updB M C) (k + 1) p nx s = eachTo M C k p nx s (nx + 1) := by rw [each]; rfl
    rw [he]
    have h9 : (nx + 1) * 9 ^ k ≤ 9 * 9 ^ k := mul9 (by omega)
    rw [Nat.pow_succ] at hc
    refine CallS.of_body Try.func186 rfl (by kernel_rfl) (by simp [Try.ntmps186]) ?_
    refine SW_of_vc Try.mixed _ _ _ (by kernel_rfl) ?_
    simp (disch := omega) only [Try.ntmps186, Try.results186, go_sem, Nat.reduceLT, Nat.reduceLeDiff, Nat.reduceEqDiff, Nat.reduceAdd, Nat.reduceSub, Nat.reduceMul, reduceIte, ↓reduceIte, reduceCtorEq, Int.reduceToNat, Int.reduceLE, Int.reduceLT, Int.reduceNeg, Int.reduceSub, Int.reduceAdd, Int.reduceMul, m5]
    refine LoopW.loop (fun y : Nat × Nat × List Int × Heap => ⟨ofL [(0, .val (.int .i64 p.length)), (1, .val (.int .i64 nx)), (2, .optr 5 0), (3, .optr 6 0), (4, .optr 8 0), (5, .optr 9 0), (8, .val (.int .i64 y.1))], y.2.2.2⟩)
      (fun y => y.1 ≤ nx + 1 ∧ EH M C y.2.2.2 (eachTo M C k p nx s y.1) y.2.1 y.2.2.1 ∧ H.nb ≤ y.2.2.2.nb ∧ y.2.2.1.length = M.length ∧ y.2.2.1.take p.length = p) (fun y => nx + 1 - y.1) (0, fb, W, H) ⟨by simp, h, Nat.le_refl _, hWl, hW⟩ (Wk.of (by simp only [go_sem, ↓List.forall_mem_cons, List.not_mem_nil, false_implies, implies_true, and_true, true_and, and_self, Nat.reduceEqDiff, reduceIte, ↓reduceIte, ri_eq, Int.natCast_add, Int.cast_ofNat_Int]; try simp) rfl) ?_
    clear m5 h hWl hW
    rintro ⟨x, fb, W, H1⟩ ⟨hx, h, hnb, hWl, hW⟩
    simp only at hx h hnb hWl hW
    have m7 := h.m7
    have m8 := h.m8
    have m9 := h.m9
    refine SW_of_vc Try.mixed _ _ _ (by kernel_rfl) ?_
    by_cases hlt : x < nx + 1
    · have h2 := h.put (V := W.set p.length (x : Int))
      have hct := eachTo_count (M := M) (C := C) (p := p) (s := s) hx hnx
      have hx9 : (x + 1) * 9 ^ k ≤ (nx + 1) * 9 ^ k := mul9 (by omega)
      rw [Nat.succ_mul] at hx9
      have wf := Try.from_ok hw hC k (p ++ [(x : Int)]) (W.set p.length (x : Int)) (max nx (x + 1)) _ fb _ (by simp; omega) (by simpa using hWl) (by
        rw [List.length_append, List.length_singleton]; exact take_set (by omega) hW) (by omega) (by omega) h2
      rw [← eachTo_succ] at wf
      have hpl : (p ++ [(x : Int)]).length = p.length + 1 := by simp
      rw [hpl] at wf
      have hil : (ints W).length = M.length := by rw [ints_length, hWl]
      have hst : (ints W).set p.length (.val (.int .i64 (x : Int))) = ints (W.set p.length (x : Int)) := by simp [ints]
      simp (disch := omega) only [Try.ntmps186, Try.results186, go_sem, Nat.reduceLT, Nat.reduceLeDiff, Nat.reduceEqDiff, Nat.reduceAdd, Nat.reduceSub, Nat.reduceMul, reduceIte, ↓reduceIte, reduceCtorEq, Int.reduceToNat, Int.reduceLE, Int.reduceLT, Int.reduceNeg, Int.reduceSub, Int.reduceAdd, Int.reduceMul, m7, m8, m9, hil, hst, hset_map, fClos]
      have c1 : ((p.length + 1 : Nat) : Int) = (p.length : Int) + 1 := by omega
      have c2 : ((max nx (x + 1) : Nat) : Int) = if (nx : Int) < (x : Int) + 1 then (x : Int) + 1 else (nx : Int) := by split <;> omega
      rw [c1, c2] at wf
      refine wf.callX ?_
      rintro r H2 ⟨rfl, fb2, W2, h3, hnb2, hW2l, hW2⟩
      rw [hpl] at hW2
      have hW3 : W2.take p.length = p := by
        have := congrArg (List.take p.length) hW2
        rw [List.take_take, Nat.min_eq_left (by omega)] at this
        rw [this]; simp
      have hnb3 : H1.nb ≤ H2.nb := hnb2
      simp (disch := omega) only [Try.ntmps186, Try.results186, go_sem, Nat.reduceLT, Nat.reduceLeDiff, Nat.reduceEqDiff, Nat.reduceAdd, Nat.reduceSub, Nat.reduceMul, reduceIte, ↓reduceIte, reduceCtorEq, Int.reduceToNat, Int.reduceLE, Int.reduceLT, Int.reduceNeg, Int.reduceSub, Int.reduceAdd, Int.reduceMul]
      exact ⟨(x + 1, fb2, W2, H2), ⟨hlt, h3, Nat.le_trans hnb hnb3, hW2l, hW3⟩, by show nx + 1 - (x + 1) < nx + 1 - x; omega, Wk.of (by simp only [go_sem, ↓List.forall_mem_cons, List.not_mem_nil, false_implies, implies_true, and_true, true_and, and_self, Nat.reduceEqDiff, reduceIte, ↓reduceIte, ri_eq, Int.natCast_add, Int.cast_ofNat_Int]; try simp) rfl⟩
    · obtain rfl : x = nx + 1 := by omega
      have hfin : FQ M C (eachTo M C k p nx s (nx + 1)) p H.nb (.tup []) H1 := ⟨rfl, fb, W, h, hnb, hWl, hW⟩
      simp (disch := omega) only [Try.ntmps186, Try.results186, go_sem, Nat.reduceLT, Nat.reduceLeDiff, Nat.reduceEqDiff, Nat.reduceAdd, Nat.reduceSub, Nat.reduceMul, reduceIte, ↓reduceIte, reduceCtorEq, Int.reduceToNat, Int.reduceLE, Int.reduceLT, Int.reduceNeg, Int.reduceSub, Int.reduceAdd, Int.reduceMul]
      exact hfin

def bH (M : List (List Int)) (C : List Con) : List (Nat × Blk) := [(4, ⟨[.val (.int .i64 0)], true⟩), (3, ⟨[.val (.int .i64 (-1))], true⟩), (2, ⟨[.val (.slice none 0 0)], true⟩), (1, ⟨[rc C], true⟩), (0, ⟨[rr M], true⟩)]
def BQ (M : List (List Int)) (C : List Con) (t : BS) (r : SV) (H' : Heap) : Prop := r = .tup [] ∧ ∃ fb' W', EH M C H' t fb' W'
set_option maxRecDepth 20000 in
set_option maxHeartbeats 4000000 in
theorem Try.eachPart_ok {M : List (List Int)} {C : List Con} (hw : WM M) (hC : C.length ≤ 1048576) :
    CallS Try.prog 158 [.val (.int .i64 M.length), yClos] (hp (bH M C) 5) (BQ M C (bs M C)) := by
  have hln := hw.1
  refine CallS.of_body Try.func158 rfl (by kernel_rfl) (by simp [Try.ntmps158]) ?_
  refine SW_of_vc Try.mixed _ _ _ (by kernel_rfl) ?_
  have hil : List.replicate M.length (SV.val (.int .i64 0)) = ints (List.replicate M.length 0) := by simp [ints]
  rw [bH]
  simp (disch := omega) only [Try.ntmps158, Try.results158, go_sem, Nat.reduceLT, Nat.reduceLeDiff, Nat.reduceEqDiff, Nat.reduceAdd, Nat.reduceSub, Nat.reduceMul, reduceIte, ↓reduceIte, reduceCtorEq, Int.reduceToNat, Int.reduceLE, Int.reduceLT, Int.reduceNeg, Int.reduceSub, Int.reduceAdd, Int.reduceMul, yClos, hil]
  refine (Try.from_ok hw hC M.length [] (List.replicate M.length 0) 0 ⟨[], -1, 0⟩ 0 _ (by simp) (by simp) rfl (by omega) ?_ ⟨rfl, rfl, rfl, rfl, rfl, rfl, rfl, rfl, rfl, rfl, fun h => absurd rfl h, fun h => absurd rfl h, by simp [hp]⟩).callX ?_
  · have h9 : 9 ^ M.length ≤ 9 ^ 8 := Nat.pow_le_pow_right (by omega) hln.2
    show 0 + 9 ^ M.length ≤ 1000000000
    omega
  rintro r H' ⟨rfl, fb', W', h, _, _, _⟩
  have hfin : BQ M C (bs M C) (.tup []) H' := ⟨rfl, fb', W', h⟩
  simp (disch := omega) only [Try.ntmps158, Try.results158, go_sem, Nat.reduceLT, Nat.reduceLeDiff, Nat.reduceEqDiff, Nat.reduceAdd, Nat.reduceSub, Nat.reduceMul, reduceIte, ↓reduceIte, reduceCtorEq, Int.reduceToNat, Int.reduceLE, Int.reduceLT, Int.reduceNeg, Int.reduceSub, Int.reduceAdd, Int.reduceMul]
  exact hfin

variable {P : Program}
theorem LRel.valsI {O : Nat → Prop} {w : World} {j : JMap} {us vs : List Value} (h : vs = us) : LRel O w j (us.map SV.val) vs := (LRel.vals us vs).2 h
theorem FCall.oneU {f : FuncId} {args : List SV} {n z : Nat} {cs : List SV} {us : List Value} (h : FCall P f args (fun r H => ∃ r0, r = .tup (r0 :: us.map .val) ∧ FlatRes n z cs r0 H)) :
    FCall P f args (fun r H => r = .tup (.own 0 0 n n z false :: us.map .val) ∧ H = Heap.one ⟨cs, false⟩) := by
  refine ⟨h.1, fun w vs hl => (h.2 w vs hl).mono ?_⟩
  rintro e w' ⟨v, r, j, H, h1, h2, h3, h4, h5, h6, h7, r0, rfl, h8⟩
  simp only [VRel, LRel] at h4
  obtain ⟨vs, rfl, x, rest, rfl, hx, hrest⟩ := h4
  obtain ⟨j', r', v', o'⟩ := one_rel h8 h3 hx
  have hr := (LRel.vals us rest).1 hrest
  refine ⟨_, _, j', _, h1, h2, r', ?_, fun k hk => h5 k (o' k hk), ?_, nr_one h8.vals, rfl, rfl⟩
  · simp only [VRel, LRel]
    exact ⟨_, rfl, _, _, rfl, by simpa only [VRel] using v', LRel.valsI hr⟩
  · simp only [noRow, noRowL, Bool.true_and]
    exact isVal_noRow (by simp [isVal])
theorem shiftL_vals (k : Nat) (us : List Value) : shiftL k (us.map SV.val) = us.map SV.val := isVal_shift (by simp [isVal])
theorem FCall.callOneU {f : FuncId} {args args' : List SV} {n z : Nat} {cs : List SV} {us : List Value} {H : Heap} {K : SV → Heap → Prop} (h : FCall P f args' (fun r H => r = .tup (.own 0 0 n n z false :: us.map .val) ∧ H = Heap.one ⟨cs, false⟩)) (hc : cs.all isVal = true) (fu : Nat) (hv : viewL H fu args = some args')
    (k : K (.tup (.own H.nb 0 n n z false :: us.map .val)) (H.push ⟨cs, false⟩)) : @CallX P f args H ⟨K⟩ := by
  refine ⟨h.1, fun j w vs r hl => ((h.callS fu hv).2 j w vs r hl).mono ?_⟩
  rintro e w' ⟨r1, v, j', H', h1, h2, h3, h4, r0, H0, ⟨rfl, rfl⟩, rfl, rfl⟩
  refine ⟨_, v, j', _, h1, h2, h3, h4, ?_⟩
  rw [merge_one r hc]
  simpa only [shift, shiftL, Nat.zero_add, shiftL_vals] using k
theorem fin_tupU {n z cap b : Nat} {ex e2 : Bool} {cs : List SV} {us : List Value} {H : Heap} (hn : cs.length = n * z) (hv : cs.all isVal = true) (hb : H.map b = some ⟨cs, e2⟩) :
    Fin (fun r H => ∃ r0, r = .tup (r0 :: us.map .val) ∧ FlatRes n z cs r0 H) (.tup (.own b 0 n cap z ex :: us.map .val)) H := by
  obtain ⟨H2, h1, h2, h3, h4⟩ := flat_fin (n := n) (z := z) (cap := cap) (ex := ex) hn hv hb
  refine ⟨H2, h1, ?_, h3, _, rfl, h4⟩
  simp only [noRow, noRowL, Bool.true_and]
  exact isVal_noRow (by simp [isVal])

theorem fin_tupV {R : SV → Heap → Prop} {us : List Value} {H : Heap} (h : R (.tup (us.map .val)) ⟨fun _ => none, H.nb⟩) : Fin R (.tup (us.map .val)) H :=
  ⟨⟨fun _ => none, H.nb⟩, ⟨rfl, fun _ => .inl rfl⟩, by simp only [noRow]; exact isVal_noRow (by simp [isVal]), fun b blk hb => by simp at hb, h⟩

set_option maxRecDepth 20000 in
set_option maxHeartbeats 4000000 in
theorem Try.best_f {M : List (List Int)} {C : List Con} (hw : WM M) (hC : C.length ≤ 1048576) (hcs : isCst M.length C = true) : FCall Try.prog 103 [rr M, rc C]
    (fun r H => ∃ r0, r = .tup (r0 :: [Value.int .i64 (bs M C).least, .int .i64 (bs M C).count].map .val) ∧ FlatRes M.length 1 (ints (bs M C).first) r0 H) := by
  have hln := hw.1
  have hfl := ((bs_best (C := C) hw).ok (bs_ok hw hcs)).1
  have we := Try.eachPart_ok hw hC
  rw [bH, yClos, rr_eq, rc] at we
  refine FCall.of_body Try.func103 rfl (by kernel_rfl) (by simp [Try.ntmps103]) ?_
  refine SW_of_vc Try.mixed _ _ _ (by kernel_rfl) ?_
  simp (disch := omega) only [Try.ntmps103, Try.results103, go_sem, Nat.reduceLT, Nat.reduceLeDiff, Nat.reduceEqDiff, Nat.reduceAdd, Nat.reduceSub, Nat.reduceMul, reduceIte, ↓reduceIte, reduceCtorEq, Int.reduceToNat, Int.reduceLE, Int.reduceLT, Int.reduceNeg, Int.reduceSub, Int.reduceAdd, Int.reduceMul, rr_eq, rc]
  refine we.callX ?_
  rintro r H ⟨rfl, fb, W, h⟩
  have m2 := h.m2
  have m3 := h.m3
  have m4 := h.m4
  have mf := h.mf
  generalize bs M C = t at *
  have h0 : t.first.length ≠ 0 := by omega
  rw [nlI_f h0, hfl] at m2
  simp (disch := omega) only [Try.ntmps103, Try.results103, go_sem, Nat.reduceLT, Nat.reduceLeDiff, Nat.reduceEqDiff, Nat.reduceAdd, Nat.reduceSub, Nat.reduceMul, reduceIte, ↓reduceIte, reduceCtorEq, Int.reduceToNat, Int.reduceLE, Int.reduceLT, Int.reduceNeg, Int.reduceSub, Int.reduceAdd, Int.reduceMul, rr_eq, rc, m2, m3, m4]
  exact fin_tupU (us := [.int .i64 t.least, .int .i64 t.count]) (by rw [ints_length]; omega) (ints_vals _) (mf h0)
end Go.Sh

/-
  Drawing numbers from bytes: the cursor, a byte, a number below a bound, one of a list.
-/
namespace Go.Sh
set_option linter.unusedSimpArgs false
set_option linter.unusedVariables false
open Go Go.Proofs

def bys (B : List Int) : List SV := B.map fun b => .val (.int .u8 b)
def rby (B : List Int) : SV := .row B.length false (bys B)
theorem bys_length (B : List Int) : (bys B).length = B.length := by simp [bys]
theorem bys_get {B : List Int} {i : Nat} (h : i < B.length) : (bys B)[i]? = some (.val (.int .u8 (B.getD i 0))) := by simp [bys, h]
def curB (B : List Int) (i : Nat) (h : Int) : Blk := ⟨[rby B, .val (.int .i64 i), .val (.int .i64 h)], true⟩
def Cur (B : List Int) (H : Heap) (cb : Nat) : Prop := ∃ (i : Nat) (h : Int), i ≤ B.length ∧ H.map cb = some (curB B i h)
/-- The cursor has moved, nothing else. -/
def CurS (B : List Int) (H : Heap) (cb : Nat) (H' : Heap) : Prop := ∃ (i : Nat) (h : Int), i ≤ B.length ∧ H' = H.set cb (some (curB B i h))
theorem hset_set (H : Heap) (b : Nat) (x y : Option Blk) : (H.set b x).set b y = H.set b y := by
  refine Heap.ext' (fun z => ?_) rfl
  simp only [hset_map]
  split <;> rfl
theorem CurS.cur {B : List Int} {H H' : Heap} {cb : Nat} (h : CurS B H cb H') : Cur B H' cb := by
  obtain ⟨i, x, hi, rfl⟩ := h
  exact ⟨i, x, hi, by rw [hset_map, if_pos rfl]⟩
theorem CurS.trans {B : List Int} {H H' H'' : Heap} {cb : Nat} (h : CurS B H cb H') (g : CurS B H' cb H'') : CurS B H cb H'' := by
  obtain ⟨i, x, hi, rfl⟩ := h
  obtain ⟨k, y, hk, rfl⟩ := g
  exact ⟨k, y, hk, hset_set _ _ _ _⟩
theorem Cur.s {B : List Int} {H : Heap} {cb : Nat} (h : Cur B H cb) : CurS B H cb H := by
  obtain ⟨i, x, hi, e⟩ := h
  exact ⟨i, x, hi, (Heap.set_self e).symm⟩
theorem CurS.nb {B : List Int} {H H' : Heap} {cb : Nat} (h : CurS B H cb H') : H'.nb = H.nb := by obtain ⟨i, x, hi, rfl⟩ := h; rfl
theorem CurS.map {B : List Int} {H H' : Heap} {cb b : Nat} (h : CurS B H cb H') (hb : b ≠ cb) : H'.map b = H.map b := by obtain ⟨i, x, hi, rfl⟩ := h; rw [hset_map, if_neg hb]
theorem kand255 (x : Int) : 0 ≤ kand .i64 x 255 ∧ kand .i64 x 255 ≤ 255 := by
  have h : ((BitVec.ofInt 64 x) &&& (BitVec.ofInt 64 255)).toNat ≤ 255 := by
    rw [BitVec.toNat_and]
    exact Nat.le_trans Nat.and_le_right (by decide)
  generalize hn : ((BitVec.ofInt 64 x) &&& (BitVec.ofInt 64 255)).toNat = n at *
  have e : kand .i64 x 255 = IntKind.i64.wrap (n : Int) := by rw [← hn]; rfl
  rw [e, wrap_id (by omega) (by omega)]; omega

def NewQ (B : List Int) (H : Heap) (r : SV) (H' : Heap) : Prop := ∃ h, r = .optr H.nb 0 ∧ H' = H.push (curB B 0 h)
set_option maxHeartbeats 2000000 in
theorem Try.l1New_ok (B : List Int) (hB : B.length ≤ 1048576) (H : Heap) : CallS Try.prog 117 [rby B] H (NewQ B H) := by
  have hfin : ∀ h : Int, NewQ B H (SV.optr H.nb 0) (H.push ⟨[.row B.length false (bys B), .val (.int .i64 0), .val (.int .i64 h)], true⟩) := fun h => ⟨h, rfl, rfl⟩
  refine CallS.of_body Try.func117 rfl (by kernel_rfl) (by simp [Try.ntmps117]) ?_
  refine SW_of_vc Try.mixed _ _ _ (by kernel_rfl) ?_
  simp (disch := omega) only [Try.ntmps117, Try.results117, go_sem, Nat.reduceLT, Nat.reduceLeDiff, Nat.reduceEqDiff, Nat.reduceAdd, Nat.reduceSub, Nat.reduceMul, reduceIte, ↓reduceIte, reduceCtorEq, Int.reduceToNat, Int.reduceLE, Int.reduceLT, Int.reduceNeg, Int.reduceSub, Int.reduceAdd, Int.reduceMul, rby]
  refine LoopW.loop (fun y : Nat × Int => ⟨ofL [(0, rby B), (3, .val (.int .i64 y.2)), (4, .val (.int .i64 y.1))], H⟩) (fun y => y.1 ≤ B.length) (fun y => B.length - y.1) (0, 10101 + B.length) (by simp) (Wk.of (by simp only [go_sem, ↓List.forall_mem_cons, List.not_mem_nil, false_implies, implies_true, and_true, true_and, and_self, Nat.reduceEqDiff, reduceIte, ↓reduceIte, ri_eq, Int.natCast_add, Int.cast_ofNat_Int, rby]; try simp) rfl) ?_
  rintro ⟨i, h⟩ hi
  simp only at hi
  refine SW_of_vc Try.mixed _ _ _ (by kernel_rfl) ?_
  by_cases hlt : i < B.length
  · have gb := bys_get hlt
    by_cases h4 : i < 4000
    · simp (disch := omega) only [Try.ntmps117, Try.results117, go_sem, Nat.reduceLT, Nat.reduceLeDiff, Nat.reduceEqDiff, Nat.reduceAdd, Nat.reduceSub, Nat.reduceMul, reduceIte, ↓reduceIte, reduceCtorEq, Int.reduceToNat, Int.reduceLE, Int.reduceLT, Int.reduceNeg, Int.reduceSub, Int.reduceAdd, Int.reduceMul, rby, gb]
      exact ⟨(i + 1, kand .i64 (IntKind.i64.wrap (IntKind.i64.wrap (IntKind.i64.wrap (h * 131) + IntKind.i64.wrap (B.getD i 0)) + 7)) 1073741823), hlt, by show B.length - (i + 1) < B.length - i; omega, Wk.of (by simp only [go_sem, ↓List.forall_mem_cons, List.not_mem_nil, false_implies, implies_true, and_true, true_and, and_self, Nat.reduceEqDiff, reduceIte, ↓reduceIte, ri_eq, Int.natCast_add, Int.cast_ofNat_Int, rby]; try simp) rfl⟩
    · simp (disch := omega) only [Try.ntmps117, Try.results117, go_sem, Nat.reduceLT, Nat.reduceLeDiff, Nat.reduceEqDiff, Nat.reduceAdd, Nat.reduceSub, Nat.reduceMul, reduceIte, ↓reduceIte, reduceCtorEq, Int.reduceToNat, Int.reduceLE, Int.reduceLT, Int.reduceNeg, Int.reduceSub, Int.reduceAdd, Int.reduceMul, rby, gb]
      exact hfin h
  · simp (disch := omega) only [Try.ntmps117, Try.results117, go_sem, Nat.reduceLT, Nat.reduceLeDiff, Nat.reduceEqDiff, Nat.reduceAdd, Nat.reduceSub, Nat.reduceMul, reduceIte, ↓reduceIte, reduceCtorEq, Int.reduceToNat, Int.reduceLE, Int.reduceLT, Int.reduceNeg, Int.reduceSub, Int.reduceAdd, Int.reduceMul, rby]
    exact hfin h

def ByteQ (B : List Int) (H : Heap) (cb : Nat) (r : SV) (H' : Heap) : Prop := ∃ v : Int, r = .val (.int .i64 v) ∧ 0 ≤ v ∧ v ≤ 255 ∧ CurS B H cb H'
set_option maxHeartbeats 2000000 in
theorem Try.l1Byte_ok (B : List Int) (hB : B.length ≤ 1048576) (H : Heap) (cb : Nat) (hc : Cur B H cb) : CallS Try.prog 195 [.optr cb 0] H (ByteQ B H cb) := by
  obtain ⟨i, h, hi, hm⟩ := hc
  rw [curB] at hm
  refine CallS.of_body Try.func195 rfl (by kernel_rfl) (by simp [Try.ntmps195]) ?_
  refine SW_of_vc Try.mixed _ _ _ (by kernel_rfl) ?_
  by_cases hlt : i < B.length
  · have gb := bys_get hlt
    simp (disch := omega) only [Try.ntmps195, Try.results195, go_sem, Nat.reduceLT, Nat.reduceLeDiff, Nat.reduceEqDiff, Nat.reduceAdd, Nat.reduceSub, Nat.reduceMul, reduceIte, ↓reduceIte, reduceCtorEq, Int.reduceToNat, Int.reduceLE, Int.reduceLT, Int.reduceNeg, Int.reduceSub, Int.reduceAdd, Int.reduceMul, rby, hm, hset_map, gb]
    have hk := kand255
    exact ⟨_, rfl, (hk _).1, (hk _).2, i + 1, _, hlt, hset_set _ _ _ _⟩
  · simp (disch := omega) only [Try.ntmps195, Try.results195, go_sem, Nat.reduceLT, Nat.reduceLeDiff, Nat.reduceEqDiff, Nat.reduceAdd, Nat.reduceSub, Nat.reduceMul, reduceIte, ↓reduceIte, reduceCtorEq, Int.reduceToNat, Int.reduceLE, Int.reduceLT, Int.reduceNeg, Int.reduceSub, Int.reduceAdd, Int.reduceMul, rby, hm, hset_map]
    have hk := kand255
    exact ⟨_, rfl, (hk _).1, (hk _).2, i, _, hi, rfl⟩

def BelowQ (B : List Int) (n : Int) (H : Heap) (cb : Nat) (r : SV) (H' : Heap) : Prop := ∃ v : Int, r = .val (.int .i64 v) ∧ 0 ≤ v ∧ (0 < n → v < n) ∧ (n ≤ 0 → v = 0) ∧ CurS B H cb H'
set_option maxHeartbeats 2000000 in
theorem Try.l1Below_ok (B : List Int) (hB : B.length ≤ 1048576) (n : Int) (hn : n ≤ 256) (H : Heap) (cb : Nat) (hc : Cur B H cb) : CallS Try.prog 172 [.optr cb 0, .val (.int .i64 n)] H (BelowQ B n H cb) := by
  have w := Try.l1Byte_ok B hB H cb hc
  refine CallS.of_body Try.func172 rfl (by kernel_rfl) (by simp [Try.ntmps172]) ?_
  refine SW_of_vc Try.mixed _ _ _ (by kernel_rfl) ?_
  by_cases h0 : n ≤ 0
  · have hfin : BelowQ B n H cb (.val (.int .i64 0)) H := ⟨0, rfl, by omega, by omega, fun _ => rfl, hc.s⟩
    simp (disch := omega) only [Try.ntmps172, Try.results172, go_sem, Nat.reduceLT, Nat.reduceLeDiff, Nat.reduceEqDiff, Nat.reduceAdd, Nat.reduceSub, Nat.reduceMul, reduceIte, ↓reduceIte, reduceCtorEq, Int.reduceToNat, Int.reduceLE, Int.reduceLT, Int.reduceNeg, Int.reduceSub, Int.reduceAdd, Int.reduceMul]
    exact hfin
  · simp (disch := omega) only [Try.ntmps172, Try.results172, go_sem, Nat.reduceLT, Nat.reduceLeDiff, Nat.reduceEqDiff, Nat.reduceAdd, Nat.reduceSub, Nat.reduceMul, reduceIte, ↓reduceIte, reduceCtorEq, Int.reduceToNat, Int.reduceLE, Int.reduceLT, Int.reduceNeg, Int.reduceSub, Int.reduceAdd, Int.reduceMul]
    refine w.callX ?_
    rintro r H' ⟨v, rfl, v0, v1, hs⟩
    have h1 : 0 ≤ v.tmod n := Int.tmod_nonneg n v0
    have h2 : v.tmod n < n := Int.tmod_lt_of_pos v (by omega)
    have hfin : BelowQ B n H cb (.val (.int .i64 (v.tmod n))) H' := ⟨_, rfl, h1, fun _ => h2, fun h => by omega, hs⟩
    have hne : ¬ n = 0 := by omega
    simp (disch := omega) only [Try.ntmps172, Try.results172, go_sem, Nat.reduceLT, Nat.reduceLeDiff, Nat.reduceEqDiff, Nat.reduceAdd, Nat.reduceSub, Nat.reduceMul, reduceIte, ↓reduceIte, reduceCtorEq, Int.reduceToNat, Int.reduceLE, Int.reduceLT, Int.reduceNeg, Int.reduceSub, Int.reduceAdd, Int.reduceMul, hne]
    exact hfin
theorem BelowQ.ne {B : List Int} {n : Int} {H : Heap} {cb : Nat} (hc : Cur B H cb) : ∃ r H', BelowQ B n H cb r H' := ⟨_, H, 0, rfl, by omega, fun h => h, fun _ => rfl, hc.s⟩

def OnceQ (B : List Int) (H : Heap) (cb : Nat) (r : SV) (H' : Heap) : Prop := ∃ b : Bool, r = .val (.bool b) ∧ CurS B H cb H'
theorem OnceQ.ne {B : List Int} {H : Heap} {cb : Nat} (hc : Cur B H cb) : ∃ r H', OnceQ B H cb r H' := ⟨_, H, true, rfl, hc.s⟩
theorem Try.l1Once_ok (B : List Int) (hB : B.length ≤ 1048576) (n : Int) (hn : n ≤ 256) (H : Heap) (cb : Nat) (hc : Cur B H cb) : CallS Try.prog 133 [.optr cb 0, .val (.int .i64 n)] H (OnceQ B H cb) := by
  have w := Try.l1Below_ok B hB n hn H cb hc
  refine CallS.of_body Try.func133 rfl (by kernel_rfl) (by simp [Try.ntmps133]) ?_
  refine SW_of_vc Try.mixed _ _ _ (by kernel_rfl) ?_
  simp (disch := omega) only [Try.ntmps133, Try.results133, go_sem, Nat.reduceLT, Nat.reduceLeDiff, Nat.reduceEqDiff, Nat.reduceAdd, Nat.reduceSub, Nat.reduceMul, reduceIte, ↓reduceIte, reduceCtorEq, Int.reduceToNat, Int.reduceLE, Int.reduceLT, Int.reduceNeg, Int.reduceSub, Int.reduceAdd, Int.reduceMul]
  refine w.callX ?_
  rintro r H' ⟨v, rfl, v0, v1, v2, hs⟩
  have hfin : ∀ b, OnceQ B H cb (.val (.bool b)) H' := fun b => ⟨b, rfl, hs⟩
  simp (disch := omega) only [Try.ntmps133, Try.results133, go_sem, Nat.reduceLT, Nat.reduceLeDiff, Nat.reduceEqDiff, Nat.reduceAdd, Nat.reduceSub, Nat.reduceMul, reduceIte, ↓reduceIte, reduceCtorEq, Int.reduceToNat, Int.reduceLE, Int.reduceLT, Int.reduceNeg, Int.reduceSub, Int.reduceAdd, Int.reduceMul]
  exact hfin _

def PickQ (B : List Int) (L : List Int) (H : Heap) (cb : Nat) (r : SV) (H' : Heap) : Prop := ∃ v : Int, r = .val (.int .i64 v) ∧ v ∈ L ∧ CurS B H cb H'
theorem PickQ.ne {B L : List Int} {H : Heap} {cb : Nat} (hL : L ≠ []) (hc : Cur B H cb) : ∃ r H', PickQ B L H cb r H' := ⟨_, H, L.head hL, rfl, List.head_mem hL, hc.s⟩
theorem Try.l1Pick_ok (B : List Int) (hB : B.length ≤ 1048576) (L : List Int) (hL : L ≠ []) (hl : L.length ≤ 256) (H : Heap) (cb lb : Nat) (ex e2 : Bool) (hc : Cur B H cb) (hb : H.map lb = some ⟨ints L, e2⟩) (hne : lb ≠ cb) :
    CallS Try.prog 173 [.optr cb 0, .own lb 0 L.length L.length 1 ex] H (PickQ B L H cb) := by
  have w := Try.l1Below_ok B hB L.length (by omega) H cb hc
  have hl0 : 0 < L.length := List.length_pos_iff.2 hL
  refine CallS.of_body Try.func173 rfl (by kernel_rfl) (by simp [Try.ntmps173]) ?_
  refine SW_of_vc Try.mixed _ _ _ (by kernel_rfl) ?_
  simp (disch := omega) only [Try.ntmps173, Try.results173, go_sem, Nat.reduceLT, Nat.reduceLeDiff, Nat.reduceEqDiff, Nat.reduceAdd, Nat.reduceSub, Nat.reduceMul, reduceIte, ↓reduceIte, reduceCtorEq, Int.reduceToNat, Int.reduceLE, Int.reduceLT, Int.reduceNeg, Int.reduceSub, Int.reduceAdd, Int.reduceMul]
  refine w.callX ?_
  rintro r H' ⟨v, rfl, v0, v1, v2, hs⟩
  have v1 := v1 (by omega)
  obtain ⟨x, rfl⟩ := Int.eq_ofNat_of_zero_le v0
  have hx : x < L.length := by omega
  have hm : H'.map lb = some ⟨ints L, e2⟩ := by rw [hs.map hne, hb]
  have gx : (ints L)[x]? = some (.val (.int .i64 (L.getD x 0))) := ints_get hx
  have hfin : PickQ B L H cb (.val (.int .i64 (L.getD x 0))) H' := ⟨_, rfl, by simp [hx], hs⟩
  simp (disch := omega) only [Try.ntmps173, Try.results173, go_sem, Nat.reduceLT, Nat.reduceLeDiff, Nat.reduceEqDiff, Nat.reduceAdd, Nat.reduceSub, Nat.reduceMul, reduceIte, ↓reduceIte, reduceCtorEq, Int.reduceToNat, Int.reduceLE, Int.reduceLT, Int.reduceNeg, Int.reduceSub, Int.reduceAdd, Int.reduceMul, hm, gx]
  exact hfin
end Go.Sh
