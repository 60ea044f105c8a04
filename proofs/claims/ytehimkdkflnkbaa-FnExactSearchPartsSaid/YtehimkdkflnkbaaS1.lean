/-
  Contracts: the graph of the must-link constraints, its components. Of the reference and of the program.
-/
import Derived.Test.YtehimkdkflnkbaaN4
import Derived.Test.YtehimkdkflnkbaaN5
import Derived.Test.YtehimkdkflnkbaaM0
import Derived.Test.YtehimkdkflnkbaaG2
import Derived.Test.YtehimkdkflnkbaaShM
namespace Go.Sh
set_option linter.unusedSimpArgs false
set_option linter.unusedVariables false
open Go Go.Proofs

def linkB (c : Con) (x y : Nat) : Bool := c.2.2 && (decide (c.1 = x ∧ c.2.1 = y) || decide (c.1 = y ∧ c.2.1 = x))
def mustB (C : List Con) (x y : Nat) : Bool := C.any fun c => linkB c x y
theorem linkB_sym (c : Con) (x y : Nat) : linkB c x y = linkB c y x := by simp only [linkB]; rw [Bool.or_comm]
theorem mustB_sym (C : List Con) (x y : Nat) : mustB C x y = mustB C y x := by
  simp only [mustB]; congr 1; funext c; exact linkB_sym c x y
theorem mustB_succ {C : List Con} {k : Nat} (h : k < C.length) (x y : Nat) : mustB (C.take (k + 1)) x y = (mustB (C.take k) x y || linkB (cg C k) x y) := by
  have e : cg C k = C[k] := by simp [cg, h]
  rw [mustB, List.take_succ_eq_append_getElem h, List.any_append, e]
  simp [mustB]
theorem areCons_t {n : Int} {C : List Con} (h : areCons n C = true) : (1 ≤ n ∧ n ≤ 8) ∧ C.length ≤ 10 ∧ ∀ c ∈ C, 0 ≤ c.1 ∧ c.1 < c.2.1 ∧ c.2.1 < n := by
  simp only [areCons, Bool.and_eq_true] at h
  refine ⟨inR_of h.1, of_decide_eq_true h.2.1, fun c hc => ?_⟩
  have := List.all_eq_true.1 h.2.2 c hc
  simp only [goodCon, Bool.and_eq_true] at this
  have h1 := inR_of this.1
  have h2 := inR_of this.2.1
  have h3 := of_decide_eq_true this.2.2
  omega
theorem cg_mem {C : List Con} {k : Nat} (h : k < C.length) : cg C k ∈ C := by simp [cg, h]
theorem con_nat {n : Int} {C : List Con} (h : areCons n C = true) {k : Nat} (hk : k < C.length) : ∃ (x y : Nat) (s : Bool), cg C k = ((x : Int), (y : Int), s) ∧ x < y ∧ (y : Int) < n := by
  obtain ⟨a, b, s, hc⟩ := con_ex C k
  have := (areCons_t h).2.2 _ (cg_mem hk)
  rw [hc] at this
  simp only at this
  refine ⟨a.toNat, b.toNat, s, ?_, by omega, by omega⟩
  rw [hc]
  congr 1
  · omega
  · congr 1; omega
theorem linkB_at (x y : Nat) (s : Bool) (a b : Nat) : linkB ((x : Int), (y : Int), s) a b = (s && (decide (x = a ∧ y = b) || decide (x = b ∧ y = a))) := by
  simp only [linkB]
  congr 1
  have e1 : ((x : Int) = a ∧ (y : Int) = b) ↔ (x = a ∧ y = b) := by omega
  have e2 : ((x : Int) = b ∧ (y : Int) = a) ↔ (x = b ∧ y = a) := by omega
  rw [decide_eq_decide.2 e1, decide_eq_decide.2 e2]
def mustM (n : Nat) (C : List Con) : List (List Int) := genM n fun x y => bint (mustB C x y)

set_option maxHeartbeats 4000000 in
theorem Try.mustMatrix_f (n : Nat) (C : List Con) (h : areCons n C = true) : FCall Try.prog 94 [.val (.int .i64 n), rc C] (MatRes (mi (mustM n C))) := by
  obtain ⟨hn, hC, hg⟩ := areCons_t h
  have hn8 : n ≤ 8 := by omega
  have lC := cons_length C
  refine FCall.of_body Try.func94 rfl (by kernel_rfl) (by simp [Try.ntmps94]) ?_
  refine SW_of_vc2 (onD 6 [(30, 32)] []) Try.mixed _ _ _ (by kernel_rfl) ?_
  simp (disch := omega) only [Try.ntmps94, Try.results94, go_sem, Nat.reduceLT, Nat.reduceLeDiff, Nat.reduceEqDiff, Nat.reduceAdd, Nat.reduceSub, Nat.reduceMul, reduceIte, ↓reduceIte, reduceCtorEq, Int.reduceToNat, Int.reduceLE, Int.reduceLT, Int.reduceNeg, Int.reduceSub, Int.reduceAdd, Int.reduceMul, rc]
  refine (Try.square_one n (by omega)).callMat (mi_vals _) 0 (viewL_cons_of (view_int) viewL_nil_of) ?_
  simp (disch := omega) only [Try.ntmps94, Try.results94, go_sem, Nat.reduceLT, Nat.reduceLeDiff, Nat.reduceEqDiff, Nat.reduceAdd, Nat.reduceSub, Nat.reduceMul, reduceIte, ↓reduceIte, reduceCtorEq, Int.reduceToNat, Int.reduceLE, Int.reduceLT, Int.reduceNeg, Int.reduceSub, Int.reduceAdd, Int.reduceMul, rc, zs_length]
  refine LoopW.loop (fun p : Nat × List (List Int) × Nat => ⟨ofL [(5, .own 0 0 n n 1 false), (10, rc C), (11, .val (.int .i64 C.length)), (12, .val (.int .i64 p.1))], hx [.mat 0 (mi p.2.1)] p.2.2⟩)
    (fun p => p.1 ≤ C.length ∧ SqI n p.2.1 ∧ n < p.2.2 ∧ ∀ x y, x < n → y < n → mat p.2.1 x y = bint (mustB (C.take p.1) x y)) (fun p => C.length - p.1) (0, zs n, n + 1) ⟨by simp, .zs n, by simp, fun x y _ _ => zs_at⟩
    (Wk.ofX (by simp only [go_sem, ↓List.forall_mem_cons, List.not_mem_nil, false_implies, implies_true, and_true, true_and, and_self, Nat.reduceEqDiff, reduceIte, ↓reduceIte, ri_eq, Int.natCast_add, Int.cast_ofNat_Int, rc]; try simp) (by simp only [List.forall_mem_cons]; exact ⟨.self, by simp⟩) (Nat.le_refl _)) ?_
  rintro ⟨k, M, nb⟩ ⟨hk, hM, hnb, hMM⟩
  simp only at hk hM hnb hMM
  have hM1 := hM.1
  refine SW_of_vc2 (onD 6 [(30, 32)] []) Try.mixed _ _ _ (by kernel_rfl) ?_
  by_cases hlt : k < C.length
  · obtain ⟨x, y, s, hc, hxy, hyn⟩ := con_nat h hlt
    have hy : y < n := by omega
    have hx : x < n := by omega
    obtain ⟨q0, q1, q2, q3⟩ := cons_of hlt hc
    have hsucc := mustB_succ hlt
    rw [hc] at hsucc
    have r1 := hM.2 x hx
    have r2 := hM.2 y hy
    have l2 : (mset M x y 1).length = n := by rw [mset_length, hM1]
    have r3 : (mrow (mset M x y 1) y).length = n := by rw [mset_row_length, r2]
    cases s with
    | true =>
      have hnew : ∀ a b, a < n → b < n → mat (mset (mset M x y 1) y x 1) a b = bint (mustB (C.take (k + 1)) a b) := by
        intro a b ha hb
        rw [mset_at _ _ _ _ (by omega) (by omega), mset_at _ _ _ _ (by omega) (by omega), hMM a b ha hb, hsucc, linkB_at]
        by_cases e1 : a = y ∧ b = x
        · have : (decide (x = a ∧ y = b) || decide (x = b ∧ y = a)) = true := by simp; omega
          rw [if_pos e1, this]; simp [bint]
        · rw [if_neg e1]
          by_cases e2 : a = x ∧ b = y
          · have : (decide (x = a ∧ y = b) || decide (x = b ∧ y = a)) = true := by simp; omega
            rw [if_pos e2, this]; simp [bint]
          · have : (decide (x = a ∧ y = b) || decide (x = b ∧ y = a)) = false := by simp; omega
            rw [if_neg e2, this]; simp
      simp (disch := omega) only [Try.ntmps94, Try.results94, go_sem, Nat.reduceLT, Nat.reduceLeDiff, Nat.reduceEqDiff, Nat.reduceAdd, Nat.reduceSub, Nat.reduceMul, reduceIte, ↓reduceIte, reduceCtorEq, Int.reduceToNat, Int.reduceLE, Int.reduceLT, Int.reduceNeg, Int.reduceSub, Int.reduceAdd, Int.reduceMul, rc, q3, lC, outerB_getI, xmap_skipI, xmap_rowI, xset_rowI, xset_skipI, r1, r2, r3]
      refine ⟨(k + 1, mset (mset M x y 1) y x 1, nb + 1), ⟨hlt, (hM.set _ _ _).set _ _ _, by show n < nb + 1; omega, hnew⟩, by show C.length - (k + 1) < C.length - k; omega, ?_⟩
      exact Wk.ofX (by simp only [go_sem, ↓List.forall_mem_cons, List.not_mem_nil, false_implies, implies_true, and_true, true_and, and_self, Nat.reduceEqDiff, reduceIte, ↓reduceIte, ri_eq, Int.natCast_add, Int.cast_ofNat_Int, rc]; try simp) (by simp only [List.forall_mem_cons]; exact ⟨EntIn.self.skipM (by simp only [mi_length, mset_length]; omega), by simp⟩) (Nat.le_refl _)
    | false =>
      have hnew : ∀ a b, a < n → b < n → mat M a b = bint (mustB (C.take (k + 1)) a b) := by
        intro a b ha hb
        rw [hMM a b ha hb, hsucc, linkB_at]; simp
      simp (disch := omega) only [Try.ntmps94, Try.results94, go_sem, Nat.reduceLT, Nat.reduceLeDiff, Nat.reduceEqDiff, Nat.reduceAdd, Nat.reduceSub, Nat.reduceMul, reduceIte, ↓reduceIte, reduceCtorEq, Int.reduceToNat, Int.reduceLE, Int.reduceLT, Int.reduceNeg, Int.reduceSub, Int.reduceAdd, Int.reduceMul, rc, q3, lC]
      refine ⟨(k + 1, M, nb + 1), ⟨hlt, hM, by show n < nb + 1; omega, hnew⟩, by show C.length - (k + 1) < C.length - k; omega, ?_⟩
      exact Wk.ofX (by simp only [go_sem, ↓List.forall_mem_cons, List.not_mem_nil, false_implies, implies_true, and_true, true_and, and_self, Nat.reduceEqDiff, reduceIte, ↓reduceIte, ri_eq, Int.natCast_add, Int.cast_ofNat_Int, rc]; try simp) (by simp only [List.forall_mem_cons]; exact ⟨EntIn.self.skipM (by simp only [mi_length]; omega), by simp⟩) (Nat.le_refl _)
  · obtain rfl : k = C.length := by omega
    rw [List.take_length] at hMM
    have he : M = mustM n C := hM.ext (genM_sq n _) fun x y hx hy => by rw [hMM x y hx hy, mustM, genM_at hx hy]
    simp (disch := omega) only [Try.ntmps94, Try.results94, go_sem, Nat.reduceLT, Nat.reduceLeDiff, Nat.reduceEqDiff, Nat.reduceAdd, Nat.reduceSub, Nat.reduceMul, reduceIte, ↓reduceIte, reduceCtorEq, Int.reduceToNat, Int.reduceLE, Int.reduceLT, Int.reduceNeg, Int.reduceSub, Int.reduceAdd, Int.reduceMul, rc]
    rw [← he]
    exact fin_mat .self (mi_vals _) (by rw [mi_length, hM1])
theorem mustM_wm {n : Nat} {C : List Con} (h : areCons n C = true) : WM (mustM n C) := by
  obtain ⟨hn, hC, hg⟩ := areCons_t h
  have hs := genM_sq n fun x y => bint (mustB C x y)
  have hb : ∀ b, 0 ≤ bint b ∧ bint b ≤ 1 := fun b => by cases b <;> simp [bint]
  have e1 : (mustM n C).length = n := hs.1
  refine ⟨by rw [e1]; omega, fun i hi => by rw [e1] at hi ⊢; exact hs.2 i hi, fun i k hi hk => ?_, fun i hi => ?_⟩
  · rw [e1] at hi hk
    rw [mustM, genM_at hi hk, genM_at hk hi, mustB_sym]
    have := hb (mustB C k i)
    exact ⟨by omega, rfl⟩
  · rw [e1] at hi
    rw [mustM, genM_at hi hi]
    have : mustB C i i = false := by
      rw [mustB, List.any_eq_false]
      intro c hc
      have := hg c hc
      simp only [linkB]
      simp
      omega
    rw [this]; rfl
theorem mustM_pB {n : Nat} {C : List Con} {x y : Nat} (hx : x < n) (hy : y < n) : pB (mustM n C) x y = mustB C x y := by
  rw [pB, mustM, genM_at hx hy]
  cases mustB C x y <;> simp [bint]
theorem mustM_length (n : Nat) (C : List Con) : (mustM n C).length = n := (genM_sq n _).1
/-- The component of each item in the graph of the must-link constraints. -/
noncomputable def must (n : Int) (C : List Con) : List Int := if areCons n C = true then comp n.toNat (mustB C) else []
theorem must_t {n : Int} {C : List Con} (h : areCons n C = true) : must n C = comp n.toNat (mustB C) := by rw [must, if_pos h]
theorem must_f {n : Int} {C : List Con} (h : areCons n C = false) : must n C = [] := by rw [must, if_neg (by rw [h]; simp)]
theorem must_ok {n : Nat} {C : List Con} : CompL n (mustB C) (comp n (mustB C)) := comp_ok fun x y _ _ h => by rw [mustB_sym]; exact h
theorem must_length {n : Int} {C : List Con} (h : areCons n C = true) : (must n C).length = n.toNat := by rw [must_t h]; exact must_ok.len
theorem must_pcomp {n : Nat} {C : List Con} (h : areCons n C = true) : pcomp (mustM n C) = comp n (mustB C) := by
  have hw := mustM_wm h
  rw [pcomp_t hw, mustM_length]
  have hc := comp_ok (n := n) (B := pB (mustM n C)) (by have := hw.sym; rwa [mustM_length] at this)
  exact (hc.congr fun x y hx hy => mustM_pB hx hy).eq.symm ▸ rfl

set_option maxHeartbeats 1000000 in
theorem Try.implMust_f (n : Int) (C : List Con) (hC : C.length ≤ 1048576) (h : areCons n C = true) : FCall Try.prog 74 [.val (.int .i64 n), rc C] (FlatRes n.toNat 1 (ints (must n C))) := by
  obtain ⟨⟨n1, n2⟩, _, _⟩ := areCons_t h
  obtain ⟨m, rfl⟩ := Int.eq_ofNat_of_zero_le (by omega : 0 ≤ n)
  have w1 := Try.implAreConstraints_ok m C hC
  rw [h] at w1
  have hw := mustM_wm h
  have hl := mustM_length m C
  have w3 := Try.implPC_one (mustM m C) (by rw [hl]; omega) (fun i hi => by rw [hw.2.1 i hi, hl]; omega) hw
  have hp := must_pcomp h
  rw [must_t h, Int.toNat_natCast]
  rw [hp, hl] at w3
  refine FCall.of_body Try.func74 rfl (by kernel_rfl) (by simp [Try.ntmps74]) ?_
  refine SW_of_vc Try.mixed _ _ _ (by kernel_rfl) ?_
  simp (disch := omega) only [Try.ntmps74, Try.results74, go_sem, Nat.reduceLT, Nat.reduceLeDiff, Nat.reduceEqDiff, Nat.reduceAdd, Nat.reduceSub, Nat.reduceMul, reduceIte, ↓reduceIte, reduceCtorEq, Int.reduceToNat, Int.reduceLE, Int.reduceLT, Int.reduceNeg, Int.reduceSub, Int.reduceAdd, Int.reduceMul, rc]
  refine w1.callV 0 (viewL_cons_of (view_int) (viewL_cons_of (view_row) viewL_nil_of)) ?_
  simp (disch := omega) only [Try.ntmps74, Try.results74, go_sem, Nat.reduceLT, Nat.reduceLeDiff, Nat.reduceEqDiff, Nat.reduceAdd, Nat.reduceSub, Nat.reduceMul, reduceIte, ↓reduceIte, reduceCtorEq, Int.reduceToNat, Int.reduceLE, Int.reduceLT, Int.reduceNeg, Int.reduceSub, Int.reduceAdd, Int.reduceMul, rc]
  refine (Try.mustMatrix_f m C h).mat.callMat (mi_vals _) 0 (viewL_cons_of (view_int) (viewL_cons_of (view_row) viewL_nil_of)) ?_
  simp (disch := omega) only [Try.ntmps74, Try.results74, go_sem, Nat.reduceLT, Nat.reduceLeDiff, Nat.reduceEqDiff, Nat.reduceAdd, Nat.reduceSub, Nat.reduceMul, reduceIte, ↓reduceIte, reduceCtorEq, Int.reduceToNat, Int.reduceLE, Int.reduceLT, Int.reduceNeg, Int.reduceSub, Int.reduceAdd, Int.reduceMul, rc, hl]
  refine w3.callOne (ints_vals _) 2 (viewL_cons_of (view_mi .self hl.symm) viewL_nil_of) ?_
  simp (disch := omega) only [Try.ntmps74, Try.results74, go_sem, Nat.reduceLT, Nat.reduceLeDiff, Nat.reduceEqDiff, Nat.reduceAdd, Nat.reduceSub, Nat.reduceMul, reduceIte, ↓reduceIte, reduceCtorEq, Int.reduceToNat, Int.reduceLE, Int.reduceLT, Int.reduceNeg, Int.reduceSub, Int.reduceAdd, Int.reduceMul, rc]
  exact fin_ints must_ok.len.symm (by rw [hx_map, xmap_blk, if_pos rfl])
theorem Try.implMust_nil (n : Int) (C : List Con) (hC : C.length ≤ 1048576) (h : areCons n C = false) : FCall Try.prog 74 [.val (.int .i64 n), rc C] (fun r _ => r = .val (.slice none 0 0)) := by
  have w1 := Try.implAreConstraints_ok n C hC
  rw [h] at w1
  refine FCall.of_body Try.func74 rfl (by kernel_rfl) (by simp [Try.ntmps74]) ?_
  refine SW_of_vc Try.mixed _ _ _ (by kernel_rfl) ?_
  simp (disch := omega) only [Try.ntmps74, Try.results74, go_sem, Nat.reduceLT, Nat.reduceLeDiff, Nat.reduceEqDiff, Nat.reduceAdd, Nat.reduceSub, Nat.reduceMul, reduceIte, ↓reduceIte, reduceCtorEq, Int.reduceToNat, Int.reduceLE, Int.reduceLT, Int.reduceNeg, Int.reduceSub, Int.reduceAdd, Int.reduceMul, rc]
  refine w1.callV 0 (viewL_cons_of (view_int) (viewL_cons_of (view_row) viewL_nil_of)) ?_
  simp (disch := omega) only [Try.ntmps74, Try.results74, go_sem, Nat.reduceLT, Nat.reduceLeDiff, Nat.reduceEqDiff, Nat.reduceAdd, Nat.reduceSub, Nat.reduceMul, reduceIte, ↓reduceIte, reduceCtorEq, Int.reduceToNat, Int.reduceLE, Int.reduceLT, Int.reduceNeg, Int.reduceSub, Int.reduceAdd, Int.reduceMul, rc]
  exact Fin.val rfl
theorem Try.implMust_one (n : Int) (C : List Con) (hC : C.length ≤ 1048576) (h : areCons n C = true) : FCall Try.prog 74 [.val (.int .i64 n), rc C] (OneRes n.toNat 1 (ints (must n C))) := (Try.implMust_f n C hC h).one
theorem Try.implMust_ok (n : Int) (C : List Con) (hC : C.length ≤ 1048576) : PCall Try.prog 74 [.val (.int .i64 n), rc C] (ri (must n C)) := by
  rcases Bool.eq_false_or_eq_true (areCons n C) with h | h
  · exact (Try.implMust_f n C hC h).pcall 2 (fun _ _ h => flat_view h)
  · rw [must_f h]; exact (Try.implMust_nil n C hC h).pcall 0 (by rintro r H rfl; exact view_nil)
end Go.Sh
