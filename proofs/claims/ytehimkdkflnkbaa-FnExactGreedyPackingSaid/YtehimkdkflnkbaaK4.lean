/-
  Contracts: bad triangles. Of the reference and of the program.
-/
import Derived.Test.YtehimkdkflnkbaaK2
import Derived.Test.YtehimkdkflnkbaaK3
namespace Go.Sh
set_option linter.unusedSimpArgs false
set_option linter.unusedVariables false
open Go Go.Proofs

def bi (b : Bool) : Int := if b = true then 1 else 0
def cn (p : Int → Bool) (x y z : Int) : Nat → Int
  | 0 => 0
  | 1 => bi (p x)
  | 2 => bi (p x) + bi (p y)
  | _ => bi (p x) + bi (p y) + bi (p z)
def pos (v : Int) : Bool := decide (0 < v)
def neg (v : Int) : Bool := decide (v < 0)
theorem cn0 (p : Int → Bool) (x y z : Int) : cn p x y z 0 = 0 := rfl
theorem cn1 (p : Int → Bool) (x y z : Int) : cn p x y z 1 = bi (p x) := rfl
theorem cn2 (p : Int → Bool) (x y z : Int) : cn p x y z 2 = bi (p x) + bi (p y) := rfl
theorem cn3 (p : Int → Bool) (x y z : Int) : cn p x y z 3 = bi (p x) + bi (p y) + bi (p z) := rfl
theorem bi_r (b : Bool) : 0 ≤ bi b ∧ bi b ≤ 1 := by cases b <;> simp [bi]
def badB (x y z : Int) : Bool := decide (cn pos x y z 3 = 2) && decide (cn neg x y z 3 = 1)
def triB (n a b c : Int) : Bool := decide (0 ≤ a ∧ a < b ∧ b < c ∧ c < n)

theorem view_tri {H : Heap} {f : Nat} {a b c w : Int} : view H (f + 1) (.agg [.val (.int .i64 a), .val (.int .i64 b), .val (.int .i64 c), .val (.int .i64 w)]) = some (.agg [.val (.int .i64 a), .val (.int .i64 b), .val (.int .i64 c), .val (.int .i64 w)]) :=
  view_agg (viewL_cons_of view_int (viewL_cons_of view_int (viewL_cons_of view_int (viewL_cons_of view_int viewL_nil_of))))

set_option maxHeartbeats 1000000 in
theorem Try.isTriangle_ok (a b c w n : Int) (n1 : 1 ≤ n) (n2 : n ≤ 8) : PCall Try.prog 141 [.agg [.val (.int .i64 a), .val (.int .i64 b), .val (.int .i64 c), .val (.int .i64 w)], .val (.int .i64 n)] (.val (.bool (triB n a b c))) := by
  refine FCall.pcall (R := fun r _ => r = .val (.bool (triB n a b c))) ?_ 0 (by rintro r H rfl; exact view_bool)
  refine FCall.of_body Try.func141 rfl (by kernel_rfl) (by simp [Try.ntmps141]) ?_
  refine SW_of_vc Try.mixed _ _ _ (by kernel_rfl) ?_
  have w1 := Try.isItem_ok a n (by omega) (by omega)
  have w2 := Try.isItem_ok b n (by omega) (by omega)
  have w3 := Try.isItem_ok c n (by omega) (by omega)
  rcases Bool.eq_false_or_eq_true (inR a 0 (n - 1)) with h1 | h1
  · rw [h1] at w1
    have r1 := inR_of h1
    rcases Bool.eq_false_or_eq_true (inR b 0 (n - 1)) with h2 | h2
    · rw [h2] at w2
      have r2 := inR_of h2
      rcases Bool.eq_false_or_eq_true (inR c 0 (n - 1)) with h3 | h3
      · rw [h3] at w3
        have r3 := inR_of h3
        by_cases h4 : a < b
        · by_cases h5 : b < c
          · simp (disch := omega) only [Try.ntmps141, Try.results141, go_sem, Nat.reduceLT, Nat.reduceLeDiff, Nat.reduceEqDiff, Nat.reduceAdd, Nat.reduceSub, Nat.reduceMul, reduceIte, ↓reduceIte, reduceCtorEq, Int.reduceToNat, Int.reduceLE, Int.reduceLT, Int.reduceNeg, Int.reduceSub, Int.reduceAdd, Int.reduceMul]
            refine w1.callV 0 (viewL_cons_of (view_int) (viewL_cons_of (view_int) viewL_nil_of)) ?_
            simp (disch := omega) only [Try.ntmps141, Try.results141, go_sem, Nat.reduceLT, Nat.reduceLeDiff, Nat.reduceEqDiff, Nat.reduceAdd, Nat.reduceSub, Nat.reduceMul, reduceIte, ↓reduceIte, reduceCtorEq, Int.reduceToNat, Int.reduceLE, Int.reduceLT, Int.reduceNeg, Int.reduceSub, Int.reduceAdd, Int.reduceMul]
            refine w2.callV 0 (viewL_cons_of (view_int) (viewL_cons_of (view_int) viewL_nil_of)) ?_
            simp (disch := omega) only [Try.ntmps141, Try.results141, go_sem, Nat.reduceLT, Nat.reduceLeDiff, Nat.reduceEqDiff, Nat.reduceAdd, Nat.reduceSub, Nat.reduceMul, reduceIte, ↓reduceIte, reduceCtorEq, Int.reduceToNat, Int.reduceLE, Int.reduceLT, Int.reduceNeg, Int.reduceSub, Int.reduceAdd, Int.reduceMul]
            refine w3.callV 0 (viewL_cons_of (view_int) (viewL_cons_of (view_int) viewL_nil_of)) ?_
            simp (disch := omega) only [Try.ntmps141, Try.results141, go_sem, Nat.reduceLT, Nat.reduceLeDiff, Nat.reduceEqDiff, Nat.reduceAdd, Nat.reduceSub, Nat.reduceMul, reduceIte, ↓reduceIte, reduceCtorEq, Int.reduceToNat, Int.reduceLE, Int.reduceLT, Int.reduceNeg, Int.reduceSub, Int.reduceAdd, Int.reduceMul]
            exact Fin.val (by rw [triB, decide_eq_true (by omega)])
          · simp (disch := omega) only [Try.ntmps141, Try.results141, go_sem, Nat.reduceLT, Nat.reduceLeDiff, Nat.reduceEqDiff, Nat.reduceAdd, Nat.reduceSub, Nat.reduceMul, reduceIte, ↓reduceIte, reduceCtorEq, Int.reduceToNat, Int.reduceLE, Int.reduceLT, Int.reduceNeg, Int.reduceSub, Int.reduceAdd, Int.reduceMul]
            refine w1.callV 0 (viewL_cons_of (view_int) (viewL_cons_of (view_int) viewL_nil_of)) ?_
            simp (disch := omega) only [Try.ntmps141, Try.results141, go_sem, Nat.reduceLT, Nat.reduceLeDiff, Nat.reduceEqDiff, Nat.reduceAdd, Nat.reduceSub, Nat.reduceMul, reduceIte, ↓reduceIte, reduceCtorEq, Int.reduceToNat, Int.reduceLE, Int.reduceLT, Int.reduceNeg, Int.reduceSub, Int.reduceAdd, Int.reduceMul]
            refine w2.callV 0 (viewL_cons_of (view_int) (viewL_cons_of (view_int) viewL_nil_of)) ?_
            simp (disch := omega) only [Try.ntmps141, Try.results141, go_sem, Nat.reduceLT, Nat.reduceLeDiff, Nat.reduceEqDiff, Nat.reduceAdd, Nat.reduceSub, Nat.reduceMul, reduceIte, ↓reduceIte, reduceCtorEq, Int.reduceToNat, Int.reduceLE, Int.reduceLT, Int.reduceNeg, Int.reduceSub, Int.reduceAdd, Int.reduceMul]
            refine w3.callV 0 (viewL_cons_of (view_int) (viewL_cons_of (view_int) viewL_nil_of)) ?_
            simp (disch := omega) only [Try.ntmps141, Try.results141, go_sem, Nat.reduceLT, Nat.reduceLeDiff, Nat.reduceEqDiff, Nat.reduceAdd, Nat.reduceSub, Nat.reduceMul, reduceIte, ↓reduceIte, reduceCtorEq, Int.reduceToNat, Int.reduceLE, Int.reduceLT, Int.reduceNeg, Int.reduceSub, Int.reduceAdd, Int.reduceMul]
            exact Fin.val (by rw [triB, decide_eq_false (by omega)])
        · simp (disch := omega) only [Try.ntmps141, Try.results141, go_sem, Nat.reduceLT, Nat.reduceLeDiff, Nat.reduceEqDiff, Nat.reduceAdd, Nat.reduceSub, Nat.reduceMul, reduceIte, ↓reduceIte, reduceCtorEq, Int.reduceToNat, Int.reduceLE, Int.reduceLT, Int.reduceNeg, Int.reduceSub, Int.reduceAdd, Int.reduceMul]
          refine w1.callV 0 (viewL_cons_of (view_int) (viewL_cons_of (view_int) viewL_nil_of)) ?_
          simp (disch := omega) only [Try.ntmps141, Try.results141, go_sem, Nat.reduceLT, Nat.reduceLeDiff, Nat.reduceEqDiff, Nat.reduceAdd, Nat.reduceSub, Nat.reduceMul, reduceIte, ↓reduceIte, reduceCtorEq, Int.reduceToNat, Int.reduceLE, Int.reduceLT, Int.reduceNeg, Int.reduceSub, Int.reduceAdd, Int.reduceMul]
          refine w2.callV 0 (viewL_cons_of (view_int) (viewL_cons_of (view_int) viewL_nil_of)) ?_
          simp (disch := omega) only [Try.ntmps141, Try.results141, go_sem, Nat.reduceLT, Nat.reduceLeDiff, Nat.reduceEqDiff, Nat.reduceAdd, Nat.reduceSub, Nat.reduceMul, reduceIte, ↓reduceIte, reduceCtorEq, Int.reduceToNat, Int.reduceLE, Int.reduceLT, Int.reduceNeg, Int.reduceSub, Int.reduceAdd, Int.reduceMul]
          refine w3.callV 0 (viewL_cons_of (view_int) (viewL_cons_of (view_int) viewL_nil_of)) ?_
          simp (disch := omega) only [Try.ntmps141, Try.results141, go_sem, Nat.reduceLT, Nat.reduceLeDiff, Nat.reduceEqDiff, Nat.reduceAdd, Nat.reduceSub, Nat.reduceMul, reduceIte, ↓reduceIte, reduceCtorEq, Int.reduceToNat, Int.reduceLE, Int.reduceLT, Int.reduceNeg, Int.reduceSub, Int.reduceAdd, Int.reduceMul]
          exact Fin.val (by rw [triB, decide_eq_false (by omega)])
      · rw [h3] at w3
        have r3 := inR_not h3
        simp (disch := omega) only [Try.ntmps141, Try.results141, go_sem, Nat.reduceLT, Nat.reduceLeDiff, Nat.reduceEqDiff, Nat.reduceAdd, Nat.reduceSub, Nat.reduceMul, reduceIte, ↓reduceIte, reduceCtorEq, Int.reduceToNat, Int.reduceLE, Int.reduceLT, Int.reduceNeg, Int.reduceSub, Int.reduceAdd, Int.reduceMul]
        refine w1.callV 0 (viewL_cons_of (view_int) (viewL_cons_of (view_int) viewL_nil_of)) ?_
        simp (disch := omega) only [Try.ntmps141, Try.results141, go_sem, Nat.reduceLT, Nat.reduceLeDiff, Nat.reduceEqDiff, Nat.reduceAdd, Nat.reduceSub, Nat.reduceMul, reduceIte, ↓reduceIte, reduceCtorEq, Int.reduceToNat, Int.reduceLE, Int.reduceLT, Int.reduceNeg, Int.reduceSub, Int.reduceAdd, Int.reduceMul]
        refine w2.callV 0 (viewL_cons_of (view_int) (viewL_cons_of (view_int) viewL_nil_of)) ?_
        simp (disch := omega) only [Try.ntmps141, Try.results141, go_sem, Nat.reduceLT, Nat.reduceLeDiff, Nat.reduceEqDiff, Nat.reduceAdd, Nat.reduceSub, Nat.reduceMul, reduceIte, ↓reduceIte, reduceCtorEq, Int.reduceToNat, Int.reduceLE, Int.reduceLT, Int.reduceNeg, Int.reduceSub, Int.reduceAdd, Int.reduceMul]
        refine w3.callV 0 (viewL_cons_of (view_int) (viewL_cons_of (view_int) viewL_nil_of)) ?_
        simp (disch := omega) only [Try.ntmps141, Try.results141, go_sem, Nat.reduceLT, Nat.reduceLeDiff, Nat.reduceEqDiff, Nat.reduceAdd, Nat.reduceSub, Nat.reduceMul, reduceIte, ↓reduceIte, reduceCtorEq, Int.reduceToNat, Int.reduceLE, Int.reduceLT, Int.reduceNeg, Int.reduceSub, Int.reduceAdd, Int.reduceMul]
        exact Fin.val (by rw [triB, decide_eq_false (by omega)])
    · rw [h2] at w2
      have r2 := inR_not h2
      simp (disch := omega) only [Try.ntmps141, Try.results141, go_sem, Nat.reduceLT, Nat.reduceLeDiff, Nat.reduceEqDiff, Nat.reduceAdd, Nat.reduceSub, Nat.reduceMul, reduceIte, ↓reduceIte, reduceCtorEq, Int.reduceToNat, Int.reduceLE, Int.reduceLT, Int.reduceNeg, Int.reduceSub, Int.reduceAdd, Int.reduceMul]
      refine w1.callV 0 (viewL_cons_of (view_int) (viewL_cons_of (view_int) viewL_nil_of)) ?_
      simp (disch := omega) only [Try.ntmps141, Try.results141, go_sem, Nat.reduceLT, Nat.reduceLeDiff, Nat.reduceEqDiff, Nat.reduceAdd, Nat.reduceSub, Nat.reduceMul, reduceIte, ↓reduceIte, reduceCtorEq, Int.reduceToNat, Int.reduceLE, Int.reduceLT, Int.reduceNeg, Int.reduceSub, Int.reduceAdd, Int.reduceMul]
      refine w2.callV 0 (viewL_cons_of (view_int) (viewL_cons_of (view_int) viewL_nil_of)) ?_
      simp (disch := omega) only [Try.ntmps141, Try.results141, go_sem, Nat.reduceLT, Nat.reduceLeDiff, Nat.reduceEqDiff, Nat.reduceAdd, Nat.reduceSub, Nat.reduceMul, reduceIte, ↓reduceIte, reduceCtorEq, Int.reduceToNat, Int.reduceLE, Int.reduceLT, Int.reduceNeg, Int.reduceSub, Int.reduceAdd, Int.reduceMul]
      exact Fin.val (by rw [triB, decide_eq_false (by omega)])
  · rw [h1] at w1
    have r1 := inR_not h1
    simp (disch := omega) only [Try.ntmps141, Try.results141, go_sem, Nat.reduceLT, Nat.reduceLeDiff, Nat.reduceEqDiff, Nat.reduceAdd, Nat.reduceSub, Nat.reduceMul, reduceIte, ↓reduceIte, reduceCtorEq, Int.reduceToNat, Int.reduceLE, Int.reduceLT, Int.reduceNeg, Int.reduceSub, Int.reduceAdd, Int.reduceMul]
    refine w1.callV 0 (viewL_cons_of (view_int) (viewL_cons_of (view_int) viewL_nil_of)) ?_
    simp (disch := omega) only [Try.ntmps141, Try.results141, go_sem, Nat.reduceLT, Nat.reduceLeDiff, Nat.reduceEqDiff, Nat.reduceAdd, Nat.reduceSub, Nat.reduceMul, reduceIte, ↓reduceIte, reduceCtorEq, Int.reduceToNat, Int.reduceLE, Int.reduceLT, Int.reduceNeg, Int.reduceSub, Int.reduceAdd, Int.reduceMul]
    exact Fin.val (by rw [triB, decide_eq_false (by omega)])

theorem view_six {H : Heap} {f : Nat} {a b c d e g : Int} : view H (f + 1) (.agg [.val (.int .i64 a), .val (.int .i64 b), .val (.int .i64 c), .val (.int .i64 d), .val (.int .i64 e), .val (.int .i64 g)]) = some (.agg [.val (.int .i64 a), .val (.int .i64 b), .val (.int .i64 c), .val (.int .i64 d), .val (.int .i64 e), .val (.int .i64 g)]) :=
  view_agg (viewL_cons_of view_int (viewL_cons_of view_int (viewL_cons_of view_int (viewL_cons_of view_int (viewL_cons_of view_int (viewL_cons_of view_int viewL_nil_of))))))

set_option maxHeartbeats 1000000 in
theorem Try.pairs_ok (a b c w : Int) : PCall Try.prog 81 [.agg [.val (.int .i64 a), .val (.int .i64 b), .val (.int .i64 c), .val (.int .i64 w)]] (.agg [.val (.int .i64 a), .val (.int .i64 b), .val (.int .i64 a), .val (.int .i64 c), .val (.int .i64 b), .val (.int .i64 c)]) := by
  refine FCall.pcall (R := fun r _ => r = .agg [.val (.int .i64 a), .val (.int .i64 b), .val (.int .i64 a), .val (.int .i64 c), .val (.int .i64 b), .val (.int .i64 c)]) ?_ 1 (by rintro r H rfl; exact view_six)
  refine FCall.of_body Try.func81 rfl (by kernel_rfl) (by simp [Try.ntmps81]) ?_
  refine SW_of_vc Try.mixed _ _ _ (by kernel_rfl) ?_
  simp (disch := omega) only [Try.ntmps81, Try.results81, go_sem, Nat.reduceLT, Nat.reduceLeDiff, Nat.reduceEqDiff, Nat.reduceAdd, Nat.reduceSub, Nat.reduceMul, reduceIte, ↓reduceIte, reduceCtorEq, Int.reduceToNat, Int.reduceLE, Int.reduceLT, Int.reduceNeg, Int.reduceSub, Int.reduceAdd, Int.reduceMul]
  exact Fin.agg rfl rfl

set_option maxHeartbeats 4000000 in
theorem Try.isBad_ok (M : List (List Int)) (a b c w : Int) (hM : M.length ≤ 8) (hR : ∀ i, i < M.length → (mrow M i).length = M.length) (h : triB M.length a b c = true) :
    PCall Try.prog 124 [.agg [.val (.int .i64 a), .val (.int .i64 b), .val (.int .i64 c), .val (.int .i64 w)], rr M] (.val (.bool (badB (mat M a.toNat b.toNat) (mat M a.toNat c.toNat) (mat M b.toNat c.toNat)))) := by
  obtain ⟨t1, t2, t3, t4⟩ := of_decide_eq_true h
  have e1 : a.toNat < M.length := by omega
  have e2 : b.toNat < M.length := by omega
  have e3 : c.toNat < M.length := by omega
  have ra := hR _ e1
  have rb := hR _ e2
  have g1 : (ints (mrow M a.toNat))[b.toNat]? = some (.val (.int .i64 (mat M a.toNat b.toNat))) := ints_get' ra e2
  have g2 : (ints (mrow M a.toNat))[c.toNat]? = some (.val (.int .i64 (mat M a.toNat c.toNat))) := ints_get' ra e3
  have g3 : (ints (mrow M b.toNat))[c.toNat]? = some (.val (.int .i64 (mat M b.toNat c.toNat))) := ints_get' rb e3
  generalize mat M a.toNat b.toNat = x at *
  generalize mat M a.toNat c.toNat = y at *
  generalize mat M b.toNat c.toNat = z at *
  have bx := bi_r (pos x)
  have by_ := bi_r (pos y)
  have bz := bi_r (pos z)
  have dx := bi_r (neg x)
  have dy := bi_r (neg y)
  have dz := bi_r (neg z)
  refine FCall.pcall (R := fun r _ => r = .val (.bool (badB x y z))) ?_ 0 (by rintro r H rfl; exact view_bool)
  refine FCall.of_body Try.func124 rfl (by kernel_rfl) (by simp [Try.ntmps124]) ?_
  refine SW_of_vc Try.mixed _ _ _ (by kernel_rfl) ?_
  simp (disch := omega) only [Try.ntmps124, Try.results124, go_sem, Nat.reduceLT, Nat.reduceLeDiff, Nat.reduceEqDiff, Nat.reduceAdd, Nat.reduceSub, Nat.reduceMul, reduceIte, ↓reduceIte, reduceCtorEq, Int.reduceToNat, Int.reduceLE, Int.reduceLT, Int.reduceNeg, Int.reduceSub, Int.reduceAdd, Int.reduceMul, rr_eq]
  refine (Try.pairs_ok a b c w).callV 1 (viewL_cons_of view_tri viewL_nil_of) ?_
  simp (disch := omega) only [Try.ntmps124, Try.results124, go_sem, Nat.reduceLT, Nat.reduceLeDiff, Nat.reduceEqDiff, Nat.reduceAdd, Nat.reduceSub, Nat.reduceMul, reduceIte, ↓reduceIte, reduceCtorEq, Int.reduceToNat, Int.reduceLE, Int.reduceLT, Int.reduceNeg, Int.reduceSub, Int.reduceAdd, Int.reduceMul, rr_eq]
  refine LoopW.loop (fun p : Nat × Nat => ⟨ofL [(1, rr M), (5, .val (.int .i64 (cn pos x y z p.1))), (6, .val (.int .i64 (cn neg x y z p.1))), (11, .agg [.val (.int .i64 a), .val (.int .i64 b), .val (.int .i64 a), .val (.int .i64 c), .val (.int .i64 b), .val (.int .i64 c)]), (12, .val (.int .i64 p.1))], hp [] p.2⟩) (fun p => p.1 ≤ 3) (fun p => 3 - p.1) (0, 1) (by simp)
    (Wk.ofH (by simp only [go_sem, ↓List.forall_mem_cons, List.not_mem_nil, false_implies, implies_true, and_true, true_and, and_self, Nat.reduceEqDiff, reduceIte, ↓reduceIte, ri_eq, Int.natCast_add, Int.cast_ofNat_Int, rr_eq, cn0]; try simp) (by simp (disch := omega) only [go_sem, ↓List.forall_mem_cons, List.not_mem_nil, false_implies, implies_true, and_true, true_and, and_self, Nat.reduceEqDiff, reduceIte, ↓reduceIte, ri_eq, Int.natCast_add, Int.cast_ofNat_Int, if_pos, if_neg, Nat.reduceAdd, List.nil_append]; try simp) (by simp [hp])) ?_
  rintro ⟨i, nb⟩ hi
  simp only at hi
  refine SW_of_vc Try.mixed _ _ _ (by kernel_rfl) ?_
  rcases (by omega : i = 0 ∨ i = 1 ∨ i = 2 ∨ i = 3) with rfl | rfl | rfl | rfl
  · skip
    by_cases hp0 : 0 < x
    · have k1 : pos x = true := decide_eq_true hp0
      have k2 : neg x = false := decide_eq_false (by omega)
      simp (disch := omega) only [Try.ntmps124, Try.results124, go_sem, Nat.reduceLT, Nat.reduceLeDiff, Nat.reduceEqDiff, Nat.reduceAdd, Nat.reduceSub, Nat.reduceMul, reduceIte, ↓reduceIte, reduceCtorEq, Int.reduceToNat, Int.reduceLE, Int.reduceLT, Int.reduceNeg, Int.reduceSub, Int.reduceAdd, Int.reduceMul, rr_eq, rows_get, ra, rb, g1, g2, g3, cn0, cn1, cn2]
      exact ⟨(1, nb + 1), by simp, by simp, Wk.ofH (by simp only [go_sem, ↓List.forall_mem_cons, List.not_mem_nil, false_implies, implies_true, and_true, true_and, and_self, Nat.reduceEqDiff, reduceIte, ↓reduceIte, ri_eq, Int.natCast_add, Int.cast_ofNat_Int, rr_eq, cn0, cn1, cn2, cn3, bi, k1, k2]; try simp) (by simp (disch := omega) only [go_sem, ↓List.forall_mem_cons, List.not_mem_nil, false_implies, implies_true, and_true, true_and, and_self, Nat.reduceEqDiff, reduceIte, ↓reduceIte, ri_eq, Int.natCast_add, Int.cast_ofNat_Int, if_pos, if_neg, Nat.reduceAdd, List.nil_append]; try simp) (by simp [hp])⟩
    · have k1 : pos x = false := decide_eq_false hp0
      by_cases hn0 : x < 0
      · have k2 : neg x = true := decide_eq_true hn0
        simp (disch := omega) only [Try.ntmps124, Try.results124, go_sem, Nat.reduceLT, Nat.reduceLeDiff, Nat.reduceEqDiff, Nat.reduceAdd, Nat.reduceSub, Nat.reduceMul, reduceIte, ↓reduceIte, reduceCtorEq, Int.reduceToNat, Int.reduceLE, Int.reduceLT, Int.reduceNeg, Int.reduceSub, Int.reduceAdd, Int.reduceMul, rr_eq, rows_get, ra, rb, g1, g2, g3, cn0, cn1, cn2]
        exact ⟨(1, nb + 1), by simp, by simp, Wk.ofH (by simp only [go_sem, ↓List.forall_mem_cons, List.not_mem_nil, false_implies, implies_true, and_true, true_and, and_self, Nat.reduceEqDiff, reduceIte, ↓reduceIte, ri_eq, Int.natCast_add, Int.cast_ofNat_Int, rr_eq, cn0, cn1, cn2, cn3, bi, k1, k2]; try simp) (by simp (disch := omega) only [go_sem, ↓List.forall_mem_cons, List.not_mem_nil, false_implies, implies_true, and_true, true_and, and_self, Nat.reduceEqDiff, reduceIte, ↓reduceIte, ri_eq, Int.natCast_add, Int.cast_ofNat_Int, if_pos, if_neg, Nat.reduceAdd, List.nil_append]; try simp) (by simp [hp])⟩
      · have k2 : neg x = false := decide_eq_false hn0
        simp (disch := omega) only [Try.ntmps124, Try.results124, go_sem, Nat.reduceLT, Nat.reduceLeDiff, Nat.reduceEqDiff, Nat.reduceAdd, Nat.reduceSub, Nat.reduceMul, reduceIte, ↓reduceIte, reduceCtorEq, Int.reduceToNat, Int.reduceLE, Int.reduceLT, Int.reduceNeg, Int.reduceSub, Int.reduceAdd, Int.reduceMul, rr_eq, rows_get, ra, rb, g1, g2, g3, cn0, cn1, cn2]
        exact ⟨(1, nb + 1), by simp, by simp, Wk.ofH (by simp only [go_sem, ↓List.forall_mem_cons, List.not_mem_nil, false_implies, implies_true, and_true, true_and, and_self, Nat.reduceEqDiff, reduceIte, ↓reduceIte, ri_eq, Int.natCast_add, Int.cast_ofNat_Int, rr_eq, cn0, cn1, cn2, cn3, bi, k1, k2]; try simp) (by simp (disch := omega) only [go_sem, ↓List.forall_mem_cons, List.not_mem_nil, false_implies, implies_true, and_true, true_and, and_self, Nat.reduceEqDiff, reduceIte, ↓reduceIte, ri_eq, Int.natCast_add, Int.cast_ofNat_Int, if_pos, if_neg, Nat.reduceAdd, List.nil_append]; try simp) (by simp [hp])⟩
  · skip
    by_cases hp1 : 0 < y
    · have k1 : pos y = true := decide_eq_true hp1
      have k2 : neg y = false := decide_eq_false (by omega)
      simp (disch := omega) only [Try.ntmps124, Try.results124, go_sem, Nat.reduceLT, Nat.reduceLeDiff, Nat.reduceEqDiff, Nat.reduceAdd, Nat.reduceSub, Nat.reduceMul, reduceIte, ↓reduceIte, reduceCtorEq, Int.reduceToNat, Int.reduceLE, Int.reduceLT, Int.reduceNeg, Int.reduceSub, Int.reduceAdd, Int.reduceMul, rr_eq, rows_get, ra, rb, g1, g2, g3, cn0, cn1, cn2]
      exact ⟨(2, nb + 1), by simp, by simp, Wk.ofH (by simp only [go_sem, ↓List.forall_mem_cons, List.not_mem_nil, false_implies, implies_true, and_true, true_and, and_self, Nat.reduceEqDiff, reduceIte, ↓reduceIte, ri_eq, Int.natCast_add, Int.cast_ofNat_Int, rr_eq, cn0, cn1, cn2, cn3, bi, k1, k2]; try simp) (by simp (disch := omega) only [go_sem, ↓List.forall_mem_cons, List.not_mem_nil, false_implies, implies_true, and_true, true_and, and_self, Nat.reduceEqDiff, reduceIte, ↓reduceIte, ri_eq, Int.natCast_add, Int.cast_ofNat_Int, if_pos, if_neg, Nat.reduceAdd, List.nil_append]; try simp) (by simp [hp])⟩
    · have k1 : pos y = false := decide_eq_false hp1
      by_cases hn1 : y < 0
      · have k2 : neg y = true := decide_eq_true hn1
        simp (disch := omega) only [Try.ntmps124, Try.results124, go_sem, Nat.reduceLT, Nat.reduceLeDiff, Nat.reduceEqDiff, Nat.reduceAdd, Nat.reduceSub, Nat.reduceMul, reduceIte, ↓reduceIte, reduceCtorEq, Int.reduceToNat, Int.reduceLE, Int.reduceLT, Int.reduceNeg, Int.reduceSub, Int.reduceAdd, Int.reduceMul, rr_eq, rows_get, ra, rb, g1, g2, g3, cn0, cn1, cn2]
        exact ⟨(2, nb + 1), by simp, by simp, Wk.ofH (by simp only [go_sem, ↓List.forall_mem_cons, List.not_mem_nil, false_implies, implies_true, and_true, true_and, and_self, Nat.reduceEqDiff, reduceIte, ↓reduceIte, ri_eq, Int.natCast_add, Int.cast_ofNat_Int, rr_eq, cn0, cn1, cn2, cn3, bi, k1, k2]; try simp) (by simp (disch := omega) only [go_sem, ↓List.forall_mem_cons, List.not_mem_nil, false_implies, implies_true, and_true, true_and, and_self, Nat.reduceEqDiff, reduceIte, ↓reduceIte, ri_eq, Int.natCast_add, Int.cast_ofNat_Int, if_pos, if_neg, Nat.reduceAdd, List.nil_append]; try simp) (by simp [hp])⟩
      · have k2 : neg y = false := decide_eq_false hn1
        simp (disch := omega) only [Try.ntmps124, Try.results124, go_sem, Nat.reduceLT, Nat.reduceLeDiff, Nat.reduceEqDiff, Nat.reduceAdd, Nat.reduceSub, Nat.reduceMul, reduceIte, ↓reduceIte, reduceCtorEq, Int.reduceToNat, Int.reduceLE, Int.reduceLT, Int.reduceNeg, Int.reduceSub, Int.reduceAdd, Int.reduceMul, rr_eq, rows_get, ra, rb, g1, g2, g3, cn0, cn1, cn2]
        exact ⟨(2, nb + 1), by simp, by simp, Wk.ofH (by simp only [go_sem, ↓List.forall_mem_cons, List.not_mem_nil, false_implies, implies_true, and_true, true_and, and_self, Nat.reduceEqDiff, reduceIte, ↓reduceIte, ri_eq, Int.natCast_add, Int.cast_ofNat_Int, rr_eq, cn0, cn1, cn2, cn3, bi, k1, k2]; try simp) (by simp (disch := omega) only [go_sem, ↓List.forall_mem_cons, List.not_mem_nil, false_implies, implies_true, and_true, true_and, and_self, Nat.reduceEqDiff, reduceIte, ↓reduceIte, ri_eq, Int.natCast_add, Int.cast_ofNat_Int, if_pos, if_neg, Nat.reduceAdd, List.nil_append]; try simp) (by simp [hp])⟩
  · skip
    by_cases hp2 : 0 < z
    · have k1 : pos z = true := decide_eq_true hp2
      have k2 : neg z = false := decide_eq_false (by omega)
      simp (disch := omega) only [Try.ntmps124, Try.results124, go_sem, Nat.reduceLT, Nat.reduceLeDiff, Nat.reduceEqDiff, Nat.reduceAdd, Nat.reduceSub, Nat.reduceMul, reduceIte, ↓reduceIte, reduceCtorEq, Int.reduceToNat, Int.reduceLE, Int.reduceLT, Int.reduceNeg, Int.reduceSub, Int.reduceAdd, Int.reduceMul, rr_eq, rows_get, ra, rb, g1, g2, g3, cn0, cn1, cn2]
      exact ⟨(3, nb + 1), by simp, by simp, Wk.ofH (by simp only [go_sem, ↓List.forall_mem_cons, List.not_mem_nil, false_implies, implies_true, and_true, true_and, and_self, Nat.reduceEqDiff, reduceIte, ↓reduceIte, ri_eq, Int.natCast_add, Int.cast_ofNat_Int, rr_eq, cn0, cn1, cn2, cn3, bi, k1, k2]; try simp) (by simp (disch := omega) only [go_sem, ↓List.forall_mem_cons, List.not_mem_nil, false_implies, implies_true, and_true, true_and, and_self, Nat.reduceEqDiff, reduceIte, ↓reduceIte, ri_eq, Int.natCast_add, Int.cast_ofNat_Int, if_pos, if_neg, Nat.reduceAdd, List.nil_append]; try simp) (by simp [hp])⟩
    · have k1 : pos z = false := decide_eq_false hp2
      by_cases hn2 : z < 0
      · have k2 : neg z = true := decide_eq_true hn2
        simp (disch := omega) only [Try.ntmps124, Try.results124, go_sem, Nat.reduceLT, Nat.reduceLeDiff, Nat.reduceEqDiff, Nat.reduceAdd, Nat.reduceSub, Nat.reduceMul, reduceIte, ↓reduceIte, reduceCtorEq, Int.reduceToNat, Int.reduceLE, Int.reduceLT, Int.reduceNeg, Int.reduceSub, Int.reduceAdd, Int.reduceMul, rr_eq, rows_get, ra, rb, g1, g2, g3, cn0, cn1, cn2]
        exact ⟨(3, nb + 1), by simp, by simp, Wk.ofH (by simp only [go_sem, ↓List.forall_mem_cons, List.not_mem_nil, false_implies, implies_true, and_true, true_and, and_self, Nat.reduceEqDiff, reduceIte, ↓reduceIte, ri_eq, Int.natCast_add, Int.cast_ofNat_Int, rr_eq, cn0, cn1, cn2, cn3, bi, k1, k2]; try simp) (by simp (disch := omega) only [go_sem, ↓List.forall_mem_cons, List.not_mem_nil, false_implies, implies_true, and_true, true_and, and_self, Nat.reduceEqDiff, reduceIte, ↓reduceIte, ri_eq, Int.natCast_add, Int.cast_ofNat_Int, if_pos, if_neg, Nat.reduceAdd, List.nil_append]; try simp) (by simp [hp])⟩
      · have k2 : neg z = false := decide_eq_false hn2
        simp (disch := omega) only [Try.ntmps124, Try.results124, go_sem, Nat.reduceLT, Nat.reduceLeDiff, Nat.reduceEqDiff, Nat.reduceAdd, Nat.reduceSub, Nat.reduceMul, reduceIte, ↓reduceIte, reduceCtorEq, Int.reduceToNat, Int.reduceLE, Int.reduceLT, Int.reduceNeg, Int.reduceSub, Int.reduceAdd, Int.reduceMul, rr_eq, rows_get, ra, rb, g1, g2, g3, cn0, cn1, cn2]
        exact ⟨(3, nb + 1), by simp, by simp, Wk.ofH (by simp only [go_sem, ↓List.forall_mem_cons, List.not_mem_nil, false_implies, implies_true, and_true, true_and, and_self, Nat.reduceEqDiff, reduceIte, ↓reduceIte, ri_eq, Int.natCast_add, Int.cast_ofNat_Int, rr_eq, cn0, cn1, cn2, cn3, bi, k1, k2]; try simp) (by simp (disch := omega) only [go_sem, ↓List.forall_mem_cons, List.not_mem_nil, false_implies, implies_true, and_true, true_and, and_self, Nat.reduceEqDiff, reduceIte, ↓reduceIte, ri_eq, Int.natCast_add, Int.cast_ofNat_Int, if_pos, if_neg, Nat.reduceAdd, List.nil_append]; try simp) (by simp [hp])⟩
  · by_cases q1 : cn pos x y z 3 = 2
    · by_cases q2 : cn neg x y z 3 = 1
      · simp (disch := omega) only [Try.ntmps124, Try.results124, go_sem, Nat.reduceLT, Nat.reduceLeDiff, Nat.reduceEqDiff, Nat.reduceAdd, Nat.reduceSub, Nat.reduceMul, reduceIte, ↓reduceIte, reduceCtorEq, Int.reduceToNat, Int.reduceLE, Int.reduceLT, Int.reduceNeg, Int.reduceSub, Int.reduceAdd, Int.reduceMul, q1, q2]
        exact Fin.val (by rw [badB, decide_eq_true q1, decide_eq_true q2]; rfl)
      · simp (disch := omega) only [Try.ntmps124, Try.results124, go_sem, Nat.reduceLT, Nat.reduceLeDiff, Nat.reduceEqDiff, Nat.reduceAdd, Nat.reduceSub, Nat.reduceMul, reduceIte, ↓reduceIte, reduceCtorEq, Int.reduceToNat, Int.reduceLE, Int.reduceLT, Int.reduceNeg, Int.reduceSub, Int.reduceAdd, Int.reduceMul, q1]
        exact Fin.val (by rw [badB, decide_eq_false q2, Bool.and_false])
    · simp (disch := omega) only [Try.ntmps124, Try.results124, go_sem, Nat.reduceLT, Nat.reduceLeDiff, Nat.reduceEqDiff, Nat.reduceAdd, Nat.reduceSub, Nat.reduceMul, reduceIte, ↓reduceIte, reduceCtorEq, Int.reduceToNat, Int.reduceLE, Int.reduceLT, Int.reduceNeg, Int.reduceSub, Int.reduceAdd, Int.reduceMul]
      exact Fin.val (by rw [badB, decide_eq_false q1, Bool.false_and])
end Go.Sh
