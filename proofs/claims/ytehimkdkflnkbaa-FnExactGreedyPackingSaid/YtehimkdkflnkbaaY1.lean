/-
  Packings: what a pair bears. Plain; and the reference's sum.
-/
import Derived.Test.YtehimkdkflnkbaaX3
import Derived.Test.YtehimkdkflnkbaaEIsBadTriangle
import Derived.Test.YtehimkdkflnkbaaN2
import Derived.Test.YtehimkdkflnkbaaM0
namespace Go.Sh
set_option linter.unusedSimpArgs false
set_option linter.unusedVariables false
open Go Go.Proofs

def hitT (t : Tri) (x y : Nat) : Bool := (decide (t.1 = x) && decide (t.2.1 = y)) || ((decide (t.1 = x) && decide (t.2.2.1 = y)) || (decide (t.2.1 = x) && decide (t.2.2.1 = y)))
def usedT (T : List Tri) (x y : Nat) : Int := (T.map fun t => if hitT t x y = true then t.2.2.2 else 0).sum
theorem usedT_nil (x y : Nat) : usedT [] x y = 0 := rfl
theorem tg_get {T : List Tri} {k : Nat} (h : k < T.length) : tg T k = T[k] := by simp [tg, h]
theorem usedT_succ {T : List Tri} {k : Nat} (h : k < T.length) (x y : Nat) : usedT (T.take (k + 1)) x y = usedT (T.take k) x y + (if hitT (tg T k) x y = true then (tg T k).2.2.2 else 0) := by
  rw [tg_get h, usedT, List.take_succ_eq_append_getElem h, List.map_append, List.sum_append]
  simp [usedT]
def wOk (T : List Tri) : Prop := ∀ k, k < T.length → 1 ≤ (tg T k).2.2.2 ∧ (tg T k).2.2.2 ≤ 1000
theorem usedT_r {T : List Tri} (h : wOk T) (x y : Nat) : ∀ k, k ≤ T.length → 0 ≤ usedT (T.take k) x y ∧ usedT (T.take k) x y ≤ 1000 * (k : Int)
  | 0, _ => by simp [usedT]
  | k + 1, hk => by
    have ih := usedT_r h x y k (by omega)
    have := h k (by omega)
    rw [usedT_succ (by omega)]
    split <;> omega
theorem usedT_mono {T : List Tri} (h : wOk T) (x y : Nat) : ∀ {j k : Nat}, k ≤ j → j ≤ T.length → usedT (T.take k) x y ≤ usedT (T.take j) x y := by
  intro j k hkj
  induction hkj with
  | refl => intro _; exact Int.le_refl _
  | step hs ih =>
    intro hj
    have := ih (by omega)
    rename_i m
    have := h m (by omega)
    rw [usedT_succ (by omega)]
    split <;> omega
def packP (M : List (List Int)) (T : List Tri) : Prop :=
  WM M ∧ T.length ≤ 100 ∧ (∀ k, k < T.length → isBT M (tg T k).1 (tg T k).2.1 (tg T k).2.2.1 = true ∧ 1 ≤ (tg T k).2.2.2 ∧ (tg T k).2.2.2 ≤ 1000) ∧ ∀ x y, x < y → y < M.length → usedT T x y ≤ absI (mat M x y)
open Classical in
noncomputable def isPk (M : List (List Int)) (T : List Tri) : Bool := decide (packP M T)
open Classical in
theorem isPk_t {M : List (List Int)} {T : List Tri} (h : packP M T) : isPk M T = true := decide_eq_true h
open Classical in
theorem isPk_f {M : List (List Int)} {T : List Tri} (h : ¬ packP M T) : isPk M T = false := decide_eq_false h
theorem packP.w {M : List (List Int)} {T : List Tri} (h : packP M T) : wOk T := fun k hk => (h.2.2.1 k hk).2
/-- One pair that bears too much, in the first k + 1 triangles. -/
theorem pack_over {M : List (List Int)} {T : List Tri} {k x y : Nat} (hk : k < T.length) (hxy : x < y) (hy : y < M.length) (h : absI (mat M x y) < usedT (T.take (k + 1)) x y) : isPk M T = false := by
  refine isPk_f fun g => ?_
  have h1 := usedT_mono g.w x y (k := k + 1) (j := T.length) (by omega) (Nat.le_refl _)
  rw [List.take_length] at h1
  have := g.2.2.2 x y hxy hy
  omega
theorem absI_nonneg (x : Int) : 0 ≤ absI x := by unfold absI; split <;> omega
theorem triB_of {M : List (List Int)} {a b c : Int} (h : isBT M a b c = true) : ∃ x y z : Nat, a = x ∧ b = y ∧ c = z ∧ x < y ∧ y < z ∧ z < M.length ∧ badB (mat M x y) (mat M x z) (mat M y z) = true := by
  simp only [isBT, Bool.and_eq_true] at h
  have ht := of_decide_eq_true h.2.1
  refine ⟨a.toNat, b.toNat, c.toNat, by omega, by omega, by omega, by omega, by omega, by omega, h.2.2⟩

set_option maxRecDepth 20000 in
set_option maxHeartbeats 4000000 in
theorem Try.l21Used_ok (T : List Tri) (x y : Nat) (hT : T.length ≤ 1048576) (hw : wOk T) : PCall Try.prog 78 [rt T, .val (.int .i64 x), .val (.int .i64 y)] (.val (.int .i64 (usedT T x y))) := by
  refine FCall.pcall (R := fun r _ => r = .val (.int .i64 (usedT T x y))) ?_ 0 (by rintro r H rfl; exact view_int)
  refine FCall.of_body Try.func78 rfl (by kernel_rfl) (by simp [Try.ntmps78]) ?_
  refine SW_of_vc Try.mixed _ _ _ (by kernel_rfl) ?_
  have lT := encL_length (enc := tri4) (z := 4) tri4_z T
  simp (disch := omega) only [Try.ntmps78, Try.results78, go_sem, Nat.reduceLT, Nat.reduceLeDiff, Nat.reduceEqDiff, Nat.reduceAdd, Nat.reduceSub, Nat.reduceMul, reduceIte, ↓reduceIte, reduceCtorEq, Int.reduceToNat, Int.reduceLE, Int.reduceLT, Int.reduceNeg, Int.reduceSub, Int.reduceAdd, Int.reduceMul, rt]
  refine LoopW.loop (fun p : Nat × Nat => ⟨ofL [(0, rt T), (1, .val (.int .i64 x)), (2, .val (.int .i64 y)), (7, .val (.int .i64 (usedT (T.take p.1) x y))), (8, .val (.int .i64 p.1))], hp [] p.2⟩) (fun p => p.1 ≤ T.length) (fun p => T.length - p.1) (0, 0) (by simp)
    (Wk.of (by simp only [go_sem, ↓List.forall_mem_cons, List.not_mem_nil, false_implies, implies_true, and_true, true_and, and_self, Nat.reduceEqDiff, reduceIte, ↓reduceIte, ri_eq, Int.natCast_add, Int.cast_ofNat_Int, rt, List.take_zero, usedT_nil]; try simp) rfl) ?_
  rintro ⟨k, nb⟩ hk
  simp only at hk
  refine SW_of_vc Try.mixed _ _ _ (by kernel_rfl) ?_
  by_cases hlt : k < T.length
  · obtain ⟨a, b, c, w, ht⟩ := tri_ex T k
    obtain ⟨_, _, _, _, q⟩ := tri_of hlt ht
    have hs := usedT_succ hlt x y
    have hr := usedT_r hw x y k hk
    have hwk := hw k hlt
    rw [ht] at hs hwk
    simp only [hitT] at hs hwk
    generalize usedT (T.take k) x y = u at *
    by_cases h1 : a = x
    · by_cases h2 : b = y
      · have e : usedT (T.take (k + 1)) x y = u + w := by rw [hs]; simp [h1, h2]
        simp (disch := omega) only [Try.ntmps78, Try.results78, go_sem, Nat.reduceLT, Nat.reduceLeDiff, Nat.reduceEqDiff, Nat.reduceAdd, Nat.reduceSub, Nat.reduceMul, reduceIte, ↓reduceIte, reduceCtorEq, Int.reduceToNat, Int.reduceLE, Int.reduceLT, Int.reduceNeg, Int.reduceSub, Int.reduceAdd, Int.reduceMul, rt, lT, q]
        exact ⟨(k + 1, nb + 1), hlt, by show T.length - (k + 1) < T.length - k; omega, Wk.ofH (by simp only [go_sem, ↓List.forall_mem_cons, List.not_mem_nil, false_implies, implies_true, and_true, true_and, and_self, Nat.reduceEqDiff, reduceIte, ↓reduceIte, ri_eq, Int.natCast_add, Int.cast_ofNat_Int, rt, e]; try simp) (by simp (disch := omega) only [go_sem, ↓List.forall_mem_cons, List.not_mem_nil, false_implies, implies_true, and_true, true_and, and_self, Nat.reduceEqDiff, reduceIte, ↓reduceIte, ri_eq, Int.natCast_add, Int.cast_ofNat_Int, if_pos, if_neg, Nat.reduceAdd, List.nil_append]; try simp) (Nat.le_refl _)⟩
      · by_cases h3 : c = y
        · have e : usedT (T.take (k + 1)) x y = u + w := by rw [hs]; simp [h1, h3]
          simp (disch := omega) only [Try.ntmps78, Try.results78, go_sem, Nat.reduceLT, Nat.reduceLeDiff, Nat.reduceEqDiff, Nat.reduceAdd, Nat.reduceSub, Nat.reduceMul, reduceIte, ↓reduceIte, reduceCtorEq, Int.reduceToNat, Int.reduceLE, Int.reduceLT, Int.reduceNeg, Int.reduceSub, Int.reduceAdd, Int.reduceMul, rt, lT, q]
          exact ⟨(k + 1, nb + 1), hlt, by show T.length - (k + 1) < T.length - k; omega, Wk.ofH (by simp only [go_sem, ↓List.forall_mem_cons, List.not_mem_nil, false_implies, implies_true, and_true, true_and, and_self, Nat.reduceEqDiff, reduceIte, ↓reduceIte, ri_eq, Int.natCast_add, Int.cast_ofNat_Int, rt, e]; try simp) (by simp (disch := omega) only [go_sem, ↓List.forall_mem_cons, List.not_mem_nil, false_implies, implies_true, and_true, true_and, and_self, Nat.reduceEqDiff, reduceIte, ↓reduceIte, ri_eq, Int.natCast_add, Int.cast_ofNat_Int, if_pos, if_neg, Nat.reduceAdd, List.nil_append]; try simp) (Nat.le_refl _)⟩
        · have e : usedT (T.take (k + 1)) x y = u := by rw [hs]; simp [h2, h3]
          by_cases h4 : b = x
          · simp (disch := omega) only [Try.ntmps78, Try.results78, go_sem, Nat.reduceLT, Nat.reduceLeDiff, Nat.reduceEqDiff, Nat.reduceAdd, Nat.reduceSub, Nat.reduceMul, reduceIte, ↓reduceIte, reduceCtorEq, Int.reduceToNat, Int.reduceLE, Int.reduceLT, Int.reduceNeg, Int.reduceSub, Int.reduceAdd, Int.reduceMul, rt, lT, q]
            exact ⟨(k + 1, nb + 1), hlt, by show T.length - (k + 1) < T.length - k; omega, Wk.ofH (by simp only [go_sem, ↓List.forall_mem_cons, List.not_mem_nil, false_implies, implies_true, and_true, true_and, and_self, Nat.reduceEqDiff, reduceIte, ↓reduceIte, ri_eq, Int.natCast_add, Int.cast_ofNat_Int, rt, e]; try simp) (by simp (disch := omega) only [go_sem, ↓List.forall_mem_cons, List.not_mem_nil, false_implies, implies_true, and_true, true_and, and_self, Nat.reduceEqDiff, reduceIte, ↓reduceIte, ri_eq, Int.natCast_add, Int.cast_ofNat_Int, if_pos, if_neg, Nat.reduceAdd, List.nil_append]; try simp) (Nat.le_refl _)⟩
          · simp (disch := omega) only [Try.ntmps78, Try.results78, go_sem, Nat.reduceLT, Nat.reduceLeDiff, Nat.reduceEqDiff, Nat.reduceAdd, Nat.reduceSub, Nat.reduceMul, reduceIte, ↓reduceIte, reduceCtorEq, Int.reduceToNat, Int.reduceLE, Int.reduceLT, Int.reduceNeg, Int.reduceSub, Int.reduceAdd, Int.reduceMul, rt, lT, q]
            exact ⟨(k + 1, nb + 1), hlt, by show T.length - (k + 1) < T.length - k; omega, Wk.ofH (by simp only [go_sem, ↓List.forall_mem_cons, List.not_mem_nil, false_implies, implies_true, and_true, true_and, and_self, Nat.reduceEqDiff, reduceIte, ↓reduceIte, ri_eq, Int.natCast_add, Int.cast_ofNat_Int, rt, e]; try simp) (by simp (disch := omega) only [go_sem, ↓List.forall_mem_cons, List.not_mem_nil, false_implies, implies_true, and_true, true_and, and_self, Nat.reduceEqDiff, reduceIte, ↓reduceIte, ri_eq, Int.natCast_add, Int.cast_ofNat_Int, if_pos, if_neg, Nat.reduceAdd, List.nil_append]; try simp) (Nat.le_refl _)⟩
    · by_cases h4 : b = x
      · by_cases h3 : c = y
        · have e : usedT (T.take (k + 1)) x y = u + w := by rw [hs]; simp [h3, h4]
          simp (disch := omega) only [Try.ntmps78, Try.results78, go_sem, Nat.reduceLT, Nat.reduceLeDiff, Nat.reduceEqDiff, Nat.reduceAdd, Nat.reduceSub, Nat.reduceMul, reduceIte, ↓reduceIte, reduceCtorEq, Int.reduceToNat, Int.reduceLE, Int.reduceLT, Int.reduceNeg, Int.reduceSub, Int.reduceAdd, Int.reduceMul, rt, lT, q]
          exact ⟨(k + 1, nb + 1), hlt, by show T.length - (k + 1) < T.length - k; omega, Wk.ofH (by simp only [go_sem, ↓List.forall_mem_cons, List.not_mem_nil, false_implies, implies_true, and_true, true_and, and_self, Nat.reduceEqDiff, reduceIte, ↓reduceIte, ri_eq, Int.natCast_add, Int.cast_ofNat_Int, rt, e]; try simp) (by simp (disch := omega) only [go_sem, ↓List.forall_mem_cons, List.not_mem_nil, false_implies, implies_true, and_true, true_and, and_self, Nat.reduceEqDiff, reduceIte, ↓reduceIte, ri_eq, Int.natCast_add, Int.cast_ofNat_Int, if_pos, if_neg, Nat.reduceAdd, List.nil_append]; try simp) (Nat.le_refl _)⟩
        · have e : usedT (T.take (k + 1)) x y = u := by rw [hs]; simp [h1, h3]
          simp (disch := omega) only [Try.ntmps78, Try.results78, go_sem, Nat.reduceLT, Nat.reduceLeDiff, Nat.reduceEqDiff, Nat.reduceAdd, Nat.reduceSub, Nat.reduceMul, reduceIte, ↓reduceIte, reduceCtorEq, Int.reduceToNat, Int.reduceLE, Int.reduceLT, Int.reduceNeg, Int.reduceSub, Int.reduceAdd, Int.reduceMul, rt, lT, q]
          exact ⟨(k + 1, nb + 1), hlt, by show T.length - (k + 1) < T.length - k; omega, Wk.ofH (by simp only [go_sem, ↓List.forall_mem_cons, List.not_mem_nil, false_implies, implies_true, and_true, true_and, and_self, Nat.reduceEqDiff, reduceIte, ↓reduceIte, ri_eq, Int.natCast_add, Int.cast_ofNat_Int, rt, e]; try simp) (by simp (disch := omega) only [go_sem, ↓List.forall_mem_cons, List.not_mem_nil, false_implies, implies_true, and_true, true_and, and_self, Nat.reduceEqDiff, reduceIte, ↓reduceIte, ri_eq, Int.natCast_add, Int.cast_ofNat_Int, if_pos, if_neg, Nat.reduceAdd, List.nil_append]; try simp) (Nat.le_refl _)⟩
      · have e : usedT (T.take (k + 1)) x y = u := by rw [hs]; simp [h1, h4]
        simp (disch := omega) only [Try.ntmps78, Try.results78, go_sem, Nat.reduceLT, Nat.reduceLeDiff, Nat.reduceEqDiff, Nat.reduceAdd, Nat.reduceSub, Nat.reduceMul, reduceIte, ↓reduceIte, reduceCtorEq, Int.reduceToNat, Int.reduceLE, Int.reduceLT, Int.reduceNeg, Int.reduceSub, Int.reduceAdd, Int.reduceMul, rt, lT, q]
        exact ⟨(k + 1, nb + 1), hlt, by show T.length - (k + 1) < T.length - k; omega, Wk.ofH (by simp only [go_sem, ↓List.forall_mem_cons, List.not_mem_nil, false_implies, implies_true, and_true, true_and, and_self, Nat.reduceEqDiff, reduceIte, ↓reduceIte, ri_eq, Int.natCast_add, Int.cast_ofNat_Int, rt, e]; try simp) (by simp (disch := omega) only [go_sem, ↓List.forall_mem_cons, List.not_mem_nil, false_implies, implies_true, and_true, true_and, and_self, Nat.reduceEqDiff, reduceIte, ↓reduceIte, ri_eq, Int.natCast_add, Int.cast_ofNat_Int, if_pos, if_neg, Nat.reduceAdd, List.nil_append]; try simp) (Nat.le_refl _)⟩
  · obtain rfl : k = T.length := by omega
    simp (disch := omega) only [Try.ntmps78, Try.results78, go_sem, Nat.reduceLT, Nat.reduceLeDiff, Nat.reduceEqDiff, Nat.reduceAdd, Nat.reduceSub, Nat.reduceMul, reduceIte, ↓reduceIte, reduceCtorEq, Int.reduceToNat, Int.reduceLE, Int.reduceLT, Int.reduceNeg, Int.reduceSub, Int.reduceAdd, Int.reduceMul, rt]
    exact Fin.val (by rw [List.take_length])
end Go.Sh
