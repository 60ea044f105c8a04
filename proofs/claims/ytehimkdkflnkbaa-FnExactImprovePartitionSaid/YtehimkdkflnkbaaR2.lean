/-
  Contracts: the constraints of some items, of the reference; constraints marked and read back.
-/
import Derived.Test.YtehimkdkflnkbaaR1
namespace Go.Sh
set_option linter.unusedSimpArgs false
set_option linter.unusedVariables false
open Go Go.Proofs

theorem rep0 (zs : List SV) : rep zs 0 = [] := rfl

def mk3 (k : Int) (i : Nat) : Con := (k + 3 * (i : Int), k + 3 * (i : Int) + 1, Int.tmod (k + 3 * (i : Int) + 1 + 1) 3 == 0)
def markC (C : List Con) (k : Int) (i : Nat) : List Con := (List.range i).map (mk3 k) ++ C.drop i
def marksC (n : Nat) (k : Int) : List Con := (List.range n).map (mk3 k)
theorem markC_zero (C : List Con) (k : Int) : markC C k 0 = C := by simp [markC]
theorem markC_length {C : List Con} {k : Int} {i : Nat} (h : i ≤ C.length) : (markC C k i).length = C.length := by simp [markC]; omega
theorem markC_all (C : List Con) (k : Int) : markC C k C.length = marksC C.length k := by simp [markC, marksC]
theorem marksC_length (n : Nat) (k : Int) : (marksC n k).length = n := by simp [marksC]
theorem markC_set {C : List Con} {k : Int} {i : Nat} (h : i < C.length) : (markC C k i).set i (mk3 k i) = markC C k (i + 1) := by
  apply List.ext_getElem?
  intro x
  simp only [markC, List.getElem?_set, List.getElem?_append, List.length_map, List.length_range, List.getElem?_map, List.getElem?_drop, List.length_append, List.length_drop]
  by_cases h1 : i = x
  · subst h1
    have : i < i + (C.length - i) := by omega
    simp [this]
  · by_cases h2 : x < i
    · have h3 : x < i + 1 := by omega
      simp [h1, h2, h3]
    · have h3 : ¬ x < i + 1 := by omega
      simp [h1, h2, h3]
      congr 1
      omega
theorem cons_set3' {C : List Con} {k : Nat} {a b : Int} {s : Bool} (h : k < C.length) : (((cons C).set (k * 3) (.val (.int .i64 a))).set (k * 3 + 1) (.val (.int .i64 b))).set (k * 3 + 2) (.val (.bool s)) = cons (C.set k (a, b, s)) := cons_set3 h

set_option maxHeartbeats 2000000 in
theorem Try.markConstraintS_ok (C : List Con) (k : Int) (H : Heap) (b n cap : Nat) (ex e2 : Bool) (hb : H.map b = some ⟨cons C, e2⟩) (hn : n = C.length) (hL : C.length ≤ 1099511627776) (hk : 0 ≤ k) (hk2 : k ≤ 1099511627776) :
    CallS Try.prog 31 [.own b 0 n cap 3 ex, .val (.int .i64 k)] H (fun r H' => r = .val (.int .i64 (k + 3 * (n : Int))) ∧ H' = H.set b (some ⟨cons (marksC n k), e2⟩)) := by
  subst hn
  refine CallS.of_body Try.func31 rfl (by kernel_rfl) (by simp [Try.ntmps31]) ?_
  refine SW_of_vc Try.mixed _ _ _ (by kernel_rfl) ?_
  simp (disch := omega) only [Try.ntmps31, Try.results31, go_sem, Nat.reduceLT, Nat.reduceLeDiff, Nat.reduceEqDiff, Nat.reduceAdd, Nat.reduceSub, Nat.reduceMul, reduceIte, ↓reduceIte, reduceCtorEq, Int.reduceToNat, Int.reduceLE, Int.reduceLT, Int.reduceNeg, Int.reduceSub, Int.reduceAdd, Int.reduceMul]
  refine LoopW.loop (fun i : Nat => ⟨ofL [(0, .own b 0 C.length cap 3 ex), (1, .val (.int .i64 (k + 3 * (i : Int)))), (5, .val (.int .i64 i))], H.set b (some ⟨cons (markC C k i), e2⟩)⟩) (fun i => i ≤ C.length) (fun i => C.length - i) 0 (by omega) (Wk.of (by simp only [go_sem, ↓List.forall_mem_cons, List.not_mem_nil, false_implies, implies_true, and_true, true_and, and_self, Nat.reduceEqDiff, reduceIte, ↓reduceIte, ri_eq, Int.natCast_add, Int.cast_ofNat_Int, Int.natCast_zero, Int.mul_zero, Int.add_zero]; try simp) (by rw [markC_zero, Heap.set_self hb])) ?_
  intro i hi
  have hml := markC_length (k := k) hi
  have hcl := cons_length (markC C k i)
  refine SW_of_vc Try.mixed _ _ _ (by kernel_rfl) ?_
  by_cases hlt : i < C.length
  · have hset := cons_set3' (C := markC C k i) (k := i) (a := k + 3 * (i : Int)) (b := k + 3 * (i : Int) + 1) (s := Int.tmod (k + 3 * (i : Int) + 1 + 1) 3 == 0) (by omega)
    have hset2 := markC_set (k := k) hlt
    rw [mk3] at hset2
    rw [hset2] at hset
    simp (disch := omega) only [Try.ntmps31, Try.results31, go_sem, Nat.reduceLT, Nat.reduceLeDiff, Nat.reduceEqDiff, Nat.reduceAdd, Nat.reduceSub, Nat.reduceMul, reduceIte, ↓reduceIte, reduceCtorEq, Int.reduceToNat, Int.reduceLE, Int.reduceLT, Int.reduceNeg, Int.reduceSub, Int.reduceAdd, Int.reduceMul, Heap.set_at, hml, hcl, Heap.set_set, List.length_set, hset]
    have e : k + 3 * (i : Int) + 1 + 1 + 1 = k + 3 * ((i : Int) + 1) := by omega
    exact ⟨i + 1, by omega, by omega, Wk.of (by simp only [go_sem, ↓List.forall_mem_cons, List.not_mem_nil, false_implies, implies_true, and_true, true_and, and_self, Nat.reduceEqDiff, reduceIte, ↓reduceIte, ri_eq, Int.natCast_add, Int.cast_ofNat_Int, e]; try simp) rfl⟩
  · obtain rfl : i = C.length := by omega
    simp (disch := omega) only [Try.ntmps31, Try.results31, go_sem, Nat.reduceLT, Nat.reduceLeDiff, Nat.reduceEqDiff, Nat.reduceAdd, Nat.reduceSub, Nat.reduceMul, reduceIte, ↓reduceIte, reduceCtorEq, Int.reduceToNat, Int.reduceLE, Int.reduceLT, Int.reduceNeg, Int.reduceSub, Int.reduceAdd, Int.reduceMul, Heap.set_at, hml, Heap.set_set, markC_all]

open Classical in
noncomputable def heldC (C : List Con) (k : Int) : Int := if C = marksC C.length k then k + 3 * (C.length : Int) else -1
theorem heldC_marks (n : Nat) (k : Int) : heldC (marksC n k) k = k + 3 * (n : Int) := by rw [heldC, marksC_length, if_pos rfl]

theorem view_nilC {H : Heap} {f : Nat} : view H f (.val (.slice none 0 0)) = some (rc []) := by simp only [view, viewV, rc, cons, List.flatMap_nil, List.length_nil]
theorem Try.toConstraintS_one (C : List Con) (hC : C.length ≤ 1048576) : FCall Try.prog 27 [rc C] (OneRes C.length 3 (cons C)) := (Try.toConstraintS_f C hC).one
theorem Try.markConstraintS_nil (k : Int) (H : Heap) (hk : 0 ≤ k) (hk2 : k ≤ 1099511627776) : CallS Try.prog 31 [.val (.slice none 0 0), .val (.int .i64 k)] H (fun r H' => r = .val (.int .i64 k) ∧ H' = H) := by
  refine CallS.of_body Try.func31 rfl (by kernel_rfl) (by simp [Try.ntmps31]) ?_
  refine SW_of_vc Try.mixed _ _ _ (by kernel_rfl) ?_
  simp (disch := omega) only [Try.ntmps31, Try.results31, go_sem, Nat.reduceLT, Nat.reduceLeDiff, Nat.reduceEqDiff, Nat.reduceAdd, Nat.reduceSub, Nat.reduceMul, reduceIte, ↓reduceIte, reduceCtorEq, Int.reduceToNat, Int.reduceLE, Int.reduceLT, Int.reduceNeg, Int.reduceSub, Int.reduceAdd, Int.reduceMul]
  refine LoopW.loop (fun _ : Unit => ⟨ofL [(0, .val (.slice none 0 0)), (1, .val (.int .i64 k)), (5, .val (.int .i64 0))], H⟩) (fun _ => True) (fun _ => 0) () trivial (Wk.of (by simp only [go_sem, ↓List.forall_mem_cons, List.not_mem_nil, false_implies, implies_true, and_true, true_and, and_self, Nat.reduceEqDiff, reduceIte, ↓reduceIte, ri_eq, Int.natCast_add, Int.cast_ofNat_Int]; try simp) rfl) ?_
  rintro _ _
  refine SW_of_vc Try.mixed _ _ _ (by kernel_rfl) ?_
  simp (disch := omega) only [Try.ntmps31, Try.results31, go_sem, Nat.reduceLT, Nat.reduceLeDiff, Nat.reduceEqDiff, Nat.reduceAdd, Nat.reduceSub, Nat.reduceMul, reduceIte, ↓reduceIte, reduceCtorEq, Int.reduceToNat, Int.reduceLE, Int.reduceLT, Int.reduceNeg, Int.reduceSub, Int.reduceAdd, Int.reduceMul]

theorem view_ownC {H : Heap} {b n f cap : Nat} {ex : Bool} {e2 : Bool} {C : List Con} (hb : H.map b = some ⟨cons C, e2⟩) (hn : n = C.length) : view H (f + 1) (.own b 0 n cap 3 ex) = some (rc C) := by
  subst hn
  have hv : ∀ (C : List Con), viewL H f (cons C) = some (cons C) := by
    intro C
    induction C with
    | nil => exact viewL_nil_of
    | cons c C ih => exact viewL_cons_of view_int (viewL_cons_of view_int (viewL_cons_of view_bool ih))
  have ht : (cons C).take (C.length * 3) = cons C := cons_take_self C
  simp only [Sh.view, hb, List.drop_zero, ht, hv]
  rw [if_pos (by rw [cons_length]; omega), rc]
theorem view_rowC {H : Heap} {f n : Nat} {ex : Bool} {C : List Con} (hn : n = C.length) : view H f (.row n ex (cons C)) = some (rc C) := by subst hn; simp only [view, rc]
end Go.Sh
