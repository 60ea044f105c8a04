/-
  Contracts: triangles marked and read back; sizes of numbers.
-/
import Derived.Test.YtehimkdkflnkbaaX2
namespace Go.Sh
set_option linter.unusedSimpArgs false
set_option linter.unusedVariables false
open Go Go.Proofs

def mk4 (k : Int) (i : Nat) : Tri := (k + 4 * (i : Int), k + 4 * (i : Int) + 1, k + 4 * (i : Int) + 1 + 1, k + 4 * (i : Int) + 1 + 1 + 1)
def markT (T : List Tri) (k : Int) (i : Nat) : List Tri := (List.range i).map (mk4 k) ++ T.drop i
def marksT (n : Nat) (k : Int) : List Tri := (List.range n).map (mk4 k)
theorem markT_zero (T : List Tri) (k : Int) : markT T k 0 = T := by simp [markT]
theorem markT_length {T : List Tri} {k : Int} {i : Nat} (h : i ≤ T.length) : (markT T k i).length = T.length := by simp [markT]; omega
theorem markT_all (T : List Tri) (k : Int) : markT T k T.length = marksT T.length k := by simp [markT, marksT]
theorem marksT_length (n : Nat) (k : Int) : (marksT n k).length = n := by simp [marksT]
theorem markT_set {T : List Tri} {k : Int} {i : Nat} (h : i < T.length) : (markT T k i).set i (mk4 k i) = markT T k (i + 1) := by
  apply List.ext_getElem?
  intro x
  simp only [markT, List.getElem?_set, List.getElem?_append, List.length_map, List.length_range, List.getElem?_map, List.getElem?_drop, List.length_append, List.length_drop]
  by_cases h1 : i = x
  · subst h1
    have : i < i + (T.length - i) := by omega
    simp [this]
  · by_cases h2 : x < i
    · have h3 : x < i + 1 := by omega
      simp [h1, h2, h3]
    · have h3 : ¬ x < i + 1 := by omega
      simp [h1, h2, h3]
      congr 1
      omega
theorem tri_set4' {T : List Tri} {k : Nat} {a b c w : Int} (h : k < T.length) : ((((encL tri4 T).set (k * 4) (.val (.int .i64 a))).set (k * 4 + 1) (.val (.int .i64 b))).set (k * 4 + 2) (.val (.int .i64 c))).set (k * 4 + 3) (.val (.int .i64 w)) = encL tri4 (T.set k (a, b, c, w)) := tri_set4 h

set_option maxHeartbeats 2000000 in
theorem Try.markTriangleS_ok (T : List Tri) (k : Int) (H : Heap) (b n cap : Nat) (ex e2 : Bool) (hb : H.map b = some ⟨encL tri4 T, e2⟩) (hn : n = T.length) (hL : T.length ≤ 1099511627776) (hk : 0 ≤ k) (hk2 : k ≤ 1099511627776) :
    CallS Try.prog 36 [.own b 0 n cap 4 ex, .val (.int .i64 k)] H (fun r H' => r = .val (.int .i64 (k + 4 * (n : Int))) ∧ H' = H.set b (some ⟨encL tri4 (marksT n k), e2⟩)) := by
  subst hn
  refine CallS.of_body Try.func36 rfl (by kernel_rfl) (by simp [Try.ntmps36]) ?_
  refine SW_of_vc Try.mixed _ _ _ (by kernel_rfl) ?_
  simp (disch := omega) only [Try.ntmps36, Try.results36, go_sem, Nat.reduceLT, Nat.reduceLeDiff, Nat.reduceEqDiff, Nat.reduceAdd, Nat.reduceSub, Nat.reduceMul, reduceIte, ↓reduceIte, reduceCtorEq, Int.reduceToNat, Int.reduceLE, Int.reduceLT, Int.reduceNeg, Int.reduceSub, Int.reduceAdd, Int.reduceMul]
  refine LoopW.loop (fun i : Nat => ⟨ofL [(0, .own b 0 T.length cap 4 ex), (1, .val (.int .i64 (k + 4 * (i : Int)))), (5, .val (.int .i64 i))], H.set b (some ⟨encL tri4 (markT T k i), e2⟩)⟩) (fun i => i ≤ T.length) (fun i => T.length - i) 0 (by omega) (Wk.of (by simp only [go_sem, ↓List.forall_mem_cons, List.not_mem_nil, false_implies, implies_true, and_true, true_and, and_self, Nat.reduceEqDiff, reduceIte, ↓reduceIte, ri_eq, Int.natCast_add, Int.cast_ofNat_Int, Int.natCast_zero, Int.mul_zero, Int.add_zero]; try simp) (by rw [markT_zero, Heap.set_self hb])) ?_
  intro i hi
  have hml := markT_length (k := k) hi
  have hcl := encL_length (enc := tri4) (z := 4) tri4_z (markT T k i)
  refine SW_of_vc Try.mixed _ _ _ (by kernel_rfl) ?_
  by_cases hlt : i < T.length
  · have hset := tri_set4' (T := markT T k i) (k := i) (a := k + 4 * (i : Int)) (b := k + 4 * (i : Int) + 1) (c := k + 4 * (i : Int) + 1 + 1) (w := k + 4 * (i : Int) + 1 + 1 + 1) (by omega)
    have hset2 := markT_set (k := k) hlt
    rw [mk4] at hset2
    rw [hset2] at hset
    simp (disch := omega) only [Try.ntmps36, Try.results36, go_sem, Nat.reduceLT, Nat.reduceLeDiff, Nat.reduceEqDiff, Nat.reduceAdd, Nat.reduceSub, Nat.reduceMul, reduceIte, ↓reduceIte, reduceCtorEq, Int.reduceToNat, Int.reduceLE, Int.reduceLT, Int.reduceNeg, Int.reduceSub, Int.reduceAdd, Int.reduceMul, Heap.set_at, hml, hcl, Heap.set_set, List.length_set, hset]
    have e : k + 4 * (i : Int) + 1 + 1 + 1 + 1 = k + 4 * ((i : Int) + 1) := by omega
    exact ⟨i + 1, by omega, by omega, Wk.of (by simp only [go_sem, ↓List.forall_mem_cons, List.not_mem_nil, false_implies, implies_true, and_true, true_and, and_self, Nat.reduceEqDiff, reduceIte, ↓reduceIte, ri_eq, Int.natCast_add, Int.cast_ofNat_Int, e]; try simp) rfl⟩
  · obtain rfl : i = T.length := by omega
    simp (disch := omega) only [Try.ntmps36, Try.results36, go_sem, Nat.reduceLT, Nat.reduceLeDiff, Nat.reduceEqDiff, Nat.reduceAdd, Nat.reduceSub, Nat.reduceMul, reduceIte, ↓reduceIte, reduceCtorEq, Int.reduceToNat, Int.reduceLE, Int.reduceLT, Int.reduceNeg, Int.reduceSub, Int.reduceAdd, Int.reduceMul, Heap.set_at, hml, Heap.set_set, markT_all]
theorem Try.markTriangleS_nil (k : Int) (H : Heap) (hk : 0 ≤ k) (hk2 : k ≤ 1099511627776) : CallS Try.prog 36 [.val (.slice none 0 0), .val (.int .i64 k)] H (fun r H' => r = .val (.int .i64 k) ∧ H' = H) := by
  refine CallS.of_body Try.func36 rfl (by kernel_rfl) (by simp [Try.ntmps36]) ?_
  refine SW_of_vc Try.mixed _ _ _ (by kernel_rfl) ?_
  simp (disch := omega) only [Try.ntmps36, Try.results36, go_sem, Nat.reduceLT, Nat.reduceLeDiff, Nat.reduceEqDiff, Nat.reduceAdd, Nat.reduceSub, Nat.reduceMul, reduceIte, ↓reduceIte, reduceCtorEq, Int.reduceToNat, Int.reduceLE, Int.reduceLT, Int.reduceNeg, Int.reduceSub, Int.reduceAdd, Int.reduceMul]
  refine LoopW.loop (fun _ : Unit => ⟨ofL [(0, .val (.slice none 0 0)), (1, .val (.int .i64 k)), (5, .val (.int .i64 0))], H⟩) (fun _ => True) (fun _ => 0) () trivial (Wk.of (by simp only [go_sem, ↓List.forall_mem_cons, List.not_mem_nil, false_implies, implies_true, and_true, true_and, and_self, Nat.reduceEqDiff, reduceIte, ↓reduceIte, ri_eq, Int.natCast_add, Int.cast_ofNat_Int]; try simp) rfl) ?_
  rintro _ _
  refine SW_of_vc Try.mixed _ _ _ (by kernel_rfl) ?_
  simp (disch := omega) only [Try.ntmps36, Try.results36, go_sem, Nat.reduceLT, Nat.reduceLeDiff, Nat.reduceEqDiff, Nat.reduceAdd, Nat.reduceSub, Nat.reduceMul, reduceIte, ↓reduceIte, reduceCtorEq, Int.reduceToNat, Int.reduceLE, Int.reduceLT, Int.reduceNeg, Int.reduceSub, Int.reduceAdd, Int.reduceMul]

theorem marksT_at {n i : Nat} {k : Int} (h : i < n) : tg (marksT n k) i = (k + 4 * (i : Int), k + 4 * (i : Int) + 1, k + 4 * (i : Int) + 1 + 1, k + 4 * (i : Int) + 1 + 1 + 1) := by simp [tg, marksT, h, mk4]
set_option maxHeartbeats 4000000 in
/-- What was marked is held. -/
theorem Try.heldTriangleS_ok' (n : Nat) (k : Int) (hL : n ≤ 1099511627776) (hk : 0 ≤ k) (hk2 : k ≤ 1099511627776) : PCall Try.prog 37 [rt (marksT n k), .val (.int .i64 k)] (.val (.int .i64 (k + 4 * (n : Int)))) := by
  refine FCall.pcall (R := fun r _ => r = .val (.int .i64 (k + 4 * (n : Int)))) ?_ 0 (by rintro r H rfl; exact view_int)
  refine FCall.of_body Try.func37 rfl (by kernel_rfl) (by simp [Try.ntmps37]) ?_
  refine SW_of_vc Try.mixed _ _ _ (by kernel_rfl) ?_
  have hl := marksT_length n k
  have lC := encL_length (enc := tri4) (z := 4) tri4_z (marksT n k)
  rw [hl] at lC
  simp (disch := omega) only [Try.ntmps37, Try.results37, go_sem, Nat.reduceLT, Nat.reduceLeDiff, Nat.reduceEqDiff, Nat.reduceAdd, Nat.reduceSub, Nat.reduceMul, reduceIte, ↓reduceIte, reduceCtorEq, Int.reduceToNat, Int.reduceLE, Int.reduceLT, Int.reduceNeg, Int.reduceSub, Int.reduceAdd, Int.reduceMul, rt, hl]
  refine LoopW.loop (fun i : Nat => ⟨ofL [(0, rt (marksT n k)), (1, .val (.int .i64 (k + 4 * (i : Int)))), (5, .val (.int .i64 i))], hp [] 0⟩) (fun i => i ≤ n) (fun i => n - i) 0 (by omega) (Wk.of (by simp only [go_sem, ↓List.forall_mem_cons, List.not_mem_nil, false_implies, implies_true, and_true, true_and, and_self, Nat.reduceEqDiff, reduceIte, ↓reduceIte, ri_eq, Int.natCast_add, Int.cast_ofNat_Int, rt, hl, Int.natCast_zero, Int.mul_zero, Int.add_zero]; try simp) rfl) ?_
  intro i hi
  refine SW_of_vc Try.mixed _ _ _ (by kernel_rfl) ?_
  by_cases hlt : i < n
  · obtain ⟨q0, q1, q2, q3, q4⟩ := tri_of (by rw [hl]; exact hlt) (marksT_at (k := k) hlt)
    have e : k + 4 * (i : Int) + 1 + 1 + 1 + 1 = k + 4 * ((i : Int) + 1) := by omega
    simp (disch := omega) only [Try.ntmps37, Try.results37, go_sem, Nat.reduceLT, Nat.reduceLeDiff, Nat.reduceEqDiff, Nat.reduceAdd, Nat.reduceSub, Nat.reduceMul, reduceIte, ↓reduceIte, reduceCtorEq, Int.reduceToNat, Int.reduceLE, Int.reduceLT, Int.reduceNeg, Int.reduceSub, Int.reduceAdd, Int.reduceMul, rt, hl, lC, q0, q1, q2, q3]
    exact ⟨i + 1, by omega, by omega, Wk.of (by simp only [go_sem, ↓List.forall_mem_cons, List.not_mem_nil, false_implies, implies_true, and_true, true_and, and_self, Nat.reduceEqDiff, reduceIte, ↓reduceIte, ri_eq, Int.natCast_add, Int.cast_ofNat_Int, rt, hl, e]; try simp) rfl⟩
  · obtain rfl : i = n := by omega
    simp (disch := omega) only [Try.ntmps37, Try.results37, go_sem, Nat.reduceLT, Nat.reduceLeDiff, Nat.reduceEqDiff, Nat.reduceAdd, Nat.reduceSub, Nat.reduceMul, reduceIte, ↓reduceIte, reduceCtorEq, Int.reduceToNat, Int.reduceLE, Int.reduceLT, Int.reduceNeg, Int.reduceSub, Int.reduceAdd, Int.reduceMul, rt, hl]
    exact Fin.val rfl
theorem Try.heldTriangleS_nil (k : Int) (hk : 0 ≤ k) (hk2 : k ≤ 1099511627776) : PCall Try.prog 37 [rt [], .val (.int .i64 k)] (.val (.int .i64 k)) := by
  have := Try.heldTriangleS_ok' 0 k (by omega) hk hk2
  simpa [marksT] using this
theorem Try.toTriangleS_one (T : List Tri) (hT : T.length ≤ 1048576) : FCall Try.prog 20 [rt T] (OneRes T.length 4 (encL tri4 T)) := (Try.toTriangleS_f T hT).one
theorem view_nilT {H : Heap} {f : Nat} : view H f (.val (.slice none 0 0)) = some (rt []) := by simp only [view, viewV, rt, encL, List.flatMap_nil, List.length_nil]
theorem view_rowT {H : Heap} {f n : Nat} {ex : Bool} {T : List Tri} (hn : n = T.length) : view H f (.row n ex (encL tri4 T)) = some (rt T) := by subst hn; simp only [view, rt]
theorem view_ownT {H : Heap} {b n f cap : Nat} {ex : Bool} {e2 : Bool} {T : List Tri} (hb : H.map b = some ⟨encL tri4 T, e2⟩) (hn : n = T.length) : view H (f + 1) (.own b 0 n cap 4 ex) = some (rt T) := by
  subst hn
  have hl := encL_length (enc := tri4) (z := 4) tri4_z T
  simp only [Sh.view, hb, List.drop_zero]
  rw [if_pos (by omega), encL_take_self tri4_z, viewL_encL, rt]

def absI (x : Int) : Int := if x < 0 then -x else x
theorem Try.absolute_ok (x : Int) (h1 : -1000000 ≤ x) (h2 : x ≤ 1000000) : PCall Try.prog 82 [.val (.int .i64 x)] (.val (.int .i64 (absI x))) := by
  refine FCall.pcall (R := fun r _ => r = .val (.int .i64 (absI x))) ?_ 0 (by rintro r H rfl; exact view_int)
  refine FCall.of_body Try.func82 rfl (by kernel_rfl) (by simp [Try.ntmps82]) ?_
  refine SW_of_vc Try.mixed _ _ _ (by kernel_rfl) ?_
  by_cases h : x < 0
  · simp (disch := omega) only [Try.ntmps82, Try.results82, go_sem, Nat.reduceLT, Nat.reduceLeDiff, Nat.reduceEqDiff, Nat.reduceAdd, Nat.reduceSub, Nat.reduceMul, reduceIte, ↓reduceIte, reduceCtorEq, Int.reduceToNat, Int.reduceLE, Int.reduceLT, Int.reduceNeg, Int.reduceSub, Int.reduceAdd, Int.reduceMul]
    exact Fin.val (by rw [absI, if_pos h]; simp)
  · simp (disch := omega) only [Try.ntmps82, Try.results82, go_sem, Nat.reduceLT, Nat.reduceLeDiff, Nat.reduceEqDiff, Nat.reduceAdd, Nat.reduceSub, Nat.reduceMul, reduceIte, ↓reduceIte, reduceCtorEq, Int.reduceToNat, Int.reduceLE, Int.reduceLT, Int.reduceNeg, Int.reduceSub, Int.reduceAdd, Int.reduceMul]
    exact Fin.val (by rw [absI, if_neg h])
theorem Try.l21Size_ok (x : Int) (h1 : -1000000 ≤ x) (h2 : x ≤ 1000000) : PCall Try.prog 77 [.val (.int .i64 x)] (.val (.int .i64 (absI x))) := by
  refine FCall.pcall (R := fun r _ => r = .val (.int .i64 (absI x))) ?_ 0 (by rintro r H rfl; exact view_int)
  refine FCall.of_body Try.func77 rfl (by kernel_rfl) (by simp [Try.ntmps77]) ?_
  refine SW_of_vc Try.mixed _ _ _ (by kernel_rfl) ?_
  by_cases h : x < 0
  · simp (disch := omega) only [Try.ntmps77, Try.results77, go_sem, Nat.reduceLT, Nat.reduceLeDiff, Nat.reduceEqDiff, Nat.reduceAdd, Nat.reduceSub, Nat.reduceMul, reduceIte, ↓reduceIte, reduceCtorEq, Int.reduceToNat, Int.reduceLE, Int.reduceLT, Int.reduceNeg, Int.reduceSub, Int.reduceAdd, Int.reduceMul]
    exact Fin.val (by rw [absI, if_pos h]; simp)
  · simp (disch := omega) only [Try.ntmps77, Try.results77, go_sem, Nat.reduceLT, Nat.reduceLeDiff, Nat.reduceEqDiff, Nat.reduceAdd, Nat.reduceSub, Nat.reduceMul, reduceIte, ↓reduceIte, reduceCtorEq, Int.reduceToNat, Int.reduceLE, Int.reduceLT, Int.reduceNeg, Int.reduceSub, Int.reduceAdd, Int.reduceMul]
    exact Fin.val (by rw [absI, if_neg h])
end Go.Sh
