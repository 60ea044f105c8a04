/-
  Contracts: triangles, copied, measured and compared.
-/
import Derived.Test.YtehimkdkflnkbaaX1
import Derived.Test.YtehimkdkflnkbaaG1
namespace Go.Sh
set_option linter.unusedSimpArgs false
set_option linter.unusedVariables false
open Go Go.Proofs

theorem view_tri' {H : Heap} {f : Nat} {a b c w : Int} : view H (f + 1) (.agg [.val (.int .i64 a), .val (.int .i64 b), .val (.int .i64 c), .val (.int .i64 w)]) = some (.agg [.val (.int .i64 a), .val (.int .i64 b), .val (.int .i64 c), .val (.int .i64 w)]) :=
  view_agg (viewL_cons_of view_int (viewL_cons_of view_int (viewL_cons_of view_int (viewL_cons_of view_int viewL_nil_of))))

theorem Try.toTriangle_ok (a b c w : Int) : PCall Try.prog 60 [.agg [.val (.int .i64 a), .val (.int .i64 b), .val (.int .i64 c), .val (.int .i64 w)]] (.agg [.val (.int .i64 a), .val (.int .i64 b), .val (.int .i64 c), .val (.int .i64 w)]) := by
  refine FCall.pcall (R := fun r _ => r = .agg [.val (.int .i64 a), .val (.int .i64 b), .val (.int .i64 c), .val (.int .i64 w)]) ?_ 1 (by rintro r H rfl; exact view_tri')
  refine FCall.of_body Try.func60 rfl (by kernel_rfl) (by simp [Try.ntmps60]) ?_
  refine SW_of_vc Try.mixed _ _ _ (by kernel_rfl) ?_
  simp (disch := omega) only [Try.ntmps60, Try.results60, go_sem, Nat.reduceLT, Nat.reduceLeDiff, Nat.reduceEqDiff, Nat.reduceAdd, Nat.reduceSub, Nat.reduceMul, reduceIte, ↓reduceIte, reduceCtorEq, Int.reduceToNat, Int.reduceLE, Int.reduceLT, Int.reduceNeg, Int.reduceSub, Int.reduceAdd, Int.reduceMul]
  exact Fin.agg rfl rfl

theorem Try.eqTriangle_ok (a b c w a' b' c' w' : Int) : PCall Try.prog 63 [.agg [.val (.int .i64 a), .val (.int .i64 b), .val (.int .i64 c), .val (.int .i64 w)], .agg [.val (.int .i64 a'), .val (.int .i64 b'), .val (.int .i64 c'), .val (.int .i64 w')]] (.val (.bool (decide ((a, b, c, w) = (a', b', c', w'))))) := by
  refine FCall.pcall (R := fun r _ => r = .val (.bool (decide ((a, b, c, w) = (a', b', c', w'))))) ?_ 0 (by rintro r H rfl; exact view_bool)
  refine FCall.of_body Try.func63 rfl (by kernel_rfl) (by simp [Try.ntmps63]) ?_
  refine SW_of_vc Try.mixed _ _ _ (by kernel_rfl) ?_
  by_cases h1 : a = a'
  · by_cases h2 : b = b'
    · by_cases h3 : c = c'
      · by_cases h4 : w = w'
        · simp (disch := omega) only [Try.ntmps63, Try.results63, go_sem, Nat.reduceLT, Nat.reduceLeDiff, Nat.reduceEqDiff, Nat.reduceAdd, Nat.reduceSub, Nat.reduceMul, reduceIte, ↓reduceIte, reduceCtorEq, Int.reduceToNat, Int.reduceLE, Int.reduceLT, Int.reduceNeg, Int.reduceSub, Int.reduceAdd, Int.reduceMul]
          exact Fin.val (by simp [h1, h2, h3, h4])
        · simp (disch := omega) only [Try.ntmps63, Try.results63, go_sem, Nat.reduceLT, Nat.reduceLeDiff, Nat.reduceEqDiff, Nat.reduceAdd, Nat.reduceSub, Nat.reduceMul, reduceIte, ↓reduceIte, reduceCtorEq, Int.reduceToNat, Int.reduceLE, Int.reduceLT, Int.reduceNeg, Int.reduceSub, Int.reduceAdd, Int.reduceMul]
          exact Fin.val (by simp [h4])
      · simp (disch := omega) only [Try.ntmps63, Try.results63, go_sem, Nat.reduceLT, Nat.reduceLeDiff, Nat.reduceEqDiff, Nat.reduceAdd, Nat.reduceSub, Nat.reduceMul, reduceIte, ↓reduceIte, reduceCtorEq, Int.reduceToNat, Int.reduceLE, Int.reduceLT, Int.reduceNeg, Int.reduceSub, Int.reduceAdd, Int.reduceMul]
        exact Fin.val (by simp [h3])
    · simp (disch := omega) only [Try.ntmps63, Try.results63, go_sem, Nat.reduceLT, Nat.reduceLeDiff, Nat.reduceEqDiff, Nat.reduceAdd, Nat.reduceSub, Nat.reduceMul, reduceIte, ↓reduceIte, reduceCtorEq, Int.reduceToNat, Int.reduceLE, Int.reduceLT, Int.reduceNeg, Int.reduceSub, Int.reduceAdd, Int.reduceMul]
      exact Fin.val (by simp [h2])
  · simp (disch := omega) only [Try.ntmps63, Try.results63, go_sem, Nat.reduceLT, Nat.reduceLeDiff, Nat.reduceEqDiff, Nat.reduceAdd, Nat.reduceSub, Nat.reduceMul, reduceIte, ↓reduceIte, reduceCtorEq, Int.reduceToNat, Int.reduceLE, Int.reduceLT, Int.reduceNeg, Int.reduceSub, Int.reduceAdd, Int.reduceMul]
    exact Fin.val (by simp [h1])

set_option maxHeartbeats 1000000 in
theorem Try.toTriangleS_f (T : List Tri) (hT : T.length ≤ 1048576) : FCall Try.prog 20 [rt T] (FlatRes T.length 4 (encL tri4 T)) := by
  refine FCall.of_body Try.func20 rfl (by kernel_rfl) (by simp [Try.ntmps20]) ?_
  refine SW_of_vc Try.mixed _ _ _ (by kernel_rfl) ?_
  simp (disch := omega) only [Try.ntmps20, Try.results20, go_sem, Nat.reduceLT, Nat.reduceLeDiff, Nat.reduceEqDiff, Nat.reduceAdd, Nat.reduceSub, Nat.reduceMul, reduceIte, ↓reduceIte, reduceCtorEq, Int.reduceToNat, Int.reduceLE, Int.reduceLT, Int.reduceNeg, Int.reduceSub, Int.reduceAdd, Int.reduceMul, rt]
  refine LoopW.loop (fun k : Nat => ⟨ofL [(0, rt T), (3, .own 0 0 T.length T.length 4 true), (4, .val (.int .i64 k))], hp [(0, ⟨encL tri4 (fillG (0, 0, 0, 0) T k), true⟩)] 1⟩) (fun k => k ≤ T.length) (fun k => T.length - k) 0 (by omega)
    (Wk.of (by simp only [go_sem, ↓List.forall_mem_cons, List.not_mem_nil, false_implies, implies_true, and_true, true_and, and_self, Nat.reduceEqDiff, reduceIte, ↓reduceIte, ri_eq, Int.natCast_add, Int.cast_ofNat_Int, rt]; try simp) (by simp only [fillG_zero, rep_tri])) ?_
  intro k hk
  have hf := fillG_length ((0, 0, 0, 0) : Tri) T k hk
  have hl := encL_length (enc := tri4) (z := 4) tri4_z (fillG (0, 0, 0, 0) T k)
  have hl2 := encL_length (enc := tri4) (z := 4) tri4_z T
  refine SW_of_vc Try.mixed _ _ _ (by kernel_rfl) ?_
  by_cases hlt : k < T.length
  · obtain ⟨a, b, c, w, ht⟩ := tri_ex T k
    obtain ⟨_, _, _, _, q⟩ := tri_of hlt ht
    have hset := fillG_set ((0, 0, 0, 0) : Tri) ((0, 0, 0, 0) : Tri) T k hlt
    have e : T.getD k (0, 0, 0, 0) = (a, b, c, w) := ht
    rw [e] at hset
    have hs4 := tri_set4 (T := fillG (0, 0, 0, 0) T k) (k := k) (a := a) (b := b) (c := c) (w := w) (by omega)
    rw [hset] at hs4
    simp (disch := omega) only [Try.ntmps20, Try.results20, go_sem, Nat.reduceLT, Nat.reduceLeDiff, Nat.reduceEqDiff, Nat.reduceAdd, Nat.reduceSub, Nat.reduceMul, reduceIte, ↓reduceIte, reduceCtorEq, Int.reduceToNat, Int.reduceLE, Int.reduceLT, Int.reduceNeg, Int.reduceSub, Int.reduceAdd, Int.reduceMul, rt, hl2, q]
    refine (Try.toTriangle_ok _ _ _ _).callV 1 (viewL_cons_of view_tri' viewL_nil_of) ?_
    simp (disch := omega) only [Try.ntmps20, Try.results20, go_sem, Nat.reduceLT, Nat.reduceLeDiff, Nat.reduceEqDiff, Nat.reduceAdd, Nat.reduceSub, Nat.reduceMul, reduceIte, ↓reduceIte, reduceCtorEq, Int.reduceToNat, Int.reduceLE, Int.reduceLT, Int.reduceNeg, Int.reduceSub, Int.reduceAdd, Int.reduceMul, rt, hl, hf, hs4]
    exact ⟨k + 1, by omega, by omega, Wk.of (by simp only [go_sem, ↓List.forall_mem_cons, List.not_mem_nil, false_implies, implies_true, and_true, true_and, and_self, Nat.reduceEqDiff, reduceIte, ↓reduceIte, ri_eq, Int.natCast_add, Int.cast_ofNat_Int, rt]; try simp) rfl⟩
  · simp (disch := omega) only [Try.ntmps20, Try.results20, go_sem, Nat.reduceLT, Nat.reduceLeDiff, Nat.reduceEqDiff, Nat.reduceAdd, Nat.reduceSub, Nat.reduceMul, reduceIte, ↓reduceIte, reduceCtorEq, Int.reduceToNat, Int.reduceLE, Int.reduceLT, Int.reduceNeg, Int.reduceSub, Int.reduceAdd, Int.reduceMul, rt]
    obtain rfl : k = T.length := by omega
    rw [fillG_all]
    exact flat_fin hl2 (encL_vals tri4_v T) (by rw [hp_map, hmap_cons, if_pos rfl])
theorem Try.toTriangleS_ok (T : List Tri) (hT : T.length ≤ 1048576) : PCall Try.prog 20 [rt T] (rt T) := (Try.toTriangleS_f T hT).pcall 2 (fun _ _ h => flat_viewT h)

theorem tg_take_succ {A B : List Tri} {k : Nat} (hA : k < A.length) (hB : k < B.length) (h : A.take k = B.take k) (e : tg A k = tg B k) : A.take (k + 1) = B.take (k + 1) := by
  rw [List.take_succ_eq_append_getElem hA, List.take_succ_eq_append_getElem hB, h]
  simp [tg, hA, hB] at e
  rw [e]

set_option maxHeartbeats 1000000 in
theorem Try.eqTriangleS_ok (A B : List Tri) (hA : A.length ≤ 1048576) (hB : B.length ≤ 1048576) : PCall Try.prog 24 [rt A, rt B] (.val (.bool (decide (A = B)))) := by
  refine FCall.pcall (R := fun r _ => r = .val (.bool (decide (A = B)))) ?_ 0 (by rintro r H rfl; exact view_bool)
  refine FCall.of_body Try.func24 rfl (by kernel_rfl) (by simp [Try.ntmps24]) ?_
  refine SW_of_vc Try.mixed _ _ _ (by kernel_rfl) ?_
  have lA := encL_length (enc := tri4) (z := 4) tri4_z A
  have lB := encL_length (enc := tri4) (z := 4) tri4_z B
  by_cases hl : A.length = B.length
  · simp (disch := omega) only [Try.ntmps24, Try.results24, go_sem, Nat.reduceLT, Nat.reduceLeDiff, Nat.reduceEqDiff, Nat.reduceAdd, Nat.reduceSub, Nat.reduceMul, reduceIte, ↓reduceIte, reduceCtorEq, Int.reduceToNat, Int.reduceLE, Int.reduceLT, Int.reduceNeg, Int.reduceSub, Int.reduceAdd, Int.reduceMul, rt]
    refine LoopW.loop (fun k : Nat => ⟨ofL [(0, rt A), (1, rt B), (5, .val (.int .i64 k))], hp [] 0⟩) (fun k => k ≤ A.length ∧ A.take k = B.take k) (fun k => A.length - k) 0 ⟨by omega, by simp⟩ (Wk.of (by simp only [go_sem, ↓List.forall_mem_cons, List.not_mem_nil, false_implies, implies_true, and_true, true_and, and_self, Nat.reduceEqDiff, reduceIte, ↓reduceIte, ri_eq, Int.natCast_add, Int.cast_ofNat_Int, rt]; try simp) rfl) ?_
    rintro k ⟨hk, hkk⟩
    refine SW_of_vc Try.mixed _ _ _ (by kernel_rfl) ?_
    by_cases hlt : k < A.length
    · obtain ⟨a, b, c, w, ha⟩ := tri_ex A k
      obtain ⟨a', b', c', w', hb⟩ := tri_ex B k
      obtain ⟨_, _, _, _, qa⟩ := tri_of hlt ha
      obtain ⟨_, _, _, _, qb⟩ := tri_of (by omega) hb
      have hq := Try.eqTriangle_ok a b c w a' b' c' w'
      by_cases he : (a, b, c, w) = (a', b', c', w')
      · rw [decide_eq_true he] at hq
        simp (disch := omega) only [Try.ntmps24, Try.results24, go_sem, Nat.reduceLT, Nat.reduceLeDiff, Nat.reduceEqDiff, Nat.reduceAdd, Nat.reduceSub, Nat.reduceMul, reduceIte, ↓reduceIte, reduceCtorEq, Int.reduceToNat, Int.reduceLE, Int.reduceLT, Int.reduceNeg, Int.reduceSub, Int.reduceAdd, Int.reduceMul, rt, lA, lB, qa, qb]
        refine hq.callDV 1 (viewL_cons_of view_tri' (viewL_cons_of view_tri' viewL_nil_of)) ?_
        simp (disch := omega) only [Try.ntmps24, Try.results24, go_sem, Nat.reduceLT, Nat.reduceLeDiff, Nat.reduceEqDiff, Nat.reduceAdd, Nat.reduceSub, Nat.reduceMul, reduceIte, ↓reduceIte, reduceCtorEq, Int.reduceToNat, Int.reduceLE, Int.reduceLT, Int.reduceNeg, Int.reduceSub, Int.reduceAdd, Int.reduceMul, rt]
        exact ⟨k + 1, ⟨by omega, tg_take_succ hlt (by omega) hkk (by rw [ha, hb, he])⟩, by omega, Wk.of (by simp only [go_sem, ↓List.forall_mem_cons, List.not_mem_nil, false_implies, implies_true, and_true, true_and, and_self, Nat.reduceEqDiff, reduceIte, ↓reduceIte, ri_eq, Int.natCast_add, Int.cast_ofNat_Int, rt]; try simp) rfl⟩
      · rw [decide_eq_false he] at hq
        simp (disch := omega) only [Try.ntmps24, Try.results24, go_sem, Nat.reduceLT, Nat.reduceLeDiff, Nat.reduceEqDiff, Nat.reduceAdd, Nat.reduceSub, Nat.reduceMul, reduceIte, ↓reduceIte, reduceCtorEq, Int.reduceToNat, Int.reduceLE, Int.reduceLT, Int.reduceNeg, Int.reduceSub, Int.reduceAdd, Int.reduceMul, rt, lA, lB, qa, qb]
        refine hq.callDV 1 (viewL_cons_of view_tri' (viewL_cons_of view_tri' viewL_nil_of)) ?_
        simp (disch := omega) only [Try.ntmps24, Try.results24, go_sem, Nat.reduceLT, Nat.reduceLeDiff, Nat.reduceEqDiff, Nat.reduceAdd, Nat.reduceSub, Nat.reduceMul, reduceIte, ↓reduceIte, reduceCtorEq, Int.reduceToNat, Int.reduceLE, Int.reduceLT, Int.reduceNeg, Int.reduceSub, Int.reduceAdd, Int.reduceMul, rt]
        refine Fin.val ?_
        have : A ≠ B := fun e => he (by rw [← ha, ← hb, e])
        simp [this]
    · simp (disch := omega) only [Try.ntmps24, Try.results24, go_sem, Nat.reduceLT, Nat.reduceLeDiff, Nat.reduceEqDiff, Nat.reduceAdd, Nat.reduceSub, Nat.reduceMul, reduceIte, ↓reduceIte, reduceCtorEq, Int.reduceToNat, Int.reduceLE, Int.reduceLT, Int.reduceNeg, Int.reduceSub, Int.reduceAdd, Int.reduceMul, rt]
      refine Fin.val ?_
      have h1 : A.take k = A := List.take_of_length_le (by omega)
      have h2 : B.take k = B := List.take_of_length_le (by omega)
      rw [h1, h2] at hkk
      simp [hkk]
  · simp (disch := omega) only [Try.ntmps24, Try.results24, go_sem, Nat.reduceLT, Nat.reduceLeDiff, Nat.reduceEqDiff, Nat.reduceAdd, Nat.reduceSub, Nat.reduceMul, reduceIte, ↓reduceIte, reduceCtorEq, Int.reduceToNat, Int.reduceLE, Int.reduceLT, Int.reduceNeg, Int.reduceSub, Int.reduceAdd, Int.reduceMul, rt]
    refine Fin.val ?_
    have : A ≠ B := fun e => hl (by rw [e])
    simp [this]

theorem Try.szTriangleS_ok (T : List Tri) (l : Int) (hT : T.length ≤ 9223372036854775807) (h0 : 0 ≤ l) (h1 : l ≤ 1048576) : PCall Try.prog 16 [rt T, .val (.int .i64 l)] (.val (.int .i64 (if l < T.length then -1 else l - T.length))) := by
  refine FCall.pcall (R := fun r _ => r = .val (.int .i64 (if l < T.length then -1 else l - T.length))) ?_ 0 (by rintro r H rfl; exact view_int)
  refine FCall.of_body Try.func16 rfl (by kernel_rfl) (by simp [Try.ntmps16]) ?_
  refine SW_of_vc Try.mixed _ _ _ (by kernel_rfl) ?_
  by_cases hl : l < T.length
  · simp (disch := omega) only [Try.ntmps16, Try.results16, go_sem, Nat.reduceLT, Nat.reduceLeDiff, Nat.reduceEqDiff, Nat.reduceAdd, Nat.reduceSub, Nat.reduceMul, reduceIte, ↓reduceIte, reduceCtorEq, Int.reduceToNat, Int.reduceLE, Int.reduceLT, Int.reduceNeg, Int.reduceSub, Int.reduceAdd, Int.reduceMul, rt]
    exact Fin.val rfl
  · simp (disch := omega) only [Try.ntmps16, Try.results16, go_sem, Nat.reduceLT, Nat.reduceLeDiff, Nat.reduceEqDiff, Nat.reduceAdd, Nat.reduceSub, Nat.reduceMul, reduceIte, ↓reduceIte, reduceCtorEq, Int.reduceToNat, Int.reduceLE, Int.reduceLT, Int.reduceNeg, Int.reduceSub, Int.reduceAdd, Int.reduceMul, rt]
    exact Fin.val rfl
end Go.Sh
