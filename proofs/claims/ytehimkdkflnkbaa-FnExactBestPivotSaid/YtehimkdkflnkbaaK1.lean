/-
  Contracts: numbers by rows, copied, measured, compared.
-/
import Derived.Test.YtehimkdkflnkbaaH1
namespace Go.Sh
set_option linter.unusedSimpArgs false
set_option linter.unusedVariables false
open Go Go.Proofs

def mrow (M : List (List Int)) (i : Nat) : List Int := M.getD i []
def mat (M : List (List Int)) (i k : Nat) : Int := (mrow M i).getD k 0
theorem rows_length (M : List (List Int)) : (rows M).length = M.length := by simp [rows]
theorem rows_get {M : List (List Int)} {k : Nat} (h : k < M.length) : (rows M)[k]? = some (.row (mrow M k).length false (ints (mrow M k))) := by
  simp [rows, mrow, h, ri]
theorem rr_eq (M : List (List Int)) : rr M = .row M.length false (rows M) := rfl

def outer (M : List (List Int)) (k : Nat) : List SV := (List.range M.length).map fun i => if i < k then .own (i + 1) 0 (mrow M i).length (mrow M i).length 1 false else .val (.slice none 0 0)
theorem outer_length (M : List (List Int)) (k : Nat) : (outer M k).length = M.length := by simp [outer]
theorem outer_zero (M : List (List Int)) : outer M 0 = List.replicate M.length (.val (.slice none 0 0)) := by
  apply List.ext_getElem <;> simp [outer]
theorem outer_set {M : List (List Int)} {k : Nat} (h : k < M.length) : (outer M k).set k (.own (k + 1) 0 (mrow M k).length (mrow M k).length 1 false) = outer M (k + 1) := by
  apply List.ext_getElem?
  intro i
  simp only [outer, List.getElem?_set, List.getElem?_map, List.length_map, List.length_range]
  by_cases hi : i < M.length
  · rw [List.getElem?_range hi]
    by_cases hk : k = i
    · subst hk
      simp [h]
    · by_cases h1 : i < k
      · simp [hk, h1, show i < k + 1 by omega]
      · simp [hk, h1, show ¬ i < k + 1 by omega]
  · have : (List.range M.length)[i]? = none := by simp; omega
    rw [this]
    have hk : ¬ k = i := by omega
    simp [hk]
def HS (M : List (List Int)) (k : Nat) : Heap := ⟨fun x => if x = 0 then some ⟨outer M k, true⟩ else if x ≤ k then some ⟨ints (mrow M (x - 1)), false⟩ else none, k + 1⟩
def HSp (M : List (List Int)) (k : Nat) : Heap := (HS M k).push ⟨ints (mrow M k), false⟩
theorem HS_nb (M : List (List Int)) (k : Nat) : (HS M k).nb = k + 1 := rfl
theorem HSp_nb (M : List (List Int)) (k : Nat) : (HSp M k).nb = k + 2 := rfl
theorem HS_map (M : List (List Int)) (k : Nat) : (HS M k).map 0 = some ⟨outer M k, true⟩ := rfl
theorem HSp_map (M : List (List Int)) (k : Nat) : (HSp M k).map 0 = some ⟨outer M k, true⟩ := by
  simp only [HSp, Heap.push, HS]
  rw [if_neg (by omega)]
  rfl
theorem HSp_set {M : List (List Int)} {k : Nat} : (HSp M k).set 0 (some ⟨outer M (k + 1), true⟩) = HS M (k + 1) := by
  refine Heap.ext' (fun x => ?_) rfl
  simp only [HSp, HS, Heap.push, Heap.set]
  by_cases h0 : x = 0
  · simp [h0]
  · by_cases h1 : x = k + 1
    · simp [h1]
    · by_cases h2 : x ≤ k
      · simp [h0, h1, h2, show x ≤ k + 1 by omega]
      · simp [h0, h1, h2, show ¬ x ≤ k + 1 by omega]
theorem HS_zero (M : List (List Int)) : HS M 0 = hp [(0, ⟨List.replicate M.length (.val (.slice none 0 0)), true⟩)] 1 := by
  refine Heap.ext' (fun x => ?_) rfl
  simp only [HS, hp, hmap, outer_zero]
  by_cases h0 : x = 0
  · simp [h0]
  · simp [h0]

theorem outer_nr (M : List (List Int)) (k : Nat) : noRowL (outer M k) = true := by
  unfold outer
  generalize List.range M.length = l
  induction l with
  | nil => rfl
  | cons a l ih =>
    simp only [List.map_cons, noRowL, ih, Bool.and_true]
    split <;> rfl
theorem HS_nr (M : List (List Int)) (k : Nat) : nrHeap (HS M k) := by
  intro b blk hb
  simp only [HS] at hb
  split at hb
  · simp at hb; subst hb; exact outer_nr M k
  · split at hb
    · simp at hb; subst hb; exact noRowL_ints _
    · simp at hb
theorem viewL_fn {H : Heap} {f : Nat} {α : Type} {g h : α → SV} : ∀ (l : List α), (∀ a ∈ l, view H f (g a) = some (h a)) → viewL H f (l.map g) = some (l.map h)
  | [], _ => viewL_nil_of
  | a :: l, hv => viewL_cons_of (hv a (by simp)) (viewL_fn l (fun b hb => hv b (by simp [hb])))
theorem HS_view (M : List (List Int)) : view (HS M M.length) 3 (.own 0 0 M.length M.length 1 true) = some (rr M) := by
  simp only [view, HS_map, Nat.mul_one, List.drop_zero, outer_length, Nat.zero_add, Nat.le_refl, if_true]
  have e : (outer M M.length).take M.length = (List.range M.length).map fun i => SV.own (i + 1) 0 (mrow M i).length (mrow M i).length 1 false := by
    rw [List.take_of_length_le (by rw [outer_length]; exact Nat.le_refl _), outer]
    refine List.map_congr_left (fun i hi => ?_)
    have : i < M.length := by simpa using hi
    rw [if_pos this]
  rw [e, viewL_fn (h := fun i => ri (mrow M i)) _ (fun i hi => ?_)]
  · have : (List.range M.length).map (fun i => ri (mrow M i)) = rows M := by
      apply List.ext_getElem?
      intro i
      simp only [rows, List.getElem?_map]
      by_cases hi : i < M.length
      · rw [List.getElem?_range hi]; simp [mrow, hi]
      · have : (List.range M.length)[i]? = none := by simp; omega
        rw [this, List.getElem?_eq_none (by omega : M.length ≤ i)]; rfl
    rw [this]; rfl
  · have hi' : i < M.length := by simpa using hi
    refine view_own (e2 := false) ?_ rfl
    simp only [HS]
    rw [if_neg (by omega), if_pos (by omega)]
    simp

set_option maxHeartbeats 1000000 in
theorem Try.toIntSS_f (M : List (List Int)) (hM : M.length ≤ 1048576) (hR : ∀ i, i < M.length → (mrow M i).length ≤ 1048576) : FCall Try.prog 18 [rr M] (fun r H => r = .own 0 0 M.length M.length 1 true ∧ H = HS M M.length) := by
  refine FCall.of_body Try.func18 rfl (by kernel_rfl) (by simp [Try.ntmps18]) ?_
  refine SW_of_vc Try.mixed _ _ _ (by kernel_rfl) ?_
  simp (disch := omega) only [Try.ntmps18, Try.results18, go_sem, Nat.reduceLT, Nat.reduceLeDiff, Nat.reduceEqDiff, Nat.reduceAdd, Nat.reduceSub, Nat.reduceMul, reduceIte, ↓reduceIte, reduceCtorEq, Int.reduceToNat, Int.reduceLE, Int.reduceLT, Int.reduceNeg, Int.reduceSub, Int.reduceAdd, Int.reduceMul, rr_eq]
  refine LoopW.loop (fun k : Nat => ⟨ofL [(0, rr M), (3, .own 0 0 M.length M.length 1 true), (4, .val (.int .i64 k))], HS M k⟩) (fun k => k ≤ M.length) (fun k => M.length - k) 0 (by omega)
    (Wk.of (by simp only [go_sem, ↓List.forall_mem_cons, List.not_mem_nil, false_implies, implies_true, and_true, true_and, and_self, Nat.reduceEqDiff, reduceIte, ↓reduceIte, ri_eq, Int.natCast_add, Int.cast_ofNat_Int, rr_eq]; try simp) (by rw [HS_zero])) ?_
  intro k hk
  have ho := outer_length M k
  refine SW_of_vc Try.mixed _ _ _ (by kernel_rfl) ?_
  by_cases hlt : k < M.length
  · have hos := outer_set hlt
    simp (disch := omega) only [Try.ntmps18, Try.results18, go_sem, Nat.reduceLT, Nat.reduceLeDiff, Nat.reduceEqDiff, Nat.reduceAdd, Nat.reduceSub, Nat.reduceMul, reduceIte, ↓reduceIte, reduceCtorEq, Int.reduceToNat, Int.reduceLE, Int.reduceLT, Int.reduceNeg, Int.reduceSub, Int.reduceAdd, Int.reduceMul, rr_eq, rows_get]
    refine (Try.toIntS_one (mrow M k) (hR k hlt)).callOne (ints_vals _) 0 (viewL_cons_of (view_rowL (by first | rfl | simp [marks_length, canon_length] | omega)) viewL_nil_of) ?_
    have e : (HS M k).push ⟨ints (mrow M k), false⟩ = HSp M k := rfl
    rw [e, HS_nb]
    simp (disch := omega) only [Try.ntmps18, Try.results18, go_sem, Nat.reduceLT, Nat.reduceLeDiff, Nat.reduceEqDiff, Nat.reduceAdd, Nat.reduceSub, Nat.reduceMul, reduceIte, ↓reduceIte, reduceCtorEq, Int.reduceToNat, Int.reduceLE, Int.reduceLT, Int.reduceNeg, Int.reduceSub, Int.reduceAdd, Int.reduceMul, rr_eq, HSp_map, ho, hos, HSp_set]
    exact ⟨k + 1, by omega, by omega, Wk.of (by simp only [go_sem, ↓List.forall_mem_cons, List.not_mem_nil, false_implies, implies_true, and_true, true_and, and_self, Nat.reduceEqDiff, reduceIte, ↓reduceIte, ri_eq, Int.natCast_add, Int.cast_ofNat_Int, rr_eq]; try simp) rfl⟩
  · obtain rfl : k = M.length := by omega
    simp (disch := omega) only [Try.ntmps18, Try.results18, go_sem, Nat.reduceLT, Nat.reduceLeDiff, Nat.reduceEqDiff, Nat.reduceAdd, Nat.reduceSub, Nat.reduceMul, reduceIte, ↓reduceIte, reduceCtorEq, Int.reduceToNat, Int.reduceLE, Int.reduceLT, Int.reduceNeg, Int.reduceSub, Int.reduceAdd, Int.reduceMul, rr_eq]
    exact ⟨HS M M.length, ⟨rfl, fun _ => .inr rfl⟩, rfl, HS_nr M _, rfl, rfl⟩
theorem Try.toIntSS_ok (M : List (List Int)) (hM : M.length ≤ 1048576) (hR : ∀ i, i < M.length → (mrow M i).length ≤ 1048576) : PCall Try.prog 18 [rr M] (rr M) :=
  (Try.toIntSS_f M hM hR).pcall 3 (by rintro r H ⟨rfl, rfl⟩; exact HS_view M)

def szM (M : List (List Int)) (l : Int) : Int := l - M.length - (M.map fun r => (r.length : Int)).sum
def msum (M : List (List Int)) (k : Nat) : Int := ((M.take k).map fun r => (r.length : Int)).sum
theorem msum_succ {M : List (List Int)} {k : Nat} (h : k < M.length) : msum M (k + 1) = msum M k + (mrow M k).length := by
  have e : mrow M k = M[k] := by simp [mrow, h]
  rw [msum, List.take_succ_eq_append_getElem h, List.map_append, List.sum_append, e]
  simp only [List.map_cons, List.map_nil, List.sum_cons, List.sum_nil, Int.add_zero]
  rfl
theorem msum_nonneg (M : List (List Int)) (k : Nat) : 0 ≤ msum M k := by
  unfold msum
  induction M.take k with
  | nil => simp
  | cons a l ih => simp only [List.map_cons, List.sum_cons]; omega
theorem msum_mono {M : List (List Int)} : ∀ {k j : Nat}, k ≤ j → j ≤ M.length → msum M k ≤ msum M j := by
  intro k j h
  induction h with
  | refl => intro _; exact Int.le_refl _
  | step h ih =>
    intro hj
    have := ih (by omega)
    rw [msum_succ (by omega)]
    omega

set_option maxHeartbeats 1000000 in
theorem Try.szIntSS_ok (M : List (List Int)) (l : Int) (hM : M.length ≤ 9223372036854775807) (hR : ∀ i, i < M.length → (mrow M i).length ≤ 9223372036854775807) (h0 : 0 ≤ l) (h1 : l ≤ 1048576) :
    PCall Try.prog 15 [rr M, .val (.int .i64 l)] (.val (.int .i64 (if l < M.length + msum M M.length then -1 else l - M.length - msum M M.length))) := by
  have hnn := msum_nonneg M M.length
  refine FCall.pcall (R := fun r _ => r = .val (.int .i64 (if l < M.length + msum M M.length then -1 else l - M.length - msum M M.length))) ?_ 0 (by rintro r H rfl; exact view_int)
  refine FCall.of_body Try.func15 rfl (by kernel_rfl) (by simp [Try.ntmps15]) ?_
  refine SW_of_vc Try.mixed _ _ _ (by kernel_rfl) ?_
  by_cases hl : l < M.length
  · rw [if_pos (by omega)]
    simp (disch := omega) only [Try.ntmps15, Try.results15, go_sem, Nat.reduceLT, Nat.reduceLeDiff, Nat.reduceEqDiff, Nat.reduceAdd, Nat.reduceSub, Nat.reduceMul, reduceIte, ↓reduceIte, reduceCtorEq, Int.reduceToNat, Int.reduceLE, Int.reduceLT, Int.reduceNeg, Int.reduceSub, Int.reduceAdd, Int.reduceMul, rr_eq]
    exact Fin.val rfl
  · simp (disch := omega) only [Try.ntmps15, Try.results15, go_sem, Nat.reduceLT, Nat.reduceLeDiff, Nat.reduceEqDiff, Nat.reduceAdd, Nat.reduceSub, Nat.reduceMul, reduceIte, ↓reduceIte, reduceCtorEq, Int.reduceToNat, Int.reduceLE, Int.reduceLT, Int.reduceNeg, Int.reduceSub, Int.reduceAdd, Int.reduceMul, rr_eq]
    refine LoopW.loop (fun k : Nat => ⟨ofL [(0, rr M), (1, .val (.int .i64 (l - M.length - msum M k))), (5, .val (.int .i64 k))], hp [] 0⟩) (fun k => k ≤ M.length ∧ 0 ≤ l - M.length - msum M k) (fun k => M.length - k) 0 ⟨by omega, by simp [msum]; omega⟩
      (Wk.of (by simp only [go_sem, ↓List.forall_mem_cons, List.not_mem_nil, false_implies, implies_true, and_true, true_and, and_self, Nat.reduceEqDiff, reduceIte, ↓reduceIte, ri_eq, Int.natCast_add, Int.cast_ofNat_Int, rr_eq, msum, List.take_zero, List.map_nil, List.sum_nil, Int.sub_zero]; try simp) rfl) ?_
    rintro k ⟨hk, hkk⟩
    have hn := msum_nonneg M k
    refine SW_of_vc Try.mixed _ _ _ (by kernel_rfl) ?_
    by_cases hlt : k < M.length
    · have hs := Try.szIntS_ok (mrow M k) (l - M.length - msum M k) (hR k hlt) hkk (by omega)
      have he := msum_succ hlt
      have hmo := msum_mono (M := M) (k := k + 1) (j := M.length) (by omega) (by omega)
      by_cases hx : l - M.length - msum M k < (mrow M k).length
      · rw [if_pos hx] at hs
        simp (disch := omega) only [Try.ntmps15, Try.results15, go_sem, Nat.reduceLT, Nat.reduceLeDiff, Nat.reduceEqDiff, Nat.reduceAdd, Nat.reduceSub, Nat.reduceMul, reduceIte, ↓reduceIte, reduceCtorEq, Int.reduceToNat, Int.reduceLE, Int.reduceLT, Int.reduceNeg, Int.reduceSub, Int.reduceAdd, Int.reduceMul, rr_eq, rows_get]
        refine hs.callV 0 (viewL_cons_of (view_rowL (by first | rfl | simp [marks_length, canon_length] | omega)) (viewL_cons_of (view_int) viewL_nil_of)) ?_
        rw [if_pos (by omega)]
        simp (disch := omega) only [Try.ntmps15, Try.results15, go_sem, Nat.reduceLT, Nat.reduceLeDiff, Nat.reduceEqDiff, Nat.reduceAdd, Nat.reduceSub, Nat.reduceMul, reduceIte, ↓reduceIte, reduceCtorEq, Int.reduceToNat, Int.reduceLE, Int.reduceLT, Int.reduceNeg, Int.reduceSub, Int.reduceAdd, Int.reduceMul, rr_eq]
        exact Fin.val rfl
      · rw [if_neg hx] at hs
        simp (disch := omega) only [Try.ntmps15, Try.results15, go_sem, Nat.reduceLT, Nat.reduceLeDiff, Nat.reduceEqDiff, Nat.reduceAdd, Nat.reduceSub, Nat.reduceMul, reduceIte, ↓reduceIte, reduceCtorEq, Int.reduceToNat, Int.reduceLE, Int.reduceLT, Int.reduceNeg, Int.reduceSub, Int.reduceAdd, Int.reduceMul, rr_eq, rows_get]
        refine hs.callV 0 (viewL_cons_of (view_rowL (by first | rfl | simp [marks_length, canon_length] | omega)) (viewL_cons_of (view_int) viewL_nil_of)) ?_
        simp (disch := omega) only [Try.ntmps15, Try.results15, go_sem, Nat.reduceLT, Nat.reduceLeDiff, Nat.reduceEqDiff, Nat.reduceAdd, Nat.reduceSub, Nat.reduceMul, reduceIte, ↓reduceIte, reduceCtorEq, Int.reduceToNat, Int.reduceLE, Int.reduceLT, Int.reduceNeg, Int.reduceSub, Int.reduceAdd, Int.reduceMul, rr_eq]
        have e2 : l - (M.length : Int) - msum M k - ((mrow M k).length : Int) = l - M.length - msum M (k + 1) := by omega
        exact ⟨k + 1, ⟨by omega, by omega⟩, by omega, Wk.of (by simp only [go_sem, ↓List.forall_mem_cons, List.not_mem_nil, false_implies, implies_true, and_true, true_and, and_self, Nat.reduceEqDiff, reduceIte, ↓reduceIte, ri_eq, Int.natCast_add, Int.cast_ofNat_Int, rr_eq, e2]; try simp) rfl⟩
    · obtain rfl : k = M.length := by omega
      simp (disch := omega) only [Try.ntmps15, Try.results15, go_sem, Nat.reduceLT, Nat.reduceLeDiff, Nat.reduceEqDiff, Nat.reduceAdd, Nat.reduceSub, Nat.reduceMul, reduceIte, ↓reduceIte, reduceCtorEq, Int.reduceToNat, Int.reduceLE, Int.reduceLT, Int.reduceNeg, Int.reduceSub, Int.reduceAdd, Int.reduceMul, rr_eq]
      exact Fin.val rfl

theorem mtake_succ {A B : List (List Int)} {k : Nat} (hA : k < A.length) (hB : k < B.length) (h : A.take k = B.take k) (e : mrow A k = mrow B k) : A.take (k + 1) = B.take (k + 1) := by
  rw [List.take_succ_eq_append_getElem hA, List.take_succ_eq_append_getElem hB, h]
  simp [mrow, hA, hB] at e
  rw [e]

set_option maxHeartbeats 1000000 in
theorem Try.eqIntSS_ok (A B : List (List Int)) (hA : A.length ≤ 1048576) (hB : B.length ≤ 1048576) (rA : ∀ i, i < A.length → (mrow A i).length ≤ 1048576) (rB : ∀ i, i < B.length → (mrow B i).length ≤ 1048576) : PCall Try.prog 22 [rr A, rr B] (.val (.bool (decide (A = B)))) := by
  refine FCall.pcall (R := fun r _ => r = .val (.bool (decide (A = B)))) ?_ 0 (by rintro r H rfl; exact view_bool)
  refine FCall.of_body Try.func22 rfl (by kernel_rfl) (by simp [Try.ntmps22]) ?_
  refine SW_of_vc Try.mixed _ _ _ (by kernel_rfl) ?_
  by_cases hl : A.length = B.length
  · simp (disch := omega) only [Try.ntmps22, Try.results22, go_sem, Nat.reduceLT, Nat.reduceLeDiff, Nat.reduceEqDiff, Nat.reduceAdd, Nat.reduceSub, Nat.reduceMul, reduceIte, ↓reduceIte, reduceCtorEq, Int.reduceToNat, Int.reduceLE, Int.reduceLT, Int.reduceNeg, Int.reduceSub, Int.reduceAdd, Int.reduceMul, rr_eq]
    refine LoopW.loop (fun k : Nat => ⟨ofL [(0, rr A), (1, rr B), (5, .val (.int .i64 k))], hp [] 0⟩) (fun k => k ≤ A.length ∧ A.take k = B.take k) (fun k => A.length - k) 0 ⟨by omega, by simp⟩ (Wk.of (by simp only [go_sem, ↓List.forall_mem_cons, List.not_mem_nil, false_implies, implies_true, and_true, true_and, and_self, Nat.reduceEqDiff, reduceIte, ↓reduceIte, ri_eq, Int.natCast_add, Int.cast_ofNat_Int, rr_eq]; try simp) rfl) ?_
    rintro k ⟨hk, hkk⟩
    refine SW_of_vc Try.mixed _ _ _ (by kernel_rfl) ?_
    by_cases hlt : k < A.length
    · have hq := Try.eqIntS_ok (mrow A k) (mrow B k) (by have := rA k hlt; omega) (by have := rB k (by omega); omega)
      by_cases he : mrow A k = mrow B k
      · have he' : (mrow A k == mrow B k) = true := by simp [he]
        rw [he'] at hq
        simp (disch := omega) only [Try.ntmps22, Try.results22, go_sem, Nat.reduceLT, Nat.reduceLeDiff, Nat.reduceEqDiff, Nat.reduceAdd, Nat.reduceSub, Nat.reduceMul, reduceIte, ↓reduceIte, reduceCtorEq, Int.reduceToNat, Int.reduceLE, Int.reduceLT, Int.reduceNeg, Int.reduceSub, Int.reduceAdd, Int.reduceMul, rr_eq, rows_get]
        refine hq.callDV 0 (viewL_cons_of (view_rowL (by first | rfl | simp [marks_length, canon_length] | omega)) (viewL_cons_of (view_rowL (by first | rfl | simp [marks_length, canon_length] | omega)) viewL_nil_of)) ?_
        simp (disch := omega) only [Try.ntmps22, Try.results22, go_sem, Nat.reduceLT, Nat.reduceLeDiff, Nat.reduceEqDiff, Nat.reduceAdd, Nat.reduceSub, Nat.reduceMul, reduceIte, ↓reduceIte, reduceCtorEq, Int.reduceToNat, Int.reduceLE, Int.reduceLT, Int.reduceNeg, Int.reduceSub, Int.reduceAdd, Int.reduceMul, rr_eq]
        exact ⟨k + 1, ⟨by omega, mtake_succ hlt (by omega) hkk he⟩, by omega, Wk.of (by simp only [go_sem, ↓List.forall_mem_cons, List.not_mem_nil, false_implies, implies_true, and_true, true_and, and_self, Nat.reduceEqDiff, reduceIte, ↓reduceIte, ri_eq, Int.natCast_add, Int.cast_ofNat_Int, rr_eq]; try simp) rfl⟩
      · have he' : (mrow A k == mrow B k) = false := by simpa using he
        rw [he'] at hq
        simp (disch := omega) only [Try.ntmps22, Try.results22, go_sem, Nat.reduceLT, Nat.reduceLeDiff, Nat.reduceEqDiff, Nat.reduceAdd, Nat.reduceSub, Nat.reduceMul, reduceIte, ↓reduceIte, reduceCtorEq, Int.reduceToNat, Int.reduceLE, Int.reduceLT, Int.reduceNeg, Int.reduceSub, Int.reduceAdd, Int.reduceMul, rr_eq, rows_get]
        refine hq.callDV 0 (viewL_cons_of (view_rowL (by first | rfl | simp [marks_length, canon_length] | omega)) (viewL_cons_of (view_rowL (by first | rfl | simp [marks_length, canon_length] | omega)) viewL_nil_of)) ?_
        simp (disch := omega) only [Try.ntmps22, Try.results22, go_sem, Nat.reduceLT, Nat.reduceLeDiff, Nat.reduceEqDiff, Nat.reduceAdd, Nat.reduceSub, Nat.reduceMul, reduceIte, ↓reduceIte, reduceCtorEq, Int.reduceToNat, Int.reduceLE, Int.reduceLT, Int.reduceNeg, Int.reduceSub, Int.reduceAdd, Int.reduceMul, rr_eq]
        refine Fin.val ?_
        have : A ≠ B := fun e => he (by rw [e])
        simp [this]
    · simp (disch := omega) only [Try.ntmps22, Try.results22, go_sem, Nat.reduceLT, Nat.reduceLeDiff, Nat.reduceEqDiff, Nat.reduceAdd, Nat.reduceSub, Nat.reduceMul, reduceIte, ↓reduceIte, reduceCtorEq, Int.reduceToNat, Int.reduceLE, Int.reduceLT, Int.reduceNeg, Int.reduceSub, Int.reduceAdd, Int.reduceMul, rr_eq]
      refine Fin.val ?_
      have h1 : A.take k = A := List.take_of_length_le (by omega)
      have h2 : B.take k = B := List.take_of_length_le (by omega)
      rw [h1, h2] at hkk
      simp [hkk]
  · simp (disch := omega) only [Try.ntmps22, Try.results22, go_sem, Nat.reduceLT, Nat.reduceLeDiff, Nat.reduceEqDiff, Nat.reduceAdd, Nat.reduceSub, Nat.reduceMul, reduceIte, ↓reduceIte, reduceCtorEq, Int.reduceToNat, Int.reduceLE, Int.reduceLT, Int.reduceNeg, Int.reduceSub, Int.reduceAdd, Int.reduceMul, rr_eq]
    refine Fin.val ?_
    have : A ≠ B := fun e => hl (by rw [e])
    simp [this]
end Go.Sh
