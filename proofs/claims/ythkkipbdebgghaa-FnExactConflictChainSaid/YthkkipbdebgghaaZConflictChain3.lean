/-
  Texts put together: K3, N2, N3, N4, N5, M0, G2, S1, S2, S3, AF5, AF6, X1, Z1, D3, J1, J2, C4, Bits, C5. What each proves stands at its own head, with its conditions.
-/
import Derived.Test.YthkkipbdebgghaaZConflictChain2

/-
  What comes in as a matrix: its measures.
-/
namespace Go.Sh
set_option linter.unusedSimpArgs false
set_option linter.unusedVariables false
open Go Go.Proofs

theorem mrow_le {M : List (List Int)} {i : Nat} (h : i < M.length) : ((mrow M i).length : Int) ≤ msum M M.length := by
  have h1 := msum_succ h
  have h2 := msum_nonneg M i
  have h3 := msum_mono (M := M) (k := i + 1) (j := M.length) (by omega) (Nat.le_refl _)
  omega
theorem mrow_max {M : List (List Int)} (hw : (∀ l ∈ M, (∀ n ∈ l, i64R n) ∧ l.length ≤ maxLen) ∧ M.length ≤ maxLen) : M.length ≤ 9223372036854775807 ∧ ∀ i, i < M.length → (mrow M i).length ≤ 9223372036854775807 := by
  refine ⟨hw.2, fun i hi => ?_⟩
  have := (hw.1 M[i] (List.getElem_mem hi)).2
  have e : mrow M i = M[i] := by simp [mrow, hi]
  rw [e]
  exact this
end Go.Sh

/-
  Contracts: a square of zeros; the components of a graph of positive weights. Of the program.
-/
namespace Go.Sh
set_option linter.unusedSimpArgs false
set_option linter.unusedVariables false
open Go Go.Proofs

def zs (n : Nat) : List (List Int) := List.replicate n (List.replicate n 0)
theorem zs_length (n : Nat) : (zs n).length = n := by simp [zs]
theorem zs_row {n i : Nat} (h : i < n) : mrow (zs n) i = List.replicate n 0 := by simp [zs, mrow, h]
theorem zs_at {n i k : Nat} : mat (zs n) i k = 0 := by
  simp only [zs, mat, mrow, List.getD_eq_getElem?_getD, List.getElem?_replicate]
  by_cases h : i < n
  · by_cases h2 : k < n <;> simp [h, h2]
  · simp [h]
def outerQ (n k : Nat) : List SV := (List.range n).map fun i => if i < k then .own (i + 1) 0 n n 1 true else .val (.slice none 0 0)
theorem outerQ_length (n k : Nat) : (outerQ n k).length = n := by simp [outerQ]
theorem outerQ_zero (n : Nat) : outerQ n 0 = List.replicate n (.val (.slice none 0 0)) := by
  apply List.ext_getElem <;> simp [outerQ]
theorem outerQ_get {n k i : Nat} (h : i < n) : (outerQ n k)[i]? = some (if i < k then .own (i + 1) 0 n n 1 true else .val (.slice none 0 0)) := by
  simp only [outerQ, List.getElem?_map]
  rw [List.getElem?_range h]; rfl
theorem outerQ_set {n k : Nat} (h : k < n) : (outerQ n k).set k (.own (k + 1) 0 n n 1 true) = outerQ n (k + 1) := by
  apply List.ext_getElem?
  intro i
  by_cases hi : i < n
  · rw [outerQ_get hi, List.getElem?_set, outerQ_length, outerQ_get hi]
    by_cases hk : k = i
    · subst hk; simp [h]
    · by_cases h1 : i < k
      · simp [hk, h1, show i < k + 1 by omega]
      · simp [hk, h1, show ¬ i < k + 1 by omega]
  · rw [List.getElem?_eq_none (by rw [List.length_set, outerQ_length]; omega), List.getElem?_eq_none (by rw [outerQ_length]; omega)]
def HQ (n k : Nat) : Heap := ⟨fun x => if x = 0 then some ⟨outerQ n k, true⟩ else if x ≤ k then some ⟨ints (List.replicate n 0), true⟩ else none, k + 1⟩
def HQp (n k : Nat) : Heap := (HQ n k).push ⟨ints (List.replicate n 0), true⟩
theorem HQ_nb (n k : Nat) : (HQ n k).nb = k + 1 := rfl
theorem HQ_map (n k : Nat) : (HQ n k).map 0 = some ⟨outerQ n k, true⟩ := rfl
theorem HQp_map (n k : Nat) : (HQp n k).map 0 = some ⟨outerQ n k, true⟩ := by
  simp only [HQp, Heap.push, HQ]
  rw [if_neg (by omega)]
  rfl
theorem HQp_set {n k : Nat} : (HQp n k).set 0 (some ⟨outerQ n (k + 1), true⟩) = HQ n (k + 1) := by
  refine Heap.ext' (fun x => ?_) rfl
  simp only [HQp, HQ, Heap.push, Heap.set]
  by_cases h0 : x = 0
  · simp [h0]
  · by_cases h1 : x = k + 1
    · simp [h1]
    · by_cases h2 : x ≤ k
      · simp [h0, h1, h2, show x ≤ k + 1 by omega]
      · simp [h0, h1, h2, show ¬ x ≤ k + 1 by omega]
theorem HQ_zero (n : Nat) : HQ n 0 = hp [(0, ⟨List.replicate n (.val (.slice none 0 0)), true⟩)] 1 := by
  refine Heap.ext' (fun x => ?_) rfl
  simp only [HQ, hp, hmap, outerQ_zero]
  by_cases h0 : x = 0
  · simp [h0]
  · simp [h0]
theorem outerQ_nr (n k : Nat) : noRowL (outerQ n k) = true := by
  unfold outerQ
  generalize List.range n = l
  induction l with
  | nil => rfl
  | cons a l ih =>
    simp only [List.map_cons, noRowL, ih, Bool.and_true]
    split <;> rfl
theorem HQ_nr (n k : Nat) : nrHeap (HQ n k) := by
  intro b blk hb
  simp only [HQ] at hb
  split at hb
  · simp at hb; subst hb; exact outerQ_nr n k
  · split at hb
    · simp at hb; subst hb; exact noRowL_ints _
    · simp at hb
theorem HQ_res (n : Nat) : MatRes (mi (zs n)) (.own 0 0 n n 1 true) (HQ n n) := by
  have hl : (mi (zs n)).length = n := by rw [mi_length, zs_length]
  refine ⟨0, 0, n, true, _, by rw [hl], HQ_map n n, by rw [hl, outerQ_length]; omega, mi_vals _, fun i => i + 1, fun _ => 0, fun i i' _ _ h => by simpa using h, fun i _ => by simp, fun i hi => ?_⟩
  rw [hl] at hi
  have hr : rowAt (mi (zs n)) i = ints (List.replicate n 0) := by rw [mi_row (by rwa [zs_length]), zs_row hi]
  refine ⟨n, true, ⟨ints (List.replicate n 0), true⟩, ?_, ?_, ?_, ?_⟩
  · rw [hr, Nat.zero_add, outerQ_get hi, if_pos hi, ints_length, List.length_replicate]
  · simp only [HQ]
    rw [if_neg (by omega), if_pos (by omega)]
  · rw [hr]; simp
  · rw [hr]; simp

set_option maxHeartbeats 1000000 in
theorem Try.square_f (n : Nat) (hn : n ≤ 1048576) : FCall Try.prog 120 [.val (.int .i64 n)] (MatRes (mi (zs n))) := by
  refine FCall.of_body Try.func120 rfl (by kernel_rfl) (by simp [Try.ntmps120]) ?_
  refine SW_of_vc Try.mixed _ _ _ (by kernel_rfl) ?_
  simp (disch := omega) only [Try.ntmps120, Try.results120, go_sem, Nat.reduceLT, Nat.reduceLeDiff, Nat.reduceEqDiff, Nat.reduceAdd, Nat.reduceSub, Nat.reduceMul, reduceIte, ↓reduceIte, reduceCtorEq, Int.reduceToNat, Int.reduceLE, Int.reduceLT, Int.reduceNeg, Int.reduceSub, Int.reduceAdd, Int.reduceMul]
  refine LoopW.loop (fun k : Nat => ⟨ofL [(0, .val (.int .i64 n)), (3, .own 0 0 n n 1 true), (8, .val (.int .i64 n)), (9, .val (.int .i64 k))], HQ n k⟩) (fun k => k ≤ n) (fun k => n - k) 0 (by omega)
    (Wk.of (by simp only [go_sem, ↓List.forall_mem_cons, List.not_mem_nil, false_implies, implies_true, and_true, true_and, and_self, Nat.reduceEqDiff, reduceIte, ↓reduceIte, ri_eq, Int.natCast_add, Int.cast_ofNat_Int]; try simp) (by rw [HQ_zero])) ?_
  intro k hk
  have ho := outerQ_length n k
  refine SW_of_vc Try.mixed _ _ _ (by kernel_rfl) ?_
  by_cases hlt : k < n
  · have hos := outerQ_set hlt
    have e : (HQ n k).push ⟨ints (List.replicate n 0), true⟩ = HQp n k := rfl
    simp (disch := omega) only [Try.ntmps120, Try.results120, go_sem, Nat.reduceLT, Nat.reduceLeDiff, Nat.reduceEqDiff, Nat.reduceAdd, Nat.reduceSub, Nat.reduceMul, reduceIte, ↓reduceIte, reduceCtorEq, Int.reduceToNat, Int.reduceLE, Int.reduceLT, Int.reduceNeg, Int.reduceSub, Int.reduceAdd, Int.reduceMul, HQ_nb, e, HQp_map, ho, hos, HQp_set]
    exact ⟨k + 1, by omega, by omega, Wk.of (by simp only [go_sem, ↓List.forall_mem_cons, List.not_mem_nil, false_implies, implies_true, and_true, true_and, and_self, Nat.reduceEqDiff, reduceIte, ↓reduceIte, ri_eq, Int.natCast_add, Int.cast_ofNat_Int]; try simp) rfl⟩
  · obtain rfl : k = n := by omega
    simp (disch := omega) only [Try.ntmps120, Try.results120, go_sem, Nat.reduceLT, Nat.reduceLeDiff, Nat.reduceEqDiff, Nat.reduceAdd, Nat.reduceSub, Nat.reduceMul, reduceIte, ↓reduceIte, reduceCtorEq, Int.reduceToNat, Int.reduceLE, Int.reduceLT, Int.reduceNeg, Int.reduceSub, Int.reduceAdd, Int.reduceMul]
    exact ⟨HQ k k, ⟨rfl, fun _ => .inr rfl⟩, rfl, HQ_nr k _, HQ_res k⟩
theorem Try.square_one (n : Nat) (hn : n ≤ 1048576) : FCall Try.prog 120 [.val (.int .i64 n)] (MatOne (mi (zs n))) := (Try.square_f n hn).mat

/-! ### The search -/
def pB (M : List (List Int)) (x y : Nat) : Bool := decide (0 < mat M x y)
theorem WM.sym {M : List (List Int)} (h : WM M) : ∀ x y, x < M.length → y < M.length → pB M x y = true → pB M y x = true := by
  intro x y hx hy hb
  have := (h.2.2.1 x y hx hy).2
  rw [pB] at hb ⊢
  rw [← this]; exact hb
def vClos : SV := .clos (.func 177) [] [.optr 3 0, .optr 2 0, .optr 0 0, .optr 4 0]
def vHeap (M : List (List Int)) (O : List Int) (c : Int) : List (Nat × Blk) := [(4, ⟨[vClos], true⟩), (3, ⟨[.val (.int .i64 c)], true⟩), (2, ⟨[.own 1 0 M.length M.length 1 true], true⟩), (1, ⟨ints O, true⟩), (0, ⟨[rr M], true⟩)]

set_option maxHeartbeats 4000000 in
theorem Try.visit_ok {M : List (List Int)} (hw : WM M) {c : Int} (hc : 0 ≤ c) : ∀ (fu : Nat) (O : List Int) (i : Nat), O.length = M.length → i < M.length → O.getD i 0 < 0 → negs M.length O ≤ fu →
    CallS Try.prog 177 [.val (.int .i64 i), .optr 3 0, .optr 2 0, .optr 0 0, .optr 4 0] (hp (vHeap M O c) 5) (fun r H' => ∃ O', r = .tup [] ∧ H' = hp (vHeap M O' c) 5 ∧ DfsL M.length (pB M) c i O O')
  | 0, O, i, hl, hi, h0, hf => by have := negs_pos hi h0; omega
  | fu + 1, O, i, hl, hi, h0, hf => by
    have hln := hw.1
    have hri := hw.2.1 i hi
    refine CallS.of_body Try.func177 rfl (by kernel_rfl) (by simp [Try.ntmps177]) ?_
    refine SW_of_vc Try.mixed _ _ _ (by kernel_rfl) ?_
    rw [vHeap]
    simp (disch := omega) only [Try.ntmps177, Try.results177, go_sem, Nat.reduceLT, Nat.reduceLeDiff, Nat.reduceEqDiff, Nat.reduceAdd, Nat.reduceSub, Nat.reduceMul, reduceIte, ↓reduceIte, reduceCtorEq, Int.reduceToNat, Int.reduceLE, Int.reduceLT, Int.reduceNeg, Int.reduceSub, Int.reduceAdd, Int.reduceMul, rr_eq, hl, rows_get, hri]
    refine LoopW.loop (fun p : Nat × List Int => ⟨ofL [(1, .optr 3 0), (2, .optr 2 0), (3, .optr 0 0), (4, .optr 4 0), (15, .row M.length false (ints (mrow M i))), (16, .val (.int .i64 M.length)), (17, .val (.int .i64 p.1))], hp (vHeap M p.2 c) 5⟩)
      (fun p => p.1 ≤ M.length ∧ DfsK M.length (pB M) c i O p.1 p.2) (fun p => M.length - p.1) (0, O.set i c) ⟨by simp, .start hl hi h0⟩ (Wk.of (by simp only [go_sem, ↓List.forall_mem_cons, List.not_mem_nil, false_implies, implies_true, and_true, true_and, and_self, Nat.reduceEqDiff, reduceIte, ↓reduceIte, ri_eq, Int.natCast_add, Int.cast_ofNat_Int, rr_eq, hri]; try simp) rfl) ?_
    rintro ⟨k, O1⟩ ⟨hk, hd⟩
    simp only at hk hd
    have hl1 := hd.len
    refine SW_of_vc Try.mixed _ _ _ (by kernel_rfl) ?_
    rw [vHeap]
    by_cases hlt : k < M.length
    · have g1 : (ints (mrow M i))[k]? = some (.val (.int .i64 (mat M i k))) := ints_get' hri hlt
      have g2 : (ints O1)[k]? = some (.val (.int .i64 (O1.getD k 0))) := ints_get' hl1 hlt
      obtain ⟨a, ha⟩ : ∃ a, mat M i k = a := ⟨_, rfl⟩
      obtain ⟨b, hb⟩ : ∃ b, O1.getD k 0 = b := ⟨_, rfl⟩
      have hpb : pB M i k = decide (0 < a) := by rw [pB, ha]
      rw [ha] at g1
      rw [hb] at g2
      by_cases h1 : 0 < a
      · by_cases h2 : b < 0
        · have w := Try.visit_ok hw hc fu O1 k hl1 hlt (by omega) (by have := hd.negs hc hi h0; omega)
          rw [vHeap, vClos] at w
          simp (disch := omega) only [Try.ntmps177, Try.results177, go_sem, Nat.reduceLT, Nat.reduceLeDiff, Nat.reduceEqDiff, Nat.reduceAdd, Nat.reduceSub, Nat.reduceMul, reduceIte, ↓reduceIte, reduceCtorEq, Int.reduceToNat, Int.reduceLE, Int.reduceLT, Int.reduceNeg, Int.reduceSub, Int.reduceAdd, Int.reduceMul, vClos, g1, g2, hl1, ints_length]
          refine w.callX ?_
          rintro r H' ⟨O2, rfl, rfl, hd2⟩
          simp (disch := omega) only [Try.ntmps177, Try.results177, go_sem, Nat.reduceLT, Nat.reduceLeDiff, Nat.reduceEqDiff, Nat.reduceAdd, Nat.reduceSub, Nat.reduceMul, reduceIte, ↓reduceIte, reduceCtorEq, Int.reduceToNat, Int.reduceLE, Int.reduceLT, Int.reduceNeg, Int.reduceSub, Int.reduceAdd, Int.reduceMul]
          exact ⟨(k + 1, O2), ⟨hlt, hd.step hc hi hlt (by rw [hpb]; exact decide_eq_true h1) (by omega) hd2⟩, by show M.length - (k + 1) < M.length - k; omega, Wk.of (by simp only [go_sem, ↓List.forall_mem_cons, List.not_mem_nil, false_implies, implies_true, and_true, true_and, and_self, Nat.reduceEqDiff, reduceIte, ↓reduceIte, ri_eq, Int.natCast_add, Int.cast_ofNat_Int]; try simp) rfl⟩
        · simp (disch := omega) only [Try.ntmps177, Try.results177, go_sem, Nat.reduceLT, Nat.reduceLeDiff, Nat.reduceEqDiff, Nat.reduceAdd, Nat.reduceSub, Nat.reduceMul, reduceIte, ↓reduceIte, reduceCtorEq, Int.reduceToNat, Int.reduceLE, Int.reduceLT, Int.reduceNeg, Int.reduceSub, Int.reduceAdd, Int.reduceMul, vClos, g1, g2, hl1, ints_length]
          exact ⟨(k + 1, O1), ⟨hlt, hd.skip (fun _ => by omega)⟩, by show M.length - (k + 1) < M.length - k; omega, Wk.of (by simp only [go_sem, ↓List.forall_mem_cons, List.not_mem_nil, false_implies, implies_true, and_true, true_and, and_self, Nat.reduceEqDiff, reduceIte, ↓reduceIte, ri_eq, Int.natCast_add, Int.cast_ofNat_Int]; try simp) rfl⟩
      · simp (disch := omega) only [Try.ntmps177, Try.results177, go_sem, Nat.reduceLT, Nat.reduceLeDiff, Nat.reduceEqDiff, Nat.reduceAdd, Nat.reduceSub, Nat.reduceMul, reduceIte, ↓reduceIte, reduceCtorEq, Int.reduceToNat, Int.reduceLE, Int.reduceLT, Int.reduceNeg, Int.reduceSub, Int.reduceAdd, Int.reduceMul, vClos, g1, g2, hl1, ints_length]
        exact ⟨(k + 1, O1), ⟨hlt, hd.skip (fun h => by rw [hpb] at h; exact absurd (of_decide_eq_true h) h1)⟩, by show M.length - (k + 1) < M.length - k; omega, Wk.of (by simp only [go_sem, ↓List.forall_mem_cons, List.not_mem_nil, false_implies, implies_true, and_true, true_and, and_self, Nat.reduceEqDiff, reduceIte, ↓reduceIte, ri_eq, Int.natCast_add, Int.cast_ofNat_Int]; try simp) rfl⟩
    · simp (disch := omega) only [Try.ntmps177, Try.results177, go_sem, Nat.reduceLT, Nat.reduceLeDiff, Nat.reduceEqDiff, Nat.reduceAdd, Nat.reduceSub, Nat.reduceMul, reduceIte, ↓reduceIte, reduceCtorEq, Int.reduceToNat, Int.reduceLE, Int.reduceLT, Int.reduceNeg, Int.reduceSub, Int.reduceAdd, Int.reduceMul]
      exact ⟨O1, rfl, hd.final (by omega)⟩

def fillN (n k : Nat) : List Int := List.replicate k (-1) ++ List.replicate (n - k) 0
theorem fillN_zero (n : Nat) : fillN n 0 = List.replicate n 0 := by simp [fillN]
theorem fillN_length {n k : Nat} (h : k ≤ n) : (fillN n k).length = n := by simp [fillN]; omega
theorem fillN_set {n k : Nat} (h : k < n) : (fillN n k).set k (-1) = fillN n (k + 1) := by
  apply List.ext_getElem?
  intro i
  simp [fillN, List.getElem?_set, List.getElem?_append, List.getElem?_replicate]
  grind
theorem fillN_all (n : Nat) : fillN n n = List.replicate n (-1) := by simp [fillN]

theorem Fin.imp {R R' : SV → Heap → Prop} {r : SV} {H : Heap} (h : ∀ r H, R r H → R' r H) (f : Fin R r H) : Fin R' r H := by
  obtain ⟨H2, a, b, c, d⟩ := f
  exact ⟨H2, a, b, c, h _ _ d⟩
set_option maxHeartbeats 4000000 in
theorem Try.implPC_f (M : List (List Int)) (hM : M.length ≤ 1048576) (hR : ∀ i, i < M.length → (mrow M i).length ≤ 1048576) (hw : WM M) : FCall Try.prog 141 [rr M] (fun r H => CompL M.length (pB M) (comp M.length (pB M)) ∧ FlatRes M.length 1 (ints (comp M.length (pB M))) r H) := by
  have hln := hw.1
  have w1 := Try.implIsWM_ok M hM hR
  rw [isWM_t hw] at w1
  refine FCall.of_body Try.func141 rfl (by kernel_rfl) (by simp [Try.ntmps141]) ?_
  refine SW_of_vc Try.mixed _ _ _ (by kernel_rfl) ?_
  simp (disch := omega) only [Try.ntmps141, Try.results141, go_sem, Nat.reduceLT, Nat.reduceLeDiff, Nat.reduceEqDiff, Nat.reduceAdd, Nat.reduceSub, Nat.reduceMul, reduceIte, ↓reduceIte, reduceCtorEq, Int.reduceToNat, Int.reduceLE, Int.reduceLT, Int.reduceNeg, Int.reduceSub, Int.reduceAdd, Int.reduceMul, rr_eq]
  refine w1.callV 0 (viewL_cons_of (view_row) viewL_nil_of) ?_
  simp (disch := omega) only [Try.ntmps141, Try.results141, go_sem, Nat.reduceLT, Nat.reduceLeDiff, Nat.reduceEqDiff, Nat.reduceAdd, Nat.reduceSub, Nat.reduceMul, reduceIte, ↓reduceIte, reduceCtorEq, Int.reduceToNat, Int.reduceLE, Int.reduceLT, Int.reduceNeg, Int.reduceSub, Int.reduceAdd, Int.reduceMul, rr_eq]
  refine LoopW.loop (fun k : Nat => ⟨ofL [(1, .optr 0 0), (3, .optr 2 0), (15, .val (.int .i64 M.length)), (16, .val (.int .i64 k))], hp [(2, ⟨[.own 1 0 M.length M.length 1 true], true⟩), (1, ⟨ints (fillN M.length k), true⟩), (0, ⟨[rr M], true⟩)] 3⟩) (fun k => k ≤ M.length) (fun k => M.length - k) 0 (by omega)
    (Wk.of (by simp only [go_sem, ↓List.forall_mem_cons, List.not_mem_nil, false_implies, implies_true, and_true, true_and, and_self, Nat.reduceEqDiff, reduceIte, ↓reduceIte, ri_eq, Int.natCast_add, Int.cast_ofNat_Int]; try simp) (by rw [fillN_zero]; rfl)) ?_
  intro k hk
  have hfl := fillN_length hk
  refine SW_of_vc Try.mixed _ _ _ (by kernel_rfl) ?_
  by_cases hlt : k < M.length
  · have hfs := fillN_set hlt
    simp (disch := omega) only [Try.ntmps141, Try.results141, go_sem, Nat.reduceLT, Nat.reduceLeDiff, Nat.reduceEqDiff, Nat.reduceAdd, Nat.reduceSub, Nat.reduceMul, reduceIte, ↓reduceIte, reduceCtorEq, Int.reduceToNat, Int.reduceLE, Int.reduceLT, Int.reduceNeg, Int.reduceSub, Int.reduceAdd, Int.reduceMul, rr_eq, hfl, hfs]
    exact ⟨k + 1, by omega, by omega, Wk.of (by simp only [go_sem, ↓List.forall_mem_cons, List.not_mem_nil, false_implies, implies_true, and_true, true_and, and_self, Nat.reduceEqDiff, reduceIte, ↓reduceIte, ri_eq, Int.natCast_add, Int.cast_ofNat_Int]; try simp) rfl⟩
  · obtain rfl : k = M.length := by omega
    simp (disch := omega) only [Try.ntmps141, Try.results141, go_sem, Nat.reduceLT, Nat.reduceLeDiff, Nat.reduceEqDiff, Nat.reduceAdd, Nat.reduceSub, Nat.reduceMul, reduceIte, ↓reduceIte, reduceCtorEq, Int.reduceToNat, Int.reduceLE, Int.reduceLT, Int.reduceNeg, Int.reduceSub, Int.reduceAdd, Int.reduceMul, rr_eq, fillN_all]
    refine LoopW.loop (fun p : Nat × List Int × Int => ⟨ofL [(3, .optr 2 0), (5, .optr 3 0), (6, .optr 4 0), (25, .val (.int .i64 M.length)), (26, .val (.int .i64 p.1))], hp (vHeap M p.2.1 p.2.2) 5⟩)
      (fun p => p.1 ≤ M.length ∧ PartL M.length (pB M) p.1 p.2.2 p.2.1) (fun p => M.length - p.1) (0, List.replicate M.length (-1), 0) ⟨by simp, .zero _ _⟩ (Wk.of (by simp only [go_sem, ↓List.forall_mem_cons, List.not_mem_nil, false_implies, implies_true, and_true, true_and, and_self, Nat.reduceEqDiff, reduceIte, ↓reduceIte, ri_eq, Int.natCast_add, Int.cast_ofNat_Int]; try simp) rfl) ?_
    rintro ⟨i, O, c⟩ ⟨hi, hpl⟩
    simp only at hi hpl
    have hl := hpl.len
    have hc0 := hpl.c0
    have hci := hpl.ci
    refine SW_of_vc Try.mixed _ _ _ (by kernel_rfl) ?_
    rw [vHeap]
    by_cases hlt : i < M.length
    · have g2 : (ints O)[i]? = some (.val (.int .i64 (O.getD i 0))) := ints_get' hl hlt
      obtain ⟨b, hb⟩ : ∃ b, O.getD i 0 = b := ⟨_, rfl⟩
      rw [hb] at g2
      by_cases h2 : b < 0
      · have w := Try.visit_ok hw hc0 (negs M.length O) O i hl hlt (by omega) (Nat.le_refl _)
        rw [vHeap, vClos] at w
        simp (disch := omega) only [Try.ntmps141, Try.results141, go_sem, Nat.reduceLT, Nat.reduceLeDiff, Nat.reduceEqDiff, Nat.reduceAdd, Nat.reduceSub, Nat.reduceMul, reduceIte, ↓reduceIte, reduceCtorEq, Int.reduceToNat, Int.reduceLE, Int.reduceLT, Int.reduceNeg, Int.reduceSub, Int.reduceAdd, Int.reduceMul, vClos, g2, hl]
        refine w.callX ?_
        rintro r H' ⟨O2, rfl, rfl, hd⟩
        rw [vHeap]
        simp (disch := omega) only [Try.ntmps141, Try.results141, go_sem, Nat.reduceLT, Nat.reduceLeDiff, Nat.reduceEqDiff, Nat.reduceAdd, Nat.reduceSub, Nat.reduceMul, reduceIte, ↓reduceIte, reduceCtorEq, Int.reduceToNat, Int.reduceLE, Int.reduceLT, Int.reduceNeg, Int.reduceSub, Int.reduceAdd, Int.reduceMul, vClos]
        exact ⟨(i + 1, O2, c + 1), ⟨hlt, hpl.step hw.sym hlt (by omega) (hd.newL hw.sym hpl hlt (by omega))⟩, by show M.length - (i + 1) < M.length - i; omega, Wk.of (by simp only [go_sem, ↓List.forall_mem_cons, List.not_mem_nil, false_implies, implies_true, and_true, true_and, and_self, Nat.reduceEqDiff, reduceIte, ↓reduceIte, ri_eq, Int.natCast_add, Int.cast_ofNat_Int]; try simp) rfl⟩
      · simp (disch := omega) only [Try.ntmps141, Try.results141, go_sem, Nat.reduceLT, Nat.reduceLeDiff, Nat.reduceEqDiff, Nat.reduceAdd, Nat.reduceSub, Nat.reduceMul, reduceIte, ↓reduceIte, reduceCtorEq, Int.reduceToNat, Int.reduceLE, Int.reduceLT, Int.reduceNeg, Int.reduceSub, Int.reduceAdd, Int.reduceMul, vClos, g2, hl]
        exact ⟨(i + 1, O, c), ⟨hlt, hpl.skip (by omega)⟩, by show M.length - (i + 1) < M.length - i; omega, Wk.of (by simp only [go_sem, ↓List.forall_mem_cons, List.not_mem_nil, false_implies, implies_true, and_true, true_and, and_self, Nat.reduceEqDiff, reduceIte, ↓reduceIte, ri_eq, Int.natCast_add, Int.cast_ofNat_Int]; try simp) rfl⟩
    · have hC := hpl.final (by omega)
      have hc2 := hC.comp
      rw [← hC.eq] at hc2 ⊢
      simp (disch := omega) only [Try.ntmps141, Try.results141, go_sem, Nat.reduceLT, Nat.reduceLeDiff, Nat.reduceEqDiff, Nat.reduceAdd, Nat.reduceSub, Nat.reduceMul, reduceIte, ↓reduceIte, reduceCtorEq, Int.reduceToNat, Int.reduceLE, Int.reduceLT, Int.reduceNeg, Int.reduceSub, Int.reduceAdd, Int.reduceMul, vClos]
      exact Fin.imp (fun _ _ h => ⟨hc2, h⟩) (fin_ints hl.symm (by rw [hp_map]; simp only [hmap_cons]; rfl))
theorem Try.implPC_nil (M : List (List Int)) (hM : M.length ≤ 1048576) (hR : ∀ i, i < M.length → (mrow M i).length ≤ 1048576) (hw : ¬ WM M) : FCall Try.prog 141 [rr M] (fun r _ => r = .val (.slice none 0 0)) := by
  have w1 := Try.implIsWM_ok M hM hR
  rw [isWM_f hw] at w1
  refine FCall.of_body Try.func141 rfl (by kernel_rfl) (by simp [Try.ntmps141]) ?_
  refine SW_of_vc Try.mixed _ _ _ (by kernel_rfl) ?_
  simp (disch := omega) only [Try.ntmps141, Try.results141, go_sem, Nat.reduceLT, Nat.reduceLeDiff, Nat.reduceEqDiff, Nat.reduceAdd, Nat.reduceSub, Nat.reduceMul, reduceIte, ↓reduceIte, reduceCtorEq, Int.reduceToNat, Int.reduceLE, Int.reduceLT, Int.reduceNeg, Int.reduceSub, Int.reduceAdd, Int.reduceMul, rr_eq]
  refine w1.callV 0 (viewL_cons_of (view_row) viewL_nil_of) ?_
  simp (disch := omega) only [Try.ntmps141, Try.results141, go_sem, Nat.reduceLT, Nat.reduceLeDiff, Nat.reduceEqDiff, Nat.reduceAdd, Nat.reduceSub, Nat.reduceMul, reduceIte, ↓reduceIte, reduceCtorEq, Int.reduceToNat, Int.reduceLE, Int.reduceLT, Int.reduceNeg, Int.reduceSub, Int.reduceAdd, Int.reduceMul, rr_eq]
  exact Fin.val rfl
end Go.Sh

/-
  Contracts: links, labels by rounds, the components of a graph of positive weights. Of the reference.
-/
namespace Go.Sh
set_option linter.unusedSimpArgs false
set_option linter.unusedVariables false
open Go Go.Proofs

def nrF (n : Nat) (l : List Nat) : List (Nat × List SV) := l.map fun x => (x, bools (List.replicate n false))
def bz (n : Nat) : List (List Bool) := List.replicate n (List.replicate n false)
theorem bz_length (n : Nat) : (bz n).length = n := by simp [bz]
theorem bz_row {n i : Nat} (h : i < n) : brow (bz n) i = List.replicate n false := by simp [bz, brow, h]
theorem bz_at {n i k : Nat} : bmat (bz n) i k = false := by
  simp only [bz, bmat, brow, List.getD_eq_getElem?_getD, List.getElem?_replicate]
  by_cases h : i < n
  · by_cases h2 : k < n <;> simp [h, h2]
  · simp [h]
theorem nrF_length (n : Nat) (l : List Nat) : (nrF n l).length = l.length := by simp [nrF]
theorem nrF_snd (n : Nat) : ∀ l : List Nat, (nrF n l).map (·.2) = List.replicate l.length (bools (List.replicate n false))
  | [] => rfl
  | x :: l => by
    have := nrF_snd n l
    simp only [nrF, List.map_cons, List.length_cons, List.replicate_succ] at this ⊢
    rw [this]
theorem nrF_snoc (n : Nat) (l : List Nat) (x : Nat) : nrF n (l ++ [x]) = nrF n l ++ [(x, bools (List.replicate n false))] := by simp [nrF]

set_option maxHeartbeats 1000000 in
theorem Try.l17Links_f (n : Nat) (hn : n ≤ 1048576) : FCall Try.prog 142 [.val (.int .i64 n)] (MatRes (mb (bz n))) := by
  refine FCall.of_body Try.func142 rfl (by kernel_rfl) (by simp [Try.ntmps142]) ?_
  refine SW_of_vc Try.mixed _ _ _ (by kernel_rfl) ?_
  simp (disch := omega) only [Try.ntmps142, Try.results142, go_sem, Nat.reduceLT, Nat.reduceLeDiff, Nat.reduceEqDiff, Nat.reduceAdd, Nat.reduceSub, Nat.reduceMul, reduceIte, ↓reduceIte, reduceCtorEq, Int.reduceToNat, Int.reduceLE, Int.reduceLT, Int.reduceNeg, Int.reduceSub, Int.reduceAdd, Int.reduceMul]
  refine LoopW.loop (fun p : List Nat × Nat × Nat => ⟨ofL [(0, .val (.int .i64 n)), (3, .own p.2.1 0 p.1.length p.1.length 1 false), (4, .val (.int .i64 p.1.length))], hx [.blk p.2.1 ⟨outerN true (nrF n p.1), false⟩, .rows true (nrF n p.1)] p.2.2⟩)
    (fun p => p.1.length ≤ n ∧ NrOk p.2.1 p.2.2 (nrF n p.1)) (fun p => n - p.1.length) ([], 0, 1) ⟨by simp, .nil (by simp)⟩ (Wk.ofX (by simp only [go_sem, ↓List.forall_mem_cons, List.not_mem_nil, false_implies, implies_true, and_true, true_and, and_self, Nat.reduceEqDiff, reduceIte, ↓reduceIte, ri_eq, Int.natCast_add, Int.cast_ofNat_Int]; try simp) (by simp [EntIn, nrF, outerN, hp, hmap]) (by simp [hp])) ?_
  rintro ⟨l, ob, nb⟩ ⟨hk, ho⟩
  simp only at hk ho
  have hob := ho.1
  refine SW_of_vc Try.mixed _ _ _ (by kernel_rfl) ?_
  have hl1 := outerN_length true (nrF n l)
  have hl2 := nrF_length n l
  have hl3 : (outerN true (nrF n l)).take l.length = outerN true (nrF n l) := List.take_of_length_le (by omega)
  by_cases hlt : l.length < n
  · simp (disch := omega) only [Try.ntmps142, Try.results142, go_sem, Nat.reduceLT, Nat.reduceLeDiff, Nat.reduceEqDiff, Nat.reduceAdd, Nat.reduceSub, Nat.reduceMul, reduceIte, ↓reduceIte, reduceCtorEq, Int.reduceToNat, Int.reduceLE, Int.reduceLT, Int.reduceNeg, Int.reduceSub, Int.reduceAdd, Int.reduceMul, hl1, hl2, hl3]
    have hlt' : ∀ p ∈ nrF n l, p.1 < nb := fun p hp => (ho.2.1 p hp).1
    have hne : ∀ p ∈ nrF n l, p.1 ≠ ob := fun p hp => (ho.2.1 p hp).2
    refine ⟨(l ++ [nb], nb + 1 + 1, nb + 1 + 1 + 1), ⟨by simp; omega, ?_⟩, by simp; omega, Wk.ofX (by simp only [go_sem, ↓List.forall_mem_cons, List.not_mem_nil, false_implies, implies_true, and_true, true_and, and_self, Nat.reduceEqDiff, reduceIte, ↓reduceIte, ri_eq, Int.natCast_add, Int.cast_ofNat_Int, List.length_append, List.length_singleton]; try simp) ?_ (by simp [hx])⟩
    · rw [nrF_snoc]
      exact ho.snoc (Nat.le_refl _) (by show nb ≤ nb + 1 + 1; omega) (by show nb ≠ nb + 1 + 1; omega) (by show nb < nb + 1 + 1 + 1; omega) (by show nb + 1 + 1 < nb + 1 + 1 + 1; omega)
    · simp only [List.forall_mem_cons]
      refine ⟨?_, ?_, by simp⟩
      · simp only [EntIn, hx_map, xmap_blk, if_pos, nrF_snoc, outerN_snoc, bools_length, List.length_replicate]
      · simp only [nrF_snoc]
        refine EntIn.snoc (((EntIn.skipC (EntIn.selfR ho.2.2) hne).skipR ?_).skipR ?_ |>.skipR ?_) ?_
        · intro p hp; have := hlt' p hp; omega
        · intro p hp; have := hlt' p hp; omega
        · intro p hp; have := hlt' p hp; omega
        · simp only [hx_map, xmap_blk]; rw [if_neg (by omega), if_neg (by omega), if_pos trivial, bools_replicate]
  · simp (disch := omega) only [Try.ntmps142, Try.results142, go_sem, Nat.reduceLT, Nat.reduceLeDiff, Nat.reduceEqDiff, Nat.reduceAdd, Nat.reduceSub, Nat.reduceMul, reduceIte, ↓reduceIte, reduceCtorEq, Int.reduceToNat, Int.reduceLE, Int.reduceLT, Int.reduceNeg, Int.reduceSub, Int.reduceAdd, Int.reduceMul, hl1, hl2, hl3]
    have hk : l.length = n := by omega
    have := fin_rows (H := hx [Ent.blk ob { cells := outerN true (nrF n l), ex := false }, Ent.rows true (nrF n l)] nb) (R := mb (bz n)) ho
      (fun p hp => by obtain ⟨x, _, rfl⟩ := List.mem_map.1 hp; exact bools_vals _) (by simp [hx, xmap])
      (EntIn.skipR (EntIn.selfR ho.2.2) (fun p hp => (ho.2.1 p hp).2)) (by rw [nrF_snd, hk]; simp [mb, bz])
    rw [nrF_length] at this
    exact this
theorem Try.l17Links_one (n : Nat) (hn : n ≤ 1048576) : FCall Try.prog 142 [.val (.int .i64 n)] (MatOne (mb (bz n))) := (Try.l17Links_f n hn).mat

theorem rep_snoc (k : Nat) (a : Int) : List.replicate k a ++ [a] = List.replicate (k + 1) a := by
  rw [List.replicate_succ']
set_option maxHeartbeats 4000000 in
theorem Try.l17Labels_f (n : Nat) (X : List (List Bool)) (hn : n ≤ 1048576) (hX : X.length = n) (hR : ∀ i, i < n → (brow X i).length = n) (hs : ∀ x y, x < n → y < n → bmat X x y = true → bmat X y x = true) :
    FCall Try.prog 143 [.val (.int .i64 n), rb X] (fun r H => CompL n (bmat X) (comp n (bmat X)) ∧ FlatRes n 1 (ints (comp n (bmat X))) r H) := by
  refine FCall.of_body Try.func143 rfl (by kernel_rfl) (by simp [Try.ntmps143]) ?_
  refine SW_of_vc Try.mixed _ _ _ (by kernel_rfl) ?_
  simp (disch := omega) only [Try.ntmps143, Try.results143, go_sem, Nat.reduceLT, Nat.reduceLeDiff, Nat.reduceEqDiff, Nat.reduceAdd, Nat.reduceSub, Nat.reduceMul, reduceIte, ↓reduceIte, reduceCtorEq, Int.reduceToNat, Int.reduceLE, Int.reduceLT, Int.reduceNeg, Int.reduceSub, Int.reduceAdd, Int.reduceMul, rb_eq]
  refine LoopW.loop (fun p : Nat × Nat × Nat => ⟨ofL [(0, .val (.int .i64 n)), (1, rb X), (5, .own p.2.1 0 p.1 p.1 1 false), (6, .val (.int .i64 p.1))], hp [(p.2.1, ⟨ints (List.replicate p.1 (-1)), false⟩)] p.2.2⟩) (fun p => p.1 ≤ n ∧ p.2.1 < p.2.2) (fun p => n - p.1) (0, 0, 1) ⟨by simp, by simp⟩
    (Wk.ofH (by simp only [go_sem, ↓List.forall_mem_cons, List.not_mem_nil, false_implies, implies_true, and_true, true_and, and_self, Nat.reduceEqDiff, reduceIte, ↓reduceIte, ri_eq, Int.natCast_add, Int.cast_ofNat_Int, rb_eq]; try simp) (by simp (disch := omega) only [go_sem, ↓List.forall_mem_cons, List.not_mem_nil, false_implies, implies_true, and_true, true_and, and_self, Nat.reduceEqDiff, reduceIte, ↓reduceIte, ri_eq, Int.natCast_add, Int.cast_ofNat_Int, if_pos, if_neg, Nat.reduceAdd, List.nil_append, List.replicate_zero, ints_nil]; try simp) (by simp [hp])) ?_
  rintro ⟨k, b, nb⟩ ⟨hk, hb⟩
  simp only at hk hb
  refine SW_of_vc Try.mixed _ _ _ (by kernel_rfl) ?_
  by_cases hlt : k < n
  · have hl := rep_snoc k (-1)
    have ht : (ints (List.replicate k (-1))).take k = ints (List.replicate k (-1)) := ints_take_of (by simp)
    simp (disch := omega) only [Try.ntmps143, Try.results143, go_sem, Nat.reduceLT, Nat.reduceLeDiff, Nat.reduceEqDiff, Nat.reduceAdd, Nat.reduceSub, Nat.reduceMul, reduceIte, ↓reduceIte, reduceCtorEq, Int.reduceToNat, Int.reduceLE, Int.reduceLT, Int.reduceNeg, Int.reduceSub, Int.reduceAdd, Int.reduceMul, rb_eq, List.length_replicate, ht]
    refine ⟨(k + 1, nb + 1, nb + 1 + 1), ⟨hlt, by simp⟩, by show n - (k + 1) < n - k; omega, ?_⟩
    exact Wk.ofH (by simp only [go_sem, ↓List.forall_mem_cons, List.not_mem_nil, false_implies, implies_true, and_true, true_and, and_self, Nat.reduceEqDiff, reduceIte, ↓reduceIte, ri_eq, Int.natCast_add, Int.cast_ofNat_Int, rb_eq]; try simp) (by simp (disch := omega) only [go_sem, ↓List.forall_mem_cons, List.not_mem_nil, false_implies, implies_true, and_true, true_and, and_self, Nat.reduceEqDiff, reduceIte, ↓reduceIte, ri_eq, Int.natCast_add, Int.cast_ofNat_Int, if_pos, if_neg, Nat.reduceAdd, List.nil_append, hl]; try simp) (by simp [hp])
  obtain rfl : k = n := by omega
  simp (disch := omega) only [Try.ntmps143, Try.results143, go_sem, Nat.reduceLT, Nat.reduceLeDiff, Nat.reduceEqDiff, Nat.reduceAdd, Nat.reduceSub, Nat.reduceMul, reduceIte, ↓reduceIte, reduceCtorEq, Int.reduceToNat, Int.reduceLE, Int.reduceLT, Int.reduceNeg, Int.reduceSub, Int.reduceAdd, Int.reduceMul, rb_eq]
  refine LoopW.loop (fun p : Nat × List Int × Int => ⟨ofL [(0, .val (.int .i64 k)), (1, rb X), (5, .own b 0 k k 1 false), (7, .val (.int .i64 p.2.2)), (8, .val (.int .i64 p.1))], hp [(b, ⟨ints p.2.1, false⟩)] nb⟩)
    (fun p => p.1 ≤ k ∧ PartL k (bmat X) p.1 p.2.2 p.2.1) (fun p => k - p.1) (0, List.replicate k (-1), 0) ⟨by simp, .zero _ _⟩ (Wk.ofH (by simp only [go_sem, ↓List.forall_mem_cons, List.not_mem_nil, false_implies, implies_true, and_true, true_and, and_self, Nat.reduceEqDiff, reduceIte, ↓reduceIte, ri_eq, Int.natCast_add, Int.cast_ofNat_Int, rb_eq]; try simp) (by simp (disch := omega) only [go_sem, ↓List.forall_mem_cons, List.not_mem_nil, false_implies, implies_true, and_true, true_and, and_self, Nat.reduceEqDiff, reduceIte, ↓reduceIte, ri_eq, Int.natCast_add, Int.cast_ofNat_Int, if_pos, if_neg, Nat.reduceAdd, List.nil_append]; try simp) (by simp [hp])) ?_
  rintro ⟨i, O, c⟩ ⟨hi, hpl⟩
  simp only at hi hpl
  have hl := hpl.len
  have hc0 := hpl.c0
  have hci := hpl.ci
  refine SW_of_vc Try.mixed _ _ _ (by kernel_rfl) ?_
  by_cases hlt2 : i < k
  · have g2 : (ints O)[i]? = some (.val (.int .i64 (O.getD i 0))) := ints_get' hl hlt2
    obtain ⟨v, hv⟩ : ∃ v, O.getD i 0 = v := ⟨_, rfl⟩
    rw [hv] at g2
    by_cases h0 : 0 ≤ v
    · simp (disch := omega) only [Try.ntmps143, Try.results143, go_sem, Nat.reduceLT, Nat.reduceLeDiff, Nat.reduceEqDiff, Nat.reduceAdd, Nat.reduceSub, Nat.reduceMul, reduceIte, ↓reduceIte, reduceCtorEq, Int.reduceToNat, Int.reduceLE, Int.reduceLT, Int.reduceNeg, Int.reduceSub, Int.reduceAdd, Int.reduceMul, rb_eq, hl, g2]
      exact ⟨(i + 1, O, c), ⟨hlt2, hpl.skip (by omega)⟩, by show k - (i + 1) < k - i; omega, Wk.ofH (by simp only [go_sem, ↓List.forall_mem_cons, List.not_mem_nil, false_implies, implies_true, and_true, true_and, and_self, Nat.reduceEqDiff, reduceIte, ↓reduceIte, ri_eq, Int.natCast_add, Int.cast_ofNat_Int, rb_eq]; try simp) (by simp (disch := omega) only [go_sem, ↓List.forall_mem_cons, List.not_mem_nil, false_implies, implies_true, and_true, true_and, and_self, Nat.reduceEqDiff, reduceIte, ↓reduceIte, ri_eq, Int.natCast_add, Int.cast_ofNat_Int, if_pos, if_neg, Nat.reduceAdd, List.nil_append]; try simp) (by simp [hp])⟩
    · simp (disch := omega) only [Try.ntmps143, Try.results143, go_sem, Nat.reduceLT, Nat.reduceLeDiff, Nat.reduceEqDiff, Nat.reduceAdd, Nat.reduceSub, Nat.reduceMul, reduceIte, ↓reduceIte, reduceCtorEq, Int.reduceToNat, Int.reduceLE, Int.reduceLT, Int.reduceNeg, Int.reduceSub, Int.reduceAdd, Int.reduceMul, rb_eq, hl, g2]
      refine LoopW.loop (fun p : Nat × List Int => ⟨ofL [(0, .val (.int .i64 k)), (1, rb X), (5, .own b 0 k k 1 false), (7, .val (.int .i64 c)), (8, .val (.int .i64 i)), (9, .val (.int .i64 p.1))], hp [(b, ⟨ints p.2, false⟩)] nb⟩)
        (fun p => p.1 ≤ k ∧ SpI k (bmat X) c i O p.1 0 0 p.2) (fun p => k - p.1) (0, O.set i c) ⟨by simp, .start hl hlt2⟩ (Wk.ofH (by simp only [go_sem, ↓List.forall_mem_cons, List.not_mem_nil, false_implies, implies_true, and_true, true_and, and_self, Nat.reduceEqDiff, reduceIte, ↓reduceIte, ri_eq, Int.natCast_add, Int.cast_ofNat_Int, rb_eq]; try simp) (by simp (disch := omega) only [go_sem, ↓List.forall_mem_cons, List.not_mem_nil, false_implies, implies_true, and_true, true_and, and_self, Nat.reduceEqDiff, reduceIte, ↓reduceIte, ri_eq, Int.natCast_add, Int.cast_ofNat_Int, if_pos, if_neg, Nat.reduceAdd, List.nil_append]; try simp) (by simp [hp])) ?_
      rintro ⟨s, O1⟩ ⟨hs1, hq1⟩
      simp only at hs1 hq1
      refine SW_of_vc Try.mixed _ _ _ (by kernel_rfl) ?_
      by_cases hlt3 : s < k
      · simp (disch := omega) only [Try.ntmps143, Try.results143, go_sem, Nat.reduceLT, Nat.reduceLeDiff, Nat.reduceEqDiff, Nat.reduceAdd, Nat.reduceSub, Nat.reduceMul, reduceIte, ↓reduceIte, reduceCtorEq, Int.reduceToNat, Int.reduceLE, Int.reduceLT, Int.reduceNeg, Int.reduceSub, Int.reduceAdd, Int.reduceMul, rb_eq]
        refine LoopW.loop (fun p : Nat × List Int => ⟨ofL [(0, .val (.int .i64 k)), (1, rb X), (5, .own b 0 k k 1 false), (7, .val (.int .i64 c)), (8, .val (.int .i64 i)), (9, .val (.int .i64 s)), (10, .val (.int .i64 p.1))], hp [(b, ⟨ints p.2, false⟩)] nb⟩)
          (fun p => p.1 ≤ k ∧ SpI k (bmat X) c i O s p.1 0 p.2) (fun p => k - p.1) (0, O1) ⟨by simp, hq1⟩ (Wk.ofH (by simp only [go_sem, ↓List.forall_mem_cons, List.not_mem_nil, false_implies, implies_true, and_true, true_and, and_self, Nat.reduceEqDiff, reduceIte, ↓reduceIte, ri_eq, Int.natCast_add, Int.cast_ofNat_Int, rb_eq]; try simp) (by simp (disch := omega) only [go_sem, ↓List.forall_mem_cons, List.not_mem_nil, false_implies, implies_true, and_true, true_and, and_self, Nat.reduceEqDiff, reduceIte, ↓reduceIte, ri_eq, Int.natCast_add, Int.cast_ofNat_Int, if_pos, if_neg, Nat.reduceAdd, List.nil_append]; try simp) (by simp [hp])) ?_
        rintro ⟨a, O2⟩ ⟨ha1, hq2⟩
        simp only at ha1 hq2
        refine SW_of_vc Try.mixed _ _ _ (by kernel_rfl) ?_
        by_cases hlt4 : a < k
        · simp (disch := omega) only [Try.ntmps143, Try.results143, go_sem, Nat.reduceLT, Nat.reduceLeDiff, Nat.reduceEqDiff, Nat.reduceAdd, Nat.reduceSub, Nat.reduceMul, reduceIte, ↓reduceIte, reduceCtorEq, Int.reduceToNat, Int.reduceLE, Int.reduceLT, Int.reduceNeg, Int.reduceSub, Int.reduceAdd, Int.reduceMul, rb_eq]
          refine LoopW.loop (fun p : Nat × List Int => ⟨ofL [(0, .val (.int .i64 k)), (1, rb X), (5, .own b 0 k k 1 false), (7, .val (.int .i64 c)), (8, .val (.int .i64 i)), (9, .val (.int .i64 s)), (10, .val (.int .i64 a)), (11, .val (.int .i64 p.1))], hp [(b, ⟨ints p.2, false⟩)] nb⟩)
            (fun p => p.1 ≤ k ∧ SpI k (bmat X) c i O s a p.1 p.2) (fun p => k - p.1) (0, O2) ⟨by simp, hq2⟩ (Wk.ofH (by simp only [go_sem, ↓List.forall_mem_cons, List.not_mem_nil, false_implies, implies_true, and_true, true_and, and_self, Nat.reduceEqDiff, reduceIte, ↓reduceIte, ri_eq, Int.natCast_add, Int.cast_ofNat_Int, rb_eq]; try simp) (by simp (disch := omega) only [go_sem, ↓List.forall_mem_cons, List.not_mem_nil, false_implies, implies_true, and_true, true_and, and_self, Nat.reduceEqDiff, reduceIte, ↓reduceIte, ri_eq, Int.natCast_add, Int.cast_ofNat_Int, if_pos, if_neg, Nat.reduceAdd, List.nil_append]; try simp) (by simp [hp])) ?_
          rintro ⟨z, O3⟩ ⟨hz1, hq3⟩
          simp only at hz1 hq3
          have hl3 := hq3.len
          have hXa := hR a hlt4
          refine SW_of_vc Try.mixed _ _ _ (by kernel_rfl) ?_
          by_cases hlt5 : z < k
          · have g3 : (ints O3)[a]? = some (.val (.int .i64 (O3.getD a 0))) := ints_get' hl3 hlt4
            have g4 : (bools (brow X a))[z]? = some (.val (.bool (bmat X a z))) := bools_get (by omega)
            obtain ⟨v3, hv3⟩ : ∃ v, O3.getD a 0 = v := ⟨_, rfl⟩
            rw [hv3] at g3
            by_cases h5 : v3 = c
            · rcases Bool.eq_false_or_eq_true (bmat X a z) with h6 | h6
              · rw [h6] at g4
                simp (disch := omega) only [Try.ntmps143, Try.results143, go_sem, Nat.reduceLT, Nat.reduceLeDiff, Nat.reduceEqDiff, Nat.reduceAdd, Nat.reduceSub, Nat.reduceMul, reduceIte, ↓reduceIte, reduceCtorEq, Int.reduceToNat, Int.reduceLE, Int.reduceLT, Int.reduceNeg, Int.reduceSub, Int.reduceAdd, Int.reduceMul, rb_eq, hl3, g3, g4, hX, hXa, rowsB_get, rowsB_length]
                exact ⟨(z + 1, O3.set z c), ⟨hlt5, hq3.put hpl.rng hlt4 hlt5 (by omega) h6⟩, by show k - (z + 1) < k - z; omega, Wk.ofH (by simp only [go_sem, ↓List.forall_mem_cons, List.not_mem_nil, false_implies, implies_true, and_true, true_and, and_self, Nat.reduceEqDiff, reduceIte, ↓reduceIte, ri_eq, Int.natCast_add, Int.cast_ofNat_Int, rb_eq]; try simp) (by simp (disch := omega) only [go_sem, ↓List.forall_mem_cons, List.not_mem_nil, false_implies, implies_true, and_true, true_and, and_self, Nat.reduceEqDiff, reduceIte, ↓reduceIte, ri_eq, Int.natCast_add, Int.cast_ofNat_Int, if_pos, if_neg, Nat.reduceAdd, List.nil_append]; try simp) (by simp [hp])⟩
              · rw [h6] at g4
                simp (disch := omega) only [Try.ntmps143, Try.results143, go_sem, Nat.reduceLT, Nat.reduceLeDiff, Nat.reduceEqDiff, Nat.reduceAdd, Nat.reduceSub, Nat.reduceMul, reduceIte, ↓reduceIte, reduceCtorEq, Int.reduceToNat, Int.reduceLE, Int.reduceLT, Int.reduceNeg, Int.reduceSub, Int.reduceAdd, Int.reduceMul, rb_eq, hl3, g3, g4, hX, hXa, rowsB_get, rowsB_length]
                exact ⟨(z + 1, O3), ⟨hlt5, hq3.skip hlt4 (by simp [h6])⟩, by show k - (z + 1) < k - z; omega, Wk.ofH (by simp only [go_sem, ↓List.forall_mem_cons, List.not_mem_nil, false_implies, implies_true, and_true, true_and, and_self, Nat.reduceEqDiff, reduceIte, ↓reduceIte, ri_eq, Int.natCast_add, Int.cast_ofNat_Int, rb_eq]; try simp) (by simp (disch := omega) only [go_sem, ↓List.forall_mem_cons, List.not_mem_nil, false_implies, implies_true, and_true, true_and, and_self, Nat.reduceEqDiff, reduceIte, ↓reduceIte, ri_eq, Int.natCast_add, Int.cast_ofNat_Int, if_pos, if_neg, Nat.reduceAdd, List.nil_append]; try simp) (by simp [hp])⟩
            · simp (disch := omega) only [Try.ntmps143, Try.results143, go_sem, Nat.reduceLT, Nat.reduceLeDiff, Nat.reduceEqDiff, Nat.reduceAdd, Nat.reduceSub, Nat.reduceMul, reduceIte, ↓reduceIte, reduceCtorEq, Int.reduceToNat, Int.reduceLE, Int.reduceLT, Int.reduceNeg, Int.reduceSub, Int.reduceAdd, Int.reduceMul, rb_eq, hl3, g3, hX, hXa, rowsB_get, rowsB_length]
              exact ⟨(z + 1, O3), ⟨hlt5, hq3.skip hlt4 (by intro h; omega)⟩, by show k - (z + 1) < k - z; omega, Wk.ofH (by simp only [go_sem, ↓List.forall_mem_cons, List.not_mem_nil, false_implies, implies_true, and_true, true_and, and_self, Nat.reduceEqDiff, reduceIte, ↓reduceIte, ri_eq, Int.natCast_add, Int.cast_ofNat_Int, rb_eq]; try simp) (by simp (disch := omega) only [go_sem, ↓List.forall_mem_cons, List.not_mem_nil, false_implies, implies_true, and_true, true_and, and_self, Nat.reduceEqDiff, reduceIte, ↓reduceIte, ri_eq, Int.natCast_add, Int.cast_ofNat_Int, if_pos, if_neg, Nat.reduceAdd, List.nil_append]; try simp) (by simp [hp])⟩
          · simp (disch := omega) only [Try.ntmps143, Try.results143, go_sem, Nat.reduceLT, Nat.reduceLeDiff, Nat.reduceEqDiff, Nat.reduceAdd, Nat.reduceSub, Nat.reduceMul, reduceIte, ↓reduceIte, reduceCtorEq, Int.reduceToNat, Int.reduceLE, Int.reduceLT, Int.reduceNeg, Int.reduceSub, Int.reduceAdd, Int.reduceMul, rb_eq]
            exact ⟨(a + 1, O3), ⟨hlt4, hq3.next (by omega)⟩, by show k - (a + 1) < k - a; omega, Wk.ofH (by simp only [go_sem, ↓List.forall_mem_cons, List.not_mem_nil, false_implies, implies_true, and_true, true_and, and_self, Nat.reduceEqDiff, reduceIte, ↓reduceIte, ri_eq, Int.natCast_add, Int.cast_ofNat_Int, rb_eq]; try simp) (by simp (disch := omega) only [go_sem, ↓List.forall_mem_cons, List.not_mem_nil, false_implies, implies_true, and_true, true_and, and_self, Nat.reduceEqDiff, reduceIte, ↓reduceIte, ri_eq, Int.natCast_add, Int.cast_ofNat_Int, if_pos, if_neg, Nat.reduceAdd, List.nil_append]; try simp) (by simp [hp])⟩
        · simp (disch := omega) only [Try.ntmps143, Try.results143, go_sem, Nat.reduceLT, Nat.reduceLeDiff, Nat.reduceEqDiff, Nat.reduceAdd, Nat.reduceSub, Nat.reduceMul, reduceIte, ↓reduceIte, reduceCtorEq, Int.reduceToNat, Int.reduceLE, Int.reduceLT, Int.reduceNeg, Int.reduceSub, Int.reduceAdd, Int.reduceMul, rb_eq]
          exact ⟨(s + 1, O2), ⟨hlt3, hq2.round (by omega)⟩, by show k - (s + 1) < k - s; omega, Wk.ofH (by simp only [go_sem, ↓List.forall_mem_cons, List.not_mem_nil, false_implies, implies_true, and_true, true_and, and_self, Nat.reduceEqDiff, reduceIte, ↓reduceIte, ri_eq, Int.natCast_add, Int.cast_ofNat_Int, rb_eq]; try simp) (by simp (disch := omega) only [go_sem, ↓List.forall_mem_cons, List.not_mem_nil, false_implies, implies_true, and_true, true_and, and_self, Nat.reduceEqDiff, reduceIte, ↓reduceIte, ri_eq, Int.natCast_add, Int.cast_ofNat_Int, if_pos, if_neg, Nat.reduceAdd, List.nil_append]; try simp) (by simp [hp])⟩
      · obtain rfl : s = k := by omega
        simp (disch := omega) only [Try.ntmps143, Try.results143, go_sem, Nat.reduceLT, Nat.reduceLeDiff, Nat.reduceEqDiff, Nat.reduceAdd, Nat.reduceSub, Nat.reduceMul, reduceIte, ↓reduceIte, reduceCtorEq, Int.reduceToNat, Int.reduceLE, Int.reduceLT, Int.reduceNeg, Int.reduceSub, Int.reduceAdd, Int.reduceMul, rb_eq]
        exact ⟨(i + 1, O1, c + 1), ⟨hlt2, hpl.step hs hlt2 (by omega) (hq1.newL hlt2)⟩, by show s - (i + 1) < s - i; omega, Wk.ofH (by simp only [go_sem, ↓List.forall_mem_cons, List.not_mem_nil, false_implies, implies_true, and_true, true_and, and_self, Nat.reduceEqDiff, reduceIte, ↓reduceIte, ri_eq, Int.natCast_add, Int.cast_ofNat_Int, rb_eq]; try simp) (by simp (disch := omega) only [go_sem, ↓List.forall_mem_cons, List.not_mem_nil, false_implies, implies_true, and_true, true_and, and_self, Nat.reduceEqDiff, reduceIte, ↓reduceIte, ri_eq, Int.natCast_add, Int.cast_ofNat_Int, if_pos, if_neg, Nat.reduceAdd, List.nil_append]; try simp) (by simp [hp])⟩
  · have hC := hpl.final (by omega)
    have hc2 := hC.comp
    rw [← hC.eq] at hc2 ⊢
    simp (disch := omega) only [Try.ntmps143, Try.results143, go_sem, Nat.reduceLT, Nat.reduceLeDiff, Nat.reduceEqDiff, Nat.reduceAdd, Nat.reduceSub, Nat.reduceMul, reduceIte, ↓reduceIte, reduceCtorEq, Int.reduceToNat, Int.reduceLE, Int.reduceLT, Int.reduceNeg, Int.reduceSub, Int.reduceAdd, Int.reduceMul, rb_eq]
    exact Fin.imp (fun _ _ h => ⟨hc2, h⟩) (fin_ints hl.symm (by rw [hp_map]; simp only [hmap_cons]; rfl))
end Go.Sh

/-
  Contracts: the components of a graph of positive weights, of the reference; both as one.
-/
namespace Go.Sh
set_option linter.unusedSimpArgs false
set_option linter.unusedVariables false
open Go Go.Proofs

theorem CompL.congr {n : Nat} {B B' : Nat → Nat → Bool} {L : List Int} (h : CompL n B L) (hb : ∀ x y, x < n → y < n → B x y = B' x y) : CompL n B' L := by
  have hr : ∀ x y, Rch n B x y ↔ Rch n B' x y := fun x y => ⟨fun r => r.mono fun x y hx hy h => .one hx hy (by rw [← hb x y hx hy]; exact h), fun r => r.mono fun x y hx hy h => .one hx hy (by rw [hb x y hx hy]; exact h)⟩
  exact ⟨h.len, h.nn, h.can, fun x y hx hy => (h.iff x y hx hy).trans (hr x y)⟩
/-- A square of bools. -/
def Sq (n : Nat) (X : List (List Bool)) : Prop := X.length = n ∧ ∀ i, i < n → (brow X i).length = n
theorem Sq.bz (n : Nat) : Sq n (bz n) := ⟨bz_length n, fun i h => by rw [bz_row h]; simp⟩
theorem Sq.set {n : Nat} {X : List (List Bool)} (h : Sq n X) (i c : Nat) (x : Bool) : Sq n (bset X i c x) := ⟨by rw [bset_length, h.1], fun k hk => by rw [bset_row_length]; exact h.2 k hk⟩

noncomputable def pcomp (M : List (List Int)) : List Int := if isWM M = true then comp M.length (pB M) else []
theorem pcomp_t {M : List (List Int)} (h : WM M) : pcomp M = comp M.length (pB M) := by rw [pcomp, if_pos (isWM_t h)]
theorem pcomp_f {M : List (List Int)} (h : ¬ WM M) : pcomp M = [] := by rw [pcomp, if_neg (by rw [isWM_f h]; simp)]
theorem pcomp_length {M : List (List Int)} (h : WM M) : (pcomp M).length = M.length := by rw [pcomp_t h]; exact (comp_ok h.sym).len
theorem Try.implPC_one (M : List (List Int)) (hM : M.length ≤ 1048576) (hR : ∀ i, i < M.length → (mrow M i).length ≤ 1048576) (h : WM M) : FCall Try.prog 141 [rr M] (OneRes M.length 1 (ints (pcomp M))) := by
  rw [pcomp_t h]
  exact ((Try.implPC_f M hM hR h).mono fun _ _ h => h.2).one
theorem Try.implPC_ok (M : List (List Int)) (hM : M.length ≤ 1048576) (hR : ∀ i, i < M.length → (mrow M i).length ≤ 1048576) : PCall Try.prog 141 [rr M] (ri (pcomp M)) := by
  by_cases h : WM M
  · exact (Try.implPC_one M hM hR h).pcall 2 (fun _ _ g => one_view g (pcomp_length h).symm)
  · rw [pcomp_f h]; exact (Try.implPC_nil M hM hR h).pcall 0 (by rintro r H rfl; exact view_nil)
end Go.Sh

/-
  Contracts: matrices copied into memory of their own, marked, read back.
-/
namespace Go.Sh
set_option linter.unusedSimpArgs false
set_option linter.unusedVariables false
open Go Go.Proofs
variable {P : Program}

theorem HS_res (M : List (List Int)) : MatRes (mi M) (.own 0 0 M.length M.length 1 true) (HS M M.length) := by
  have hl := mi_length M
  refine ⟨0, 0, M.length, true, _, by rw [hl], HS_map M _, by rw [hl, outer_length]; omega, mi_vals _, fun i => i + 1, fun _ => 0, fun i i' _ _ h => by simpa using h, fun i _ => by simp, fun i hi => ?_⟩
  rw [hl] at hi
  have hr : rowAt (mi M) i = ints (mrow M i) := mi_row hi
  refine ⟨(mrow M i).length, false, ⟨ints (mrow M i), false⟩, ?_, ?_, ?_, ?_⟩
  · rw [hr, Nat.zero_add, ints_length]
    simp only [outer, List.getElem?_map]
    rw [List.getElem?_range hi]
    simp only [Option.map_some]
    rw [if_pos hi]
  · simp only [HS]
    rw [if_neg (by omega), if_pos (by omega)]
    simp
  · rw [hr, List.drop_zero, List.take_length]
  · rw [hr]; simp
theorem Try.toIntSS_one (M : List (List Int)) (hM : M.length ≤ 1048576) (hR : ∀ i, i < M.length → (mrow M i).length ≤ 1048576) : FCall Try.prog 17 [rr M] (MatOne (mi M)) :=
  ((Try.toIntSS_f M hM hR).mono fun r H ⟨h1, h2⟩ => by subst h1; subst h2; exact HS_res M).mat

theorem CallS.sub {f : FuncId} {args : List SV} {H : Heap} {Q Q' : SV → Heap → Prop} (h : CallS P f args H Q) (hq : ∀ r H', Q r H' → ∃ H2, Sub H2 H' ∧ Q' r H2) : CallS P f args H Q' := by
  refine ⟨h.1, fun j w vs r hl => (h.2 j w vs r hl).mono ?_⟩
  rintro e w' ⟨r, v, j', H', h1, h2, h3, h4, h5⟩
  obtain ⟨H2, hs, hq2⟩ := hq r H' h5
  have hsub : ∀ k, OwnR j' H2 k → OwnR j' H' k := by
    rintro k ⟨b, blk, base, g1, g2⟩
    refine ⟨b, blk, base, ?_, g2⟩
    rcases hs.map b with e | e
    · rw [e] at g1; simp at g1
    · rw [← e]; exact g1
  refine ⟨r, v, j', H2, h1, h2.sub hs, VRel.tr (Tr.weaken w' hsub) (fun _ _ h => h) r v h3, ?_, hq2⟩
  exact ⟨h4.os, h4.tape, h4.output, h4.size, h4.keep, h4.sizes, h4.jle, by rw [hs.nb]; exact h4.nble, fun k o => h4.own k (hsub k o)⟩

def Heap.cutR (H : Heap) (a c : Nat) : Heap := ⟨fun x => if a ≤ x ∧ x ≤ c then none else H.map x, H.nb⟩
def consE (e : Ent) (H : Heap) : Heap := match e with
  | .blk k v => ⟨fun x => if x = k then some v else H.map x, H.nb⟩
  | .mat b R => ⟨fun x => if b ≤ x ∧ x ≤ b + R.length then matMap b R x else H.map x, H.nb⟩
  | .rows fl nr => ⟨fun x => match nrFind nr x with | some r => some ⟨r, fl⟩ | none => H.map x, H.nb⟩
  | .cut b => ⟨fun x => if x = b then none else H.map x, H.nb⟩
theorem consE_hx (e : Ent) (l : List Ent) (n : Nat) : consE e (hx l n) = hx (e :: l) n := by cases e <;> rfl
theorem cutR_nil (n a c : Nat) : (hx [] n).cutR a c = hx [] n := by
  refine Heap.ext' (fun x => ?_) rfl
  simp only [Heap.cutR, hx, xmap]
  split <;> rfl
theorem cutR_blk {k n a c : Nat} {v : Blk} {l : List Ent} (h : k < a ∨ c < k) : (hx (.blk k v :: l) n).cutR a c = consE (.blk k v) ((hx l n).cutR a c) := by
  refine Heap.ext' (fun x => ?_) rfl
  simp only [Heap.cutR, hx, xmap, consE]
  by_cases h1 : x = k
  · subst h1
    rw [if_neg (by omega), if_pos rfl, if_pos rfl]
  · rw [if_neg h1, if_neg h1]
theorem cutR_same {b n c : Nat} {M : List (List Int)} {l : List Ent} (h : c = b + M.length) : (hx (.mat b (mi M) :: l) n).cutR b c = (hx l n).cutR b c := by
  subst h
  refine Heap.ext' (fun x => ?_) rfl
  simp only [Heap.cutR, hx, xmap, mi_length]
  by_cases h1 : b ≤ x ∧ x ≤ b + M.length
  · rw [if_pos h1, if_pos h1]
  · rw [if_neg h1, if_neg h1, if_neg h1]
theorem cutR_other {b n a c : Nat} {M : List (List Int)} {l : List Ent} (h : c < b ∨ b + M.length < a) : (hx (.mat b (mi M) :: l) n).cutR a c = consE (.mat b (mi M)) ((hx l n).cutR a c) := by
  refine Heap.ext' (fun x => ?_) rfl
  simp only [Heap.cutR, hx, xmap, consE, mi_length]
  by_cases h1 : b ≤ x ∧ x ≤ b + M.length
  · rw [if_neg (by omega), if_pos h1, if_pos h1]
  · rw [if_neg h1, if_neg h1]
theorem cutR_map {H : Heap} {a c x : Nat} (h : x < a ∨ c < x) : (H.cutR a c).map x = H.map x := by
  simp only [Heap.cutR]; rw [if_neg (by omega)]

set_option maxHeartbeats 1000000 in
/-- A matrix marked; what it holds then is not told. -/
theorem Try.markIntSS_ok (M : List (List Int)) (k : Int) (H : Heap) (b n : Nat) (hb : EntIn H (.mat b (mi M))) (hn : n = M.length) (hM : M.length ≤ 1048576) (hR : ∀ i, i < M.length → (mrow M i).length ≤ 1048576) (hk : 0 ≤ k) (hk2 : k + msum M M.length ≤ 1099511627776) :
    CallS Try.prog 21 [.own b 0 n n 1 false, .val (.int .i64 k)] H (fun r H' => r = .val (.int .i64 (k + msum M M.length)) ∧ H' = H.cutR b (b + M.length)) := by
  subst hn
  have hb' := hb
  simp only [EntIn, mi_length] at hb'
  have h0 : H.map b = some ⟨outerB b (mi M), false⟩ := by rw [hb' b (by omega) (by omega), matMap, if_pos rfl]
  have hrow : ∀ i, i < M.length → H.map (b + 1 + i) = some ⟨ints (mrow M i), false⟩ := fun i hi => by
    rw [hb' (b + 1 + i) (by omega) (by omega), matMap, if_neg (by omega), ← mi_row hi]
    congr 3; omega
  refine CallS.sub (Q := fun r H' => r = .val (.int .i64 (k + msum M M.length)) ∧ H' = H.cutR (b + 1) (b + M.length)) ?_ (fun r H' ⟨e1, e2⟩ => ⟨_, ⟨?_, fun x => ?_⟩, e1, rfl⟩)
  · refine CallS.of_body Try.func21 rfl (by kernel_rfl) (by simp [Try.ntmps21]) ?_
    refine SW_of_vc Try.mixed _ _ _ (by kernel_rfl) ?_
    simp (disch := omega) only [Try.ntmps21, Try.results21, go_sem, Nat.reduceLT, Nat.reduceLeDiff, Nat.reduceEqDiff, Nat.reduceAdd, Nat.reduceSub, Nat.reduceMul, reduceIte, ↓reduceIte, reduceCtorEq, Int.reduceToNat, Int.reduceLE, Int.reduceLT, Int.reduceNeg, Int.reduceSub, Int.reduceAdd, Int.reduceMul]
    refine LoopW.loop (fun i : Nat => ⟨ofL [(0, .own b 0 M.length M.length 1 false), (1, .val (.int .i64 (k + msum M i))), (5, .val (.int .i64 i))], H.cutR (b + 1) (b + i)⟩) (fun i => i ≤ M.length) (fun i => M.length - i) 0 (by omega) (Wk.of (by simp only [go_sem, ↓List.forall_mem_cons, List.not_mem_nil, false_implies, implies_true, and_true, true_and, and_self, Nat.reduceEqDiff, reduceIte, ↓reduceIte, ri_eq, Int.natCast_add, Int.cast_ofNat_Int, msum, List.take_zero, List.sum_nil, Int.add_zero]; try simp) (Heap.ext' (fun x => by simp only [Heap.cutR]; rw [if_neg (by omega)]) rfl)) ?_
    intro i hi
    refine SW_of_vc Try.mixed _ _ _ (by kernel_rfl) ?_
    have hm0 : (H.cutR (b + 1) (b + i)).map b = some ⟨outerB b (mi M), false⟩ := by rw [cutR_map (by omega), h0]
    have hmn := msum_nonneg M i
    by_cases hlt : i < M.length
    · have hm1 : (H.cutR (b + 1) (b + i)).map (b + 1 + i) = some ⟨ints (mrow M i), false⟩ := by rw [cutR_map (by omega), hrow i hlt]
      have hmono := msum_mono (M := M) (k := i) (j := M.length) (by omega) (by omega)
      have hs := msum_succ hlt
      simp (disch := omega) only [Try.ntmps21, Try.results21, go_sem, Nat.reduceLT, Nat.reduceLeDiff, Nat.reduceEqDiff, Nat.reduceAdd, Nat.reduceSub, Nat.reduceMul, reduceIte, ↓reduceIte, reduceCtorEq, Int.reduceToNat, Int.reduceLE, Int.reduceLT, Int.reduceNeg, Int.reduceSub, Int.reduceAdd, Int.reduceMul, hm0, outerB_getI]
      refine (Try.markIntS_ok (mrow M i) (k + msum M i) _ (b + 1 + i) _ _ false false hm1 rfl (by have := hR i hlt; omega) (by omega) (by omega)).callDet ?_
      simp (disch := omega) only [Try.ntmps21, Try.results21, go_sem, Nat.reduceLT, Nat.reduceLeDiff, Nat.reduceEqDiff, Nat.reduceAdd, Nat.reduceSub, Nat.reduceMul, reduceIte, ↓reduceIte, reduceCtorEq, Int.reduceToNat, Int.reduceLE, Int.reduceLT, Int.reduceNeg, Int.reduceSub, Int.reduceAdd, Int.reduceMul]
      refine ⟨i + 1, hlt, by omega, ⟨ofL_wk (by simp only [go_sem, ↓List.forall_mem_cons, List.not_mem_nil, false_implies, implies_true, and_true, true_and, and_self, Nat.reduceEqDiff, reduceIte, ↓reduceIte, ri_eq, Int.natCast_add, Int.cast_ofNat_Int, hs, Int.add_assoc]; try simp), Nat.le_refl _, fun x => ?_⟩⟩
      simp only [Heap.cutR, Heap.set]
      by_cases h1 : b + 1 ≤ x ∧ x ≤ b + (i + 1)
      · exact .inl (by rw [if_pos h1])
      · right
        rw [if_neg h1, if_neg (by omega), if_neg (by omega)]
    · obtain rfl : i = M.length := by omega
      simp (disch := omega) only [Try.ntmps21, Try.results21, go_sem, Nat.reduceLT, Nat.reduceLeDiff, Nat.reduceEqDiff, Nat.reduceAdd, Nat.reduceSub, Nat.reduceMul, reduceIte, ↓reduceIte, reduceCtorEq, Int.reduceToNat, Int.reduceLE, Int.reduceLT, Int.reduceNeg, Int.reduceSub, Int.reduceAdd, Int.reduceMul]
  · rw [e2]; rfl
  · subst e2
    simp only [Heap.cutR]
    by_cases h1 : b ≤ x ∧ x ≤ b + M.length
    · exact .inl (by rw [if_pos h1])
    · right
      rw [if_neg h1, if_neg (by omega)]
theorem fin_mat {b n cap : Nat} {ex : Bool} {R : List (List SV)} {H : Heap} (h : EntIn H (.mat b R)) (hv : ∀ row ∈ R, row.all isVal = true) (hn : n = R.length) : Fin (MatRes R) (.own b 0 n cap 1 ex) H := by
  subst hn
  refine ⟨hx [.mat b R] H.nb, ⟨rfl, fun x => ?_⟩, rfl, mat_nr hv, b, 0, cap, ex, _, rfl, by rw [hx_map, xmap_mat], by rw [outerB_length]; omega, hv, fun i => b + 1 + i, fun _ => 0, fun i i' _ _ e => by have e : b + 1 + i = b + 1 + i' := e; omega, fun i _ => by show b + 1 + i ≠ b; omega, fun i hi => ?_⟩
  · rw [hx_map, xmap]
    by_cases hr : b ≤ x ∧ x ≤ b + R.length
    · rw [if_pos hr]; exact .inr (h x hr.1 hr.2).symm
    · rw [if_neg hr]; exact .inl rfl
  · refine ⟨(rowAt R i).length, false, ⟨rowAt R i, false⟩, ?_, ?_, ?_, ?_⟩
    · rw [Nat.zero_add, outerB_get hi]
    · show (hx [.mat b R] H.nb).map (b + 1 + i) = _
      rw [hx_map, xmap, if_pos (by omega), matMap, if_neg (by omega)]
      congr 3; omega
    · simp
    · simp
attribute [go_sem] consE_hx cutR_nil
end Go.Sh

/-
  Squares of numbers, by their entries.
-/
namespace Go.Sh
set_option linter.unusedSimpArgs false
set_option linter.unusedVariables false
open Go Go.Proofs

/-- A square of numbers. -/
def SqI (n : Nat) (M : List (List Int)) : Prop := M.length = n ∧ ∀ i, i < n → (mrow M i).length = n
theorem SqI.zs (n : Nat) : SqI n (zs n) := ⟨zs_length n, fun i h => by rw [zs_row h]; simp⟩
theorem SqI.set {n : Nat} {M : List (List Int)} (h : SqI n M) (i c : Nat) (x : Int) : SqI n (mset M i c x) := ⟨by rw [mset_length, h.1], fun k hk => by rw [mset_row_length]; exact h.2 k hk⟩
theorem SqI.ext {n : Nat} {M M' : List (List Int)} (h : SqI n M) (h' : SqI n M') (e : ∀ x y, x < n → y < n → mat M x y = mat M' x y) : M = M' := by
  refine List.ext_getElem (h.1.trans h'.1.symm) fun i h1 h2 => ?_
  have hi : i < n := by rw [← h.1]; exact h1
  have e1 : M[i] = mrow M i := by simp [mrow, h1]
  have e2 : M'[i] = mrow M' i := by simp [mrow, h2]
  rw [e1, e2]
  exact list_ext ((h.2 i hi).trans (h'.2 i hi).symm) fun k hk => e i k hi (by rw [← h.2 i hi]; exact hk)
def genM (n : Nat) (f : Nat → Nat → Int) : List (List Int) := (List.range n).map fun x => (List.range n).map fun y => f x y
theorem genM_row {n : Nat} {f : Nat → Nat → Int} {x : Nat} (h : x < n) : mrow (genM n f) x = (List.range n).map fun y => f x y := by simp [mrow, genM, h]
theorem genM_sq (n : Nat) (f : Nat → Nat → Int) : SqI n (genM n f) := ⟨by simp [genM], fun i h => by rw [genM_row h]; simp⟩
theorem genM_at {n : Nat} {f : Nat → Nat → Int} {x y : Nat} (hx : x < n) (hy : y < n) : mat (genM n f) x y = f x y := by rw [mat, genM_row hx]; simp [hy]
def bint (b : Bool) : Int := if b = true then 1 else 0
end Go.Sh

/-
  Contracts: are these constraints? Of the reference and of the program.
-/
namespace Go.Sh
set_option linter.unusedSimpArgs false
set_option linter.unusedVariables false
open Go Go.Proofs

def fidx (pr : Con → Bool) (C : List Con) : Int := match C.findIdx? pr with | some i => (i : Int) | none => -1
theorem fidx_none {pr : Con → Bool} {C : List Con} (h : ∀ i, i < C.length → pr (cg C i) = false) : fidx pr C = -1 := by
  have : C.findIdx? pr = none := by
    rw [List.findIdx?_eq_none_iff]
    intro x hx
    obtain ⟨i, hi, e⟩ := List.getElem_of_mem hx
    have := h i hi
    simpa [cg, hi, e] using this
  rw [fidx, this]
theorem fidx_some {pr : Con → Bool} {C : List Con} {k : Nat} (hk : k < C.length) (h : ∀ i, i < k → pr (cg C i) = false) (e : pr (cg C k) = true) : fidx pr C = k := by
  have : C.findIdx? pr = some k := by
    rw [List.findIdx?_eq_some_iff_getElem]
    refine ⟨hk, by simpa [cg, hk] using e, fun j hj => ?_⟩
    have hj' : j < C.length := by omega
    have := h j hj
    simp [cg, hj'] at this
    simp [this]
  rw [fidx, this]
theorem fidx_ge (pr : Con → Bool) (C : List Con) : (0 ≤ fidx pr C) ↔ C.any pr = true := by
  rw [fidx]
  cases h : C.findIdx? pr with
  | none =>
    rw [List.findIdx?_eq_none_iff] at h
    constructor
    · intro e; simp at e
    · intro e
      obtain ⟨x, hx, h1⟩ := List.any_eq_true.1 e
      rw [h x hx] at h1; cases h1
  | some i =>
    rw [List.findIdx?_eq_some_iff_getElem] at h
    obtain ⟨hi, h1, _⟩ := h
    simp only [Int.natCast_nonneg, true_iff, List.any_eq_true]
    exact ⟨C[i], List.getElem_mem hi, h1⟩

set_option maxHeartbeats 1000000 in
theorem Try.indexFuncM_ok (f : FuncId) (cap : List SV) (C : List Con) (pr : Con → Bool) (hC : C.length ≤ 1048576) (hcap : ∀ H fu, viewL H fu cap = some cap)
    (hf : ∀ k, k < C.length → PCall Try.prog f (.agg [.val (.int .i64 (cg C k).1), .val (.int .i64 (cg C k).2.1), .val (.bool (cg C k).2.2)] :: cap) (.val (.bool (pr ((cg C k).1, (cg C k).2.1, (cg C k).2.2))))) :
    PCall Try.prog 138 [rc C, .clos (.func f) [] cap] (.val (.int .i64 (fidx pr C))) := by
  refine FCall.pcall (R := fun r _ => r = .val (.int .i64 (fidx pr C))) ?_ 0 (by rintro r H rfl; exact view_int)
  refine FCall.of_body Try.func138 rfl (by kernel_rfl) (by simp [Try.ntmps138]) ?_
  refine SW_of_vc Try.mixed _ _ _ (by kernel_rfl) ?_
  have lC := cons_length C
  simp (disch := omega) only [Try.ntmps138, Try.results138, go_sem, Nat.reduceLT, Nat.reduceLeDiff, Nat.reduceEqDiff, Nat.reduceAdd, Nat.reduceSub, Nat.reduceMul, reduceIte, ↓reduceIte, reduceCtorEq, Int.reduceToNat, Int.reduceLE, Int.reduceLT, Int.reduceNeg, Int.reduceSub, Int.reduceAdd, Int.reduceMul, rc]
  refine LoopW.loop (fun k : Nat => ⟨ofL [(0, rc C), (1, .clos (.func f) [] cap), (7, .val (.int .i64 C.length)), (8, .val (.int .i64 k))], hp [] 0⟩) (fun k => k ≤ C.length ∧ ∀ i, i < k → pr (cg C i) = false) (fun k => C.length - k) 0 ⟨by omega, by simp⟩ (Wk.of (by simp only [go_sem, ↓List.forall_mem_cons, List.not_mem_nil, false_implies, implies_true, and_true, true_and, and_self, Nat.reduceEqDiff, reduceIte, ↓reduceIte, ri_eq, Int.natCast_add, Int.cast_ofNat_Int, rc]; try simp) rfl) ?_
  rintro k ⟨hk, hkk⟩
  refine SW_of_vc Try.mixed _ _ _ (by kernel_rfl) ?_
  by_cases hlt : k < C.length
  · simp (disch := omega) only [Try.ntmps138, Try.results138, go_sem, Nat.reduceLT, Nat.reduceLeDiff, Nat.reduceEqDiff, Nat.reduceAdd, Nat.reduceSub, Nat.reduceMul, reduceIte, ↓reduceIte, reduceCtorEq, Int.reduceToNat, Int.reduceLE, Int.reduceLT, Int.reduceNeg, Int.reduceSub, Int.reduceAdd, Int.reduceMul, rc, cons_load]
    refine (hf k hlt).callV 1 (viewL_cons_of view_con (hcap _ _)) ?_
    cases he : pr ((cg C k).1, (cg C k).2.1, (cg C k).2.2) with
    | true =>
      simp (disch := omega) only [Try.ntmps138, Try.results138, go_sem, Nat.reduceLT, Nat.reduceLeDiff, Nat.reduceEqDiff, Nat.reduceAdd, Nat.reduceSub, Nat.reduceMul, reduceIte, ↓reduceIte, reduceCtorEq, Int.reduceToNat, Int.reduceLE, Int.reduceLT, Int.reduceNeg, Int.reduceSub, Int.reduceAdd, Int.reduceMul, rc]
      exact Fin.val (by rw [fidx_some hlt hkk he])
    | false =>
      simp (disch := omega) only [Try.ntmps138, Try.results138, go_sem, Nat.reduceLT, Nat.reduceLeDiff, Nat.reduceEqDiff, Nat.reduceAdd, Nat.reduceSub, Nat.reduceMul, reduceIte, ↓reduceIte, reduceCtorEq, Int.reduceToNat, Int.reduceLE, Int.reduceLT, Int.reduceNeg, Int.reduceSub, Int.reduceAdd, Int.reduceMul, rc]
      refine ⟨k + 1, ⟨by omega, fun i hi => ?_⟩, by omega, Wk.of (by simp only [go_sem, ↓List.forall_mem_cons, List.not_mem_nil, false_implies, implies_true, and_true, true_and, and_self, Nat.reduceEqDiff, reduceIte, ↓reduceIte, ri_eq, Int.natCast_add, Int.cast_ofNat_Int, rc]; try simp) rfl⟩
      rcases Nat.lt_succ_iff_lt_or_eq.mp hi with h | rfl
      · exact hkk i h
      · exact he
  · simp (disch := omega) only [Try.ntmps138, Try.results138, go_sem, Nat.reduceLT, Nat.reduceLeDiff, Nat.reduceEqDiff, Nat.reduceAdd, Nat.reduceSub, Nat.reduceMul, reduceIte, ↓reduceIte, reduceCtorEq, Int.reduceToNat, Int.reduceLE, Int.reduceLT, Int.reduceNeg, Int.reduceSub, Int.reduceAdd, Int.reduceMul, rc]
    exact Fin.val (by rw [fidx_none (fun i hi => hkk i (by omega))])

theorem Try.containsFuncM_ok (f : FuncId) (cap : List SV) (C : List Con) (pr : Con → Bool) (hC : C.length ≤ 1048576) (hcap : ∀ H fu, viewL H fu cap = some cap)
    (hf : ∀ k, k < C.length → PCall Try.prog f (.agg [.val (.int .i64 (cg C k).1), .val (.int .i64 (cg C k).2.1), .val (.bool (cg C k).2.2)] :: cap) (.val (.bool (pr ((cg C k).1, (cg C k).2.1, (cg C k).2.2))))) :
    PCall Try.prog 145 [rc C, .clos (.func f) [] cap] (.val (.bool (C.any pr))) := by
  refine FCall.pcall (R := fun r _ => r = .val (.bool (C.any pr))) ?_ 0 (by rintro r H rfl; exact view_bool)
  refine FCall.of_body Try.func145 rfl (by kernel_rfl) (by simp [Try.ntmps145]) ?_
  refine SW_of_vc Try.mixed _ _ _ (by kernel_rfl) ?_
  simp (disch := omega) only [Try.ntmps145, Try.results145, go_sem, Nat.reduceLT, Nat.reduceLeDiff, Nat.reduceEqDiff, Nat.reduceAdd, Nat.reduceSub, Nat.reduceMul, reduceIte, ↓reduceIte, reduceCtorEq, Int.reduceToNat, Int.reduceLE, Int.reduceLT, Int.reduceNeg, Int.reduceSub, Int.reduceAdd, Int.reduceMul, rc]
  refine (Try.indexFuncM_ok f cap C pr hC hcap hf).callV 1 (viewL_cons_of view_row (viewL_cons_of (view_clos (hcap _ _)) viewL_nil_of)) ?_
  have hg := fidx_ge pr C
  cases h : C.any pr with
  | true =>
    have := hg.mpr h
    simp (disch := omega) only [Try.ntmps145, Try.results145, go_sem, Nat.reduceLT, Nat.reduceLeDiff, Nat.reduceEqDiff, Nat.reduceAdd, Nat.reduceSub, Nat.reduceMul, reduceIte, ↓reduceIte, reduceCtorEq, Int.reduceToNat, Int.reduceLE, Int.reduceLT, Int.reduceNeg, Int.reduceSub, Int.reduceAdd, Int.reduceMul, rc]
    exact Fin.val rfl
  | false =>
    have : ¬ 0 ≤ fidx pr C := fun e => by rw [hg.mp e] at h; cases h
    simp (disch := omega) only [Try.ntmps145, Try.results145, go_sem, Nat.reduceLT, Nat.reduceLeDiff, Nat.reduceEqDiff, Nat.reduceAdd, Nat.reduceSub, Nat.reduceMul, reduceIte, ↓reduceIte, reduceCtorEq, Int.reduceToNat, Int.reduceLE, Int.reduceLT, Int.reduceNeg, Int.reduceSub, Int.reduceAdd, Int.reduceMul, rc]
    exact Fin.val rfl

theorem Try.indexFunc_ok (f : FuncId) (cap : List SV) (C : List Con) (pr : Con → Bool) (hC : C.length ≤ 1048576) (hcap : ∀ H fu, viewL H fu cap = some cap)
    (hf : ∀ a b s, PCall Try.prog f (.agg [.val (.int .i64 a), .val (.int .i64 b), .val (.bool s)] :: cap) (.val (.bool (pr (a, b, s))))) :
    PCall Try.prog 138 [rc C, .clos (.func f) [] cap] (.val (.int .i64 (fidx pr C))) := Try.indexFuncM_ok f cap C pr hC hcap fun _ _ => hf _ _ _
theorem Try.containsFunc_ok (f : FuncId) (cap : List SV) (C : List Con) (pr : Con → Bool) (hC : C.length ≤ 1048576) (hcap : ∀ H fu, viewL H fu cap = some cap)
    (hf : ∀ a b s, PCall Try.prog f (.agg [.val (.int .i64 a), .val (.int .i64 b), .val (.bool s)] :: cap) (.val (.bool (pr (a, b, s))))) :
    PCall Try.prog 145 [rc C, .clos (.func f) [] cap] (.val (.bool (C.any pr))) := Try.containsFuncM_ok f cap C pr hC hcap fun _ _ => hf _ _ _

def goodCon (n : Int) (c : Con) : Bool := inR c.1 0 (n - 1) && (inR c.2.1 0 (n - 1) && decide (c.1 < c.2.1))
def areCons (n : Int) (C : List Con) : Bool := inR n 1 8 && (decide (C.length ≤ 10) && C.all (goodCon n))

theorem Try.areConsFn_ok (n a b : Int) (s : Bool) (h1 : -9223372036854775807 ≤ n) (h2 : n ≤ 9223372036854775807) :
    PCall Try.prog 176 [.agg [.val (.int .i64 a), .val (.int .i64 b), .val (.bool s)], .rptr [.val (.int .i64 n)] 0] (.val (.bool (!goodCon n (a, b, s)))) := by
  refine FCall.pcall (R := fun r _ => r = .val (.bool (!goodCon n (a, b, s)))) ?_ 0 (by rintro r H rfl; exact view_bool)
  refine FCall.of_body Try.func176 rfl (by kernel_rfl) (by simp [Try.ntmps176]) ?_
  refine SW_of_vc Try.mixed _ _ _ (by kernel_rfl) ?_
  simp (disch := omega) only [Try.ntmps176, Try.results176, go_sem, Nat.reduceLT, Nat.reduceLeDiff, Nat.reduceEqDiff, Nat.reduceAdd, Nat.reduceSub, Nat.reduceMul, reduceIte, ↓reduceIte, reduceCtorEq, Int.reduceToNat, Int.reduceLE, Int.reduceLT, Int.reduceNeg, Int.reduceSub, Int.reduceAdd, Int.reduceMul]
  refine (Try.isItem_ok a n h1 h2).callV 0 (viewL_cons_of (view_int) (viewL_cons_of (view_int) viewL_nil_of)) ?_
  cases ha : inR a 0 (n - 1) with
  | false =>
    simp (disch := omega) only [Try.ntmps176, Try.results176, go_sem, Nat.reduceLT, Nat.reduceLeDiff, Nat.reduceEqDiff, Nat.reduceAdd, Nat.reduceSub, Nat.reduceMul, reduceIte, ↓reduceIte, reduceCtorEq, Int.reduceToNat, Int.reduceLE, Int.reduceLT, Int.reduceNeg, Int.reduceSub, Int.reduceAdd, Int.reduceMul]
    exact Fin.val (by simp [goodCon, ha])
  | true =>
    simp (disch := omega) only [Try.ntmps176, Try.results176, go_sem, Nat.reduceLT, Nat.reduceLeDiff, Nat.reduceEqDiff, Nat.reduceAdd, Nat.reduceSub, Nat.reduceMul, reduceIte, ↓reduceIte, reduceCtorEq, Int.reduceToNat, Int.reduceLE, Int.reduceLT, Int.reduceNeg, Int.reduceSub, Int.reduceAdd, Int.reduceMul]
    refine (Try.isItem_ok b n h1 h2).callV 0 (viewL_cons_of (view_int) (viewL_cons_of (view_int) viewL_nil_of)) ?_
    cases hb : inR b 0 (n - 1) with
    | false =>
      simp (disch := omega) only [Try.ntmps176, Try.results176, go_sem, Nat.reduceLT, Nat.reduceLeDiff, Nat.reduceEqDiff, Nat.reduceAdd, Nat.reduceSub, Nat.reduceMul, reduceIte, ↓reduceIte, reduceCtorEq, Int.reduceToNat, Int.reduceLE, Int.reduceLT, Int.reduceNeg, Int.reduceSub, Int.reduceAdd, Int.reduceMul]
      exact Fin.val (by simp [goodCon, hb])
    | true =>
      by_cases hab : a < b
      · simp (disch := omega) only [Try.ntmps176, Try.results176, go_sem, Nat.reduceLT, Nat.reduceLeDiff, Nat.reduceEqDiff, Nat.reduceAdd, Nat.reduceSub, Nat.reduceMul, reduceIte, ↓reduceIte, reduceCtorEq, Int.reduceToNat, Int.reduceLE, Int.reduceLT, Int.reduceNeg, Int.reduceSub, Int.reduceAdd, Int.reduceMul]
        exact Fin.val (by simp [goodCon, ha, hb, hab])
      · simp (disch := omega) only [Try.ntmps176, Try.results176, go_sem, Nat.reduceLT, Nat.reduceLeDiff, Nat.reduceEqDiff, Nat.reduceAdd, Nat.reduceSub, Nat.reduceMul, reduceIte, ↓reduceIte, reduceCtorEq, Int.reduceToNat, Int.reduceLE, Int.reduceLT, Int.reduceNeg, Int.reduceSub, Int.reduceAdd, Int.reduceMul]
        exact Fin.val (by simp [goodCon, hab])

theorem cap_rptr (cs : List SV) (off : Nat) : ∀ H fu, viewL H fu [.rptr cs off] = some [.rptr cs off] := fun _ _ => viewL_cons_of view_rptr viewL_nil_of

theorem not_any_not {C : List Con} {p : Con → Bool} : (!C.any fun c => !p c) = C.all p := by
  induction C with
  | nil => rfl
  | cons c C ih => simp only [List.any_cons, List.all_cons, ← ih]; cases p c <;> simp

set_option maxHeartbeats 1000000 in
theorem Try.implAreConstraints_ok (n : Int) (C : List Con) (hC : C.length ≤ 1048576) : PCall Try.prog 140 [.val (.int .i64 n), rc C] (.val (.bool (areCons n C))) := by
  refine FCall.pcall (R := fun r _ => r = .val (.bool (areCons n C))) ?_ 0 (by rintro r H rfl; exact view_bool)
  refine FCall.of_body Try.func140 rfl (by kernel_rfl) (by simp [Try.ntmps140]) ?_
  refine SW_of_vc Try.mixed _ _ _ (by kernel_rfl) ?_
  simp (disch := omega) only [Try.ntmps140, Try.results140, go_sem, Nat.reduceLT, Nat.reduceLeDiff, Nat.reduceEqDiff, Nat.reduceAdd, Nat.reduceSub, Nat.reduceMul, reduceIte, ↓reduceIte, reduceCtorEq, Int.reduceToNat, Int.reduceLE, Int.reduceLT, Int.reduceNeg, Int.reduceSub, Int.reduceAdd, Int.reduceMul, rc]
  refine (Try.within_ok _ _ _).callV 0 (viewL_cons_of (view_int) (viewL_cons_of (view_int) (viewL_cons_of (view_int) viewL_nil_of))) ?_
  cases hin : inR n 1 8 with
  | false =>
    simp (disch := omega) only [Try.ntmps140, Try.results140, go_sem, Nat.reduceLT, Nat.reduceLeDiff, Nat.reduceEqDiff, Nat.reduceAdd, Nat.reduceSub, Nat.reduceMul, reduceIte, ↓reduceIte, reduceCtorEq, Int.reduceToNat, Int.reduceLE, Int.reduceLT, Int.reduceNeg, Int.reduceSub, Int.reduceAdd, Int.reduceMul, rc]
    exact Fin.val (by simp [areCons, hin])
  | true =>
    obtain ⟨n1, n2⟩ := inR_of hin
    by_cases hl : C.length ≤ 10
    · simp (disch := omega) only [Try.ntmps140, Try.results140, go_sem, Nat.reduceLT, Nat.reduceLeDiff, Nat.reduceEqDiff, Nat.reduceAdd, Nat.reduceSub, Nat.reduceMul, reduceIte, ↓reduceIte, reduceCtorEq, Int.reduceToNat, Int.reduceLE, Int.reduceLT, Int.reduceNeg, Int.reduceSub, Int.reduceAdd, Int.reduceMul, rc]
      refine (Try.containsFunc_ok 176 [.rptr [.val (.int .i64 n)] 0] C (fun c => !goodCon n c) hC (cap_rptr _ _) (fun a b s => Try.areConsFn_ok n a b s (by omega) (by omega))).callV 2
        (viewL_cons_of view_row (viewL_cons_of (view_clos (viewL_cons_of (view_optr rfl (viewL_cons_of view_int viewL_nil_of)) viewL_nil_of)) viewL_nil_of)) ?_
      simp (disch := omega) only [Try.ntmps140, Try.results140, go_sem, Nat.reduceLT, Nat.reduceLeDiff, Nat.reduceEqDiff, Nat.reduceAdd, Nat.reduceSub, Nat.reduceMul, reduceIte, ↓reduceIte, reduceCtorEq, Int.reduceToNat, Int.reduceLE, Int.reduceLT, Int.reduceNeg, Int.reduceSub, Int.reduceAdd, Int.reduceMul, rc]
      exact Fin.val (by rw [not_any_not]; simp [areCons, hin, hl])
    · simp (disch := omega) only [Try.ntmps140, Try.results140, go_sem, Nat.reduceLT, Nat.reduceLeDiff, Nat.reduceEqDiff, Nat.reduceAdd, Nat.reduceSub, Nat.reduceMul, reduceIte, ↓reduceIte, reduceCtorEq, Int.reduceToNat, Int.reduceLE, Int.reduceLT, Int.reduceNeg, Int.reduceSub, Int.reduceAdd, Int.reduceMul, rc]
      exact Fin.val (by simp [areCons, hl])

set_option maxHeartbeats 2000000 in
theorem Try.specAreConstraints_ok (n : Int) (C : List Con) (hC : C.length ≤ 1048576) (g1 : -9223372036854775808 ≤ n) (g2 : n ≤ 9223372036854775807) : PCall Try.prog 76 [.val (.int .i64 n), rc C] (.val (.bool (areCons n C))) := by
  refine FCall.pcall (R := fun r _ => r = .val (.bool (areCons n C))) ?_ 0 (by rintro r H rfl; exact view_bool)
  refine FCall.of_body Try.func76 rfl (by kernel_rfl) (by simp [Try.ntmps76]) ?_
  refine SW_of_vc Try.mixed _ _ _ (by kernel_rfl) ?_
  have lC := cons_length C
  simp (disch := omega) only [Try.ntmps76, Try.results76, go_sem, Nat.reduceLT, Nat.reduceLeDiff, Nat.reduceEqDiff, Nat.reduceAdd, Nat.reduceSub, Nat.reduceMul, reduceIte, ↓reduceIte, reduceCtorEq, Int.reduceToNat, Int.reduceLE, Int.reduceLT, Int.reduceNeg, Int.reduceSub, Int.reduceAdd, Int.reduceMul, rc]
  have hgood : ∀ k, k < C.length → goodCon n (cg C k) = false → areCons n C = false := by
    intro k hk hg
    have : C.all (goodCon n) = false := by
      rw [List.all_eq_false]
      exact ⟨C[k], List.getElem_mem hk, by simpa [cg, hk] using hg⟩
    simp [areCons, this]
  refine LoopW.loop (fun k : Nat => ⟨ofL [(0, .val (.int .i64 n)), (1, rc C), (5, .val (.int .i64 k))], hp [] 0⟩) (fun k => k ≤ C.length ∧ (inR n 1 8 = true → ∀ i, i < k → goodCon n (cg C i) = true)) (fun k => C.length - k) 0 ⟨by omega, by simp⟩ (Wk.of (by simp only [go_sem, ↓List.forall_mem_cons, List.not_mem_nil, false_implies, implies_true, and_true, true_and, and_self, Nat.reduceEqDiff, reduceIte, ↓reduceIte, ri_eq, Int.natCast_add, Int.cast_ofNat_Int, rc]; try simp) rfl) ?_
  rintro k ⟨hk, hkk⟩
  refine SW_of_vc Try.mixed _ _ _ (by kernel_rfl) ?_
  by_cases hlt : k < C.length
  · obtain ⟨a, b, t, hc⟩ := con_ex C k
    obtain ⟨q0, q1, _, _⟩ := cons_of hlt hc
    by_cases hn : n = -9223372036854775808
    · have hin : inR n 1 8 = false := inR_f1 (by omega)
      have hr : areCons n C = false := by simp [areCons, hin]
      obtain ⟨z, hz⟩ : ∃ z, IntKind.i64.wrap (n - 1) = z := ⟨_, rfl⟩
      rcases Bool.eq_false_or_eq_true (inR a 0 z) with ha | ha
      · rcases Bool.eq_false_or_eq_true (inR b 0 z) with hb | hb
        · by_cases hab : a < b
          · simp (disch := omega) only [Try.ntmps76, Try.results76, go_sem, Nat.reduceLT, Nat.reduceLeDiff, Nat.reduceEqDiff, Nat.reduceAdd, Nat.reduceSub, Nat.reduceMul, reduceIte, ↓reduceIte, reduceCtorEq, Int.reduceToNat, Int.reduceLE, Int.reduceLT, Int.reduceNeg, Int.reduceSub, Int.reduceAdd, Int.reduceMul, hz, rc, q0, q1]
            refine (Try.l1In_ok _ _ _).callDV 0 (viewL_cons_of (view_int) (viewL_cons_of (view_int) (viewL_cons_of (view_int) viewL_nil_of))) ?_
            simp (disch := omega) only [Try.ntmps76, Try.results76, go_sem, Nat.reduceLT, Nat.reduceLeDiff, Nat.reduceEqDiff, Nat.reduceAdd, Nat.reduceSub, Nat.reduceMul, reduceIte, ↓reduceIte, reduceCtorEq, Int.reduceToNat, Int.reduceLE, Int.reduceLT, Int.reduceNeg, Int.reduceSub, Int.reduceAdd, Int.reduceMul, ha, hz, rc, q0, q1]
            refine (Try.l1In_ok _ _ _).callDV 0 (viewL_cons_of (view_int) (viewL_cons_of (view_int) (viewL_cons_of (view_int) viewL_nil_of))) ?_
            simp (disch := omega) only [Try.ntmps76, Try.results76, go_sem, Nat.reduceLT, Nat.reduceLeDiff, Nat.reduceEqDiff, Nat.reduceAdd, Nat.reduceSub, Nat.reduceMul, reduceIte, ↓reduceIte, reduceCtorEq, Int.reduceToNat, Int.reduceLE, Int.reduceLT, Int.reduceNeg, Int.reduceSub, Int.reduceAdd, Int.reduceMul, hb, ha, hz, rc, q0, q1]
            exact ⟨k + 1, ⟨by omega, fun h => by rw [hin] at h; cases h⟩, by omega, Wk.of (by simp only [go_sem, ↓List.forall_mem_cons, List.not_mem_nil, false_implies, implies_true, and_true, true_and, and_self, Nat.reduceEqDiff, reduceIte, ↓reduceIte, ri_eq, Int.natCast_add, Int.cast_ofNat_Int, rc]; try simp) rfl⟩
          · simp (disch := omega) only [Try.ntmps76, Try.results76, go_sem, Nat.reduceLT, Nat.reduceLeDiff, Nat.reduceEqDiff, Nat.reduceAdd, Nat.reduceSub, Nat.reduceMul, reduceIte, ↓reduceIte, reduceCtorEq, Int.reduceToNat, Int.reduceLE, Int.reduceLT, Int.reduceNeg, Int.reduceSub, Int.reduceAdd, Int.reduceMul, hz, rc, q0, q1]
            refine (Try.l1In_ok _ _ _).callDV 0 (viewL_cons_of (view_int) (viewL_cons_of (view_int) (viewL_cons_of (view_int) viewL_nil_of))) ?_
            simp (disch := omega) only [Try.ntmps76, Try.results76, go_sem, Nat.reduceLT, Nat.reduceLeDiff, Nat.reduceEqDiff, Nat.reduceAdd, Nat.reduceSub, Nat.reduceMul, reduceIte, ↓reduceIte, reduceCtorEq, Int.reduceToNat, Int.reduceLE, Int.reduceLT, Int.reduceNeg, Int.reduceSub, Int.reduceAdd, Int.reduceMul, ha, hz, rc, q0, q1]
            refine (Try.l1In_ok _ _ _).callDV 0 (viewL_cons_of (view_int) (viewL_cons_of (view_int) (viewL_cons_of (view_int) viewL_nil_of))) ?_
            simp (disch := omega) only [Try.ntmps76, Try.results76, go_sem, Nat.reduceLT, Nat.reduceLeDiff, Nat.reduceEqDiff, Nat.reduceAdd, Nat.reduceSub, Nat.reduceMul, reduceIte, ↓reduceIte, reduceCtorEq, Int.reduceToNat, Int.reduceLE, Int.reduceLT, Int.reduceNeg, Int.reduceSub, Int.reduceAdd, Int.reduceMul, hb, ha, hz, rc, q0, q1]
            exact Fin.val (by rw [hr])
        · simp (disch := omega) only [Try.ntmps76, Try.results76, go_sem, Nat.reduceLT, Nat.reduceLeDiff, Nat.reduceEqDiff, Nat.reduceAdd, Nat.reduceSub, Nat.reduceMul, reduceIte, ↓reduceIte, reduceCtorEq, Int.reduceToNat, Int.reduceLE, Int.reduceLT, Int.reduceNeg, Int.reduceSub, Int.reduceAdd, Int.reduceMul, hz, rc, q0, q1]
          refine (Try.l1In_ok _ _ _).callDV 0 (viewL_cons_of (view_int) (viewL_cons_of (view_int) (viewL_cons_of (view_int) viewL_nil_of))) ?_
          simp (disch := omega) only [Try.ntmps76, Try.results76, go_sem, Nat.reduceLT, Nat.reduceLeDiff, Nat.reduceEqDiff, Nat.reduceAdd, Nat.reduceSub, Nat.reduceMul, reduceIte, ↓reduceIte, reduceCtorEq, Int.reduceToNat, Int.reduceLE, Int.reduceLT, Int.reduceNeg, Int.reduceSub, Int.reduceAdd, Int.reduceMul, ha, hz, rc, q0, q1]
          refine (Try.l1In_ok _ _ _).callDV 0 (viewL_cons_of (view_int) (viewL_cons_of (view_int) (viewL_cons_of (view_int) viewL_nil_of))) ?_
          simp (disch := omega) only [Try.ntmps76, Try.results76, go_sem, Nat.reduceLT, Nat.reduceLeDiff, Nat.reduceEqDiff, Nat.reduceAdd, Nat.reduceSub, Nat.reduceMul, reduceIte, ↓reduceIte, reduceCtorEq, Int.reduceToNat, Int.reduceLE, Int.reduceLT, Int.reduceNeg, Int.reduceSub, Int.reduceAdd, Int.reduceMul, hb, ha, hz, rc, q0, q1]
          exact Fin.val (by rw [hr])
      · simp (disch := omega) only [Try.ntmps76, Try.results76, go_sem, Nat.reduceLT, Nat.reduceLeDiff, Nat.reduceEqDiff, Nat.reduceAdd, Nat.reduceSub, Nat.reduceMul, reduceIte, ↓reduceIte, reduceCtorEq, Int.reduceToNat, Int.reduceLE, Int.reduceLT, Int.reduceNeg, Int.reduceSub, Int.reduceAdd, Int.reduceMul, hz, rc, q0, q1]
        refine (Try.l1In_ok _ _ _).callDV 0 (viewL_cons_of (view_int) (viewL_cons_of (view_int) (viewL_cons_of (view_int) viewL_nil_of))) ?_
        simp (disch := omega) only [Try.ntmps76, Try.results76, go_sem, Nat.reduceLT, Nat.reduceLeDiff, Nat.reduceEqDiff, Nat.reduceAdd, Nat.reduceSub, Nat.reduceMul, reduceIte, ↓reduceIte, reduceCtorEq, Int.reduceToNat, Int.reduceLE, Int.reduceLT, Int.reduceNeg, Int.reduceSub, Int.reduceAdd, Int.reduceMul, ha, hz, rc, q0, q1]
        exact Fin.val (by rw [hr])
    · rcases Bool.eq_false_or_eq_true (inR a 0 (n - 1)) with ha | ha
      · rcases Bool.eq_false_or_eq_true (inR b 0 (n - 1)) with hb | hb
        · by_cases hab : a < b
          · simp (disch := omega) only [Try.ntmps76, Try.results76, go_sem, Nat.reduceLT, Nat.reduceLeDiff, Nat.reduceEqDiff, Nat.reduceAdd, Nat.reduceSub, Nat.reduceMul, reduceIte, ↓reduceIte, reduceCtorEq, Int.reduceToNat, Int.reduceLE, Int.reduceLT, Int.reduceNeg, Int.reduceSub, Int.reduceAdd, Int.reduceMul, rc, q0, q1]
            refine (Try.l1In_ok _ _ _).callDV 0 (viewL_cons_of (view_int) (viewL_cons_of (view_int) (viewL_cons_of (view_int) viewL_nil_of))) ?_
            simp (disch := omega) only [Try.ntmps76, Try.results76, go_sem, Nat.reduceLT, Nat.reduceLeDiff, Nat.reduceEqDiff, Nat.reduceAdd, Nat.reduceSub, Nat.reduceMul, reduceIte, ↓reduceIte, reduceCtorEq, Int.reduceToNat, Int.reduceLE, Int.reduceLT, Int.reduceNeg, Int.reduceSub, Int.reduceAdd, Int.reduceMul, ha, rc, q0, q1]
            refine (Try.l1In_ok _ _ _).callDV 0 (viewL_cons_of (view_int) (viewL_cons_of (view_int) (viewL_cons_of (view_int) viewL_nil_of))) ?_
            simp (disch := omega) only [Try.ntmps76, Try.results76, go_sem, Nat.reduceLT, Nat.reduceLeDiff, Nat.reduceEqDiff, Nat.reduceAdd, Nat.reduceSub, Nat.reduceMul, reduceIte, ↓reduceIte, reduceCtorEq, Int.reduceToNat, Int.reduceLE, Int.reduceLT, Int.reduceNeg, Int.reduceSub, Int.reduceAdd, Int.reduceMul, hb, ha, rc, q0, q1]
            refine ⟨k + 1, ⟨by omega, fun h i hi => ?_⟩, by omega, Wk.of (by simp only [go_sem, ↓List.forall_mem_cons, List.not_mem_nil, false_implies, implies_true, and_true, true_and, and_self, Nat.reduceEqDiff, reduceIte, ↓reduceIte, ri_eq, Int.natCast_add, Int.cast_ofNat_Int, rc]; try simp) rfl⟩
            rcases Nat.lt_succ_iff_lt_or_eq.mp hi with h' | rfl
            · exact hkk h i h'
            · simp [hc, goodCon, ha, hb, hab]
          · simp (disch := omega) only [Try.ntmps76, Try.results76, go_sem, Nat.reduceLT, Nat.reduceLeDiff, Nat.reduceEqDiff, Nat.reduceAdd, Nat.reduceSub, Nat.reduceMul, reduceIte, ↓reduceIte, reduceCtorEq, Int.reduceToNat, Int.reduceLE, Int.reduceLT, Int.reduceNeg, Int.reduceSub, Int.reduceAdd, Int.reduceMul, rc, q0, q1]
            refine (Try.l1In_ok _ _ _).callDV 0 (viewL_cons_of (view_int) (viewL_cons_of (view_int) (viewL_cons_of (view_int) viewL_nil_of))) ?_
            simp (disch := omega) only [Try.ntmps76, Try.results76, go_sem, Nat.reduceLT, Nat.reduceLeDiff, Nat.reduceEqDiff, Nat.reduceAdd, Nat.reduceSub, Nat.reduceMul, reduceIte, ↓reduceIte, reduceCtorEq, Int.reduceToNat, Int.reduceLE, Int.reduceLT, Int.reduceNeg, Int.reduceSub, Int.reduceAdd, Int.reduceMul, ha, rc, q0, q1]
            refine (Try.l1In_ok _ _ _).callDV 0 (viewL_cons_of (view_int) (viewL_cons_of (view_int) (viewL_cons_of (view_int) viewL_nil_of))) ?_
            simp (disch := omega) only [Try.ntmps76, Try.results76, go_sem, Nat.reduceLT, Nat.reduceLeDiff, Nat.reduceEqDiff, Nat.reduceAdd, Nat.reduceSub, Nat.reduceMul, reduceIte, ↓reduceIte, reduceCtorEq, Int.reduceToNat, Int.reduceLE, Int.reduceLT, Int.reduceNeg, Int.reduceSub, Int.reduceAdd, Int.reduceMul, hb, ha, rc, q0, q1]
            exact Fin.val (by rw [hgood k hlt (by simp [hc, goodCon, hab])])
        · simp (disch := omega) only [Try.ntmps76, Try.results76, go_sem, Nat.reduceLT, Nat.reduceLeDiff, Nat.reduceEqDiff, Nat.reduceAdd, Nat.reduceSub, Nat.reduceMul, reduceIte, ↓reduceIte, reduceCtorEq, Int.reduceToNat, Int.reduceLE, Int.reduceLT, Int.reduceNeg, Int.reduceSub, Int.reduceAdd, Int.reduceMul, rc, q0, q1]
          refine (Try.l1In_ok _ _ _).callDV 0 (viewL_cons_of (view_int) (viewL_cons_of (view_int) (viewL_cons_of (view_int) viewL_nil_of))) ?_
          simp (disch := omega) only [Try.ntmps76, Try.results76, go_sem, Nat.reduceLT, Nat.reduceLeDiff, Nat.reduceEqDiff, Nat.reduceAdd, Nat.reduceSub, Nat.reduceMul, reduceIte, ↓reduceIte, reduceCtorEq, Int.reduceToNat, Int.reduceLE, Int.reduceLT, Int.reduceNeg, Int.reduceSub, Int.reduceAdd, Int.reduceMul, ha, rc, q0, q1]
          refine (Try.l1In_ok _ _ _).callDV 0 (viewL_cons_of (view_int) (viewL_cons_of (view_int) (viewL_cons_of (view_int) viewL_nil_of))) ?_
          simp (disch := omega) only [Try.ntmps76, Try.results76, go_sem, Nat.reduceLT, Nat.reduceLeDiff, Nat.reduceEqDiff, Nat.reduceAdd, Nat.reduceSub, Nat.reduceMul, reduceIte, ↓reduceIte, reduceCtorEq, Int.reduceToNat, Int.reduceLE, Int.reduceLT, Int.reduceNeg, Int.reduceSub, Int.reduceAdd, Int.reduceMul, hb, ha, rc, q0, q1]
          exact Fin.val (by rw [hgood k hlt (by simp [hc, goodCon, hb])])
      · simp (disch := omega) only [Try.ntmps76, Try.results76, go_sem, Nat.reduceLT, Nat.reduceLeDiff, Nat.reduceEqDiff, Nat.reduceAdd, Nat.reduceSub, Nat.reduceMul, reduceIte, ↓reduceIte, reduceCtorEq, Int.reduceToNat, Int.reduceLE, Int.reduceLT, Int.reduceNeg, Int.reduceSub, Int.reduceAdd, Int.reduceMul, rc, q0, q1]
        refine (Try.l1In_ok _ _ _).callDV 0 (viewL_cons_of (view_int) (viewL_cons_of (view_int) (viewL_cons_of (view_int) viewL_nil_of))) ?_
        simp (disch := omega) only [Try.ntmps76, Try.results76, go_sem, Nat.reduceLT, Nat.reduceLeDiff, Nat.reduceEqDiff, Nat.reduceAdd, Nat.reduceSub, Nat.reduceMul, reduceIte, ↓reduceIte, reduceCtorEq, Int.reduceToNat, Int.reduceLE, Int.reduceLT, Int.reduceNeg, Int.reduceSub, Int.reduceAdd, Int.reduceMul, ha, rc, q0, q1]
        exact Fin.val (by rw [hgood k hlt (by simp [hc, goodCon, ha])])
  · obtain rfl : k = C.length := by omega
    simp (disch := omega) only [Try.ntmps76, Try.results76, go_sem, Nat.reduceLT, Nat.reduceLeDiff, Nat.reduceEqDiff, Nat.reduceAdd, Nat.reduceSub, Nat.reduceMul, reduceIte, ↓reduceIte, reduceCtorEq, Int.reduceToNat, Int.reduceLE, Int.reduceLT, Int.reduceNeg, Int.reduceSub, Int.reduceAdd, Int.reduceMul, rc]
    refine (Try.l1In_ok _ _ _).callV 0 (viewL_cons_of (view_int) (viewL_cons_of (view_int) (viewL_cons_of (view_int) viewL_nil_of))) ?_
    rcases Bool.eq_false_or_eq_true (inR n 1 8) with hin | hin
    · have hall : C.all (goodCon n) = true := by
        rw [List.all_eq_true]
        intro c hc
        obtain ⟨i, hi, e⟩ := List.getElem_of_mem hc
        have := hkk hin i hi
        simpa [cg, hi, e] using this
      by_cases hl : C.length ≤ 10
      · simp (disch := omega) only [Try.ntmps76, Try.results76, go_sem, Nat.reduceLT, Nat.reduceLeDiff, Nat.reduceEqDiff, Nat.reduceAdd, Nat.reduceSub, Nat.reduceMul, reduceIte, ↓reduceIte, reduceCtorEq, Int.reduceToNat, Int.reduceLE, Int.reduceLT, Int.reduceNeg, Int.reduceSub, Int.reduceAdd, Int.reduceMul, hin, rc]
        exact Fin.val (by rw [areCons, hin, hall]; simp [hl])
      · simp (disch := omega) only [Try.ntmps76, Try.results76, go_sem, Nat.reduceLT, Nat.reduceLeDiff, Nat.reduceEqDiff, Nat.reduceAdd, Nat.reduceSub, Nat.reduceMul, reduceIte, ↓reduceIte, reduceCtorEq, Int.reduceToNat, Int.reduceLE, Int.reduceLT, Int.reduceNeg, Int.reduceSub, Int.reduceAdd, Int.reduceMul, hin, rc]
        exact Fin.val (by rw [areCons, hin, hall]; simp [hl])
    · simp (disch := omega) only [Try.ntmps76, Try.results76, go_sem, Nat.reduceLT, Nat.reduceLeDiff, Nat.reduceEqDiff, Nat.reduceAdd, Nat.reduceSub, Nat.reduceMul, reduceIte, ↓reduceIte, reduceCtorEq, Int.reduceToNat, Int.reduceLE, Int.reduceLT, Int.reduceNeg, Int.reduceSub, Int.reduceAdd, Int.reduceMul, hin, rc]
      exact Fin.val (by simp [areCons, hin])
end Go.Sh

/-
  Contracts: the graph of the must-link constraints, its components. Of the reference and of the program.
-/
namespace Go.Sh
set_option linter.unusedSimpArgs false
set_option linter.unusedVariables false
open Go Go.Proofs

def linkB (c : Con) (x y : Nat) : Bool := c.2.2 && (decide (c.1 = x ∧ c.2.1 = y) || decide (c.1 = y ∧ c.2.1 = x))
def mustB (C : List Con) (x y : Nat) : Bool := C.any fun c => linkB c x y
theorem linkB_sym (c : Con) (x y : Nat) : linkB c x y = linkB c y x := by simp only [linkB]; rw [Bool.or_comm]
theorem mustB_sym (C : List Con) (x y : Nat) : mustB C x y = mustB C y x := by
  simp only [mustB]; congr 1; funext c; exact linkB_sym c x y
theorem mustB_succ {C : List Con} {k : Nat} (h : k < C.length) (x y : Nat) : mustB (C.take (k + 1)) x y = (mustB (C.take k) x y || linkB (cg C k) x y) := by
  have e : cg C k = C[k] := by simp [cg, h]
  rw [mustB, List.take_succ_eq_append_getElem h, List.any_append, e]
  simp [mustB]
theorem areCons_t {n : Int} {C : List Con} (h : areCons n C = true) : (1 ≤ n ∧ n ≤ 8) ∧ C.length ≤ 10 ∧ ∀ c ∈ C, 0 ≤ c.1 ∧ c.1 < c.2.1 ∧ c.2.1 < n := by
  simp only [areCons, Bool.and_eq_true] at h
  refine ⟨inR_of h.1, of_decide_eq_true h.2.1, fun c hc => ?_⟩
  have := List.all_eq_true.1 h.2.2 c hc
  simp only [goodCon, Bool.and_eq_true] at this
  have h1 := inR_of this.1
  have h2 := inR_of this.2.1
  have h3 := of_decide_eq_true this.2.2
  omega
theorem cg_mem {C : List Con} {k : Nat} (h : k < C.length) : cg C k ∈ C := by simp [cg, h]
theorem con_nat {n : Int} {C : List Con} (h : areCons n C = true) {k : Nat} (hk : k < C.length) : ∃ (x y : Nat) (s : Bool), cg C k = ((x : Int), (y : Int), s) ∧ x < y ∧ (y : Int) < n := by
  obtain ⟨a, b, s, hc⟩ := con_ex C k
  have := (areCons_t h).2.2 _ (cg_mem hk)
  rw [hc] at this
  simp only at this
  refine ⟨a.toNat, b.toNat, s, ?_, by omega, by omega⟩
  rw [hc]
  congr 1
  · omega
  · congr 1; omega
theorem linkB_at (x y : Nat) (s : Bool) (a b : Nat) : linkB ((x : Int), (y : Int), s) a b = (s && (decide (x = a ∧ y = b) || decide (x = b ∧ y = a))) := by
  simp only [linkB]
  congr 1
  have e1 : ((x : Int) = a ∧ (y : Int) = b) ↔ (x = a ∧ y = b) := by omega
  have e2 : ((x : Int) = b ∧ (y : Int) = a) ↔ (x = b ∧ y = a) := by omega
  rw [decide_eq_decide.2 e1, decide_eq_decide.2 e2]
def mustM (n : Nat) (C : List Con) : List (List Int) := genM n fun x y => bint (mustB C x y)

set_option maxHeartbeats 4000000 in
theorem Try.mustMatrix_f (n : Nat) (C : List Con) (h : areCons n C = true) : FCall Try.prog 96 [.val (.int .i64 n), rc C] (MatRes (mi (mustM n C))) := by
  obtain ⟨hn, hC, hg⟩ := areCons_t h
  have hn8 : n ≤ 8 := by omega
  have lC := cons_length C
  refine FCall.of_body Try.func96 rfl (by kernel_rfl) (by simp [Try.ntmps96]) ?_
  refine SW_of_vc2 (onD 6 [(30, 32)] []) Try.mixed _ _ _ (by kernel_rfl) ?_
  simp (disch := omega) only [Try.ntmps96, Try.results96, go_sem, Nat.reduceLT, Nat.reduceLeDiff, Nat.reduceEqDiff, Nat.reduceAdd, Nat.reduceSub, Nat.reduceMul, reduceIte, ↓reduceIte, reduceCtorEq, Int.reduceToNat, Int.reduceLE, Int.reduceLT, Int.reduceNeg, Int.reduceSub, Int.reduceAdd, Int.reduceMul, rc]
  refine (Try.square_one n (by omega)).callMat (mi_vals _) 0 (viewL_cons_of (view_int) viewL_nil_of) ?_
  simp (disch := omega) only [Try.ntmps96, Try.results96, go_sem, Nat.reduceLT, Nat.reduceLeDiff, Nat.reduceEqDiff, Nat.reduceAdd, Nat.reduceSub, Nat.reduceMul, reduceIte, ↓reduceIte, reduceCtorEq, Int.reduceToNat, Int.reduceLE, Int.reduceLT, Int.reduceNeg, Int.reduceSub, Int.reduceAdd, Int.reduceMul, rc, zs_length]
  refine LoopW.loop (fun p : Nat × List (List Int) × Nat => ⟨ofL [(5, .own 0 0 n n 1 false), (10, rc C), (11, .val (.int .i64 C.length)), (12, .val (.int .i64 p.1))], hx [.mat 0 (mi p.2.1)] p.2.2⟩)
    (fun p => p.1 ≤ C.length ∧ SqI n p.2.1 ∧ n < p.2.2 ∧ ∀ x y, x < n → y < n → mat p.2.1 x y = bint (mustB (C.take p.1) x y)) (fun p => C.length - p.1) (0, zs n, n + 1) ⟨by simp, .zs n, by simp, fun x y _ _ => zs_at⟩
    (Wk.ofX (by simp only [go_sem, ↓List.forall_mem_cons, List.not_mem_nil, false_implies, implies_true, and_true, true_and, and_self, Nat.reduceEqDiff, reduceIte, ↓reduceIte, ri_eq, Int.natCast_add, Int.cast_ofNat_Int, rc]; try simp) (by simp only [List.forall_mem_cons]; exact ⟨.self, by simp⟩) (Nat.le_refl _)) ?_
  rintro ⟨k, M, nb⟩ ⟨hk, hM, hnb, hMM⟩
  simp only at hk hM hnb hMM
  have hM1 := hM.1
  refine SW_of_vc2 (onD 6 [(30, 32)] []) Try.mixed _ _ _ (by kernel_rfl) ?_
  by_cases hlt : k < C.length
  · obtain ⟨x, y, s, hc, hxy, hyn⟩ := con_nat h hlt
    have hy : y < n := by omega
    have hx : x < n := by omega
    obtain ⟨q0, q1, q2, q3⟩ := cons_of hlt hc
    have hsucc := mustB_succ hlt
    rw [hc] at hsucc
    have r1 := hM.2 x hx
    have r2 := hM.2 y hy
    have l2 : (mset M x y 1).length = n := by rw [mset_length, hM1]
    have r3 : (mrow (mset M x y 1) y).length = n := by rw [mset_row_length, r2]
    cases s with
    | true =>
      have hnew : ∀ a b, a < n → b < n → mat (mset (mset M x y 1) y x 1) a b = bint (mustB (C.take (k + 1)) a b) := by
        intro a b ha hb
        rw [mset_at _ _ _ _ (by omega) (by omega), mset_at _ _ _ _ (by omega) (by omega), hMM a b ha hb, hsucc, linkB_at]
        by_cases e1 : a = y ∧ b = x
        · have : (decide (x = a ∧ y = b) || decide (x = b ∧ y = a)) = true := by simp; omega
          rw [if_pos e1, this]; simp [bint]
        · rw [if_neg e1]
          by_cases e2 : a = x ∧ b = y
          · have : (decide (x = a ∧ y = b) || decide (x = b ∧ y = a)) = true := by simp; omega
            rw [if_pos e2, this]; simp [bint]
          · have : (decide (x = a ∧ y = b) || decide (x = b ∧ y = a)) = false := by simp; omega
            rw [if_neg e2, this]; simp
      simp (disch := omega) only [Try.ntmps96, Try.results96, go_sem, Nat.reduceLT, Nat.reduceLeDiff, Nat.reduceEqDiff, Nat.reduceAdd, Nat.reduceSub, Nat.reduceMul, reduceIte, ↓reduceIte, reduceCtorEq, Int.reduceToNat, Int.reduceLE, Int.reduceLT, Int.reduceNeg, Int.reduceSub, Int.reduceAdd, Int.reduceMul, rc, q3, lC, outerB_getI, xmap_skipI, xmap_rowI, xset_rowI, xset_skipI, r1, r2, r3]
      refine ⟨(k + 1, mset (mset M x y 1) y x 1, nb + 1), ⟨hlt, (hM.set _ _ _).set _ _ _, by show n < nb + 1; omega, hnew⟩, by show C.length - (k + 1) < C.length - k; omega, ?_⟩
      exact Wk.ofX (by simp only [go_sem, ↓List.forall_mem_cons, List.not_mem_nil, false_implies, implies_true, and_true, true_and, and_self, Nat.reduceEqDiff, reduceIte, ↓reduceIte, ri_eq, Int.natCast_add, Int.cast_ofNat_Int, rc]; try simp) (by simp only [List.forall_mem_cons]; exact ⟨EntIn.self.skipM (by simp only [mi_length, mset_length]; omega), by simp⟩) (Nat.le_refl _)
    | false =>
      have hnew : ∀ a b, a < n → b < n → mat M a b = bint (mustB (C.take (k + 1)) a b) := by
        intro a b ha hb
        rw [hMM a b ha hb, hsucc, linkB_at]; simp
      simp (disch := omega) only [Try.ntmps96, Try.results96, go_sem, Nat.reduceLT, Nat.reduceLeDiff, Nat.reduceEqDiff, Nat.reduceAdd, Nat.reduceSub, Nat.reduceMul, reduceIte, ↓reduceIte, reduceCtorEq, Int.reduceToNat, Int.reduceLE, Int.reduceLT, Int.reduceNeg, Int.reduceSub, Int.reduceAdd, Int.reduceMul, rc, q3, lC]
      refine ⟨(k + 1, M, nb + 1), ⟨hlt, hM, by show n < nb + 1; omega, hnew⟩, by show C.length - (k + 1) < C.length - k; omega, ?_⟩
      exact Wk.ofX (by simp only [go_sem, ↓List.forall_mem_cons, List.not_mem_nil, false_implies, implies_true, and_true, true_and, and_self, Nat.reduceEqDiff, reduceIte, ↓reduceIte, ri_eq, Int.natCast_add, Int.cast_ofNat_Int, rc]; try simp) (by simp only [List.forall_mem_cons]; exact ⟨EntIn.self.skipM (by simp only [mi_length]; omega), by simp⟩) (Nat.le_refl _)
  · obtain rfl : k = C.length := by omega
    rw [List.take_length] at hMM
    have he : M = mustM n C := hM.ext (genM_sq n _) fun x y hx hy => by rw [hMM x y hx hy, mustM, genM_at hx hy]
    simp (disch := omega) only [Try.ntmps96, Try.results96, go_sem, Nat.reduceLT, Nat.reduceLeDiff, Nat.reduceEqDiff, Nat.reduceAdd, Nat.reduceSub, Nat.reduceMul, reduceIte, ↓reduceIte, reduceCtorEq, Int.reduceToNat, Int.reduceLE, Int.reduceLT, Int.reduceNeg, Int.reduceSub, Int.reduceAdd, Int.reduceMul, rc]
    rw [← he]
    exact fin_mat .self (mi_vals _) (by rw [mi_length, hM1])
theorem mustM_wm {n : Nat} {C : List Con} (h : areCons n C = true) : WM (mustM n C) := by
  obtain ⟨hn, hC, hg⟩ := areCons_t h
  have hs := genM_sq n fun x y => bint (mustB C x y)
  have hb : ∀ b, 0 ≤ bint b ∧ bint b ≤ 1 := fun b => by cases b <;> simp [bint]
  have e1 : (mustM n C).length = n := hs.1
  refine ⟨by rw [e1]; omega, fun i hi => by rw [e1] at hi ⊢; exact hs.2 i hi, fun i k hi hk => ?_, fun i hi => ?_⟩
  · rw [e1] at hi hk
    rw [mustM, genM_at hi hk, genM_at hk hi, mustB_sym]
    have := hb (mustB C k i)
    exact ⟨by omega, rfl⟩
  · rw [e1] at hi
    rw [mustM, genM_at hi hi]
    have : mustB C i i = false := by
      rw [mustB, List.any_eq_false]
      intro c hc
      have := hg c hc
      simp only [linkB]
      simp
      omega
    rw [this]; rfl
theorem mustM_pB {n : Nat} {C : List Con} {x y : Nat} (hx : x < n) (hy : y < n) : pB (mustM n C) x y = mustB C x y := by
  rw [pB, mustM, genM_at hx hy]
  cases mustB C x y <;> simp [bint]
theorem mustM_length (n : Nat) (C : List Con) : (mustM n C).length = n := (genM_sq n _).1
/-- The component of each item in the graph of the must-link constraints. -/
noncomputable def must (n : Int) (C : List Con) : List Int := if areCons n C = true then comp n.toNat (mustB C) else []
theorem must_t {n : Int} {C : List Con} (h : areCons n C = true) : must n C = comp n.toNat (mustB C) := by rw [must, if_pos h]
theorem must_f {n : Int} {C : List Con} (h : areCons n C = false) : must n C = [] := by rw [must, if_neg (by rw [h]; simp)]
theorem must_ok {n : Nat} {C : List Con} : CompL n (mustB C) (comp n (mustB C)) := comp_ok fun x y _ _ h => by rw [mustB_sym]; exact h
theorem must_length {n : Int} {C : List Con} (h : areCons n C = true) : (must n C).length = n.toNat := by rw [must_t h]; exact must_ok.len
theorem must_pcomp {n : Nat} {C : List Con} (h : areCons n C = true) : pcomp (mustM n C) = comp n (mustB C) := by
  have hw := mustM_wm h
  rw [pcomp_t hw, mustM_length]
  have hc := comp_ok (n := n) (B := pB (mustM n C)) (by have := hw.sym; rwa [mustM_length] at this)
  exact (hc.congr fun x y hx hy => mustM_pB hx hy).eq.symm ▸ rfl

set_option maxHeartbeats 1000000 in
theorem Try.implMust_f (n : Int) (C : List Con) (hC : C.length ≤ 1048576) (h : areCons n C = true) : FCall Try.prog 74 [.val (.int .i64 n), rc C] (FlatRes n.toNat 1 (ints (must n C))) := by
  obtain ⟨⟨n1, n2⟩, _, _⟩ := areCons_t h
  obtain ⟨m, rfl⟩ := Int.eq_ofNat_of_zero_le (by omega : 0 ≤ n)
  have w1 := Try.implAreConstraints_ok m C hC
  rw [h] at w1
  have hw := mustM_wm h
  have hl := mustM_length m C
  have w3 := Try.implPC_one (mustM m C) (by rw [hl]; omega) (fun i hi => by rw [hw.2.1 i hi, hl]; omega) hw
  have hp := must_pcomp h
  rw [must_t h, Int.toNat_natCast]
  rw [hp, hl] at w3
  refine FCall.of_body Try.func74 rfl (by kernel_rfl) (by simp [Try.ntmps74]) ?_
  refine SW_of_vc Try.mixed _ _ _ (by kernel_rfl) ?_
  simp (disch := omega) only [Try.ntmps74, Try.results74, go_sem, Nat.reduceLT, Nat.reduceLeDiff, Nat.reduceEqDiff, Nat.reduceAdd, Nat.reduceSub, Nat.reduceMul, reduceIte, ↓reduceIte, reduceCtorEq, Int.reduceToNat, Int.reduceLE, Int.reduceLT, Int.reduceNeg, Int.reduceSub, Int.reduceAdd, Int.reduceMul, rc]
  refine w1.callV 0 (viewL_cons_of (view_int) (viewL_cons_of (view_row) viewL_nil_of)) ?_
  simp (disch := omega) only [Try.ntmps74, Try.results74, go_sem, Nat.reduceLT, Nat.reduceLeDiff, Nat.reduceEqDiff, Nat.reduceAdd, Nat.reduceSub, Nat.reduceMul, reduceIte, ↓reduceIte, reduceCtorEq, Int.reduceToNat, Int.reduceLE, Int.reduceLT, Int.reduceNeg, Int.reduceSub, Int.reduceAdd, Int.reduceMul, rc]
  refine (Try.mustMatrix_f m C h).mat.callMat (mi_vals _) 0 (viewL_cons_of (view_int) (viewL_cons_of (view_row) viewL_nil_of)) ?_
  simp (disch := omega) only [Try.ntmps74, Try.results74, go_sem, Nat.reduceLT, Nat.reduceLeDiff, Nat.reduceEqDiff, Nat.reduceAdd, Nat.reduceSub, Nat.reduceMul, reduceIte, ↓reduceIte, reduceCtorEq, Int.reduceToNat, Int.reduceLE, Int.reduceLT, Int.reduceNeg, Int.reduceSub, Int.reduceAdd, Int.reduceMul, rc, hl]
  refine w3.callOne (ints_vals _) 2 (viewL_cons_of (view_mi .self hl.symm) viewL_nil_of) ?_
  simp (disch := omega) only [Try.ntmps74, Try.results74, go_sem, Nat.reduceLT, Nat.reduceLeDiff, Nat.reduceEqDiff, Nat.reduceAdd, Nat.reduceSub, Nat.reduceMul, reduceIte, ↓reduceIte, reduceCtorEq, Int.reduceToNat, Int.reduceLE, Int.reduceLT, Int.reduceNeg, Int.reduceSub, Int.reduceAdd, Int.reduceMul, rc]
  exact fin_ints must_ok.len.symm (by rw [hx_map, xmap_blk, if_pos rfl])
theorem Try.implMust_nil (n : Int) (C : List Con) (hC : C.length ≤ 1048576) (h : areCons n C = false) : FCall Try.prog 74 [.val (.int .i64 n), rc C] (fun r _ => r = .val (.slice none 0 0)) := by
  have w1 := Try.implAreConstraints_ok n C hC
  rw [h] at w1
  refine FCall.of_body Try.func74 rfl (by kernel_rfl) (by simp [Try.ntmps74]) ?_
  refine SW_of_vc Try.mixed _ _ _ (by kernel_rfl) ?_
  simp (disch := omega) only [Try.ntmps74, Try.results74, go_sem, Nat.reduceLT, Nat.reduceLeDiff, Nat.reduceEqDiff, Nat.reduceAdd, Nat.reduceSub, Nat.reduceMul, reduceIte, ↓reduceIte, reduceCtorEq, Int.reduceToNat, Int.reduceLE, Int.reduceLT, Int.reduceNeg, Int.reduceSub, Int.reduceAdd, Int.reduceMul, rc]
  refine w1.callV 0 (viewL_cons_of (view_int) (viewL_cons_of (view_row) viewL_nil_of)) ?_
  simp (disch := omega) only [Try.ntmps74, Try.results74, go_sem, Nat.reduceLT, Nat.reduceLeDiff, Nat.reduceEqDiff, Nat.reduceAdd, Nat.reduceSub, Nat.reduceMul, reduceIte, ↓reduceIte, reduceCtorEq, Int.reduceToNat, Int.reduceLE, Int.reduceLT, Int.reduceNeg, Int.reduceSub, Int.reduceAdd, Int.reduceMul, rc]
  exact Fin.val rfl
theorem Try.implMust_one (n : Int) (C : List Con) (hC : C.length ≤ 1048576) (h : areCons n C = true) : FCall Try.prog 74 [.val (.int .i64 n), rc C] (OneRes n.toNat 1 (ints (must n C))) := (Try.implMust_f n C hC h).one
theorem Try.implMust_ok (n : Int) (C : List Con) (hC : C.length ≤ 1048576) : PCall Try.prog 74 [.val (.int .i64 n), rc C] (ri (must n C)) := by
  rcases Bool.eq_false_or_eq_true (areCons n C) with h | h
  · exact (Try.implMust_f n C hC h).pcall 2 (fun _ _ h => flat_view h)
  · rw [must_f h]; exact (Try.implMust_nil n C hC h).pcall 0 (by rintro r H rfl; exact view_nil)
end Go.Sh

/-
  Contracts: the components of the must-link constraints, of the reference.
-/
namespace Go.Sh
set_option linter.unusedSimpArgs false
set_option linter.unusedVariables false
open Go Go.Proofs

set_option maxHeartbeats 4000000 in
theorem Try.specMust_f (n : Int) (C : List Con) (hC : C.length ≤ 1048576) (h : areCons n C = true) : FCall Try.prog 75 [.val (.int .i64 n), rc C] (FlatRes n.toNat 1 (ints (must n C))) := by
  obtain ⟨⟨n1, n2⟩, hC10, hg⟩ := areCons_t h
  obtain ⟨m, rfl⟩ := Int.eq_ofNat_of_zero_le (by omega : 0 ≤ n)
  have w1 := Try.specAreConstraints_ok m C hC (by omega) (by omega)
  rw [h] at w1
  have lC := cons_length C
  rw [must_t h, Int.toNat_natCast]
  refine FCall.of_body Try.func75 rfl (by kernel_rfl) (by simp [Try.ntmps75]) ?_
  refine SW_of_vc Try.mixed _ _ _ (by kernel_rfl) ?_
  simp (disch := omega) only [Try.ntmps75, Try.results75, go_sem, Nat.reduceLT, Nat.reduceLeDiff, Nat.reduceEqDiff, Nat.reduceAdd, Nat.reduceSub, Nat.reduceMul, reduceIte, ↓reduceIte, reduceCtorEq, Int.reduceToNat, Int.reduceLE, Int.reduceLT, Int.reduceNeg, Int.reduceSub, Int.reduceAdd, Int.reduceMul, rc]
  refine w1.callV 0 (viewL_cons_of (view_int) (viewL_cons_of (view_row) viewL_nil_of)) ?_
  simp (disch := omega) only [Try.ntmps75, Try.results75, go_sem, Nat.reduceLT, Nat.reduceLeDiff, Nat.reduceEqDiff, Nat.reduceAdd, Nat.reduceSub, Nat.reduceMul, reduceIte, ↓reduceIte, reduceCtorEq, Int.reduceToNat, Int.reduceLE, Int.reduceLT, Int.reduceNeg, Int.reduceSub, Int.reduceAdd, Int.reduceMul, rc]
  refine (Try.l17Links_one m (by omega)).callMat (mb_vals _) 0 (viewL_cons_of (view_int) viewL_nil_of) ?_
  simp (disch := omega) only [Try.ntmps75, Try.results75, go_sem, Nat.reduceLT, Nat.reduceLeDiff, Nat.reduceEqDiff, Nat.reduceAdd, Nat.reduceSub, Nat.reduceMul, reduceIte, ↓reduceIte, reduceCtorEq, Int.reduceToNat, Int.reduceLE, Int.reduceLT, Int.reduceNeg, Int.reduceSub, Int.reduceAdd, Int.reduceMul, rc, bz_length]
  refine LoopW.loop (fun p : Nat × List (List Bool) => ⟨ofL [(0, .val (.int .i64 m)), (1, rc C), (5, .own 0 0 m m 1 false), (6, .val (.int .i64 p.1))], hx [.mat 0 (mb p.2)] (m + 1)⟩)
    (fun p => p.1 ≤ C.length ∧ Sq m p.2 ∧ ∀ x y, x < m → y < m → bmat p.2 x y = mustB (C.take p.1) x y) (fun p => C.length - p.1) (0, bz m) ⟨by simp, .bz _, fun x y _ _ => by simpa [mustB] using bz_at⟩
    (Wk.ofX (by simp only [go_sem, ↓List.forall_mem_cons, List.not_mem_nil, false_implies, implies_true, and_true, true_and, and_self, Nat.reduceEqDiff, reduceIte, ↓reduceIte, ri_eq, Int.natCast_add, Int.cast_ofNat_Int, rc]; try simp) (by simp only [List.forall_mem_cons]; exact ⟨.self, by simp⟩) (Nat.le_refl _)) ?_
  rintro ⟨k, X⟩ ⟨hk, hX, hXX⟩
  simp only at hk hX hXX
  have hX1 := hX.1
  refine SW_of_vc Try.mixed _ _ _ (by kernel_rfl) ?_
  by_cases hlt : k < C.length
  · obtain ⟨x, y, s, hc, hxy, hyn⟩ := con_nat h hlt
    have hy : y < m := by omega
    have hx : x < m := by omega
    obtain ⟨q0, q1, q2, q3⟩ := cons_of hlt hc
    have hsucc := mustB_succ hlt
    rw [hc] at hsucc
    have r1 := hX.2 x hx
    have r2 := hX.2 y hy
    have l2 : (bset X x y true).length = m := by rw [bset_length, hX1]
    have r3 : (brow (bset X x y true) y).length = m := by rw [bset_row_length, r2]
    cases s with
    | true =>
      have hnew : ∀ a b, a < m → b < m → bmat (bset (bset X x y true) y x true) a b = mustB (C.take (k + 1)) a b := by
        intro a b ha hb
        rw [bset_at _ _ _ _ (by omega) (by omega), bset_at _ _ _ _ (by omega) (by omega), hXX a b ha hb, hsucc, linkB_at]
        by_cases e1 : a = y ∧ b = x
        · have : (decide (x = a ∧ y = b) || decide (x = b ∧ y = a)) = true := by simp; omega
          rw [if_pos e1, this]; simp
        · rw [if_neg e1]
          by_cases e2 : a = x ∧ b = y
          · have : (decide (x = a ∧ y = b) || decide (x = b ∧ y = a)) = true := by simp; omega
            rw [if_pos e2, this]; simp
          · have : (decide (x = a ∧ y = b) || decide (x = b ∧ y = a)) = false := by simp; omega
            rw [if_neg e2, this]; simp
      simp (disch := omega) only [Try.ntmps75, Try.results75, go_sem, Nat.reduceLT, Nat.reduceLeDiff, Nat.reduceEqDiff, Nat.reduceAdd, Nat.reduceSub, Nat.reduceMul, reduceIte, ↓reduceIte, reduceCtorEq, Int.reduceToNat, Int.reduceLE, Int.reduceLT, Int.reduceNeg, Int.reduceSub, Int.reduceAdd, Int.reduceMul, rc, q0, q1, q2, lC, outerB_getB, xmap_skipB, xmap_rowB, xset_rowB, xset_skipB, r1, r2, r3, bools_set]
      refine ⟨(k + 1, bset (bset X x y true) y x true), ⟨hlt, (hX.set _ _ _).set _ _ _, hnew⟩, by show C.length - (k + 1) < C.length - k; omega, ?_⟩
      exact Wk.ofX (by simp only [go_sem, ↓List.forall_mem_cons, List.not_mem_nil, false_implies, implies_true, and_true, true_and, and_self, Nat.reduceEqDiff, reduceIte, ↓reduceIte, ri_eq, Int.natCast_add, Int.cast_ofNat_Int, rc]; try simp) (by simp only [List.forall_mem_cons]; exact ⟨.self, by simp⟩) (Nat.le_refl _)
    | false =>
      have hnew : ∀ a b, a < m → b < m → bmat X a b = mustB (C.take (k + 1)) a b := by
        intro a b ha hb
        rw [hXX a b ha hb, hsucc, linkB_at]; simp
      simp (disch := omega) only [Try.ntmps75, Try.results75, go_sem, Nat.reduceLT, Nat.reduceLeDiff, Nat.reduceEqDiff, Nat.reduceAdd, Nat.reduceSub, Nat.reduceMul, reduceIte, ↓reduceIte, reduceCtorEq, Int.reduceToNat, Int.reduceLE, Int.reduceLT, Int.reduceNeg, Int.reduceSub, Int.reduceAdd, Int.reduceMul, rc, q0, q1, q2, lC]
      refine ⟨(k + 1, X), ⟨hlt, hX, hnew⟩, by show C.length - (k + 1) < C.length - k; omega, ?_⟩
      exact Wk.ofX (by simp only [go_sem, ↓List.forall_mem_cons, List.not_mem_nil, false_implies, implies_true, and_true, true_and, and_self, Nat.reduceEqDiff, reduceIte, ↓reduceIte, ri_eq, Int.natCast_add, Int.cast_ofNat_Int, rc]; try simp) (by simp only [List.forall_mem_cons]; exact ⟨.self, by simp⟩) (Nat.le_refl _)
  · obtain rfl : k = C.length := by omega
    rw [List.take_length] at hXX
    have w := Try.l17Labels_f m X (by omega) hX.1 hX.2 (fun x y hx hy h => by rw [hXX y x hy hx, mustB_sym]; rw [hXX x y hx hy] at h; exact h)
    have w2 : FCall Try.prog 143 [.val (.int .i64 m), rb X] (FlatRes m 1 (ints (comp m (mustB C)))) := w.mono fun r H ⟨h1, h2⟩ => by
      rw [(h1.congr hXX).eq] at h2; exact h2
    simp (disch := omega) only [Try.ntmps75, Try.results75, go_sem, Nat.reduceLT, Nat.reduceLeDiff, Nat.reduceEqDiff, Nat.reduceAdd, Nat.reduceSub, Nat.reduceMul, reduceIte, ↓reduceIte, reduceCtorEq, Int.reduceToNat, Int.reduceLE, Int.reduceLT, Int.reduceNeg, Int.reduceSub, Int.reduceAdd, Int.reduceMul, rc]
    refine w2.one.callOne (ints_vals _) 2 (viewL_cons_of view_int (viewL_cons_of (view_mb .self hX.1.symm) viewL_nil_of)) ?_
    simp (disch := omega) only [Try.ntmps75, Try.results75, go_sem, Nat.reduceLT, Nat.reduceLeDiff, Nat.reduceEqDiff, Nat.reduceAdd, Nat.reduceSub, Nat.reduceMul, reduceIte, ↓reduceIte, reduceCtorEq, Int.reduceToNat, Int.reduceLE, Int.reduceLT, Int.reduceNeg, Int.reduceSub, Int.reduceAdd, Int.reduceMul, rc]
    exact fin_ints must_ok.len.symm (by rw [hx_map, xmap_blk, if_pos rfl])
theorem Try.specMust_not (n : Int) (C : List Con) (hC : C.length ≤ 1048576) (g1 : -9223372036854775808 ≤ n) (g2 : n ≤ 9223372036854775807) (h : areCons n C = false) : FCall Try.prog 75 [.val (.int .i64 n), rc C] (FlatRes 0 1 (ints [])) := by
  have w1 := Try.specAreConstraints_ok n C hC g1 g2
  rw [h] at w1
  refine FCall.of_body Try.func75 rfl (by kernel_rfl) (by simp [Try.ntmps75]) ?_
  refine SW_of_vc Try.mixed _ _ _ (by kernel_rfl) ?_
  simp (disch := omega) only [Try.ntmps75, Try.results75, go_sem, Nat.reduceLT, Nat.reduceLeDiff, Nat.reduceEqDiff, Nat.reduceAdd, Nat.reduceSub, Nat.reduceMul, reduceIte, ↓reduceIte, reduceCtorEq, Int.reduceToNat, Int.reduceLE, Int.reduceLT, Int.reduceNeg, Int.reduceSub, Int.reduceAdd, Int.reduceMul, rc]
  refine w1.callV 0 (viewL_cons_of (view_int) (viewL_cons_of (view_row) viewL_nil_of)) ?_
  simp (disch := omega) only [Try.ntmps75, Try.results75, go_sem, Nat.reduceLT, Nat.reduceLeDiff, Nat.reduceEqDiff, Nat.reduceAdd, Nat.reduceSub, Nat.reduceMul, reduceIte, ↓reduceIte, reduceCtorEq, Int.reduceToNat, Int.reduceLE, Int.reduceLT, Int.reduceNeg, Int.reduceSub, Int.reduceAdd, Int.reduceMul, rc]
  exact fin_ints (L := []) (b := 0) (e2 := false) rfl rfl
theorem Try.specMust_ok (n : Int) (C : List Con) (hC : C.length ≤ 1048576) (g1 : -9223372036854775808 ≤ n) (g2 : n ≤ 9223372036854775807) : PCall Try.prog 75 [.val (.int .i64 n), rc C] (ri (must n C)) := by
  rcases Bool.eq_false_or_eq_true (areCons n C) with h | h
  · exact (Try.specMust_f n C hC h).pcall 2 (fun _ _ h => flat_view h)
  · rw [must_f h]; exact (Try.specMust_not n C hC g1 g2 h).pcall 2 (fun _ _ h => flat_view h)
end Go.Sh

/-
  Contracts: conflicts of constraints. Of the reference and of the program.
-/
namespace Go.Sh
set_option linter.unusedSimpArgs false
set_option linter.unusedVariables false
open Go Go.Proofs

def cfl (L : List Int) (c : Con) : Bool := !c.2.2 && decide (L.getD c.1.toNat 0 = L.getD c.2.1.toNat 0)
noncomputable def conflict (n : Int) (C : List Con) : Int := if areCons n C = true then fidx (cfl (must n C)) C else -1
theorem conflict_t {n : Int} {C : List Con} (h : areCons n C = true) : conflict n C = fidx (cfl (must n C)) C := by rw [conflict, if_pos h]
theorem conflict_f {n : Int} {C : List Con} (h : areCons n C = false) : conflict n C = -1 := by rw [conflict, if_neg (by rw [h]; simp)]
theorem cfl_at (L : List Int) (x y : Nat) (s : Bool) : cfl L ((x : Int), (y : Int), s) = (!s && decide (L.getD x 0 = L.getD y 0)) := rfl

set_option maxHeartbeats 2000000 in
theorem Try.findFn_ok (L : List Int) (x y : Nat) (s : Bool) (hx : x < L.length) (hy : y < L.length) (hL : L.length ≤ 1048576) :
    PCall Try.prog 139 [.agg [.val (.int .i64 x), .val (.int .i64 y), .val (.bool s)], .rptr [ri L] 0] (.val (.bool (!s && decide (L.getD x 0 = L.getD y 0)))) := by
  refine FCall.pcall (R := fun r _ => r = .val (.bool (!s && decide (L.getD x 0 = L.getD y 0)))) ?_ 0 (by rintro r H rfl; exact view_bool)
  refine FCall.of_body Try.func139 rfl (by kernel_rfl) (by simp [Try.ntmps139]) ?_
  refine SW_of_vc Try.mixed _ _ _ (by kernel_rfl) ?_
  cases s with
  | true =>
    simp (disch := omega) only [Try.ntmps139, Try.results139, go_sem, Nat.reduceLT, Nat.reduceLeDiff, Nat.reduceEqDiff, Nat.reduceAdd, Nat.reduceSub, Nat.reduceMul, reduceIte, ↓reduceIte, reduceCtorEq, Int.reduceToNat, Int.reduceLE, Int.reduceLT, Int.reduceNeg, Int.reduceSub, Int.reduceAdd, Int.reduceMul]
    exact Fin.val rfl
  | false =>
    have g1 := ints_get hx
    have g2 := ints_get hy
    generalize L.getD x 0 = a at *
    generalize L.getD y 0 = b at *
    by_cases h : a = b
    · simp (disch := omega) only [Try.ntmps139, Try.results139, go_sem, Nat.reduceLT, Nat.reduceLeDiff, Nat.reduceEqDiff, Nat.reduceAdd, Nat.reduceSub, Nat.reduceMul, reduceIte, ↓reduceIte, reduceCtorEq, Int.reduceToNat, Int.reduceLE, Int.reduceLT, Int.reduceNeg, Int.reduceSub, Int.reduceAdd, Int.reduceMul, g1, g2]
      exact Fin.val (by simp [h])
    · simp (disch := omega) only [Try.ntmps139, Try.results139, go_sem, Nat.reduceLT, Nat.reduceLeDiff, Nat.reduceEqDiff, Nat.reduceAdd, Nat.reduceSub, Nat.reduceMul, reduceIte, ↓reduceIte, reduceCtorEq, Int.reduceToNat, Int.reduceLE, Int.reduceLT, Int.reduceNeg, Int.reduceSub, Int.reduceAdd, Int.reduceMul, g1, g2]
      exact Fin.val (by simp [h])

theorem Try.implFind_ok (n : Int) (C : List Con) (hC : C.length ≤ 1048576) : PCall Try.prog 70 [.val (.int .i64 n), rc C] (.val (.int .i64 (conflict n C))) := by
  refine FCall.pcall (R := fun r _ => r = .val (.int .i64 (conflict n C))) ?_ 0 (by rintro r H rfl; exact view_int)
  refine FCall.of_body Try.func70 rfl (by kernel_rfl) (by simp [Try.ntmps70]) ?_
  refine SW_of_vc Try.mixed _ _ _ (by kernel_rfl) ?_
  rcases Bool.eq_false_or_eq_true (areCons n C) with h | h
  · have hl := must_length h
    obtain ⟨⟨n1, n2⟩, _, hg⟩ := areCons_t h
    rw [conflict_t h]
    simp (disch := omega) only [Try.ntmps70, Try.results70, go_sem, Nat.reduceLT, Nat.reduceLeDiff, Nat.reduceEqDiff, Nat.reduceAdd, Nat.reduceSub, Nat.reduceMul, reduceIte, ↓reduceIte, reduceCtorEq, Int.reduceToNat, Int.reduceLE, Int.reduceLT, Int.reduceNeg, Int.reduceSub, Int.reduceAdd, Int.reduceMul, rc]
    refine (Try.implMust_one n C hC h).callOne (ints_vals _) 0 (viewL_cons_of (view_int) (viewL_cons_of (view_row) viewL_nil_of)) ?_
    simp (disch := omega) only [Try.ntmps70, Try.results70, go_sem, Nat.reduceLT, Nat.reduceLeDiff, Nat.reduceEqDiff, Nat.reduceAdd, Nat.reduceSub, Nat.reduceMul, reduceIte, ↓reduceIte, reduceCtorEq, Int.reduceToNat, Int.reduceLE, Int.reduceLT, Int.reduceNeg, Int.reduceSub, Int.reduceAdd, Int.reduceMul, rc]
    refine (Try.indexFuncM_ok 139 [.rptr [ri (must n C)] 0] C (cfl (must n C)) hC (cap_rptr _ _) (fun k hk => ?_)).callV 3
      (viewL_cons_of view_row (viewL_cons_of (view_clos (viewL_cons_of (view_optr rfl (viewL_cons_of (view_own rfl hl.symm) viewL_nil_of)) viewL_nil_of)) viewL_nil_of)) ?_
    · obtain ⟨x, y, s, hc, hxy, hyn⟩ := con_nat h hk
      rw [hc]
      exact Try.findFn_ok (must n C) x y s (by omega) (by omega) (by omega)
    simp (disch := omega) only [Try.ntmps70, Try.results70, go_sem, Nat.reduceLT, Nat.reduceLeDiff, Nat.reduceEqDiff, Nat.reduceAdd, Nat.reduceSub, Nat.reduceMul, reduceIte, ↓reduceIte, reduceCtorEq, Int.reduceToNat, Int.reduceLE, Int.reduceLT, Int.reduceNeg, Int.reduceSub, Int.reduceAdd, Int.reduceMul, rc]
    exact Fin.val rfl
  · rw [conflict_f h]
    simp (disch := omega) only [Try.ntmps70, Try.results70, go_sem, Nat.reduceLT, Nat.reduceLeDiff, Nat.reduceEqDiff, Nat.reduceAdd, Nat.reduceSub, Nat.reduceMul, reduceIte, ↓reduceIte, reduceCtorEq, Int.reduceToNat, Int.reduceLE, Int.reduceLT, Int.reduceNeg, Int.reduceSub, Int.reduceAdd, Int.reduceMul, rc]
    refine (Try.implMust_nil n C hC h).callVal 0 (viewL_cons_of (view_int) (viewL_cons_of (view_row) viewL_nil_of)) ?_
    simp (disch := omega) only [Try.ntmps70, Try.results70, go_sem, Nat.reduceLT, Nat.reduceLeDiff, Nat.reduceEqDiff, Nat.reduceAdd, Nat.reduceSub, Nat.reduceMul, reduceIte, ↓reduceIte, reduceCtorEq, Int.reduceToNat, Int.reduceLE, Int.reduceLT, Int.reduceNeg, Int.reduceSub, Int.reduceAdd, Int.reduceMul, rc]
    exact Fin.val rfl

set_option maxHeartbeats 2000000 in
theorem Try.specFind_ok (n : Int) (C : List Con) (hC : C.length ≤ 1048576) (z1 : -9223372036854775808 ≤ n) (z2 : n ≤ 9223372036854775807) : PCall Try.prog 71 [.val (.int .i64 n), rc C] (.val (.int .i64 (conflict n C))) := by
  refine FCall.pcall (R := fun r _ => r = .val (.int .i64 (conflict n C))) ?_ 0 (by rintro r H rfl; exact view_int)
  refine FCall.of_body Try.func71 rfl (by kernel_rfl) (by simp [Try.ntmps71]) ?_
  refine SW_of_vc Try.mixed _ _ _ (by kernel_rfl) ?_
  have lC := cons_length C
  have w := Try.specMust_ok n C hC z1 z2
  simp (disch := omega) only [Try.ntmps71, Try.results71, go_sem, Nat.reduceLT, Nat.reduceLeDiff, Nat.reduceEqDiff, Nat.reduceAdd, Nat.reduceSub, Nat.reduceMul, reduceIte, ↓reduceIte, reduceCtorEq, Int.reduceToNat, Int.reduceLE, Int.reduceLT, Int.reduceNeg, Int.reduceSub, Int.reduceAdd, Int.reduceMul, rc]
  refine w.callV 0 (viewL_cons_of (view_int) (viewL_cons_of (view_row) viewL_nil_of)) ?_
  simp (disch := omega) only [Try.ntmps71, Try.results71, go_sem, Nat.reduceLT, Nat.reduceLeDiff, Nat.reduceEqDiff, Nat.reduceAdd, Nat.reduceSub, Nat.reduceMul, reduceIte, ↓reduceIte, reduceCtorEq, Int.reduceToNat, Int.reduceLE, Int.reduceLT, Int.reduceNeg, Int.reduceSub, Int.reduceAdd, Int.reduceMul, rc]
  refine LoopW.loop (fun k : Nat => ⟨ofL [(1, rc C), (5, ri (must n C)), (6, .val (.int .i64 k))], hp [] 0⟩) (fun k => k ≤ C.length ∧ (areCons n C = true → ∀ i, i < k → cfl (must n C) (cg C i) = false) ∧ (areCons n C = false → k = 0)) (fun k => C.length - k) 0 ⟨by omega, by simp, by simp⟩ (Wk.of (by simp only [go_sem, ↓List.forall_mem_cons, List.not_mem_nil, false_implies, implies_true, and_true, true_and, and_self, Nat.reduceEqDiff, reduceIte, ↓reduceIte, ri_eq, Int.natCast_add, Int.cast_ofNat_Int, rc]; try simp) rfl) ?_
  rintro k ⟨hk, hkk, hk0⟩
  refine SW_of_vc Try.mixed _ _ _ (by kernel_rfl) ?_
  rcases Bool.eq_false_or_eq_true (areCons n C) with h | h
  · have hl := must_length h
    obtain ⟨⟨n1, n2⟩, _, hg⟩ := areCons_t h
    have hkk := hkk h
    rw [conflict_t h]
    generalize must n C = L at *
    by_cases hlt : k < C.length
    · obtain ⟨x, y, s, hc, hxy, hyn⟩ := con_nat h hlt
      obtain ⟨q0, q1, q2, q3⟩ := cons_of hlt hc
      have hcf := cfl_at L x y s
      cases s with
      | true =>
        simp (disch := omega) only [Try.ntmps71, Try.results71, go_sem, Nat.reduceLT, Nat.reduceLeDiff, Nat.reduceEqDiff, Nat.reduceAdd, Nat.reduceSub, Nat.reduceMul, reduceIte, ↓reduceIte, reduceCtorEq, Int.reduceToNat, Int.reduceLE, Int.reduceLT, Int.reduceNeg, Int.reduceSub, Int.reduceAdd, Int.reduceMul, rc, q0, q1, q2, lC]
        refine ⟨k + 1, ⟨by omega, fun _ i hi => ?_, fun e => by rw [h] at e; cases e⟩, by omega, Wk.of (by simp only [go_sem, ↓List.forall_mem_cons, List.not_mem_nil, false_implies, implies_true, and_true, true_and, and_self, Nat.reduceEqDiff, reduceIte, ↓reduceIte, ri_eq, Int.natCast_add, Int.cast_ofNat_Int, rc]; try simp) rfl⟩
        rcases Nat.lt_succ_iff_lt_or_eq.mp hi with g | rfl
        · exact hkk i g
        · rw [hc, hcf]; rfl
      | false =>
        have g1 := ints_get (L := L) (k := x) (by omega)
        have g2 := ints_get (L := L) (k := y) (by omega)
        generalize hva : L.getD x 0 = a at *
        generalize hvb : L.getD y 0 = b at *
        by_cases hab : a = b
        · simp (disch := omega) only [Try.ntmps71, Try.results71, go_sem, Nat.reduceLT, Nat.reduceLeDiff, Nat.reduceEqDiff, Nat.reduceAdd, Nat.reduceSub, Nat.reduceMul, reduceIte, ↓reduceIte, reduceCtorEq, Int.reduceToNat, Int.reduceLE, Int.reduceLT, Int.reduceNeg, Int.reduceSub, Int.reduceAdd, Int.reduceMul, rc, q0, q1, q2, lC, g1, g2]
          exact Fin.val (by rw [fidx_some hlt hkk (by rw [hc, hcf]; simp [hab])])
        · simp (disch := omega) only [Try.ntmps71, Try.results71, go_sem, Nat.reduceLT, Nat.reduceLeDiff, Nat.reduceEqDiff, Nat.reduceAdd, Nat.reduceSub, Nat.reduceMul, reduceIte, ↓reduceIte, reduceCtorEq, Int.reduceToNat, Int.reduceLE, Int.reduceLT, Int.reduceNeg, Int.reduceSub, Int.reduceAdd, Int.reduceMul, rc, q0, q1, q2, lC, g1, g2]
          refine ⟨k + 1, ⟨by omega, fun _ i hi => ?_, fun e => by rw [h] at e; cases e⟩, by omega, Wk.of (by simp only [go_sem, ↓List.forall_mem_cons, List.not_mem_nil, false_implies, implies_true, and_true, true_and, and_self, Nat.reduceEqDiff, reduceIte, ↓reduceIte, ri_eq, Int.natCast_add, Int.cast_ofNat_Int, rc]; try simp) rfl⟩
          rcases Nat.lt_succ_iff_lt_or_eq.mp hi with g | rfl
          · exact hkk i g
          · rw [hc, hcf]; simp [hab]
    · simp (disch := omega) only [Try.ntmps71, Try.results71, go_sem, Nat.reduceLT, Nat.reduceLeDiff, Nat.reduceEqDiff, Nat.reduceAdd, Nat.reduceSub, Nat.reduceMul, reduceIte, ↓reduceIte, reduceCtorEq, Int.reduceToNat, Int.reduceLE, Int.reduceLT, Int.reduceNeg, Int.reduceSub, Int.reduceAdd, Int.reduceMul, rc, lC]
      exact Fin.val (by rw [fidx_none (fun i hi => hkk i (by omega))])
  · have hm := must_f h
    rw [conflict_f h]
    by_cases hlt : k < C.length
    · simp (disch := omega) only [Try.ntmps71, Try.results71, go_sem, Nat.reduceLT, Nat.reduceLeDiff, Nat.reduceEqDiff, Nat.reduceAdd, Nat.reduceSub, Nat.reduceMul, reduceIte, ↓reduceIte, reduceCtorEq, Int.reduceToNat, Int.reduceLE, Int.reduceLT, Int.reduceNeg, Int.reduceSub, Int.reduceAdd, Int.reduceMul, rc, lC, hm]
      exact Fin.val rfl
    · simp (disch := omega) only [Try.ntmps71, Try.results71, go_sem, Nat.reduceLT, Nat.reduceLeDiff, Nat.reduceEqDiff, Nat.reduceAdd, Nat.reduceSub, Nat.reduceMul, reduceIte, ↓reduceIte, reduceCtorEq, Int.reduceToNat, Int.reduceLE, Int.reduceLT, Int.reduceNeg, Int.reduceSub, Int.reduceAdd, Int.reduceMul, rc, lC, hm]
      exact Fin.val rfl

def consistent (n : Int) (C : List Con) : Prop := areCons n C = true ∧ conflict n C < 0
open Classical in
noncomputable def isCst (n : Int) (C : List Con) : Bool := areCons n C && decide (conflict n C < 0)
theorem Try.implConsistent_ok (n : Int) (C : List Con) (hC : C.length ≤ 1048576) : PCall Try.prog 72 [.val (.int .i64 n), rc C] (.val (.bool (isCst n C))) := by
  refine FCall.pcall (R := fun r _ => r = .val (.bool (isCst n C))) ?_ 0 (by rintro r H rfl; exact view_bool)
  refine FCall.of_body Try.func72 rfl (by kernel_rfl) (by simp [Try.ntmps72]) ?_
  refine SW_of_vc Try.mixed _ _ _ (by kernel_rfl) ?_
  have w1 := Try.implAreConstraints_ok n C hC
  have w2 := Try.implFind_ok n C hC
  rcases Bool.eq_false_or_eq_true (areCons n C) with h | h
  · rw [h] at w1
    by_cases hc : conflict n C < 0
    · simp (disch := omega) only [Try.ntmps72, Try.results72, go_sem, Nat.reduceLT, Nat.reduceLeDiff, Nat.reduceEqDiff, Nat.reduceAdd, Nat.reduceSub, Nat.reduceMul, reduceIte, ↓reduceIte, reduceCtorEq, Int.reduceToNat, Int.reduceLE, Int.reduceLT, Int.reduceNeg, Int.reduceSub, Int.reduceAdd, Int.reduceMul, rc]
      refine w1.callV 0 (viewL_cons_of (view_int) (viewL_cons_of (view_row) viewL_nil_of)) ?_
      simp (disch := omega) only [Try.ntmps72, Try.results72, go_sem, Nat.reduceLT, Nat.reduceLeDiff, Nat.reduceEqDiff, Nat.reduceAdd, Nat.reduceSub, Nat.reduceMul, reduceIte, ↓reduceIte, reduceCtorEq, Int.reduceToNat, Int.reduceLE, Int.reduceLT, Int.reduceNeg, Int.reduceSub, Int.reduceAdd, Int.reduceMul, rc]
      refine w2.callV 0 (viewL_cons_of (view_int) (viewL_cons_of (view_row) viewL_nil_of)) ?_
      simp (disch := omega) only [Try.ntmps72, Try.results72, go_sem, Nat.reduceLT, Nat.reduceLeDiff, Nat.reduceEqDiff, Nat.reduceAdd, Nat.reduceSub, Nat.reduceMul, reduceIte, ↓reduceIte, reduceCtorEq, Int.reduceToNat, Int.reduceLE, Int.reduceLT, Int.reduceNeg, Int.reduceSub, Int.reduceAdd, Int.reduceMul, rc]
      exact Fin.val (by simp [isCst, h, hc])
    · simp (disch := omega) only [Try.ntmps72, Try.results72, go_sem, Nat.reduceLT, Nat.reduceLeDiff, Nat.reduceEqDiff, Nat.reduceAdd, Nat.reduceSub, Nat.reduceMul, reduceIte, ↓reduceIte, reduceCtorEq, Int.reduceToNat, Int.reduceLE, Int.reduceLT, Int.reduceNeg, Int.reduceSub, Int.reduceAdd, Int.reduceMul, rc]
      refine w1.callV 0 (viewL_cons_of (view_int) (viewL_cons_of (view_row) viewL_nil_of)) ?_
      simp (disch := omega) only [Try.ntmps72, Try.results72, go_sem, Nat.reduceLT, Nat.reduceLeDiff, Nat.reduceEqDiff, Nat.reduceAdd, Nat.reduceSub, Nat.reduceMul, reduceIte, ↓reduceIte, reduceCtorEq, Int.reduceToNat, Int.reduceLE, Int.reduceLT, Int.reduceNeg, Int.reduceSub, Int.reduceAdd, Int.reduceMul, rc]
      refine w2.callV 0 (viewL_cons_of (view_int) (viewL_cons_of (view_row) viewL_nil_of)) ?_
      simp (disch := omega) only [Try.ntmps72, Try.results72, go_sem, Nat.reduceLT, Nat.reduceLeDiff, Nat.reduceEqDiff, Nat.reduceAdd, Nat.reduceSub, Nat.reduceMul, reduceIte, ↓reduceIte, reduceCtorEq, Int.reduceToNat, Int.reduceLE, Int.reduceLT, Int.reduceNeg, Int.reduceSub, Int.reduceAdd, Int.reduceMul, rc]
      exact Fin.val (by simp [isCst, hc])
  · rw [h] at w1
    simp (disch := omega) only [Try.ntmps72, Try.results72, go_sem, Nat.reduceLT, Nat.reduceLeDiff, Nat.reduceEqDiff, Nat.reduceAdd, Nat.reduceSub, Nat.reduceMul, reduceIte, ↓reduceIte, reduceCtorEq, Int.reduceToNat, Int.reduceLE, Int.reduceLT, Int.reduceNeg, Int.reduceSub, Int.reduceAdd, Int.reduceMul, rc]
    refine w1.callV 0 (viewL_cons_of (view_int) (viewL_cons_of (view_row) viewL_nil_of)) ?_
    simp (disch := omega) only [Try.ntmps72, Try.results72, go_sem, Nat.reduceLT, Nat.reduceLeDiff, Nat.reduceEqDiff, Nat.reduceAdd, Nat.reduceSub, Nat.reduceMul, reduceIte, ↓reduceIte, reduceCtorEq, Int.reduceToNat, Int.reduceLE, Int.reduceLT, Int.reduceNeg, Int.reduceSub, Int.reduceAdd, Int.reduceMul, rc]
    exact Fin.val (by simp [isCst, h])
theorem Try.specConsistent_ok (n : Int) (C : List Con) (hC : C.length ≤ 1048576) (z1 : -9223372036854775808 ≤ n) (z2 : n ≤ 9223372036854775807) : PCall Try.prog 73 [.val (.int .i64 n), rc C] (.val (.bool (isCst n C))) := by
  refine FCall.pcall (R := fun r _ => r = .val (.bool (isCst n C))) ?_ 0 (by rintro r H rfl; exact view_bool)
  refine FCall.of_body Try.func73 rfl (by kernel_rfl) (by simp [Try.ntmps73]) ?_
  refine SW_of_vc Try.mixed _ _ _ (by kernel_rfl) ?_
  have w1 := Try.specAreConstraints_ok n C hC z1 z2
  have w2 := Try.specFind_ok n C hC z1 z2
  rcases Bool.eq_false_or_eq_true (areCons n C) with h | h
  · rw [h] at w1
    by_cases hc : conflict n C < 0
    · simp (disch := omega) only [Try.ntmps73, Try.results73, go_sem, Nat.reduceLT, Nat.reduceLeDiff, Nat.reduceEqDiff, Nat.reduceAdd, Nat.reduceSub, Nat.reduceMul, reduceIte, ↓reduceIte, reduceCtorEq, Int.reduceToNat, Int.reduceLE, Int.reduceLT, Int.reduceNeg, Int.reduceSub, Int.reduceAdd, Int.reduceMul, rc]
      refine w1.callV 0 (viewL_cons_of (view_int) (viewL_cons_of (view_row) viewL_nil_of)) ?_
      simp (disch := omega) only [Try.ntmps73, Try.results73, go_sem, Nat.reduceLT, Nat.reduceLeDiff, Nat.reduceEqDiff, Nat.reduceAdd, Nat.reduceSub, Nat.reduceMul, reduceIte, ↓reduceIte, reduceCtorEq, Int.reduceToNat, Int.reduceLE, Int.reduceLT, Int.reduceNeg, Int.reduceSub, Int.reduceAdd, Int.reduceMul, rc]
      refine w2.callV 0 (viewL_cons_of (view_int) (viewL_cons_of (view_row) viewL_nil_of)) ?_
      simp (disch := omega) only [Try.ntmps73, Try.results73, go_sem, Nat.reduceLT, Nat.reduceLeDiff, Nat.reduceEqDiff, Nat.reduceAdd, Nat.reduceSub, Nat.reduceMul, reduceIte, ↓reduceIte, reduceCtorEq, Int.reduceToNat, Int.reduceLE, Int.reduceLT, Int.reduceNeg, Int.reduceSub, Int.reduceAdd, Int.reduceMul, rc]
      exact Fin.val (by simp [isCst, h, hc])
    · simp (disch := omega) only [Try.ntmps73, Try.results73, go_sem, Nat.reduceLT, Nat.reduceLeDiff, Nat.reduceEqDiff, Nat.reduceAdd, Nat.reduceSub, Nat.reduceMul, reduceIte, ↓reduceIte, reduceCtorEq, Int.reduceToNat, Int.reduceLE, Int.reduceLT, Int.reduceNeg, Int.reduceSub, Int.reduceAdd, Int.reduceMul, rc]
      refine w1.callV 0 (viewL_cons_of (view_int) (viewL_cons_of (view_row) viewL_nil_of)) ?_
      simp (disch := omega) only [Try.ntmps73, Try.results73, go_sem, Nat.reduceLT, Nat.reduceLeDiff, Nat.reduceEqDiff, Nat.reduceAdd, Nat.reduceSub, Nat.reduceMul, reduceIte, ↓reduceIte, reduceCtorEq, Int.reduceToNat, Int.reduceLE, Int.reduceLT, Int.reduceNeg, Int.reduceSub, Int.reduceAdd, Int.reduceMul, rc]
      refine w2.callV 0 (viewL_cons_of (view_int) (viewL_cons_of (view_row) viewL_nil_of)) ?_
      simp (disch := omega) only [Try.ntmps73, Try.results73, go_sem, Nat.reduceLT, Nat.reduceLeDiff, Nat.reduceEqDiff, Nat.reduceAdd, Nat.reduceSub, Nat.reduceMul, reduceIte, ↓reduceIte, reduceCtorEq, Int.reduceToNat, Int.reduceLE, Int.reduceLT, Int.reduceNeg, Int.reduceSub, Int.reduceAdd, Int.reduceMul, rc]
      exact Fin.val (by simp [isCst, hc])
  · rw [h] at w1
    simp (disch := omega) only [Try.ntmps73, Try.results73, go_sem, Nat.reduceLT, Nat.reduceLeDiff, Nat.reduceEqDiff, Nat.reduceAdd, Nat.reduceSub, Nat.reduceMul, reduceIte, ↓reduceIte, reduceCtorEq, Int.reduceToNat, Int.reduceLE, Int.reduceLT, Int.reduceNeg, Int.reduceSub, Int.reduceAdd, Int.reduceMul, rc]
    refine w1.callV 0 (viewL_cons_of (view_int) (viewL_cons_of (view_row) viewL_nil_of)) ?_
    simp (disch := omega) only [Try.ntmps73, Try.results73, go_sem, Nat.reduceLT, Nat.reduceLeDiff, Nat.reduceEqDiff, Nat.reduceAdd, Nat.reduceSub, Nat.reduceMul, reduceIte, ↓reduceIte, reduceCtorEq, Int.reduceToNat, Int.reduceLE, Int.reduceLT, Int.reduceNeg, Int.reduceSub, Int.reduceAdd, Int.reduceMul, rc]
    exact Fin.val (by simp [isCst, h])
end Go.Sh

/-
  The chain from an item down to distance zero: plain.
-/
namespace Go.Sh
set_option linter.unusedSimpArgs false
set_option linter.unusedVariables false
open Go Go.Proofs

theorem adjC_mustB {C : List Con} {x y : Nat} : adjC C x y ↔ mustB C x y = true := by
  rw [mustB, List.any_eq_true]
  constructor
  · rintro ⟨c, h1, h2, h3⟩
    refine ⟨c, h1, ?_⟩
    simp only [linkB, h2, Bool.true_and, Bool.or_eq_true, decide_eq_true_eq]
    exact h3
  · rintro ⟨c, h1, h2⟩
    simp only [linkB, Bool.and_eq_true, Bool.or_eq_true, decide_eq_true_eq] at h2
    exact ⟨c, h1, h2.1, h2.2⟩
theorem FarTo.farL {n : Nat} {C : List Con} {b : Nat} {F : List Int} (hb : b < n) (ha : ∀ x y, adjC C x y → y < n) (h : FarTo n C b n F) : FarL n C b F := by
  refine ⟨h.1, fun x hx => ?_⟩
  rcases h.2 x hx with ⟨h1, h2⟩ | ⟨d, _, h1, h2⟩
  · refine .inl ⟨h1, fun d hd => ?_⟩
    obtain ⟨e, he, hD⟩ := isD_of d hd
    have := isD_lt hb ha hD
    exact h2 (rk_mono hD.1 (by omega))
  · exact .inr ⟨d, h1, h2⟩
def fi (n : Nat) (p : Nat → Bool) : Nat := (List.range n).findIdx p
theorem fi_le (n : Nat) (p : Nat → Bool) : fi n p ≤ n := by
  have := List.findIdx_le_length (p := p) (xs := List.range n)
  simpa [fi] using this
theorem fi_at {n : Nat} {p : Nat → Bool} (h : fi n p < n) : p (fi n p) = true := by
  have h2 : (List.range n).findIdx p < (List.range n).length := by simpa [fi] using h
  have := List.findIdx_getElem (w := h2)
  simpa [fi] using this
theorem fi_min {n : Nat} {p : Nat → Bool} {y : Nat} (hy : y < fi n p) : p y = false := by
  have h2 : y < (List.range n).findIdx p := hy
  have hn : y < n := by have := fi_le n p; omega
  have := List.not_of_lt_findIdx h2
  simpa using this
theorem fi_eq {n : Nat} {p : Nat → Bool} {k : Nat} (hk : k < n) (h1 : p k = true) (h2 : ∀ y, y < k → p y = false) : fi n p = k := by
  rcases Nat.lt_trichotomy (fi n p) k with h | h | h
  · have := fi_at (n := n) (p := p) (by omega)
    rw [h2 _ h] at this; cases this
  · exact h
  · have := fi_min h
    rw [h1] at this; cases this
theorem fi_none {n : Nat} {p : Nat → Bool} (h : ∀ y, y < n → p y = false) : fi n p = n := by
  have := fi_le n p
  by_cases hl : fi n p < n
  · have h1 := fi_at hl
    rw [h _ hl] at h1; cases h1
  · omega
theorem fi_lt {n : Nat} {p : Nat → Bool} {k : Nat} (hk : k < n) (h : p k = true) : fi n p ≤ k := by
  by_cases hl : fi n p ≤ k
  · exact hl
  · have := fi_min (n := n) (p := p) (y := k) (by omega)
    rw [h] at this; cases this
theorem fi_congr {n : Nat} {p q : Nat → Bool} (h : ∀ y, y < n → p y = q y) : fi n p = fi n q := by
  by_cases hl : fi n q < n
  · refine fi_eq hl (by rw [h _ hl]; exact fi_at hl) fun y hy => by
      have hn := fi_le n q
      rw [h y (by omega)]; exact fi_min hy
  · have := fi_le n q
    have e : fi n q = n := by omega
    rw [e]
    exact fi_none fun y hy => by rw [h y hy]; exact fi_min (n := n) (p := q) (by omega)
theorem fi_put {n : Nat} {p q : Nat → Bool} {z : Nat} (hz : z < n) (h : ∀ y, y < n → q y = (p y || decide (y = z))) : fi n q = min (fi n p) z := by
  by_cases hl : fi n p < z
  · rw [Nat.min_eq_left (by omega)]
    refine fi_eq (by omega) (by rw [h _ (by omega), fi_at (n := n) (p := p) (by omega)]; rfl) fun y hy => ?_
    rw [h y (by omega), fi_min (n := n) (p := p) hy, decide_eq_false (by omega)]; rfl
  · rw [Nat.min_eq_right (by omega)]
    refine fi_eq hz (by rw [h _ hz]; simp) fun y hy => ?_
    rw [h y (by omega), fi_min (n := n) (p := p) (by omega), decide_eq_false (by omega)]; rfl
/-- Is y one step nearer than a, along the constraints of P? -/
def near (P : List Con) (F : List Int) (a y : Nat) : Bool := mustB P a y && decide (F.getD y 0 = F.getD a 0 - 1)
def pkn (n : Nat) (C : List Con) (F : List Int) (a : Nat) : Nat := fi n (near C F a)
def chn (n : Nat) (C : List Con) (F : List Int) : Nat → Nat → List Int
  | 0, a => [(a : Int)]
  | d + 1, a => (a : Int) :: chn n C F d (pkn n C F a)
theorem chn_length (n : Nat) (C : List Con) (F : List Int) : ∀ d a, (chn n C F d a).length = d + 1
  | 0, a => rfl
  | d + 1, a => by rw [chn, List.length_cons, chn_length n C F d]
theorem FarL.pkn {n : Nat} {C : List Con} {b : Nat} {F : List Int} (h : FarL n C b F) (ha : ∀ x y, adjC C x y → y < n) {a d : Nat} (hn : a < n) (hF : F.getD a 0 = ((d + 1 : Nat) : Int)) :
    Go.Sh.pkn n C F a < n ∧ F.getD (Go.Sh.pkn n C F a) 0 = (d : Int) ∧ mustB C a (Go.Sh.pkn n C F a) = true := by
  rcases h.2 a hn with ⟨h1, _⟩ | ⟨e, h1, h2⟩
  · omega
  · obtain rfl : e = d + 1 := by omega
    obtain ⟨y, g1, g2⟩ := isD_prev h2
    have hy : y < n := ha a y (adjC_symm g2)
    have hFy : F.getD y 0 = (d : Int) := by
      rcases h.2 y hy with ⟨f1, f2⟩ | ⟨e, f1, f2⟩
      · exact absurd g1.1 (f2 d)
      · rw [f1, isD_uniq f2 g1]
    have hp : near C F a y = true := by
      rw [near, adjC_mustB.1 (adjC_symm g2), hFy, hF, decide_eq_true (by omega)]; rfl
    have hle := fi_lt hy hp
    have hlt : fi n (near C F a) < n := by omega
    have := fi_at hlt
    rw [near, Bool.and_eq_true, decide_eq_true_eq] at this
    exact ⟨hlt, by show F.getD (fi n (near C F a)) 0 = _; omega, this.1⟩
open Classical in
noncomputable def farL (n : Nat) (C : List Con) (b : Nat) : List Int := if h : ∃ F, FarL n C b F then Classical.choose h else []
theorem FarL.eq {n : Nat} {C : List Con} {b : Nat} {F : List Int} (h : FarL n C b F) : F = farL n C b := by
  have hex : ∃ F, FarL n C b F := ⟨F, h⟩
  rw [farL, dif_pos hex]
  exact h.uniq (Classical.choose_spec hex)
theorem near_nil (F : List Int) (a y : Nat) : near [] F a y = false := rfl
/-- One look at a constraint: in both directions. -/
theorem near_step {n : Nat} {C : List Con} {F : List Int} {a i x y : Nat} {s : Bool} (hi : i < C.length) (hc : cg C i = ((x : Int), (y : Int), s)) (hx : x < n) (hy : y < n) :
    fi n (near (C.take (i + 1)) F a) =
      (let b1 := if s = true ∧ x = a ∧ F.getD y 0 = F.getD a 0 - 1 then min (fi n (near (C.take i) F a)) y else fi n (near (C.take i) F a)
       if s = true ∧ y = a ∧ F.getD x 0 = F.getD a 0 - 1 then min b1 x else b1) := by
  have hb : ∀ z, near (C.take (i + 1)) F a z = ((mustB (C.take i) a z || (s && (decide (x = a ∧ y = z) || decide (x = z ∧ y = a)))) && decide (F.getD z 0 = F.getD a 0 - 1)) := by
    intro z
    rw [near, mustB_succ hi, hc, linkB_at]
  let q1 : Nat → Bool := fun z => near (C.take i) F a z || (s && decide (x = a ∧ y = z) && decide (F.getD z 0 = F.getD a 0 - 1))
  have e1 : fi n q1 = if s = true ∧ x = a ∧ F.getD y 0 = F.getD a 0 - 1 then min (fi n (near (C.take i) F a)) y else fi n (near (C.take i) F a) := by
    split
    · rename_i h
      obtain ⟨rfl, rfl, h⟩ := h
      refine fi_put hy fun z _ => ?_
      show (_ || _) = _
      by_cases e : z = y
      · subst e; rw [decide_eq_true h]; simp
      · have : ¬ y = z := fun h => e h.symm
        simp [e, this]
    · rename_i h
      refine fi_congr fun z _ => ?_
      show (_ || _) = _
      cases s with
      | false => simp
      | true =>
        by_cases e : x = a ∧ y = z
        · obtain ⟨rfl, rfl⟩ := e
          have h : ¬ F.getD y 0 = F.getD x 0 - 1 := fun g => h ⟨rfl, rfl, g⟩
          rw [decide_eq_false h]; simp
        · rw [decide_eq_false e]; simp
  simp only
  rw [← e1]
  split
  · rename_i h
    obtain ⟨rfl, rfl, h⟩ := h
    refine fi_put hx fun z _ => ?_
    rw [hb]
    show _ = ((near (C.take i) F y z || _) || _)
    by_cases e : z = x
    · subst e; rw [decide_eq_true h]; simp
    · have : ¬ x = z := fun h => e h.symm
      rw [near]
      simp [e, this, Bool.and_or_distrib_right]
  · rename_i h
    refine fi_congr fun z _ => ?_
    rw [hb]
    show _ = (near (C.take i) F a z || _)
    rw [near]
    cases s with
    | false => simp
    | true =>
      by_cases e : x = z ∧ y = a
      · obtain ⟨rfl, rfl⟩ := e
        have h : ¬ F.getD x 0 = F.getD y 0 - 1 := fun g => h ⟨rfl, rfl, g⟩
        rw [decide_eq_false h]; simp
      · rw [decide_eq_false e]
        simp [Bool.and_or_distrib_right]
/-- The two items of a conflict are joined by a way. -/
theorem rch_rk {n : Nat} {C : List Con} {b x : Nat} (h : Rch n (mustB C) b x) : ∃ k, rk C b k x := by
  induction h with
  | refl => exact ⟨0, rfl⟩
  | tail _ _ _ hb ih =>
    obtain ⟨k, hk⟩ := ih
    exact ⟨k + 1, .inr ⟨_, hk, adjC_mustB.2 hb⟩⟩
theorem areCons_adj {n : Nat} {C : List Con} (h : areCons n C = true) : ∀ x y, adjC C x y → y < n := by
  rintro x y ⟨c, h1, _, h3⟩
  obtain ⟨_, _, hg⟩ := areCons_t h
  obtain ⟨g1, g2, g3⟩ := hg c h1
  omega
theorem conflict_at {n : Nat} {C : List Con} (h : 0 ≤ conflict n C) : areCons n C = true ∧ ∃ k : Nat, k < C.length ∧ conflict n C = (k : Int) ∧ ∃ x y : Nat, cg C k = ((x : Int), (y : Int), false) ∧ x < y ∧ y < n ∧ ∃ d, IsD C y x d := by
  rcases Bool.eq_false_or_eq_true (areCons n C) with ha | ha
  · rw [conflict_t ha] at h ⊢
    have hl := must_length ha
    obtain ⟨k, hk, e1, e2⟩ : ∃ k : Nat, k < C.length ∧ fidx (cfl (must n C)) C = (k : Int) ∧ cfl (must n C) (cg C k) = true := by
      unfold fidx at h ⊢
      cases hf : C.findIdx? (cfl (must n C)) with
      | none => rw [hf] at h; simp at h
      | some k =>
        obtain ⟨hk, g, _⟩ := List.findIdx?_eq_some_iff_getElem.1 hf
        exact ⟨k, hk, rfl, by simpa [cg, hk] using g⟩
    obtain ⟨x, y, s, hc, hxy, hyn⟩ := con_nat ha hk
    rw [hc, cfl_at] at e2
    simp only [Bool.and_eq_true, Bool.not_eq_true', decide_eq_true_eq] at e2
    obtain ⟨rfl, e2⟩ := e2
    refine ⟨ha, k, hk, e1, x, y, hc, hxy, by omega, ?_⟩
    rw [must_t ha] at e2
    have hr := (must_ok.iff y x (by omega) (by omega)).1 e2.symm
    obtain ⟨j, hj⟩ := rch_rk hr
    obtain ⟨d, _, hd⟩ := isD_of j hj
    exact ⟨d, hd⟩
  · rw [conflict_f ha] at h; omega
noncomputable def cchain (n : Int) (C : List Con) : List Int :=
  if 0 ≤ conflict n C then
    let c := cg C (conflict n C).toNat
    let F := farL n.toNat C c.2.1.toNat
    chn n.toNat C F (F.getD c.1.toNat 0).toNat c.1.toNat
  else []
end Go.Sh

/-
  A queue of items builds the list of distances: plain.
-/
namespace Go.Sh
set_option linter.unusedSimpArgs false
set_option linter.unusedVariables false
open Go Go.Proofs

theorem negs_succ (n : Nat) (O : List Int) : negs (n + 1) O = negs n O + if O.getD n 0 < 0 then 1 else 0 := by
  rw [negs, List.range_succ, List.countP_append]
  simp [negs]
theorem negs_set_ge {v : Int} {k : Nat} {O : List Int} : ∀ n, n ≤ k → negs n (O.set k v) = negs n O
  | 0, _ => rfl
  | n + 1, h => by
    rw [negs_succ, negs_succ, negs_set_ge n (by omega)]
    have : (O.set k v).getD n 0 = O.getD n 0 := by simp [List.getElem?_set, show ¬ k = n by omega]
    rw [this]
theorem negs_set {v : Int} {k : Nat} {O : List Int} (hv : 0 ≤ v) (h0 : O.getD k 0 < 0) (hk : k < O.length) : ∀ n, k < n → negs n (O.set k v) + 1 = negs n O
  | 0, h => by omega
  | n + 1, h => by
    rw [negs_succ, negs_succ]
    by_cases e : k = n
    · subst e
      rw [negs_set_ge k (Nat.le_refl _), if_pos h0]
      have : (O.set k v).getD k 0 = v := by simp [List.getElem?_set, hk]
      rw [this, if_neg (by omega)]
    · have := negs_set hv h0 hk n (by omega)
      have e2 : (O.set k v).getD n 0 = O.getD n 0 := by simp [List.getElem?_set, e]
      rw [e2]; omega
/-- Distances while q is looked at and Q waits. -/
structure Bfs (n : Nat) (C : List Con) (b q : Nat) (Q : List Nat) (F : List Int) : Prop where
  len : F.length = n
  val : ∀ x, x < n → F.getD x 0 = -1 ∨ ∃ d : Nat, F.getD x 0 = (d : Int) ∧ IsD C b x d
  fb : F.getD b 0 = 0
  qn : q < n
  q0 : 0 ≤ F.getD q 0
  qd : ∀ y ∈ Q, y < n ∧ F.getD q 0 ≤ F.getD y 0 ∧ F.getD y 0 ≤ F.getD q 0 + 1
  srt : Q.Pairwise fun x y => F.getD x 0 ≤ F.getD y 0
  cls : ∀ x, x < n → 0 ≤ F.getD x 0 → x ≠ q → x ∉ Q → ∀ y, adjC C x y → 0 ≤ F.getD y 0
  far : ∀ x, x < n → F.getD x 0 < 0 → ∀ e : Nat, (e : Int) ≤ F.getD q 0 → ¬ rk C b e x
theorem fset_at {F : List Int} {k : Nat} {v : Int} (hk : k < F.length) : (F.set k v).getD k 0 = v := by simp [List.getElem?_set, hk]
theorem fset_ne {F : List Int} {k x : Nat} {v : Int} (h : x ≠ k) : (F.set k v).getD x 0 = F.getD x 0 := by simp [List.getElem?_set, Ne.symm h]
theorem Bfs.start {n : Nat} {C : List Con} {b : Nat} (hb : b < n) : Bfs n C b b [] ((List.replicate n (-1)).set b 0) := by
  have hl : b < (List.replicate n (-1 : Int)).length := by simpa using hb
  have hr : ∀ x, x < n → x ≠ b → ((List.replicate n (-1)).set b 0).getD x 0 = (-1 : Int) := fun x hx h => by rw [fset_ne h]; simp [hx]
  refine ⟨by simp, fun x hx => ?_, fset_at hl, hb, by rw [fset_at hl]; omega, by simp, List.Pairwise.nil, fun x hx h0 hq _ => ?_, fun x hx h0 e he => ?_⟩
  · by_cases e : x = b
    · subst e; exact .inr ⟨0, fset_at hl, isD_zero.2 rfl⟩
    · exact .inl (hr x hx e)
  · have := hr x hx hq; omega
  · rw [fset_at hl] at he
    obtain rfl : e = 0 := by omega
    intro h
    have h : x = b := h
    subst h
    rw [fset_at hl] at h0; omega
theorem Bfs.put {n : Nat} {C : List Con} {b q : Nat} {Q : List Nat} {F : List Int} (h : Bfs n C b q Q F) {k : Nat} (hk : k < n) (h0 : F.getD k 0 < 0) (ha : adjC C q k) : Bfs n C b q (Q ++ [k]) (F.set k (F.getD q 0 + 1)) := by
  have hl := h.len
  have hkl : k < F.length := by omega
  have q0 := h.q0
  have hqk : q ≠ k := fun e => by subst e; omega
  have hbk : b ≠ k := fun e => by subst e; have := h.fb; omega
  have hQk : ∀ y ∈ Q, y ≠ k := fun y hy e => by subst e; have := h.qd y hy; omega
  have eq : (F.set k (F.getD q 0 + 1)).getD q 0 = F.getD q 0 := fset_ne hqk
  obtain ⟨d, hd, hD⟩ : ∃ d : Nat, F.getD q 0 = (d : Int) ∧ IsD C b q d := (h.val q h.qn).resolve_left (by omega)
  refine ⟨by simp [hl], fun x hx => ?_, by rw [fset_ne hbk, h.fb], h.qn, by rw [eq]; exact q0, fun y hy => ?_, ?_, fun x hx hx0 hxq hxQ y hy => ?_, fun x hx hx0 e he => ?_⟩
  · by_cases e : x = k
    · subst e
      rw [fset_at hkl]
      refine .inr ⟨d + 1, by omega, .inr ⟨q, hD.1, ha⟩, fun e he => h.far x hx h0 e (by omega)⟩
    · rw [fset_ne e]; exact h.val x hx
  · rw [eq]
    rcases List.mem_append.1 hy with hy | hy
    · rw [fset_ne (hQk y hy)]; exact h.qd y hy
    · obtain rfl : y = k := by simpa using hy
      rw [fset_at hkl]; omega
  · refine List.pairwise_append.2 ⟨?_, by simp, fun x hx y hy => ?_⟩
    · refine h.srt.imp_of_mem fun {x y} hx hy hxy => ?_
      rw [fset_ne (hQk x hx), fset_ne (hQk y hy)]; exact hxy
    · obtain rfl : y = k := by simpa using hy
      rw [fset_ne (hQk x hx), fset_at hkl]
      exact (h.qd x hx).2.2
  · have hxk : x ≠ k := fun e => hxQ (by simp [e])
    rw [fset_ne hxk] at hx0
    have := h.cls x hx hx0 hxq (fun g => hxQ (by simp [g])) y hy
    by_cases e : y = k
    · subst e; rw [fset_at hkl]; omega
    · rw [fset_ne e]; exact this
  · rw [eq] at he
    have hxk : x ≠ k := fun e => by subst e; rw [fset_at hkl] at hx0; omega
    rw [fset_ne hxk] at hx0
    exact h.far x hx hx0 e he
theorem Bfs.pop {n : Nat} {C : List Con} {b q q' : Nat} {Q : List Nat} {F : List Int} (ha : ∀ x y, adjC C x y → y < n) (h : Bfs n C b q (q' :: Q) F) (hq : ∀ y, adjC C q y → 0 ≤ F.getD y 0) : Bfs n C b q' Q F := by
  have q0 := h.q0
  obtain ⟨g1, g2, g3⟩ := h.qd q' (by simp)
  have hs := List.pairwise_cons.1 h.srt
  have hcl : ∀ x, x < n → 0 ≤ F.getD x 0 → x ≠ q' → x ∉ Q → ∀ y, adjC C x y → 0 ≤ F.getD y 0 := fun x hx hx0 hxq hxQ y hy => by
    by_cases e : x = q
    · subst e; exact hq y hy
    · exact h.cls x hx hx0 e (by simp [hxq, hxQ]) y hy
  refine ⟨h.len, h.val, h.fb, g1, by omega, fun y hy => ?_, hs.2, hcl, fun x hx hx0 e he hr => ?_⟩
  · have := h.qd y (by simp [hy])
    have := hs.1 y hy
    exact ⟨by omega, by omega, by omega⟩
  · by_cases hle : (e : Int) ≤ F.getD q 0
    · exact h.far x hx hx0 e hle hr
    · obtain ⟨d, hd, hD⟩ := isD_of e hr
      have hde : d = e := by
        by_cases g : (d : Int) ≤ F.getD q 0
        · exact absurd hD.1 (h.far x hx hx0 d g)
        · omega
      subst hde
      cases d with
      | zero => omega
      | succ d =>
        obtain ⟨y, k1, k2⟩ := isD_prev hD
        have hyn : y < n := ha x y (adjC_symm k2)
        have hFy : F.getD y 0 = (d : Int) := by
          rcases h.val y hyn with k3 | ⟨d', k3, k4⟩
          · exact absurd k1.1 (h.far y hyn (by omega) d (by omega))
          · rw [k3, isD_uniq k4 k1]
        have hyQ : y ∉ Q := fun g => by have := hs.1 y g; omega
        have := hcl y hyn (by omega) (fun g => by subst g; omega) hyQ x k2
        omega
theorem Bfs.done {n : Nat} {C : List Con} {b q : Nat} {F : List Int} (ha : ∀ x y, adjC C x y → y < n) (h : Bfs n C b q [] F) (hq : ∀ y, adjC C q y → 0 ≤ F.getD y 0) (hb : b < n) : FarL n C b F := by
  have hs : ∀ e x, rk C b e x → x < n ∧ 0 ≤ F.getD x 0 := by
    intro e
    induction e with
    | zero => intro x hx; have hx : x = b := hx; subst hx; exact ⟨hb, by rw [h.fb]; omega⟩
    | succ e ih =>
      rintro x (hx | ⟨y, hy, hyx⟩)
      · exact ih x hx
      · obtain ⟨y1, y2⟩ := ih y hy
        refine ⟨ha y x hyx, ?_⟩
        by_cases g : y = q
        · subst g; exact hq x hyx
        · exact h.cls y y1 y2 g (by simp) x hyx
  refine ⟨h.len, fun x hx => ?_⟩
  rcases h.val x hx with h1 | h2
  · exact .inl ⟨h1, fun d hd => by have := (hs d x hd).2; omega⟩
  · exact .inr h2
end Go.Sh

/-
  Lists of structs as cells, for elements of any fixed number of cells; triangles.
-/
namespace Go.Sh
set_option linter.unusedSimpArgs false
set_option linter.unusedVariables false
open Go

section
variable {α : Type} {enc : α → List SV} {z : Nat}
def encL (enc : α → List SV) (L : List α) : List SV := L.flatMap enc
theorem encL_nil : encL enc [] = [] := rfl
theorem encL_cons (a : α) (L : List α) : encL enc (a :: L) = enc a ++ encL enc L := rfl
theorem encL_length (hz : ∀ a, (enc a).length = z) : ∀ L : List α, (encL enc L).length = L.length * z
  | [] => by simp [encL]
  | a :: L => by
    rw [encL_cons, List.length_append, hz, encL_length hz L, List.length_cons, Nat.add_mul, Nat.one_mul, Nat.add_comm]
theorem encL_drop (hz : ∀ a, (enc a).length = z) : ∀ (L : List α) (k : Nat), (encL enc L).drop (k * z) = encL enc (L.drop k)
  | L, 0 => by simp
  | [], k + 1 => by simp [encL]
  | a :: L, k + 1 => by
    rw [encL_cons, Nat.add_mul, Nat.one_mul, Nat.add_comm (k * z) z, ← hz a, List.drop_append, List.drop_eq_nil_of_le (by omega), List.nil_append, Nat.add_sub_cancel_left, hz a, encL_drop hz L k]
    rfl
theorem encL_load (hz : ∀ a, (enc a).length = z) {L : List α} {k : Nat} (h : k < L.length) : ((encL enc L).drop (k * z)).take z = enc L[k] := by
  rw [encL_drop hz, List.drop_eq_getElem_cons h, encL_cons, ← hz L[k], List.take_left]
theorem encL_at (hz : ∀ a, (enc a).length = z) {L : List α} {k i : Nat} (h : k < L.length) (hi : i < z) : (encL enc L)[k * z + i]? = (enc L[k])[i]? := by
  have h2 : (((encL enc L).drop (k * z)).take z)[i]? = (enc L[k])[i]? := by rw [encL_load hz h]
  rw [List.getElem?_take, if_pos hi, List.getElem?_drop] at h2
  exact h2
theorem encL_append (A B : List α) : encL enc A ++ encL enc B = encL enc (A ++ B) := by simp [encL]
theorem encL_take_self (hz : ∀ a, (enc a).length = z) (L : List α) : (encL enc L).take (L.length * z) = encL enc L := by rw [← encL_length hz, List.take_length]
theorem encL_vals (hv : ∀ a, (enc a).all isVal = true) : ∀ L : List α, (encL enc L).all isVal = true
  | [] => rfl
  | a :: L => by rw [encL_cons, List.all_append, hv, encL_vals hv L]; rfl
theorem splice_ge : ∀ (new l : List SV) (x : SV) (o : Nat), splice (x :: l) (o + 1) new = x :: splice l o new
  | [], l, x, o => rfl
  | c :: new, l, x, o => by
    show splice (x :: l.set o c) (o + 1 + 1) new = x :: splice (l.set o c) (o + 1) new
    exact splice_ge new (l.set o c) x (o + 1)
theorem splice_app : ∀ (pre l new : List SV) (o : Nat), splice (pre ++ l) (pre.length + o) new = pre ++ splice l o new
  | [], l, new, o => by simp
  | p :: pre, l, new, o => by
    have e : (p :: pre).length + o = pre.length + o + 1 := by simp; omega
    rw [e, List.cons_append, splice_ge, splice_app pre l new o, List.cons_append]
theorem splice_front : ∀ (new old l : List SV), old.length = new.length → splice (old ++ l) 0 new = new ++ l
  | [], old, l, h => by
    have : old = [] := List.length_eq_zero_iff.1 (by simpa using h)
    subst this; rfl
  | c :: new, [], l, h => by simp at h
  | c :: new, o :: old, l, h => by
    show splice ((o :: (old ++ l)).set 0 c) (0 + 1) new = c :: (new ++ l)
    rw [List.set_cons_zero, splice_ge, splice_front new old l (by simpa using h)]
theorem encL_splice (hz : ∀ a, (enc a).length = z) : ∀ {L : List α} {k : Nat} (a : α), k < L.length → splice (encL enc L) (k * z) (enc a) = encL enc (L.set k a)
  | [], k, a, h => by simp at h
  | b :: L, 0, a, _ => by
    rw [encL_cons, Nat.zero_mul, splice_front _ _ _ (by rw [hz, hz])]; rfl
  | b :: L, k + 1, a, h => by
    have e : (k + 1) * z = (enc b).length + k * z := by rw [hz, Nat.add_mul, Nat.one_mul, Nat.add_comm]
    rw [encL_cons, e, splice_app, encL_splice hz a (by simpa using h)]; rfl
theorem rep_enc (hz : ∀ a, (enc a).length = z) (h0 : 0 < z) (d : α) (n : Nat) : rep (enc d) (n * z) = encL enc (List.replicate n d) := by
  apply List.ext_getElem?
  intro i
  by_cases h : i < n * z
  · have h3 : i / z < n := Nat.div_lt_of_lt_mul (by rw [Nat.mul_comm]; exact h)
    have hm : i % z < z := Nat.mod_lt _ h0
    have e : i = i / z * z + i % z := (Nat.div_add_mod' i z).symm
    have h4 : (encL enc (List.replicate n d))[i]? = (enc d)[i % z]? := by
      conv => lhs; rw [e]
      rw [encL_at hz (by simpa using h3) hm]
      simp
    rw [h4]
    simp only [rep, List.getElem?_map]
    rw [List.getElem?_range h]
    simp only [Option.map_some, hz d]
    rw [List.getElem?_eq_getElem (by rw [hz d]; exact hm), List.getD_eq_getElem?_getD, List.getElem?_eq_getElem (by rw [hz d]; exact hm)]
    rfl
  · rw [List.getElem?_eq_none (by simp [rep]; omega), List.getElem?_eq_none (by rw [encL_length hz]; simp; omega)]
end

/-- A triangle: its items, its weight. -/
abbrev Tri := Int × Int × Int × Int
def tri4 (t : Tri) : List SV := [.val (.int .i64 t.1), .val (.int .i64 t.2.1), .val (.int .i64 t.2.2.1), .val (.int .i64 t.2.2.2)]
theorem tri4_z (t : Tri) : (tri4 t).length = 4 := rfl
theorem tri4_v (t : Tri) : (tri4 t).all isVal = true := rfl
def rt (T : List Tri) : SV := .row T.length false (encL tri4 T)
def tg (T : List Tri) (k : Nat) : Tri := T.getD k (0, 0, 0, 0)
theorem tri_of {T : List Tri} {k : Nat} {a b c w : Int} (h : k < T.length) (e : tg T k = (a, b, c, w)) : (encL tri4 T)[k * 4]? = some (.val (.int .i64 a)) ∧ (encL tri4 T)[k * 4 + 1]? = some (.val (.int .i64 b)) ∧ (encL tri4 T)[k * 4 + 2]? = some (.val (.int .i64 c)) ∧ (encL tri4 T)[k * 4 + 3]? = some (.val (.int .i64 w)) ∧
    ((encL tri4 T).drop (k * 4)).take 4 = [.val (.int .i64 a), .val (.int .i64 b), .val (.int .i64 c), .val (.int .i64 w)] := by
  have e2 : T[k] = (a, b, c, w) := by rw [← e]; simp [tg, h]
  have g := fun i hi => encL_at (enc := tri4) (z := 4) tri4_z h (i := i) hi
  rw [e2] at g
  refine ⟨g 0 (by omega), g 1 (by omega), g 2 (by omega), g 3 (by omega), ?_⟩
  rw [encL_load tri4_z h, e2]; rfl
theorem tri_set4 {T : List Tri} {k : Nat} {a b c w : Int} (h : k < T.length) : ((((encL tri4 T).set (k * 4) (.val (.int .i64 a))).set (k * 4 + 1) (.val (.int .i64 b))).set (k * 4 + 1 + 1) (.val (.int .i64 c))).set (k * 4 + 1 + 1 + 1) (.val (.int .i64 w)) = encL tri4 (T.set k (a, b, c, w)) := by
  have := encL_splice (enc := tri4) (z := 4) tri4_z (a, b, c, w) h
  simpa only [splice, tri4] using this
theorem rep_tri (n : Nat) : rep [.val (.int .i64 0), .val (.int .i64 0), .val (.int .i64 0), .val (.int .i64 0)] (n * 4) = encL tri4 (List.replicate n (0, 0, 0, 0)) := rep_enc (enc := tri4) tri4_z (by omega) (0, 0, 0, 0) n
theorem tri_ex (T : List Tri) (k : Nat) : ∃ a b c w, tg T k = (a, b, c, w) := ⟨_, _, _, _, rfl⟩
theorem viewL_encL {H : Heap} {f : Nat} : ∀ T : List Tri, viewL H f (encL tri4 T) = some (encL tri4 T)
  | [] => viewL_nil_of
  | t :: T => viewL_cons_of view_int (viewL_cons_of view_int (viewL_cons_of view_int (viewL_cons_of view_int (viewL_encL T))))
theorem flat_viewT {T : List Tri} {n : Nat} {r : SV} {H : Heap} (h : FlatRes n 4 (encL tri4 T) r H) : view H 2 r = some (rt T) := by
  have hl := h.length
  rw [encL_length (z := 4) tri4_z] at hl
  have hn : T.length = n := by omega
  obtain ⟨b, off, cap, ex, blk, rfl, h1, h2, h3, h4⟩ := h
  simp only [view, h1, h3, if_true, h2, viewL_encL, rt, hn]
end Go.Sh

/-
  Contracts: a number repeated.
-/
namespace Go.Sh
set_option linter.unusedSimpArgs false
set_option linter.unusedVariables false
open Go Go.Proofs

theorem fin_tup2 {R : SV → Heap → Prop} {a b : Value} {H : Heap} (h : R (.tup [.val a, .val b]) ⟨fun _ => none, H.nb⟩) : Fin R (.tup [.val a, .val b]) H :=
  ⟨⟨fun _ => none, H.nb⟩, ⟨rfl, fun _ => .inl rfl⟩, by simp [noRow, noRowL], fun b blk hb => by simp at hb, h⟩
theorem view_tup2 {H : Heap} {f : Nat} {j k : IntKind} {a b : Int} : view H (f + 1) (.tup [.val (.int j a), .val (.int k b)]) = some (.tup [.val (.int j a), .val (.int k b)]) := by
  simp only [view, viewL, viewV]

set_option maxHeartbeats 4000000 in
theorem Try.mul64_ok (n : Nat) (h : n ≤ 8) : PCall Try.prog 184 [.val (.int .u64 1), .val (.int .u64 n)] (.tup [.val (.int .u64 0), .val (.int .u64 n)]) := by
  refine FCall.pcall (R := fun r _ => r = .tup [.val (.int .u64 0), .val (.int .u64 n)]) ?_ 1 (by rintro r H rfl; exact view_tup2)
  refine FCall.of_body Try.func184 rfl (by kernel_rfl) (by simp [Try.ntmps184]) ?_
  refine SW_of_vc Try.mixed _ _ _ (by kernel_rfl) ?_
  simp (disch := omega) only [Try.ntmps184, Try.results184, go_sem, Nat.reduceLT, Nat.reduceLeDiff, Nat.reduceEqDiff, Nat.reduceAdd, Nat.reduceSub, Nat.reduceMul, reduceIte, ↓reduceIte, reduceCtorEq, Int.reduceToNat, Int.reduceLE, Int.reduceLT, Int.reduceNeg, Int.reduceSub, Int.reduceAdd, Int.reduceMul]
  refine fin_tup2 ?_
  rcases (by omega : n = 0 ∨ n = 1 ∨ n = 2 ∨ n = 3 ∨ n = 4 ∨ n = 5 ∨ n = 6 ∨ n = 7 ∨ n = 8) with rfl | rfl | rfl | rfl | rfl | rfl | rfl | rfl | rfl
  all_goals kernel_rfl
set_option maxHeartbeats 4000000 in
theorem Try.bitsMul_ok (n : Nat) (h : n ≤ 8) : PCall Try.prog 156 [.val (.int .u64 1), .val (.int .u64 n)] (.tup [.val (.int .u64 0), .val (.int .u64 n)]) := by
  refine FCall.pcall (R := fun r _ => r = .tup [.val (.int .u64 0), .val (.int .u64 n)]) ?_ 1 (by rintro r H rfl; exact view_tup2)
  refine FCall.of_body Try.func156 rfl (by kernel_rfl) (by simp [Try.ntmps156]) ?_
  refine SW_of_vc Try.mixed _ _ _ (by kernel_rfl) ?_
  simp (disch := omega) only [Try.ntmps156, Try.results156, go_sem, Nat.reduceLT, Nat.reduceLeDiff, Nat.reduceEqDiff, Nat.reduceAdd, Nat.reduceSub, Nat.reduceMul, reduceIte, ↓reduceIte, reduceCtorEq, Int.reduceToNat, Int.reduceLE, Int.reduceLT, Int.reduceNeg, Int.reduceSub, Int.reduceAdd, Int.reduceMul]
  refine (Try.mul64_ok n h).callV 0 (viewL_cons_of (view_int) (viewL_cons_of (view_int) viewL_nil_of)) ?_
  simp (disch := omega) only [Try.ntmps156, Try.results156, go_sem, Nat.reduceLT, Nat.reduceLeDiff, Nat.reduceEqDiff, Nat.reduceAdd, Nat.reduceSub, Nat.reduceMul, reduceIte, ↓reduceIte, reduceCtorEq, Int.reduceToNat, Int.reduceLE, Int.reduceLT, Int.reduceNeg, Int.reduceSub, Int.reduceAdd, Int.reduceMul]
  exact fin_tup2 rfl

def repL (n c : Nat) (a : Int) : List Int := List.replicate c a ++ List.replicate (n - c) 0
theorem repL_length {n c : Nat} {a : Int} (h : c ≤ n) : (repL n c a).length = n := by simp [repL]; omega
theorem repL_zero (n : Nat) (a : Int) : repL n 0 a = List.replicate n 0 := by simp [repL]
theorem repL_all (n : Nat) (a : Int) : repL n n a = List.replicate n a := by simp [repL]
theorem repL_splice {n c m : Nat} {a : Int} (h : c + m ≤ n) : splice (ints (repL n c a)) c (ints (List.replicate m a)) = ints (repL n (c + m) a) := by
  have e1 : ints (repL n c a) = ints (List.replicate c a) ++ (ints (List.replicate m 0) ++ ints (List.replicate (n - c - m) 0)) := by
    rw [repL, ints_append, ints_append]
    congr 2
    have : n - c = m + (n - c - m) := by omega
    conv => lhs; rw [this]
    rw [← List.replicate_append_replicate]
  have e2 : c = (ints (List.replicate c a)).length + 0 := by simp [ints]
  rw [e1]
  conv => lhs; arg 2; rw [e2]
  rw [splice_app, splice_front _ _ _ (by simp [ints]), repL, ints_append, ints_append]
  congr 1
  rw [← List.replicate_append_replicate, List.append_assoc]
  congr 3; omega
theorem repL_take {n c m : Nat} {a : Int} (h : m ≤ c) : (repL n c a).take m = List.replicate m a := by
  rw [repL, List.take_append_of_le_length (by simpa using h), List.take_replicate]
  congr 1; omega

set_option maxHeartbeats 4000000 in
theorem Try.repeat_f (n : Nat) (a : Int) (h1 : 1 ≤ n) (h : n ≤ 8) : FCall Try.prog 97 [ri [a], .val (.int .i64 n)] (FlatRes n 1 (ints (List.replicate n a))) := by
  refine FCall.of_body Try.func97 rfl (by kernel_rfl) (by simp [Try.ntmps97]) ?_
  refine SW_of_vc Try.mixed _ _ _ (by kernel_rfl) ?_
  have hz := repL_zero n a
  have e1 : IntKind.u64.wrap ((1 : Nat) : Int) = 1 := by kernel_rfl
  have e2 : IntKind.u64.wrap (n : Int) = n := by
    rcases (by omega : n = 1 ∨ n = 2 ∨ n = 3 ∨ n = 4 ∨ n = 5 ∨ n = 6 ∨ n = 7 ∨ n = 8) with rfl | rfl | rfl | rfl | rfl | rfl | rfl | rfl
    all_goals kernel_rfl
  simp (disch := omega) only [Try.ntmps97, Try.results97, go_sem, Nat.reduceLT, Nat.reduceLeDiff, Nat.reduceEqDiff, Nat.reduceAdd, Nat.reduceSub, Nat.reduceMul, reduceIte, ↓reduceIte, reduceCtorEq, Int.reduceToNat, Int.reduceLE, Int.reduceLT, Int.reduceNeg, Int.reduceSub, Int.reduceAdd, Int.reduceMul, e1, e2]
  have hmin : min 1 n = 1 := by omega
  have hlr : (List.replicate n (0 : Int)).length = n := by simp
  have ht1 : (ints (List.replicate n 0)).take n = ints (List.replicate n 0) := ints_take_of hlr
  have ht2 : (ints [a]).take 1 = ints [a] := rfl
  have hs0 : splice (ints (List.replicate n 0)) 0 (ints [a]) = ints (repL n 1 a) := by
    have := repL_splice (n := n) (c := 0) (m := 1) (a := a) (by omega)
    rwa [hz] at this
  refine (Try.bitsMul_ok n h).callV 0 (viewL_cons_of (view_int) (viewL_cons_of (view_int) viewL_nil_of)) ?_
  simp (disch := omega) only [Try.ntmps97, Try.results97, go_sem, Nat.reduceLT, Nat.reduceLeDiff, Nat.reduceEqDiff, Nat.reduceAdd, Nat.reduceSub, Nat.reduceMul, reduceIte, ↓reduceIte, reduceCtorEq, Int.reduceToNat, Int.reduceLE, Int.reduceLT, Int.reduceNeg, Int.reduceSub, Int.reduceAdd, Int.reduceMul, e1, e2, hlr, ht1, ints_flat, hmin, ht2, hs0]
  refine LoopW.loop (fun c : Nat => ⟨ofL [(7, .own 0 0 n n 1 true), (8, .val (.int .i64 c))], hp [(0, ⟨ints (repL n c a), true⟩)] 1⟩) (fun c => 1 ≤ c ∧ c ≤ n) (fun c => n - c) 1 ⟨by omega, h1⟩ (Wk.of (by simp only [go_sem, ↓List.forall_mem_cons, List.not_mem_nil, false_implies, implies_true, and_true, true_and, and_self, Nat.reduceEqDiff, reduceIte, ↓reduceIte, ri_eq, Int.natCast_add, Int.cast_ofNat_Int]; try simp) rfl) ?_
  rintro c ⟨hc1, hc⟩
  have hl := repL_length (a := a) hc
  refine SW_of_vc Try.mixed _ _ _ (by kernel_rfl) ?_
  by_cases hlt : c < n
  · obtain ⟨m, hm⟩ : ∃ m, min c (n - c) = m := ⟨_, rfl⟩
    have hm1 : c + m ≤ n := by omega
    have hm2 : m ≤ c := by omega
    have hm3 : 1 ≤ m := by omega
    have hsp := repL_splice (n := n) (c := c) (m := m) (a := a) hm1
    have htk := repL_take (n := n) (c := c) (m := m) (a := a) hm2
    have htc : ((ints (repL n c a)).take c).take m = ints (List.replicate m a) := by rw [List.take_take, Nat.min_eq_left hm2, ints_take, htk]
    have hfl : ((ints (repL n c a)).take c).all flat = true := by rw [ints_take]; exact ints_flat _
    simp (disch := omega) only [Try.ntmps97, Try.results97, go_sem, Nat.reduceLT, Nat.reduceLeDiff, Nat.reduceEqDiff, Nat.reduceAdd, Nat.reduceSub, Nat.reduceMul, reduceIte, ↓reduceIte, reduceCtorEq, Int.reduceToNat, Int.reduceLE, Int.reduceLT, Int.reduceNeg, Int.reduceSub, Int.reduceAdd, Int.reduceMul, hl, hfl, hm, htc, hsp]
    exact ⟨c + m, ⟨by omega, hm1⟩, by omega, Wk.of (by simp only [go_sem, ↓List.forall_mem_cons, List.not_mem_nil, false_implies, implies_true, and_true, true_and, and_self, Nat.reduceEqDiff, reduceIte, ↓reduceIte, ri_eq, Int.natCast_add, Int.cast_ofNat_Int]; try simp) rfl⟩
  · obtain rfl : c = n := by omega
    rw [repL_all]
    simp (disch := omega) only [Try.ntmps97, Try.results97, go_sem, Nat.reduceLT, Nat.reduceLeDiff, Nat.reduceEqDiff, Nat.reduceAdd, Nat.reduceSub, Nat.reduceMul, reduceIte, ↓reduceIte, reduceCtorEq, Int.reduceToNat, Int.reduceLE, Int.reduceLT, Int.reduceNeg, Int.reduceSub, Int.reduceAdd, Int.reduceMul]
    exact fin_ints (by simp) (by rw [hp_map, hmap_cons, if_pos rfl])
theorem Try.repeat_one (n : Nat) (a : Int) (h1 : 1 ≤ n) (h : n ≤ 8) : FCall Try.prog 97 [ri [a], .val (.int .i64 n)] (OneRes n 1 (ints (List.replicate n a))) := (Try.repeat_f n a h1 h).one
end Go.Sh

/-
  Contracts: labels by first occurrence. Of the reference.
-/
namespace Go.Sh
set_option linter.unusedSimpArgs false
set_option linter.unusedVariables false
open Go Go.Proofs

theorem cstep_nodup {s : List Int × List Int} {x : Int} (h : s.1.Nodup) : (cstep s x).1.Nodup := by
  unfold cstep
  split
  · exact h
  · rename_i hx
    show (s.1 ++ [x]).Nodup
    rw [List.nodup_append]
    refine ⟨h, by simp, ?_⟩
    intro a ha b hb
    simp at hb
    subst hb
    exact fun e => hx (e ▸ ha)
theorem cst_nodup : ∀ (L : List Int) (s : List Int × List Int), s.1.Nodup → (L.foldl cstep s).1.Nodup
  | [], s, h => h
  | x :: L, s, h => cst_nodup L (cstep s x) (cstep_nodup h)
theorem idx_eq {x : Int} {L : List Int} {k : Nat} (hk : k < L.length) (hd : L.Nodup) (e : L.getD k 0 = x) : idx x (L.take (k + 1)) = k := by
  refine idx_some (by simp; omega) (fun i hi => ?_) ?_
  · intro h
    have hi' : i < L.length := by omega
    have h1 : L[i] = L[k] := by
      have h2 : (L.take (k + 1)).getD i 0 = L[i] := by simp [hi', show i < k + 1 by omega]
      have h3 : L.getD k 0 = L[k] := by simp [hk]
      rw [← h2, h, ← h3, e]
    exact List.pairwise_iff_getElem.1 hd i k hi' hk hi h1
  · rw [← e]; simp [hk]
theorem idx_ne {x : Int} {L : List Int} {k : Nat} (hk : k < L.length) (e : L.getD k 0 ≠ x) : idx x (L.take (k + 1)) = idx x (L.take k) := by
  have h3 : L.getD k 0 = L[k] := by simp [hk]
  rw [h3] at e
  rw [List.take_succ_eq_append_getElem hk]
  unfold idx
  by_cases h : x ∈ L.take k
  · rw [if_pos h, if_pos (List.mem_append.2 (.inl h)), List.idxOf_append, if_pos h]
  · rw [if_neg h, if_neg]
    simp only [List.mem_append, List.mem_singleton, not_or]
    exact ⟨h, fun h => e h.symm⟩
theorem idx_nil (x : Int) : idx x [] = -1 := by simp [idx]

set_option maxHeartbeats 2000000 in
theorem Try.specCanon_f (L : List Int) (hL : L.length ≤ 1048576) : FCall Try.prog 179 [ri L] (FlatRes L.length 1 (ints (canon L))) := by
  refine FCall.of_body Try.func179 rfl (by kernel_rfl) (by simp [Try.ntmps179]) ?_
  refine SW_of_vc Try.mixed _ _ _ (by kernel_rfl) ?_
  simp (disch := omega) only [Try.ntmps179, Try.results179, go_sem, Nat.reduceLT, Nat.reduceLeDiff, Nat.reduceEqDiff, Nat.reduceAdd, Nat.reduceSub, Nat.reduceMul, reduceIte, ↓reduceIte, reduceCtorEq, Int.reduceToNat, Int.reduceLE, Int.reduceLT, Int.reduceNeg, Int.reduceSub, Int.reduceAdd, Int.reduceMul]
  refine LoopW.loop (fun p : Nat × Nat × Nat × Nat => ⟨ofL [(0, ri L), (3, .own p.2.1 0 (cst (L.take p.1)).2.length (cst (L.take p.1)).2.length 1 false), (4, .own p.2.2.1 0 (cst (L.take p.1)).1.length (cst (L.take p.1)).1.length 1 false), (5, .val (.int .i64 p.1))],
      hp [(p.2.1, ⟨ints (cst (L.take p.1)).2, false⟩), (p.2.2.1, ⟨ints (cst (L.take p.1)).1, false⟩)] p.2.2.2⟩)
    (fun p => p.1 ≤ L.length ∧ p.2.1 < p.2.2.2 ∧ p.2.2.1 < p.2.2.2 ∧ p.2.1 ≠ p.2.2.1) (fun p => L.length - p.1) (0, 0, 1, 2) ⟨by simp, by simp, by simp, by simp⟩
    (Wk.ofH (by simp only [go_sem, ↓List.forall_mem_cons, List.not_mem_nil, false_implies, implies_true, and_true, true_and, and_self, Nat.reduceEqDiff, reduceIte, ↓reduceIte, ri_eq, Int.natCast_add, Int.cast_ofNat_Int, List.take_zero, cst_zero, List.length_nil]; try simp) (by simp (disch := omega) only [go_sem, ↓List.forall_mem_cons, List.not_mem_nil, false_implies, implies_true, and_true, true_and, and_self, Nat.reduceEqDiff, reduceIte, ↓reduceIte, ri_eq, Int.natCast_add, Int.cast_ofNat_Int, if_pos, if_neg, Nat.reduceAdd, List.nil_append, List.take_zero, cst_zero, ints_nil]; try simp) (by simp [hp])) ?_
  rintro ⟨k, b1, b2, nb⟩ ⟨hk, hb1, hb2, hb3⟩
  simp only at hk hb1 hb2 hb3
  have l1 := cst_len1 (L.take k)
  have l2 := cst_len2 (L.take k)
  have l3 : (L.take k).length = k := by simp; omega
  have e1 := fun h => cst_succ (L := L) (k := k) h
  have hd : (cst (L.take k)).1.Nodup := cst_nodup _ _ (by simp)
  generalize he : cst (L.take k) = st at *
  obtain ⟨seen, out⟩ := st
  simp only at l1 l2 e1 hd ⊢
  refine SW_of_vc Try.mixed _ _ _ (by kernel_rfl) ?_
  by_cases hlt : k < L.length
  · have e1 := e1 hlt
    simp (disch := omega) only [Try.ntmps179, Try.results179, go_sem, Nat.reduceLT, Nat.reduceLeDiff, Nat.reduceEqDiff, Nat.reduceAdd, Nat.reduceSub, Nat.reduceMul, reduceIte, ↓reduceIte, reduceCtorEq, Int.reduceToNat, Int.reduceLE, Int.reduceLT, Int.reduceNeg, Int.reduceSub, Int.reduceAdd, Int.reduceMul]
    refine LoopW.loop (fun i : Nat => ⟨ofL [(0, ri L), (3, .own b1 0 out.length out.length 1 false), (4, .own b2 0 seen.length seen.length 1 false), (5, .val (.int .i64 k)), (6, .val (.int .i64 (idx (L.getD k 0) (seen.take i)))), (7, .val (.int .i64 i))],
        hp [(b1, ⟨ints out, false⟩), (b2, ⟨ints seen, false⟩)] nb⟩) (fun i => i ≤ seen.length) (fun i => seen.length - i) 0 (by omega) (Wk.of (by simp only [go_sem, ↓List.forall_mem_cons, List.not_mem_nil, false_implies, implies_true, and_true, true_and, and_self, Nat.reduceEqDiff, reduceIte, ↓reduceIte, ri_eq, Int.natCast_add, Int.cast_ofNat_Int, List.take_zero, idx_nil]; try simp) rfl) ?_
    intro i hi
    refine SW_of_vc Try.mixed _ _ _ (by kernel_rfl) ?_
    by_cases hil : i < seen.length
    · by_cases hx : seen.getD i 0 = L.getD k 0
      · have ei := idx_eq hil hd hx
        simp (disch := omega) only [Try.ntmps179, Try.results179, go_sem, Nat.reduceLT, Nat.reduceLeDiff, Nat.reduceEqDiff, Nat.reduceAdd, Nat.reduceSub, Nat.reduceMul, reduceIte, ↓reduceIte, reduceCtorEq, Int.reduceToNat, Int.reduceLE, Int.reduceLT, Int.reduceNeg, Int.reduceSub, Int.reduceAdd, Int.reduceMul]
        exact ⟨i + 1, by omega, by omega, Wk.of (by simp only [go_sem, ↓List.forall_mem_cons, List.not_mem_nil, false_implies, implies_true, and_true, true_and, and_self, Nat.reduceEqDiff, reduceIte, ↓reduceIte, ri_eq, Int.natCast_add, Int.cast_ofNat_Int, ei]; try simp) rfl⟩
      · have ei := idx_ne hil hx
        simp (disch := omega) only [Try.ntmps179, Try.results179, go_sem, Nat.reduceLT, Nat.reduceLeDiff, Nat.reduceEqDiff, Nat.reduceAdd, Nat.reduceSub, Nat.reduceMul, reduceIte, ↓reduceIte, reduceCtorEq, Int.reduceToNat, Int.reduceLE, Int.reduceLT, Int.reduceNeg, Int.reduceSub, Int.reduceAdd, Int.reduceMul]
        exact ⟨i + 1, by omega, by omega, Wk.of (by simp only [go_sem, ↓List.forall_mem_cons, List.not_mem_nil, false_implies, implies_true, and_true, true_and, and_self, Nat.reduceEqDiff, reduceIte, ↓reduceIte, ri_eq, Int.natCast_add, Int.cast_ofNat_Int, ei]; try simp) rfl⟩
    · obtain rfl : i = seen.length := by omega
      rw [List.take_length]
      by_cases hm : L.getD k 0 ∈ seen
      · have hi := idx_nonneg hm
        simp (disch := omega) only [Try.ntmps179, Try.results179, go_sem, Nat.reduceLT, Nat.reduceLeDiff, Nat.reduceEqDiff, Nat.reduceAdd, Nat.reduceSub, Nat.reduceMul, reduceIte, ↓reduceIte, reduceCtorEq, Int.reduceToNat, Int.reduceLE, Int.reduceLT, Int.reduceNeg, Int.reduceSub, Int.reduceAdd, Int.reduceMul]
        simp only [cstep, if_pos hm] at e1
        refine ⟨(k + 1, nb + 1, b2, nb + 1 + 1), ⟨hlt, by show nb + 1 < nb + 1 + 1; omega, by show b2 < nb + 1 + 1; omega, by show nb + 1 ≠ b2; omega⟩, by show L.length - (k + 1) < L.length - k; omega, ?_⟩
        exact Wk.ofH (by simp only [go_sem, ↓List.forall_mem_cons, List.not_mem_nil, false_implies, implies_true, and_true, true_and, and_self, Nat.reduceEqDiff, reduceIte, ↓reduceIte, ri_eq, Int.natCast_add, Int.cast_ofNat_Int, e1, List.length_append, List.length_cons, List.length_nil, Nat.zero_add]; try simp) (by simp (disch := omega) only [go_sem, ↓List.forall_mem_cons, List.not_mem_nil, false_implies, implies_true, and_true, true_and, and_self, Nat.reduceEqDiff, reduceIte, ↓reduceIte, ri_eq, Int.natCast_add, Int.cast_ofNat_Int, if_pos, if_neg, Nat.reduceAdd, List.nil_append, e1]; try simp) (by simp [hp])
      · rw [idx_neg hm]
        simp (disch := omega) only [Try.ntmps179, Try.results179, go_sem, Nat.reduceLT, Nat.reduceLeDiff, Nat.reduceEqDiff, Nat.reduceAdd, Nat.reduceSub, Nat.reduceMul, reduceIte, ↓reduceIte, reduceCtorEq, Int.reduceToNat, Int.reduceLE, Int.reduceLT, Int.reduceNeg, Int.reduceSub, Int.reduceAdd, Int.reduceMul]
        simp only [cstep, if_neg hm] at e1
        refine ⟨(k + 1, nb + 1 + 1 + 1, nb + 1, nb + 1 + 1 + 1 + 1), ⟨hlt, by show nb + 1 + 1 + 1 < nb + 1 + 1 + 1 + 1; omega, by show nb + 1 < nb + 1 + 1 + 1 + 1; omega, by show nb + 1 + 1 + 1 ≠ nb + 1; omega⟩, by show L.length - (k + 1) < L.length - k; omega, ?_⟩
        exact Wk.ofH (by simp only [go_sem, ↓List.forall_mem_cons, List.not_mem_nil, false_implies, implies_true, and_true, true_and, and_self, Nat.reduceEqDiff, reduceIte, ↓reduceIte, ri_eq, Int.natCast_add, Int.cast_ofNat_Int, e1, List.length_append, List.length_cons, List.length_nil, Nat.zero_add]; try simp) (by simp (disch := omega) only [go_sem, ↓List.forall_mem_cons, List.not_mem_nil, false_implies, implies_true, and_true, true_and, and_self, Nat.reduceEqDiff, reduceIte, ↓reduceIte, ri_eq, Int.natCast_add, Int.cast_ofNat_Int, if_pos, if_neg, Nat.reduceAdd, List.nil_append, e1]; try simp) (by simp [hp])
  · simp (disch := omega) only [Try.ntmps179, Try.results179, go_sem, Nat.reduceLT, Nat.reduceLeDiff, Nat.reduceEqDiff, Nat.reduceAdd, Nat.reduceSub, Nat.reduceMul, reduceIte, ↓reduceIte, reduceCtorEq, Int.reduceToNat, Int.reduceLE, Int.reduceLT, Int.reduceNeg, Int.reduceSub, Int.reduceAdd, Int.reduceMul]
    have e2 : canon L = out := by
      have : L.take k = L := List.take_of_length_le (by omega)
      rw [canon, ← this, he]
    have e3 : out.length = L.length := by rw [l2, l3]; omega
    rw [e2, e3]
    exact fin_ints e3.symm (by rw [hp_map, hmap_cons, if_pos rfl])
theorem Try.specCanon_ok (L : List Int) (hL : L.length ≤ 1048576) : PCall Try.prog 179 [ri L] (ri (canon L)) :=
  (Try.specCanon_f L hL).pcall 2 (fun _ _ h => flat_view h)
end Go.Sh

/-
  Contracts: pairs of partitions and their meet. Of the reference and of the program.
-/
namespace Go.Sh
set_option linter.unusedSimpArgs false
set_option linter.unusedVariables false
open Go Go.Proofs

def pairB (A B : List Int) : Bool := isPart A && (isPart B && decide (A.length = B.length))
theorem pairB_t {A B : List Int} (h : pairB A B = true) : isPart A = true ∧ isPart B = true ∧ A.length = B.length := by
  simpa [pairB] using h

theorem okP_bound : ∀ (L : List Int) (nx : Int), okP nx L = true → ∀ i, i < L.length → 0 ≤ L.getD i 0 ∧ L.getD i 0 ≤ nx + i
  | [], nx, _, i, hi => by simp at hi
  | x :: L, nx, h, i, hi => by
    rw [okP, Bool.and_eq_true] at h
    obtain ⟨h1, h2⟩ := inR_of h.1
    match i with
    | 0 => simp; omega
    | i + 1 =>
      have := okP_bound L (max nx (x + 1)) h.2 i (by simpa using hi)
      have e : (x :: L).getD (i + 1) 0 = L.getD i 0 := by simp
      rw [e]
      omega
theorem isPart_len {L : List Int} (h : isPart L = true) : 1 ≤ L.length ∧ L.length ≤ 8 := by
  rw [isPart, Bool.and_eq_true] at h
  have := inR_of h.2
  omega
theorem isPart_bound {L : List Int} (h : isPart L = true) {i : Nat} (hi : i < L.length) : 0 ≤ L.getD i 0 ∧ L.getD i 0 ≤ 7 := by
  have hl := isPart_len h
  rw [isPart, Bool.and_eq_true] at h
  have := okP_bound L 0 h.1 i hi
  omega

def both (A B : List Int) : List Int := List.zipWith (fun x y => x * 8 + y) A B
theorem both_length {A B : List Int} (h : A.length = B.length) : (both A B).length = A.length := by simp [both, h]
theorem both_take {A B : List Int} {k : Nat} (h : A.length = B.length) (hk : k < A.length) : (both A B).take (k + 1) = (both A B).take k ++ [A.getD k 0 * 8 + B.getD k 0] := by
  have hb : k < (both A B).length := by rw [both_length h]; exact hk
  rw [List.take_succ_eq_append_getElem hb]
  congr 2
  have hk2 : k < B.length := by omega
  simp [both, hk, hk2]
theorem both_take_len {A B : List Int} {k : Nat} (h : A.length = B.length) (hk : k ≤ A.length) : ((both A B).take k).length = k := by
  rw [List.length_take, both_length h]; omega
def meet (A B : List Int) : List Int := canon (if pairB A B = true then both A B else [])

def meetF (A B : List Int) : Nat × Nat × Nat → St
  | (0, _, nb) => ⟨ofL [(0, ri A), (1, ri B), (5, .val (.slice none 0 0)), (12, .val (.int .i64 A.length)), (13, .val (.int .i64 0))], hp [] nb⟩
  | (k + 1, b, nb) => ⟨ofL [(0, ri A), (1, ri B), (5, .own b 0 (k + 1) (k + 1) 1 false), (12, .val (.int .i64 A.length)), (13, .val (.int .i64 ((k + 1 : Nat) : Int)))], hp [(b, ⟨ints ((both A B).take (k + 1)), false⟩)] nb⟩

theorem meet_f {A B : List Int} (h : pairB A B = false) : meet A B = [] := by rw [meet, if_neg (by simp [h])]; rfl
theorem meet_length {A B : List Int} (h : pairB A B = true) : (meet A B).length = A.length := by
  rw [meet, if_pos h, canon_length, both_length (pairB_t h).2.2]

end Go.Sh

/-
  Labels by first occurrence: what they tell of the list; refinement as equality of the meet.
-/
namespace Go.Sh
set_option linter.unusedSimpArgs false
set_option linter.unusedVariables false
open Go Go.Proofs

theorem idx_append {x y : Int} {S : List Int} (h : x ∈ S) : idx x (S ++ [y]) = idx x S := by
  unfold idx
  rw [if_pos h, if_pos (List.mem_append.2 (.inl h)), List.idxOf_append, if_pos h]
theorem idx_last {x : Int} {S : List Int} (h : ¬ x ∈ S) : idx x (S ++ [x]) = S.length := by
  unfold idx
  rw [if_pos (by simp), List.idxOf_append, if_neg h]
  simp
theorem idx_inj {x y : Int} {S : List Int} (hx : x ∈ S) (hy : y ∈ S) (h : idx x S = idx y S) : x = y := by
  unfold idx at h
  rw [if_pos hx, if_pos hy] at h
  have h' : S.idxOf x = S.idxOf y := by omega
  have h1 := List.getElem_idxOf (List.idxOf_lt_length_of_mem hx)
  have h2 := List.getElem_idxOf (List.idxOf_lt_length_of_mem hy)
  rw [← h1, ← h2]
  simp only [h']

theorem cst_spec (X : List Int) : ∀ k, k ≤ X.length → (∀ i, i < k → X.getD i 0 ∈ (cst (X.take k)).1 ∧ (cst (X.take k)).2.getD i 0 = idx (X.getD i 0) (cst (X.take k)).1) ∧ ∀ z, z ∈ (cst (X.take k)).1 → ∃ i, i < k ∧ X.getD i 0 = z
  | 0, _ => by
    refine ⟨fun i hi => by omega, fun z hz => ?_⟩
    rw [List.take_zero, cst_zero] at hz
    simp at hz
  | k + 1, hk => by
    obtain ⟨h1, h2⟩ := cst_spec X k (by omega)
    have e := cst_succ (L := X) (k := k) (by omega)
    have hlen : (cst (X.take k)).2.length = k := by rw [cst_len2]; simp; omega
    rw [e]
    generalize hs : cst (X.take k) = st at *
    obtain ⟨S, O⟩ := st
    simp only at h1 h2 hlen ⊢
    unfold cstep
    simp only
    by_cases hx : X.getD k 0 ∈ S
    · rw [if_pos hx]
      refine ⟨fun i hi => ?_, fun z hz => ?_⟩
      · rcases Nat.lt_succ_iff_lt_or_eq.mp hi with h | rfl
        · obtain ⟨g1, g2⟩ := h1 i h
          refine ⟨g1, ?_⟩
          rw [← g2]
          simp [List.getD, List.getElem?_append_left (show i < O.length by omega)]
        · refine ⟨hx, ?_⟩
          simp [List.getD, List.getElem?_append_right (show O.length ≤ i by omega), hlen]
      · obtain ⟨i, g1, g2⟩ := h2 z hz
        exact ⟨i, by omega, g2⟩
    · rw [if_neg hx]
      refine ⟨fun i hi => ?_, fun z hz => ?_⟩
      · rcases Nat.lt_succ_iff_lt_or_eq.mp hi with h | rfl
        · obtain ⟨g1, g2⟩ := h1 i h
          refine ⟨List.mem_append.2 (.inl g1), ?_⟩
          show (O ++ [(S.length : Int)]).getD i 0 = idx (X.getD i 0) (S ++ [X.getD k 0])
          rw [idx_append g1, ← g2]
          simp [List.getD, List.getElem?_append_left (show i < O.length by omega)]
        · refine ⟨by simp, ?_⟩
          show (O ++ [(S.length : Int)]).getD i 0 = idx (X.getD i 0) (S ++ [X.getD i 0])
          rw [idx_last hx]
          simp [List.getD, List.getElem?_append_right (show O.length ≤ i by omega), hlen]
      · rcases List.mem_append.1 hz with h | h
        · obtain ⟨i, g1, g2⟩ := h2 z h
          exact ⟨i, by omega, g2⟩
        · simp at h
          exact ⟨k, by omega, by simpa using h.symm⟩

theorem canon_inj {X : List Int} {i k : Nat} (hi : i < X.length) (hk : k < X.length) (h : (canon X).getD i 0 = (canon X).getD k 0) : X.getD i 0 = X.getD k 0 := by
  have := (cst_spec X X.length (Nat.le_refl _)).1
  rw [List.take_length] at this
  obtain ⟨g1, g2⟩ := this i hi
  obtain ⟨q1, q2⟩ := this k hk
  refine idx_inj g1 q1 ?_
  rw [← g2, ← q2]
  exact h

theorem canon_congr {X Y : List Int} (hl : X.length = Y.length) (h : ∀ i k, i < X.length → k < X.length → (X.getD i 0 = X.getD k 0 ↔ Y.getD i 0 = Y.getD k 0)) : canon X = canon Y := by
  have key : ∀ k, k ≤ X.length → (cst (X.take k)).2 = (cst (Y.take k)).2 ∧ (cst (X.take k)).1.length = (cst (Y.take k)).1.length := by
    intro k
    induction k with
    | zero => intro _; simp
    | succ k ih =>
      intro hk
      obtain ⟨i1, i2⟩ := ih (by omega)
      obtain ⟨x1, x2⟩ := cst_spec X k (by omega)
      obtain ⟨y1, y2⟩ := cst_spec Y k (by omega)
      rw [cst_succ (L := X) (by omega), cst_succ (L := Y) (by omega)]
      generalize hs : cst (X.take k) = sx at *
      generalize ht : cst (Y.take k) = sy at *
      obtain ⟨SX, OX⟩ := sx
      obtain ⟨SY, OY⟩ := sy
      simp only at i1 i2 x1 x2 y1 y2
      subst i1
      unfold cstep
      simp only
      by_cases hx : X.getD k 0 ∈ SX
      · obtain ⟨i, g1, g2⟩ := x2 _ hx
        have hy' := (h i k (by omega) (by omega)).1 g2
        have hy : Y.getD k 0 ∈ SY := by rw [← hy']; exact (y1 i g1).1
        rw [if_pos hx, if_pos hy]
        refine ⟨?_, i2⟩
        show OX ++ [idx (X.getD k 0) SX] = OX ++ [idx (Y.getD k 0) SY]
        rw [← g2, ← hy', ← (x1 i g1).2, ← (y1 i g1).2]
      · have hy : ¬ Y.getD k 0 ∈ SY := by
          intro hy
          obtain ⟨i, g1, g2⟩ := y2 _ hy
          have hx' := (h i k (by omega) (by omega)).2 g2
          exact hx (by rw [← hx']; exact (x1 i g1).1)
        rw [if_neg hx, if_neg hy]
        refine ⟨?_, ?_⟩
        · show OX ++ [(SX.length : Int)] = OX ++ [(SY.length : Int)]
          rw [i2]
        · simp [i2]
  have := (key X.length (Nat.le_refl _)).1
  rw [List.take_length] at this
  rw [canon, this, hl, List.take_length]; rfl

def rng (n : Nat) : List Int := (List.range n).map fun x : Nat => (x : Int)
theorem rng_succ (n : Nat) : rng (n + 1) = rng n ++ [(n : Int)] := by simp [rng, List.range_succ]
theorem rng_len (n : Nat) : (rng n).length = n := by simp [rng]
theorem rng_mem {n : Nat} {x : Int} : x ∈ rng n ↔ 0 ≤ x ∧ x < n := by
  simp only [rng, List.mem_map, List.mem_range]
  constructor
  · rintro ⟨a, h, rfl⟩; omega
  · rintro ⟨h1, h2⟩; exact ⟨x.toNat, by omega, by omega⟩
theorem rng_get {n i : Nat} (h : i < n) : (rng n).getD i 0 = i := by simp [rng, h]
theorem rng_idx {n : Nat} {x : Int} (h1 : 0 ≤ x) (h2 : x < n) : idx x (rng n) = x := by
  have hk : x.toNat < (rng n).length := by rw [rng_len]; omega
  have := idx_some (x := x) hk (fun i hi => by rw [rng_get (by omega)]; omega) (by rw [rng_get (by omega)]; omega)
  rw [this]; omega
theorem fold_part : ∀ (L : List Int) (n : Nat) (out : List Int), okP n L = true → ∃ m, L.foldl cstep (rng n, out) = (rng m, out ++ L)
  | [], n, out, _ => ⟨n, by simp⟩
  | x :: L, n, out, h => by
    rw [okP, Bool.and_eq_true] at h
    obtain ⟨h1, h2⟩ := inR_of h.1
    rw [List.foldl_cons]
    by_cases hx : x < n
    · have hm : x ∈ rng n := rng_mem.2 ⟨h1, hx⟩
      have e : max (n : Int) (x + 1) = n := by omega
      have h3 := h.2
      rw [e] at h3
      obtain ⟨m, hm'⟩ := fold_part L n (out ++ [x]) h3
      refine ⟨m, ?_⟩
      have : cstep (rng n, out) x = (rng n, out ++ [x]) := by
        unfold cstep
        rw [if_pos hm, rng_idx h1 hx]
      rw [this, hm']
      simp
    · have hm : ¬ x ∈ rng n := fun h => hx (rng_mem.1 h).2
      have ex : x = n := by omega
      have e : max (n : Int) (x + 1) = ((n + 1 : Nat) : Int) := by omega
      have h3 := h.2
      rw [e] at h3
      obtain ⟨m, hm'⟩ := fold_part L (n + 1) (out ++ [x]) h3
      refine ⟨m, ?_⟩
      have : cstep (rng n, out) x = (rng (n + 1), out ++ [x]) := by
        unfold cstep
        rw [if_neg hm, rng_succ]
        simp only [rng_len, ex]
      rw [this, hm']
      simp
theorem canon_part {A : List Int} (h : isPart A = true) : canon A = A := by
  rw [isPart, Bool.and_eq_true] at h
  obtain ⟨m, hm⟩ := fold_part A 0 [] h.1
  have : rng 0 = [] := rfl
  rw [this] at hm
  rw [canon, cst, hm]
  simp

def Ref (A B : List Int) : Prop := ∀ i k, k < i → i < A.length → A.getD i 0 = A.getD k 0 → B.getD i 0 = B.getD k 0
theorem both_get {A B : List Int} {k : Nat} (hl : A.length = B.length) (hk : k < A.length) : (both A B).getD k 0 = A.getD k 0 * 8 + B.getD k 0 := by
  have hk2 : k < B.length := by omega
  simp [both, List.getElem?_zipWith, hk, hk2]
theorem meet_iff {A B : List Int} (h : pairB A B = true) : meet A B = A ↔ Ref A B := by
  obtain ⟨pa, pb, hl⟩ := pairB_t h
  have hbl := both_length hl
  rw [meet, if_pos h]
  have hpat : ∀ i k, i < A.length → k < A.length → ((both A B).getD i 0 = (both A B).getD k 0 ↔ (A.getD i 0 = A.getD k 0 ∧ B.getD i 0 = B.getD k 0)) := by
    intro i k hi hk
    rw [both_get hl hi, both_get hl hk]
    have b1 := isPart_bound pb (i := i) (by omega)
    have b2 := isPart_bound pb (i := k) (by omega)
    constructor
    · intro e; omega
    · rintro ⟨e1, e2⟩; rw [e1, e2]
  constructor
  · intro e i k hki hi ha
    have h1 : (canon (both A B)).getD i 0 = (canon (both A B)).getD k 0 := by rw [e]; exact ha
    have h2 := canon_inj (by omega) (by omega) h1
    exact ((hpat i k hi (by omega)).1 h2).2
  · intro hr
    have hr' : ∀ i k, i < A.length → k < A.length → A.getD i 0 = A.getD k 0 → B.getD i 0 = B.getD k 0 := by
      intro i k hi hk e
      rcases Nat.lt_trichotomy k i with h | h | h
      · exact hr i k h hi e
      · rw [h]
      · exact (hr k i h hk e.symm).symm
    rw [canon_congr (Y := A) (by omega) (fun i k hi hk => ?_), canon_part pa]
    rw [hpat i k (by omega) (by omega)]
    exact ⟨fun e => e.1, fun e => ⟨e, hr' i k (by omega) (by omega) e⟩⟩
end Go.Sh

/-
  Contracts: is a list of numbers an order? Of the reference and of the program.
-/
namespace Go.Sh
set_option linter.unusedSimpArgs false
set_option linter.unusedVariables false
open Go Go.Proofs

theorem row_take {L : List Int} {k : Nat} (h : k ≤ L.length) : SV.row k false ((ints L).take k) = ri (L.take k) := by
  rw [ri]; simp [ints, Nat.min_eq_left h]

end Go.Sh

/-
  Sets of items as bits.
-/
namespace Go.Sh
set_option linter.unusedSimpArgs false
set_option linter.unusedVariables false
open Go

theorem bit_step : ∀ m : _root_.Fin 256, ∀ x y : _root_.Fin 8, 0 ≤ kor .i64 (m.val : Int) (kshl .i64 1 (x.val : Int)) ∧ kor .i64 (m.val : Int) (kshl .i64 1 (x.val : Int)) < 256 ∧
    (kand .i64 (kshr .i64 (kor .i64 (m.val : Int) (kshl .i64 1 (x.val : Int))) (y.val : Int)) 1 = 1 ↔ (kand .i64 (kshr .i64 (m.val : Int) (y.val : Int)) 1 = 1 ∨ y = x)) := by decide +kernel

def bits (m : Int) (L : List Int) : Prop := 0 ≤ m ∧ m < 256 ∧ ∀ y : Int, 0 ≤ y → y < 8 → (kand .i64 (kshr .i64 m y) 1 = 1 ↔ y ∈ L)
theorem bits_nil : bits 0 [] := by
  refine ⟨by omega, by omega, ?_⟩
  have h : ∀ y : _root_.Fin 8, ¬ kand .i64 (kshr .i64 0 (y.val : Int)) 1 = 1 := by decide +kernel
  intro y h1 h2
  have := h ⟨y.toNat, by omega⟩
  simp only [Int.toNat_of_nonneg h1] at this
  simp [this]
theorem bits_step {m x : Int} {L : List Int} (h : bits m L) (h1 : 0 ≤ x) (h2 : x < 8) : bits (kor .i64 m (kshl .i64 1 x)) (L ++ [x]) := by
  obtain ⟨a, b, c⟩ := h
  have e (y : Int) (h3 : 0 ≤ y) (h4 : y < 8) := bit_step ⟨m.toNat, by omega⟩ ⟨x.toNat, by omega⟩ ⟨y.toNat, by omega⟩
  simp only [Int.toNat_of_nonneg a, Int.toNat_of_nonneg h1] at e
  refine ⟨(e 0 (by omega) (by omega)).1, (e 0 (by omega) (by omega)).2.1, fun y h3 h4 => ?_⟩
  have e2 := (e y h3 h4).2.2
  simp only [Int.toNat_of_nonneg h3] at e2
  rw [e2, List.mem_append, c y h3 h4, List.mem_singleton]
  have : ((⟨y.toNat, by omega⟩ : _root_.Fin 8) = ⟨x.toNat, by omega⟩) ↔ y = x := by
    rw [_root_.Fin.mk.injEq]; omega
  rw [this]
end Go.Sh

/-
  Contracts: is a list of numbers an order? Of the reference.
-/
namespace Go.Sh
set_option linter.unusedSimpArgs false
set_option linter.unusedVariables false
open Go Go.Proofs

end Go.Sh
