/-
  Contracts: a square of zeros; the components of a graph of positive weights. Of the program.
-/
import Derived.Test.YtehimkdkflnkbaaN1
import Derived.Test.YtehimkdkflnkbaaK2
import Derived.Test.YtehimkdkflnkbaaK3
namespace Go.Sh
set_option linter.unusedSimpArgs false
set_option linter.unusedVariables false
open Go Go.Proofs

def zs (n : Nat) : List (List Int) := List.replicate n (List.replicate n 0)
theorem zs_length (n : Nat) : (zs n).length = n := by simp [zs]
theorem zs_row {n i : Nat} (h : i < n) : mrow (zs n) i = List.replicate n 0 := by simp [zs, mrow, h]
theorem zs_at {n i k : Nat} : mat (zs n) i k = 0 := by
  simp only [zs, mat, mrow, List.getD_eq_getElem?_getD, List.getElem?_replicate]
  by_cases h : i < n
  · by_cases h2 : k < n <;> simp [h, h2]
  · simp [h]
def outerQ (n k : Nat) : List SV := (List.range n).map fun i => if i < k then .own (i + 1) 0 n n 1 true else .val (.slice none 0 0)
theorem outerQ_length (n k : Nat) : (outerQ n k).length = n := by simp [outerQ]
theorem outerQ_zero (n : Nat) : outerQ n 0 = List.replicate n (.val (.slice none 0 0)) := by
  apply List.ext_getElem <;> simp [outerQ]
theorem outerQ_get {n k i : Nat} (h : i < n) : (outerQ n k)[i]? = some (if i < k then .own (i + 1) 0 n n 1 true else .val (.slice none 0 0)) := by
  simp only [outerQ, List.getElem?_map]
  rw [List.getElem?_range h]; rfl
theorem outerQ_set {n k : Nat} (h : k < n) : (outerQ n k).set k (.own (k + 1) 0 n n 1 true) = outerQ n (k + 1) := by
  apply List.ext_getElem?
  intro i
  by_cases hi : i < n
  · rw [outerQ_get hi, List.getElem?_set, outerQ_length, outerQ_get hi]
    by_cases hk : k = i
    · subst hk; simp [h]
    · by_cases h1 : i < k
      · simp [hk, h1, show i < k + 1 by omega]
      · simp [hk, h1, show ¬ i < k + 1 by omega]
  · rw [List.getElem?_eq_none (by rw [List.length_set, outerQ_length]; omega), List.getElem?_eq_none (by rw [outerQ_length]; omega)]
def HQ (n k : Nat) : Heap := ⟨fun x => if x = 0 then some ⟨outerQ n k, true⟩ else if x ≤ k then some ⟨ints (List.replicate n 0), true⟩ else none, k + 1⟩
def HQp (n k : Nat) : Heap := (HQ n k).push ⟨ints (List.replicate n 0), true⟩
theorem HQ_nb (n k : Nat) : (HQ n k).nb = k + 1 := rfl
theorem HQ_map (n k : Nat) : (HQ n k).map 0 = some ⟨outerQ n k, true⟩ := rfl
theorem HQp_map (n k : Nat) : (HQp n k).map 0 = some ⟨outerQ n k, true⟩ := by
  simp only [HQp, Heap.push, HQ]
  rw [if_neg (by omega)]
  rfl
theorem HQp_set {n k : Nat} : (HQp n k).set 0 (some ⟨outerQ n (k + 1), true⟩) = HQ n (k + 1) := by
  refine Heap.ext' (fun x => ?_) rfl
  simp only [HQp, HQ, Heap.push, Heap.set]
  by_cases h0 : x = 0
  · simp [h0]
  · by_cases h1 : x = k + 1
    · simp [h1]
    · by_cases h2 : x ≤ k
      · simp [h0, h1, h2, show x ≤ k + 1 by omega]
      · simp [h0, h1, h2, show ¬ x ≤ k + 1 by omega]
theorem HQ_zero (n : Nat) : HQ n 0 = hp [(0, ⟨List.replicate n (.val (.slice none 0 0)), true⟩)] 1 := by
  refine Heap.ext' (fun x => ?_) rfl
  simp only [HQ, hp, hmap, outerQ_zero]
  by_cases h0 : x = 0
  · simp [h0]
  · simp [h0]
theorem outerQ_nr (n k : Nat) : noRowL (outerQ n k) = true := by
  unfold outerQ
  generalize List.range n = l
  induction l with
  | nil => rfl
  | cons a l ih =>
    simp only [List.map_cons, noRowL, ih, Bool.and_true]
    split <;> rfl
theorem HQ_nr (n k : Nat) : nrHeap (HQ n k) := by
  intro b blk hb
  simp only [HQ] at hb
  split at hb
  · simp at hb; subst hb; exact outerQ_nr n k
  · split at hb
    · simp at hb; subst hb; exact noRowL_ints _
    · simp at hb
theorem HQ_res (n : Nat) : MatRes (mi (zs n)) (.own 0 0 n n 1 true) (HQ n n) := by
  have hl : (mi (zs n)).length = n := by rw [mi_length, zs_length]
  refine ⟨0, 0, n, true, _, by rw [hl], HQ_map n n, by rw [hl, outerQ_length]; omega, mi_vals _, fun i => i + 1, fun _ => 0, fun i i' _ _ h => by simpa using h, fun i _ => by simp, fun i hi => ?_⟩
  rw [hl] at hi
  have hr : rowAt (mi (zs n)) i = ints (List.replicate n 0) := by rw [mi_row (by rwa [zs_length]), zs_row hi]
  refine ⟨n, true, ⟨ints (List.replicate n 0), true⟩, ?_, ?_, ?_, ?_⟩
  · rw [hr, Nat.zero_add, outerQ_get hi, if_pos hi, ints_length, List.length_replicate]
  · simp only [HQ]
    rw [if_neg (by omega), if_pos (by omega)]
  · rw [hr]; simp
  · rw [hr]; simp

set_option maxHeartbeats 1000000 in
theorem Try.square_f (n : Nat) (hn : n ≤ 1048576) : FCall Try.prog 79 [.val (.int .i64 n)] (MatRes (mi (zs n))) := by
  refine FCall.of_body Try.func79 rfl (by kernel_rfl) (by simp [Try.ntmps79]) ?_
  refine SW_of_vc Try.mixed _ _ _ (by kernel_rfl) ?_
  simp (disch := omega) only [Try.ntmps79, Try.results79, go_sem, Nat.reduceLT, Nat.reduceLeDiff, Nat.reduceEqDiff, Nat.reduceAdd, Nat.reduceSub, Nat.reduceMul, reduceIte, ↓reduceIte, reduceCtorEq, Int.reduceToNat, Int.reduceLE, Int.reduceLT, Int.reduceNeg, Int.reduceSub, Int.reduceAdd, Int.reduceMul]
  refine LoopW.loop (fun k : Nat => ⟨ofL [(0, .val (.int .i64 n)), (3, .own 0 0 n n 1 true), (8, .val (.int .i64 n)), (9, .val (.int .i64 k))], HQ n k⟩) (fun k => k ≤ n) (fun k => n - k) 0 (by omega)
    (Wk.of (by simp only [go_sem, ↓List.forall_mem_cons, List.not_mem_nil, false_implies, implies_true, and_true, true_and, and_self, Nat.reduceEqDiff, reduceIte, ↓reduceIte, ri_eq, Int.natCast_add, Int.cast_ofNat_Int]; try simp) (by rw [HQ_zero])) ?_
  intro k hk
  have ho := outerQ_length n k
  refine SW_of_vc Try.mixed _ _ _ (by kernel_rfl) ?_
  by_cases hlt : k < n
  · have hos := outerQ_set hlt
    have e : (HQ n k).push ⟨ints (List.replicate n 0), true⟩ = HQp n k := rfl
    simp (disch := omega) only [Try.ntmps79, Try.results79, go_sem, Nat.reduceLT, Nat.reduceLeDiff, Nat.reduceEqDiff, Nat.reduceAdd, Nat.reduceSub, Nat.reduceMul, reduceIte, ↓reduceIte, reduceCtorEq, Int.reduceToNat, Int.reduceLE, Int.reduceLT, Int.reduceNeg, Int.reduceSub, Int.reduceAdd, Int.reduceMul, HQ_nb, e, HQp_map, ho, hos, HQp_set]
    exact ⟨k + 1, by omega, by omega, Wk.of (by simp only [go_sem, ↓List.forall_mem_cons, List.not_mem_nil, false_implies, implies_true, and_true, true_and, and_self, Nat.reduceEqDiff, reduceIte, ↓reduceIte, ri_eq, Int.natCast_add, Int.cast_ofNat_Int]; try simp) rfl⟩
  · obtain rfl : k = n := by omega
    simp (disch := omega) only [Try.ntmps79, Try.results79, go_sem, Nat.reduceLT, Nat.reduceLeDiff, Nat.reduceEqDiff, Nat.reduceAdd, Nat.reduceSub, Nat.reduceMul, reduceIte, ↓reduceIte, reduceCtorEq, Int.reduceToNat, Int.reduceLE, Int.reduceLT, Int.reduceNeg, Int.reduceSub, Int.reduceAdd, Int.reduceMul]
    exact ⟨HQ k k, ⟨rfl, fun _ => .inr rfl⟩, rfl, HQ_nr k _, HQ_res k⟩
theorem Try.square_one (n : Nat) (hn : n ≤ 1048576) : FCall Try.prog 79 [.val (.int .i64 n)] (MatOne (mi (zs n))) := (Try.square_f n hn).mat

/-! ### The search -/
def pB (M : List (List Int)) (x y : Nat) : Bool := decide (0 < mat M x y)
theorem WM.sym {M : List (List Int)} (h : WM M) : ∀ x y, x < M.length → y < M.length → pB M x y = true → pB M y x = true := by
  intro x y hx hy hb
  have := (h.2.2.1 x y hx hy).2
  rw [pB] at hb ⊢
  rw [← this]; exact hb
def vClos : SV := .clos (.func 122) [] [.optr 3 0, .optr 2 0, .optr 0 0, .optr 4 0]
def vHeap (M : List (List Int)) (O : List Int) (c : Int) : List (Nat × Blk) := [(4, ⟨[vClos], true⟩), (3, ⟨[.val (.int .i64 c)], true⟩), (2, ⟨[.own 1 0 M.length M.length 1 true], true⟩), (1, ⟨ints O, true⟩), (0, ⟨[rr M], true⟩)]

set_option maxHeartbeats 4000000 in
theorem Try.visit_ok {M : List (List Int)} (hw : WM M) {c : Int} (hc : 0 ≤ c) : ∀ (fu : Nat) (O : List Int) (i : Nat), O.length = M.length → i < M.length → O.getD i 0 < 0 → negs M.length O ≤ fu →
    CallS Try.prog 122 [.val (.int .i64 i), .optr 3 0, .optr 2 0, .optr 0 0, .optr 4 0] (hp (vHeap M O c) 5) (fun r H' => ∃ O', r = .tup [] ∧ H' = hp (vHeap M O' c) 5 ∧ DfsL M.length (pB M) c i O O')
  | 0, O, i, hl, hi, h0, hf => by have := negs_pos hi h0; omega
  | fu + 1, O, i, hl, hi, h0, hf => by
    have hln := hw.1
    have hri := hw.2.1 i hi
    refine CallS.of_body Try.func122 rfl (by kernel_rfl) (by simp [Try.ntmps122]) ?_
    refine SW_of_vc Try.mixed _ _ _ (by kernel_rfl) ?_
    rw [vHeap]
    simp (disch := omega) only [Try.ntmps122, Try.results122, go_sem, Nat.reduceLT, Nat.reduceLeDiff, Nat.reduceEqDiff, Nat.reduceAdd, Nat.reduceSub, Nat.reduceMul, reduceIte, ↓reduceIte, reduceCtorEq, Int.reduceToNat, Int.reduceLE, Int.reduceLT, Int.reduceNeg, Int.reduceSub, Int.reduceAdd, Int.reduceMul, rr_eq, hl, rows_get, hri]
    refine LoopW.loop (fun p : Nat × List Int => ⟨ofL [(1, .optr 3 0), (2, .optr 2 0), (3, .optr 0 0), (4, .optr 4 0), (15, .row M.length false (ints (mrow M i))), (16, .val (.int .i64 M.length)), (17, .val (.int .i64 p.1))], hp (vHeap M p.2 c) 5⟩)
      (fun p => p.1 ≤ M.length ∧ DfsK M.length (pB M) c i O p.1 p.2) (fun p => M.length - p.1) (0, O.set i c) ⟨by simp, .start hl hi h0⟩ (Wk.of (by simp only [go_sem, ↓List.forall_mem_cons, List.not_mem_nil, false_implies, implies_true, and_true, true_and, and_self, Nat.reduceEqDiff, reduceIte, ↓reduceIte, ri_eq, Int.natCast_add, Int.cast_ofNat_Int, rr_eq, hri]; try simp) rfl) ?_
    rintro ⟨k, O1⟩ ⟨hk, hd⟩
    simp only at hk hd
    have hl1 := hd.len
    refine SW_of_vc Try.mixed _ _ _ (by kernel_rfl) ?_
    rw [vHeap]
    by_cases hlt : k < M.length
    · have g1 : (ints (mrow M i))[k]? = some (.val (.int .i64 (mat M i k))) := ints_get' hri hlt
      have g2 : (ints O1)[k]? = some (.val (.int .i64 (O1.getD k 0))) := ints_get' hl1 hlt
      obtain ⟨a, ha⟩ : ∃ a, mat M i k = a := ⟨_, rfl⟩
      obtain ⟨b, hb⟩ : ∃ b, O1.getD k 0 = b := ⟨_, rfl⟩
      have hpb : pB M i k = decide (0 < a) := by rw [pB, ha]
      rw [ha] at g1
      rw [hb] at g2
      by_cases h1 : 0 < a
      · by_cases h2 : b < 0
        · have w := Try.visit_ok hw hc fu O1 k hl1 hlt (by omega) (by have := hd.negs hc hi h0; omega)
          rw [vHeap, vClos] at w
          simp (disch := omega) only [Try.ntmps122, Try.results122, go_sem, Nat.reduceLT, Nat.reduceLeDiff, Nat.reduceEqDiff, Nat.reduceAdd, Nat.reduceSub, Nat.reduceMul, reduceIte, ↓reduceIte, reduceCtorEq, Int.reduceToNat, Int.reduceLE, Int.reduceLT, Int.reduceNeg, Int.reduceSub, Int.reduceAdd, Int.reduceMul, vClos, g1, g2, hl1, ints_length]
          refine w.callX ?_
          rintro r H' ⟨O2, rfl, rfl, hd2⟩
          simp (disch := omega) only [Try.ntmps122, Try.results122, go_sem, Nat.reduceLT, Nat.reduceLeDiff, Nat.reduceEqDiff, Nat.reduceAdd, Nat.reduceSub, Nat.reduceMul, reduceIte, ↓reduceIte, reduceCtorEq, Int.reduceToNat, Int.reduceLE, Int.reduceLT, Int.reduceNeg, Int.reduceSub, Int.reduceAdd, Int.reduceMul]
          exact ⟨(k + 1, O2), ⟨hlt, hd.step hc hi hlt (by rw [hpb]; exact decide_eq_true h1) (by omega) hd2⟩, by show M.length - (k + 1) < M.length - k; omega, Wk.of (by simp only [go_sem, ↓List.forall_mem_cons, List.not_mem_nil, false_implies, implies_true, and_true, true_and, and_self, Nat.reduceEqDiff, reduceIte, ↓reduceIte, ri_eq, Int.natCast_add, Int.cast_ofNat_Int]; try simp) rfl⟩
        · simp (disch := omega) only [Try.ntmps122, Try.results122, go_sem, Nat.reduceLT, Nat.reduceLeDiff, Nat.reduceEqDiff, Nat.reduceAdd, Nat.reduceSub, Nat.reduceMul, reduceIte, ↓reduceIte, reduceCtorEq, Int.reduceToNat, Int.reduceLE, Int.reduceLT, Int.reduceNeg, Int.reduceSub, Int.reduceAdd, Int.reduceMul, vClos, g1, g2, hl1, ints_length]
          exact ⟨(k + 1, O1), ⟨hlt, hd.skip (fun _ => by omega)⟩, by show M.length - (k + 1) < M.length - k; omega, Wk.of (by simp only [go_sem, ↓List.forall_mem_cons, List.not_mem_nil, false_implies, implies_true, and_true, true_and, and_self, Nat.reduceEqDiff, reduceIte, ↓reduceIte, ri_eq, Int.natCast_add, Int.cast_ofNat_Int]; try simp) rfl⟩
      · simp (disch := omega) only [Try.ntmps122, Try.results122, go_sem, Nat.reduceLT, Nat.reduceLeDiff, Nat.reduceEqDiff, Nat.reduceAdd, Nat.reduceSub, Nat.reduceMul, reduceIte, ↓reduceIte, reduceCtorEq, Int.reduceToNat, Int.reduceLE, Int.reduceLT, Int.reduceNeg, Int.reduceSub, Int.reduceAdd, Int.reduceMul, vClos, g1, g2, hl1, ints_length]
        exact ⟨(k + 1, O1), ⟨hlt, hd.skip (fun h => by rw [hpb] at h; exact absurd (of_decide_eq_true h) h1)⟩, by show M.length - (k + 1) < M.length - k; omega, Wk.of (by simp only [go_sem, ↓List.forall_mem_cons, List.not_mem_nil, false_implies, implies_true, and_true, true_and, and_self, Nat.reduceEqDiff, reduceIte, ↓reduceIte, ri_eq, Int.natCast_add, Int.cast_ofNat_Int]; try simp) rfl⟩
    · simp (disch := omega) only [Try.ntmps122, Try.results122, go_sem, Nat.reduceLT, Nat.reduceLeDiff, Nat.reduceEqDiff, Nat.reduceAdd, Nat.reduceSub, Nat.reduceMul, reduceIte, ↓reduceIte, reduceCtorEq, Int.reduceToNat, Int.reduceLE, Int.reduceLT, Int.reduceNeg, Int.reduceSub, Int.reduceAdd, Int.reduceMul]
      exact ⟨O1, rfl, hd.final (by omega)⟩

def fillN (n k : Nat) : List Int := List.replicate k (-1) ++ List.replicate (n - k) 0
theorem fillN_zero (n : Nat) : fillN n 0 = List.replicate n 0 := by simp [fillN]
theorem fillN_length {n k : Nat} (h : k ≤ n) : (fillN n k).length = n := by simp [fillN]; omega
theorem fillN_set {n k : Nat} (h : k < n) : (fillN n k).set k (-1) = fillN n (k + 1) := by
  apply List.ext_getElem?
  intro i
  simp [fillN, List.getElem?_set, List.getElem?_append, List.getElem?_replicate]
  grind
theorem fillN_all (n : Nat) : fillN n n = List.replicate n (-1) := by simp [fillN]

theorem Fin.imp {R R' : SV → Heap → Prop} {r : SV} {H : Heap} (h : ∀ r H, R r H → R' r H) (f : Fin R r H) : Fin R' r H := by
  obtain ⟨H2, a, b, c, d⟩ := f
  exact ⟨H2, a, b, c, h _ _ d⟩
set_option maxHeartbeats 4000000 in
theorem Try.implPC_f (M : List (List Int)) (hM : M.length ≤ 1048576) (hR : ∀ i, i < M.length → (mrow M i).length ≤ 1048576) (hw : WM M) : FCall Try.prog 73 [rr M] (fun r H => CompL M.length (pB M) (comp M.length (pB M)) ∧ FlatRes M.length 1 (ints (comp M.length (pB M))) r H) := by
  have hln := hw.1
  have w1 := Try.implIsWM_ok M hM hR
  rw [isWM_t hw] at w1
  refine FCall.of_body Try.func73 rfl (by kernel_rfl) (by simp [Try.ntmps73]) ?_
  refine SW_of_vc Try.mixed _ _ _ (by kernel_rfl) ?_
  simp (disch := omega) only [Try.ntmps73, Try.results73, go_sem, Nat.reduceLT, Nat.reduceLeDiff, Nat.reduceEqDiff, Nat.reduceAdd, Nat.reduceSub, Nat.reduceMul, reduceIte, ↓reduceIte, reduceCtorEq, Int.reduceToNat, Int.reduceLE, Int.reduceLT, Int.reduceNeg, Int.reduceSub, Int.reduceAdd, Int.reduceMul, rr_eq]
  refine w1.callV 0 (viewL_cons_of (view_row) viewL_nil_of) ?_
  simp (disch := omega) only [Try.ntmps73, Try.results73, go_sem, Nat.reduceLT, Nat.reduceLeDiff, Nat.reduceEqDiff, Nat.reduceAdd, Nat.reduceSub, Nat.reduceMul, reduceIte, ↓reduceIte, reduceCtorEq, Int.reduceToNat, Int.reduceLE, Int.reduceLT, Int.reduceNeg, Int.reduceSub, Int.reduceAdd, Int.reduceMul, rr_eq]
  refine LoopW.loop (fun k : Nat => ⟨ofL [(1, .optr 0 0), (3, .optr 2 0), (15, .val (.int .i64 M.length)), (16, .val (.int .i64 k))], hp [(2, ⟨[.own 1 0 M.length M.length 1 true], true⟩), (1, ⟨ints (fillN M.length k), true⟩), (0, ⟨[rr M], true⟩)] 3⟩) (fun k => k ≤ M.length) (fun k => M.length - k) 0 (by omega)
    (Wk.of (by simp only [go_sem, ↓List.forall_mem_cons, List.not_mem_nil, false_implies, implies_true, and_true, true_and, and_self, Nat.reduceEqDiff, reduceIte, ↓reduceIte, ri_eq, Int.natCast_add, Int.cast_ofNat_Int]; try simp) (by rw [fillN_zero]; rfl)) ?_
  intro k hk
  have hfl := fillN_length hk
  refine SW_of_vc Try.mixed _ _ _ (by kernel_rfl) ?_
  by_cases hlt : k < M.length
  · have hfs := fillN_set hlt
    simp (disch := omega) only [Try.ntmps73, Try.results73, go_sem, Nat.reduceLT, Nat.reduceLeDiff, Nat.reduceEqDiff, Nat.reduceAdd, Nat.reduceSub, Nat.reduceMul, reduceIte, ↓reduceIte, reduceCtorEq, Int.reduceToNat, Int.reduceLE, Int.reduceLT, Int.reduceNeg, Int.reduceSub, Int.reduceAdd, Int.reduceMul, rr_eq, hfl, hfs]
    exact ⟨k + 1, by omega, by omega, Wk.of (by simp only [go_sem, ↓List.forall_mem_cons, List.not_mem_nil, false_implies, implies_true, and_true, true_and, and_self, Nat.reduceEqDiff, reduceIte, ↓reduceIte, ri_eq, Int.natCast_add, Int.cast_ofNat_Int]; try simp) rfl⟩
  · obtain rfl : k = M.length := by omega
    simp (disch := omega) only [Try.ntmps73, Try.results73, go_sem, Nat.reduceLT, Nat.reduceLeDiff, Nat.reduceEqDiff, Nat.reduceAdd, Nat.reduceSub, Nat.reduceMul, reduceIte, ↓reduceIte, reduceCtorEq, Int.reduceToNat, Int.reduceLE, Int.reduceLT, Int.reduceNeg, Int.reduceSub, Int.reduceAdd, Int.reduceMul, rr_eq, fillN_all]
    refine LoopW.loop (fun p : Nat × List Int × Int => ⟨ofL [(3, .optr 2 0), (5, .optr 3 0), (6, .optr 4 0), (25, .val (.int .i64 M.length)), (26, .val (.int .i64 p.1))], hp (vHeap M p.2.1 p.2.2) 5⟩)
      (fun p => p.1 ≤ M.length ∧ PartL M.length (pB M) p.1 p.2.2 p.2.1) (fun p => M.length - p.1) (0, List.replicate M.length (-1), 0) ⟨by simp, .zero _ _⟩ (Wk.of (by simp only [go_sem, ↓List.forall_mem_cons, List.not_mem_nil, false_implies, implies_true, and_true, true_and, and_self, Nat.reduceEqDiff, reduceIte, ↓reduceIte, ri_eq, Int.natCast_add, Int.cast_ofNat_Int]; try simp) rfl) ?_
    rintro ⟨i, O, c⟩ ⟨hi, hpl⟩
    simp only at hi hpl
    have hl := hpl.len
    have hc0 := hpl.c0
    have hci := hpl.ci
    refine SW_of_vc Try.mixed _ _ _ (by kernel_rfl) ?_
    rw [vHeap]
    by_cases hlt : i < M.length
    · have g2 : (ints O)[i]? = some (.val (.int .i64 (O.getD i 0))) := ints_get' hl hlt
      obtain ⟨b, hb⟩ : ∃ b, O.getD i 0 = b := ⟨_, rfl⟩
      rw [hb] at g2
      by_cases h2 : b < 0
      · have w := Try.visit_ok hw hc0 (negs M.length O) O i hl hlt (by omega) (Nat.le_refl _)
        rw [vHeap, vClos] at w
        simp (disch := omega) only [Try.ntmps73, Try.results73, go_sem, Nat.reduceLT, Nat.reduceLeDiff, Nat.reduceEqDiff, Nat.reduceAdd, Nat.reduceSub, Nat.reduceMul, reduceIte, ↓reduceIte, reduceCtorEq, Int.reduceToNat, Int.reduceLE, Int.reduceLT, Int.reduceNeg, Int.reduceSub, Int.reduceAdd, Int.reduceMul, vClos, g2, hl]
        refine w.callX ?_
        rintro r H' ⟨O2, rfl, rfl, hd⟩
        rw [vHeap]
        simp (disch := omega) only [Try.ntmps73, Try.results73, go_sem, Nat.reduceLT, Nat.reduceLeDiff, Nat.reduceEqDiff, Nat.reduceAdd, Nat.reduceSub, Nat.reduceMul, reduceIte, ↓reduceIte, reduceCtorEq, Int.reduceToNat, Int.reduceLE, Int.reduceLT, Int.reduceNeg, Int.reduceSub, Int.reduceAdd, Int.reduceMul, vClos]
        exact ⟨(i + 1, O2, c + 1), ⟨hlt, hpl.step hw.sym hlt (by omega) (hd.newL hw.sym hpl hlt (by omega))⟩, by show M.length - (i + 1) < M.length - i; omega, Wk.of (by simp only [go_sem, ↓List.forall_mem_cons, List.not_mem_nil, false_implies, implies_true, and_true, true_and, and_self, Nat.reduceEqDiff, reduceIte, ↓reduceIte, ri_eq, Int.natCast_add, Int.cast_ofNat_Int]; try simp) rfl⟩
      · simp (disch := omega) only [Try.ntmps73, Try.results73, go_sem, Nat.reduceLT, Nat.reduceLeDiff, Nat.reduceEqDiff, Nat.reduceAdd, Nat.reduceSub, Nat.reduceMul, reduceIte, ↓reduceIte, reduceCtorEq, Int.reduceToNat, Int.reduceLE, Int.reduceLT, Int.reduceNeg, Int.reduceSub, Int.reduceAdd, Int.reduceMul, vClos, g2, hl]
        exact ⟨(i + 1, O, c), ⟨hlt, hpl.skip (by omega)⟩, by show M.length - (i + 1) < M.length - i; omega, Wk.of (by simp only [go_sem, ↓List.forall_mem_cons, List.not_mem_nil, false_implies, implies_true, and_true, true_and, and_self, Nat.reduceEqDiff, reduceIte, ↓reduceIte, ri_eq, Int.natCast_add, Int.cast_ofNat_Int]; try simp) rfl⟩
    · have hC := hpl.final (by omega)
      have hc2 := hC.comp
      rw [← hC.eq] at hc2 ⊢
      simp (disch := omega) only [Try.ntmps73, Try.results73, go_sem, Nat.reduceLT, Nat.reduceLeDiff, Nat.reduceEqDiff, Nat.reduceAdd, Nat.reduceSub, Nat.reduceMul, reduceIte, ↓reduceIte, reduceCtorEq, Int.reduceToNat, Int.reduceLE, Int.reduceLT, Int.reduceNeg, Int.reduceSub, Int.reduceAdd, Int.reduceMul, vClos]
      exact Fin.imp (fun _ _ h => ⟨hc2, h⟩) (fin_ints hl.symm (by rw [hp_map]; simp only [hmap_cons]; rfl))
theorem Try.implPC_nil (M : List (List Int)) (hM : M.length ≤ 1048576) (hR : ∀ i, i < M.length → (mrow M i).length ≤ 1048576) (hw : ¬ WM M) : FCall Try.prog 73 [rr M] (fun r _ => r = .val (.slice none 0 0)) := by
  have w1 := Try.implIsWM_ok M hM hR
  rw [isWM_f hw] at w1
  refine FCall.of_body Try.func73 rfl (by kernel_rfl) (by simp [Try.ntmps73]) ?_
  refine SW_of_vc Try.mixed _ _ _ (by kernel_rfl) ?_
  simp (disch := omega) only [Try.ntmps73, Try.results73, go_sem, Nat.reduceLT, Nat.reduceLeDiff, Nat.reduceEqDiff, Nat.reduceAdd, Nat.reduceSub, Nat.reduceMul, reduceIte, ↓reduceIte, reduceCtorEq, Int.reduceToNat, Int.reduceLE, Int.reduceLT, Int.reduceNeg, Int.reduceSub, Int.reduceAdd, Int.reduceMul, rr_eq]
  refine w1.callV 0 (viewL_cons_of (view_row) viewL_nil_of) ?_
  simp (disch := omega) only [Try.ntmps73, Try.results73, go_sem, Nat.reduceLT, Nat.reduceLeDiff, Nat.reduceEqDiff, Nat.reduceAdd, Nat.reduceSub, Nat.reduceMul, reduceIte, ↓reduceIte, reduceCtorEq, Int.reduceToNat, Int.reduceLE, Int.reduceLT, Int.reduceNeg, Int.reduceSub, Int.reduceAdd, Int.reduceMul, rr_eq]
  exact Fin.val rfl
end Go.Sh
