/-
  Contracts: labels by first occurrence. Of the program.
-/
import Derived.Test.YtehimkdkflnkbaaD1
namespace Go.Sh
set_option linter.unusedSimpArgs false
set_option linter.unusedVariables false
open Go Go.Proofs

def cstep (s : List Int × List Int) (x : Int) : List Int × List Int :=
  if x ∈ s.1 then (s.1, s.2 ++ [idx x s.1]) else (s.1 ++ [x], s.2 ++ [(s.1.length : Int)])
def cst (L : List Int) : List Int × List Int := L.foldl cstep ([], [])
def canon (L : List Int) : List Int := (cst L).2
theorem cst_zero : cst [] = ([], []) := rfl
theorem cst_succ {L : List Int} {k : Nat} (h : k < L.length) : cst (L.take (k + 1)) = cstep (cst (L.take k)) (L.getD k 0) := by
  rw [List.take_succ_eq_append_getElem h]
  simp only [cst, List.foldl_append, List.foldl_cons, List.foldl_nil]
  congr 1
  simp [h]
theorem cst_len : ∀ (L : List Int) (s : List Int × List Int), (L.foldl cstep s).2.length = s.2.length + L.length ∧ (L.foldl cstep s).1.length ≤ s.1.length + L.length
  | [], s => by simp
  | x :: L, s => by
    have ih := cst_len L (cstep s x)
    have h2 : (cstep s x).2.length = s.2.length + 1 := by unfold cstep; split <;> simp
    have h1 : (cstep s x).1.length ≤ s.1.length + 1 := by unfold cstep; split <;> simp
    simp only [List.foldl_cons, List.length_cons]
    omega
theorem cst_len2 (L : List Int) : (cst L).2.length = L.length := by have := (cst_len L ([], [])).1; simpa [cst] using this
theorem cst_len1 (L : List Int) : (cst L).1.length ≤ L.length := by have := (cst_len L ([], [])).2; simpa [cst] using this
theorem canon_length (L : List Int) : (canon L).length = L.length := cst_len2 L
theorem idx_lt {x : Int} {L : List Int} : idx x L < L.length ∨ L = [] := by
  unfold idx
  split
  · rename_i h
    have := List.idxOf_lt_length_of_mem h
    left; omega
  · cases L with
    | nil => right; rfl
    | cons a l => left; simp; omega
theorem idx_neg {x : Int} {L : List Int} (h : ¬ x ∈ L) : idx x L = -1 := by rw [idx, if_neg h]
theorem idx_nonneg {x : Int} {L : List Int} (h : x ∈ L) : 0 ≤ idx x L := (idx_ge x L).mpr h

def canF (L : List Int) : Nat × Nat × Nat × Nat → St
  | (0, _, _, nb) => ⟨ofL [(0, ri L), (3, .val (.slice none 0 0)), (4, .val (.slice none 0 0)), (8, ri L), (9, .val (.int .i64 L.length)), (10, .val (.int .i64 0))], hp [] nb⟩
  | (k + 1, b1, b2, nb) => ⟨ofL [(0, ri L), (3, .own b1 0 (cst (L.take (k + 1))).1.length (cst (L.take (k + 1))).1.length 1 false), (4, .own b2 0 (cst (L.take (k + 1))).2.length (cst (L.take (k + 1))).2.length 1 false), (8, ri L), (9, .val (.int .i64 L.length)), (10, .val (.int .i64 ((k + 1 : Nat) : Int)))],
      hp [(b1, ⟨ints (cst (L.take (k + 1))).1, false⟩), (b2, ⟨ints (cst (L.take (k + 1))).2, false⟩)] nb⟩

set_option maxHeartbeats 2000000 in
theorem Try.implCanon_f (L : List Int) (hL : L.length ≤ 1048576) (h0 : L ≠ []) : FCall Try.prog 128 [ri L] (FlatRes L.length 1 (ints (canon L))) := by
  have hp0 : 0 < L.length := by cases L with | nil => exact absurd rfl h0 | cons a l => simp
  refine FCall.of_body Try.func128 rfl (by kernel_rfl) (by simp [Try.ntmps128]) ?_
  refine SW_of_vc Try.mixed _ _ _ (by kernel_rfl) ?_
  simp (disch := omega) only [Try.ntmps128, Try.results128, go_sem, Nat.reduceLT, Nat.reduceLeDiff, Nat.reduceEqDiff, Nat.reduceAdd, Nat.reduceSub, Nat.reduceMul, reduceIte, ↓reduceIte, reduceCtorEq, Int.reduceToNat, Int.reduceLE, Int.reduceLT, Int.reduceNeg, Int.reduceSub, Int.reduceAdd, Int.reduceMul]
  refine LoopW.loop (canF L) (fun p => p.1 ≤ L.length ∧ (0 < p.1 → p.2.1 < p.2.2.2 ∧ p.2.2.1 < p.2.2.2 ∧ p.2.1 ≠ p.2.2.1)) (fun p => L.length - p.1) (0, 0, 0, 0) ⟨by simp, by simp⟩ (Wk.of (by simp only [go_sem, ↓List.forall_mem_cons, List.not_mem_nil, false_implies, implies_true, and_true, true_and, and_self, Nat.reduceEqDiff, reduceIte, ↓reduceIte, ri_eq, Int.natCast_add, Int.cast_ofNat_Int]; try simp) rfl) ?_
  rintro ⟨k, b1, b2, nb⟩ ⟨hk, hb⟩
  simp only at hk hb
  refine SW_of_vc Try.mixed _ _ _ (by kernel_rfl) ?_
  cases k with
  | zero =>
    rw [canF]
    simp (disch := omega) only [Try.ntmps128, Try.results128, go_sem, Nat.reduceLT, Nat.reduceLeDiff, Nat.reduceEqDiff, Nat.reduceAdd, Nat.reduceSub, Nat.reduceMul, reduceIte, ↓reduceIte, reduceCtorEq, Int.reduceToNat, Int.reduceLE, Int.reduceLT, Int.reduceNeg, Int.reduceSub, Int.reduceAdd, Int.reduceMul]
    refine (Try.slicesIndex_ok [] (L.getD 0 0) (by simp)).callV 0 (by simp [viewL, view, viewV, ri, ints]) ?_
    rw [idx_neg (by simp)]
    simp (disch := omega) only [Try.ntmps128, Try.results128, go_sem, Nat.reduceLT, Nat.reduceLeDiff, Nat.reduceEqDiff, Nat.reduceAdd, Nat.reduceSub, Nat.reduceMul, reduceIte, ↓reduceIte, reduceCtorEq, Int.reduceToNat, Int.reduceLE, Int.reduceLT, Int.reduceNeg, Int.reduceSub, Int.reduceAdd, Int.reduceMul]
    refine ⟨(1, nb + 1, nb + 3, nb + 4), ⟨hp0, fun _ => ⟨by simp, by simp, by simp⟩⟩, by simp; omega, ?_⟩
    have e1 := cst_succ (L := L) (k := 0) hp0
    rw [List.take_zero, cst_zero] at e1
    simp only [cstep, List.not_mem_nil, if_false, List.nil_append, List.length_nil] at e1
    refine Wk.ofH (by simp only [go_sem, ↓List.forall_mem_cons, List.not_mem_nil, false_implies, implies_true, and_true, true_and, and_self, Nat.reduceEqDiff, reduceIte, ↓reduceIte, ri_eq, Int.natCast_add, Int.cast_ofNat_Int, e1]; try simp) (by simp (disch := omega) only [go_sem, ↓List.forall_mem_cons, List.not_mem_nil, false_implies, implies_true, and_true, true_and, and_self, Nat.reduceEqDiff, reduceIte, ↓reduceIte, ri_eq, Int.natCast_add, Int.cast_ofNat_Int, if_pos, if_neg, Nat.reduceAdd, List.nil_append, e1, ints_one]; try simp) (by simp [hp])
  | succ k =>
    obtain ⟨hb1, hb2, hb3⟩ := hb (by omega)
    rw [canF]
    have l1 := cst_len1 (L.take (k + 1))
    have l2 := cst_len2 (L.take (k + 1))
    have l3 : (L.take (k + 1)).length = k + 1 := by simp; omega
    have e1 := fun h => cst_succ (L := L) (k := k + 1) h
    generalize he : cst (L.take (k + 1)) = st at *
    obtain ⟨seen, out⟩ := st
    simp only at l1 l2 e1 ⊢
    by_cases hlt : k + 1 < L.length
    · have e1 := e1 hlt
      simp (disch := omega) only [Try.ntmps128, Try.results128, go_sem, Nat.reduceLT, Nat.reduceLeDiff, Nat.reduceEqDiff, Nat.reduceAdd, Nat.reduceSub, Nat.reduceMul, reduceIte, ↓reduceIte, reduceCtorEq, Int.reduceToNat, Int.reduceLE, Int.reduceLT, Int.reduceNeg, Int.reduceSub, Int.reduceAdd, Int.reduceMul]
      refine (Try.slicesIndex_ok seen (L.getD (k + 1) 0) (by omega)).callV 1 (by simp only [viewL, view_own (H := hp _ _) (show (hp [(b1, ⟨ints seen, false⟩), (b2, ⟨ints out, false⟩)] nb).map b1 = some ⟨ints seen, false⟩ by simp [hp, hmap]) rfl, view, viewV]) ?_
      by_cases hm : L.getD (k + 1) 0 ∈ seen
      · have hi := idx_nonneg hm
        simp (disch := omega) only [Try.ntmps128, Try.results128, go_sem, Nat.reduceLT, Nat.reduceLeDiff, Nat.reduceEqDiff, Nat.reduceAdd, Nat.reduceSub, Nat.reduceMul, reduceIte, ↓reduceIte, reduceCtorEq, Int.reduceToNat, Int.reduceLE, Int.reduceLT, Int.reduceNeg, Int.reduceSub, Int.reduceAdd, Int.reduceMul]
        simp only [cstep, if_pos hm] at e1
        refine ⟨(k + 1 + 1, b1, nb + 1, nb + 1 + 1), ⟨hlt, fun _ => ⟨by show b1 < nb + 1 + 1; omega, by show nb + 1 < nb + 1 + 1; omega, by show b1 ≠ nb + 1; omega⟩⟩, by show L.length - (k + 1 + 1) < L.length - (k + 1); omega, ?_⟩
        exact Wk.ofH (by simp only [go_sem, ↓List.forall_mem_cons, List.not_mem_nil, false_implies, implies_true, and_true, true_and, and_self, Nat.reduceEqDiff, reduceIte, ↓reduceIte, ri_eq, Int.natCast_add, Int.cast_ofNat_Int, e1, List.length_append, List.length_cons, List.length_nil, Nat.zero_add]; try simp) (by simp (disch := omega) only [go_sem, ↓List.forall_mem_cons, List.not_mem_nil, false_implies, implies_true, and_true, true_and, and_self, Nat.reduceEqDiff, reduceIte, ↓reduceIte, ri_eq, Int.natCast_add, Int.cast_ofNat_Int, if_pos, if_neg, Nat.reduceAdd, List.nil_append, e1]; try simp) (by simp [hp])
      · rw [idx_neg hm]
        simp (disch := omega) only [Try.ntmps128, Try.results128, go_sem, Nat.reduceLT, Nat.reduceLeDiff, Nat.reduceEqDiff, Nat.reduceAdd, Nat.reduceSub, Nat.reduceMul, reduceIte, ↓reduceIte, reduceCtorEq, Int.reduceToNat, Int.reduceLE, Int.reduceLT, Int.reduceNeg, Int.reduceSub, Int.reduceAdd, Int.reduceMul]
        simp only [cstep, if_neg hm] at e1
        refine ⟨(k + 1 + 1, nb + 1, nb + 1 + 1 + 1, nb + 1 + 1 + 1 + 1), ⟨hlt, fun _ => ⟨by show nb + 1 < nb + 1 + 1 + 1 + 1; omega, by show nb + 1 + 1 + 1 < nb + 1 + 1 + 1 + 1; omega, by show nb + 1 ≠ nb + 1 + 1 + 1; omega⟩⟩, by show L.length - (k + 1 + 1) < L.length - (k + 1); omega, ?_⟩
        exact Wk.ofH (by simp only [go_sem, ↓List.forall_mem_cons, List.not_mem_nil, false_implies, implies_true, and_true, true_and, and_self, Nat.reduceEqDiff, reduceIte, ↓reduceIte, ri_eq, Int.natCast_add, Int.cast_ofNat_Int, e1, List.length_append, List.length_cons, List.length_nil, Nat.zero_add]; try simp) (by simp (disch := omega) only [go_sem, ↓List.forall_mem_cons, List.not_mem_nil, false_implies, implies_true, and_true, true_and, and_self, Nat.reduceEqDiff, reduceIte, ↓reduceIte, ri_eq, Int.natCast_add, Int.cast_ofNat_Int, if_pos, if_neg, Nat.reduceAdd, List.nil_append, e1]; try simp) (by simp [hp])
    · simp (disch := omega) only [Try.ntmps128, Try.results128, go_sem, Nat.reduceLT, Nat.reduceLeDiff, Nat.reduceEqDiff, Nat.reduceAdd, Nat.reduceSub, Nat.reduceMul, reduceIte, ↓reduceIte, reduceCtorEq, Int.reduceToNat, Int.reduceLE, Int.reduceLT, Int.reduceNeg, Int.reduceSub, Int.reduceAdd, Int.reduceMul]
      have e2 : canon L = out := by
        have : L.take (k + 1) = L := List.take_of_length_le (by omega)
        rw [canon, ← this, he]
      have e3 : out.length = L.length := by rw [l2, l3]; omega
      rw [e2, e3]
      exact fin_ints e3.symm (by rw [hp_map, hmap_cons, if_neg (by omega), hmap_cons, if_pos rfl])

theorem Try.implCanon_nil : FCall Try.prog 128 [ri []] (fun r _ => r = .val (.slice none 0 0)) := by
  refine FCall.of_body Try.func128 rfl (by kernel_rfl) (by simp [Try.ntmps128]) ?_
  refine SW_of_vc Try.mixed _ _ _ (by kernel_rfl) ?_
  simp (disch := omega) only [Try.ntmps128, Try.results128, go_sem, Nat.reduceLT, Nat.reduceLeDiff, Nat.reduceEqDiff, Nat.reduceAdd, Nat.reduceSub, Nat.reduceMul, reduceIte, ↓reduceIte, reduceCtorEq, Int.reduceToNat, Int.reduceLE, Int.reduceLT, Int.reduceNeg, Int.reduceSub, Int.reduceAdd, Int.reduceMul]
  refine LoopW.loop (fun _ : Unit => ⟨ofL [(0, ri []), (4, .val (.slice none 0 0)), (8, ri []), (9, .val (.int .i64 0)), (10, .val (.int .i64 0))], hp [] 0⟩) (fun _ => True) (fun _ => 0) () trivial (Wk.of (by simp only [go_sem, ↓List.forall_mem_cons, List.not_mem_nil, false_implies, implies_true, and_true, true_and, and_self, Nat.reduceEqDiff, reduceIte, ↓reduceIte, ri_eq, Int.natCast_add, Int.cast_ofNat_Int]; try simp) rfl) ?_
  rintro _ _
  refine SW_of_vc Try.mixed _ _ _ (by kernel_rfl) ?_
  simp (disch := omega) only [Try.ntmps128, Try.results128, go_sem, Nat.reduceLT, Nat.reduceLeDiff, Nat.reduceEqDiff, Nat.reduceAdd, Nat.reduceSub, Nat.reduceMul, reduceIte, ↓reduceIte, reduceCtorEq, Int.reduceToNat, Int.reduceLE, Int.reduceLT, Int.reduceNeg, Int.reduceSub, Int.reduceAdd, Int.reduceMul]
  exact Fin.val rfl
theorem flat_view {L : List Int} {n : Nat} {r : SV} {H : Heap} (h : FlatRes n 1 (ints L) r H) : view H 2 r = some (ri L) := by
  obtain ⟨b, off, cap, ex, blk, rfl, h1, h2, h3, h4⟩ := h
  have hn : L.length = n := by
    have := congrArg List.length h2
    simp [ints] at this
    omega
  rw [Nat.mul_one] at h2 h3
  simp only [view, h1, Nat.mul_one, h3, if_true, h2, viewL_ints, ri, hn]
theorem Try.implCanon_ok (L : List Int) (hL : L.length ≤ 1048576) : PCall Try.prog 128 [ri L] (ri (canon L)) := by
  by_cases h : L = []
  · subst h
    exact Try.implCanon_nil.pcall 0 (by rintro r H rfl; exact view_nil)
  · exact (Try.implCanon_f L hL h).pcall 2 (fun _ _ h => flat_view h)
end Go.Sh
