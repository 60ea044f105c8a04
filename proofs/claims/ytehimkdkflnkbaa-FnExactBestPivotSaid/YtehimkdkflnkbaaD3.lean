/-
  Contracts: labels by first occurrence. Of the reference.
-/
import Derived.Test.YtehimkdkflnkbaaD2
namespace Go.Sh
set_option linter.unusedSimpArgs false
set_option linter.unusedVariables false
open Go Go.Proofs

theorem cstep_nodup {s : List Int × List Int} {x : Int} (h : s.1.Nodup) : (cstep s x).1.Nodup := by
  unfold cstep
  split
  · exact h
  · rename_i hx
    show (s.1 ++ [x]).Nodup
    rw [List.nodup_append]
    refine ⟨h, by simp, ?_⟩
    intro a ha b hb
    simp at hb
    subst hb
    exact fun e => hx (e ▸ ha)
theorem cst_nodup : ∀ (L : List Int) (s : List Int × List Int), s.1.Nodup → (L.foldl cstep s).1.Nodup
  | [], s, h => h
  | x :: L, s, h => cst_nodup L (cstep s x) (cstep_nodup h)
theorem idx_eq {x : Int} {L : List Int} {k : Nat} (hk : k < L.length) (hd : L.Nodup) (e : L.getD k 0 = x) : idx x (L.take (k + 1)) = k := by
  refine idx_some (by simp; omega) (fun i hi => ?_) ?_
  · intro h
    have hi' : i < L.length := by omega
    have h1 : L[i] = L[k] := by
      have h2 : (L.take (k + 1)).getD i 0 = L[i] := by simp [hi', show i < k + 1 by omega]
      have h3 : L.getD k 0 = L[k] := by simp [hk]
      rw [← h2, h, ← h3, e]
    exact List.pairwise_iff_getElem.1 hd i k hi' hk hi h1
  · rw [← e]; simp [hk]
theorem idx_ne {x : Int} {L : List Int} {k : Nat} (hk : k < L.length) (e : L.getD k 0 ≠ x) : idx x (L.take (k + 1)) = idx x (L.take k) := by
  have h3 : L.getD k 0 = L[k] := by simp [hk]
  rw [h3] at e
  rw [List.take_succ_eq_append_getElem hk]
  unfold idx
  by_cases h : x ∈ L.take k
  · rw [if_pos h, if_pos (List.mem_append.2 (.inl h)), List.idxOf_append, if_pos h]
  · rw [if_neg h, if_neg]
    simp only [List.mem_append, List.mem_singleton, not_or]
    exact ⟨h, fun h => e h.symm⟩
theorem idx_nil (x : Int) : idx x [] = -1 := by simp [idx]

set_option maxHeartbeats 2000000 in
theorem Try.specCanon_f (L : List Int) (hL : L.length ≤ 1048576) : FCall Try.prog 126 [ri L] (FlatRes L.length 1 (ints (canon L))) := by
  refine FCall.of_body Try.func126 rfl (by kernel_rfl) (by simp [Try.ntmps126]) ?_
  refine SW_of_vc Try.mixed _ _ _ (by kernel_rfl) ?_
  simp (disch := omega) only [Try.ntmps126, Try.results126, go_sem, Nat.reduceLT, Nat.reduceLeDiff, Nat.reduceEqDiff, Nat.reduceAdd, Nat.reduceSub, Nat.reduceMul, reduceIte, ↓reduceIte, reduceCtorEq, Int.reduceToNat, Int.reduceLE, Int.reduceLT, Int.reduceNeg, Int.reduceSub, Int.reduceAdd, Int.reduceMul]
  refine LoopW.loop (fun p : Nat × Nat × Nat × Nat => ⟨ofL [(0, ri L), (3, .own p.2.1 0 (cst (L.take p.1)).2.length (cst (L.take p.1)).2.length 1 false), (4, .own p.2.2.1 0 (cst (L.take p.1)).1.length (cst (L.take p.1)).1.length 1 false), (5, .val (.int .i64 p.1))],
      hp [(p.2.1, ⟨ints (cst (L.take p.1)).2, false⟩), (p.2.2.1, ⟨ints (cst (L.take p.1)).1, false⟩)] p.2.2.2⟩)
    (fun p => p.1 ≤ L.length ∧ p.2.1 < p.2.2.2 ∧ p.2.2.1 < p.2.2.2 ∧ p.2.1 ≠ p.2.2.1) (fun p => L.length - p.1) (0, 0, 1, 2) ⟨by simp, by simp, by simp, by simp⟩
    (Wk.ofH (by simp only [go_sem, ↓List.forall_mem_cons, List.not_mem_nil, false_implies, implies_true, and_true, true_and, and_self, Nat.reduceEqDiff, reduceIte, ↓reduceIte, ri_eq, Int.natCast_add, Int.cast_ofNat_Int, List.take_zero, cst_zero, List.length_nil]; try simp) (by simp (disch := omega) only [go_sem, ↓List.forall_mem_cons, List.not_mem_nil, false_implies, implies_true, and_true, true_and, and_self, Nat.reduceEqDiff, reduceIte, ↓reduceIte, ri_eq, Int.natCast_add, Int.cast_ofNat_Int, if_pos, if_neg, Nat.reduceAdd, List.nil_append, List.take_zero, cst_zero, ints_nil]; try simp) (by simp [hp])) ?_
  rintro ⟨k, b1, b2, nb⟩ ⟨hk, hb1, hb2, hb3⟩
  simp only at hk hb1 hb2 hb3
  have l1 := cst_len1 (L.take k)
  have l2 := cst_len2 (L.take k)
  have l3 : (L.take k).length = k := by simp; omega
  have e1 := fun h => cst_succ (L := L) (k := k) h
  have hd : (cst (L.take k)).1.Nodup := cst_nodup _ _ (by simp)
  generalize he : cst (L.take k) = st at *
  obtain ⟨seen, out⟩ := st
  simp only at l1 l2 e1 hd ⊢
  refine SW_of_vc Try.mixed _ _ _ (by kernel_rfl) ?_
  by_cases hlt : k < L.length
  · have e1 := e1 hlt
    simp (disch := omega) only [Try.ntmps126, Try.results126, go_sem, Nat.reduceLT, Nat.reduceLeDiff, Nat.reduceEqDiff, Nat.reduceAdd, Nat.reduceSub, Nat.reduceMul, reduceIte, ↓reduceIte, reduceCtorEq, Int.reduceToNat, Int.reduceLE, Int.reduceLT, Int.reduceNeg, Int.reduceSub, Int.reduceAdd, Int.reduceMul]
    refine LoopW.loop (fun i : Nat => ⟨ofL [(0, ri L), (3, .own b1 0 out.length out.length 1 false), (4, .own b2 0 seen.length seen.length 1 false), (5, .val (.int .i64 k)), (6, .val (.int .i64 (idx (L.getD k 0) (seen.take i)))), (7, .val (.int .i64 i))],
        hp [(b1, ⟨ints out, false⟩), (b2, ⟨ints seen, false⟩)] nb⟩) (fun i => i ≤ seen.length) (fun i => seen.length - i) 0 (by omega) (Wk.of (by simp only [go_sem, ↓List.forall_mem_cons, List.not_mem_nil, false_implies, implies_true, and_true, true_and, and_self, Nat.reduceEqDiff, reduceIte, ↓reduceIte, ri_eq, Int.natCast_add, Int.cast_ofNat_Int, List.take_zero, idx_nil]; try simp) rfl) ?_
    intro i hi
    refine SW_of_vc Try.mixed _ _ _ (by kernel_rfl) ?_
    by_cases hil : i < seen.length
    · by_cases hx : seen.getD i 0 = L.getD k 0
      · have ei := idx_eq hil hd hx
        simp (disch := omega) only [Try.ntmps126, Try.results126, go_sem, Nat.reduceLT, Nat.reduceLeDiff, Nat.reduceEqDiff, Nat.reduceAdd, Nat.reduceSub, Nat.reduceMul, reduceIte, ↓reduceIte, reduceCtorEq, Int.reduceToNat, Int.reduceLE, Int.reduceLT, Int.reduceNeg, Int.reduceSub, Int.reduceAdd, Int.reduceMul]
        exact ⟨i + 1, by omega, by omega, Wk.of (by simp only [go_sem, ↓List.forall_mem_cons, List.not_mem_nil, false_implies, implies_true, and_true, true_and, and_self, Nat.reduceEqDiff, reduceIte, ↓reduceIte, ri_eq, Int.natCast_add, Int.cast_ofNat_Int, ei]; try simp) rfl⟩
      · have ei := idx_ne hil hx
        simp (disch := omega) only [Try.ntmps126, Try.results126, go_sem, Nat.reduceLT, Nat.reduceLeDiff, Nat.reduceEqDiff, Nat.reduceAdd, Nat.reduceSub, Nat.reduceMul, reduceIte, ↓reduceIte, reduceCtorEq, Int.reduceToNat, Int.reduceLE, Int.reduceLT, Int.reduceNeg, Int.reduceSub, Int.reduceAdd, Int.reduceMul]
        exact ⟨i + 1, by omega, by omega, Wk.of (by simp only [go_sem, ↓List.forall_mem_cons, List.not_mem_nil, false_implies, implies_true, and_true, true_and, and_self, Nat.reduceEqDiff, reduceIte, ↓reduceIte, ri_eq, Int.natCast_add, Int.cast_ofNat_Int, ei]; try simp) rfl⟩
    · obtain rfl : i = seen.length := by omega
      rw [List.take_length]
      by_cases hm : L.getD k 0 ∈ seen
      · have hi := idx_nonneg hm
        simp (disch := omega) only [Try.ntmps126, Try.results126, go_sem, Nat.reduceLT, Nat.reduceLeDiff, Nat.reduceEqDiff, Nat.reduceAdd, Nat.reduceSub, Nat.reduceMul, reduceIte, ↓reduceIte, reduceCtorEq, Int.reduceToNat, Int.reduceLE, Int.reduceLT, Int.reduceNeg, Int.reduceSub, Int.reduceAdd, Int.reduceMul]
        simp only [cstep, if_pos hm] at e1
        refine ⟨(k + 1, nb + 1, b2, nb + 1 + 1), ⟨hlt, by show nb + 1 < nb + 1 + 1; omega, by show b2 < nb + 1 + 1; omega, by show nb + 1 ≠ b2; omega⟩, by show L.length - (k + 1) < L.length - k; omega, ?_⟩
        exact Wk.ofH (by simp only [go_sem, ↓List.forall_mem_cons, List.not_mem_nil, false_implies, implies_true, and_true, true_and, and_self, Nat.reduceEqDiff, reduceIte, ↓reduceIte, ri_eq, Int.natCast_add, Int.cast_ofNat_Int, e1, List.length_append, List.length_cons, List.length_nil, Nat.zero_add]; try simp) (by simp (disch := omega) only [go_sem, ↓List.forall_mem_cons, List.not_mem_nil, false_implies, implies_true, and_true, true_and, and_self, Nat.reduceEqDiff, reduceIte, ↓reduceIte, ri_eq, Int.natCast_add, Int.cast_ofNat_Int, if_pos, if_neg, Nat.reduceAdd, List.nil_append, e1]; try simp) (by simp [hp])
      · rw [idx_neg hm]
        simp (disch := omega) only [Try.ntmps126, Try.results126, go_sem, Nat.reduceLT, Nat.reduceLeDiff, Nat.reduceEqDiff, Nat.reduceAdd, Nat.reduceSub, Nat.reduceMul, reduceIte, ↓reduceIte, reduceCtorEq, Int.reduceToNat, Int.reduceLE, Int.reduceLT, Int.reduceNeg, Int.reduceSub, Int.reduceAdd, Int.reduceMul]
        simp only [cstep, if_neg hm] at e1
        refine ⟨(k + 1, nb + 1 + 1 + 1, nb + 1, nb + 1 + 1 + 1 + 1), ⟨hlt, by show nb + 1 + 1 + 1 < nb + 1 + 1 + 1 + 1; omega, by show nb + 1 < nb + 1 + 1 + 1 + 1; omega, by show nb + 1 + 1 + 1 ≠ nb + 1; omega⟩, by show L.length - (k + 1) < L.length - k; omega, ?_⟩
        exact Wk.ofH (by simp only [go_sem, ↓List.forall_mem_cons, List.not_mem_nil, false_implies, implies_true, and_true, true_and, and_self, Nat.reduceEqDiff, reduceIte, ↓reduceIte, ri_eq, Int.natCast_add, Int.cast_ofNat_Int, e1, List.length_append, List.length_cons, List.length_nil, Nat.zero_add]; try simp) (by simp (disch := omega) only [go_sem, ↓List.forall_mem_cons, List.not_mem_nil, false_implies, implies_true, and_true, true_and, and_self, Nat.reduceEqDiff, reduceIte, ↓reduceIte, ri_eq, Int.natCast_add, Int.cast_ofNat_Int, if_pos, if_neg, Nat.reduceAdd, List.nil_append, e1]; try simp) (by simp [hp])
  · simp (disch := omega) only [Try.ntmps126, Try.results126, go_sem, Nat.reduceLT, Nat.reduceLeDiff, Nat.reduceEqDiff, Nat.reduceAdd, Nat.reduceSub, Nat.reduceMul, reduceIte, ↓reduceIte, reduceCtorEq, Int.reduceToNat, Int.reduceLE, Int.reduceLT, Int.reduceNeg, Int.reduceSub, Int.reduceAdd, Int.reduceMul]
    have e2 : canon L = out := by
      have : L.take k = L := List.take_of_length_le (by omega)
      rw [canon, ← this, he]
    have e3 : out.length = L.length := by rw [l2, l3]; omega
    rw [e2, e3]
    exact fin_ints e3.symm (by rw [hp_map, hmap_cons, if_pos rfl])
theorem Try.specCanon_ok (L : List Int) (hL : L.length ≤ 1048576) : PCall Try.prog 126 [ri L] (ri (canon L)) :=
  (Try.specCanon_f L hL).pcall 2 (fun _ _ h => flat_view h)
end Go.Sh
