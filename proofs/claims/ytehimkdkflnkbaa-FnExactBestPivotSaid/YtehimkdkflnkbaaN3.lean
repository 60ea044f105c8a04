/-
  Contracts: links, labels by rounds, the components of a graph of positive weights. Of the reference.
-/
import Derived.Test.YtehimkdkflnkbaaN2
namespace Go.Sh
set_option linter.unusedSimpArgs false
set_option linter.unusedVariables false
open Go Go.Proofs

def nrF (n : Nat) (l : List Nat) : List (Nat × List SV) := l.map fun x => (x, bools (List.replicate n false))
def bz (n : Nat) : List (List Bool) := List.replicate n (List.replicate n false)
theorem bz_length (n : Nat) : (bz n).length = n := by simp [bz]
theorem bz_row {n i : Nat} (h : i < n) : brow (bz n) i = List.replicate n false := by simp [bz, brow, h]
theorem bz_at {n i k : Nat} : bmat (bz n) i k = false := by
  simp only [bz, bmat, brow, List.getD_eq_getElem?_getD, List.getElem?_replicate]
  by_cases h : i < n
  · by_cases h2 : k < n <;> simp [h, h2]
  · simp [h]
theorem nrF_length (n : Nat) (l : List Nat) : (nrF n l).length = l.length := by simp [nrF]
theorem nrF_snd (n : Nat) : ∀ l : List Nat, (nrF n l).map (·.2) = List.replicate l.length (bools (List.replicate n false))
  | [] => rfl
  | x :: l => by
    have := nrF_snd n l
    simp only [nrF, List.map_cons, List.length_cons, List.replicate_succ] at this ⊢
    rw [this]
theorem nrF_snoc (n : Nat) (l : List Nat) (x : Nat) : nrF n (l ++ [x]) = nrF n l ++ [(x, bools (List.replicate n false))] := by simp [nrF]

set_option maxHeartbeats 1000000 in
theorem Try.l17Links_f (n : Nat) (hn : n ≤ 1048576) : FCall Try.prog 115 [.val (.int .i64 n)] (MatRes (mb (bz n))) := by
  refine FCall.of_body Try.func115 rfl (by kernel_rfl) (by simp [Try.ntmps115]) ?_
  refine SW_of_vc Try.mixed _ _ _ (by kernel_rfl) ?_
  simp (disch := omega) only [Try.ntmps115, Try.results115, go_sem, Nat.reduceLT, Nat.reduceLeDiff, Nat.reduceEqDiff, Nat.reduceAdd, Nat.reduceSub, Nat.reduceMul, reduceIte, ↓reduceIte, reduceCtorEq, Int.reduceToNat, Int.reduceLE, Int.reduceLT, Int.reduceNeg, Int.reduceSub, Int.reduceAdd, Int.reduceMul]
  refine LoopW.loop (fun p : List Nat × Nat × Nat => ⟨ofL [(0, .val (.int .i64 n)), (3, .own p.2.1 0 p.1.length p.1.length 1 false), (4, .val (.int .i64 p.1.length))], hx [.blk p.2.1 ⟨outerN true (nrF n p.1), false⟩, .rows true (nrF n p.1)] p.2.2⟩)
    (fun p => p.1.length ≤ n ∧ NrOk p.2.1 p.2.2 (nrF n p.1)) (fun p => n - p.1.length) ([], 0, 1) ⟨by simp, .nil (by simp)⟩ (Wk.ofX (by simp only [go_sem, ↓List.forall_mem_cons, List.not_mem_nil, false_implies, implies_true, and_true, true_and, and_self, Nat.reduceEqDiff, reduceIte, ↓reduceIte, ri_eq, Int.natCast_add, Int.cast_ofNat_Int]; try simp) (by simp [EntIn, nrF, outerN, hp, hmap]) (by simp [hp])) ?_
  rintro ⟨l, ob, nb⟩ ⟨hk, ho⟩
  simp only at hk ho
  have hob := ho.1
  refine SW_of_vc Try.mixed _ _ _ (by kernel_rfl) ?_
  have hl1 := outerN_length true (nrF n l)
  have hl2 := nrF_length n l
  have hl3 : (outerN true (nrF n l)).take l.length = outerN true (nrF n l) := List.take_of_length_le (by omega)
  by_cases hlt : l.length < n
  · simp (disch := omega) only [Try.ntmps115, Try.results115, go_sem, Nat.reduceLT, Nat.reduceLeDiff, Nat.reduceEqDiff, Nat.reduceAdd, Nat.reduceSub, Nat.reduceMul, reduceIte, ↓reduceIte, reduceCtorEq, Int.reduceToNat, Int.reduceLE, Int.reduceLT, Int.reduceNeg, Int.reduceSub, Int.reduceAdd, Int.reduceMul, hl1, hl2, hl3]
    have hlt' : ∀ p ∈ nrF n l, p.1 < nb := fun p hp => (ho.2.1 p hp).1
    have hne : ∀ p ∈ nrF n l, p.1 ≠ ob := fun p hp => (ho.2.1 p hp).2
    refine ⟨(l ++ [nb], nb + 1 + 1, nb + 1 + 1 + 1), ⟨by simp; omega, ?_⟩, by simp; omega, Wk.ofX (by simp only [go_sem, ↓List.forall_mem_cons, List.not_mem_nil, false_implies, implies_true, and_true, true_and, and_self, Nat.reduceEqDiff, reduceIte, ↓reduceIte, ri_eq, Int.natCast_add, Int.cast_ofNat_Int, List.length_append, List.length_singleton]; try simp) ?_ (by simp [hx])⟩
    · rw [nrF_snoc]
      exact ho.snoc (Nat.le_refl _) (by show nb ≤ nb + 1 + 1; omega) (by show nb ≠ nb + 1 + 1; omega) (by show nb < nb + 1 + 1 + 1; omega) (by show nb + 1 + 1 < nb + 1 + 1 + 1; omega)
    · simp only [List.forall_mem_cons]
      refine ⟨?_, ?_, by simp⟩
      · simp only [EntIn, hx_map, xmap_blk, if_pos, nrF_snoc, outerN_snoc, bools_length, List.length_replicate]
      · simp only [nrF_snoc]
        refine EntIn.snoc (((EntIn.skipC (EntIn.selfR ho.2.2) hne).skipR ?_).skipR ?_ |>.skipR ?_) ?_
        · intro p hp; have := hlt' p hp; omega
        · intro p hp; have := hlt' p hp; omega
        · intro p hp; have := hlt' p hp; omega
        · simp only [hx_map, xmap_blk]; rw [if_neg (by omega), if_neg (by omega), if_pos trivial, bools_replicate]
  · simp (disch := omega) only [Try.ntmps115, Try.results115, go_sem, Nat.reduceLT, Nat.reduceLeDiff, Nat.reduceEqDiff, Nat.reduceAdd, Nat.reduceSub, Nat.reduceMul, reduceIte, ↓reduceIte, reduceCtorEq, Int.reduceToNat, Int.reduceLE, Int.reduceLT, Int.reduceNeg, Int.reduceSub, Int.reduceAdd, Int.reduceMul, hl1, hl2, hl3]
    have hk : l.length = n := by omega
    have := fin_rows (H := hx [Ent.blk ob { cells := outerN true (nrF n l), ex := false }, Ent.rows true (nrF n l)] nb) (R := mb (bz n)) ho
      (fun p hp => by obtain ⟨x, _, rfl⟩ := List.mem_map.1 hp; exact bools_vals _) (by simp [hx, xmap])
      (EntIn.skipR (EntIn.selfR ho.2.2) (fun p hp => (ho.2.1 p hp).2)) (by rw [nrF_snd, hk]; simp [mb, bz])
    rw [nrF_length] at this
    exact this
theorem Try.l17Links_one (n : Nat) (hn : n ≤ 1048576) : FCall Try.prog 115 [.val (.int .i64 n)] (MatOne (mb (bz n))) := (Try.l17Links_f n hn).mat

theorem rep_snoc (k : Nat) (a : Int) : List.replicate k a ++ [a] = List.replicate (k + 1) a := by
  rw [List.replicate_succ']
set_option maxHeartbeats 4000000 in
theorem Try.l17Labels_f (n : Nat) (X : List (List Bool)) (hn : n ≤ 1048576) (hX : X.length = n) (hR : ∀ i, i < n → (brow X i).length = n) (hs : ∀ x y, x < n → y < n → bmat X x y = true → bmat X y x = true) :
    FCall Try.prog 116 [.val (.int .i64 n), rb X] (fun r H => CompL n (bmat X) (comp n (bmat X)) ∧ FlatRes n 1 (ints (comp n (bmat X))) r H) := by
  refine FCall.of_body Try.func116 rfl (by kernel_rfl) (by simp [Try.ntmps116]) ?_
  refine SW_of_vc Try.mixed _ _ _ (by kernel_rfl) ?_
  simp (disch := omega) only [Try.ntmps116, Try.results116, go_sem, Nat.reduceLT, Nat.reduceLeDiff, Nat.reduceEqDiff, Nat.reduceAdd, Nat.reduceSub, Nat.reduceMul, reduceIte, ↓reduceIte, reduceCtorEq, Int.reduceToNat, Int.reduceLE, Int.reduceLT, Int.reduceNeg, Int.reduceSub, Int.reduceAdd, Int.reduceMul, rb_eq]
  refine LoopW.loop (fun p : Nat × Nat × Nat => ⟨ofL [(0, .val (.int .i64 n)), (1, rb X), (5, .own p.2.1 0 p.1 p.1 1 false), (6, .val (.int .i64 p.1))], hp [(p.2.1, ⟨ints (List.replicate p.1 (-1)), false⟩)] p.2.2⟩) (fun p => p.1 ≤ n ∧ p.2.1 < p.2.2) (fun p => n - p.1) (0, 0, 1) ⟨by simp, by simp⟩
    (Wk.ofH (by simp only [go_sem, ↓List.forall_mem_cons, List.not_mem_nil, false_implies, implies_true, and_true, true_and, and_self, Nat.reduceEqDiff, reduceIte, ↓reduceIte, ri_eq, Int.natCast_add, Int.cast_ofNat_Int, rb_eq]; try simp) (by simp (disch := omega) only [go_sem, ↓List.forall_mem_cons, List.not_mem_nil, false_implies, implies_true, and_true, true_and, and_self, Nat.reduceEqDiff, reduceIte, ↓reduceIte, ri_eq, Int.natCast_add, Int.cast_ofNat_Int, if_pos, if_neg, Nat.reduceAdd, List.nil_append, List.replicate_zero, ints_nil]; try simp) (by simp [hp])) ?_
  rintro ⟨k, b, nb⟩ ⟨hk, hb⟩
  simp only at hk hb
  refine SW_of_vc Try.mixed _ _ _ (by kernel_rfl) ?_
  by_cases hlt : k < n
  · have hl := rep_snoc k (-1)
    have ht : (ints (List.replicate k (-1))).take k = ints (List.replicate k (-1)) := ints_take_of (by simp)
    simp (disch := omega) only [Try.ntmps116, Try.results116, go_sem, Nat.reduceLT, Nat.reduceLeDiff, Nat.reduceEqDiff, Nat.reduceAdd, Nat.reduceSub, Nat.reduceMul, reduceIte, ↓reduceIte, reduceCtorEq, Int.reduceToNat, Int.reduceLE, Int.reduceLT, Int.reduceNeg, Int.reduceSub, Int.reduceAdd, Int.reduceMul, rb_eq, List.length_replicate, ht]
    refine ⟨(k + 1, nb + 1, nb + 1 + 1), ⟨hlt, by simp⟩, by show n - (k + 1) < n - k; omega, ?_⟩
    exact Wk.ofH (by simp only [go_sem, ↓List.forall_mem_cons, List.not_mem_nil, false_implies, implies_true, and_true, true_and, and_self, Nat.reduceEqDiff, reduceIte, ↓reduceIte, ri_eq, Int.natCast_add, Int.cast_ofNat_Int, rb_eq]; try simp) (by simp (disch := omega) only [go_sem, ↓List.forall_mem_cons, List.not_mem_nil, false_implies, implies_true, and_true, true_and, and_self, Nat.reduceEqDiff, reduceIte, ↓reduceIte, ri_eq, Int.natCast_add, Int.cast_ofNat_Int, if_pos, if_neg, Nat.reduceAdd, List.nil_append, hl]; try simp) (by simp [hp])
  obtain rfl : k = n := by omega
  simp (disch := omega) only [Try.ntmps116, Try.results116, go_sem, Nat.reduceLT, Nat.reduceLeDiff, Nat.reduceEqDiff, Nat.reduceAdd, Nat.reduceSub, Nat.reduceMul, reduceIte, ↓reduceIte, reduceCtorEq, Int.reduceToNat, Int.reduceLE, Int.reduceLT, Int.reduceNeg, Int.reduceSub, Int.reduceAdd, Int.reduceMul, rb_eq]
  refine LoopW.loop (fun p : Nat × List Int × Int => ⟨ofL [(0, .val (.int .i64 k)), (1, rb X), (5, .own b 0 k k 1 false), (7, .val (.int .i64 p.2.2)), (8, .val (.int .i64 p.1))], hp [(b, ⟨ints p.2.1, false⟩)] nb⟩)
    (fun p => p.1 ≤ k ∧ PartL k (bmat X) p.1 p.2.2 p.2.1) (fun p => k - p.1) (0, List.replicate k (-1), 0) ⟨by simp, .zero _ _⟩ (Wk.ofH (by simp only [go_sem, ↓List.forall_mem_cons, List.not_mem_nil, false_implies, implies_true, and_true, true_and, and_self, Nat.reduceEqDiff, reduceIte, ↓reduceIte, ri_eq, Int.natCast_add, Int.cast_ofNat_Int, rb_eq]; try simp) (by simp (disch := omega) only [go_sem, ↓List.forall_mem_cons, List.not_mem_nil, false_implies, implies_true, and_true, true_and, and_self, Nat.reduceEqDiff, reduceIte, ↓reduceIte, ri_eq, Int.natCast_add, Int.cast_ofNat_Int, if_pos, if_neg, Nat.reduceAdd, List.nil_append]; try simp) (by simp [hp])) ?_
  rintro ⟨i, O, c⟩ ⟨hi, hpl⟩
  simp only at hi hpl
  have hl := hpl.len
  have hc0 := hpl.c0
  have hci := hpl.ci
  refine SW_of_vc Try.mixed _ _ _ (by kernel_rfl) ?_
  by_cases hlt2 : i < k
  · have g2 : (ints O)[i]? = some (.val (.int .i64 (O.getD i 0))) := ints_get' hl hlt2
    obtain ⟨v, hv⟩ : ∃ v, O.getD i 0 = v := ⟨_, rfl⟩
    rw [hv] at g2
    by_cases h0 : 0 ≤ v
    · simp (disch := omega) only [Try.ntmps116, Try.results116, go_sem, Nat.reduceLT, Nat.reduceLeDiff, Nat.reduceEqDiff, Nat.reduceAdd, Nat.reduceSub, Nat.reduceMul, reduceIte, ↓reduceIte, reduceCtorEq, Int.reduceToNat, Int.reduceLE, Int.reduceLT, Int.reduceNeg, Int.reduceSub, Int.reduceAdd, Int.reduceMul, rb_eq, hl, g2]
      exact ⟨(i + 1, O, c), ⟨hlt2, hpl.skip (by omega)⟩, by show k - (i + 1) < k - i; omega, Wk.ofH (by simp only [go_sem, ↓List.forall_mem_cons, List.not_mem_nil, false_implies, implies_true, and_true, true_and, and_self, Nat.reduceEqDiff, reduceIte, ↓reduceIte, ri_eq, Int.natCast_add, Int.cast_ofNat_Int, rb_eq]; try simp) (by simp (disch := omega) only [go_sem, ↓List.forall_mem_cons, List.not_mem_nil, false_implies, implies_true, and_true, true_and, and_self, Nat.reduceEqDiff, reduceIte, ↓reduceIte, ri_eq, Int.natCast_add, Int.cast_ofNat_Int, if_pos, if_neg, Nat.reduceAdd, List.nil_append]; try simp) (by simp [hp])⟩
    · simp (disch := omega) only [Try.ntmps116, Try.results116, go_sem, Nat.reduceLT, Nat.reduceLeDiff, Nat.reduceEqDiff, Nat.reduceAdd, Nat.reduceSub, Nat.reduceMul, reduceIte, ↓reduceIte, reduceCtorEq, Int.reduceToNat, Int.reduceLE, Int.reduceLT, Int.reduceNeg, Int.reduceSub, Int.reduceAdd, Int.reduceMul, rb_eq, hl, g2]
      refine LoopW.loop (fun p : Nat × List Int => ⟨ofL [(0, .val (.int .i64 k)), (1, rb X), (5, .own b 0 k k 1 false), (7, .val (.int .i64 c)), (8, .val (.int .i64 i)), (9, .val (.int .i64 p.1))], hp [(b, ⟨ints p.2, false⟩)] nb⟩)
        (fun p => p.1 ≤ k ∧ SpI k (bmat X) c i O p.1 0 0 p.2) (fun p => k - p.1) (0, O.set i c) ⟨by simp, .start hl hlt2⟩ (Wk.ofH (by simp only [go_sem, ↓List.forall_mem_cons, List.not_mem_nil, false_implies, implies_true, and_true, true_and, and_self, Nat.reduceEqDiff, reduceIte, ↓reduceIte, ri_eq, Int.natCast_add, Int.cast_ofNat_Int, rb_eq]; try simp) (by simp (disch := omega) only [go_sem, ↓List.forall_mem_cons, List.not_mem_nil, false_implies, implies_true, and_true, true_and, and_self, Nat.reduceEqDiff, reduceIte, ↓reduceIte, ri_eq, Int.natCast_add, Int.cast_ofNat_Int, if_pos, if_neg, Nat.reduceAdd, List.nil_append]; try simp) (by simp [hp])) ?_
      rintro ⟨s, O1⟩ ⟨hs1, hq1⟩
      simp only at hs1 hq1
      refine SW_of_vc Try.mixed _ _ _ (by kernel_rfl) ?_
      by_cases hlt3 : s < k
      · simp (disch := omega) only [Try.ntmps116, Try.results116, go_sem, Nat.reduceLT, Nat.reduceLeDiff, Nat.reduceEqDiff, Nat.reduceAdd, Nat.reduceSub, Nat.reduceMul, reduceIte, ↓reduceIte, reduceCtorEq, Int.reduceToNat, Int.reduceLE, Int.reduceLT, Int.reduceNeg, Int.reduceSub, Int.reduceAdd, Int.reduceMul, rb_eq]
        refine LoopW.loop (fun p : Nat × List Int => ⟨ofL [(0, .val (.int .i64 k)), (1, rb X), (5, .own b 0 k k 1 false), (7, .val (.int .i64 c)), (8, .val (.int .i64 i)), (9, .val (.int .i64 s)), (10, .val (.int .i64 p.1))], hp [(b, ⟨ints p.2, false⟩)] nb⟩)
          (fun p => p.1 ≤ k ∧ SpI k (bmat X) c i O s p.1 0 p.2) (fun p => k - p.1) (0, O1) ⟨by simp, hq1⟩ (Wk.ofH (by simp only [go_sem, ↓List.forall_mem_cons, List.not_mem_nil, false_implies, implies_true, and_true, true_and, and_self, Nat.reduceEqDiff, reduceIte, ↓reduceIte, ri_eq, Int.natCast_add, Int.cast_ofNat_Int, rb_eq]; try simp) (by simp (disch := omega) only [go_sem, ↓List.forall_mem_cons, List.not_mem_nil, false_implies, implies_true, and_true, true_and, and_self, Nat.reduceEqDiff, reduceIte, ↓reduceIte, ri_eq, Int.natCast_add, Int.cast_ofNat_Int, if_pos, if_neg, Nat.reduceAdd, List.nil_append]; try simp) (by simp [hp])) ?_
        rintro ⟨a, O2⟩ ⟨ha1, hq2⟩
        simp only at ha1 hq2
        refine SW_of_vc Try.mixed _ _ _ (by kernel_rfl) ?_
        by_cases hlt4 : a < k
        · simp (disch := omega) only [Try.ntmps116, Try.results116, go_sem, Nat.reduceLT, Nat.reduceLeDiff, Nat.reduceEqDiff, Nat.reduceAdd, Nat.reduceSub, Nat.reduceMul, reduceIte, ↓reduceIte, reduceCtorEq, Int.reduceToNat, Int.reduceLE, Int.reduceLT, Int.reduceNeg, Int.reduceSub, Int.reduceAdd, Int.reduceMul, rb_eq]
          refine LoopW.loop (fun p : Nat × List Int => ⟨ofL [(0, .val (.int .i64 k)), (1, rb X), (5, .own b 0 k k 1 false), (7, .val (.int .i64 c)), (8, .val (.int .i64 i)), (9, .val (.int .i64 s)), (10, .val (.int .i64 a)), (11, .val (.int .i64 p.1))], hp [(b, ⟨ints p.2, false⟩)] nb⟩)
            (fun p => p.1 ≤ k ∧ SpI k (bmat X) c i O s a p.1 p.2) (fun p => k - p.1) (0, O2) ⟨by simp, hq2⟩ (Wk.ofH (by simp only [go_sem, ↓List.forall_mem_cons, List.not_mem_nil, false_implies, implies_true, and_true, true_and, and_self, Nat.reduceEqDiff, reduceIte, ↓reduceIte, ri_eq, Int.natCast_add, Int.cast_ofNat_Int, rb_eq]; try simp) (by simp (disch := omega) only [go_sem, ↓List.forall_mem_cons, List.not_mem_nil, false_implies, implies_true, and_true, true_and, and_self, Nat.reduceEqDiff, reduceIte, ↓reduceIte, ri_eq, Int.natCast_add, Int.cast_ofNat_Int, if_pos, if_neg, Nat.reduceAdd, List.nil_append]; try simp) (by simp [hp])) ?_
          rintro ⟨z, O3⟩ ⟨hz1, hq3⟩
          simp only at hz1 hq3
          have hl3 := hq3.len
          have hXa := hR a hlt4
          refine SW_of_vc Try.mixed _ _ _ (by kernel_rfl) ?_
          by_cases hlt5 : z < k
          · have g3 : (ints O3)[a]? = some (.val (.int .i64 (O3.getD a 0))) := ints_get' hl3 hlt4
            have g4 : (bools (brow X a))[z]? = some (.val (.bool (bmat X a z))) := bools_get (by omega)
            obtain ⟨v3, hv3⟩ : ∃ v, O3.getD a 0 = v := ⟨_, rfl⟩
            rw [hv3] at g3
            by_cases h5 : v3 = c
            · rcases Bool.eq_false_or_eq_true (bmat X a z) with h6 | h6
              · rw [h6] at g4
                simp (disch := omega) only [Try.ntmps116, Try.results116, go_sem, Nat.reduceLT, Nat.reduceLeDiff, Nat.reduceEqDiff, Nat.reduceAdd, Nat.reduceSub, Nat.reduceMul, reduceIte, ↓reduceIte, reduceCtorEq, Int.reduceToNat, Int.reduceLE, Int.reduceLT, Int.reduceNeg, Int.reduceSub, Int.reduceAdd, Int.reduceMul, rb_eq, hl3, g3, g4, hX, hXa, rowsB_get, rowsB_length]
                exact ⟨(z + 1, O3.set z c), ⟨hlt5, hq3.put hpl.rng hlt4 hlt5 (by omega) h6⟩, by show k - (z + 1) < k - z; omega, Wk.ofH (by simp only [go_sem, ↓List.forall_mem_cons, List.not_mem_nil, false_implies, implies_true, and_true, true_and, and_self, Nat.reduceEqDiff, reduceIte, ↓reduceIte, ri_eq, Int.natCast_add, Int.cast_ofNat_Int, rb_eq]; try simp) (by simp (disch := omega) only [go_sem, ↓List.forall_mem_cons, List.not_mem_nil, false_implies, implies_true, and_true, true_and, and_self, Nat.reduceEqDiff, reduceIte, ↓reduceIte, ri_eq, Int.natCast_add, Int.cast_ofNat_Int, if_pos, if_neg, Nat.reduceAdd, List.nil_append]; try simp) (by simp [hp])⟩
              · rw [h6] at g4
                simp (disch := omega) only [Try.ntmps116, Try.results116, go_sem, Nat.reduceLT, Nat.reduceLeDiff, Nat.reduceEqDiff, Nat.reduceAdd, Nat.reduceSub, Nat.reduceMul, reduceIte, ↓reduceIte, reduceCtorEq, Int.reduceToNat, Int.reduceLE, Int.reduceLT, Int.reduceNeg, Int.reduceSub, Int.reduceAdd, Int.reduceMul, rb_eq, hl3, g3, g4, hX, hXa, rowsB_get, rowsB_length]
                exact ⟨(z + 1, O3), ⟨hlt5, hq3.skip hlt4 (by simp [h6])⟩, by show k - (z + 1) < k - z; omega, Wk.ofH (by simp only [go_sem, ↓List.forall_mem_cons, List.not_mem_nil, false_implies, implies_true, and_true, true_and, and_self, Nat.reduceEqDiff, reduceIte, ↓reduceIte, ri_eq, Int.natCast_add, Int.cast_ofNat_Int, rb_eq]; try simp) (by simp (disch := omega) only [go_sem, ↓List.forall_mem_cons, List.not_mem_nil, false_implies, implies_true, and_true, true_and, and_self, Nat.reduceEqDiff, reduceIte, ↓reduceIte, ri_eq, Int.natCast_add, Int.cast_ofNat_Int, if_pos, if_neg, Nat.reduceAdd, List.nil_append]; try simp) (by simp [hp])⟩
            · simp (disch := omega) only [Try.ntmps116, Try.results116, go_sem, Nat.reduceLT, Nat.reduceLeDiff, Nat.reduceEqDiff, Nat.reduceAdd, Nat.reduceSub, Nat.reduceMul, reduceIte, ↓reduceIte, reduceCtorEq, Int.reduceToNat, Int.reduceLE, Int.reduceLT, Int.reduceNeg, Int.reduceSub, Int.reduceAdd, Int.reduceMul, rb_eq, hl3, g3, hX, hXa, rowsB_get, rowsB_length]
              exact ⟨(z + 1, O3), ⟨hlt5, hq3.skip hlt4 (by intro h; omega)⟩, by show k - (z + 1) < k - z; omega, Wk.ofH (by simp only [go_sem, ↓List.forall_mem_cons, List.not_mem_nil, false_implies, implies_true, and_true, true_and, and_self, Nat.reduceEqDiff, reduceIte, ↓reduceIte, ri_eq, Int.natCast_add, Int.cast_ofNat_Int, rb_eq]; try simp) (by simp (disch := omega) only [go_sem, ↓List.forall_mem_cons, List.not_mem_nil, false_implies, implies_true, and_true, true_and, and_self, Nat.reduceEqDiff, reduceIte, ↓reduceIte, ri_eq, Int.natCast_add, Int.cast_ofNat_Int, if_pos, if_neg, Nat.reduceAdd, List.nil_append]; try simp) (by simp [hp])⟩
          · simp (disch := omega) only [Try.ntmps116, Try.results116, go_sem, Nat.reduceLT, Nat.reduceLeDiff, Nat.reduceEqDiff, Nat.reduceAdd, Nat.reduceSub, Nat.reduceMul, reduceIte, ↓reduceIte, reduceCtorEq, Int.reduceToNat, Int.reduceLE, Int.reduceLT, Int.reduceNeg, Int.reduceSub, Int.reduceAdd, Int.reduceMul, rb_eq]
            exact ⟨(a + 1, O3), ⟨hlt4, hq3.next (by omega)⟩, by show k - (a + 1) < k - a; omega, Wk.ofH (by simp only [go_sem, ↓List.forall_mem_cons, List.not_mem_nil, false_implies, implies_true, and_true, true_and, and_self, Nat.reduceEqDiff, reduceIte, ↓reduceIte, ri_eq, Int.natCast_add, Int.cast_ofNat_Int, rb_eq]; try simp) (by simp (disch := omega) only [go_sem, ↓List.forall_mem_cons, List.not_mem_nil, false_implies, implies_true, and_true, true_and, and_self, Nat.reduceEqDiff, reduceIte, ↓reduceIte, ri_eq, Int.natCast_add, Int.cast_ofNat_Int, if_pos, if_neg, Nat.reduceAdd, List.nil_append]; try simp) (by simp [hp])⟩
        · simp (disch := omega) only [Try.ntmps116, Try.results116, go_sem, Nat.reduceLT, Nat.reduceLeDiff, Nat.reduceEqDiff, Nat.reduceAdd, Nat.reduceSub, Nat.reduceMul, reduceIte, ↓reduceIte, reduceCtorEq, Int.reduceToNat, Int.reduceLE, Int.reduceLT, Int.reduceNeg, Int.reduceSub, Int.reduceAdd, Int.reduceMul, rb_eq]
          exact ⟨(s + 1, O2), ⟨hlt3, hq2.round (by omega)⟩, by show k - (s + 1) < k - s; omega, Wk.ofH (by simp only [go_sem, ↓List.forall_mem_cons, List.not_mem_nil, false_implies, implies_true, and_true, true_and, and_self, Nat.reduceEqDiff, reduceIte, ↓reduceIte, ri_eq, Int.natCast_add, Int.cast_ofNat_Int, rb_eq]; try simp) (by simp (disch := omega) only [go_sem, ↓List.forall_mem_cons, List.not_mem_nil, false_implies, implies_true, and_true, true_and, and_self, Nat.reduceEqDiff, reduceIte, ↓reduceIte, ri_eq, Int.natCast_add, Int.cast_ofNat_Int, if_pos, if_neg, Nat.reduceAdd, List.nil_append]; try simp) (by simp [hp])⟩
      · obtain rfl : s = k := by omega
        simp (disch := omega) only [Try.ntmps116, Try.results116, go_sem, Nat.reduceLT, Nat.reduceLeDiff, Nat.reduceEqDiff, Nat.reduceAdd, Nat.reduceSub, Nat.reduceMul, reduceIte, ↓reduceIte, reduceCtorEq, Int.reduceToNat, Int.reduceLE, Int.reduceLT, Int.reduceNeg, Int.reduceSub, Int.reduceAdd, Int.reduceMul, rb_eq]
        exact ⟨(i + 1, O1, c + 1), ⟨hlt2, hpl.step hs hlt2 (by omega) (hq1.newL hlt2)⟩, by show s - (i + 1) < s - i; omega, Wk.ofH (by simp only [go_sem, ↓List.forall_mem_cons, List.not_mem_nil, false_implies, implies_true, and_true, true_and, and_self, Nat.reduceEqDiff, reduceIte, ↓reduceIte, ri_eq, Int.natCast_add, Int.cast_ofNat_Int, rb_eq]; try simp) (by simp (disch := omega) only [go_sem, ↓List.forall_mem_cons, List.not_mem_nil, false_implies, implies_true, and_true, true_and, and_self, Nat.reduceEqDiff, reduceIte, ↓reduceIte, ri_eq, Int.natCast_add, Int.cast_ofNat_Int, if_pos, if_neg, Nat.reduceAdd, List.nil_append]; try simp) (by simp [hp])⟩
  · have hC := hpl.final (by omega)
    have hc2 := hC.comp
    rw [← hC.eq] at hc2 ⊢
    simp (disch := omega) only [Try.ntmps116, Try.results116, go_sem, Nat.reduceLT, Nat.reduceLeDiff, Nat.reduceEqDiff, Nat.reduceAdd, Nat.reduceSub, Nat.reduceMul, reduceIte, ↓reduceIte, reduceCtorEq, Int.reduceToNat, Int.reduceLE, Int.reduceLT, Int.reduceNeg, Int.reduceSub, Int.reduceAdd, Int.reduceMul, rb_eq]
    exact Fin.imp (fun _ _ h => ⟨hc2, h⟩) (fin_ints hl.symm (by rw [hp_map]; simp only [hmap_cons]; rfl))
end Go.Sh
