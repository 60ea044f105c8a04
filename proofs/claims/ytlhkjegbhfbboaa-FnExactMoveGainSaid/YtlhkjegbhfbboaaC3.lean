/-
  Contracts: orders of the items.
-/
import Derived.Test.YtlhkjegbhfbboaaC2
namespace Go.Sh
set_option linter.unusedSimpArgs false
set_option linter.unusedVariables false
open Go Go.Proofs

theorem Try.isItem_ok (x n : Int) (h1 : -9223372036854775807 ≤ n) (h2 : n ≤ 9223372036854775807) : PCall Try.prog 23 [.val (.int .i64 x), .val (.int .i64 n)] (.val (.bool (inR x 0 (n - 1)))) := by
  refine FCall.pcall (R := fun r _ => r = .val (.bool (inR x 0 (n - 1)))) ?_ 0 (by rintro r H rfl; simp [view, viewV])
  refine FCall.of_body Try.func23 rfl (by kernel_rfl) (by simp [Try.ntmps23]) ?_
  refine SW_of_vc Try.mixed _ _ _ (by kernel_rfl) ?_
  simp (disch := omega) only [Try.ntmps23, Try.results23, go_sem, List.map_cons, List.map_nil, true_and, and_true, Nat.reduceLT, Nat.reduceLeDiff, Nat.reduceEqDiff, Nat.reduceAdd, Nat.reduceSub, Nat.reduceMul, reduceIte, ↓reduceIte, reduceCtorEq, if_pos, if_neg, decide_eq_true, decide_eq_false, ibeq_t, ibeq_f, ibne_t, ibne_f, Int.toNat_natCast, Int.reduceToNat, Int.reduceLE, Int.reduceLT, Int.reduceNeg, Int.reduceSub, Int.reduceAdd, Int.reduceMul, Nat.mul_one, Nat.zero_add, Nat.add_zero, wrap_id, ge_iff_le, gt_iff_lt, beq_iff_eq, bne_iff_ne, decide_eq_true_eq, decide_eq_false_iff_not, ints_get, ints_set, ints_length, ints_append, ints_replicate, ri_eq, List.length_cons, List.length_nil, List.all_cons, List.all_nil, List.cons_append, List.nil_append, List.append_nil, Value.oneCell', Bool.and_self, Bool.true_and, Bool.and_true, Bool.not_true, Bool.not_false, and_self, implies_true, true_implies, false_implies, forall_const, false_and, and_false, IntKind.bits, Bool.true_eq_false, Bool.false_eq_true, not_true_eq_false, not_false_eq_true, Option.map_some, Option.map_none, Option.isNone_some, Option.isNone_none, Option.isSome_some, Option.isSome_none, Nat.sub_zero, Nat.zero_mul, List.drop_zero, Bool.false_and, Bool.and_false, Nat.sub_self, List.replicate_one, List.set_cons_zero, List.set_cons_succ, ints_take_self, ints_snoc, decide_true, decide_false, List.take_succ_cons, List.take_zero, List.take_nil, List.drop_succ_cons, List.drop_nil, List.replicate_zero, List.getElem?_cons_zero, List.getElem?_cons_succ, tbf, fbt, tbt, fbf]
  refine (Try.within_ok _ _ _).call (by simp [viewL, view, viewV]) ?_
  simp (disch := omega) only [Try.ntmps23, Try.results23, go_sem, List.map_cons, List.map_nil, true_and, and_true, Nat.reduceLT, Nat.reduceLeDiff, Nat.reduceEqDiff, Nat.reduceAdd, Nat.reduceSub, Nat.reduceMul, reduceIte, ↓reduceIte, reduceCtorEq, if_pos, if_neg, decide_eq_true, decide_eq_false, ibeq_t, ibeq_f, ibne_t, ibne_f, Int.toNat_natCast, Int.reduceToNat, Int.reduceLE, Int.reduceLT, Int.reduceNeg, Int.reduceSub, Int.reduceAdd, Int.reduceMul, Nat.mul_one, Nat.zero_add, Nat.add_zero, wrap_id, ge_iff_le, gt_iff_lt, beq_iff_eq, bne_iff_ne, decide_eq_true_eq, decide_eq_false_iff_not, ints_get, ints_set, ints_length, ints_append, ints_replicate, ri_eq, List.length_cons, List.length_nil, List.all_cons, List.all_nil, List.cons_append, List.nil_append, List.append_nil, Value.oneCell', Bool.and_self, Bool.true_and, Bool.and_true, Bool.not_true, Bool.not_false, and_self, implies_true, true_implies, false_implies, forall_const, false_and, and_false, IntKind.bits, Bool.true_eq_false, Bool.false_eq_true, not_true_eq_false, not_false_eq_true, Option.map_some, Option.map_none, Option.isNone_some, Option.isNone_none, Option.isSome_some, Option.isSome_none, Nat.sub_zero, Nat.zero_mul, List.drop_zero, Bool.false_and, Bool.and_false, Nat.sub_self, List.replicate_one, List.set_cons_zero, List.set_cons_succ, ints_take_self, ints_snoc, decide_true, decide_false, List.take_succ_cons, List.take_zero, List.take_nil, List.drop_succ_cons, List.drop_nil, List.replicate_zero, List.getElem?_cons_zero, List.getElem?_cons_succ, tbf, fbt, tbt, fbf]
  exact Fin.val rfl

def idx (x : Int) (L : List Int) : Int := if x ∈ L then (L.idxOf x : Int) else -1
theorem idx_none {x : Int} {L : List Int} (h : ∀ i, i < L.length → L.getD i 0 ≠ x) : idx x L = -1 := by
  rw [idx, if_neg]
  intro hm
  obtain ⟨i, hi, e⟩ := List.getElem_of_mem hm
  exact h i hi (by simp [hi, e])
theorem idx_some {x : Int} {L : List Int} {k : Nat} (hk : k < L.length) (h : ∀ i, i < k → L.getD i 0 ≠ x) (e : L.getD k 0 = x) : idx x L = k := by
  have hm : x ∈ L := by rw [← e]; simp [hk]
  rw [idx, if_pos hm]
  congr 1
  have h1 : L.idxOf x < L.length := List.idxOf_lt_length_of_mem hm
  have h2 : L[L.idxOf x] = x := List.getElem_idxOf h1
  rcases Nat.lt_trichotomy (L.idxOf x) k with hl | hl | hl
  · exact absurd (by simp [h1]) (h _ hl)
  · exact hl
  · exfalso
    have := List.not_of_lt_findIdx (p := (· == x)) (xs := L) (i := k) (by simpa [List.idxOf] using hl)
    simp [hk] at e
    simp [e] at this
theorem idx_ge (x : Int) (L : List Int) : (0 ≤ idx x L) ↔ x ∈ L := by
  rw [idx]; split <;> simp_all

set_option maxHeartbeats 1000000 in
theorem Try.slicesIndex_ok (L : List Int) (x : Int) (hL : L.length ≤ 1099511627776) : PCall Try.prog 31 [ri L, .val (.int .i64 x)] (.val (.int .i64 (idx x L))) := by
  refine FCall.pcall (R := fun r _ => r = .val (.int .i64 (idx x L))) ?_ 0 (by rintro r H rfl; simp [view, viewV])
  refine FCall.of_body Try.func31 rfl (by kernel_rfl) (by simp [Try.ntmps31]) ?_
  refine SW_of_vc Try.mixed _ _ _ (by kernel_rfl) ?_
  simp (disch := omega) only [Try.ntmps31, Try.results31, go_sem, List.map_cons, List.map_nil, true_and, and_true, Nat.reduceLT, Nat.reduceLeDiff, Nat.reduceEqDiff, Nat.reduceAdd, Nat.reduceSub, Nat.reduceMul, reduceIte, ↓reduceIte, reduceCtorEq, if_pos, if_neg, decide_eq_true, decide_eq_false, ibeq_t, ibeq_f, ibne_t, ibne_f, Int.toNat_natCast, Int.reduceToNat, Int.reduceLE, Int.reduceLT, Int.reduceNeg, Int.reduceSub, Int.reduceAdd, Int.reduceMul, Nat.mul_one, Nat.zero_add, Nat.add_zero, wrap_id, ge_iff_le, gt_iff_lt, beq_iff_eq, bne_iff_ne, decide_eq_true_eq, decide_eq_false_iff_not, ints_get, ints_set, ints_length, ints_append, ints_replicate, ri_eq, List.length_cons, List.length_nil, List.all_cons, List.all_nil, List.cons_append, List.nil_append, List.append_nil, Value.oneCell', Bool.and_self, Bool.true_and, Bool.and_true, Bool.not_true, Bool.not_false, and_self, implies_true, true_implies, false_implies, forall_const, false_and, and_false, IntKind.bits, Bool.true_eq_false, Bool.false_eq_true, not_true_eq_false, not_false_eq_true, Option.map_some, Option.map_none, Option.isNone_some, Option.isNone_none, Option.isSome_some, Option.isSome_none, Nat.sub_zero, Nat.zero_mul, List.drop_zero, Bool.false_and, Bool.and_false, Nat.sub_self, List.replicate_one, List.set_cons_zero, List.set_cons_succ, ints_take_self, ints_snoc, decide_true, decide_false, List.take_succ_cons, List.take_zero, List.take_nil, List.drop_succ_cons, List.drop_nil, List.replicate_zero, List.getElem?_cons_zero, List.getElem?_cons_succ, tbf, fbt, tbt, fbf]
  refine LoopW.loop (fun k : Nat => ⟨ofL [(0, ri L), (1, .val (.int .i64 x)), (7, .val (.int .i64 L.length)), (8, .val (.int .i64 k))], hp [] 0⟩) (fun k => k ≤ L.length ∧ ∀ i, i < k → L.getD i 0 ≠ x) (fun k => L.length - k) 0 ⟨by omega, by simp⟩ (Wk.of (by simp only [go_sem, ↓List.forall_mem_cons, List.not_mem_nil, false_implies, implies_true, and_true, true_and, and_self, Nat.reduceEqDiff, reduceIte, ↓reduceIte, ri_eq, Int.natCast_add, Int.cast_ofNat_Int]; try simp) rfl) ?_
  rintro k ⟨hk, hkk⟩
  refine SW_of_vc Try.mixed _ _ _ (by kernel_rfl) ?_
  by_cases hlt : k < L.length
  · by_cases he : x = L.getD k 0
    · simp (disch := omega) only [Try.ntmps31, Try.results31, go_sem, List.map_cons, List.map_nil, true_and, and_true, Nat.reduceLT, Nat.reduceLeDiff, Nat.reduceEqDiff, Nat.reduceAdd, Nat.reduceSub, Nat.reduceMul, reduceIte, ↓reduceIte, reduceCtorEq, if_pos, if_neg, decide_eq_true, decide_eq_false, ibeq_t, ibeq_f, ibne_t, ibne_f, Int.toNat_natCast, Int.reduceToNat, Int.reduceLE, Int.reduceLT, Int.reduceNeg, Int.reduceSub, Int.reduceAdd, Int.reduceMul, Nat.mul_one, Nat.zero_add, Nat.add_zero, wrap_id, ge_iff_le, gt_iff_lt, beq_iff_eq, bne_iff_ne, decide_eq_true_eq, decide_eq_false_iff_not, ints_get, ints_set, ints_length, ints_append, ints_replicate, ri_eq, List.length_cons, List.length_nil, List.all_cons, List.all_nil, List.cons_append, List.nil_append, List.append_nil, Value.oneCell', Bool.and_self, Bool.true_and, Bool.and_true, Bool.not_true, Bool.not_false, and_self, implies_true, true_implies, false_implies, forall_const, false_and, and_false, IntKind.bits, Bool.true_eq_false, Bool.false_eq_true, not_true_eq_false, not_false_eq_true, Option.map_some, Option.map_none, Option.isNone_some, Option.isNone_none, Option.isSome_some, Option.isSome_none, Nat.sub_zero, Nat.zero_mul, List.drop_zero, Bool.false_and, Bool.and_false, Nat.sub_self, List.replicate_one, List.set_cons_zero, List.set_cons_succ, ints_take_self, ints_snoc, decide_true, decide_false, List.take_succ_cons, List.take_zero, List.take_nil, List.drop_succ_cons, List.drop_nil, List.replicate_zero, List.getElem?_cons_zero, List.getElem?_cons_succ, tbf, fbt, tbt, fbf]
      exact Fin.val (by rw [idx_some hlt hkk he.symm])
    · simp (disch := omega) only [Try.ntmps31, Try.results31, go_sem, List.map_cons, List.map_nil, true_and, and_true, Nat.reduceLT, Nat.reduceLeDiff, Nat.reduceEqDiff, Nat.reduceAdd, Nat.reduceSub, Nat.reduceMul, reduceIte, ↓reduceIte, reduceCtorEq, if_pos, if_neg, decide_eq_true, decide_eq_false, ibeq_t, ibeq_f, ibne_t, ibne_f, Int.toNat_natCast, Int.reduceToNat, Int.reduceLE, Int.reduceLT, Int.reduceNeg, Int.reduceSub, Int.reduceAdd, Int.reduceMul, Nat.mul_one, Nat.zero_add, Nat.add_zero, wrap_id, ge_iff_le, gt_iff_lt, beq_iff_eq, bne_iff_ne, decide_eq_true_eq, decide_eq_false_iff_not, ints_get, ints_set, ints_length, ints_append, ints_replicate, ri_eq, List.length_cons, List.length_nil, List.all_cons, List.all_nil, List.cons_append, List.nil_append, List.append_nil, Value.oneCell', Bool.and_self, Bool.true_and, Bool.and_true, Bool.not_true, Bool.not_false, and_self, implies_true, true_implies, false_implies, forall_const, false_and, and_false, IntKind.bits, Bool.true_eq_false, Bool.false_eq_true, not_true_eq_false, not_false_eq_true, Option.map_some, Option.map_none, Option.isNone_some, Option.isNone_none, Option.isSome_some, Option.isSome_none, Nat.sub_zero, Nat.zero_mul, List.drop_zero, Bool.false_and, Bool.and_false, Nat.sub_self, List.replicate_one, List.set_cons_zero, List.set_cons_succ, ints_take_self, ints_snoc, decide_true, decide_false, List.take_succ_cons, List.take_zero, List.take_nil, List.drop_succ_cons, List.drop_nil, List.replicate_zero, List.getElem?_cons_zero, List.getElem?_cons_succ, tbf, fbt, tbt, fbf]
      refine ⟨k + 1, ⟨by omega, fun i hi => ?_⟩, by omega, Wk.of (by simp only [go_sem, ↓List.forall_mem_cons, List.not_mem_nil, false_implies, implies_true, and_true, true_and, and_self, Nat.reduceEqDiff, reduceIte, ↓reduceIte, ri_eq, Int.natCast_add, Int.cast_ofNat_Int]; try simp) rfl⟩
      rcases Nat.lt_succ_iff_lt_or_eq.mp hi with h | rfl
      · exact hkk i h
      · exact fun e => he e.symm
  · simp (disch := omega) only [Try.ntmps31, Try.results31, go_sem, List.map_cons, List.map_nil, true_and, and_true, Nat.reduceLT, Nat.reduceLeDiff, Nat.reduceEqDiff, Nat.reduceAdd, Nat.reduceSub, Nat.reduceMul, reduceIte, ↓reduceIte, reduceCtorEq, if_pos, if_neg, decide_eq_true, decide_eq_false, ibeq_t, ibeq_f, ibne_t, ibne_f, Int.toNat_natCast, Int.reduceToNat, Int.reduceLE, Int.reduceLT, Int.reduceNeg, Int.reduceSub, Int.reduceAdd, Int.reduceMul, Nat.mul_one, Nat.zero_add, Nat.add_zero, wrap_id, ge_iff_le, gt_iff_lt, beq_iff_eq, bne_iff_ne, decide_eq_true_eq, decide_eq_false_iff_not, ints_get, ints_set, ints_length, ints_append, ints_replicate, ri_eq, List.length_cons, List.length_nil, List.all_cons, List.all_nil, List.cons_append, List.nil_append, List.append_nil, Value.oneCell', Bool.and_self, Bool.true_and, Bool.and_true, Bool.not_true, Bool.not_false, and_self, implies_true, true_implies, false_implies, forall_const, false_and, and_false, IntKind.bits, Bool.true_eq_false, Bool.false_eq_true, not_true_eq_false, not_false_eq_true, Option.map_some, Option.map_none, Option.isNone_some, Option.isNone_none, Option.isSome_some, Option.isSome_none, Nat.sub_zero, Nat.zero_mul, List.drop_zero, Bool.false_and, Bool.and_false, Nat.sub_self, List.replicate_one, List.set_cons_zero, List.set_cons_succ, ints_take_self, ints_snoc, decide_true, decide_false, List.take_succ_cons, List.take_zero, List.take_nil, List.drop_succ_cons, List.drop_nil, List.replicate_zero, List.getElem?_cons_zero, List.getElem?_cons_succ, tbf, fbt, tbt, fbf]
    exact Fin.val (by rw [idx_none (fun i hi => hkk i (by omega))])

def okO (n : Int) : List Int → List Int → Bool
  | _, [] => true
  | s, x :: l => inR x 0 (n - 1) && (!s.contains x && okO n (s ++ [x]) l)
def isOrd (n : Int) (L : List Int) : Bool := inR n 1 8 && (decide ((L.length : Int) = n) && okO n [] L)
theorem okO_step {n : Int} {L : List Int} {k : Nat} (h : k < L.length) : okO n (L.take k) (L.drop k) = (inR (L.getD k 0) 0 (n - 1) && (!(L.take k).contains (L.getD k 0) && okO n (L.take (k + 1)) (L.drop (k + 1)))) := by
  rw [drop_cons h, okO, List.take_succ_eq_append_getElem h]; simp [h]

end Go.Sh
