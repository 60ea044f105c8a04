/-
  Contracts: clusterings, copied and compared; lists compared.
-/
import Derived.Test.YtjgplijipbnjcaaD2
import Derived.Test.YtjgplijipbnjcaaLift
namespace Go.Sh
set_option linter.unusedSimpArgs false
set_option linter.unusedVariables false
open Go Go.Proofs

theorem Try.szIntS_ok (L : List Int) (l : Int) (hC : L.length ≤ 9223372036854775807) (h0 : 0 ≤ l) (h1 : l ≤ 1048576) : PCall Try.prog 65 [ri L, .val (.int .i64 l)] (.val (.int .i64 (if l < L.length then -1 else l - L.length))) := by
  refine FCall.pcall (R := fun r _ => r = .val (.int .i64 (if l < L.length then -1 else l - L.length))) ?_ 0 (by rintro r H rfl; exact view_int)
  refine FCall.of_body Try.func65 rfl (by kernel_rfl) (by simp [Try.ntmps65]) ?_
  refine SW_of_vc Try.mixed _ _ _ (by kernel_rfl) ?_
  by_cases hl : l < L.length
  · simp (disch := omega) only [Try.ntmps65, Try.results65, go_sem, List.map_cons, List.map_nil, true_and, and_true, Nat.reduceLT, Nat.reduceLeDiff, Nat.reduceEqDiff, Nat.reduceAdd, Nat.reduceSub, Nat.reduceMul, reduceIte, ↓reduceIte, reduceCtorEq, if_pos, if_neg, decide_eq_true, decide_eq_false, ibeq_t, ibeq_f, ibne_t, ibne_f, Int.toNat_natCast, Int.reduceToNat, Int.reduceLE, Int.reduceLT, Int.reduceNeg, Int.reduceSub, Int.reduceAdd, Int.reduceMul, Nat.mul_one, Nat.zero_add, Nat.add_zero, wrap_id, ge_iff_le, gt_iff_lt, beq_iff_eq, bne_iff_ne, decide_eq_true_eq, decide_eq_false_iff_not, ints_get, ints_set, ints_length, ints_append, ints_replicate, ri_eq, List.length_cons, List.length_nil, List.all_cons, List.all_nil, List.cons_append, List.nil_append, List.append_nil, Value.oneCell', Bool.and_self, Bool.true_and, Bool.and_true, Bool.not_true, Bool.not_false, and_self, implies_true, true_implies, false_implies, forall_const, false_and, and_false, IntKind.bits, Bool.true_eq_false, Bool.false_eq_true, not_true_eq_false, not_false_eq_true, Option.map_some, Option.map_none, Option.isNone_some, Option.isNone_none, Option.isSome_some, Option.isSome_none, Nat.sub_zero, Nat.zero_mul, List.drop_zero, Bool.false_and, Bool.and_false, Nat.sub_self, List.replicate_one, List.set_cons_zero, List.set_cons_succ, ints_take_self, ints_snoc, decide_true, decide_false, List.take_succ_cons, List.take_zero, List.take_nil, List.drop_succ_cons, List.drop_nil, List.replicate_zero, List.getElem?_cons_zero, List.getElem?_cons_succ, tbf, fbt, tbt, fbf]
    exact Fin.val rfl
  · simp (disch := omega) only [Try.ntmps65, Try.results65, go_sem, List.map_cons, List.map_nil, true_and, and_true, Nat.reduceLT, Nat.reduceLeDiff, Nat.reduceEqDiff, Nat.reduceAdd, Nat.reduceSub, Nat.reduceMul, reduceIte, ↓reduceIte, reduceCtorEq, if_pos, if_neg, decide_eq_true, decide_eq_false, ibeq_t, ibeq_f, ibne_t, ibne_f, Int.toNat_natCast, Int.reduceToNat, Int.reduceLE, Int.reduceLT, Int.reduceNeg, Int.reduceSub, Int.reduceAdd, Int.reduceMul, Nat.mul_one, Nat.zero_add, Nat.add_zero, wrap_id, ge_iff_le, gt_iff_lt, beq_iff_eq, bne_iff_ne, decide_eq_true_eq, decide_eq_false_iff_not, ints_get, ints_set, ints_length, ints_append, ints_replicate, ri_eq, List.length_cons, List.length_nil, List.all_cons, List.all_nil, List.cons_append, List.nil_append, List.append_nil, Value.oneCell', Bool.and_self, Bool.true_and, Bool.and_true, Bool.not_true, Bool.not_false, and_self, implies_true, true_implies, false_implies, forall_const, false_and, and_false, IntKind.bits, Bool.true_eq_false, Bool.false_eq_true, not_true_eq_false, not_false_eq_true, Option.map_some, Option.map_none, Option.isNone_some, Option.isNone_none, Option.isSome_some, Option.isSome_none, Nat.sub_zero, Nat.zero_mul, List.drop_zero, Bool.false_and, Bool.and_false, Nat.sub_self, List.replicate_one, List.set_cons_zero, List.set_cons_succ, ints_take_self, ints_snoc, decide_true, decide_false, List.take_succ_cons, List.take_zero, List.take_nil, List.drop_succ_cons, List.drop_nil, List.replicate_zero, List.getElem?_cons_zero, List.getElem?_cons_succ, tbf, fbt, tbt, fbf]
    exact Fin.val rfl

theorem view_clu {H : Heap} {f n : Nat} {ex : Bool} {L : List Int} {a g : Int} {e : Bool} (hn : n = L.length) : view H (f + 1) (.agg [.row n ex (ints L), .val (.int .i64 a), .val (.bool e), .val (.int .i64 g)]) = some (.agg [ri L, .val (.int .i64 a), .val (.bool e), .val (.int .i64 g)]) :=
  view_agg (viewL_cons_of (view_rowL hn) (viewL_cons_of view_int (viewL_cons_of view_bool (viewL_cons_of view_int viewL_nil_of))))

def ceq (L : List Int) (a : Int) (e : Bool) (g : Int) (L' : List Int) (a' : Int) (e' : Bool) (g' : Int) : Bool := decide (L = L' ∧ a = a' ∧ e = e' ∧ g = g')

end Go.Sh
