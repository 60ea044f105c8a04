/-
  Two moves are the same.
-/
import Derived.Test.YtehimkdkflnkbaaAC3
namespace Go.Sh
set_option linter.unusedSimpArgs false
set_option linter.unusedVariables false
open Go Go.Proofs

theorem view_mvA {H : Heap} {f : Nat} {a b c : Int} : view H (f + 1) (.agg [.val (.int .i64 a), .val (.int .i64 b), .val (.int .i64 c)]) = some (.agg [.val (.int .i64 a), .val (.int .i64 b), .val (.int .i64 c)]) :=
  view_agg (viewL_cons_of view_int (viewL_cons_of view_int (viewL_cons_of view_int viewL_nil_of)))
theorem Try.eqMove_ok (a b c : Int) : PCall Try.prog 48 [.agg [.val (.int .i64 a), .val (.int .i64 b), .val (.int .i64 c)], .agg [.val (.int .i64 a), .val (.int .i64 b), .val (.int .i64 c)]] (.val (.bool true)) := by
  refine FCall.pcall (R := fun r _ => r = .val (.bool true)) ?_ 0 (by rintro r H rfl; exact view_bool)
  refine FCall.of_body Try.func48 rfl (by kernel_rfl) (by simp [Try.ntmps48]) ?_
  refine SW_of_vc Try.mixed _ _ _ (by kernel_rfl) ?_
  simp (disch := omega) only [Try.ntmps48, Try.results48, go_sem, Nat.reduceLT, Nat.reduceLeDiff, Nat.reduceEqDiff, Nat.reduceAdd, Nat.reduceSub, Nat.reduceMul, reduceIte, ↓reduceIte, reduceCtorEq, Int.reduceToNat, Int.reduceLE, Int.reduceLT, Int.reduceNeg, Int.reduceSub, Int.reduceAdd, Int.reduceMul]
  exact Fin.val rfl
end Go.Sh
