/-
  Contracts: clusterings, copied and compared; lists compared.
-/
import Derived.Test.YtehimkdkflnkbaaD2
import Derived.Test.YtehimkdkflnkbaaLift
namespace Go.Sh
set_option linter.unusedSimpArgs false
set_option linter.unusedVariables false
open Go Go.Proofs

theorem Try.szIntS_ok (L : List Int) (l : Int) (hC : L.length ≤ 9223372036854775807) (h0 : 0 ≤ l) (h1 : l ≤ 1048576) : PCall Try.prog 57 [ri L, .val (.int .i64 l)] (.val (.int .i64 (if l < L.length then -1 else l - L.length))) := by
  refine FCall.pcall (R := fun r _ => r = .val (.int .i64 (if l < L.length then -1 else l - L.length))) ?_ 0 (by rintro r H rfl; exact view_int)
  refine FCall.of_body Try.func57 rfl (by kernel_rfl) (by simp [Try.ntmps57]) ?_
  refine SW_of_vc Try.mixed _ _ _ (by kernel_rfl) ?_
  by_cases hl : l < L.length
  · simp (disch := omega) only [Try.ntmps57, Try.results57, go_sem, Nat.reduceLT, Nat.reduceLeDiff, Nat.reduceEqDiff, Nat.reduceAdd, Nat.reduceSub, Nat.reduceMul, reduceIte, ↓reduceIte, reduceCtorEq, Int.reduceToNat, Int.reduceLE, Int.reduceLT, Int.reduceNeg, Int.reduceSub, Int.reduceAdd, Int.reduceMul]
    exact Fin.val rfl
  · simp (disch := omega) only [Try.ntmps57, Try.results57, go_sem, Nat.reduceLT, Nat.reduceLeDiff, Nat.reduceEqDiff, Nat.reduceAdd, Nat.reduceSub, Nat.reduceMul, reduceIte, ↓reduceIte, reduceCtorEq, Int.reduceToNat, Int.reduceLE, Int.reduceLT, Int.reduceNeg, Int.reduceSub, Int.reduceAdd, Int.reduceMul]
    exact Fin.val rfl

theorem view_clu {H : Heap} {f n : Nat} {ex : Bool} {L : List Int} {a g : Int} {e : Bool} (hn : n = L.length) : view H (f + 1) (.agg [.row n ex (ints L), .val (.int .i64 a), .val (.bool e), .val (.int .i64 g)]) = some (.agg [ri L, .val (.int .i64 a), .val (.bool e), .val (.int .i64 g)]) :=
  view_agg (viewL_cons_of (view_rowL hn) (viewL_cons_of view_int (viewL_cons_of view_bool (viewL_cons_of view_int viewL_nil_of))))

def ceq (L : List Int) (a : Int) (e : Bool) (g : Int) (L' : List Int) (a' : Int) (e' : Bool) (g' : Int) : Bool := decide (L = L' ∧ a = a' ∧ e = e' ∧ g = g')

end Go.Sh
