/-
  Contracts: is a list of numbers a partition? Of the reference and of the program.
-/
import Derived.Test.YtehimkdkflnkbaaC1
namespace Go.Sh
set_option linter.unusedSimpArgs false
set_option linter.unusedVariables false
open Go Go.Proofs

theorem callP {P : Program} {f : FuncId} {args : List SV} {H : Heap} {T : SV} {K : SV → Heap → Prop} (h : CallS P f args H (fun r H' => r = T ∧ H' = H)) (k : K T H) : @CallX P f args H ⟨K⟩ :=
  h.mono (fun r H' ⟨e1, e2⟩ => by rw [e1, e2]; exact k)
theorem callD {P : Program} {f : FuncId} {args : List SV} {H : Heap} {T : SV} {K : SV → Heap → Prop} (h : CallS P f args H (fun r H' => r = T ∧ H' = H)) (k : K T H) : @CallD P f args H ⟨K⟩ :=
  ⟨T, h, k⟩

theorem PCall.call {P : Program} {f : FuncId} {args : List SV} {H : Heap} {T : SV} {K : SV → Heap → Prop} (h : PCall P f args T) (hv : viewL H 0 args = some args) (k : K T H) : @CallX P f args H ⟨K⟩ := callP (h.callS 0 hv) k
theorem PCall.callD {P : Program} {f : FuncId} {args : List SV} {H : Heap} {T : SV} {K : SV → Heap → Prop} (h : PCall P f args T) (hv : viewL H 0 args = some args) (k : K T H) : @CallD P f args H ⟨K⟩ := Sh.callD (h.callS 0 hv) k

def okP : Int → List Int → Bool
  | _, [] => true
  | nx, x :: l => inR x 0 nx && okP (max nx (x + 1)) l
def isPart (L : List Int) : Bool := okP 0 L && inR L.length 1 8

theorem drop_cons {L : List Int} {k : Nat} (h : k < L.length) : L.drop k = L.getD k 0 :: L.drop (k + 1) := by
  rw [List.drop_eq_getElem_cons h]; simp [h]
theorem okP_step {L : List Int} {k : Nat} {nx : Int} (h : k < L.length) : okP nx (L.drop k) = (inR (L.getD k 0) 0 nx && okP (max nx (L.getD k 0 + 1)) (L.drop (k + 1))) := by
  rw [drop_cons h, okP]
theorem inR_of {x a b : Int} (h : inR x a b = true) : a ≤ x ∧ x ≤ b := by simpa [inR] using h

set_option maxHeartbeats 1000000 in
theorem Try.specIsPartition_ok (L : List Int) (hL : L.length ≤ 1048576) : PCall Try.prog 109 [ri L] (.val (.bool (isPart L))) := by
  refine FCall.pcall (R := fun r _ => r = .val (.bool (isPart L))) ?_ 0 (by rintro r H rfl; simp [view, viewV])
  refine FCall.of_body Try.func109 rfl (by kernel_rfl) (by simp [Try.ntmps109]) ?_
  refine SW_of_vc Try.mixed _ _ _ (by kernel_rfl) ?_
  simp (disch := omega) only [Try.ntmps109, Try.results109, go_sem, Nat.reduceLT, Nat.reduceLeDiff, Nat.reduceEqDiff, Nat.reduceAdd, Nat.reduceSub, Nat.reduceMul, reduceIte, ↓reduceIte, reduceCtorEq, Int.reduceToNat, Int.reduceLE, Int.reduceLT, Int.reduceNeg, Int.reduceSub, Int.reduceAdd, Int.reduceMul]
  refine LoopW.loop (fun p : Nat × Int => ⟨ofL [(0, ri L), (3, .val (.int .i64 (p.2 - 1))), (4, .val (.int .i64 p.1))], hp [] 0⟩) (fun p => p.1 ≤ L.length ∧ 0 ≤ p.2 ∧ p.2 ≤ p.1 ∧ okP 0 L = okP p.2 (L.drop p.1)) (fun p => L.length - p.1) (0, 0) ⟨by simp, by simp, by simp, by simp⟩ (Wk.of (by simp only [go_sem, ↓List.forall_mem_cons, List.not_mem_nil, false_implies, implies_true, and_true, true_and, and_self, Nat.reduceEqDiff, reduceIte, ↓reduceIte, ri_eq, Int.natCast_add, Int.cast_ofNat_Int]; try simp) rfl) ?_
  rintro ⟨k, nx⟩ ⟨hk, h0, h1, h2⟩
  simp only at hk h0 h1 h2
  refine SW_of_vc Try.mixed _ _ _ (by kernel_rfl) ?_
  by_cases hlt : k < L.length
  · cases hin : inR (L.getD k 0) 0 nx with
    | true =>
      obtain ⟨i1, i2⟩ := inR_of hin
      simp (disch := omega) only [Try.ntmps109, Try.results109, go_sem, Nat.reduceLT, Nat.reduceLeDiff, Nat.reduceEqDiff, Nat.reduceAdd, Nat.reduceSub, Nat.reduceMul, reduceIte, ↓reduceIte, reduceCtorEq, Int.reduceToNat, Int.reduceLE, Int.reduceLT, Int.reduceNeg, Int.reduceSub, Int.reduceAdd, Int.reduceMul, Int.sub_add_cancel]
      refine (Try.l1In_ok _ _ _).call (by simp [viewL, view, viewV]) ?_
      by_cases hm : nx - 1 < L.getD k 0
      · simp (disch := omega) only [Try.ntmps109, Try.results109, go_sem, Nat.reduceLT, Nat.reduceLeDiff, Nat.reduceEqDiff, Nat.reduceAdd, Nat.reduceSub, Nat.reduceMul, reduceIte, ↓reduceIte, reduceCtorEq, Int.reduceToNat, Int.reduceLE, Int.reduceLT, Int.reduceNeg, Int.reduceSub, Int.reduceAdd, Int.reduceMul, Int.sub_add_cancel, hin]
        refine ⟨(k + 1, L.getD k 0 + 1), ⟨by show k + 1 ≤ _; omega, by show 0 ≤ L.getD k 0 + 1; omega, by show L.getD k 0 + 1 ≤ ((k + 1 : Nat) : Int); omega, ?_⟩, by show L.length - (k + 1) < L.length - k; omega, Wk.of (by simp only [go_sem, ↓List.forall_mem_cons, List.not_mem_nil, false_implies, implies_true, and_true, true_and, and_self, Nat.reduceEqDiff, reduceIte, ↓reduceIte, ri_eq, Int.natCast_add, Int.cast_ofNat_Int]; try simp) rfl⟩
        rw [h2, okP_step hlt, hin, Int.max_eq_right (by omega)]; rfl
      · simp (disch := omega) only [Try.ntmps109, Try.results109, go_sem, Nat.reduceLT, Nat.reduceLeDiff, Nat.reduceEqDiff, Nat.reduceAdd, Nat.reduceSub, Nat.reduceMul, reduceIte, ↓reduceIte, reduceCtorEq, Int.reduceToNat, Int.reduceLE, Int.reduceLT, Int.reduceNeg, Int.reduceSub, Int.reduceAdd, Int.reduceMul, Int.sub_add_cancel, hin]
        refine ⟨(k + 1, nx), ⟨by show k + 1 ≤ _; omega, h0, by show nx ≤ ((k + 1 : Nat) : Int); omega, ?_⟩, by show L.length - (k + 1) < L.length - k; omega, Wk.of (by simp only [go_sem, ↓List.forall_mem_cons, List.not_mem_nil, false_implies, implies_true, and_true, true_and, and_self, Nat.reduceEqDiff, reduceIte, ↓reduceIte, ri_eq, Int.natCast_add, Int.cast_ofNat_Int]; try simp) rfl⟩
        rw [h2, okP_step hlt, hin, Int.max_eq_left (by omega)]; rfl
    | false =>
      simp (disch := omega) only [Try.ntmps109, Try.results109, go_sem, Nat.reduceLT, Nat.reduceLeDiff, Nat.reduceEqDiff, Nat.reduceAdd, Nat.reduceSub, Nat.reduceMul, reduceIte, ↓reduceIte, reduceCtorEq, Int.reduceToNat, Int.reduceLE, Int.reduceLT, Int.reduceNeg, Int.reduceSub, Int.reduceAdd, Int.reduceMul, Int.sub_add_cancel]
      refine (Try.l1In_ok _ _ _).call (by simp [viewL, view, viewV]) ?_
      simp (disch := omega) only [Try.ntmps109, Try.results109, go_sem, Nat.reduceLT, Nat.reduceLeDiff, Nat.reduceEqDiff, Nat.reduceAdd, Nat.reduceSub, Nat.reduceMul, reduceIte, ↓reduceIte, reduceCtorEq, Int.reduceToNat, Int.reduceLE, Int.reduceLT, Int.reduceNeg, Int.reduceSub, Int.reduceAdd, Int.reduceMul, Int.sub_add_cancel, hin]
      refine Fin.val ?_
      rw [isPart, h2, okP_step hlt, hin]; rfl
  · simp (disch := omega) only [Try.ntmps109, Try.results109, go_sem, Nat.reduceLT, Nat.reduceLeDiff, Nat.reduceEqDiff, Nat.reduceAdd, Nat.reduceSub, Nat.reduceMul, reduceIte, ↓reduceIte, reduceCtorEq, Int.reduceToNat, Int.reduceLE, Int.reduceLT, Int.reduceNeg, Int.reduceSub, Int.reduceAdd, Int.reduceMul, Int.sub_add_cancel]
    refine (Try.l1In_ok _ _ _).call (by simp [viewL, view, viewV]) ?_
    simp (disch := omega) only [Try.ntmps109, Try.results109, go_sem, Nat.reduceLT, Nat.reduceLeDiff, Nat.reduceEqDiff, Nat.reduceAdd, Nat.reduceSub, Nat.reduceMul, reduceIte, ↓reduceIte, reduceCtorEq, Int.reduceToNat, Int.reduceLE, Int.reduceLT, Int.reduceNeg, Int.reduceSub, Int.reduceAdd, Int.reduceMul]
    refine Fin.val ?_
    rw [isPart, h2, List.drop_eq_nil_of_le (by omega)]; simp [okP]

set_option maxHeartbeats 1000000 in
theorem Try.implIsPartition_ok (L : List Int) (hL : L.length ≤ 1048576) : PCall Try.prog 111 [ri L] (.val (.bool (isPart L))) := by
  refine FCall.pcall (R := fun r _ => r = .val (.bool (isPart L))) ?_ 0 (by rintro r H rfl; simp [view, viewV])
  refine FCall.of_body Try.func111 rfl (by kernel_rfl) (by simp [Try.ntmps111]) ?_
  refine SW_of_vc Try.mixed _ _ _ (by kernel_rfl) ?_
  simp (disch := omega) only [Try.ntmps111, Try.results111, go_sem, Nat.reduceLT, Nat.reduceLeDiff, Nat.reduceEqDiff, Nat.reduceAdd, Nat.reduceSub, Nat.reduceMul, reduceIte, ↓reduceIte, reduceCtorEq, Int.reduceToNat, Int.reduceLE, Int.reduceLT, Int.reduceNeg, Int.reduceSub, Int.reduceAdd, Int.reduceMul]
  refine LoopW.loop (fun p : Nat × Int => ⟨ofL [(0, ri L), (3, .val (.int .i64 p.2)), (6, ri L), (7, .val (.int .i64 L.length)), (8, .val (.int .i64 p.1))], hp [] 0⟩) (fun p => p.1 ≤ L.length ∧ 0 ≤ p.2 ∧ p.2 ≤ p.1 ∧ okP 0 L = okP p.2 (L.drop p.1)) (fun p => L.length - p.1) (0, 0) ⟨by simp, by simp, by simp, by simp⟩ (Wk.of (by simp only [go_sem, ↓List.forall_mem_cons, List.not_mem_nil, false_implies, implies_true, and_true, true_and, and_self, Nat.reduceEqDiff, reduceIte, ↓reduceIte, ri_eq, Int.natCast_add, Int.cast_ofNat_Int]; try simp) rfl) ?_
  rintro ⟨k, nx⟩ ⟨hk, h0, h1, h2⟩
  simp only at hk h0 h1 h2
  refine SW_of_vc Try.mixed _ _ _ (by kernel_rfl) ?_
  by_cases hlt : k < L.length
  · cases hin : inR (L.getD k 0) 0 nx with
    | true =>
      obtain ⟨i1, i2⟩ := inR_of hin
      simp (disch := omega) only [Try.ntmps111, Try.results111, go_sem, Nat.reduceLT, Nat.reduceLeDiff, Nat.reduceEqDiff, Nat.reduceAdd, Nat.reduceSub, Nat.reduceMul, reduceIte, ↓reduceIte, reduceCtorEq, Int.reduceToNat, Int.reduceLE, Int.reduceLT, Int.reduceNeg, Int.reduceSub, Int.reduceAdd, Int.reduceMul]
      refine (Try.within_ok _ _ _).call (by simp [viewL, view, viewV]) ?_
      by_cases hm : nx < L.getD k 0 + 1
      · simp (disch := omega) only [Try.ntmps111, Try.results111, go_sem, Nat.reduceLT, Nat.reduceLeDiff, Nat.reduceEqDiff, Nat.reduceAdd, Nat.reduceSub, Nat.reduceMul, reduceIte, ↓reduceIte, reduceCtorEq, Int.reduceToNat, Int.reduceLE, Int.reduceLT, Int.reduceNeg, Int.reduceSub, Int.reduceAdd, Int.reduceMul, hin]
        refine ⟨(k + 1, L.getD k 0 + 1), ⟨by show k + 1 ≤ _; omega, by show 0 ≤ L.getD k 0 + 1; omega, by show L.getD k 0 + 1 ≤ ((k + 1 : Nat) : Int); omega, ?_⟩, by show L.length - (k + 1) < L.length - k; omega, Wk.of (by simp only [go_sem, ↓List.forall_mem_cons, List.not_mem_nil, false_implies, implies_true, and_true, true_and, and_self, Nat.reduceEqDiff, reduceIte, ↓reduceIte, ri_eq, Int.natCast_add, Int.cast_ofNat_Int]; try simp) rfl⟩
        rw [h2, okP_step hlt, hin, Int.max_eq_right (by omega)]; rfl
      · simp (disch := omega) only [Try.ntmps111, Try.results111, go_sem, Nat.reduceLT, Nat.reduceLeDiff, Nat.reduceEqDiff, Nat.reduceAdd, Nat.reduceSub, Nat.reduceMul, reduceIte, ↓reduceIte, reduceCtorEq, Int.reduceToNat, Int.reduceLE, Int.reduceLT, Int.reduceNeg, Int.reduceSub, Int.reduceAdd, Int.reduceMul, hin]
        refine ⟨(k + 1, nx), ⟨by show k + 1 ≤ _; omega, h0, by show nx ≤ ((k + 1 : Nat) : Int); omega, ?_⟩, by show L.length - (k + 1) < L.length - k; omega, Wk.of (by simp only [go_sem, ↓List.forall_mem_cons, List.not_mem_nil, false_implies, implies_true, and_true, true_and, and_self, Nat.reduceEqDiff, reduceIte, ↓reduceIte, ri_eq, Int.natCast_add, Int.cast_ofNat_Int]; try simp) rfl⟩
        rw [h2, okP_step hlt, hin, Int.max_eq_left (by omega)]; rfl
    | false =>
      simp (disch := omega) only [Try.ntmps111, Try.results111, go_sem, Nat.reduceLT, Nat.reduceLeDiff, Nat.reduceEqDiff, Nat.reduceAdd, Nat.reduceSub, Nat.reduceMul, reduceIte, ↓reduceIte, reduceCtorEq, Int.reduceToNat, Int.reduceLE, Int.reduceLT, Int.reduceNeg, Int.reduceSub, Int.reduceAdd, Int.reduceMul]
      refine (Try.within_ok _ _ _).call (by simp [viewL, view, viewV]) ?_
      simp (disch := omega) only [Try.ntmps111, Try.results111, go_sem, Nat.reduceLT, Nat.reduceLeDiff, Nat.reduceEqDiff, Nat.reduceAdd, Nat.reduceSub, Nat.reduceMul, reduceIte, ↓reduceIte, reduceCtorEq, Int.reduceToNat, Int.reduceLE, Int.reduceLT, Int.reduceNeg, Int.reduceSub, Int.reduceAdd, Int.reduceMul, hin]
      refine Fin.val ?_
      rw [isPart, h2, okP_step hlt, hin]; rfl
  · simp (disch := omega) only [Try.ntmps111, Try.results111, go_sem, Nat.reduceLT, Nat.reduceLeDiff, Nat.reduceEqDiff, Nat.reduceAdd, Nat.reduceSub, Nat.reduceMul, reduceIte, ↓reduceIte, reduceCtorEq, Int.reduceToNat, Int.reduceLE, Int.reduceLT, Int.reduceNeg, Int.reduceSub, Int.reduceAdd, Int.reduceMul]
    refine (Try.within_ok _ _ _).call (by simp [viewL, view, viewV]) ?_
    simp (disch := omega) only [Try.ntmps111, Try.results111, go_sem, Nat.reduceLT, Nat.reduceLeDiff, Nat.reduceEqDiff, Nat.reduceAdd, Nat.reduceSub, Nat.reduceMul, reduceIte, ↓reduceIte, reduceCtorEq, Int.reduceToNat, Int.reduceLE, Int.reduceLT, Int.reduceNeg, Int.reduceSub, Int.reduceAdd, Int.reduceMul]
    refine Fin.val ?_
    rw [isPart, h2, List.drop_eq_nil_of_le (by omega)]; simp [okP]

end Go.Sh
