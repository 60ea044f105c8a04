/-
  Best moves again and again, at an empty list that is not nil.
-/
import Derived.Test.YtehimkdkflnkbaaAC6
import Derived.Test.YtehimkdkflnkbaaN5
import Derived.Test.YtehimkdkflnkbaaR2
namespace Go.Sh
set_option linter.unusedSimpArgs false
set_option linter.unusedVariables false
open Go Go.Proofs

set_option maxHeartbeats 2000000 in
theorem Try.implIm_0 (M : List (List Int)) (C : List Con) (hM : M.length ≤ 1048576) (hR : ∀ i, i < M.length → (mrow M i).length ≤ 1048576) (hC : C.length ≤ 1048576) (H : Heap) (sM sC : SV) (b cap : Nat) (ex e2 : Bool) (hb : H.map b = some ⟨ints [], e2⟩) (hbn : b ≠ H.nb)
    (hv : viewL (H.push ⟨[], false⟩) 2 [sM, sC, .own H.nb 0 0 0 1 false] = some [rr M, rc C, ri []]) :
    CallS Try.prog 50 [sM, sC, .own b 0 0 cap 1 ex] H (fun r H' => r = .tup [.own H.nb 0 0 0 1 false, .val (.int .i64 0)] ∧ H' = (H.push ⟨[], false⟩).push ⟨mvS (0, 0, 0), true⟩) := by
  have w1 := Try.implBM_ok M C [] hM hR hC (by simp)
  rw [bmv_nil] at w1
  have p1 : ∀ (G : Heap) (k : Blk), (G.push k).map G.nb = some k := fun G k => by simp [Heap.push]
  have p2 : ∀ (G : Heap) (k k2 : Blk), (G.push k).set G.nb (some k2) = G.push k2 := fun G k k2 => by
    refine Heap.ext' (fun x => ?_) rfl
    simp only [Heap.push, Heap.set]
    split <;> rfl
  refine CallS.of_body Try.func50 rfl (by kernel_rfl) (by simp [Try.ntmps50]) ?_
  refine SW_of_vc Try.mixed _ _ _ (by kernel_rfl) ?_
  simp (disch := omega) only [Try.ntmps50, Try.results50, go_sem, Nat.reduceLT, Nat.reduceLeDiff, Nat.reduceEqDiff, Nat.reduceAdd, Nat.reduceSub, Nat.reduceMul, reduceIte, ↓reduceIte, reduceCtorEq, Int.reduceToNat, Int.reduceLE, Int.reduceLT, Int.reduceNeg, Int.reduceSub, Int.reduceAdd, Int.reduceMul]
  refine (Try.clone_0 H b cap ex e2 hb hbn).callDet ?_
  simp (disch := omega) only [Try.ntmps50, Try.results50, go_sem, Nat.reduceLT, Nat.reduceLeDiff, Nat.reduceEqDiff, Nat.reduceAdd, Nat.reduceSub, Nat.reduceMul, reduceIte, ↓reduceIte, reduceCtorEq, Int.reduceToNat, Int.reduceLE, Int.reduceLT, Int.reduceNeg, Int.reduceSub, Int.reduceAdd, Int.reduceMul]
  refine LoopW.loop (fun _ : Unit => ⟨ofL [(0, sM), (1, sC), (2, .own b 0 0 cap 1 ex), (8, .own H.nb 0 0 0 1 false), (14, .val (.int .i64 0))], H.push ⟨[], false⟩⟩) (fun _ => True) (fun _ => 0) () trivial (Wk.of (by simp only [go_sem, ↓List.forall_mem_cons, List.not_mem_nil, false_implies, implies_true, and_true, true_and, and_self, Nat.reduceEqDiff, reduceIte, ↓reduceIte, ri_eq, Int.natCast_add, Int.cast_ofNat_Int]; try simp) rfl) ?_
  rintro _ _
  refine SW_of_vc Try.mixed _ _ _ (by kernel_rfl) ?_
  simp (disch := omega) only [Try.ntmps50, Try.results50, go_sem, Nat.reduceLT, Nat.reduceLeDiff, Nat.reduceEqDiff, Nat.reduceAdd, Nat.reduceSub, Nat.reduceMul, reduceIte, ↓reduceIte, reduceCtorEq, Int.reduceToNat, Int.reduceLE, Int.reduceLT, Int.reduceNeg, Int.reduceSub, Int.reduceAdd, Int.reduceMul]
  refine w1.callV 2 hv ?_
  simp (disch := omega) only [Try.ntmps50, Try.results50, go_sem, Nat.reduceLT, Nat.reduceLeDiff, Nat.reduceEqDiff, Nat.reduceAdd, Nat.reduceSub, Nat.reduceMul, reduceIte, ↓reduceIte, reduceCtorEq, Int.reduceToNat, Int.reduceLE, Int.reduceLT, Int.reduceNeg, Int.reduceSub, Int.reduceAdd, Int.reduceMul, mvS, p1, p2]
theorem view_tupI {L : List Int} {n : Nat} {u : Int} {r r0 : SV} {H : Heap} (h : r = .tup [r0, .val (.int .i64 u)]) (hf : FlatRes n 1 (ints L) r0 H) : view H 3 r = some (.tup [ri L, .val (.int .i64 u)]) := by
  subst h
  have h1 : viewL H 2 [r0, .val (.int .i64 u)] = some [ri L, .val (.int .i64 u)] := viewL_cons_of (flat_view hf) (viewL_cons_of view_int viewL_nil_of)
  simp only [view, h1]
theorem Try.specIm_ok (M : List (List Int)) (C : List Con) (L : List Int) (hM : M.length ≤ 1048576) (hR : ∀ i, i < M.length → (mrow M i).length ≤ 1048576) (hC : C.length ≤ 1048576) (hL : L.length ≤ 1048576) :
    PCall Try.prog 49 [rr M, rc C, ri L] (.tup [ri (im M C 100 L 0).1, .val (.int .i64 (im M C 100 L 0).2)]) :=
  (Try.specIm_f M C L hM hR hC hL).pcall 3 (fun r H ⟨r0, h1, h2⟩ => view_tupI h1 h2)
theorem Try.implIm_ok (M : List (List Int)) (C : List Con) (L : List Int) (hM : M.length ≤ 1048576) (hR : ∀ i, i < M.length → (mrow M i).length ≤ 1048576) (hC : C.length ≤ 1048576) (hL : L.length ≤ 1048576) (h0 : 0 < L.length) :
    PCall Try.prog 50 [rr M, rc C, ri L] (.tup [ri (im M C 100 L 0).1, .val (.int .i64 (im M C 100 L 0).2)]) :=
  (Try.implIm_f M C L hM hR hC hL h0).pcall 3 (fun r H ⟨r0, h1, h2⟩ => view_tupI h1 h2)
theorem Try.implIm_o (M : List (List Int)) (C : List Con) (L : List Int) (hM : M.length ≤ 1048576) (hR : ∀ i, i < M.length → (mrow M i).length ≤ 1048576) (hC : C.length ≤ 1048576) (hL : L.length ≤ 1048576) (h0 : 0 < L.length) :
    FCall Try.prog 50 [rr M, rc C, ri L] (fun r H => r = .tup [.own 0 0 L.length L.length 1 false, .val (.int .i64 (im M C 100 L 0).2)] ∧ H = Heap.one ⟨ints (im M C 100 L 0).1, false⟩) :=
  (Try.implIm_f M C L hM hR hC hL h0).oneT
end Go.Sh
