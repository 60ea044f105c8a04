/-
  Contracts: lists marked in place, and read back.
-/
import Derived.Test.YtehimkdkflnkbaaC3
namespace Go.Sh
set_option linter.unusedSimpArgs false
set_option linter.unusedVariables false
open Go Go.Proofs

/-- k, k+1, .. in the first i places. -/
def markTo (L : List Int) (k : Int) (i : Nat) : List Int := (List.range i).map (fun x : Nat => k + (x : Int)) ++ L.drop i
theorem markTo_zero (L : List Int) (k : Int) : markTo L k 0 = L := by simp [markTo]
theorem markTo_length {L : List Int} {k : Int} {i : Nat} (h : i ≤ L.length) : (markTo L k i).length = L.length := by simp [markTo]; omega
theorem markTo_set {L : List Int} {k : Int} {i : Nat} (h : i < L.length) : (markTo L k i).set i (k + (i : Int)) = markTo L k (i + 1) := by
  apply List.ext_getElem?
  intro x
  simp only [markTo, List.getElem?_set, List.getElem?_append, List.length_map, List.length_range, List.getElem?_map, List.getElem?_drop, List.length_append, List.length_drop]
  by_cases h1 : i = x
  · subst h1
    have : i < i + (L.length - i) := by omega
    simp [this]
  · by_cases h2 : x < i
    · have h3 : x < i + 1 := by omega
      simp [h1, h2, h3]
    · have h3 : ¬ x < i + 1 := by omega
      simp [h1, h2, h3]
      congr 1
      omega
def marks (n : Nat) (k : Int) : List Int := (List.range n).map fun x : Nat => k + (x : Int)
theorem markTo_all (L : List Int) (k : Int) : markTo L k L.length = marks L.length k := by simp [markTo, marks]
theorem marks_length (n : Nat) (k : Int) : (marks n k).length = n := by simp [marks]

set_option maxHeartbeats 1000000 in
theorem Try.markIntS_ok (L : List Int) (k : Int) (H : Heap) (b n cap : Nat) (ex e2 : Bool) (hb : H.map b = some ⟨ints L, e2⟩) (hn : n = L.length) (hL : L.length ≤ 1099511627776) (hk : 0 ≤ k) (hk2 : k ≤ 1099511627776) :
    CallS Try.prog 32 [.own b 0 n cap 1 ex, .val (.int .i64 k)] H (fun r H' => r = .val (.int .i64 (k + n)) ∧ H' = H.set b (some ⟨ints (marks n k), e2⟩)) := by
  subst hn
  refine CallS.of_body Try.func32 rfl (by kernel_rfl) (by simp [Try.ntmps32]) ?_
  refine SW_of_vc Try.mixed _ _ _ (by kernel_rfl) ?_
  simp (disch := omega) only [Try.ntmps32, Try.results32, go_sem, Nat.reduceLT, Nat.reduceLeDiff, Nat.reduceEqDiff, Nat.reduceAdd, Nat.reduceSub, Nat.reduceMul, reduceIte, ↓reduceIte, reduceCtorEq, Int.reduceToNat, Int.reduceLE, Int.reduceLT, Int.reduceNeg, Int.reduceSub, Int.reduceAdd, Int.reduceMul]
  refine LoopW.loop (fun i : Nat => ⟨ofL [(0, .own b 0 L.length cap 1 ex), (1, .val (.int .i64 (k + i))), (5, .val (.int .i64 i))], H.set b (some ⟨ints (markTo L k i), e2⟩)⟩) (fun i => i ≤ L.length) (fun i => L.length - i) 0 (by omega) (Wk.of (by simp only [go_sem, ↓List.forall_mem_cons, List.not_mem_nil, false_implies, implies_true, and_true, true_and, and_self, Nat.reduceEqDiff, reduceIte, ↓reduceIte, ri_eq, Int.natCast_add, Int.cast_ofNat_Int, Int.natCast_zero, Int.add_zero]; try simp) (by rw [markTo_zero, Heap.set_self hb])) ?_
  intro i hi
  have hml := markTo_length (k := k) hi
  refine SW_of_vc Try.mixed _ _ _ (by kernel_rfl) ?_
  by_cases hlt : i < L.length
  · simp (disch := omega) only [Try.ntmps32, Try.results32, go_sem, Nat.reduceLT, Nat.reduceLeDiff, Nat.reduceEqDiff, Nat.reduceAdd, Nat.reduceSub, Nat.reduceMul, reduceIte, ↓reduceIte, reduceCtorEq, Int.reduceToNat, Int.reduceLE, Int.reduceLT, Int.reduceNeg, Int.reduceSub, Int.reduceAdd, Int.reduceMul, Heap.set_at, hml, Heap.set_set, markTo_set]
    refine ⟨i + 1, by omega, by omega, Wk.of (by simp only [go_sem, ↓List.forall_mem_cons, List.not_mem_nil, false_implies, implies_true, and_true, true_and, and_self, Nat.reduceEqDiff, reduceIte, ↓reduceIte, ri_eq, Int.natCast_add, Int.cast_ofNat_Int, Int.add_assoc]; try simp) rfl⟩
  · obtain rfl : i = L.length := by omega
    simp (disch := omega) only [Try.ntmps32, Try.results32, go_sem, Nat.reduceLT, Nat.reduceLeDiff, Nat.reduceEqDiff, Nat.reduceAdd, Nat.reduceSub, Nat.reduceMul, reduceIte, ↓reduceIte, reduceCtorEq, Int.reduceToNat, Int.reduceLE, Int.reduceLT, Int.reduceNeg, Int.reduceSub, Int.reduceAdd, Int.reduceMul, Heap.set_at, hml, Heap.set_set, markTo_set, markTo_all]

def held (L : List Int) (k : Int) : Int := if L = marks L.length k then k + L.length else -1
set_option maxHeartbeats 1000000 in
theorem Try.heldIntS_ok (L : List Int) (k : Int) (hL : L.length ≤ 1099511627776) (hk : 0 ≤ k) (hk2 : k ≤ 1099511627776) : PCall Try.prog 33 [ri L, .val (.int .i64 k)] (.val (.int .i64 (held L k))) := by
  refine FCall.pcall (R := fun r _ => r = .val (.int .i64 (held L k))) ?_ 0 (by rintro r H rfl; simp [view, viewV])
  refine FCall.of_body Try.func33 rfl (by kernel_rfl) (by simp [Try.ntmps33]) ?_
  refine SW_of_vc Try.mixed _ _ _ (by kernel_rfl) ?_
  simp (disch := omega) only [Try.ntmps33, Try.results33, go_sem, Nat.reduceLT, Nat.reduceLeDiff, Nat.reduceEqDiff, Nat.reduceAdd, Nat.reduceSub, Nat.reduceMul, reduceIte, ↓reduceIte, reduceCtorEq, Int.reduceToNat, Int.reduceLE, Int.reduceLT, Int.reduceNeg, Int.reduceSub, Int.reduceAdd, Int.reduceMul]
  refine LoopW.loop (fun i : Nat => ⟨ofL [(0, ri L), (1, .val (.int .i64 (k + i))), (5, .val (.int .i64 i))], hp [] 0⟩) (fun i => i ≤ L.length ∧ ∀ x, x < i → L.getD x 0 = k + (x : Int)) (fun i => L.length - i) 0 ⟨by omega, by simp⟩ (Wk.of (by simp only [go_sem, ↓List.forall_mem_cons, List.not_mem_nil, false_implies, implies_true, and_true, true_and, and_self, Nat.reduceEqDiff, reduceIte, ↓reduceIte, ri_eq, Int.natCast_add, Int.cast_ofNat_Int, Int.natCast_zero, Int.add_zero]; try simp) rfl) ?_
  rintro i ⟨hi, hh⟩
  refine SW_of_vc Try.mixed _ _ _ (by kernel_rfl) ?_
  by_cases hlt : i < L.length
  · by_cases he : L.getD i 0 = k + i
    · simp (disch := omega) only [Try.ntmps33, Try.results33, go_sem, Nat.reduceLT, Nat.reduceLeDiff, Nat.reduceEqDiff, Nat.reduceAdd, Nat.reduceSub, Nat.reduceMul, reduceIte, ↓reduceIte, reduceCtorEq, Int.reduceToNat, Int.reduceLE, Int.reduceLT, Int.reduceNeg, Int.reduceSub, Int.reduceAdd, Int.reduceMul, he]
      refine ⟨i + 1, ⟨by omega, fun x hx => ?_⟩, by omega, Wk.of (by simp only [go_sem, ↓List.forall_mem_cons, List.not_mem_nil, false_implies, implies_true, and_true, true_and, and_self, Nat.reduceEqDiff, reduceIte, ↓reduceIte, ri_eq, Int.natCast_add, Int.cast_ofNat_Int, Int.add_assoc]; try simp) rfl⟩
      rcases Nat.lt_succ_iff_lt_or_eq.mp hx with h | rfl
      · exact hh x h
      · exact he
    · simp (disch := omega) only [Try.ntmps33, Try.results33, go_sem, Nat.reduceLT, Nat.reduceLeDiff, Nat.reduceEqDiff, Nat.reduceAdd, Nat.reduceSub, Nat.reduceMul, reduceIte, ↓reduceIte, reduceCtorEq, Int.reduceToNat, Int.reduceLE, Int.reduceLT, Int.reduceNeg, Int.reduceSub, Int.reduceAdd, Int.reduceMul]
      refine Fin.val ?_
      have : L ≠ marks L.length k := by
        intro e
        apply he
        rw [e]
        simp [marks, hlt]
      rw [held, if_neg this]
  · obtain rfl : i = L.length := by omega
    simp (disch := omega) only [Try.ntmps33, Try.results33, go_sem, Nat.reduceLT, Nat.reduceLeDiff, Nat.reduceEqDiff, Nat.reduceAdd, Nat.reduceSub, Nat.reduceMul, reduceIte, ↓reduceIte, reduceCtorEq, Int.reduceToNat, Int.reduceLE, Int.reduceLT, Int.reduceNeg, Int.reduceSub, Int.reduceAdd, Int.reduceMul]
    refine Fin.val ?_
    have : L = marks L.length k := by
      apply List.ext_getElem
      · simp [marks]
      · intro x h1 h2
        have := hh x h1
        simp [h1] at this
        simp [marks, this]
    rw [held, if_pos this]
theorem held_marks (n : Nat) (k : Int) : held (marks n k) k = k + n := by rw [held, marks_length, if_pos rfl]
theorem Try.markIntS_nil (k : Int) (H : Heap) (hk : 0 ≤ k) (hk2 : k ≤ 1099511627776) : CallS Try.prog 32 [.val (.slice none 0 0), .val (.int .i64 k)] H (fun r H' => r = .val (.int .i64 k) ∧ H' = H) := by
  refine CallS.of_body Try.func32 rfl (by kernel_rfl) (by simp [Try.ntmps32]) ?_
  refine SW_of_vc Try.mixed _ _ _ (by kernel_rfl) ?_
  simp (disch := omega) only [Try.ntmps32, Try.results32, go_sem, Nat.reduceLT, Nat.reduceLeDiff, Nat.reduceEqDiff, Nat.reduceAdd, Nat.reduceSub, Nat.reduceMul, reduceIte, ↓reduceIte, reduceCtorEq, Int.reduceToNat, Int.reduceLE, Int.reduceLT, Int.reduceNeg, Int.reduceSub, Int.reduceAdd, Int.reduceMul]
  refine LoopW.loop (fun _ : Unit => ⟨ofL [(0, .val (.slice none 0 0)), (1, .val (.int .i64 k)), (5, .val (.int .i64 0))], H⟩) (fun _ => True) (fun _ => 0) () trivial (Wk.of (by simp only [go_sem, ↓List.forall_mem_cons, List.not_mem_nil, false_implies, implies_true, and_true, true_and, and_self, Nat.reduceEqDiff, reduceIte, ↓reduceIte, ri_eq, Int.natCast_add, Int.cast_ofNat_Int]; try simp) rfl) ?_
  rintro _ _
  refine SW_of_vc Try.mixed _ _ _ (by kernel_rfl) ?_
  simp (disch := omega) only [Try.ntmps32, Try.results32, go_sem, Nat.reduceLT, Nat.reduceLeDiff, Nat.reduceEqDiff, Nat.reduceAdd, Nat.reduceSub, Nat.reduceMul, reduceIte, ↓reduceIte, reduceCtorEq, Int.reduceToNat, Int.reduceLE, Int.reduceLT, Int.reduceNeg, Int.reduceSub, Int.reduceAdd, Int.reduceMul]
theorem Try.toIntS_one (L : List Int) (hL : L.length ≤ 1048576) : FCall Try.prog 19 [ri L] (OneRes L.length 1 (ints L)) := ((Try.toIntS_f L hL).mono fun _ _ h => h.flat).one
end Go.Sh
