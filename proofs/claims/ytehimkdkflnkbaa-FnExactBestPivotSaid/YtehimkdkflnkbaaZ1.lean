/-
  Contracts: a number repeated.
-/
import Derived.Test.YtehimkdkflnkbaaShL
import Derived.Test.YtehimkdkflnkbaaTy
import Derived.Test.YtehimkdkflnkbaaX1
namespace Go.Sh
set_option linter.unusedSimpArgs false
set_option linter.unusedVariables false
open Go Go.Proofs

theorem fin_tup2 {R : SV → Heap → Prop} {a b : Value} {H : Heap} (h : R (.tup [.val a, .val b]) ⟨fun _ => none, H.nb⟩) : Fin R (.tup [.val a, .val b]) H :=
  ⟨⟨fun _ => none, H.nb⟩, ⟨rfl, fun _ => .inl rfl⟩, by simp [noRow, noRowL], fun b blk hb => by simp at hb, h⟩
theorem view_tup2 {H : Heap} {f : Nat} {j k : IntKind} {a b : Int} : view H (f + 1) (.tup [.val (.int j a), .val (.int k b)]) = some (.tup [.val (.int j a), .val (.int k b)]) := by
  simp only [view, viewL, viewV]

set_option maxHeartbeats 4000000 in
theorem Try.mul64_ok (n : Nat) (h : n ≤ 8) : PCall Try.prog 147 [.val (.int .u64 1), .val (.int .u64 n)] (.tup [.val (.int .u64 0), .val (.int .u64 n)]) := by
  refine FCall.pcall (R := fun r _ => r = .tup [.val (.int .u64 0), .val (.int .u64 n)]) ?_ 1 (by rintro r H rfl; exact view_tup2)
  refine FCall.of_body Try.func147 rfl (by kernel_rfl) (by simp [Try.ntmps147]) ?_
  refine SW_of_vc Try.mixed _ _ _ (by kernel_rfl) ?_
  simp (disch := omega) only [Try.ntmps147, Try.results147, go_sem, Nat.reduceLT, Nat.reduceLeDiff, Nat.reduceEqDiff, Nat.reduceAdd, Nat.reduceSub, Nat.reduceMul, reduceIte, ↓reduceIte, reduceCtorEq, Int.reduceToNat, Int.reduceLE, Int.reduceLT, Int.reduceNeg, Int.reduceSub, Int.reduceAdd, Int.reduceMul]
  refine fin_tup2 ?_
  rcases (by omega : n = 0 ∨ n = 1 ∨ n = 2 ∨ n = 3 ∨ n = 4 ∨ n = 5 ∨ n = 6 ∨ n = 7 ∨ n = 8) with rfl | rfl | rfl | rfl | rfl | rfl | rfl | rfl | rfl
  all_goals kernel_rfl
set_option maxHeartbeats 4000000 in
theorem Try.bitsMul_ok (n : Nat) (h : n ≤ 8) : PCall Try.prog 133 [.val (.int .u64 1), .val (.int .u64 n)] (.tup [.val (.int .u64 0), .val (.int .u64 n)]) := by
  refine FCall.pcall (R := fun r _ => r = .tup [.val (.int .u64 0), .val (.int .u64 n)]) ?_ 1 (by rintro r H rfl; exact view_tup2)
  refine FCall.of_body Try.func133 rfl (by kernel_rfl) (by simp [Try.ntmps133]) ?_
  refine SW_of_vc Try.mixed _ _ _ (by kernel_rfl) ?_
  simp (disch := omega) only [Try.ntmps133, Try.results133, go_sem, Nat.reduceLT, Nat.reduceLeDiff, Nat.reduceEqDiff, Nat.reduceAdd, Nat.reduceSub, Nat.reduceMul, reduceIte, ↓reduceIte, reduceCtorEq, Int.reduceToNat, Int.reduceLE, Int.reduceLT, Int.reduceNeg, Int.reduceSub, Int.reduceAdd, Int.reduceMul]
  refine (Try.mul64_ok n h).callV 0 (viewL_cons_of (view_int) (viewL_cons_of (view_int) viewL_nil_of)) ?_
  simp (disch := omega) only [Try.ntmps133, Try.results133, go_sem, Nat.reduceLT, Nat.reduceLeDiff, Nat.reduceEqDiff, Nat.reduceAdd, Nat.reduceSub, Nat.reduceMul, reduceIte, ↓reduceIte, reduceCtorEq, Int.reduceToNat, Int.reduceLE, Int.reduceLT, Int.reduceNeg, Int.reduceSub, Int.reduceAdd, Int.reduceMul]
  exact fin_tup2 rfl

def repL (n c : Nat) (a : Int) : List Int := List.replicate c a ++ List.replicate (n - c) 0
theorem repL_length {n c : Nat} {a : Int} (h : c ≤ n) : (repL n c a).length = n := by simp [repL]; omega
theorem repL_zero (n : Nat) (a : Int) : repL n 0 a = List.replicate n 0 := by simp [repL]
theorem repL_all (n : Nat) (a : Int) : repL n n a = List.replicate n a := by simp [repL]
theorem repL_splice {n c m : Nat} {a : Int} (h : c + m ≤ n) : splice (ints (repL n c a)) c (ints (List.replicate m a)) = ints (repL n (c + m) a) := by
  have e1 : ints (repL n c a) = ints (List.replicate c a) ++ (ints (List.replicate m 0) ++ ints (List.replicate (n - c - m) 0)) := by
    rw [repL, ints_append, ints_append]
    congr 2
    have : n - c = m + (n - c - m) := by omega
    conv => lhs; rw [this]
    rw [← List.replicate_append_replicate]
  have e2 : c = (ints (List.replicate c a)).length + 0 := by simp [ints]
  rw [e1]
  conv => lhs; arg 2; rw [e2]
  rw [splice_app, splice_front _ _ _ (by simp [ints]), repL, ints_append, ints_append]
  congr 1
  rw [← List.replicate_append_replicate, List.append_assoc]
  congr 3; omega
theorem repL_take {n c m : Nat} {a : Int} (h : m ≤ c) : (repL n c a).take m = List.replicate m a := by
  rw [repL, List.take_append_of_le_length (by simpa using h), List.take_replicate]
  congr 1; omega

set_option maxHeartbeats 4000000 in
theorem Try.repeat_f (n : Nat) (a : Int) (h1 : 1 ≤ n) (h : n ≤ 8) : FCall Try.prog 95 [ri [a], .val (.int .i64 n)] (FlatRes n 1 (ints (List.replicate n a))) := by
  refine FCall.of_body Try.func95 rfl (by kernel_rfl) (by simp [Try.ntmps95]) ?_
  refine SW_of_vc Try.mixed _ _ _ (by kernel_rfl) ?_
  have hz := repL_zero n a
  have e1 : IntKind.u64.wrap ((1 : Nat) : Int) = 1 := by kernel_rfl
  have e2 : IntKind.u64.wrap (n : Int) = n := by
    rcases (by omega : n = 1 ∨ n = 2 ∨ n = 3 ∨ n = 4 ∨ n = 5 ∨ n = 6 ∨ n = 7 ∨ n = 8) with rfl | rfl | rfl | rfl | rfl | rfl | rfl | rfl
    all_goals kernel_rfl
  simp (disch := omega) only [Try.ntmps95, Try.results95, go_sem, Nat.reduceLT, Nat.reduceLeDiff, Nat.reduceEqDiff, Nat.reduceAdd, Nat.reduceSub, Nat.reduceMul, reduceIte, ↓reduceIte, reduceCtorEq, Int.reduceToNat, Int.reduceLE, Int.reduceLT, Int.reduceNeg, Int.reduceSub, Int.reduceAdd, Int.reduceMul, e1, e2]
  have hmin : min 1 n = 1 := by omega
  have hlr : (List.replicate n (0 : Int)).length = n := by simp
  have ht1 : (ints (List.replicate n 0)).take n = ints (List.replicate n 0) := ints_take_of hlr
  have ht2 : (ints [a]).take 1 = ints [a] := rfl
  have hs0 : splice (ints (List.replicate n 0)) 0 (ints [a]) = ints (repL n 1 a) := by
    have := repL_splice (n := n) (c := 0) (m := 1) (a := a) (by omega)
    rwa [hz] at this
  refine (Try.bitsMul_ok n h).callV 0 (viewL_cons_of (view_int) (viewL_cons_of (view_int) viewL_nil_of)) ?_
  simp (disch := omega) only [Try.ntmps95, Try.results95, go_sem, Nat.reduceLT, Nat.reduceLeDiff, Nat.reduceEqDiff, Nat.reduceAdd, Nat.reduceSub, Nat.reduceMul, reduceIte, ↓reduceIte, reduceCtorEq, Int.reduceToNat, Int.reduceLE, Int.reduceLT, Int.reduceNeg, Int.reduceSub, Int.reduceAdd, Int.reduceMul, e1, e2, hlr, ht1, ints_flat, hmin, ht2, hs0]
  refine LoopW.loop (fun c : Nat => ⟨ofL [(7, .own 0 0 n n 1 true), (8, .val (.int .i64 c))], hp [(0, ⟨ints (repL n c a), true⟩)] 1⟩) (fun c => 1 ≤ c ∧ c ≤ n) (fun c => n - c) 1 ⟨by omega, h1⟩ (Wk.of (by simp only [go_sem, ↓List.forall_mem_cons, List.not_mem_nil, false_implies, implies_true, and_true, true_and, and_self, Nat.reduceEqDiff, reduceIte, ↓reduceIte, ri_eq, Int.natCast_add, Int.cast_ofNat_Int]; try simp) rfl) ?_
  rintro c ⟨hc1, hc⟩
  have hl := repL_length (a := a) hc
  refine SW_of_vc Try.mixed _ _ _ (by kernel_rfl) ?_
  by_cases hlt : c < n
  · obtain ⟨m, hm⟩ : ∃ m, min c (n - c) = m := ⟨_, rfl⟩
    have hm1 : c + m ≤ n := by omega
    have hm2 : m ≤ c := by omega
    have hm3 : 1 ≤ m := by omega
    have hsp := repL_splice (n := n) (c := c) (m := m) (a := a) hm1
    have htk := repL_take (n := n) (c := c) (m := m) (a := a) hm2
    have htc : ((ints (repL n c a)).take c).take m = ints (List.replicate m a) := by rw [List.take_take, Nat.min_eq_left hm2, ints_take, htk]
    have hfl : ((ints (repL n c a)).take c).all flat = true := by rw [ints_take]; exact ints_flat _
    simp (disch := omega) only [Try.ntmps95, Try.results95, go_sem, Nat.reduceLT, Nat.reduceLeDiff, Nat.reduceEqDiff, Nat.reduceAdd, Nat.reduceSub, Nat.reduceMul, reduceIte, ↓reduceIte, reduceCtorEq, Int.reduceToNat, Int.reduceLE, Int.reduceLT, Int.reduceNeg, Int.reduceSub, Int.reduceAdd, Int.reduceMul, hl, hfl, hm, htc, hsp]
    exact ⟨c + m, ⟨by omega, hm1⟩, by omega, Wk.of (by simp only [go_sem, ↓List.forall_mem_cons, List.not_mem_nil, false_implies, implies_true, and_true, true_and, and_self, Nat.reduceEqDiff, reduceIte, ↓reduceIte, ri_eq, Int.natCast_add, Int.cast_ofNat_Int]; try simp) rfl⟩
  · obtain rfl : c = n := by omega
    rw [repL_all]
    simp (disch := omega) only [Try.ntmps95, Try.results95, go_sem, Nat.reduceLT, Nat.reduceLeDiff, Nat.reduceEqDiff, Nat.reduceAdd, Nat.reduceSub, Nat.reduceMul, reduceIte, ↓reduceIte, reduceCtorEq, Int.reduceToNat, Int.reduceLE, Int.reduceLT, Int.reduceNeg, Int.reduceSub, Int.reduceAdd, Int.reduceMul]
    exact fin_ints (by simp) (by rw [hp_map, hmap_cons, if_pos rfl])
theorem Try.repeat_one (n : Nat) (a : Int) (h1 : 1 ≤ n) (h : n ≤ 8) : FCall Try.prog 95 [ri [a], .val (.int .i64 n)] (OneRes n 1 (ints (List.replicate n a))) := (Try.repeat_f n a h1 h).one
end Go.Sh
