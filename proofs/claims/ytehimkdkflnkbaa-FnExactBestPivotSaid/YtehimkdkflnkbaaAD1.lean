/-
  The best of the orders that begin with each item: plain; of the reference.
-/
import Derived.Test.YtehimkdkflnkbaaZ3
import Derived.Test.YtehimkdkflnkbaaP1
import Derived.Test.YtehimkdkflnkbaaM1
namespace Go.Sh
set_option linter.unusedSimpArgs false
set_option linter.unusedVariables false
open Go Go.Proofs

theorem rep_none (zs : List SV) : rep zs 0 = [] := rfl
/-- The first k items of the order that begins with s. -/
def rot (n s k : Nat) : List Int := (List.range k).map fun i => (((s + i) % n : Nat) : Int)
theorem rot_length (n s k : Nat) : (rot n s k).length = k := by simp [rot]
theorem rot_succ (n s k : Nat) : rot n s (k + 1) = rot n s k ++ [(((s + k) % n : Nat) : Int)] := by simp [rot, List.range_succ]
theorem rot_snoc (n s k : Nat) : ints (rot n s k) ++ [.val (.int .i64 (((s + k) % n : Nat) : Int))] = ints (rot n s (k + 1)) := by rw [rot_succ]; simp [ints]
theorem rot_ord {n s : Nat} (h0 : 1 ≤ n) (h8 : n ≤ 8) (hs : s < n) : isOrd n (rot n s n) = true := by
  have : ∀ n : _root_.Fin 9, ∀ s : _root_.Fin 9, 1 ≤ n.val → s.val < n.val → isOrd n.val (rot n.val s.val n.val) = true := by decide +kernel
  exact this ⟨n, by omega⟩ ⟨s, by omega⟩ h0 hs
noncomputable def bpv (M : List (List Int)) : Nat → List Int × Int
  | 0 => ([], -1)
  | s + 1 => if (bpv M s).2 < 0 ∨ cc M (piv M (rot M.length s M.length)) M.length < (bpv M s).2 then (piv M (rot M.length s M.length), cc M (piv M (rot M.length s M.length)) M.length) else bpv M s
theorem bpv_inv {M : List (List Int)} (hw : WM M) : ∀ s, s ≤ M.length → (s = 0 ∨ ((bpv M s).1.length = M.length ∧ 0 ≤ (bpv M s).2))
  | 0, _ => .inl rfl
  | s + 1, hs => by
    have ih := bpv_inv hw s (by omega)
    have hb := cc_b (L := piv M (rot M.length s M.length)) hw M.length (Nat.le_refl _)
    right
    rw [bpv]
    split
    · exact ⟨piv_length ⟨hw, rot_ord (by have := hw.1; omega) hw.1.2 (by omega)⟩, hb.1⟩
    · rename_i h
      rcases ih with rfl | ih
      · simp [bpv] at h
      · exact ih
theorem rot_mod (s k n : Nat) : ((s : Int) + (k : Int)).tmod (n : Int) = (((s + k) % n : Nat) : Int) := by
  rw [← Int.natCast_add]; exact (Int.ofNat_tmod _ _).symm
open Classical in
noncomputable def bp (M : List (List Int)) : List Int × Int := if WM M then bpv M M.length else ([], -1)
theorem bp_t {M : List (List Int)} (h : WM M) : bp M = bpv M M.length := by rw [bp, if_pos h]
theorem bp_f {M : List (List Int)} (h : ¬ WM M) : bp M = ([], -1) := by rw [bp, if_neg h]
abbrev BpR (p : List Int × Int) (r : SV) (H : Heap) : Prop := ∃ r0, r = .tup [r0, .val (.int .i64 p.2)] ∧ FlatRes p.1.length 1 (ints p.1) r0 H

set_option maxHeartbeats 4000000 in
theorem Try.specBP_f (M : List (List Int)) (hM : M.length ≤ 1048576) (hR : ∀ i, i < M.length → (mrow M i).length ≤ 1048576) : FCall Try.prog 38 [rr M] (BpR (bp M)) := by
  have w1 := Try.specIsWM_ok M hM hR
  refine FCall.of_body Try.func38 rfl (by kernel_rfl) (by simp [Try.ntmps38]) ?_
  refine SW_of_vc Try.mixed _ _ _ (by kernel_rfl) ?_
  by_cases hw : WM M
  case neg =>
    rw [isWM_f hw] at w1
    rw [bp_f hw]
    simp (disch := omega) only [Try.ntmps38, Try.results38, go_sem, Nat.reduceLT, Nat.reduceLeDiff, Nat.reduceEqDiff, Nat.reduceAdd, Nat.reduceSub, Nat.reduceMul, reduceIte, ↓reduceIte, reduceCtorEq, Int.reduceToNat, Int.reduceLE, Int.reduceLT, Int.reduceNeg, Int.reduceSub, Int.reduceAdd, Int.reduceMul, rr_eq, rep_none]
    refine LoopW.loop (fun _ : Unit => ⟨ofL [(0, rr M), (4, .own 0 0 0 0 1 false), (5, .val (.int .i64 (-1))), (6, .val (.int .i64 0))], hp [(0, ⟨[], false⟩)] 1⟩) (fun _ => True) (fun _ => 0) () trivial (Wk.ofH (by simp only [go_sem, ↓List.forall_mem_cons, List.not_mem_nil, false_implies, implies_true, and_true, true_and, and_self, Nat.reduceEqDiff, reduceIte, ↓reduceIte, ri_eq, Int.natCast_add, Int.cast_ofNat_Int, rr_eq]; try simp) (by simp [hp, hmap, rep]) (by simp [hp])) ?_
    rintro _ _
    refine SW_of_vc Try.mixed _ _ _ (by kernel_rfl) ?_
    by_cases hz : 0 < M.length
    · simp (disch := omega) only [Try.ntmps38, Try.results38, go_sem, Nat.reduceLT, Nat.reduceLeDiff, Nat.reduceEqDiff, Nat.reduceAdd, Nat.reduceSub, Nat.reduceMul, reduceIte, ↓reduceIte, reduceCtorEq, Int.reduceToNat, Int.reduceLE, Int.reduceLT, Int.reduceNeg, Int.reduceSub, Int.reduceAdd, Int.reduceMul, rr_eq]
      refine w1.callV 0 (viewL_cons_of (view_row) viewL_nil_of) ?_
      simp (disch := omega) only [Try.ntmps38, Try.results38, go_sem, Nat.reduceLT, Nat.reduceLeDiff, Nat.reduceEqDiff, Nat.reduceAdd, Nat.reduceSub, Nat.reduceMul, reduceIte, ↓reduceIte, reduceCtorEq, Int.reduceToNat, Int.reduceLE, Int.reduceLT, Int.reduceNeg, Int.reduceSub, Int.reduceAdd, Int.reduceMul, rr_eq]
      exact fin_tup (by simp [ints]) (ints_vals _) (by rw [hp_map, hmap_cons, if_pos rfl]; rfl)
    · simp (disch := omega) only [Try.ntmps38, Try.results38, go_sem, Nat.reduceLT, Nat.reduceLeDiff, Nat.reduceEqDiff, Nat.reduceAdd, Nat.reduceSub, Nat.reduceMul, reduceIte, ↓reduceIte, reduceCtorEq, Int.reduceToNat, Int.reduceLE, Int.reduceLT, Int.reduceNeg, Int.reduceSub, Int.reduceAdd, Int.reduceMul, rr_eq]
      exact fin_tup (by simp [ints]) (ints_vals _) (by rw [hp_map, hmap_cons, if_pos rfl]; rfl)
  rw [isWM_t hw] at w1
  rw [bp_t hw]
  have hln := hw.1
  simp (disch := omega) only [Try.ntmps38, Try.results38, go_sem, Nat.reduceLT, Nat.reduceLeDiff, Nat.reduceEqDiff, Nat.reduceAdd, Nat.reduceSub, Nat.reduceMul, reduceIte, ↓reduceIte, reduceCtorEq, Int.reduceToNat, Int.reduceLE, Int.reduceLT, Int.reduceNeg, Int.reduceSub, Int.reduceAdd, Int.reduceMul, rr_eq, rep_none]
  refine LoopW.loop (fun p : Nat × Nat × Nat => ⟨ofL [(0, rr M), (4, .own p.2.1 0 (bpv M p.1).1.length (bpv M p.1).1.length 1 false), (5, .val (.int .i64 (bpv M p.1).2)), (6, .val (.int .i64 p.1))], hp [(p.2.1, ⟨ints (bpv M p.1).1, false⟩)] p.2.2⟩)
    (fun p => p.1 ≤ M.length ∧ p.2.1 < p.2.2) (fun p => M.length - p.1) (0, 0, 1) ⟨by simp, by simp⟩ (Wk.ofH (by simp only [go_sem, ↓List.forall_mem_cons, List.not_mem_nil, false_implies, implies_true, and_true, true_and, and_self, Nat.reduceEqDiff, reduceIte, ↓reduceIte, ri_eq, Int.natCast_add, Int.cast_ofNat_Int, rr_eq, bpv, List.length_nil]; try simp) (by simp [hp, hmap, rep, bpv, ints]) (by simp [hp])) ?_
  rintro ⟨s, ob, nb⟩ ⟨hs, hob⟩
  simp only at hs hob
  refine SW_of_vc Try.mixed _ _ _ (by kernel_rfl) ?_
  by_cases hlt : s < M.length
  case neg =>
    obtain rfl : s = M.length := by omega
    simp (disch := omega) only [Try.ntmps38, Try.results38, go_sem, Nat.reduceLT, Nat.reduceLeDiff, Nat.reduceEqDiff, Nat.reduceAdd, Nat.reduceSub, Nat.reduceMul, reduceIte, ↓reduceIte, reduceCtorEq, Int.reduceToNat, Int.reduceLE, Int.reduceLT, Int.reduceNeg, Int.reduceSub, Int.reduceAdd, Int.reduceMul, rr_eq]
    exact fin_tup (by simp [ints]) (ints_vals _) (by rw [hp_map, hmap_cons, if_pos rfl])
  have hord := rot_ord (n := M.length) (s := s) (by omega) hw.1.2 hlt
  have hb := cc_b (L := piv M (rot M.length s M.length)) hw M.length (Nat.le_refl _)
  have hpl := piv_length ⟨hw, hord⟩
  have wp := (Try.specPiv_f M (rot M.length s M.length) hM hR (by rw [rot_length]; exact hM) ⟨hw, hord⟩).one
  have wc := Try.specCost_ok M (piv M (rot M.length s M.length)) hw hpl
  rw [hpl] at wc
  have hnext : bpv M (s + 1) = if (bpv M s).2 < 0 ∨ cc M (piv M (rot M.length s M.length)) M.length < (bpv M s).2 then (piv M (rot M.length s M.length), cc M (piv M (rot M.length s M.length)) M.length) else bpv M s := rfl
  generalize hb1 : bpv M (s + 1) = t2 at *
  generalize hb0 : bpv M s = t at *
  simp (disch := omega) only [Try.ntmps38, Try.results38, go_sem, Nat.reduceLT, Nat.reduceLeDiff, Nat.reduceEqDiff, Nat.reduceAdd, Nat.reduceSub, Nat.reduceMul, reduceIte, ↓reduceIte, reduceCtorEq, Int.reduceToNat, Int.reduceLE, Int.reduceLT, Int.reduceNeg, Int.reduceSub, Int.reduceAdd, Int.reduceMul, rr_eq]
  refine w1.callV 0 (viewL_cons_of (view_row) viewL_nil_of) ?_
  simp (disch := omega) only [Try.ntmps38, Try.results38, go_sem, Nat.reduceLT, Nat.reduceLeDiff, Nat.reduceEqDiff, Nat.reduceAdd, Nat.reduceSub, Nat.reduceMul, reduceIte, ↓reduceIte, reduceCtorEq, Int.reduceToNat, Int.reduceLE, Int.reduceLT, Int.reduceNeg, Int.reduceSub, Int.reduceAdd, Int.reduceMul, rr_eq, rep_none]
  refine LoopW.loop (fun p : Nat × Nat × Nat => ⟨ofL [(0, rr M), (4, .own ob 0 t.1.length t.1.length 1 false), (5, .val (.int .i64 t.2)), (6, .val (.int .i64 s)), (7, .own p.2.1 0 p.1 p.1 1 false), (8, .val (.int .i64 p.1))], hp [(p.2.1, ⟨ints (rot M.length s p.1), false⟩), (ob, ⟨ints t.1, false⟩)] p.2.2⟩)
    (fun p => p.1 ≤ M.length ∧ ob < p.2.1 ∧ p.2.1 < p.2.2) (fun p => M.length - p.1) (0, nb, nb + 1) ⟨by simp, hob, by simp⟩ (Wk.ofH (by simp only [go_sem, ↓List.forall_mem_cons, List.not_mem_nil, false_implies, implies_true, and_true, true_and, and_self, Nat.reduceEqDiff, reduceIte, ↓reduceIte, ri_eq, Int.natCast_add, Int.cast_ofNat_Int, rr_eq]; try simp) (by
      simp only [List.forall_mem_cons]
      refine ⟨by rw [hp_map, hmap_cons, if_pos rfl]; rfl, by simp (disch := omega) only [hp_map, hmap_cons, if_pos, if_neg, ↓reduceIte], by simp⟩) (Nat.le_refl _)) ?_
  rintro ⟨k, ob2, nb2⟩ ⟨hk, ho1, ho2⟩
  simp only at hk ho1 ho2
  refine SW_of_vc Try.mixed _ _ _ (by kernel_rfl) ?_
  have hrl := rot_length M.length s k
  by_cases hlt2 : k < M.length
  · have hm := rot_mod s k M.length
    have hsn := rot_snoc M.length s k
    have hlt3 : (s + k) % M.length < M.length := Nat.mod_lt _ (by omega)
    have hil : (ints (rot M.length s k)).length = k := by rw [ints_length, hrl]
    have hit : (ints (rot M.length s k)).take k = ints (rot M.length s k) := List.take_of_length_le (by omega)
    simp (disch := omega) only [Try.ntmps38, Try.results38, go_sem, Nat.reduceLT, Nat.reduceLeDiff, Nat.reduceEqDiff, Nat.reduceAdd, Nat.reduceSub, Nat.reduceMul, reduceIte, ↓reduceIte, reduceCtorEq, Int.reduceToNat, Int.reduceLE, Int.reduceLT, Int.reduceNeg, Int.reduceSub, Int.reduceAdd, Int.reduceMul, rr_eq, hm, hil, hit, hsn]
    exact ⟨(k + 1, nb2 + 1, nb2 + 1 + 1), ⟨hlt2, by show ob < nb2 + 1; omega, by show nb2 + 1 < nb2 + 1 + 1; omega⟩, by show M.length - (k + 1) < M.length - k; omega, Wk.ofH (by simp only [go_sem, ↓List.forall_mem_cons, List.not_mem_nil, false_implies, implies_true, and_true, true_and, and_self, Nat.reduceEqDiff, reduceIte, ↓reduceIte, ri_eq, Int.natCast_add, Int.cast_ofNat_Int, rr_eq]; try simp) (by simp (disch := omega) only [go_sem, ↓List.forall_mem_cons, List.not_mem_nil, false_implies, implies_true, and_true, true_and, and_self, Nat.reduceEqDiff, reduceIte, ↓reduceIte, ri_eq, Int.natCast_add, Int.cast_ofNat_Int, if_pos, if_neg, Nat.reduceAdd, List.nil_append]; try simp) (Nat.le_refl _)⟩
  · obtain rfl : k = M.length := by omega
    by_cases hc : t.2 < 0
    · rw [if_pos (.inl hc)] at hnext
      subst hnext
      generalize piv M (rot M.length s M.length) = l at *
      generalize cc M l M.length = c at *
      simp (disch := omega) only [Try.ntmps38, Try.results38, go_sem, Nat.reduceLT, Nat.reduceLeDiff, Nat.reduceEqDiff, Nat.reduceAdd, Nat.reduceSub, Nat.reduceMul, reduceIte, ↓reduceIte, reduceCtorEq, Int.reduceToNat, Int.reduceLE, Int.reduceLT, Int.reduceNeg, Int.reduceSub, Int.reduceAdd, Int.reduceMul, rr_eq]
      refine wp.callOne (ints_vals _) 2 (viewL_cons_of view_row (viewL_cons_of (view_own (by rw [hp_map, hmap_cons, if_pos rfl]) (by omega)) viewL_nil_of)) ?_
      simp (disch := omega) only [Try.ntmps38, Try.results38, go_sem, Nat.reduceLT, Nat.reduceLeDiff, Nat.reduceEqDiff, Nat.reduceAdd, Nat.reduceSub, Nat.reduceMul, reduceIte, ↓reduceIte, reduceCtorEq, Int.reduceToNat, Int.reduceLE, Int.reduceLT, Int.reduceNeg, Int.reduceSub, Int.reduceAdd, Int.reduceMul, rr_eq]
      refine wc.callV 2 (viewL_cons_of view_row (viewL_cons_of (view_own (by rw [hp_map, hmap_cons, if_pos rfl]) (by omega)) viewL_nil_of)) ?_
      simp (disch := omega) only [Try.ntmps38, Try.results38, go_sem, Nat.reduceLT, Nat.reduceLeDiff, Nat.reduceEqDiff, Nat.reduceAdd, Nat.reduceSub, Nat.reduceMul, reduceIte, ↓reduceIte, reduceCtorEq, Int.reduceToNat, Int.reduceLE, Int.reduceLT, Int.reduceNeg, Int.reduceSub, Int.reduceAdd, Int.reduceMul, rr_eq]
      exact ⟨(s + 1, nb2, nb2 + 1), ⟨hlt, by show nb2 < nb2 + 1; omega⟩, by show M.length - (s + 1) < M.length - s; omega, Wk.ofH (by simp only [go_sem, ↓List.forall_mem_cons, List.not_mem_nil, false_implies, implies_true, and_true, true_and, and_self, Nat.reduceEqDiff, reduceIte, ↓reduceIte, ri_eq, Int.natCast_add, Int.cast_ofNat_Int, rr_eq, hb1, hpl]; try simp) (by simp (disch := omega) only [go_sem, ↓List.forall_mem_cons, List.not_mem_nil, false_implies, implies_true, and_true, true_and, and_self, Nat.reduceEqDiff, reduceIte, ↓reduceIte, ri_eq, Int.natCast_add, Int.cast_ofNat_Int, if_pos, if_neg, Nat.reduceAdd, List.nil_append, hb1]; try simp) (Nat.le_refl _)⟩
    · by_cases hc2 : cc M (piv M (rot M.length s M.length)) M.length < t.2
      · rw [if_pos (.inr hc2)] at hnext
        subst hnext
        generalize piv M (rot M.length s M.length) = l at *
        generalize cc M l M.length = c at *
        simp (disch := omega) only [Try.ntmps38, Try.results38, go_sem, Nat.reduceLT, Nat.reduceLeDiff, Nat.reduceEqDiff, Nat.reduceAdd, Nat.reduceSub, Nat.reduceMul, reduceIte, ↓reduceIte, reduceCtorEq, Int.reduceToNat, Int.reduceLE, Int.reduceLT, Int.reduceNeg, Int.reduceSub, Int.reduceAdd, Int.reduceMul, rr_eq]
        refine wp.callOne (ints_vals _) 2 (viewL_cons_of view_row (viewL_cons_of (view_own (by rw [hp_map, hmap_cons, if_pos rfl]) (by omega)) viewL_nil_of)) ?_
        simp (disch := omega) only [Try.ntmps38, Try.results38, go_sem, Nat.reduceLT, Nat.reduceLeDiff, Nat.reduceEqDiff, Nat.reduceAdd, Nat.reduceSub, Nat.reduceMul, reduceIte, ↓reduceIte, reduceCtorEq, Int.reduceToNat, Int.reduceLE, Int.reduceLT, Int.reduceNeg, Int.reduceSub, Int.reduceAdd, Int.reduceMul, rr_eq]
        refine wc.callV 2 (viewL_cons_of view_row (viewL_cons_of (view_own (by rw [hp_map, hmap_cons, if_pos rfl]) (by omega)) viewL_nil_of)) ?_
        simp (disch := omega) only [Try.ntmps38, Try.results38, go_sem, Nat.reduceLT, Nat.reduceLeDiff, Nat.reduceEqDiff, Nat.reduceAdd, Nat.reduceSub, Nat.reduceMul, reduceIte, ↓reduceIte, reduceCtorEq, Int.reduceToNat, Int.reduceLE, Int.reduceLT, Int.reduceNeg, Int.reduceSub, Int.reduceAdd, Int.reduceMul, rr_eq]
        exact ⟨(s + 1, nb2, nb2 + 1), ⟨hlt, by show nb2 < nb2 + 1; omega⟩, by show M.length - (s + 1) < M.length - s; omega, Wk.ofH (by simp only [go_sem, ↓List.forall_mem_cons, List.not_mem_nil, false_implies, implies_true, and_true, true_and, and_self, Nat.reduceEqDiff, reduceIte, ↓reduceIte, ri_eq, Int.natCast_add, Int.cast_ofNat_Int, rr_eq, hb1, hpl]; try simp) (by simp (disch := omega) only [go_sem, ↓List.forall_mem_cons, List.not_mem_nil, false_implies, implies_true, and_true, true_and, and_self, Nat.reduceEqDiff, reduceIte, ↓reduceIte, ri_eq, Int.natCast_add, Int.cast_ofNat_Int, if_pos, if_neg, Nat.reduceAdd, List.nil_append, hb1]; try simp) (Nat.le_refl _)⟩
      · rw [if_neg (fun h => h.elim hc hc2)] at hnext
        subst hnext
        generalize piv M (rot M.length s M.length) = l at *
        generalize cc M l M.length = c at *
        simp (disch := omega) only [Try.ntmps38, Try.results38, go_sem, Nat.reduceLT, Nat.reduceLeDiff, Nat.reduceEqDiff, Nat.reduceAdd, Nat.reduceSub, Nat.reduceMul, reduceIte, ↓reduceIte, reduceCtorEq, Int.reduceToNat, Int.reduceLE, Int.reduceLT, Int.reduceNeg, Int.reduceSub, Int.reduceAdd, Int.reduceMul, rr_eq]
        refine wp.callOne (ints_vals _) 2 (viewL_cons_of view_row (viewL_cons_of (view_own (by rw [hp_map, hmap_cons, if_pos rfl]) (by omega)) viewL_nil_of)) ?_
        simp (disch := omega) only [Try.ntmps38, Try.results38, go_sem, Nat.reduceLT, Nat.reduceLeDiff, Nat.reduceEqDiff, Nat.reduceAdd, Nat.reduceSub, Nat.reduceMul, reduceIte, ↓reduceIte, reduceCtorEq, Int.reduceToNat, Int.reduceLE, Int.reduceLT, Int.reduceNeg, Int.reduceSub, Int.reduceAdd, Int.reduceMul, rr_eq]
        refine wc.callV 2 (viewL_cons_of view_row (viewL_cons_of (view_own (by rw [hp_map, hmap_cons, if_pos rfl]) (by omega)) viewL_nil_of)) ?_
        simp (disch := omega) only [Try.ntmps38, Try.results38, go_sem, Nat.reduceLT, Nat.reduceLeDiff, Nat.reduceEqDiff, Nat.reduceAdd, Nat.reduceSub, Nat.reduceMul, reduceIte, ↓reduceIte, reduceCtorEq, Int.reduceToNat, Int.reduceLE, Int.reduceLT, Int.reduceNeg, Int.reduceSub, Int.reduceAdd, Int.reduceMul, rr_eq]
        exact ⟨(s + 1, ob, nb2 + 1), ⟨hlt, by show ob < nb2 + 1; omega⟩, by show M.length - (s + 1) < M.length - s; omega, Wk.ofH (by simp only [go_sem, ↓List.forall_mem_cons, List.not_mem_nil, false_implies, implies_true, and_true, true_and, and_self, Nat.reduceEqDiff, reduceIte, ↓reduceIte, ri_eq, Int.natCast_add, Int.cast_ofNat_Int, rr_eq, hb1]; try simp) (by simp (disch := omega) only [go_sem, ↓List.forall_mem_cons, List.not_mem_nil, false_implies, implies_true, and_true, true_and, and_self, Nat.reduceEqDiff, reduceIte, ↓reduceIte, ri_eq, Int.natCast_add, Int.cast_ofNat_Int, if_pos, if_neg, Nat.reduceAdd, List.nil_append, hb1]; try simp) (Nat.le_refl _)⟩
end Go.Sh
