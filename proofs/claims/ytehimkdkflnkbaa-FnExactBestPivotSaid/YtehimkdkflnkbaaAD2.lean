/-
  The best of the orders that begin with each item: of the program.
-/
import Derived.Test.YtehimkdkflnkbaaAD1
namespace Go.Sh
set_option linter.unusedSimpArgs false
set_option linter.unusedVariables false
open Go Go.Proofs

/-- A slice of ints that is nil as long as it is empty. -/
def nlI (b : Nat) (T : List Int) : SV := if T.length = 0 then .val (.slice none 0 0) else .own b 0 T.length T.length 1 false
def nlH (b : Nat) (T : List Int) : List (Nat × Blk) := if T.length = 0 then [] else [(b, ⟨ints T, false⟩)]
theorem nlI_f {b : Nat} {T : List Int} (h : T.length ≠ 0) : nlI b T = .own b 0 T.length T.length 1 false := if_neg h
theorem nlH_f {b : Nat} {T : List Int} (h : T.length ≠ 0) : nlH b T = [(b, ⟨ints T, false⟩)] := if_neg h
theorem nlI_t {b : Nat} {T : List Int} (h : T.length = 0) : nlI b T = .val (.slice none 0 0) := if_pos h
theorem nlH_t {b : Nat} {T : List Int} (h : T.length = 0) : nlH b T = [] := if_pos h
theorem nlH_in {b : Nat} {T : List Int} {H : Heap} (h : T.length ≠ 0 → H.map b = some ⟨ints T, false⟩) : ∀ q ∈ nlH b T, H.map q.1 = some q.2 := by
  intro q hq
  unfold nlH at hq
  split at hq
  · simp at hq
  · rename_i h0
    simp at hq; subst hq
    exact h h0
theorem nlH_map {b : Nat} {T : List Int} (h : T.length ≠ 0) : hmap (nlH b T) b = some ⟨ints T, false⟩ := by rw [nlH_f h, hmap_cons, if_pos rfl]

theorem nlI_nil (b : Nat) : nlI b [] = .val (.slice none 0 0) := rfl
theorem delB_nlH {b x : Nat} {T : List Int} (h : T.length ≠ 0 → b ≠ x) : delB (nlH b T) x = nlH b T := by
  by_cases h0 : T.length = 0
  · rw [nlH_t h0]; rfl
  · rw [nlH_f h0]; have := h h0; simp [delB, this]

set_option maxRecDepth 20000 in
set_option maxHeartbeats 8000000 in
theorem Try.implBP_f (M : List (List Int)) (hM : M.length ≤ 1048576) (hR : ∀ i, i < M.length → (mrow M i).length ≤ 1048576) (hw : WM M) : FCall Try.prog 39 [rr M] (BpR (bp M)) := by
  have w1 := Try.implIsWM_ok M hM hR
  rw [isWM_t hw] at w1
  rw [bp_t hw]
  have hln := hw.1
  refine FCall.of_body Try.func39 rfl (by kernel_rfl) (by simp [Try.ntmps39]) ?_
  refine SW_of_vc Try.mixed _ _ _ (by kernel_rfl) ?_
  simp (disch := omega) only [Try.ntmps39, Try.results39, go_sem, Nat.reduceLT, Nat.reduceLeDiff, Nat.reduceEqDiff, Nat.reduceAdd, Nat.reduceSub, Nat.reduceMul, reduceIte, ↓reduceIte, reduceCtorEq, Int.reduceToNat, Int.reduceLE, Int.reduceLT, Int.reduceNeg, Int.reduceSub, Int.reduceAdd, Int.reduceMul, rr_eq]
  refine w1.callV 0 (viewL_cons_of (view_row) viewL_nil_of) ?_
  simp (disch := omega) only [Try.ntmps39, Try.results39, go_sem, Nat.reduceLT, Nat.reduceLeDiff, Nat.reduceEqDiff, Nat.reduceAdd, Nat.reduceSub, Nat.reduceMul, reduceIte, ↓reduceIte, reduceCtorEq, Int.reduceToNat, Int.reduceLE, Int.reduceLT, Int.reduceNeg, Int.reduceSub, Int.reduceAdd, Int.reduceMul, rr_eq]
  clear w1
  refine LoopW.loop (fun p : Nat × Nat × Nat => ⟨ofL [(0, rr M), (4, nlI p.2.1 (bpv M p.1).1), (5, .val (.int .i64 (bpv M p.1).2)), (15, .val (.int .i64 M.length)), (16, .val (.int .i64 p.1))], hp (nlH p.2.1 (bpv M p.1).1) p.2.2⟩)
    (fun p => p.1 ≤ M.length ∧ ((bpv M p.1).1.length ≠ 0 → p.2.1 < p.2.2)) (fun p => M.length - p.1) (0, 0, 0) ⟨by simp, fun h => absurd rfl h⟩ (Wk.ofH (by simp only [go_sem, ↓List.forall_mem_cons, List.not_mem_nil, false_implies, implies_true, and_true, true_and, and_self, Nat.reduceEqDiff, reduceIte, ↓reduceIte, ri_eq, Int.natCast_add, Int.cast_ofNat_Int, rr_eq, bpv, nlI_nil]; try simp) (by simp [nlH, bpv]) (by simp [hp])) ?_
  rintro ⟨s, ob, nb⟩ ⟨hs, hob⟩
  simp only at hs hob
  refine SW_of_vc Try.mixed _ _ _ (by kernel_rfl) ?_
  by_cases hlt : s < M.length
  case neg =>
    obtain rfl : s = M.length := by omega
    have hl : (bpv M M.length).1.length ≠ 0 := by
      rcases bpv_inv hw M.length (Nat.le_refl _) with h | h
      · omega
      · omega
    have e1 := nlI_f (b := ob) hl
    have e2 := nlH_map (b := ob) hl
    simp (disch := omega) only [Try.ntmps39, Try.results39, go_sem, Nat.reduceLT, Nat.reduceLeDiff, Nat.reduceEqDiff, Nat.reduceAdd, Nat.reduceSub, Nat.reduceMul, reduceIte, ↓reduceIte, reduceCtorEq, Int.reduceToNat, Int.reduceLE, Int.reduceLT, Int.reduceNeg, Int.reduceSub, Int.reduceAdd, Int.reduceMul, rr_eq, e1]
    exact fin_tup (by simp [ints]) (ints_vals _) (by rw [hp_map, e2])
  have hord := rot_ord (n := M.length) (s := s) (by omega) hw.1.2 hlt
  have hb := cc_b (L := piv M (rot M.length s M.length)) hw M.length (Nat.le_refl _)
  have hpl := piv_length ⟨hw, hord⟩
  have wp := Try.implPiv_one M (rot M.length s M.length) hM hR (by rw [rot_length]; exact hM) ⟨hw, hord⟩
  have wc := Try.implCost_ok M (piv M (rot M.length s M.length)) hw hpl
  rw [hpl] at wc
  have hnext : bpv M (s + 1) = if (bpv M s).2 < 0 ∨ cc M (piv M (rot M.length s M.length)) M.length < (bpv M s).2 then (piv M (rot M.length s M.length), cc M (piv M (rot M.length s M.length)) M.length) else bpv M s := rfl
  generalize hb1 : bpv M (s + 1) = t2 at *
  generalize hb0 : bpv M s = t at *
  simp (disch := omega) only [Try.ntmps39, Try.results39, go_sem, Nat.reduceLT, Nat.reduceLeDiff, Nat.reduceEqDiff, Nat.reduceAdd, Nat.reduceSub, Nat.reduceMul, reduceIte, ↓reduceIte, reduceCtorEq, Int.reduceToNat, Int.reduceLE, Int.reduceLT, Int.reduceNeg, Int.reduceSub, Int.reduceAdd, Int.reduceMul, rr_eq]
  refine LoopW.loop (fun p : Nat × Nat × Nat => ⟨ofL [(0, rr M), (4, nlI ob t.1), (5, .val (.int .i64 t.2)), (6, .val (.int .i64 s)), (7, nlI p.2.1 (rot M.length s p.1)), (15, .val (.int .i64 M.length)), (16, .val (.int .i64 s)), (20, .val (.int .i64 M.length)), (21, .val (.int .i64 p.1))], hp (nlH p.2.1 (rot M.length s p.1) ++ nlH ob t.1) p.2.2⟩)
    (fun p => p.1 ≤ M.length ∧ nb ≤ p.2.2 ∧ (p.1 ≠ 0 → nb ≤ p.2.1 ∧ p.2.1 < p.2.2)) (fun p => M.length - p.1) (0, nb, nb) ⟨by simp, by simp, fun h => absurd rfl h⟩ (Wk.ofH (by simp only [go_sem, ↓List.forall_mem_cons, List.not_mem_nil, false_implies, implies_true, and_true, true_and, and_self, Nat.reduceEqDiff, reduceIte, ↓reduceIte, ri_eq, Int.natCast_add, Int.cast_ofNat_Int, rr_eq, nlI_t (T := rot M.length s 0) rfl]; try simp) (by
      rw [nlH_t (T := rot M.length s 0) rfl, List.nil_append]
      exact nlH_in fun h => by rw [hp_map, nlH_map h]) (Nat.le_refl _)) ?_
  rintro ⟨k, ob2, nb2⟩ ⟨hk, hn2, ho2⟩
  simp only at hk hn2 ho2
  refine SW_of_vc Try.mixed _ _ _ (by kernel_rfl) ?_
  have hrl := rot_length M.length s k
  by_cases hlt2 : k < M.length
  · have hm := rot_mod s k M.length
    have hsn := rot_snoc M.length s k
    have hlt3 : (s + k) % M.length < M.length := Nat.mod_lt _ (by omega)
    have hl2 := rot_length M.length s (k + 1)
    have e2 : ∀ b, nlI b (rot M.length s (k + 1)) = .own b 0 (k + 1) (k + 1) 1 false := fun b => by rw [nlI_f (by omega), hl2]
    have e3 : ∀ b, nlH b (rot M.length s (k + 1)) = [(b, ⟨ints (rot M.length s (k + 1)), false⟩)] := fun b => nlH_f (by omega)
    by_cases hz : k = 0
    · have hkl : (rot M.length s k).length = 0 := by omega
      have e0 := nlI_t (b := ob2) hkl
      have h0 := nlH_t (b := ob2) hkl
      have hsn0 : [SV.val (.int .i64 (((s + k) % M.length : Nat) : Int))] = ints (rot M.length s (k + 1)) := by rw [← hsn, List.length_eq_zero_iff.1 hkl]; rfl
      have e2z : ∀ b, nlI b (rot M.length s (k + 1)) = .own b 0 1 1 1 false := fun b => by
        have hk1 : k + 1 = 1 := by omega
        rw [e2, hk1]
      simp (disch := omega) only [Try.ntmps39, Try.results39, go_sem, Nat.reduceLT, Nat.reduceLeDiff, Nat.reduceEqDiff, Nat.reduceAdd, Nat.reduceSub, Nat.reduceMul, reduceIte, ↓reduceIte, reduceCtorEq, Int.reduceToNat, Int.reduceLE, Int.reduceLT, Int.reduceNeg, Int.reduceSub, Int.reduceAdd, Int.reduceMul, rr_eq, hm, e0, h0, List.nil_append]
      refine ⟨(k + 1, nb2 + 1, nb2 + 1 + 1), ⟨hlt2, by show nb ≤ nb2 + 1 + 1; omega, fun _ => ⟨by show nb ≤ nb2 + 1; omega, by show nb2 + 1 < nb2 + 1 + 1; omega⟩⟩, by show M.length - (k + 1) < M.length - k; omega, Wk.ofH (by simp only [go_sem, ↓List.forall_mem_cons, List.not_mem_nil, false_implies, implies_true, and_true, true_and, and_self, Nat.reduceEqDiff, reduceIte, ↓reduceIte, ri_eq, Int.natCast_add, Int.cast_ofNat_Int, rr_eq, e2z]; try simp) ?_ (Nat.le_refl _)⟩
      show ∀ q ∈ nlH (nb2 + 1) (rot M.length s (k + 1)) ++ nlH ob t.1, _
      rw [e3, List.cons_append, List.nil_append, List.forall_mem_cons]
      refine ⟨?_, nlH_in fun h => ?_⟩
      · rw [← hsn0]; simp (disch := omega) only [hp_map, hmap_cons, if_pos, if_neg, ↓reduceIte]
      · have := hob h
        show hmap _ ob = _
        simp (disch := omega) only [hmap_cons, if_neg]
        exact nlH_map h
    · have hkl : (rot M.length s k).length ≠ 0 := by omega
      obtain ⟨o1, o2⟩ := ho2 hz
      have e0 := nlI_f (b := ob2) hkl
      have h0 := nlH_f (b := ob2) hkl
      rw [hrl] at e0
      have hil : (ints (rot M.length s k)).length = k := by rw [ints_length, hrl]
      have hit : (ints (rot M.length s k)).take k = ints (rot M.length s k) := List.take_of_length_le (by omega)
      have hdel : delB (nlH ob t.1) ob2 = nlH ob t.1 := delB_nlH fun h => by have := hob h; omega
      simp (disch := omega) only [Try.ntmps39, Try.results39, go_sem, Nat.reduceLT, Nat.reduceLeDiff, Nat.reduceEqDiff, Nat.reduceAdd, Nat.reduceSub, Nat.reduceMul, reduceIte, ↓reduceIte, reduceCtorEq, Int.reduceToNat, Int.reduceLE, Int.reduceLT, Int.reduceNeg, Int.reduceSub, Int.reduceAdd, Int.reduceMul, rr_eq, hm, e0, h0, List.cons_append, List.nil_append, hil, hit, hsn, hdel]
      refine ⟨(k + 1, nb2 + 1, nb2 + 1 + 1), ⟨hlt2, by show nb ≤ nb2 + 1 + 1; omega, fun _ => ⟨by show nb ≤ nb2 + 1; omega, by show nb2 + 1 < nb2 + 1 + 1; omega⟩⟩, by show M.length - (k + 1) < M.length - k; omega, Wk.ofH (by simp only [go_sem, ↓List.forall_mem_cons, List.not_mem_nil, false_implies, implies_true, and_true, true_and, and_self, Nat.reduceEqDiff, reduceIte, ↓reduceIte, ri_eq, Int.natCast_add, Int.cast_ofNat_Int, rr_eq, e2]; try simp) ?_ (Nat.le_refl _)⟩
      show ∀ q ∈ nlH (nb2 + 1) (rot M.length s (k + 1)) ++ nlH ob t.1, _
      rw [e3, List.cons_append, List.nil_append, List.forall_mem_cons]
      refine ⟨?_, nlH_in fun h => ?_⟩
      · simp (disch := omega) only [hp_map, hmap_cons, if_pos, if_neg, ↓reduceIte]
      · have := hob h
        show hmap _ ob = _
        simp (disch := omega) only [hmap_cons, if_neg]
        exact nlH_map h
  · obtain rfl : k = M.length := by omega
    obtain ⟨o1, o2⟩ := ho2 (by omega)
    have hkl : (rot M.length s M.length).length ≠ 0 := by omega
    have e0 := nlI_f (b := ob2) hkl
    have h0 := nlH_f (b := ob2) hkl
    rw [hrl] at e0
    by_cases hc : t.2 < 0 ∨ cc M (piv M (rot M.length s M.length)) M.length < t.2
    · rw [if_pos hc] at hnext
      subst hnext
      generalize piv M (rot M.length s M.length) = l at *
      generalize cc M l M.length = c at *
      have e4 : ∀ b, nlI b l = .own b 0 M.length M.length 1 false := fun b => by rw [nlI_f (by omega), hpl]
      have e5 : ∀ b, nlH b l = [(b, ⟨ints l, false⟩)] := fun b => nlH_f (by omega)
      by_cases hc1 : t.2 < 0
      · simp (disch := omega) only [Try.ntmps39, Try.results39, go_sem, Nat.reduceLT, Nat.reduceLeDiff, Nat.reduceEqDiff, Nat.reduceAdd, Nat.reduceSub, Nat.reduceMul, reduceIte, ↓reduceIte, reduceCtorEq, Int.reduceToNat, Int.reduceLE, Int.reduceLT, Int.reduceNeg, Int.reduceSub, Int.reduceAdd, Int.reduceMul, rr_eq, e0, h0, List.cons_append, List.nil_append]
        refine wp.callOne (ints_vals _) 2 (viewL_cons_of view_row (viewL_cons_of (view_own (by rw [hp_map, hmap_cons, if_pos rfl]) (by omega)) viewL_nil_of)) ?_
        simp (disch := omega) only [Try.ntmps39, Try.results39, go_sem, Nat.reduceLT, Nat.reduceLeDiff, Nat.reduceEqDiff, Nat.reduceAdd, Nat.reduceSub, Nat.reduceMul, reduceIte, ↓reduceIte, reduceCtorEq, Int.reduceToNat, Int.reduceLE, Int.reduceLT, Int.reduceNeg, Int.reduceSub, Int.reduceAdd, Int.reduceMul, rr_eq]
        refine wc.callV 2 (viewL_cons_of view_row (viewL_cons_of (view_own (by rw [hp_map, hmap_cons, if_pos rfl]) (by omega)) viewL_nil_of)) ?_
        simp (disch := omega) only [Try.ntmps39, Try.results39, go_sem, Nat.reduceLT, Nat.reduceLeDiff, Nat.reduceEqDiff, Nat.reduceAdd, Nat.reduceSub, Nat.reduceMul, reduceIte, ↓reduceIte, reduceCtorEq, Int.reduceToNat, Int.reduceLE, Int.reduceLT, Int.reduceNeg, Int.reduceSub, Int.reduceAdd, Int.reduceMul, rr_eq]
        refine ⟨(s + 1, nb2, nb2 + 1), ⟨hlt, fun _ => by show nb2 < nb2 + 1; omega⟩, by show M.length - (s + 1) < M.length - s; omega, Wk.ofH (by simp only [go_sem, ↓List.forall_mem_cons, List.not_mem_nil, false_implies, implies_true, and_true, true_and, and_self, Nat.reduceEqDiff, reduceIte, ↓reduceIte, ri_eq, Int.natCast_add, Int.cast_ofNat_Int, rr_eq, hb1, e4]; try simp) ?_ (Nat.le_refl _)⟩
        show ∀ q ∈ nlH nb2 (bpv M (s + 1)).1, _
        rw [hb1]
        exact nlH_in fun _ => by show hmap _ nb2 = _; rw [hmap_cons, if_pos rfl]
      · have hc2 : c < t.2 := hc.resolve_left hc1
        simp (disch := omega) only [Try.ntmps39, Try.results39, go_sem, Nat.reduceLT, Nat.reduceLeDiff, Nat.reduceEqDiff, Nat.reduceAdd, Nat.reduceSub, Nat.reduceMul, reduceIte, ↓reduceIte, reduceCtorEq, Int.reduceToNat, Int.reduceLE, Int.reduceLT, Int.reduceNeg, Int.reduceSub, Int.reduceAdd, Int.reduceMul, rr_eq, e0, h0, List.cons_append, List.nil_append]
        refine wp.callOne (ints_vals _) 2 (viewL_cons_of view_row (viewL_cons_of (view_own (by rw [hp_map, hmap_cons, if_pos rfl]) (by omega)) viewL_nil_of)) ?_
        simp (disch := omega) only [Try.ntmps39, Try.results39, go_sem, Nat.reduceLT, Nat.reduceLeDiff, Nat.reduceEqDiff, Nat.reduceAdd, Nat.reduceSub, Nat.reduceMul, reduceIte, ↓reduceIte, reduceCtorEq, Int.reduceToNat, Int.reduceLE, Int.reduceLT, Int.reduceNeg, Int.reduceSub, Int.reduceAdd, Int.reduceMul, rr_eq]
        refine wc.callV 2 (viewL_cons_of view_row (viewL_cons_of (view_own (by rw [hp_map, hmap_cons, if_pos rfl]) (by omega)) viewL_nil_of)) ?_
        simp (disch := omega) only [Try.ntmps39, Try.results39, go_sem, Nat.reduceLT, Nat.reduceLeDiff, Nat.reduceEqDiff, Nat.reduceAdd, Nat.reduceSub, Nat.reduceMul, reduceIte, ↓reduceIte, reduceCtorEq, Int.reduceToNat, Int.reduceLE, Int.reduceLT, Int.reduceNeg, Int.reduceSub, Int.reduceAdd, Int.reduceMul, rr_eq]
        refine ⟨(s + 1, nb2, nb2 + 1), ⟨hlt, fun _ => by show nb2 < nb2 + 1; omega⟩, by show M.length - (s + 1) < M.length - s; omega, Wk.ofH (by simp only [go_sem, ↓List.forall_mem_cons, List.not_mem_nil, false_implies, implies_true, and_true, true_and, and_self, Nat.reduceEqDiff, reduceIte, ↓reduceIte, ri_eq, Int.natCast_add, Int.cast_ofNat_Int, rr_eq, hb1, e4]; try simp) ?_ (Nat.le_refl _)⟩
        show ∀ q ∈ nlH nb2 (bpv M (s + 1)).1, _
        rw [hb1]
        exact nlH_in fun _ => by show hmap _ nb2 = _; rw [hmap_cons, if_pos rfl]
    · rw [if_neg hc] at hnext
      subst hnext
      generalize piv M (rot M.length s M.length) = l at *
      generalize cc M l M.length = c at *
      have hc1 : ¬ t2.2 < 0 := fun h => hc (.inl h)
      have hc2 : ¬ c < t2.2 := fun h => hc (.inr h)
      simp (disch := omega) only [Try.ntmps39, Try.results39, go_sem, Nat.reduceLT, Nat.reduceLeDiff, Nat.reduceEqDiff, Nat.reduceAdd, Nat.reduceSub, Nat.reduceMul, reduceIte, ↓reduceIte, reduceCtorEq, Int.reduceToNat, Int.reduceLE, Int.reduceLT, Int.reduceNeg, Int.reduceSub, Int.reduceAdd, Int.reduceMul, rr_eq, e0, h0, List.cons_append, List.nil_append]
      refine wp.callOne (ints_vals _) 2 (viewL_cons_of view_row (viewL_cons_of (view_own (by rw [hp_map, hmap_cons, if_pos rfl]) (by omega)) viewL_nil_of)) ?_
      simp (disch := omega) only [Try.ntmps39, Try.results39, go_sem, Nat.reduceLT, Nat.reduceLeDiff, Nat.reduceEqDiff, Nat.reduceAdd, Nat.reduceSub, Nat.reduceMul, reduceIte, ↓reduceIte, reduceCtorEq, Int.reduceToNat, Int.reduceLE, Int.reduceLT, Int.reduceNeg, Int.reduceSub, Int.reduceAdd, Int.reduceMul, rr_eq]
      refine wc.callV 2 (viewL_cons_of view_row (viewL_cons_of (view_own (by rw [hp_map, hmap_cons, if_pos rfl]) (by omega)) viewL_nil_of)) ?_
      simp (disch := omega) only [Try.ntmps39, Try.results39, go_sem, Nat.reduceLT, Nat.reduceLeDiff, Nat.reduceEqDiff, Nat.reduceAdd, Nat.reduceSub, Nat.reduceMul, reduceIte, ↓reduceIte, reduceCtorEq, Int.reduceToNat, Int.reduceLE, Int.reduceLT, Int.reduceNeg, Int.reduceSub, Int.reduceAdd, Int.reduceMul, rr_eq]
      refine ⟨(s + 1, ob, nb2 + 1), ⟨hlt, fun h => by
        show ob < nb2 + 1
        have h : (bpv M (s + 1)).1.length ≠ 0 := h
        rw [hb1] at h
        have := hob h; omega⟩, by show M.length - (s + 1) < M.length - s; omega, Wk.ofH (by simp only [go_sem, ↓List.forall_mem_cons, List.not_mem_nil, false_implies, implies_true, and_true, true_and, and_self, Nat.reduceEqDiff, reduceIte, ↓reduceIte, ri_eq, Int.natCast_add, Int.cast_ofNat_Int, rr_eq, hb1]; try simp) ?_ (Nat.le_refl _)⟩
      show ∀ q ∈ nlH ob (bpv M (s + 1)).1, _
      rw [hb1]
      refine nlH_in fun h => ?_
      have := hob h
      show hmap _ ob = _
      simp (disch := omega) only [hmap_cons, if_neg]
      exact nlH_map h

theorem Try.implBP_n (M : List (List Int)) (hM : M.length ≤ 1048576) (hR : ∀ i, i < M.length → (mrow M i).length ≤ 1048576) (hw : ¬ WM M) : FCall Try.prog 39 [rr M] (fun r _ => r = .tup ([.slice none 0 0, .int .i64 (-1)].map .val)) := by
  have w1 := Try.implIsWM_ok M hM hR
  rw [isWM_f hw] at w1
  refine FCall.of_body Try.func39 rfl (by kernel_rfl) (by simp [Try.ntmps39]) ?_
  refine SW_of_vc Try.mixed _ _ _ (by kernel_rfl) ?_
  simp (disch := omega) only [Try.ntmps39, Try.results39, go_sem, Nat.reduceLT, Nat.reduceLeDiff, Nat.reduceEqDiff, Nat.reduceAdd, Nat.reduceSub, Nat.reduceMul, reduceIte, ↓reduceIte, reduceCtorEq, Int.reduceToNat, Int.reduceLE, Int.reduceLT, Int.reduceNeg, Int.reduceSub, Int.reduceAdd, Int.reduceMul, rr_eq]
  refine w1.callV 0 (viewL_cons_of (view_row) viewL_nil_of) ?_
  simp (disch := omega) only [Try.ntmps39, Try.results39, go_sem, Nat.reduceLT, Nat.reduceLeDiff, Nat.reduceEqDiff, Nat.reduceAdd, Nat.reduceSub, Nat.reduceMul, reduceIte, ↓reduceIte, reduceCtorEq, Int.reduceToNat, Int.reduceLE, Int.reduceLT, Int.reduceNeg, Int.reduceSub, Int.reduceAdd, Int.reduceMul, rr_eq]
  exact ⟨⟨fun _ => none, 0⟩, ⟨rfl, fun _ => .inl rfl⟩, by simp [noRow, noRowL], fun b blk hb => by simp at hb, rfl⟩
theorem view_tupJ {L : List Int} {n : Nat} {u : Int} {r r0 : SV} {H : Heap} (h : r = .tup [r0, .val (.int .i64 u)]) (hf : FlatRes n 1 (ints L) r0 H) : view H 3 r = some (.tup [ri L, .val (.int .i64 u)]) := by
  subst h
  have h1 : viewL H 2 [r0, .val (.int .i64 u)] = some [ri L, .val (.int .i64 u)] := viewL_cons_of (flat_view hf) (viewL_cons_of view_int viewL_nil_of)
  simp only [view, h1]
theorem bp_len {M : List (List Int)} (hw : WM M) : (bp M).1.length = M.length := by
  rw [bp_t hw]
  rcases bpv_inv hw M.length (Nat.le_refl _) with h | h
  · have := hw.1; omega
  · exact h.1
theorem Try.specBP_ok (M : List (List Int)) (hM : M.length ≤ 1048576) (hR : ∀ i, i < M.length → (mrow M i).length ≤ 1048576) : PCall Try.prog 38 [rr M] (.tup [ri (bp M).1, .val (.int .i64 (bp M).2)]) :=
  (Try.specBP_f M hM hR).pcall 3 (fun r H ⟨r0, h1, h2⟩ => view_tupJ h1 h2)
theorem Try.implBP_ok (M : List (List Int)) (hM : M.length ≤ 1048576) (hR : ∀ i, i < M.length → (mrow M i).length ≤ 1048576) : PCall Try.prog 39 [rr M] (.tup [ri (bp M).1, .val (.int .i64 (bp M).2)]) := by
  by_cases hw : WM M
  · exact (Try.implBP_f M hM hR hw).pcall 3 (fun r H ⟨r0, h1, h2⟩ => view_tupJ h1 h2)
  · rw [bp_f hw]
    refine (Try.implBP_n M hM hR hw).pcall 3 (by
      rintro r H rfl
      have h1 : viewL H 2 [.val (.slice none 0 0), .val (.int .i64 (-1))] = some [ri [], .val (.int .i64 (-1))] := viewL_cons_of view_nil (viewL_cons_of view_int viewL_nil_of)
      simp only [List.map_cons, List.map_nil, view, h1])
theorem Try.implBP_o (M : List (List Int)) (hM : M.length ≤ 1048576) (hR : ∀ i, i < M.length → (mrow M i).length ≤ 1048576) (hw : WM M) :
    FCall Try.prog 39 [rr M] (fun r H => r = .tup [.own 0 0 M.length M.length 1 false, .val (.int .i64 (bp M).2)] ∧ H = Heap.one ⟨ints (bp M).1, false⟩) := by
  have := (Try.implBP_f M hM hR hw).oneT
  rw [bp_len hw] at this
  exact this
end Go.Sh
