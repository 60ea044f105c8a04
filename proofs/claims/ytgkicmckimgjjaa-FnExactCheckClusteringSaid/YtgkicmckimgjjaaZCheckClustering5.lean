/-
  Texts put together: AD1, AD2, BA3, BA4, BA5, BA6, BA7, R1, R2, EC1, ECheckClustering. What each proves stands at its own head, with its conditions.
-/
import Derived.Test.YtgkicmckimgjjaaZCheckClustering4

/-
  The best of the orders that begin with each item: plain; of the reference.
-/
namespace Go.Sh
set_option linter.unusedSimpArgs false
set_option linter.unusedVariables false
open Go Go.Proofs

theorem rep_none (zs : List SV) : rep zs 0 = [] := rfl
/-- The first k items of the order that begins with s. -/
def rot (n s k : Nat) : List Int := (List.range k).map fun i => (((s + i) % n : Nat) : Int)
theorem rot_length (n s k : Nat) : (rot n s k).length = k := by simp [rot]
theorem rot_succ (n s k : Nat) : rot n s (k + 1) = rot n s k ++ [(((s + k) % n : Nat) : Int)] := by simp [rot, List.range_succ]
theorem rot_snoc (n s k : Nat) : ints (rot n s k) ++ [.val (.int .i64 (((s + k) % n : Nat) : Int))] = ints (rot n s (k + 1)) := by rw [rot_succ]; simp [ints]
theorem rot_ord {n s : Nat} (h0 : 1 ≤ n) (h8 : n ≤ 8) (hs : s < n) : isOrd n (rot n s n) = true := by
  have : ∀ n : _root_.Fin 9, ∀ s : _root_.Fin 9, 1 ≤ n.val → s.val < n.val → isOrd n.val (rot n.val s.val n.val) = true := by decide +kernel
  exact this ⟨n, by omega⟩ ⟨s, by omega⟩ h0 hs
noncomputable def bpv (M : List (List Int)) : Nat → List Int × Int
  | 0 => ([], -1)
  | s + 1 => if (bpv M s).2 < 0 ∨ cc M (piv M (rot M.length s M.length)) M.length < (bpv M s).2 then (piv M (rot M.length s M.length), cc M (piv M (rot M.length s M.length)) M.length) else bpv M s
theorem bpv_inv {M : List (List Int)} (hw : WM M) : ∀ s, s ≤ M.length → (s = 0 ∨ ((bpv M s).1.length = M.length ∧ 0 ≤ (bpv M s).2))
  | 0, _ => .inl rfl
  | s + 1, hs => by
    have ih := bpv_inv hw s (by omega)
    have hb := cc_b (L := piv M (rot M.length s M.length)) hw M.length (Nat.le_refl _)
    right
    rw [bpv]
    split
    · exact ⟨piv_length ⟨hw, rot_ord (by have := hw.1; omega) hw.1.2 (by omega)⟩, hb.1⟩
    · rename_i h
      rcases ih with rfl | ih
      · simp [bpv] at h
      · exact ih
theorem rot_mod (s k n : Nat) : ((s : Int) + (k : Int)).tmod (n : Int) = (((s + k) % n : Nat) : Int) := by
  rw [← Int.natCast_add]; exact (Int.ofNat_tmod _ _).symm
open Classical in
noncomputable def bp (M : List (List Int)) : List Int × Int := if WM M then bpv M M.length else ([], -1)
theorem bp_t {M : List (List Int)} (h : WM M) : bp M = bpv M M.length := by rw [bp, if_pos h]
theorem bp_f {M : List (List Int)} (h : ¬ WM M) : bp M = ([], -1) := by rw [bp, if_neg h]
abbrev BpR (p : List Int × Int) (r : SV) (H : Heap) : Prop := ∃ r0, r = .tup [r0, .val (.int .i64 p.2)] ∧ FlatRes p.1.length 1 (ints p.1) r0 H

set_option maxHeartbeats 4000000 in
theorem Try.specBP_f (M : List (List Int)) (hM : M.length ≤ 1048576) (hR : ∀ i, i < M.length → (mrow M i).length ≤ 1048576) : FCall Try.prog 45 [rr M] (BpR (bp M)) := by
  have w1 := Try.specIsWM_ok M hM hR
  refine FCall.of_body Try.func45 rfl (by kernel_rfl) (by simp [Try.ntmps45]) ?_
  refine SW_of_vc Try.mixed _ _ _ (by kernel_rfl) ?_
  by_cases hw : WM M
  case neg =>
    rw [isWM_f hw] at w1
    rw [bp_f hw]
    simp (disch := omega) only [Try.ntmps45, Try.results45, go_sem, rr_eq, rep_none]
    refine LoopW.loop (fun _ : Unit => ⟨ofL [(0, rr M), (4, .own 0 0 0 0 1 false), (5, .val (.int .i64 (-1))), (6, .val (.int .i64 0))], hp [(0, ⟨[], false⟩)] 1⟩) (fun _ => True) (fun _ => 0) () trivial (Wk.ofH (by simp only [go_sem, ↓List.forall_mem_cons, List.not_mem_nil, false_implies, implies_true, and_true, true_and, and_self, ri_eq, Int.natCast_add, Int.cast_ofNat_Int, rr_eq]; try simp) (by simp [hp, hmap, rep]) (by simp [hp])) ?_
    rintro _ _
    refine SW_of_vc Try.mixed _ _ _ (by kernel_rfl) ?_
    by_cases hz : 0 < M.length
    · simp (disch := omega) only [Try.ntmps45, Try.results45, go_sem, rr_eq]
      refine w1.callV 0 (viewL_cons_of (view_row) viewL_nil_of) ?_
      simp (disch := omega) only [Try.ntmps45, Try.results45, go_sem, rr_eq]
      exact fin_tup (by simp [ints]) (ints_vals _) (by rw [hp_map, hmap_cons, if_pos rfl]; rfl)
    · simp (disch := omega) only [Try.ntmps45, Try.results45, go_sem, rr_eq]
      exact fin_tup (by simp [ints]) (ints_vals _) (by rw [hp_map, hmap_cons, if_pos rfl]; rfl)
  rw [isWM_t hw] at w1
  rw [bp_t hw]
  have hln := hw.1
  simp (disch := omega) only [Try.ntmps45, Try.results45, go_sem, rr_eq, rep_none]
  refine LoopW.loop (fun p : Nat × Nat × Nat => ⟨ofL [(0, rr M), (4, .own p.2.1 0 (bpv M p.1).1.length (bpv M p.1).1.length 1 false), (5, .val (.int .i64 (bpv M p.1).2)), (6, .val (.int .i64 p.1))], hp [(p.2.1, ⟨ints (bpv M p.1).1, false⟩)] p.2.2⟩)
    (fun p => p.1 ≤ M.length ∧ p.2.1 < p.2.2) (fun p => M.length - p.1) (0, 0, 1) ⟨by simp, by simp⟩ (Wk.ofH (by simp only [go_sem, ↓List.forall_mem_cons, List.not_mem_nil, false_implies, implies_true, and_true, true_and, and_self, ri_eq, Int.natCast_add, Int.cast_ofNat_Int, rr_eq, bpv, List.length_nil]; try simp) (by simp [hp, hmap, rep, bpv, ints]) (by simp [hp])) ?_
  rintro ⟨s, ob, nb⟩ ⟨hs, hob⟩
  simp only at hs hob
  refine SW_of_vc Try.mixed _ _ _ (by kernel_rfl) ?_
  by_cases hlt : s < M.length
  case neg =>
    obtain rfl : s = M.length := by omega
    simp (disch := omega) only [Try.ntmps45, Try.results45, go_sem, rr_eq]
    exact fin_tup (by simp [ints]) (ints_vals _) (by rw [hp_map, hmap_cons, if_pos rfl])
  have hord := rot_ord (n := M.length) (s := s) (by omega) hw.1.2 hlt
  have hb := cc_b (L := piv M (rot M.length s M.length)) hw M.length (Nat.le_refl _)
  have hpl := piv_length ⟨hw, hord⟩
  have wp := (Try.specPiv_f M (rot M.length s M.length) hM hR (by rw [rot_length]; exact hM) ⟨hw, hord⟩).one
  have wc := Try.specCost_ok M (piv M (rot M.length s M.length)) hw hpl
  rw [hpl] at wc
  have hnext : bpv M (s + 1) = if (bpv M s).2 < 0 ∨ cc M (piv M (rot M.length s M.length)) M.length < (bpv M s).2 then (piv M (rot M.length s M.length), cc M (piv M (rot M.length s M.length)) M.length) else bpv M s := rfl
  generalize hb1 : bpv M (s + 1) = t2 at *
  generalize hb0 : bpv M s = t at *
  simp (disch := omega) only [Try.ntmps45, Try.results45, go_sem, rr_eq]
  refine w1.callV 0 (viewL_cons_of (view_row) viewL_nil_of) ?_
  simp (disch := omega) only [Try.ntmps45, Try.results45, go_sem, rr_eq, rep_none]
  refine LoopW.loop (fun p : Nat × Nat × Nat => ⟨ofL [(0, rr M), (4, .own ob 0 t.1.length t.1.length 1 false), (5, .val (.int .i64 t.2)), (6, .val (.int .i64 s)), (7, .own p.2.1 0 p.1 p.1 1 false), (8, .val (.int .i64 p.1))], hp [(p.2.1, ⟨ints (rot M.length s p.1), false⟩), (ob, ⟨ints t.1, false⟩)] p.2.2⟩)
    (fun p => p.1 ≤ M.length ∧ ob < p.2.1 ∧ p.2.1 < p.2.2) (fun p => M.length - p.1) (0, nb, nb + 1) ⟨by simp, hob, by simp⟩ (Wk.ofH (by simp only [go_sem, ↓List.forall_mem_cons, List.not_mem_nil, false_implies, implies_true, and_true, true_and, and_self, ri_eq, Int.natCast_add, Int.cast_ofNat_Int, rr_eq]; try simp) (by
      simp only [List.forall_mem_cons]
      refine ⟨by rw [hp_map, hmap_cons, if_pos rfl]; rfl, by simp (disch := omega) only [hp_map, hmap_cons, if_pos, if_neg, ↓reduceIte], by simp⟩) (Nat.le_refl _)) ?_
  rintro ⟨k, ob2, nb2⟩ ⟨hk, ho1, ho2⟩
  simp only at hk ho1 ho2
  refine SW_of_vc Try.mixed _ _ _ (by kernel_rfl) ?_
  have hrl := rot_length M.length s k
  by_cases hlt2 : k < M.length
  · have hm := rot_mod s k M.length
    have hsn := rot_snoc M.length s k
    have hlt3 : (s + k) % M.length < M.length := Nat.mod_lt _ (by omega)
    have hil : (ints (rot M.length s k)).length = k := by rw [ints_length, hrl]
    have hit : (ints (rot M.length s k)).take k = ints (rot M.length s k) := List.take_of_length_le (by omega)
    simp (disch := omega) only [Try.ntmps45, Try.results45, go_sem, rr_eq, hm, hil, hit, hsn]
    exact ⟨(k + 1, nb2 + 1, nb2 + 1 + 1), ⟨hlt2, by show ob < nb2 + 1; omega, by show nb2 + 1 < nb2 + 1 + 1; omega⟩, by show M.length - (k + 1) < M.length - k; omega, Wk.ofH (by simp only [go_sem, ↓List.forall_mem_cons, List.not_mem_nil, false_implies, implies_true, and_true, true_and, and_self, ri_eq, Int.natCast_add, Int.cast_ofNat_Int, rr_eq]; try simp) (by simp (disch := omega) only [go_sem, ↓List.forall_mem_cons, List.not_mem_nil, false_implies, implies_true, and_true, true_and, and_self, ri_eq, Int.natCast_add, Int.cast_ofNat_Int, if_pos, if_neg, Nat.reduceAdd, List.nil_append]; try simp) (Nat.le_refl _)⟩
  · obtain rfl : k = M.length := by omega
    by_cases hc : t.2 < 0
    · rw [if_pos (.inl hc)] at hnext
      subst hnext
      generalize piv M (rot M.length s M.length) = l at *
      generalize cc M l M.length = c at *
      simp (disch := omega) only [Try.ntmps45, Try.results45, go_sem, rr_eq]
      refine wp.callOne (ints_vals _) 2 (viewL_cons_of view_row (viewL_cons_of (view_own (by rw [hp_map, hmap_cons, if_pos rfl]) (by omega)) viewL_nil_of)) ?_
      simp (disch := omega) only [Try.ntmps45, Try.results45, go_sem, rr_eq]
      refine wc.callV 2 (viewL_cons_of view_row (viewL_cons_of (view_own (by rw [hp_map, hmap_cons, if_pos rfl]) (by omega)) viewL_nil_of)) ?_
      simp (disch := omega) only [Try.ntmps45, Try.results45, go_sem, rr_eq]
      exact ⟨(s + 1, nb2, nb2 + 1), ⟨hlt, by show nb2 < nb2 + 1; omega⟩, by show M.length - (s + 1) < M.length - s; omega, Wk.ofH (by simp only [go_sem, ↓List.forall_mem_cons, List.not_mem_nil, false_implies, implies_true, and_true, true_and, and_self, ri_eq, Int.natCast_add, Int.cast_ofNat_Int, rr_eq, hb1, hpl]; try simp) (by simp (disch := omega) only [go_sem, ↓List.forall_mem_cons, List.not_mem_nil, false_implies, implies_true, and_true, true_and, and_self, ri_eq, Int.natCast_add, Int.cast_ofNat_Int, if_pos, if_neg, Nat.reduceAdd, List.nil_append, hb1]; try simp) (Nat.le_refl _)⟩
    · by_cases hc2 : cc M (piv M (rot M.length s M.length)) M.length < t.2
      · rw [if_pos (.inr hc2)] at hnext
        subst hnext
        generalize piv M (rot M.length s M.length) = l at *
        generalize cc M l M.length = c at *
        simp (disch := omega) only [Try.ntmps45, Try.results45, go_sem, rr_eq]
        refine wp.callOne (ints_vals _) 2 (viewL_cons_of view_row (viewL_cons_of (view_own (by rw [hp_map, hmap_cons, if_pos rfl]) (by omega)) viewL_nil_of)) ?_
        simp (disch := omega) only [Try.ntmps45, Try.results45, go_sem, rr_eq]
        refine wc.callV 2 (viewL_cons_of view_row (viewL_cons_of (view_own (by rw [hp_map, hmap_cons, if_pos rfl]) (by omega)) viewL_nil_of)) ?_
        simp (disch := omega) only [Try.ntmps45, Try.results45, go_sem, rr_eq]
        exact ⟨(s + 1, nb2, nb2 + 1), ⟨hlt, by show nb2 < nb2 + 1; omega⟩, by show M.length - (s + 1) < M.length - s; omega, Wk.ofH (by simp only [go_sem, ↓List.forall_mem_cons, List.not_mem_nil, false_implies, implies_true, and_true, true_and, and_self, ri_eq, Int.natCast_add, Int.cast_ofNat_Int, rr_eq, hb1, hpl]; try simp) (by simp (disch := omega) only [go_sem, ↓List.forall_mem_cons, List.not_mem_nil, false_implies, implies_true, and_true, true_and, and_self, ri_eq, Int.natCast_add, Int.cast_ofNat_Int, if_pos, if_neg, Nat.reduceAdd, List.nil_append, hb1]; try simp) (Nat.le_refl _)⟩
      · rw [if_neg (fun h => h.elim hc hc2)] at hnext
        subst hnext
        generalize piv M (rot M.length s M.length) = l at *
        generalize cc M l M.length = c at *
        simp (disch := omega) only [Try.ntmps45, Try.results45, go_sem, rr_eq]
        refine wp.callOne (ints_vals _) 2 (viewL_cons_of view_row (viewL_cons_of (view_own (by rw [hp_map, hmap_cons, if_pos rfl]) (by omega)) viewL_nil_of)) ?_
        simp (disch := omega) only [Try.ntmps45, Try.results45, go_sem, rr_eq]
        refine wc.callV 2 (viewL_cons_of view_row (viewL_cons_of (view_own (by rw [hp_map, hmap_cons, if_pos rfl]) (by omega)) viewL_nil_of)) ?_
        simp (disch := omega) only [Try.ntmps45, Try.results45, go_sem, rr_eq]
        exact ⟨(s + 1, ob, nb2 + 1), ⟨hlt, by show ob < nb2 + 1; omega⟩, by show M.length - (s + 1) < M.length - s; omega, Wk.ofH (by simp only [go_sem, ↓List.forall_mem_cons, List.not_mem_nil, false_implies, implies_true, and_true, true_and, and_self, ri_eq, Int.natCast_add, Int.cast_ofNat_Int, rr_eq, hb1]; try simp) (by simp (disch := omega) only [go_sem, ↓List.forall_mem_cons, List.not_mem_nil, false_implies, implies_true, and_true, true_and, and_self, ri_eq, Int.natCast_add, Int.cast_ofNat_Int, if_pos, if_neg, Nat.reduceAdd, List.nil_append, hb1]; try simp) (Nat.le_refl _)⟩
end Go.Sh

/-
  The best of the orders that begin with each item: of the program.
-/
namespace Go.Sh
set_option linter.unusedSimpArgs false
set_option linter.unusedVariables false
open Go Go.Proofs

/-- A slice of ints that is nil as long as it is empty. -/
def nlI (b : Nat) (T : List Int) : SV := if T.length = 0 then .val (.slice none 0 0) else .own b 0 T.length T.length 1 false
def nlH (b : Nat) (T : List Int) : List (Nat × Blk) := if T.length = 0 then [] else [(b, ⟨ints T, false⟩)]
theorem nlI_f {b : Nat} {T : List Int} (h : T.length ≠ 0) : nlI b T = .own b 0 T.length T.length 1 false := if_neg h
theorem nlH_f {b : Nat} {T : List Int} (h : T.length ≠ 0) : nlH b T = [(b, ⟨ints T, false⟩)] := if_neg h
theorem nlI_t {b : Nat} {T : List Int} (h : T.length = 0) : nlI b T = .val (.slice none 0 0) := if_pos h
theorem nlH_t {b : Nat} {T : List Int} (h : T.length = 0) : nlH b T = [] := if_pos h
theorem nlH_in {b : Nat} {T : List Int} {H : Heap} (h : T.length ≠ 0 → H.map b = some ⟨ints T, false⟩) : ∀ q ∈ nlH b T, H.map q.1 = some q.2 := by
  intro q hq
  unfold nlH at hq
  split at hq
  · simp at hq
  · rename_i h0
    simp at hq; subst hq
    exact h h0
theorem nlH_map {b : Nat} {T : List Int} (h : T.length ≠ 0) : hmap (nlH b T) b = some ⟨ints T, false⟩ := by rw [nlH_f h, hmap_cons, if_pos rfl]

theorem nlI_nil (b : Nat) : nlI b [] = .val (.slice none 0 0) := rfl
theorem delB_nlH {b x : Nat} {T : List Int} (h : T.length ≠ 0 → b ≠ x) : delB (nlH b T) x = nlH b T := by
  by_cases h0 : T.length = 0
  · rw [nlH_t h0]; rfl
  · rw [nlH_f h0]; have := h h0; simp [delB, this]

set_option maxRecDepth 20000 in
set_option maxHeartbeats 8000000 in
theorem Try.implBP_f (M : List (List Int)) (hM : M.length ≤ 1048576) (hR : ∀ i, i < M.length → (mrow M i).length ≤ 1048576) (hw : WM M) : FCall Try.prog 44 [rr M] (BpR (bp M)) := by
  have w1 := Try.implIsWM_ok M hM hR
  rw [isWM_t hw] at w1
  rw [bp_t hw]
  have hln := hw.1
  refine FCall.of_body Try.func44 rfl (by kernel_rfl) (by simp [Try.ntmps44]) ?_
  refine SW_of_vc Try.mixed _ _ _ (by kernel_rfl) ?_
  simp (disch := omega) only [Try.ntmps44, Try.results44, go_sem, rr_eq]
  refine w1.callV 0 (viewL_cons_of (view_row) viewL_nil_of) ?_
  simp (disch := omega) only [Try.ntmps44, Try.results44, go_sem, rr_eq]
  clear w1
  refine LoopW.loop (fun p : Nat × Nat × Nat => ⟨ofL [(0, rr M), (4, nlI p.2.1 (bpv M p.1).1), (5, .val (.int .i64 (bpv M p.1).2)), (15, .val (.int .i64 M.length)), (16, .val (.int .i64 p.1))], hp (nlH p.2.1 (bpv M p.1).1) p.2.2⟩)
    (fun p => p.1 ≤ M.length ∧ ((bpv M p.1).1.length ≠ 0 → p.2.1 < p.2.2)) (fun p => M.length - p.1) (0, 0, 0) ⟨by simp, fun h => absurd rfl h⟩ (Wk.ofH (by simp only [go_sem, ↓List.forall_mem_cons, List.not_mem_nil, false_implies, implies_true, and_true, true_and, and_self, ri_eq, Int.natCast_add, Int.cast_ofNat_Int, rr_eq, bpv, nlI_nil]; try simp) (by simp [nlH, bpv]) (by simp [hp])) ?_
  rintro ⟨s, ob, nb⟩ ⟨hs, hob⟩
  simp only at hs hob
  refine SW_of_vc Try.mixed _ _ _ (by kernel_rfl) ?_
  by_cases hlt : s < M.length
  case neg =>
    obtain rfl : s = M.length := by omega
    have hl : (bpv M M.length).1.length ≠ 0 := by
      rcases bpv_inv hw M.length (Nat.le_refl _) with h | h
      · omega
      · omega
    have e1 := nlI_f (b := ob) hl
    have e2 := nlH_map (b := ob) hl
    simp (disch := omega) only [Try.ntmps44, Try.results44, go_sem, rr_eq, e1]
    exact fin_tup (by simp [ints]) (ints_vals _) (by rw [hp_map, e2])
  have hord := rot_ord (n := M.length) (s := s) (by omega) hw.1.2 hlt
  have hb := cc_b (L := piv M (rot M.length s M.length)) hw M.length (Nat.le_refl _)
  have hpl := piv_length ⟨hw, hord⟩
  have wp := Try.implPiv_one M (rot M.length s M.length) hM hR (by rw [rot_length]; exact hM) ⟨hw, hord⟩
  have wc := Try.implCost_ok M (piv M (rot M.length s M.length)) hw hpl
  rw [hpl] at wc
  have hnext : bpv M (s + 1) = if (bpv M s).2 < 0 ∨ cc M (piv M (rot M.length s M.length)) M.length < (bpv M s).2 then (piv M (rot M.length s M.length), cc M (piv M (rot M.length s M.length)) M.length) else bpv M s := rfl
  generalize hb1 : bpv M (s + 1) = t2 at *
  generalize hb0 : bpv M s = t at *
  simp (disch := omega) only [Try.ntmps44, Try.results44, go_sem, rr_eq]
  refine LoopW.loop (fun p : Nat × Nat × Nat => ⟨ofL [(0, rr M), (4, nlI ob t.1), (5, .val (.int .i64 t.2)), (6, .val (.int .i64 s)), (7, nlI p.2.1 (rot M.length s p.1)), (15, .val (.int .i64 M.length)), (16, .val (.int .i64 s)), (20, .val (.int .i64 M.length)), (21, .val (.int .i64 p.1))], hp (nlH p.2.1 (rot M.length s p.1) ++ nlH ob t.1) p.2.2⟩)
    (fun p => p.1 ≤ M.length ∧ nb ≤ p.2.2 ∧ (p.1 ≠ 0 → nb ≤ p.2.1 ∧ p.2.1 < p.2.2)) (fun p => M.length - p.1) (0, nb, nb) ⟨by simp, by simp, fun h => absurd rfl h⟩ (Wk.ofH (by simp only [go_sem, ↓List.forall_mem_cons, List.not_mem_nil, false_implies, implies_true, and_true, true_and, and_self, ri_eq, Int.natCast_add, Int.cast_ofNat_Int, rr_eq, nlI_t (T := rot M.length s 0) rfl]; try simp) (by
      rw [nlH_t (T := rot M.length s 0) rfl, List.nil_append]
      exact nlH_in fun h => by rw [hp_map, nlH_map h]) (Nat.le_refl _)) ?_
  rintro ⟨k, ob2, nb2⟩ ⟨hk, hn2, ho2⟩
  simp only at hk hn2 ho2
  refine SW_of_vc Try.mixed _ _ _ (by kernel_rfl) ?_
  have hrl := rot_length M.length s k
  by_cases hlt2 : k < M.length
  · have hm := rot_mod s k M.length
    have hsn := rot_snoc M.length s k
    have hlt3 : (s + k) % M.length < M.length := Nat.mod_lt _ (by omega)
    have hl2 := rot_length M.length s (k + 1)
    have e2 : ∀ b, nlI b (rot M.length s (k + 1)) = .own b 0 (k + 1) (k + 1) 1 false := fun b => by rw [nlI_f (by omega), hl2]
    have e3 : ∀ b, nlH b (rot M.length s (k + 1)) = [(b, ⟨ints (rot M.length s (k + 1)), false⟩)] := fun b => nlH_f (by omega)
    by_cases hz : k = 0
    · have hkl : (rot M.length s k).length = 0 := by omega
      have e0 := nlI_t (b := ob2) hkl
      have h0 := nlH_t (b := ob2) hkl
      have hsn0 : [SV.val (.int .i64 (((s + k) % M.length : Nat) : Int))] = ints (rot M.length s (k + 1)) := by rw [← hsn, List.length_eq_zero_iff.1 hkl]; rfl
      have e2z : ∀ b, nlI b (rot M.length s (k + 1)) = .own b 0 1 1 1 false := fun b => by
        have hk1 : k + 1 = 1 := by omega
        rw [e2, hk1]
      simp (disch := omega) only [Try.ntmps44, Try.results44, go_sem, rr_eq, hm, e0, h0, List.nil_append]
      refine ⟨(k + 1, nb2 + 1, nb2 + 1 + 1), ⟨hlt2, by show nb ≤ nb2 + 1 + 1; omega, fun _ => ⟨by show nb ≤ nb2 + 1; omega, by show nb2 + 1 < nb2 + 1 + 1; omega⟩⟩, by show M.length - (k + 1) < M.length - k; omega, Wk.ofH (by simp only [go_sem, ↓List.forall_mem_cons, List.not_mem_nil, false_implies, implies_true, and_true, true_and, and_self, ri_eq, Int.natCast_add, Int.cast_ofNat_Int, rr_eq, e2z]; try simp) ?_ (Nat.le_refl _)⟩
      show ∀ q ∈ nlH (nb2 + 1) (rot M.length s (k + 1)) ++ nlH ob t.1, _
      rw [e3, List.cons_append, List.nil_append, List.forall_mem_cons]
      refine ⟨?_, nlH_in fun h => ?_⟩
      · rw [← hsn0]; simp (disch := omega) only [hp_map, hmap_cons, if_pos, if_neg, ↓reduceIte]
      · have := hob h
        show hmap _ ob = _
        simp (disch := omega) only [hmap_cons, if_neg]
        exact nlH_map h
    · have hkl : (rot M.length s k).length ≠ 0 := by omega
      obtain ⟨o1, o2⟩ := ho2 hz
      have e0 := nlI_f (b := ob2) hkl
      have h0 := nlH_f (b := ob2) hkl
      rw [hrl] at e0
      have hil : (ints (rot M.length s k)).length = k := by rw [ints_length, hrl]
      have hit : (ints (rot M.length s k)).take k = ints (rot M.length s k) := List.take_of_length_le (by omega)
      have hdel : delB (nlH ob t.1) ob2 = nlH ob t.1 := delB_nlH fun h => by have := hob h; omega
      simp (disch := omega) only [Try.ntmps44, Try.results44, go_sem, rr_eq, hm, e0, h0, List.cons_append, List.nil_append, hil, hit, hsn, hdel]
      refine ⟨(k + 1, nb2 + 1, nb2 + 1 + 1), ⟨hlt2, by show nb ≤ nb2 + 1 + 1; omega, fun _ => ⟨by show nb ≤ nb2 + 1; omega, by show nb2 + 1 < nb2 + 1 + 1; omega⟩⟩, by show M.length - (k + 1) < M.length - k; omega, Wk.ofH (by simp only [go_sem, ↓List.forall_mem_cons, List.not_mem_nil, false_implies, implies_true, and_true, true_and, and_self, ri_eq, Int.natCast_add, Int.cast_ofNat_Int, rr_eq, e2]; try simp) ?_ (Nat.le_refl _)⟩
      show ∀ q ∈ nlH (nb2 + 1) (rot M.length s (k + 1)) ++ nlH ob t.1, _
      rw [e3, List.cons_append, List.nil_append, List.forall_mem_cons]
      refine ⟨?_, nlH_in fun h => ?_⟩
      · simp (disch := omega) only [hp_map, hmap_cons, if_pos, if_neg, ↓reduceIte]
      · have := hob h
        show hmap _ ob = _
        simp (disch := omega) only [hmap_cons, if_neg]
        exact nlH_map h
  · obtain rfl : k = M.length := by omega
    obtain ⟨o1, o2⟩ := ho2 (by omega)
    have hkl : (rot M.length s M.length).length ≠ 0 := by omega
    have e0 := nlI_f (b := ob2) hkl
    have h0 := nlH_f (b := ob2) hkl
    rw [hrl] at e0
    by_cases hc : t.2 < 0 ∨ cc M (piv M (rot M.length s M.length)) M.length < t.2
    · rw [if_pos hc] at hnext
      subst hnext
      generalize piv M (rot M.length s M.length) = l at *
      generalize cc M l M.length = c at *
      have e4 : ∀ b, nlI b l = .own b 0 M.length M.length 1 false := fun b => by rw [nlI_f (by omega), hpl]
      have e5 : ∀ b, nlH b l = [(b, ⟨ints l, false⟩)] := fun b => nlH_f (by omega)
      by_cases hc1 : t.2 < 0
      · simp (disch := omega) only [Try.ntmps44, Try.results44, go_sem, rr_eq, e0, h0, List.cons_append, List.nil_append]
        refine wp.callOne (ints_vals _) 2 (viewL_cons_of view_row (viewL_cons_of (view_own (by rw [hp_map, hmap_cons, if_pos rfl]) (by omega)) viewL_nil_of)) ?_
        simp (disch := omega) only [Try.ntmps44, Try.results44, go_sem, rr_eq]
        refine wc.callV 2 (viewL_cons_of view_row (viewL_cons_of (view_own (by rw [hp_map, hmap_cons, if_pos rfl]) (by omega)) viewL_nil_of)) ?_
        simp (disch := omega) only [Try.ntmps44, Try.results44, go_sem, rr_eq]
        refine ⟨(s + 1, nb2, nb2 + 1), ⟨hlt, fun _ => by show nb2 < nb2 + 1; omega⟩, by show M.length - (s + 1) < M.length - s; omega, Wk.ofH (by simp only [go_sem, ↓List.forall_mem_cons, List.not_mem_nil, false_implies, implies_true, and_true, true_and, and_self, ri_eq, Int.natCast_add, Int.cast_ofNat_Int, rr_eq, hb1, e4]; try simp) ?_ (Nat.le_refl _)⟩
        show ∀ q ∈ nlH nb2 (bpv M (s + 1)).1, _
        rw [hb1]
        exact nlH_in fun _ => by show hmap _ nb2 = _; rw [hmap_cons, if_pos rfl]
      · have hc2 : c < t.2 := hc.resolve_left hc1
        simp (disch := omega) only [Try.ntmps44, Try.results44, go_sem, rr_eq, e0, h0, List.cons_append, List.nil_append]
        refine wp.callOne (ints_vals _) 2 (viewL_cons_of view_row (viewL_cons_of (view_own (by rw [hp_map, hmap_cons, if_pos rfl]) (by omega)) viewL_nil_of)) ?_
        simp (disch := omega) only [Try.ntmps44, Try.results44, go_sem, rr_eq]
        refine wc.callV 2 (viewL_cons_of view_row (viewL_cons_of (view_own (by rw [hp_map, hmap_cons, if_pos rfl]) (by omega)) viewL_nil_of)) ?_
        simp (disch := omega) only [Try.ntmps44, Try.results44, go_sem, rr_eq]
        refine ⟨(s + 1, nb2, nb2 + 1), ⟨hlt, fun _ => by show nb2 < nb2 + 1; omega⟩, by show M.length - (s + 1) < M.length - s; omega, Wk.ofH (by simp only [go_sem, ↓List.forall_mem_cons, List.not_mem_nil, false_implies, implies_true, and_true, true_and, and_self, ri_eq, Int.natCast_add, Int.cast_ofNat_Int, rr_eq, hb1, e4]; try simp) ?_ (Nat.le_refl _)⟩
        show ∀ q ∈ nlH nb2 (bpv M (s + 1)).1, _
        rw [hb1]
        exact nlH_in fun _ => by show hmap _ nb2 = _; rw [hmap_cons, if_pos rfl]
    · rw [if_neg hc] at hnext
      subst hnext
      generalize piv M (rot M.length s M.length) = l at *
      generalize cc M l M.length = c at *
      have hc1 : ¬ t2.2 < 0 := fun h => hc (.inl h)
      have hc2 : ¬ c < t2.2 := fun h => hc (.inr h)
      simp (disch := omega) only [Try.ntmps44, Try.results44, go_sem, rr_eq, e0, h0, List.cons_append, List.nil_append]
      refine wp.callOne (ints_vals _) 2 (viewL_cons_of view_row (viewL_cons_of (view_own (by rw [hp_map, hmap_cons, if_pos rfl]) (by omega)) viewL_nil_of)) ?_
      simp (disch := omega) only [Try.ntmps44, Try.results44, go_sem, rr_eq]
      refine wc.callV 2 (viewL_cons_of view_row (viewL_cons_of (view_own (by rw [hp_map, hmap_cons, if_pos rfl]) (by omega)) viewL_nil_of)) ?_
      simp (disch := omega) only [Try.ntmps44, Try.results44, go_sem, rr_eq]
      refine ⟨(s + 1, ob, nb2 + 1), ⟨hlt, fun h => by
        show ob < nb2 + 1
        have h : (bpv M (s + 1)).1.length ≠ 0 := h
        rw [hb1] at h
        have := hob h; omega⟩, by show M.length - (s + 1) < M.length - s; omega, Wk.ofH (by simp only [go_sem, ↓List.forall_mem_cons, List.not_mem_nil, false_implies, implies_true, and_true, true_and, and_self, ri_eq, Int.natCast_add, Int.cast_ofNat_Int, rr_eq, hb1]; try simp) ?_ (Nat.le_refl _)⟩
      show ∀ q ∈ nlH ob (bpv M (s + 1)).1, _
      rw [hb1]
      refine nlH_in fun h => ?_
      have := hob h
      show hmap _ ob = _
      simp (disch := omega) only [hmap_cons, if_neg]
      exact nlH_map h

theorem Try.implBP_n (M : List (List Int)) (hM : M.length ≤ 1048576) (hR : ∀ i, i < M.length → (mrow M i).length ≤ 1048576) (hw : ¬ WM M) : FCall Try.prog 44 [rr M] (fun r _ => r = .tup ([.slice none 0 0, .int .i64 (-1)].map .val)) := by
  have w1 := Try.implIsWM_ok M hM hR
  rw [isWM_f hw] at w1
  refine FCall.of_body Try.func44 rfl (by kernel_rfl) (by simp [Try.ntmps44]) ?_
  refine SW_of_vc Try.mixed _ _ _ (by kernel_rfl) ?_
  simp (disch := omega) only [Try.ntmps44, Try.results44, go_sem, rr_eq]
  refine w1.callV 0 (viewL_cons_of (view_row) viewL_nil_of) ?_
  simp (disch := omega) only [Try.ntmps44, Try.results44, go_sem, rr_eq]
  exact ⟨⟨fun _ => none, 0⟩, ⟨rfl, fun _ => .inl rfl⟩, by simp [noRow, noRowL], fun b blk hb => by simp at hb, rfl⟩
theorem view_tupJ {L : List Int} {n : Nat} {u : Int} {r r0 : SV} {H : Heap} (h : r = .tup [r0, .val (.int .i64 u)]) (hf : FlatRes n 1 (ints L) r0 H) : view H 3 r = some (.tup [ri L, .val (.int .i64 u)]) := by
  subst h
  have h1 : viewL H 2 [r0, .val (.int .i64 u)] = some [ri L, .val (.int .i64 u)] := viewL_cons_of (flat_view hf) (viewL_cons_of view_int viewL_nil_of)
  simp only [view, h1]
theorem bp_len {M : List (List Int)} (hw : WM M) : (bp M).1.length = M.length := by
  rw [bp_t hw]
  rcases bpv_inv hw M.length (Nat.le_refl _) with h | h
  · have := hw.1; omega
  · exact h.1
theorem Try.specBP_ok (M : List (List Int)) (hM : M.length ≤ 1048576) (hR : ∀ i, i < M.length → (mrow M i).length ≤ 1048576) : PCall Try.prog 45 [rr M] (.tup [ri (bp M).1, .val (.int .i64 (bp M).2)]) :=
  (Try.specBP_f M hM hR).pcall 3 (fun r H ⟨r0, h1, h2⟩ => view_tupJ h1 h2)
theorem Try.implBP_ok (M : List (List Int)) (hM : M.length ≤ 1048576) (hR : ∀ i, i < M.length → (mrow M i).length ≤ 1048576) : PCall Try.prog 44 [rr M] (.tup [ri (bp M).1, .val (.int .i64 (bp M).2)]) := by
  by_cases hw : WM M
  · exact (Try.implBP_f M hM hR hw).pcall 3 (fun r H ⟨r0, h1, h2⟩ => view_tupJ h1 h2)
  · rw [bp_f hw]
    refine (Try.implBP_n M hM hR hw).pcall 3 (by
      rintro r H rfl
      have h1 : viewL H 2 [.val (.slice none 0 0), .val (.int .i64 (-1))] = some [ri [], .val (.int .i64 (-1))] := viewL_cons_of view_nil (viewL_cons_of view_int viewL_nil_of)
      simp only [List.map_cons, List.map_nil, view, h1])
theorem Try.implBP_o (M : List (List Int)) (hM : M.length ≤ 1048576) (hR : ∀ i, i < M.length → (mrow M i).length ≤ 1048576) (hw : WM M) :
    FCall Try.prog 44 [rr M] (fun r H => r = .tup [.own 0 0 M.length M.length 1 false, .val (.int .i64 (bp M).2)] ∧ H = Heap.one ⟨ints (bp M).1, false⟩) := by
  have := (Try.implBP_f M hM hR hw).oneT
  rw [bp_len hw] at this
  exact this
end Go.Sh

/-
  The search for the best partition: of the program.
-/
namespace Go.Sh
set_option linter.unusedSimpArgs false
set_option linter.unusedVariables false
open Go Go.Proofs

theorem hset_map (H : Heap) (b x : Nat) (k : Option Blk) : (H.set b k).map x = if x = b then k else H.map x := rfl
theorem hset_nb (H : Heap) (b : Nat) (k : Option Blk) : (H.set b k).nb = H.nb := rfl
theorem hpush_map (H : Heap) (x : Nat) (k : Blk) : (H.push k).map x = if x = H.nb then some k else H.map x := rfl
theorem hpush_nb (H : Heap) (k : Blk) : (H.push k).nb = H.nb + 1 := rfl

def yClos : SV := .clos (.func 152) [] [.optr 1 0, .optr 0 0, .optr 3 0, .optr 2 0, .optr 4 0]
def fClos : SV := .clos (.func 165) [] [.optr 5 0, .optr 6 0, .optr 8 0, .optr 9 0]
/-- What best and eachPartition hold in memory. -/
structure EH (M : List (List Int)) (C : List Con) (H : Heap) (s : BS) (fb : Nat) (W : List Int) : Prop where
  m0 : H.map 0 = some ⟨[rr M], true⟩
  m1 : H.map 1 = some ⟨[rc C], true⟩
  m2 : H.map 2 = some ⟨[nlI fb s.first], true⟩
  m3 : H.map 3 = some ⟨[.val (.int .i64 s.least)], true⟩
  m4 : H.map 4 = some ⟨[.val (.int .i64 s.count)], true⟩
  m5 : H.map 5 = some ⟨[.val (.int .i64 M.length)], true⟩
  m6 : H.map 6 = some ⟨[yClos], true⟩
  m7 : H.map 7 = some ⟨ints W, true⟩
  m8 : H.map 8 = some ⟨[.own 7 0 M.length M.length 1 true], true⟩
  m9 : H.map 9 = some ⟨[fClos], true⟩
  mf : s.first.length ≠ 0 → H.map fb = some ⟨ints s.first, false⟩
  bf : s.first.length ≠ 0 → 10 ≤ fb ∧ fb < H.nb
  nb : 10 ≤ H.nb
def EQ (M : List (List Int)) (C : List Con) (t : BS) (p : List Int) (n : Nat) (r : SV) (H' : Heap) : Prop := r = .tup [] ∧ ∃ fb', EH M C H' t fb' p ∧ n ≤ H'.nb

set_option maxRecDepth 20000 in
set_option maxHeartbeats 4000000 in
theorem Try.yield_ok {M : List (List Int)} {C : List Con} (hw : WM M) (hC : C.length ≤ 1048576) (s : BS) (p : List Int) (hpl : p.length = M.length) (hcnt : s.count ≤ 1000000000) (fb : Nat) (H : Heap) (h : EH M C H s fb p) :
    CallS Try.prog 152 [.own 7 0 M.length M.length 1 true, .optr 1 0, .optr 0 0, .optr 3 0, .optr 2 0, .optr 4 0] H (EQ M C (updB M C s p) p H.nb) := by
  have hln := hw.1
  have wk := Try.keeps_ok p C (by omega) hC
  have wc := Try.implCost_ok M p hw hpl
  rw [hpl] at wc
  have hc := cc_b (L := p) hw M.length (Nat.le_refl _)
  have hu : updB M C s p = updB M C s p := rfl
  conv at hu => rhs; rw [updB, hpl]
  generalize updB M C s p = t at *
  have hnb := h.nb
  have m0 := h.m0
  have m1 := h.m1
  have m2 := h.m2
  have m3 := h.m3
  have m4 := h.m4
  have m7 := h.m7
  refine CallS.of_body Try.func152 rfl (by kernel_rfl) (by simp [Try.ntmps152]) ?_
  refine SW_of_vc Try.mixed _ _ _ (by kernel_rfl) ?_
  rcases Bool.eq_false_or_eq_true (C.all (kp p)) with hk | hk
  · rw [hk] at wk
    rw [if_pos hk] at hu
    generalize hcc : cc M p M.length = z at *
    have wl := (Try.clone_f p (by omega) (by omega)).one
    by_cases g1 : s.least < 0 ∨ z < s.least
    · rw [if_pos g1] at hu
      have hfin : EQ M C t p H.nb (.tup []) ((((H.push ⟨ints p, false⟩).set 2 (some ⟨[.own H.nb 0 M.length M.length 1 false], true⟩)).set 3 (some ⟨[.val (.int .i64 z)], true⟩)).set 4 (some ⟨[.val (.int .i64 1)], true⟩)) := by
        subst hu
        refine ⟨rfl, H.nb, ⟨?_, ?_, ?_, ?_, ?_, ?_, ?_, ?_, ?_, ?_, ?_, ?_, ?_⟩, by simp only [hset_nb, hpush_nb]; omega⟩
        all_goals simp (disch := omega) only [hset_map, hpush_map, hset_nb, hpush_nb, if_neg, ↓reduceIte, Nat.reduceEqDiff, h.m0, h.m1, h.m5, h.m6, h.m7, h.m8, h.m9]
        · rw [nlI_f (by omega), hpl]
        · rfl
        · exact fun _ => trivial
        · intro _; omega
        · omega
      rw [hpl] at wl
      have p0 : ∀ k, (H.push k).map 2 = some ⟨[nlI fb s.first], true⟩ := fun k => by rw [hpush_map, if_neg (by omega), m2]
      have p1 : ∀ k, (H.push k).map 3 = some ⟨[.val (.int .i64 s.least)], true⟩ := fun k => by rw [hpush_map, if_neg (by omega), m3]
      have p2 : ∀ k, (H.push k).map 4 = some ⟨[.val (.int .i64 s.count)], true⟩ := fun k => by rw [hpush_map, if_neg (by omega), m4]
      simp (disch := omega) only [Try.ntmps152, Try.results152, go_sem, rc, m1]
      refine wk.callV 2 (viewL_cons_of (view_own (L := p) (e2 := true) m7 hpl.symm) (viewL_cons_of view_row viewL_nil_of)) ?_
      simp (disch := omega) only [Try.ntmps152, Try.results152, go_sem, rc, m0]
      refine wc.callV 2 (viewL_cons_of view_row (viewL_cons_of (view_own (L := p) (e2 := true) m7 hpl.symm) viewL_nil_of)) ?_
      have hgd : s.least < 0 ∨ (¬ s.least < 0 ∧ z < s.least) := by omega
      rcases hgd with hg | ⟨hg, hg2⟩
      · simp (disch := omega) only [Try.ntmps152, Try.results152, go_sem, rc, m3]
        refine wl.callOne (ints_vals _) 2 (viewL_cons_of (view_own (L := p) (e2 := true) m7 hpl.symm) viewL_nil_of) ?_
        simp (disch := omega) only [Try.ntmps152, Try.results152, go_sem, rc, p0, p1, p2, hset_map]
        exact hfin
      · simp (disch := omega) only [Try.ntmps152, Try.results152, go_sem, rc, m3]
        refine wl.callOne (ints_vals _) 2 (viewL_cons_of (view_own (L := p) (e2 := true) m7 hpl.symm) viewL_nil_of) ?_
        simp (disch := omega) only [Try.ntmps152, Try.results152, go_sem, rc, p0, p1, p2, hset_map]
        exact hfin
    · rw [if_neg g1] at hu
      by_cases g2 : z = s.least
      · rw [if_pos g2] at hu
        have hfin : EQ M C t p H.nb (.tup []) (H.set 4 (some ⟨[.val (.int .i64 ((s.count : Int) + 1))], true⟩)) := by
          subst hu
          refine ⟨rfl, fb, ⟨?_, ?_, ?_, ?_, ?_, ?_, ?_, ?_, ?_, ?_, fun hf => ?_, h.bf, h.nb⟩, by simp only [hset_nb]; omega⟩
          all_goals simp (disch := omega) only [hset_map, hset_nb, if_neg, ↓reduceIte, Nat.reduceEqDiff, h.m0, h.m1, h.m2, h.m3, h.m5, h.m6, h.m7, h.m8, h.m9]
          · rfl
          · have := h.bf hf
            rw [if_neg (by omega)]; exact h.mf hf
        simp (disch := omega) only [Try.ntmps152, Try.results152, go_sem, rc, m1]
        refine wk.callV 2 (viewL_cons_of (view_own (L := p) (e2 := true) m7 hpl.symm) (viewL_cons_of view_row viewL_nil_of)) ?_
        simp (disch := omega) only [Try.ntmps152, Try.results152, go_sem, rc, m0]
        refine wc.callV 2 (viewL_cons_of view_row (viewL_cons_of (view_own (L := p) (e2 := true) m7 hpl.symm) viewL_nil_of)) ?_
        simp (disch := omega) only [Try.ntmps152, Try.results152, go_sem, rc, m3, m4]
        exact hfin
      · rw [if_neg g2] at hu
        subst hu
        have hfin : EQ M C t p H.nb (.tup []) H := ⟨rfl, fb, h, Nat.le_refl _⟩
        simp (disch := omega) only [Try.ntmps152, Try.results152, go_sem, rc, m1]
        refine wk.callV 2 (viewL_cons_of (view_own (L := p) (e2 := true) m7 hpl.symm) (viewL_cons_of view_row viewL_nil_of)) ?_
        simp (disch := omega) only [Try.ntmps152, Try.results152, go_sem, rc, m0]
        refine wc.callV 2 (viewL_cons_of view_row (viewL_cons_of (view_own (L := p) (e2 := true) m7 hpl.symm) viewL_nil_of)) ?_
        simp (disch := omega) only [Try.ntmps152, Try.results152, go_sem, rc, m3]
        exact hfin
  · rw [hk] at wk
    rw [if_neg (by rw [hk]; simp)] at hu
    subst hu
    have hfin : EQ M C t p H.nb (.tup []) H := ⟨rfl, fb, h, Nat.le_refl _⟩
    simp (disch := omega) only [Try.ntmps152, Try.results152, go_sem, rc, m1]
    refine wk.callV 2 (viewL_cons_of (view_own (L := p) (e2 := true) m7 hpl.symm) (viewL_cons_of view_row viewL_nil_of)) ?_
    simp (disch := omega) only [Try.ntmps152, Try.results152, go_sem, rc]
    exact hfin

def FQ (M : List (List Int)) (C : List Con) (t : BS) (p : List Int) (n : Nat) (r : SV) (H' : Heap) : Prop := r = .tup [] ∧ ∃ fb' W', EH M C H' t fb' W' ∧ n ≤ H'.nb ∧ W'.length = M.length ∧ W'.take p.length = p
theorem EH.put {M : List (List Int)} {C : List Con} {H : Heap} {s : BS} {fb : Nat} {W V : List Int} (h : EH M C H s fb W) : EH M C (H.set 7 (some ⟨ints V, true⟩)) s fb V := by
  refine ⟨?_, ?_, ?_, ?_, ?_, ?_, ?_, ?_, ?_, ?_, fun hf => ?_, h.bf, h.nb⟩
  all_goals simp (disch := omega) only [hset_map, hset_nb, if_neg, ↓reduceIte, Nat.reduceEqDiff, h.m0, h.m1, h.m2, h.m3, h.m4, h.m5, h.m6, h.m8, h.m9]
  have := h.bf hf
  rw [if_neg (by omega)]; exact h.mf hf
theorem take_set {W p : List Int} {x : Int} (hl : p.length < W.length) (h : W.take p.length = p) : (W.set p.length x).take (p.length + 1) = p ++ [x] := by
  rw [List.take_succ_eq_append_getElem (by simpa using hl)]
  simp [List.take_set_of_le, h]
def eachTo (M : List (List Int)) (C : List Con) (k : Nat) (p : List Int) (nx : Nat) (s : BS) (x : Nat) : BS := (List.range x).foldl (fun s (x : Nat) => each (updB M C) k (p ++ [(x : Int)]) (max nx (x + 1)) s) s
theorem eachTo_succ {M : List (List Int)} {C : List Con} {k : Nat} {p : List Int} {nx : Nat} {s : BS} {x : Nat} : eachTo M C k p nx s (x + 1) = each (updB M C) k (p ++ [(x : Int)]) (max nx (x + 1)) (eachTo M C k p nx s x) := by
  rw [eachTo, List.range_succ, List.foldl_append]; rfl
theorem eachTo_count {M : List (List Int)} {C : List Con} {k : Nat} {p : List Int} {nx : Nat} {s : BS} {x : Nat} (hx : x ≤ nx + 1) (h : nx + (k + 1) ≤ 8) : (eachTo M C k p nx s x).count ≤ s.count + x * 9 ^ k :=
  foldl_count (g := fun s (x : Nat) => each (updB M C) k (p ++ [(x : Int)]) (max nx (x + 1)) s) (B := 9 ^ k) x s fun s y hy => each_count k _ _ s (by omega)

set_option maxRecDepth 20000 in
set_option maxHeartbeats 4000000 in
theorem Try.from_ok {M : List (List Int)} {C : List Con} (hw : WM M) (hC : C.length ≤ 1048576) : ∀ (k : Nat) (p W : List Int) (nx : Nat) (s : BS) (fb : Nat) (H : Heap), p.length + k = M.length → W.length = M.length → W.take p.length = p → nx + k ≤ 8 → s.count + 9 ^ k ≤ 1000000000 → EH M C H s fb W →
    CallS Try.prog 165 [.val (.int .i64 p.length), .val (.int .i64 nx), .optr 5 0, .optr 6 0, .optr 8 0, .optr 9 0] H (FQ M C (each (updB M C) k p nx s) p H.nb)
  | 0, p, W, nx, s, fb, H, hl, hWl, hW, hnx, hc, h => by
    have hln := hw.1
    have hWp : W = p := by rw [← hW, List.take_of_length_le (by omega)]
    subst hWp
    have wy := Try.yield_ok hw hC s W hWl (by omega) fb H h
    have m5 := h.m5
    have m6 := h.m6
    have m8 := h.m8
    rw [each]
    generalize updB M C s W = t at *
    rw [hWl]
    refine CallS.of_body Try.func165 rfl (by kernel_rfl) (by simp [Try.ntmps165]) ?_
    refine SW_of_vc Try.mixed _ _ _ (by kernel_rfl) ?_
    simp (disch := omega) only [Try.ntmps165, Try.results165, go_sem, m5, m6, m8, yClos]
    refine wy.callX ?_
    rintro r H' ⟨rfl, fb', h', hnb⟩
    have hfin : FQ M C t W H.nb (.tup []) H' := ⟨rfl, fb', W, h', hnb, hWl, List.take_length⟩
    simp (disch := omega) only [Try.ntmps165, Try.results165, go_sem]
    exact hfin
  | k + 1, p, W, nx, s, fb, H, hl, hWl, hW, hnx, hc, h => by
    have hln := hw.1
    have m5 := h.m5
    have he : each (updB M C) (k + 1) p nx s = eachTo M C k p nx s (nx + 1) := by rw [each]; rfl
    rw [he]
    have h9 : (nx + 1) * 9 ^ k ≤ 9 * 9 ^ k := mul9 (by omega)
    rw [Nat.pow_succ] at hc
    refine CallS.of_body Try.func165 rfl (by kernel_rfl) (by simp [Try.ntmps165]) ?_
    refine SW_of_vc Try.mixed _ _ _ (by kernel_rfl) ?_
    simp (disch := omega) only [Try.ntmps165, Try.results165, go_sem, m5]
    refine LoopW.loop (fun y : Nat × Nat × List Int × Heap => ⟨ofL [(0, .val (.int .i64 p.length)), (1, .val (.int .i64 nx)), (2, .optr 5 0), (3, .optr 6 0), (4, .optr 8 0), (5, .optr 9 0), (8, .val (.int .i64 y.1))], y.2.2.2⟩)
      (fun y => y.1 ≤ nx + 1 ∧ EH M C y.2.2.2 (eachTo M C k p nx s y.1) y.2.1 y.2.2.1 ∧ H.nb ≤ y.2.2.2.nb ∧ y.2.2.1.length = M.length ∧ y.2.2.1.take p.length = p) (fun y => nx + 1 - y.1) (0, fb, W, H) ⟨by simp, h, Nat.le_refl _, hWl, hW⟩ (Wk.of (by simp only [go_sem, ↓List.forall_mem_cons, List.not_mem_nil, false_implies, implies_true, and_true, true_and, and_self, ri_eq, Int.natCast_add, Int.cast_ofNat_Int]; try simp) rfl) ?_
    clear m5 h hWl hW
    rintro ⟨x, fb, W, H1⟩ ⟨hx, h, hnb, hWl, hW⟩
    simp only at hx h hnb hWl hW
    have m7 := h.m7
    have m8 := h.m8
    have m9 := h.m9
    refine SW_of_vc Try.mixed _ _ _ (by kernel_rfl) ?_
    by_cases hlt : x < nx + 1
    · have h2 := h.put (V := W.set p.length (x : Int))
      have hct := eachTo_count (M := M) (C := C) (p := p) (s := s) hx hnx
      have hx9 : (x + 1) * 9 ^ k ≤ (nx + 1) * 9 ^ k := mul9 (by omega)
      rw [Nat.succ_mul] at hx9
      have wf := Try.from_ok hw hC k (p ++ [(x : Int)]) (W.set p.length (x : Int)) (max nx (x + 1)) _ fb _ (by simp; omega) (by simpa using hWl) (by
        rw [List.length_append, List.length_singleton]; exact take_set (by omega) hW) (by omega) (by omega) h2
      rw [← eachTo_succ] at wf
      have hpl : (p ++ [(x : Int)]).length = p.length + 1 := by simp
      rw [hpl] at wf
      have hil : (ints W).length = M.length := by rw [ints_length, hWl]
      have hst : (ints W).set p.length (.val (.int .i64 (x : Int))) = ints (W.set p.length (x : Int)) := by simp [ints]
      simp (disch := omega) only [Try.ntmps165, Try.results165, go_sem, m7, m8, m9, hil, hst, hset_map, fClos]
      have c1 : ((p.length + 1 : Nat) : Int) = (p.length : Int) + 1 := by omega
      have c2 : ((max nx (x + 1) : Nat) : Int) = if (nx : Int) < (x : Int) + 1 then (x : Int) + 1 else (nx : Int) := by split <;> omega
      rw [c1, c2] at wf
      refine wf.callX ?_
      rintro r H2 ⟨rfl, fb2, W2, h3, hnb2, hW2l, hW2⟩
      rw [hpl] at hW2
      have hW3 : W2.take p.length = p := by
        have := congrArg (List.take p.length) hW2
        rw [List.take_take, Nat.min_eq_left (by omega)] at this
        rw [this]; simp
      have hnb3 : H1.nb ≤ H2.nb := hnb2
      simp (disch := omega) only [Try.ntmps165, Try.results165, go_sem]
      exact ⟨(x + 1, fb2, W2, H2), ⟨hlt, h3, Nat.le_trans hnb hnb3, hW2l, hW3⟩, by show nx + 1 - (x + 1) < nx + 1 - x; omega, Wk.of (by simp only [go_sem, ↓List.forall_mem_cons, List.not_mem_nil, false_implies, implies_true, and_true, true_and, and_self, ri_eq, Int.natCast_add, Int.cast_ofNat_Int]; try simp) rfl⟩
    · obtain rfl : x = nx + 1 := by omega
      have hfin : FQ M C (eachTo M C k p nx s (nx + 1)) p H.nb (.tup []) H1 := ⟨rfl, fb, W, h, hnb, hWl, hW⟩
      simp (disch := omega) only [Try.ntmps165, Try.results165, go_sem]
      exact hfin

def bH (M : List (List Int)) (C : List Con) : List (Nat × Blk) := [(4, ⟨[.val (.int .i64 0)], true⟩), (3, ⟨[.val (.int .i64 (-1))], true⟩), (2, ⟨[.val (.slice none 0 0)], true⟩), (1, ⟨[rc C], true⟩), (0, ⟨[rr M], true⟩)]
def BQ (M : List (List Int)) (C : List Con) (t : BS) (r : SV) (H' : Heap) : Prop := r = .tup [] ∧ ∃ fb' W', EH M C H' t fb' W'
set_option maxRecDepth 20000 in
set_option maxHeartbeats 4000000 in
theorem Try.eachPart_ok {M : List (List Int)} {C : List Con} (hw : WM M) (hC : C.length ≤ 1048576) :
    CallS Try.prog 151 [.val (.int .i64 M.length), yClos] (hp (bH M C) 5) (BQ M C (bs M C)) := by
  have hln := hw.1
  refine CallS.of_body Try.func151 rfl (by kernel_rfl) (by simp [Try.ntmps151]) ?_
  refine SW_of_vc Try.mixed _ _ _ (by kernel_rfl) ?_
  have hil : List.replicate M.length (SV.val (.int .i64 0)) = ints (List.replicate M.length 0) := by simp [ints]
  rw [bH]
  simp (disch := omega) only [Try.ntmps151, Try.results151, go_sem, yClos, hil]
  refine (Try.from_ok hw hC M.length [] (List.replicate M.length 0) 0 ⟨[], -1, 0⟩ 0 _ (by simp) (by simp) rfl (by omega) ?_ ⟨rfl, rfl, rfl, rfl, rfl, rfl, rfl, rfl, rfl, rfl, fun h => absurd rfl h, fun h => absurd rfl h, by simp [hp]⟩).callX ?_
  · have h9 : 9 ^ M.length ≤ 9 ^ 8 := Nat.pow_le_pow_right (by omega) hln.2
    show 0 + 9 ^ M.length ≤ 1000000000
    omega
  rintro r H' ⟨rfl, fb', W', h, _, _, _⟩
  have hfin : BQ M C (bs M C) (.tup []) H' := ⟨rfl, fb', W', h⟩
  simp (disch := omega) only [Try.ntmps151, Try.results151, go_sem]
  exact hfin

variable {P : Program}
theorem LRel.valsI {O : Nat → Prop} {w : World} {j : JMap} {us vs : List Value} (h : vs = us) : LRel O w j (us.map SV.val) vs := (LRel.vals us vs).2 h
theorem FCall.oneU {f : FuncId} {args : List SV} {n z : Nat} {cs : List SV} {us : List Value} (h : FCall P f args (fun r H => ∃ r0, r = .tup (r0 :: us.map .val) ∧ FlatRes n z cs r0 H)) :
    FCall P f args (fun r H => r = .tup (.own 0 0 n n z false :: us.map .val) ∧ H = Heap.one ⟨cs, false⟩) := by
  refine ⟨h.1, fun w vs hl => (h.2 w vs hl).mono ?_⟩
  rintro e w' ⟨v, r, j, H, h1, h2, h3, h4, h5, h6, h7, r0, rfl, h8⟩
  simp only [VRel, LRel] at h4
  obtain ⟨vs, rfl, x, rest, rfl, hx, hrest⟩ := h4
  obtain ⟨j', r', v', o'⟩ := one_rel h8 h3 hx
  have hr := (LRel.vals us rest).1 hrest
  refine ⟨_, _, j', _, h1, h2, r', ?_, fun k hk => h5 k (o' k hk), ?_, nr_one h8.vals, rfl, rfl⟩
  · simp only [VRel, LRel]
    exact ⟨_, rfl, _, _, rfl, by simpa only [VRel] using v', LRel.valsI hr⟩
  · simp only [noRow, noRowL, Bool.true_and]
    exact isVal_noRow (by simp [isVal])
theorem shiftL_vals (k : Nat) (us : List Value) : shiftL k (us.map SV.val) = us.map SV.val := isVal_shift (by simp [isVal])
theorem FCall.callOneU {f : FuncId} {args args' : List SV} {n z : Nat} {cs : List SV} {us : List Value} {H : Heap} {K : SV → Heap → Prop} (h : FCall P f args' (fun r H => r = .tup (.own 0 0 n n z false :: us.map .val) ∧ H = Heap.one ⟨cs, false⟩)) (hc : cs.all isVal = true) (fu : Nat) (hv : viewL H fu args = some args')
    (k : K (.tup (.own H.nb 0 n n z false :: us.map .val)) (H.push ⟨cs, false⟩)) : @CallX P f args H ⟨K⟩ := by
  refine ⟨h.1, fun j w vs r hl => ((h.callS fu hv).2 j w vs r hl).mono ?_⟩
  rintro e w' ⟨r1, v, j', H', h1, h2, h3, h4, r0, H0, ⟨rfl, rfl⟩, rfl, rfl⟩
  refine ⟨_, v, j', _, h1, h2, h3, h4, ?_⟩
  rw [merge_one r hc]
  simpa only [shift, shiftL, Nat.zero_add, shiftL_vals] using k
theorem fin_tupU {n z cap b : Nat} {ex e2 : Bool} {cs : List SV} {us : List Value} {H : Heap} (hn : cs.length = n * z) (hv : cs.all isVal = true) (hb : H.map b = some ⟨cs, e2⟩) :
    Fin (fun r H => ∃ r0, r = .tup (r0 :: us.map .val) ∧ FlatRes n z cs r0 H) (.tup (.own b 0 n cap z ex :: us.map .val)) H := by
  obtain ⟨H2, h1, h2, h3, h4⟩ := flat_fin (n := n) (z := z) (cap := cap) (ex := ex) hn hv hb
  refine ⟨H2, h1, ?_, h3, _, rfl, h4⟩
  simp only [noRow, noRowL, Bool.true_and]
  exact isVal_noRow (by simp [isVal])

theorem fin_tupV {R : SV → Heap → Prop} {us : List Value} {H : Heap} (h : R (.tup (us.map .val)) ⟨fun _ => none, H.nb⟩) : Fin R (.tup (us.map .val)) H :=
  ⟨⟨fun _ => none, H.nb⟩, ⟨rfl, fun _ => .inl rfl⟩, by simp only [noRow]; exact isVal_noRow (by simp [isVal]), fun b blk hb => by simp at hb, h⟩

set_option maxRecDepth 20000 in
set_option maxHeartbeats 4000000 in
theorem Try.best_f {M : List (List Int)} {C : List Con} (hw : WM M) (hC : C.length ≤ 1048576) (hcs : isCst M.length C = true) : FCall Try.prog 131 [rr M, rc C]
    (fun r H => ∃ r0, r = .tup (r0 :: [Value.int .i64 (bs M C).least, .int .i64 (bs M C).count].map .val) ∧ FlatRes M.length 1 (ints (bs M C).first) r0 H) := by
  have hln := hw.1
  have hfl := ((bs_best (C := C) hw).ok (bs_ok hw hcs)).1
  have we := Try.eachPart_ok hw hC
  rw [bH, yClos, rr_eq, rc] at we
  refine FCall.of_body Try.func131 rfl (by kernel_rfl) (by simp [Try.ntmps131]) ?_
  refine SW_of_vc Try.mixed _ _ _ (by kernel_rfl) ?_
  simp (disch := omega) only [Try.ntmps131, Try.results131, go_sem, rr_eq, rc]
  refine we.callX ?_
  rintro r H ⟨rfl, fb, W, h⟩
  have m2 := h.m2
  have m3 := h.m3
  have m4 := h.m4
  have mf := h.mf
  generalize bs M C = t at *
  have h0 : t.first.length ≠ 0 := by omega
  rw [nlI_f h0, hfl] at m2
  simp (disch := omega) only [Try.ntmps131, Try.results131, go_sem, rr_eq, rc, m2, m3, m4]
  exact fin_tupU (us := [.int .i64 t.least, .int .i64 t.count]) (by rw [ints_length]; omega) (ints_vals _) (mf h0)
end Go.Sh

/-
  The search for the best partition: of the reference.
-/
namespace Go.Sh
set_option linter.unusedSimpArgs false
set_option linter.unusedVariables false
open Go Go.Proofs

/-- One look at a constraint. -/
def badAt (p : List Int) (c : Con) : Bool := decide (c.2.1 = (p.length : Int) - 1) && (decide (p.getD c.1.toNat 0 = p.getD (p.length - 1) 0) != c.2.2)
theorem badK_eq (C : List Con) (p : List Int) : badK C p = C.any (badAt p) := rfl
theorem badC_of {C : List Con} {p : List Int} {i : Nat} (hi : i < C.length) (h : badAt p (cg C i) = true) : badK C p = true := by
  rw [badK_eq, List.any_eq_true]; exact ⟨_, cg_mem hi, h⟩
theorem badC_no {C : List Con} {p : List Int} (h : ∀ i, i < C.length → badAt p (cg C i) = false) : badK C p = false := by
  rw [badK_eq, List.any_eq_false]
  intro c hc
  obtain ⟨i, hi, rfl⟩ := List.getElem_of_mem hc
  have := h i hi
  simp only [cg, List.getD_eq_getElem?_getD, List.getElem?_eq_getElem hi, Option.getD_some] at this
  rw [this]; simp

set_option maxRecDepth 20000 in
set_option maxHeartbeats 4000000 in
theorem Try.l20Bad_ok (n : Nat) (M0 X Y Z : SV) (C : List Con) (p : List Int) (hn : n ≤ 8) (hC : areCons n C = true) (h1 : 1 ≤ p.length) (hpn : p.length ≤ n) :
    PCall Try.prog 135 [.rptr [M0, rc C, X, Y, Z] 0, ri p] (.val (.bool (badK C p))) := by
  obtain ⟨_, hCl, hCc⟩ := areCons_t hC
  have lC := cons_length C
  refine FCall.pcall (R := fun r _ => r = .val (.bool (badK C p))) ?_ 0 (by rintro r H rfl; exact view_bool)
  refine FCall.of_body Try.func135 rfl (by kernel_rfl) (by simp [Try.ntmps135]) ?_
  refine SW_of_vc Try.mixed _ _ _ (by kernel_rfl) ?_
  simp (disch := omega) only [Try.ntmps135, Try.results135, go_sem, rc]
  refine LoopW.loop (fun i : Nat => ⟨ofL [(0, .rptr [M0, rc C, X, Y, Z] 0), (1, ri p), (5, .val (.int .i64 ((p.length : Int) - 1))), (6, .val (.int .i64 i))], hp [] 0⟩)
    (fun i => i ≤ C.length ∧ ∀ k, k < i → badAt p (cg C k) = false) (fun i => C.length - i) 0 ⟨by omega, fun k h => absurd h (by omega)⟩ (Wk.of (by simp only [go_sem, ↓List.forall_mem_cons, List.not_mem_nil, false_implies, implies_true, and_true, true_and, and_self, ri_eq, Int.natCast_add, Int.cast_ofNat_Int, rc]; try simp) rfl) ?_
  rintro i ⟨hi, hno⟩
  refine SW_of_vc Try.mixed _ _ _ (by kernel_rfl) ?_
  by_cases hlt : i < C.length
  · obtain ⟨xa, ya, s, hc⟩ := con_ex C i
    have hm : (xa, ya, s) ∈ C := by rw [← hc]; exact cg_mem hlt
    obtain ⟨x1, x2, x3⟩ := hCc _ hm
    simp only at x1 x2 x3
    obtain ⟨x, rfl⟩ := Int.eq_ofNat_of_zero_le x1
    obtain ⟨y, rfl⟩ := Int.eq_ofNat_of_zero_le (by omega : 0 ≤ ya)
    obtain ⟨q1, q2, q3, _⟩ := cons_of hlt hc
    have hil : (ints p).length = p.length := ints_length p
    have hba : badAt p (cg C i) = (decide ((y : Int) = (p.length : Int) - 1) && (decide (p.getD x 0 = p.getD (p.length - 1) 0) != s)) := by rw [hc]; rfl
    have hnext : badAt p (cg C i) = false → ∀ k, k < i + 1 → badAt p (cg C k) = false := fun h k hk => by
      by_cases e : k = i
      · rw [e]; exact h
      · exact hno k (by omega)
    have hyes := badC_of (p := p) hlt
    by_cases c1 : (y : Int) = (p.length : Int) - 1
    · obtain ⟨m, hm⟩ : ∃ m, p.length = m + 1 := ⟨p.length - 1, by omega⟩
      have hy : y = m := by omega
      subst hy
      have e1 : p.length - 1 = y := by omega
      rw [e1, decide_eq_true c1, Bool.true_and] at hba
      have gx : (ints p)[x]? = some (.val (.int .i64 (p.getD x 0))) := ints_get (by omega)
      have gy : (ints p)[y]? = some (.val (.int .i64 (p.getD y 0))) := ints_get (by omega)
      have e2 : ((p.length : Int) - 1) = (y : Int) := by omega
      have e3 : IntKind.i64.wrap ((p.length : Int) - 1) = (y : Int) := by rw [e2]; exact wrap_id (by omega) (by omega)
      generalize p.getD x 0 = u at *
      generalize p.getD y 0 = v at *
      by_cases c2 : u = v
      · rw [decide_eq_true c2] at hba
        cases s with
        | true =>
          simp (disch := omega) only [Try.ntmps135, Try.results135, go_sem, rc, q1, q2, q3, gx, gy, hil, lC, e2]
          exact ⟨i + 1, ⟨hlt, hnext hba⟩, by omega, Wk.of (by simp only [go_sem, ↓List.forall_mem_cons, List.not_mem_nil, false_implies, implies_true, and_true, true_and, and_self, ri_eq, Int.natCast_add, Int.cast_ofNat_Int, rc, e2]; try simp) rfl⟩
        | false =>
          rw [hyes hba]
          simp (disch := omega) only [Try.ntmps135, Try.results135, go_sem, rc, q1, q2, q3, gx, gy, hil, lC, e2]
          exact Fin.val rfl
      · rw [decide_eq_false c2] at hba
        cases s with
        | false =>
          simp (disch := omega) only [Try.ntmps135, Try.results135, go_sem, rc, q1, q2, q3, gx, gy, hil, lC, e2]
          exact ⟨i + 1, ⟨hlt, hnext hba⟩, by omega, Wk.of (by simp only [go_sem, ↓List.forall_mem_cons, List.not_mem_nil, false_implies, implies_true, and_true, true_and, and_self, ri_eq, Int.natCast_add, Int.cast_ofNat_Int, rc, e2]; try simp) rfl⟩
        | true =>
          rw [hyes hba]
          simp (disch := omega) only [Try.ntmps135, Try.results135, go_sem, rc, q1, q2, q3, gx, gy, hil, lC, e2]
          exact Fin.val rfl
    · rw [decide_eq_false c1, Bool.false_and] at hba
      simp (disch := omega) only [Try.ntmps135, Try.results135, go_sem, rc, q1, q2, q3, lC]
      exact ⟨i + 1, ⟨hlt, hnext hba⟩, by omega, Wk.of (by simp only [go_sem, ↓List.forall_mem_cons, List.not_mem_nil, false_implies, implies_true, and_true, true_and, and_self, ri_eq, Int.natCast_add, Int.cast_ofNat_Int, rc]; try simp) rfl⟩
  · obtain rfl : i = C.length := by omega
    rw [badC_no hno]
    simp (disch := omega) only [Try.ntmps135, Try.results135, go_sem, rc]
    exact Fin.val rfl
end Go.Sh

/-
  The search for the best partition: the reference's walk.
-/
namespace Go.Sh
set_option linter.unusedSimpArgs false
set_option linter.unusedVariables false
open Go Go.Proofs

/-- What the reference's search holds in memory. -/
structure SHp (M : List (List Int)) (C : List Con) (H : Heap) (sb : Nat) (s : BS) (fb : Nat) : Prop where
  m : H.map sb = some ⟨[rr M, rc C, nlI fb s.first, .val (.int .i64 s.least), .val (.int .i64 s.count)], true⟩
  mf : s.first.length ≠ 0 → H.map fb = some ⟨ints s.first, false⟩ ∧ fb ≠ sb ∧ fb < H.nb
  sn : sb < H.nb
def WQ (M : List (List Int)) (C : List Con) (sb : Nat) (t : BS) (H : Heap) (r : SV) (H' : Heap) : Prop :=
  r = .tup [] ∧ H.nb ≤ H'.nb ∧ (∀ b, b < H.nb → b ≠ sb → H'.map b = H.map b) ∧ ∃ fb', SHp M C H' sb t fb'
structure XH (H1 H2 : Heap) (xb : Nat) (L : List Int) : Prop where
  mx : H2.map xb = some ⟨ints L, false⟩
  n1 : xb < H2.nb
  n2 : H1.nb ≤ xb
  fr : ∀ b, b < H1.nb → H2.map b = H1.map b
theorem SHp.xh {M : List (List Int)} {C : List Con} {H1 H2 : Heap} {sb fb xb : Nat} {s : BS} {L : List Int} (h : SHp M C H1 sb s fb) (x : XH H1 H2 xb L) : SHp M C H2 sb s fb := by
  have := x.n1
  have := x.n2
  have hs := h.sn
  exact ⟨by rw [x.fr _ hs]; exact h.m, fun hf => by
    obtain ⟨f1, f2, f3⟩ := h.mf hf
    exact ⟨by rw [x.fr _ f3]; exact f1, f2, by omega⟩, by omega⟩
theorem view_nlI {H : Heap} {f b : Nat} {T : List Int} (h : T.length ≠ 0 → H.map b = some ⟨ints T, false⟩) : view H (f + 1) (nlI b T) = some (ri T) := by
  by_cases h0 : T.length = 0
  · rw [nlI_t h0, List.length_eq_zero_iff.1 h0]; exact view_nil
  · rw [nlI_f h0]; exact view_own (h h0) rfl
def walkTo (M : List (List Int)) (C : List Con) (k : Nat) (p : List Int) (nx : Nat) (cost : Int) (s : BS) (x : Nat) : BS :=
  (List.range x).foldl (fun s (x : Nat) => if badK C (p ++ [(x : Int)]) = true then s else walkB M C k (p ++ [(x : Int)]) (max nx (x + 1)) (cost + wadd M p x p.length) s) s
theorem walkTo_succ {M : List (List Int)} {C : List Con} {k : Nat} {p : List Int} {nx : Nat} {cost : Int} {s : BS} {x : Nat} :
    walkTo M C k p nx cost s (x + 1) = if badK C (p ++ [(x : Int)]) = true then walkTo M C k p nx cost s x else walkB M C k (p ++ [(x : Int)]) (max nx (x + 1)) (cost + wadd M p x p.length) (walkTo M C k p nx cost s x) := by
  rw [walkTo, List.range_succ, List.foldl_append]; rfl
theorem walkTo_count {M : List (List Int)} {C : List Con} {k : Nat} {p : List Int} {nx : Nat} {cost : Int} {s : BS} {x : Nat} (hx : x ≤ nx + 1) (h : nx + (k + 1) ≤ 8) : (walkTo M C k p nx cost s x).count ≤ s.count + x * 9 ^ k :=
  foldl_count (g := fun s (x : Nat) => if badK C (p ++ [(x : Int)]) = true then s else walkB M C k (p ++ [(x : Int)]) (max nx (x + 1)) (cost + wadd M p x p.length) s) (B := 9 ^ k) x s fun s y hy => by
    show (if badK C (p ++ [(y : Int)]) = true then s else walkB M C k (p ++ [(y : Int)]) (max nx (y + 1)) (cost + wadd M p y p.length) s).count ≤ _
    split
    · exact Nat.le_add_right _ _
    · exact walk_count k _ _ _ s (by omega)

set_option maxRecDepth 20000 in
set_option maxHeartbeats 8000000 in
theorem Try.l20Walk_ok {M : List (List Int)} {C : List Con} (hw : WM M) (hC : areCons M.length C = true) (sb : Nat) : ∀ (k : Nat) (p : List Int) (nx : Nat) (cost : Int) (s : BS) (fb lb : Nat) (H : Heap), p.length + k = M.length → nx + k ≤ 8 → s.count + 9 ^ k ≤ 1000000000 → 0 ≤ cost → cost ≤ 8000 * p.length →
    H.map lb = some ⟨ints p, false⟩ → lb ≠ sb → lb < H.nb → SHp M C H sb s fb →
    CallS Try.prog 111 [.optr sb 0, .own lb 0 p.length p.length 1 false, .val (.int .i64 ((nx : Int) - 1)), .val (.int .i64 cost)] H (WQ M C sb (walkB M C k p nx cost s) H)
  | 0, p, nx, cost, s, fb, lb, H, hl, hnx, hct, hc0, hc1, hp, hls, hln, h => by
    have hM := hw.1
    have m := h.m
    have hrl := rows_length M
    by_cases g : 0 ≤ s.least ∧ s.least < cost
    · rw [walkB, if_pos g]
      have hfin : WQ M C sb s H (.tup []) H := ⟨rfl, Nat.le_refl _, fun _ _ _ => rfl, fb, h⟩
      obtain ⟨g1, g2⟩ := g
      refine CallS.of_body Try.func111 rfl (by kernel_rfl) (by simp [Try.ntmps111]) ?_
      refine SW_of_vc Try.mixed _ _ _ (by kernel_rfl) ?_
      simp (disch := omega) only [Try.ntmps111, Try.results111, go_sem, m, rr_eq, rc]
      exact hfin
    · rw [walkB, if_neg g, walkEnd]
      have hpl : p.length = M.length := by omega
      have hip : (ints p).length = p.length := ints_length p
      have htk : List.take p.length (ints p) = ints p := List.take_of_length_le (by omega)
      have hf := ints_flat p
      have hsn := h.sn
      have hp2 : ((H.push ⟨[], false⟩).map lb) = some ⟨ints p, false⟩ := by rw [hpush_map, if_neg (by omega), hp]
      have hp3 : ((H.push ⟨[], false⟩).map H.nb) = some ⟨[], false⟩ := by rw [hpush_map, if_pos rfl]
      by_cases g1 : s.least < 0 ∨ cost < s.least
      · rw [if_pos g1]
        have hgd : s.least < 0 ∨ (¬ s.least < 0 ∧ cost < s.least) := by omega
        rcases hgd with g2 | ⟨g2, g3⟩
        · refine CallS.of_body Try.func111 rfl (by kernel_rfl) (by simp [Try.ntmps111]) ?_
          refine SW_of_vc Try.mixed _ _ _ (by kernel_rfl) ?_
          simp (disch := omega) only [Try.ntmps111, Try.results111, go_sem, m, rr_eq, rc, hp, hip, htk, hf, hset_map, hpush_map, hset_nb, hpush_nb]
          refine ⟨rfl, ?_, fun b hb hbs => ?_, H.nb + 1, ?_, fun _ => ⟨?_, ?_, ?_⟩, ?_⟩
          · simp only [hset_nb, hpush_nb]; omega
          · simp (disch := omega) only [hset_map, hpush_map, hset_nb, hpush_nb, if_neg, ↓reduceIte]
          · rw [hset_map, if_pos rfl, rr_eq, rc, nlI_f (by show p.length ≠ 0; omega)]
            rfl
          · simp (disch := omega) only [hset_map, hpush_map, hset_nb, hpush_nb, if_neg, if_pos, ↓reduceIte]
          · omega
          · simp only [hset_nb, hpush_nb]; omega
          · simp only [hset_nb, hpush_nb]; omega
        · refine CallS.of_body Try.func111 rfl (by kernel_rfl) (by simp [Try.ntmps111]) ?_
          refine SW_of_vc Try.mixed _ _ _ (by kernel_rfl) ?_
          simp (disch := omega) only [Try.ntmps111, Try.results111, go_sem, m, rr_eq, rc, hp, hip, htk, hf, hset_map, hpush_map, hset_nb, hpush_nb]
          refine ⟨rfl, ?_, fun b hb hbs => ?_, H.nb + 1, ?_, fun _ => ⟨?_, ?_, ?_⟩, ?_⟩
          · simp only [hset_nb, hpush_nb]; omega
          · simp (disch := omega) only [hset_map, hpush_map, hset_nb, hpush_nb, if_neg, ↓reduceIte]
          · rw [hset_map, if_pos rfl, rr_eq, rc, nlI_f (by show p.length ≠ 0; omega)]
            rfl
          · simp (disch := omega) only [hset_map, hpush_map, hset_nb, hpush_nb, if_neg, if_pos, ↓reduceIte]
          · omega
          · simp only [hset_nb, hpush_nb]; omega
          · simp only [hset_nb, hpush_nb]; omega
      · rw [if_neg g1]
        refine CallS.of_body Try.func111 rfl (by kernel_rfl) (by simp [Try.ntmps111]) ?_
        refine SW_of_vc Try.mixed _ _ _ (by kernel_rfl) ?_
        simp (disch := omega) only [Try.ntmps111, Try.results111, go_sem, m, rr_eq, rc, hp, hip, htk, hf, hset_map, hpush_map, hset_nb, hpush_nb]
        refine ⟨rfl, Nat.le_refl _, fun b hb hbs => ?_, fb, ?_, fun hf0 => ?_, hsn⟩
        · rw [hset_map, if_neg hbs]
        · rw [hset_map, if_pos rfl, rr_eq, rc]
          rfl
        · obtain ⟨f1, f2, f3⟩ := h.mf hf0
          exact ⟨by rw [hset_map, if_neg f2, f1], f2, f3⟩
  | k + 1, p, nx, cost, s, fb, lb, H, hl, hnx, hct, hc0, hc1, hp, hls, hln, h => by
    have hM := hw.1
    have m := h.m
    have hrl := rows_length M
    by_cases g : 0 ≤ s.least ∧ s.least < cost
    · rw [walkB, if_pos g]
      have hfin : WQ M C sb s H (.tup []) H := ⟨rfl, Nat.le_refl _, fun _ _ _ => rfl, fb, h⟩
      obtain ⟨g1, g2⟩ := g
      refine CallS.of_body Try.func111 rfl (by kernel_rfl) (by simp [Try.ntmps111]) ?_
      refine SW_of_vc Try.mixed _ _ _ (by kernel_rfl) ?_
      simp (disch := omega) only [Try.ntmps111, Try.results111, go_sem, m, rr_eq, rc]
      exact hfin
    · rw [walkB, if_neg g]
      have hip : (ints p).length = p.length := ints_length p
      have htk : List.take p.length (ints p) = ints p := List.take_of_length_le (by omega)
      have hf := ints_flat p
      have hsn := h.sn
      have hwt : (List.range (nx + 1)).foldl (fun s (x : Nat) => if badK C (p ++ [(x : Int)]) = true then s else walkB M C k (p ++ [(x : Int)]) (max nx (x + 1)) (cost + wadd M p x p.length) s) s = walkTo M C k p nx cost s (nx + 1) := rfl
      rw [hwt]
      have h9 : (nx + 1) * 9 ^ k ≤ 9 * 9 ^ k := mul9 (by omega)
      rw [Nat.pow_succ] at hct
      refine CallS.of_body Try.func111 rfl (by kernel_rfl) (by simp [Try.ntmps111]) ?_
      refine SW.seqW ⟨ofL [(0, .optr sb 0), (1, .own lb 0 p.length p.length 1 false), (2, .val (.int .i64 ((nx : Int) - 1))), (3, .val (.int .i64 cost))], H⟩ ?_ ?_
      · refine SW_of_vc Try.mixed _ _ _ (by kernel_rfl) ?_
        have hgd : s.least < 0 ∨ (0 ≤ s.least ∧ cost ≤ s.least) := by omega
        rcases hgd with hg | ⟨hg, hg2⟩
        · simp (disch := omega) only [Try.ntmps111, Try.results111, go_sem, m, rr_eq, rc]
          exact Wk.of (by simp only [go_sem, ↓List.forall_mem_cons, List.not_mem_nil, false_implies, implies_true, and_true, true_and, and_self, ri_eq, Int.natCast_add, Int.cast_ofNat_Int]; try simp) rfl
        · simp (disch := omega) only [Try.ntmps111, Try.results111, go_sem, m, rr_eq, rc]
          exact Wk.of (by simp only [go_sem, ↓List.forall_mem_cons, List.not_mem_nil, false_implies, implies_true, and_true, true_and, and_self, ri_eq, Int.natCast_add, Int.cast_ofNat_Int]; try simp) rfl
      refine SW_of_vc Try.mixed _ _ _ (by kernel_rfl) ?_
      simp (disch := omega) only [Try.ntmps111, Try.results111, go_sem, m, rr_eq, rc, hp, hip, htk, hf, hset_map, hpush_map, hset_nb, hpush_nb]
      refine LoopW.loop (fun y : Nat × Nat × Heap => ⟨ofL [(0, .optr sb 0), (1, .own lb 0 p.length p.length 1 false), (2, .val (.int .i64 ((nx : Int) - 1))), (3, .val (.int .i64 cost)), (8, .val (.int .i64 p.length)), (9, .val (.int .i64 y.1))], y.2.2⟩)
        (fun y => y.1 ≤ nx + 1 ∧ SHp M C y.2.2 sb (walkTo M C k p nx cost s y.1) y.2.1 ∧ H.nb ≤ y.2.2.nb ∧ (∀ b, b < H.nb → b ≠ sb → y.2.2.map b = H.map b)) (fun y => nx + 1 - y.1) (0, fb, H)
        ⟨by simp, h, Nat.le_refl _, fun _ _ _ => rfl⟩ (Wk.of (by simp only [go_sem, ↓List.forall_mem_cons, List.not_mem_nil, false_implies, implies_true, and_true, true_and, and_self, ri_eq, Int.natCast_add, Int.cast_ofNat_Int]; try simp) rfl) ?_
      clear h m g hwt fb
      rintro ⟨x, fb, H1⟩ ⟨hx, h, hnb, hfr⟩
      simp only at hx h hnb hfr
      have m := h.m
      have hp1 : H1.map lb = some ⟨ints p, false⟩ := by rw [hfr lb hln hls, hp]
      by_cases hlt : x < nx + 1
      · have hxi : (x : Int) ≤ 8 := by omega
        have hsucc := walkTo_succ (M := M) (C := C) (k := k) (p := p) (nx := nx) (cost := cost) (s := s) (x := x)
        have hct1 := walkTo_count (M := M) (C := C) (k := k) (p := p) (cost := cost) (s := s) hx hnx
        have hx9 : (x + 1) * 9 ^ k ≤ (nx + 1) * 9 ^ k := mul9 (by omega)
        rw [Nat.succ_mul] at hx9
        generalize walkTo M C k p nx cost s x = t at *
        have wb := Try.l20Bad_ok M.length (rr M) (ri t.first) (.val (.int .i64 t.least)) (.val (.int .i64 t.count)) C (p ++ [(x : Int)]) hM.2 hC (by simp) (by simp; omega)
        have hl1 : (p ++ [(x : Int)]).length = p.length + 1 := by simp
        have hs2 := h.sn
        refine SW.seqW ⟨ofL [(0, .optr sb 0), (1, .own lb 0 p.length p.length 1 false), (2, .val (.int .i64 ((nx : Int) - 1))), (3, .val (.int .i64 cost)), (8, .val (.int .i64 p.length)), (9, .val (.int .i64 x))], H1⟩ ?_ ?_
        · refine SW_of_vc Try.mixed _ _ _ (by kernel_rfl) ?_
          simp (disch := omega) only [Try.ntmps111, Try.results111, go_sem]
          exact Wk.of (by simp only [go_sem, ↓List.forall_mem_cons, List.not_mem_nil, false_implies, implies_true, and_true, true_and, and_self, ri_eq, Int.natCast_add, Int.cast_ofNat_Int]; try simp) rfl
        refine SW.seq (SW.block ?_)
        refine SW.seqI (fun y : Nat × Heap => ⟨ofL [(0, .optr sb 0), (1, .own lb 0 p.length p.length 1 false), (2, .val (.int .i64 ((nx : Int) - 1))), (3, .val (.int .i64 cost)), (8, .val (.int .i64 p.length)), (9, .val (.int .i64 x)), (10, .own y.1 0 (p.length + 1) (p.length + 1) 1 false)], y.2⟩) (fun y => XH H1 y.2 y.1 (p ++ [(x : Int)])) ?_ ?_
        · refine SW_of_vc Try.mixed _ _ _ (by kernel_rfl) ?_
          by_cases h0 : p.length = 0
          · have hi0 : ints p = [] := by rw [List.length_eq_zero_iff.1 h0]; rfl
            have hi1 : [SV.val (.int .i64 (x : Int))] = ints (p ++ [(x : Int)]) := by rw [List.length_eq_zero_iff.1 h0]; rfl
            simp (disch := omega) only [Try.ntmps111, Try.results111, go_sem, m, rr_eq, rc, hp1, hip, htk, hf, hset_map, hpush_map, hset_nb, hpush_nb, hi0, h0]
            refine ⟨(H1.nb + 1 + 1, _), ?_, Wk.of (by simp only [go_sem, ↓List.forall_mem_cons, List.not_mem_nil, false_implies, implies_true, and_true, true_and, and_self, ri_eq, Int.natCast_add, Int.cast_ofNat_Int, h0]; try simp) rfl⟩
            rw [hi1]
            exact ⟨by simp (disch := omega) only [hset_map, hpush_map, hset_nb, hpush_nb, if_neg, if_pos, ↓reduceIte], by simp only [hset_nb, hpush_nb]; omega, by show H1.nb ≤ H1.nb + 1 + 1; omega, fun b hb => by simp (disch := omega) only [hset_map, hpush_map, hset_nb, hpush_nb, if_neg, ↓reduceIte]⟩
          · simp (disch := omega) only [Try.ntmps111, Try.results111, go_sem, m, rr_eq, rc, hp1, hip, htk, hf, hset_map, hpush_map, hset_nb, hpush_nb]
            refine ⟨(H1.nb + 1 + 1 + 1, _), ?_, Wk.of (by simp only [go_sem, ↓List.forall_mem_cons, List.not_mem_nil, false_implies, implies_true, and_true, true_and, and_self, ri_eq, Int.natCast_add, Int.cast_ofNat_Int]; try simp) rfl⟩
            exact ⟨by simp (disch := omega) only [hset_map, hpush_map, hset_nb, hpush_nb, if_neg, if_pos, ↓reduceIte], by simp only [hset_nb, hpush_nb]; omega, by show H1.nb ≤ H1.nb + 1 + 1 + 1; omega, fun b hb => by simp (disch := omega) only [hset_map, hpush_map, hset_nb, hpush_nb, if_neg, ↓reduceIte]⟩
        rintro ⟨xb, H2⟩ hX
        simp only at hX
        have h2 := h.xh hX
        have hn1 := hX.n1
        have hn2' := hX.n2
        have hn2 : H1.nb ≤ H2.nb := by omega
        have hfr2 : ∀ b, b < H.nb → b ≠ sb → H2.map b = H.map b := fun b hb hbs => by rw [hX.fr b (by omega), hfr b hb hbs]
        have m2 := h2.m
        have hp2 : H2.map lb = some ⟨ints p, false⟩ := by rw [hX.fr lb (by omega), hp1]
        refine SW_of_vc Try.mixed _ _ _ (by kernel_rfl) ?_
        rcases Bool.eq_false_or_eq_true (badK C (p ++ [(x : Int)])) with hb | hb
        · rw [hb] at wb
          rw [if_pos hb] at hsucc
          simp (disch := omega) only [Try.ntmps111, Try.results111, go_sem]
          refine wb.callV 4 (viewL_cons_of (view_optr m2 (viewL_cons_of view_row (viewL_cons_of view_row (viewL_cons_of (view_nlI fun hf0 => (h2.mf hf0).1) (viewL_cons_of view_int (viewL_cons_of view_int viewL_nil_of)))))) (viewL_cons_of (view_own hX.mx hl1.symm) viewL_nil_of)) ?_
          simp (disch := omega) only [Try.ntmps111, Try.results111, go_sem]
          refine SW_of_vc Try.mixed _ _ _ (by kernel_rfl) ?_
          simp (disch := omega) only [Try.ntmps111, Try.results111, go_sem]
          exact ⟨(x + 1, fb, H2), ⟨hlt, hsucc ▸ h2, Nat.le_trans hnb hn2, hfr2⟩, by show nx + 1 - (x + 1) < nx + 1 - x; omega, Wk.of (by simp only [go_sem, ↓List.forall_mem_cons, List.not_mem_nil, false_implies, implies_true, and_true, true_and, and_self, ri_eq, Int.natCast_add, Int.cast_ofNat_Int]; try simp) rfl⟩
        · rw [hb] at wb
          rw [if_neg (by rw [hb]; simp)] at hsucc
          simp (disch := omega) only [Try.ntmps111, Try.results111, go_sem]
          refine wb.callV 4 (viewL_cons_of (view_optr m2 (viewL_cons_of view_row (viewL_cons_of view_row (viewL_cons_of (view_nlI fun hf0 => (h2.mf hf0).1) (viewL_cons_of view_int (viewL_cons_of view_int viewL_nil_of)))))) (viewL_cons_of (view_own hX.mx hl1.symm) viewL_nil_of)) ?_
          simp (disch := omega) only [Try.ntmps111, Try.results111, go_sem]
          have hw0 : cost + wadd M p x 0 = cost := by show cost + 0 = cost; omega
          refine LoopW.loop (fun i : Nat => ⟨ofL [(0, .optr sb 0), (1, .own lb 0 p.length p.length 1 false), (2, .val (.int .i64 ((nx : Int) - 1))), (3, .val (.int .i64 cost)), (8, .val (.int .i64 p.length)), (9, .val (.int .i64 x)), (10, .own xb 0 (p.length + 1) (p.length + 1) 1 false), (11, .val (.int .i64 (cost + wadd M p x i))), (12, .val (.int .i64 i))], H2⟩) (fun i => i ≤ p.length) (fun i => p.length - i) 0 (by omega) (Wk.of (by simp only [go_sem, ↓List.forall_mem_cons, List.not_mem_nil, false_implies, implies_true, and_true, true_and, and_self, ri_eq, Int.natCast_add, Int.cast_ofNat_Int, hw0]; try simp) rfl) ?_
          intro i hi
          refine SW_of_vc Try.mixed _ _ _ (by kernel_rfl) ?_
          by_cases hli : i < p.length
          · have hri := hw.2.1 i (by omega)
            have hmb := (hw.2.2.1 i p.length (by omega) (by omega)).1
            have gm : (ints (mrow M i))[p.length]? = some (.val (.int .i64 (mat M i p.length))) := ints_get' hri (by omega)
            have gp : (ints p)[i]? = some (.val (.int .i64 (p.getD i 0))) := ints_get hli
            have hwb := wadd_b hw (p := p) (x := x) (by omega) (t := i) (by omega)
            have hws : wadd M p x (i + 1) = wadd M p x i + (if p.getD i 0 = x then max 0 (-mat M i p.length) else max 0 (mat M i p.length)) := rfl
            generalize hw1 : wadd M p x (i + 1) = w1 at *
            generalize mat M i p.length = v at *
            generalize p.getD i 0 = u at *
            generalize wadd M p x i = wv at *
            rcases (by omega : 0 < v ∨ v = 0 ∨ v < 0) with hv | hv | hv
            · by_cases hu : u = (x : Int)
              · have he : w1 = wv := by rw [hws, if_pos hu]; omega
                simp (disch := omega) only [Try.ntmps111, Try.results111, go_sem, m2, rr_eq, rc, rows_get, hri, gm, gp, hp2, hip, hrl]
                exact ⟨i + 1, by omega, by omega, Wk.of (by simp only [go_sem, ↓List.forall_mem_cons, List.not_mem_nil, false_implies, implies_true, and_true, true_and, and_self, ri_eq, Int.natCast_add, Int.cast_ofNat_Int, hw1, he]; try simp) rfl⟩
              · have he : cost + w1 = cost + wv + v := by rw [hws, if_neg hu]; omega
                simp (disch := omega) only [Try.ntmps111, Try.results111, go_sem, m2, rr_eq, rc, rows_get, hri, gm, gp, hp2, hip, hrl]
                exact ⟨i + 1, by omega, by omega, Wk.of (by simp only [go_sem, ↓List.forall_mem_cons, List.not_mem_nil, false_implies, implies_true, and_true, true_and, and_self, ri_eq, Int.natCast_add, Int.cast_ofNat_Int, hw1, he]; try simp) rfl⟩
            · have he : w1 = wv := by rw [hws, hv]; split <;> omega
              simp (disch := omega) only [Try.ntmps111, Try.results111, go_sem, m2, rr_eq, rc, rows_get, hri, gm, gp, hp2, hip, hrl, hv]
              exact ⟨i + 1, by omega, by omega, Wk.of (by simp only [go_sem, ↓List.forall_mem_cons, List.not_mem_nil, false_implies, implies_true, and_true, true_and, and_self, ri_eq, Int.natCast_add, Int.cast_ofNat_Int, hw1, he]; try simp) rfl⟩
            · by_cases hu : u = (x : Int)
              · have he : cost + w1 = cost + wv - v := by rw [hws, if_pos hu]; omega
                simp (disch := omega) only [Try.ntmps111, Try.results111, go_sem, m2, rr_eq, rc, rows_get, hri, gm, gp, hp2, hip, hrl]
                exact ⟨i + 1, by omega, by omega, Wk.of (by simp only [go_sem, ↓List.forall_mem_cons, List.not_mem_nil, false_implies, implies_true, and_true, true_and, and_self, ri_eq, Int.natCast_add, Int.cast_ofNat_Int, hw1, he]; try simp) rfl⟩
              · have he : w1 = wv := by rw [hws, if_neg hu]; omega
                simp (disch := omega) only [Try.ntmps111, Try.results111, go_sem, m2, rr_eq, rc, rows_get, hri, gm, gp, hp2, hip, hrl]
                exact ⟨i + 1, by omega, by omega, Wk.of (by simp only [go_sem, ↓List.forall_mem_cons, List.not_mem_nil, false_implies, implies_true, and_true, true_and, and_self, ri_eq, Int.natCast_add, Int.cast_ofNat_Int, hw1, he]; try simp) rfl⟩
          · obtain rfl : i = p.length := by omega
            have hwb := wadd_b hw (p := p) (x := x) (by omega) (t := p.length) (Nat.le_refl _)
            have ih := Try.l20Walk_ok hw hC sb k (p ++ [(x : Int)]) (max nx (x + 1)) (cost + wadd M p x p.length) t fb xb H2 (by rw [hl1]; omega) (by omega) (by omega) (by omega) (by rw [hl1]; omega) hX.mx (by omega) hX.n1 h2
            rw [hl1, ← hsucc] at ih
            have c2 : ((max nx (x + 1) : Nat) : Int) - 1 = if (nx : Int) - 1 < (x : Int) then (x : Int) else (nx : Int) - 1 := by split <;> omega
            rw [c2] at ih
            simp (disch := omega) only [Try.ntmps111, Try.results111, go_sem]
            refine ih.callX ?_
            rintro r H3 ⟨rfl, hn3, hfr3, fb3, h3⟩
            simp (disch := omega) only [Try.ntmps111, Try.results111, go_sem]
            refine SW_of_vc Try.mixed _ _ _ (by kernel_rfl) ?_
            simp (disch := omega) only [Try.ntmps111, Try.results111, go_sem]
            exact ⟨(x + 1, fb3, H3), ⟨hlt, h3, by show H.nb ≤ H3.nb; omega, fun b hb hbs => by rw [hfr3 b (by omega) hbs, hfr2 b hb hbs]⟩, by show nx + 1 - (x + 1) < nx + 1 - x; omega, Wk.of (by simp only [go_sem, ↓List.forall_mem_cons, List.not_mem_nil, false_implies, implies_true, and_true, true_and, and_self, ri_eq, Int.natCast_add, Int.cast_ofNat_Int]; try simp) rfl⟩
      · obtain rfl : x = nx + 1 := by omega
        have hfin : WQ M C sb (walkTo M C k p nx cost s (nx + 1)) H (.tup []) H1 := ⟨rfl, hnb, hfr, fb, h⟩
        refine SW_of_vc Try.mixed _ _ _ (by kernel_rfl) ?_
        simp (disch := omega) only [Try.ntmps111, Try.results111, go_sem]
        exact hfin
end Go.Sh

/-
  The best partition: the contracts of the reference.
-/
namespace Go.Sh
set_option linter.unusedSimpArgs false
set_option linter.unusedVariables false
open Go Go.Proofs

def okB (M : List (List Int)) (C : List Con) : Prop := WM M ∧ isCst M.length C = true
def RQ (M : List (List Int)) (C : List Con) (r : SV) (H' : Heap) : Prop :=
  ∃ fb, r = .tup [.agg [rr M, rc C, .own fb 0 M.length M.length 1 false, .val (.int .i64 (bs M C).least), .val (.int .i64 (bs M C).count)], .val (.bool true)] ∧ H'.map fb = some ⟨ints (bs M C).first, false⟩ ∧ fb < H'.nb
set_option maxRecDepth 20000 in
set_option maxHeartbeats 4000000 in
theorem Try.l20Run_ok {M : List (List Int)} {C : List Con} (hM : M.length ≤ 1048576) (hR : ∀ i, i < M.length → (mrow M i).length ≤ 1048576) (hC : C.length ≤ 1048576) (h : okB M C) :
    CallS Try.prog 76 [rr M, rc C] (hp [] 0) (RQ M C) := by
  obtain ⟨hw, hcs⟩ := h
  have hln := hw.1
  have ha := isCst_t hcs
  have w1 := Try.specIsWM_ok M hM hR
  rw [isWM_t hw] at w1
  have w2 := Try.specConsistent_ok M.length C hC (by omega) (by omega)
  rw [hcs] at w2
  have hbl := (bs_best (C := C) hw).ok (bs_ok hw hcs)
  refine CallS.of_body Try.func76 rfl (by kernel_rfl) (by simp [Try.ntmps76]) ?_
  refine SW_of_vc Try.mixed _ _ _ (by kernel_rfl) ?_
  simp (disch := omega) only [Try.ntmps76, Try.results76, go_sem, rr_eq, rc]
  refine w1.callV 0 (viewL_cons_of (view_row) viewL_nil_of) ?_
  simp (disch := omega) only [Try.ntmps76, Try.results76, go_sem, rr_eq, rc]
  refine w2.callV 0 (viewL_cons_of (view_int) (viewL_cons_of (view_row) viewL_nil_of)) ?_
  simp (disch := omega) only [Try.ntmps76, Try.results76, go_sem, rr_eq, rc]
  refine (Try.l20Walk_ok hw ha 1 M.length [] 0 0 ⟨[], -1, 0⟩ 0 2 _ (by simp) (by omega) ?_ (by omega) (by simp) rfl (by omega) (by simp [hp]) ⟨by rw [rr_eq, rc]; rfl, fun hf => absurd rfl hf, by simp [hp]⟩).callX ?_
  · have h9 : 9 ^ M.length ≤ 9 ^ 8 := Nat.pow_le_pow_right (by omega) hln.2
    show 0 + 9 ^ M.length ≤ 1000000000
    omega
  rw [bs_walk hw ha]
  rintro r H' ⟨rfl, hnb, hfr, fb, hs⟩
  have m := hs.m
  have m0 : H'.map 0 = some ⟨[.val (.slice none 0 0), .val (.slice none 0 0), .val (.slice none 0 0), .val (.int .i64 0), .val (.int .i64 0)], true⟩ := by rw [hfr 0 (by simp [hp]) (by omega)]; rfl
  have hf0 : (bs M C).first.length ≠ 0 := by omega
  obtain ⟨mf, f2, f3⟩ := hs.mf hf0
  have hRQ : ∀ H2 : Heap, H2.map fb = some ⟨ints (bs M C).first, false⟩ → fb < H2.nb → RQ M C (.tup [.agg [rr M, rc C, .own fb 0 M.length M.length 1 false, .val (.int .i64 (bs M C).least), .val (.int .i64 (bs M C).count)], .val (.bool true)]) H2 := fun H2 h2 h3 => ⟨fb, rfl, h2, h3⟩
  rw [nlI_f hf0, hbl.1] at m
  generalize bs M C = t at *
  have hfb : fb ≠ 0 := by
    rintro rfl
    rw [m0] at mf
    cases hL : t.first with
    | nil => rw [hL] at hf0; exact hf0 rfl
    | cons a L => rw [hL] at mf; simp [ints] at mf
  simp (disch := omega) only [Try.ntmps76, Try.results76, go_sem, rr_eq, rc, m, m0, hset_map]
  have := hRQ (H'.set 0 (some ⟨[rr M, rc C, .own fb 0 M.length M.length 1 false, .val (.int .i64 t.least), .val (.int .i64 t.count)], true⟩)) (by rw [hset_map, if_neg hfb, mf]) f3
  rw [rr_eq, rc] at this
  exact this
def zS : SV := .agg [.val (.slice none 0 0), .val (.slice none 0 0), .val (.slice none 0 0), .val (.int .i64 0), .val (.int .i64 0)]
theorem Try.l20Run_n {M : List (List Int)} {C : List Con} (hM : M.length ≤ 1048576) (hR : ∀ i, i < M.length → (mrow M i).length ≤ 1048576) (hC : C.length ≤ 1048576) (h : ¬ okB M C) :
    CallS Try.prog 76 [rr M, rc C] (hp [] 0) (fun r _ => r = .tup [zS, .val (.bool false)]) := by
  have w1 := Try.specIsWM_ok M hM hR
  refine CallS.of_body Try.func76 rfl (by kernel_rfl) (by simp [Try.ntmps76]) ?_
  refine SW_of_vc Try.mixed _ _ _ (by kernel_rfl) ?_
  by_cases hw : WM M
  · have hcs : isCst M.length C = false := by
      rcases Bool.eq_false_or_eq_true (isCst M.length C) with g | g
      · exact absurd ⟨hw, g⟩ h
      · exact g
    have hln := hw.1
    have w2 := Try.specConsistent_ok M.length C hC (by omega) (by omega)
    rw [isWM_t hw] at w1
    rw [hcs] at w2
    simp (disch := omega) only [Try.ntmps76, Try.results76, go_sem, rr_eq, rc]
    refine w1.callV 0 (viewL_cons_of (view_row) viewL_nil_of) ?_
    simp (disch := omega) only [Try.ntmps76, Try.results76, go_sem, rr_eq, rc]
    refine w2.callV 0 (viewL_cons_of (view_int) (viewL_cons_of (view_row) viewL_nil_of)) ?_
    simp (disch := omega) only [Try.ntmps76, Try.results76, go_sem, rr_eq, rc]
    rfl
  · rw [isWM_f hw] at w1
    simp (disch := omega) only [Try.ntmps76, Try.results76, go_sem, rr_eq, rc]
    refine w1.callV 0 (viewL_cons_of (view_row) viewL_nil_of) ?_
    simp (disch := omega) only [Try.ntmps76, Try.results76, go_sem, rr_eq, rc]
    rfl

open Classical in
noncomputable def bCost (M : List (List Int)) (C : List Con) : Int := if okB M C then (bs M C).least else -1
open Classical in
noncomputable def bCount (M : List (List Int)) (C : List Con) : Int := if okB M C then ((bs M C).count : Int) else 0
theorem bCost_t {M : List (List Int)} {C : List Con} (h : okB M C) : bCost M C = (bs M C).least := if_pos h
theorem bCost_f {M : List (List Int)} {C : List Con} (h : ¬ okB M C) : bCost M C = -1 := if_neg h
theorem bCount_t {M : List (List Int)} {C : List Con} (h : okB M C) : bCount M C = ((bs M C).count : Int) := if_pos h
theorem bCount_f {M : List (List Int)} {C : List Con} (h : ¬ okB M C) : bCount M C = 0 := if_neg h

theorem Try.specBestCost_ok {M : List (List Int)} {C : List Con} (hM : M.length ≤ 1048576) (hR : ∀ i, i < M.length → (mrow M i).length ≤ 1048576) (hC : C.length ≤ 1048576) : PCall Try.prog 23 [rr M, rc C] (.val (.int .i64 (bCost M C))) := by
  refine FCall.pcall (R := fun r _ => r = .val (.int .i64 (bCost M C))) ?_ 0 (by rintro r H rfl; exact view_int)
  refine FCall.of_body Try.func23 rfl (by kernel_rfl) (by simp [Try.ntmps23]) ?_
  refine SW_of_vc Try.mixed _ _ _ (by kernel_rfl) ?_
  by_cases h : okB M C
  · have wr := Try.l20Run_ok hM hR hC h
    rw [rr_eq, rc] at wr
    rw [bCost_t h]
    simp (disch := omega) only [Try.ntmps23, Try.results23, go_sem, rr_eq, rc]
    refine wr.callX ?_
    rintro r H ⟨fb, rfl, mf, hlt⟩
    simp (disch := omega) only [Try.ntmps23, Try.results23, go_sem, rr_eq, rc, hset_map, hpush_map]
    exact Fin.val rfl
  · have wr := Try.l20Run_n hM hR hC h
    rw [rr_eq, rc] at wr
    rw [bCost_f h]
    simp (disch := omega) only [Try.ntmps23, Try.results23, go_sem, rr_eq, rc]
    refine wr.callX ?_
    rintro r H rfl
    simp (disch := omega) only [Try.ntmps23, Try.results23, go_sem, rr_eq, rc, zS, hset_map, hpush_map]
    exact Fin.val rfl
theorem Try.canCluster_t {M : List (List Int)} {C : List Con} (hM : M.length ≤ 1048576) (hR : ∀ i, i < M.length → (mrow M i).length ≤ 1048576) (hC : C.length ≤ 1048576) (h : okB M C) : PCall Try.prog 130 [rr M, rc C] (.val (.bool true)) := by
  refine FCall.pcall (R := fun r _ => r = .val (.bool true)) ?_ 0 (by rintro r H rfl; exact view_bool)
  have w1 := Try.implIsWM_ok M hM hR
  have w2 := Try.implConsistent_ok M.length C hC
  rw [isWM_t h.1] at w1
  rw [h.2] at w2
  refine FCall.of_body Try.func130 rfl (by kernel_rfl) (by simp [Try.ntmps130]) ?_
  refine SW_of_vc Try.mixed _ _ _ (by kernel_rfl) ?_
  simp (disch := omega) only [Try.ntmps130, Try.results130, go_sem, rr_eq, rc]
  refine w1.callV 0 (viewL_cons_of (view_row) viewL_nil_of) ?_
  simp (disch := omega) only [Try.ntmps130, Try.results130, go_sem, rr_eq, rc]
  refine w2.callV 0 (viewL_cons_of (view_int) (viewL_cons_of (view_row) viewL_nil_of)) ?_
  simp (disch := omega) only [Try.ntmps130, Try.results130, go_sem, rr_eq, rc]
  exact Fin.val rfl
theorem Try.canCluster_f {M : List (List Int)} {C : List Con} (hM : M.length ≤ 1048576) (hR : ∀ i, i < M.length → (mrow M i).length ≤ 1048576) (hC : C.length ≤ 1048576) (h : ¬ okB M C) : PCall Try.prog 130 [rr M, rc C] (.val (.bool false)) := by
  refine FCall.pcall (R := fun r _ => r = .val (.bool false)) ?_ 0 (by rintro r H rfl; exact view_bool)
  have w1 := Try.implIsWM_ok M hM hR
  have w2 := Try.implConsistent_ok M.length C hC
  refine FCall.of_body Try.func130 rfl (by kernel_rfl) (by simp [Try.ntmps130]) ?_
  refine SW_of_vc Try.mixed _ _ _ (by kernel_rfl) ?_
  by_cases hw : WM M
  · have hcs : isCst M.length C = false := by
      rcases Bool.eq_false_or_eq_true (isCst M.length C) with g | g
      · exact absurd ⟨hw, g⟩ h
      · exact g
    rw [isWM_t hw] at w1
    rw [hcs] at w2
    simp (disch := omega) only [Try.ntmps130, Try.results130, go_sem, rr_eq, rc]
    refine w1.callV 0 (viewL_cons_of (view_row) viewL_nil_of) ?_
    simp (disch := omega) only [Try.ntmps130, Try.results130, go_sem, rr_eq, rc]
    refine w2.callV 0 (viewL_cons_of (view_int) (viewL_cons_of (view_row) viewL_nil_of)) ?_
    simp (disch := omega) only [Try.ntmps130, Try.results130, go_sem, rr_eq, rc]
    exact Fin.val rfl
  · rw [isWM_f hw] at w1
    simp (disch := omega) only [Try.ntmps130, Try.results130, go_sem, rr_eq, rc]
    refine w1.callV 0 (viewL_cons_of (view_row) viewL_nil_of) ?_
    simp (disch := omega) only [Try.ntmps130, Try.results130, go_sem, rr_eq, rc]
    exact Fin.val rfl
theorem Try.implBestCost_ok {M : List (List Int)} {C : List Con} (hM : M.length ≤ 1048576) (hR : ∀ i, i < M.length → (mrow M i).length ≤ 1048576) (hC : C.length ≤ 1048576) : PCall Try.prog 106 [rr M, rc C] (.val (.int .i64 (bCost M C))) := by
  refine FCall.pcall (R := fun r _ => r = .val (.int .i64 (bCost M C))) ?_ 0 (by rintro r H rfl; exact view_int)
  refine FCall.of_body Try.func106 rfl (by kernel_rfl) (by simp [Try.ntmps106]) ?_
  refine SW_of_vc Try.mixed _ _ _ (by kernel_rfl) ?_
  by_cases h : okB M C
  · have w1 := Try.canCluster_t hM hR hC h
    have w2 := (Try.best_f h.1 hC h.2).oneU
    rw [bCost_t h]
    simp (disch := omega) only [Try.ntmps106, Try.results106, go_sem, rr_eq, rc]
    refine w1.callV 0 (viewL_cons_of (view_row) (viewL_cons_of (view_row) viewL_nil_of)) ?_
    simp (disch := omega) only [Try.ntmps106, Try.results106, go_sem, rr_eq, rc]
    refine w2.callOneU (ints_vals _) 0 (viewL_cons_of (view_row) (viewL_cons_of (view_row) viewL_nil_of)) ?_
    simp (disch := omega) only [Try.ntmps106, Try.results106, go_sem, rr_eq, rc]
    exact Fin.val rfl
  · have w1 := Try.canCluster_f hM hR hC h
    rw [bCost_f h]
    simp (disch := omega) only [Try.ntmps106, Try.results106, go_sem, rr_eq, rc]
    refine w1.callV 0 (viewL_cons_of (view_row) (viewL_cons_of (view_row) viewL_nil_of)) ?_
    simp (disch := omega) only [Try.ntmps106, Try.results106, go_sem, rr_eq, rc]
    exact Fin.val rfl
end Go.Sh

/-
  The best partition, optimal partitions, the cost of constraints: contracts of both.
-/
namespace Go.Sh
set_option linter.unusedSimpArgs false
set_option linter.unusedVariables false
open Go Go.Proofs

open Classical in
noncomputable def bpt (M : List (List Int)) (C : List Con) : List Int × Int × Bool := if okB M C then ((bs M C).first, (bs M C).least, true) else ([], 0, false)
theorem bpt_t {M : List (List Int)} {C : List Con} (h : okB M C) : bpt M C = ((bs M C).first, (bs M C).least, true) := if_pos h
theorem bpt_f {M : List (List Int)} {C : List Con} (h : ¬ okB M C) : bpt M C = ([], 0, false) := if_neg h
theorem bpt_len {M : List (List Int)} {C : List Con} (h : okB M C) : (bpt M C).1.length = M.length := by
  rw [bpt_t h]; exact ((bs_best (C := C) h.1).ok (bs_ok h.1 h.2)).1
theorem bCost_b (M : List (List Int)) (C : List Con) : -1 ≤ bCost M C ∧ bCost M C ≤ 64000 := by
  by_cases h : okB M C
  · rw [bCost_t h]
    have hb := (bs_best (C := C) h.1).ok (bs_ok h.1 h.2)
    have hc := cc_b (L := (bs M C).first) h.1 M.length (Nat.le_refl _)
    have := h.1.1
    rw [hb.2.2.2.1] at hc
    omega
  · rw [bCost_f h]; omega
theorem view_tupU {L : List Int} {n : Nat} {u : Int} {b : Bool} {r r0 : SV} {H : Heap} (h : r = .tup (r0 :: [Value.int .i64 u, .bool b].map .val)) (hf : FlatRes n 1 (ints L) r0 H) : view H 3 r = some (.tup [ri L, .val (.int .i64 u), .val (.bool b)]) := by
  subst h
  have h1 : viewL H 2 [r0, .val (.int .i64 u), .val (.bool b)] = some [ri L, .val (.int .i64 u), .val (.bool b)] := viewL_cons_of (flat_view hf) (viewL_cons_of view_int (viewL_cons_of view_bool viewL_nil_of))
  simp only [List.map_cons, List.map_nil, view, h1]
open Classical in
noncomputable def isOpt (M : List (List Int)) (C : List Con) (L : List Int) : Bool := decide (okB M C) && ((isPart L && C.all (kp L)) && decide (pcost M L = bCost M C))
theorem isOpt_f {M : List (List Int)} {C : List Con} {L : List Int} (h : ¬ okB M C) : isOpt M C L = false := by simp [isOpt, h]
theorem isOpt_t {M : List (List Int)} {C : List Con} {L : List Int} (h : okB M C) : isOpt M C L = ((isPart L && C.all (kp L)) && decide (pcost M L = (bs M C).least)) := by simp [isOpt, h, bCost_t h]
noncomputable def ccost (M : List (List Int)) (C : List Con) : Int := if bCost M C < 0 then -1 else bCost M C - bCost M []
theorem rc_nil : rc [] = .row 0 false [] := rfl
theorem view_ownC0 {H : Heap} {f b cap : Nat} {ex e2 : Bool} (hb : H.map b = some ⟨[], e2⟩) : view H (f + 1) (.own b 0 0 cap 3 ex) = some (rc []) := by
  simp only [Sh.view, hb, Nat.zero_mul, List.drop_zero, List.take_zero]
  rw [if_pos (by simp)]
  have : viewL H f [] = some [] := viewL_nil_of
  rw [this]; rfl
theorem view_nilC0 {H : Heap} {f : Nat} : view H f (.val (.slice none 0 0)) = some (rc []) := by simp only [view, viewV]; rfl
end Go.Sh

/-
  Contracts: the constraints of some items. Of the reference and of the program.
-/
namespace Go.Sh
set_option linter.unusedSimpArgs false
set_option linter.unusedVariables false
open Go Go.Proofs

def rkeep (S : List Int) (c : Con) : Bool := decide (c.1 ∈ S) && decide (c.2.1 ∈ S)
def rmap (S : List Int) (c : Con) : Con := (idx c.1 S, idx c.2.1 S, c.2.2)
def rs (C : List Con) (S : List Int) : List Con := (C.filter (rkeep S)).map (rmap S)
theorem rs_nil (S : List Int) : rs [] S = [] := rfl
theorem rs_keep {C : List Con} {S : List Int} {k : Nat} {a b : Int} {s : Bool} (h : k < C.length) (hc : cg C k = (a, b, s)) (ha : a ∈ S) (hb : b ∈ S) : rs (C.take (k + 1)) S = rs (C.take k) S ++ [(idx a S, idx b S, s)] := by
  have e : C[k] = (a, b, s) := by rw [← hc]; simp [cg, h]
  rw [rs, List.take_succ_eq_append_getElem h, e, List.filter_append, List.map_append]
  simp [rs, rkeep, rmap, ha, hb]
theorem rs_drop {C : List Con} {S : List Int} {k : Nat} {a b : Int} {s : Bool} (h : k < C.length) (hc : cg C k = (a, b, s)) (hn : ¬ (a ∈ S ∧ b ∈ S)) : rs (C.take (k + 1)) S = rs (C.take k) S := by
  have e : C[k] = (a, b, s) := by rw [← hc]; simp [cg, h]
  rw [rs, List.take_succ_eq_append_getElem h, e, List.filter_append, List.map_append]
  have : rkeep S (a, b, s) = false := by
    rw [rkeep, ← Bool.decide_and]
    exact decide_eq_false hn
  simp [rs, this]
theorem rs_len (C : List Con) (S : List Int) : (rs C S).length ≤ C.length := by
  rw [rs, List.length_map]
  exact List.length_filter_le _ _
theorem cons_snoc (R : List Con) (a b : Int) (s : Bool) : cons R ++ [.val (.int .i64 a), .val (.int .i64 b), .val (.bool s)] = cons (R ++ [(a, b, s)]) := by
  rw [← cons_append]; rfl
theorem cons_take_self (R : List Con) : (cons R).take (R.length * 3) = cons R := by rw [← cons_length R, List.take_length]
theorem cons_nil : cons [] = [] := rfl
def slC (b : Nat) (R : List Con) : SV := if R.length = 0 then .val (.slice none 0 0) else .own b 0 R.length R.length 3 false
def slH (b : Nat) (R : List Con) : List (Nat × Blk) := if R.length = 0 then [] else [(b, ⟨cons R, false⟩)]
theorem slC_snoc (b : Nat) (R : List Con) (x : Con) : slC b (R ++ [x]) = .own b 0 (R.length + 1) (R.length + 1) 3 false := by simp [slC]
theorem slH_snoc (b : Nat) (R : List Con) (x : Con) : slH b (R ++ [x]) = [(b, ⟨cons (R ++ [x]), false⟩)] := by simp [slH]
theorem slC_f {b : Nat} {R : List Con} (h : R.length ≠ 0) : slC b R = .own b 0 R.length R.length 3 false := if_neg h
theorem slH_f {b : Nat} {R : List Con} (h : R.length ≠ 0) : slH b R = [(b, ⟨cons R, false⟩)] := if_neg h
theorem slC_t {b : Nat} {R : List Con} (h : R.length = 0) : slC b R = .val (.slice none 0 0) := if_pos h
theorem slH_t {b : Nat} {R : List Con} (h : R.length = 0) : slH b R = [] := if_pos h

theorem slH_one (b : Nat) (p q : Int) (t : Bool) : slH b [(p, q, t)] = [(b, ⟨[.val (.int .i64 p), .val (.int .i64 q), .val (.bool t)], false⟩)] := rfl
theorem rep3c (a b c : SV) : rep [a, b, c] 3 = [a, b, c] := rfl
def ResC (R : List Con) (r : SV) (H : Heap) : Prop := (R.length = 0 → r = .val (.slice none 0 0)) ∧ (R.length ≠ 0 → FlatRes R.length 3 (cons R) r H)

end Go.Sh

/-
  Contracts: the constraints of some items, of the reference; constraints marked and read back.
-/
namespace Go.Sh
set_option linter.unusedSimpArgs false
set_option linter.unusedVariables false
open Go Go.Proofs

theorem rep0 (zs : List SV) : rep zs 0 = [] := rfl

def mk3 (k : Int) (i : Nat) : Con := (k + 3 * (i : Int), k + 3 * (i : Int) + 1, Int.tmod (k + 3 * (i : Int) + 1 + 1) 3 == 0)
def markC (C : List Con) (k : Int) (i : Nat) : List Con := (List.range i).map (mk3 k) ++ C.drop i
def marksC (n : Nat) (k : Int) : List Con := (List.range n).map (mk3 k)
theorem markC_zero (C : List Con) (k : Int) : markC C k 0 = C := by simp [markC]
theorem markC_length {C : List Con} {k : Int} {i : Nat} (h : i ≤ C.length) : (markC C k i).length = C.length := by simp [markC]; omega
theorem markC_all (C : List Con) (k : Int) : markC C k C.length = marksC C.length k := by simp [markC, marksC]
theorem marksC_length (n : Nat) (k : Int) : (marksC n k).length = n := by simp [marksC]
theorem markC_set {C : List Con} {k : Int} {i : Nat} (h : i < C.length) : (markC C k i).set i (mk3 k i) = markC C k (i + 1) := by
  apply List.ext_getElem?
  intro x
  simp only [markC, List.getElem?_set, List.getElem?_append, List.length_map, List.length_range, List.getElem?_map, List.getElem?_drop, List.length_append, List.length_drop]
  by_cases h1 : i = x
  · subst h1
    have : i < i + (C.length - i) := by omega
    simp [this]
  · by_cases h2 : x < i
    · have h3 : x < i + 1 := by omega
      simp [h1, h2, h3]
    · have h3 : ¬ x < i + 1 := by omega
      simp [h1, h2, h3]
      congr 1
      omega
theorem cons_set3' {C : List Con} {k : Nat} {a b : Int} {s : Bool} (h : k < C.length) : (((cons C).set (k * 3) (.val (.int .i64 a))).set (k * 3 + 1) (.val (.int .i64 b))).set (k * 3 + 2) (.val (.bool s)) = cons (C.set k (a, b, s)) := cons_set3 h

open Classical in
noncomputable def heldC (C : List Con) (k : Int) : Int := if C = marksC C.length k then k + 3 * (C.length : Int) else -1
theorem heldC_marks (n : Nat) (k : Int) : heldC (marksC n k) k = k + 3 * (n : Int) := by rw [heldC, marksC_length, if_pos rfl]

theorem view_nilC {H : Heap} {f : Nat} : view H f (.val (.slice none 0 0)) = some (rc []) := by simp only [view, viewV, rc, cons, List.flatMap_nil, List.length_nil]
theorem Try.toConstraintS_one (C : List Con) (hC : C.length ≤ 1048576) : FCall Try.prog 55 [rc C] (OneRes C.length 3 (cons C)) := (Try.toConstraintS_f C hC).one
theorem view_ownC {H : Heap} {b n f cap : Nat} {ex : Bool} {e2 : Bool} {C : List Con} (hb : H.map b = some ⟨cons C, e2⟩) (hn : n = C.length) : view H (f + 1) (.own b 0 n cap 3 ex) = some (rc C) := by
  subst hn
  have hv : ∀ (C : List Con), viewL H f (cons C) = some (cons C) := by
    intro C
    induction C with
    | nil => exact viewL_nil_of
    | cons c C ih => exact viewL_cons_of view_int (viewL_cons_of view_int (viewL_cons_of view_bool ih))
  have ht : (cons C).take (C.length * 3) = cons C := cons_take_self C
  simp only [Sh.view, hb, List.drop_zero, ht, hv]
  rw [if_pos (by rw [cons_length]; omega), rc]
theorem view_rowC {H : Heap} {f n : Nat} {ex : Bool} {C : List Con} (hn : n = C.length) : view H f (.row n ex (cons C)) = some (rc C) := by subst hn; simp only [view, rc]
end Go.Sh

/-
  Contracts: CheckClustering, of the reference and of the program.
-/
namespace Go.Sh
set_option linter.unusedSimpArgs false
set_option linter.unusedVariables false
open Go Go.Proofs

noncomputable def chk (M : List (List Int)) (C : List Con) (L : List Int) (a : Int) (e : Bool) (g : Int) : Bool :=
  (isPart L && C.all (kp L)) && decide (0 ≤ a) && decide (pcost M L = a) && (if e = true then decide (g = 0) && decide (bCost M C = a) else decide (g = gapOf M L (gr M)))
abbrev sK (L : List Int) (a : Int) (e : Bool) (g : Int) : SV := .agg [ri L, .val (.int .i64 a), .val (.bool e), .val (.int .i64 g)]

set_option maxHeartbeats 8000000 in
theorem Try.specCheck_ok (M : List (List Int)) (C : List Con) (L : List Int) (a : Int) (e : Bool) (g : Int) (hM : M.length ≤ 1048576) (hR : ∀ i, i < M.length → (mrow M i).length ≤ 1048576) (hC : C.length ≤ 1048576) (hL : L.length ≤ 1048576) : PCall Try.prog 54 [rr M, rc C, sK L a e g] (.val (.bool (chk M C L a e g))) := by
  refine FCall.pcall (R := fun r _ => r = .val (.bool (chk M C L a e g))) ?_ 0 (by rintro r H rfl; exact view_bool)
  refine FCall.of_body Try.func54 rfl (by kernel_rfl) (by simp [Try.ntmps54]) ?_
  have w1 := Try.specKeepsConstraints_ok L C hL hC
  have w2 := Try.specPartitionCost_ok M L hM hR hL
  have w3 := Try.specBestCost_ok (M := M) (C := C) hM hR hC
  have w4 := Try.specGr_ok M hM hR
  have hg := gr_len M
  have w5 := Try.specGap_ok M L (gr M) hM hR hL (by omega)
  unfold chk
  generalize (isPart L && C.all (kp L)) = k at *
  generalize pcost M L = c at *
  generalize bCost M C = b at *
  generalize gapOf M L (gr M) = G at *
  refine SW_of_vc Try.mixed _ _ _ (by kernel_rfl) ?_
  cases k with
  | false =>
    simp (disch := omega) only [Try.ntmps54, Try.results54, go_sem, rr_eq, rc]
    refine w1.callDV 1 (viewL_cons_of (view_row) (viewL_cons_of (view_row) viewL_nil_of)) ?_
    simp (disch := omega) only [Try.ntmps54, Try.results54, go_sem, rr_eq, rc]
    exact Fin.val (by simp)
  | true =>
    by_cases ha : a < 0
    · simp (disch := omega) only [Try.ntmps54, Try.results54, go_sem, rr_eq, rc]
      refine w1.callDV 1 (viewL_cons_of (view_row) (viewL_cons_of (view_row) viewL_nil_of)) ?_
      simp (disch := omega) only [Try.ntmps54, Try.results54, go_sem, rr_eq, rc]
      exact Fin.val (by first | (simp; done) | (simp; omega) | (simp [show (0 : Int) ≤ c by omega, Bool.beq_eq_decide_eq]; done) | (simp [show (0 : Int) ≤ c by omega, Bool.beq_eq_decide_eq]; exact eq_comm))
    · by_cases hc : c = a
      · subst hc
        cases e with
        | true =>
          by_cases h0 : g = 0
          · subst h0
            simp (disch := omega) only [Try.ntmps54, Try.results54, go_sem, rr_eq, rc, bne_self_eq_false, beq_self_eq_true]
            refine w1.callDV 1 (viewL_cons_of (view_row) (viewL_cons_of (view_row) viewL_nil_of)) ?_
            simp (disch := omega) only [Try.ntmps54, Try.results54, go_sem, rr_eq, rc, bne_self_eq_false, beq_self_eq_true]
            refine w2.callDV 1 (viewL_cons_of (view_row) (viewL_cons_of (view_row) viewL_nil_of)) ?_
            simp (disch := omega) only [Try.ntmps54, Try.results54, go_sem, rr_eq, rc, bne_self_eq_false, beq_self_eq_true]
            refine w3.callDV 1 (viewL_cons_of (view_row) (viewL_cons_of (view_row) viewL_nil_of)) ?_
            simp (disch := omega) only [Try.ntmps54, Try.results54, go_sem, rr_eq, rc, bne_self_eq_false, beq_self_eq_true]
            exact Fin.val (by first | (simp; done) | (simp; omega) | (simp [show (0 : Int) ≤ c by omega, Bool.beq_eq_decide_eq]; done) | (simp [show (0 : Int) ≤ c by omega, Bool.beq_eq_decide_eq]; exact eq_comm))
          · simp (disch := omega) only [Try.ntmps54, Try.results54, go_sem, rr_eq, rc, bne_self_eq_false, beq_self_eq_true]
            refine w1.callDV 1 (viewL_cons_of (view_row) (viewL_cons_of (view_row) viewL_nil_of)) ?_
            simp (disch := omega) only [Try.ntmps54, Try.results54, go_sem, rr_eq, rc, bne_self_eq_false, beq_self_eq_true]
            refine w2.callDV 1 (viewL_cons_of (view_row) (viewL_cons_of (view_row) viewL_nil_of)) ?_
            simp (disch := omega) only [Try.ntmps54, Try.results54, go_sem, rr_eq, rc, bne_self_eq_false, beq_self_eq_true]
            exact Fin.val (by first | (simp; done) | (simp; omega) | (simp [show (0 : Int) ≤ c by omega, Bool.beq_eq_decide_eq]; done) | (simp [show (0 : Int) ≤ c by omega, Bool.beq_eq_decide_eq]; exact eq_comm))
        | false =>
          simp (disch := omega) only [Try.ntmps54, Try.results54, go_sem, rr_eq, rc, bne_self_eq_false, beq_self_eq_true]
          refine w1.callDV 1 (viewL_cons_of (view_row) (viewL_cons_of (view_row) viewL_nil_of)) ?_
          simp (disch := omega) only [Try.ntmps54, Try.results54, go_sem, rr_eq, rc, bne_self_eq_false, beq_self_eq_true]
          refine w2.callDV 1 (viewL_cons_of (view_row) (viewL_cons_of (view_row) viewL_nil_of)) ?_
          simp (disch := omega) only [Try.ntmps54, Try.results54, go_sem, rr_eq, rc, bne_self_eq_false, beq_self_eq_true]
          refine w4.callDV 1 (viewL_cons_of (view_row) viewL_nil_of) ?_
          simp (disch := omega) only [Try.ntmps54, Try.results54, go_sem, rr_eq, rc, bne_self_eq_false, beq_self_eq_true]
          refine w5.callDV 1 (viewL_cons_of (view_row) (viewL_cons_of (view_row) (viewL_cons_of (view_row) viewL_nil_of))) ?_
          simp (disch := omega) only [Try.ntmps54, Try.results54, go_sem, rr_eq, rc, bne_self_eq_false, beq_self_eq_true]
          exact Fin.val (by first | (simp; done) | (simp; omega) | (simp [show (0 : Int) ≤ c by omega, Bool.beq_eq_decide_eq]; done) | (simp [show (0 : Int) ≤ c by omega, Bool.beq_eq_decide_eq]; exact eq_comm))
      · simp (disch := omega) only [Try.ntmps54, Try.results54, go_sem, rr_eq, rc]
        refine w1.callDV 1 (viewL_cons_of (view_row) (viewL_cons_of (view_row) viewL_nil_of)) ?_
        simp (disch := omega) only [Try.ntmps54, Try.results54, go_sem, rr_eq, rc]
        refine w2.callDV 1 (viewL_cons_of (view_row) (viewL_cons_of (view_row) viewL_nil_of)) ?_
        simp (disch := omega) only [Try.ntmps54, Try.results54, go_sem, rr_eq, rc]
        exact Fin.val (by first | (simp; done) | (simp; omega) | (simp [show (0 : Int) ≤ c by omega, Bool.beq_eq_decide_eq]; done) | (simp [show (0 : Int) ≤ c by omega, Bool.beq_eq_decide_eq]; exact eq_comm))

set_option maxHeartbeats 8000000 in
theorem Try.implCheck_ok (M : List (List Int)) (C : List Con) (L : List Int) (a : Int) (e : Bool) (g : Int) (hM : M.length ≤ 1048576) (hR : ∀ i, i < M.length → (mrow M i).length ≤ 1048576) (hC : C.length ≤ 1048576) (hL : L.length ≤ 1048576) : PCall Try.prog 57 [rr M, rc C, sK L a e g] (.val (.bool (chk M C L a e g))) := by
  refine FCall.pcall (R := fun r _ => r = .val (.bool (chk M C L a e g))) ?_ 0 (by rintro r H rfl; exact view_bool)
  refine FCall.of_body Try.func57 rfl (by kernel_rfl) (by simp [Try.ntmps57]) ?_
  have w1 := Try.implKeepsConstraints_ok L C hL hC
  have w2 := Try.implPartitionCost_ok M L hM hR hL
  have w3 := Try.implBestCost_ok (M := M) (C := C) hM hR hC
  have w4 := Try.implGr_ok M hM hR
  have hg := gr_len M
  have w5 := Try.implGap_ok M L (gr M) hM hR hL (by omega)
  unfold chk
  generalize (isPart L && C.all (kp L)) = k at *
  generalize pcost M L = c at *
  generalize bCost M C = b at *
  generalize gapOf M L (gr M) = G at *
  refine SW_of_vc Try.mixed _ _ _ (by kernel_rfl) ?_
  cases k with
  | false =>
    simp (disch := omega) only [Try.ntmps57, Try.results57, go_sem, rr_eq, rc]
    refine w1.callDV 1 (viewL_cons_of (view_row) (viewL_cons_of (view_row) viewL_nil_of)) ?_
    simp (disch := omega) only [Try.ntmps57, Try.results57, go_sem, rr_eq, rc]
    exact Fin.val (by simp)
  | true =>
    by_cases ha : a < 0
    · simp (disch := omega) only [Try.ntmps57, Try.results57, go_sem, rr_eq, rc]
      refine w1.callDV 1 (viewL_cons_of (view_row) (viewL_cons_of (view_row) viewL_nil_of)) ?_
      simp (disch := omega) only [Try.ntmps57, Try.results57, go_sem, rr_eq, rc]
      exact Fin.val (by first | (simp; done) | (simp; omega) | (simp [show (0 : Int) ≤ c by omega, Bool.beq_eq_decide_eq]; done) | (simp [show (0 : Int) ≤ c by omega, Bool.beq_eq_decide_eq]; exact eq_comm))
    · by_cases hc : c = a
      · subst hc
        cases e with
        | true =>
          by_cases h0 : g = 0
          · subst h0
            simp (disch := omega) only [Try.ntmps57, Try.results57, go_sem, rr_eq, rc, bne_self_eq_false, beq_self_eq_true]
            refine w1.callDV 1 (viewL_cons_of (view_row) (viewL_cons_of (view_row) viewL_nil_of)) ?_
            simp (disch := omega) only [Try.ntmps57, Try.results57, go_sem, rr_eq, rc, bne_self_eq_false, beq_self_eq_true]
            refine w2.callDV 1 (viewL_cons_of (view_row) (viewL_cons_of (view_row) viewL_nil_of)) ?_
            simp (disch := omega) only [Try.ntmps57, Try.results57, go_sem, rr_eq, rc, bne_self_eq_false, beq_self_eq_true]
            refine w3.callDV 1 (viewL_cons_of (view_row) (viewL_cons_of (view_row) viewL_nil_of)) ?_
            simp (disch := omega) only [Try.ntmps57, Try.results57, go_sem, rr_eq, rc, bne_self_eq_false, beq_self_eq_true]
            exact Fin.val (by first | (simp; done) | (simp; omega) | (simp [show (0 : Int) ≤ c by omega, Bool.beq_eq_decide_eq]; done) | (simp [show (0 : Int) ≤ c by omega, Bool.beq_eq_decide_eq]; exact eq_comm))
          · simp (disch := omega) only [Try.ntmps57, Try.results57, go_sem, rr_eq, rc, bne_self_eq_false, beq_self_eq_true]
            refine w1.callDV 1 (viewL_cons_of (view_row) (viewL_cons_of (view_row) viewL_nil_of)) ?_
            simp (disch := omega) only [Try.ntmps57, Try.results57, go_sem, rr_eq, rc, bne_self_eq_false, beq_self_eq_true]
            refine w2.callDV 1 (viewL_cons_of (view_row) (viewL_cons_of (view_row) viewL_nil_of)) ?_
            simp (disch := omega) only [Try.ntmps57, Try.results57, go_sem, rr_eq, rc, bne_self_eq_false, beq_self_eq_true]
            exact Fin.val (by first | (simp; done) | (simp; omega) | (simp [show (0 : Int) ≤ c by omega, Bool.beq_eq_decide_eq]; done) | (simp [show (0 : Int) ≤ c by omega, Bool.beq_eq_decide_eq]; exact eq_comm))
        | false =>
          simp (disch := omega) only [Try.ntmps57, Try.results57, go_sem, rr_eq, rc, bne_self_eq_false, beq_self_eq_true]
          refine w1.callDV 1 (viewL_cons_of (view_row) (viewL_cons_of (view_row) viewL_nil_of)) ?_
          simp (disch := omega) only [Try.ntmps57, Try.results57, go_sem, rr_eq, rc, bne_self_eq_false, beq_self_eq_true]
          refine w2.callDV 1 (viewL_cons_of (view_row) (viewL_cons_of (view_row) viewL_nil_of)) ?_
          simp (disch := omega) only [Try.ntmps57, Try.results57, go_sem, rr_eq, rc, bne_self_eq_false, beq_self_eq_true]
          refine w4.callDV 1 (viewL_cons_of (view_row) viewL_nil_of) ?_
          simp (disch := omega) only [Try.ntmps57, Try.results57, go_sem, rr_eq, rc, bne_self_eq_false, beq_self_eq_true]
          refine w5.callDV 1 (viewL_cons_of (view_row) (viewL_cons_of (view_row) (viewL_cons_of (view_row) viewL_nil_of))) ?_
          simp (disch := omega) only [Try.ntmps57, Try.results57, go_sem, rr_eq, rc, bne_self_eq_false, beq_self_eq_true]
          exact Fin.val (by first | (simp; done) | (simp; omega) | (simp [show (0 : Int) ≤ c by omega, Bool.beq_eq_decide_eq]; done) | (simp [show (0 : Int) ≤ c by omega, Bool.beq_eq_decide_eq]; exact eq_comm))
      · simp (disch := omega) only [Try.ntmps57, Try.results57, go_sem, rr_eq, rc]
        refine w1.callDV 1 (viewL_cons_of (view_row) (viewL_cons_of (view_row) viewL_nil_of)) ?_
        simp (disch := omega) only [Try.ntmps57, Try.results57, go_sem, rr_eq, rc]
        refine w2.callDV 1 (viewL_cons_of (view_row) (viewL_cons_of (view_row) viewL_nil_of)) ?_
        simp (disch := omega) only [Try.ntmps57, Try.results57, go_sem, rr_eq, rc]
        exact Fin.val (by first | (simp; done) | (simp; omega) | (simp [show (0 : Int) ≤ c by omega, Bool.beq_eq_decide_eq]; done) | (simp [show (0 : Int) ≤ c by omega, Bool.beq_eq_decide_eq]; exact eq_comm))
end Go.Sh

/-
  The law FnExactCheckClustering, walked.
-/
namespace Go.Sh
set_option linter.unusedSimpArgs false
set_option linter.unusedVariables false
open Go Go.Proofs

set_option maxHeartbeats 16000000 in
theorem Try.exactCheckClustering_ok (M : List (List Int)) (C : List Con) (K : Clu) (Mw : (∀ l ∈ M, (∀ n ∈ l, i64R n) ∧ l.length ≤ maxLen) ∧ M.length ≤ maxLen) (Cw : (∀ c ∈ C, i64R c.1 ∧ i64R c.2.1) ∧ C.length ≤ maxLen) (hK : (∀ n ∈ K.labels, i64R n) ∧ K.labels.length ≤ maxLen ∧ i64R K.cost ∧ i64R K.gap) :
    PCall Try.prog 7 [rr M, rc C, sclu K] (.val (.bool true)) := by
  obtain ⟨L, a, e, g⟩ := K
  have m1 : L.length ≤ 9223372036854775807 := hK.2.1
  clear hK
  refine FCall.pcall (R := fun r _ => r = .val (.bool true)) ?_ 0 (by rintro r H rfl; exact view_bool)
  refine FCall.of_body Try.func7 rfl (by kernel_rfl) (by simp [Try.ntmps7]) ?_
  refine SW_of_vc Try.mixed _ _ _ (by kernel_rfl) ?_
  obtain ⟨m1M, m2M⟩ := mrow_max Mw
  have nnM := msum_nonneg M M.length
  have zM := Try.szIntSS_ok M (1048576) m1M m2M (by omega) (by omega)
  by_cases sM : (1048576 : Int) < M.length + msum M M.length
  · rw [if_pos sM] at zM
    simp (disch := omega) only [Try.ntmps7, Try.results7, go_sem, rr_eq, rc, sclu]
    refine zM.callV 0 (viewL_cons_of (view_row) (viewL_cons_of (view_int) viewL_nil_of)) ?_
    simp (disch := omega) only [Try.ntmps7, Try.results7, go_sem, rr_eq, rc, sclu]
    exact Fin.val rfl
  rw [if_neg sM] at zM
  have hM : M.length ≤ 1048576 := by omega
  have hMr : ∀ i, i < M.length → (mrow M i).length ≤ 1048576 := fun i hi => by have := mrow_le hi; omega
  have mmC : C.length ≤ 9223372036854775807 := Cw.2
  have zC := Try.szConstraintS_ok C (1048576 - M.length - msum M M.length) mmC (by omega) (by omega)
  by_cases sC : (1048576 - M.length - msum M M.length : Int) < C.length
  · rw [if_pos sC] at zC
    simp (disch := omega) only [Try.ntmps7, Try.results7, go_sem, rr_eq, rc, sclu]
    refine zM.callV 0 (viewL_cons_of (view_row) (viewL_cons_of (view_int) viewL_nil_of)) ?_
    simp (disch := omega) only [Try.ntmps7, Try.results7, go_sem, rr_eq, rc, sclu]
    refine zC.callV 0 (viewL_cons_of (view_row) (viewL_cons_of (view_int) viewL_nil_of)) ?_
    simp (disch := omega) only [Try.ntmps7, Try.results7, go_sem, rr_eq, rc, sclu]
    exact Fin.val rfl
  rw [if_neg sC] at zC
  have hC : C.length ≤ 1048576 := by omega
  have zK := Try.szClustering_ok L a e g (1048576 - M.length - msum M M.length - C.length) m1 (by omega) (by omega)
  by_cases sK : (1048576 - M.length - msum M M.length - C.length : Int) < L.length
  · rw [if_pos sK] at zK
    simp (disch := omega) only [Try.ntmps7, Try.results7, go_sem, rr_eq, rc, sclu]
    refine zM.callV 0 (viewL_cons_of (view_row) (viewL_cons_of (view_int) viewL_nil_of)) ?_
    simp (disch := omega) only [Try.ntmps7, Try.results7, go_sem, rr_eq, rc, sclu]
    refine zC.callV 0 (viewL_cons_of (view_row) (viewL_cons_of (view_int) viewL_nil_of)) ?_
    simp (disch := omega) only [Try.ntmps7, Try.results7, go_sem, rr_eq, rc, sclu]
    refine zK.callV 1 (viewL_cons_of (view_clu (by simp)) (viewL_cons_of (view_int) viewL_nil_of)) ?_
    simp (disch := omega) only [Try.ntmps7, Try.results7, go_sem, rr_eq, rc, sclu]
    exact Fin.val rfl
  rw [if_neg sK] at zK
  have hL : L.length ≤ 1048576 := by omega
  have wS := Try.specCheck_ok M C L a e g hM hMr hC hL
  have wI := Try.implCheck_ok M C L a e g hM hMr hC hL
  have tM := Try.toIntSS_ok M hM hMr
  have tC := Try.toConstraintS_ok C hC
  have tK := Try.toClustering_ok L a e g hL
  have eM := Try.eqIntSS_ok M M hM hM hMr hMr
  have eC := Try.eqConstraintS_ok C C hC hC
  have eK := Try.eqClustering_ok L a e g hL
  simp (disch := omega) only [Try.ntmps7, Try.results7, go_sem, rr_eq, rc, sclu]
  refine zM.callV 0 (viewL_cons_of (view_row) (viewL_cons_of (view_int) viewL_nil_of)) ?_
  simp (disch := omega) only [Try.ntmps7, Try.results7, go_sem, rr_eq, rc, sclu]
  refine zC.callV 0 (viewL_cons_of (view_row) (viewL_cons_of (view_int) viewL_nil_of)) ?_
  simp (disch := omega) only [Try.ntmps7, Try.results7, go_sem, rr_eq, rc, sclu]
  refine zK.callV 1 (viewL_cons_of (view_clu (by simp)) (viewL_cons_of (view_int) viewL_nil_of)) ?_
  simp (disch := omega) only [Try.ntmps7, Try.results7, go_sem, rr_eq, rc, sclu]
  refine tM.callDV 1 (viewL_cons_of (view_row) viewL_nil_of) ?_
  simp (disch := omega) only [Try.ntmps7, Try.results7, go_sem, rr_eq, rc, sclu]
  refine tC.callDV 1 (viewL_cons_of (view_row) viewL_nil_of) ?_
  simp (disch := omega) only [Try.ntmps7, Try.results7, go_sem, rr_eq, rc, sclu]
  refine tK.callDV 1 (viewL_cons_of (view_clu (by simp)) viewL_nil_of) ?_
  simp (disch := omega) only [Try.ntmps7, Try.results7, go_sem, rr_eq, rc, sclu]
  refine wS.callDV 1 (viewL_cons_of (view_row) (viewL_cons_of (view_row) (viewL_cons_of (view_clu (by simp)) viewL_nil_of))) ?_
  simp (disch := omega) only [Try.ntmps7, Try.results7, go_sem, rr_eq, rc, sclu]
  refine tM.callV 1 (viewL_cons_of (view_row) viewL_nil_of) ?_
  simp (disch := omega) only [Try.ntmps7, Try.results7, go_sem, rr_eq, rc, sclu]
  refine tC.callV 1 (viewL_cons_of (view_row) viewL_nil_of) ?_
  simp (disch := omega) only [Try.ntmps7, Try.results7, go_sem, rr_eq, rc, sclu]
  refine tK.callV 1 (viewL_cons_of (view_clu (by simp)) viewL_nil_of) ?_
  simp (disch := omega) only [Try.ntmps7, Try.results7, go_sem, rr_eq, rc, sclu]
  refine wI.callV 1 (viewL_cons_of (view_row) (viewL_cons_of (view_row) (viewL_cons_of (view_clu (by simp)) viewL_nil_of))) ?_
  simp (disch := omega) only [Try.ntmps7, Try.results7, go_sem, rr_eq, rc, sclu, bne_self_eq_false, beq_self_eq_true, decide_true]
  refine tM.callV 1 (viewL_cons_of (view_row) viewL_nil_of) ?_
  simp (disch := omega) only [Try.ntmps7, Try.results7, go_sem, rr_eq, rc, sclu, bne_self_eq_false, beq_self_eq_true, decide_true]
  refine eM.callV 1 (viewL_cons_of (view_row) (viewL_cons_of (view_row) viewL_nil_of)) ?_
  simp (disch := omega) only [Try.ntmps7, Try.results7, go_sem, rr_eq, rc, sclu, bne_self_eq_false, beq_self_eq_true, decide_true]
  refine tC.callV 1 (viewL_cons_of (view_row) viewL_nil_of) ?_
  simp (disch := omega) only [Try.ntmps7, Try.results7, go_sem, rr_eq, rc, sclu, bne_self_eq_false, beq_self_eq_true, decide_true]
  refine eC.callV 1 (viewL_cons_of (view_row) (viewL_cons_of (view_row) viewL_nil_of)) ?_
  simp (disch := omega) only [Try.ntmps7, Try.results7, go_sem, rr_eq, rc, sclu, bne_self_eq_false, beq_self_eq_true, decide_true]
  refine tK.callDV 1 (viewL_cons_of (view_clu (by simp)) viewL_nil_of) ?_
  simp (disch := omega) only [Try.ntmps7, Try.results7, go_sem, rr_eq, rc, sclu, bne_self_eq_false, beq_self_eq_true, decide_true]
  refine eK.callDV 1 (viewL_cons_of (view_clu (by simp)) (viewL_cons_of (view_clu (by simp)) viewL_nil_of)) ?_
  simp (disch := omega) only [Try.ntmps7, Try.results7, go_sem, rr_eq, rc, sclu, bne_self_eq_false, beq_self_eq_true, decide_true]
  exact Fin.val rfl
end Go.Sh
