/-
  Texts put together: DB1, DA8, M3, Q1, AC1, AC2, AC3, AC5, AC6, AC7, PF0, AC4, PF2, EFnLocal, LiftB. What each proves stands at its own head, with its conditions.
-/
import Derived.Test.YthkkipbdebgghaaZFnLocal5

/-
  Drawing a matrix, constraints, and labels that may be a partition that keeps them.
-/
namespace Go.Sh
set_option linter.unusedSimpArgs false
set_option linter.unusedVariables false
open Go Go.RowKit Go.Proofs

/-- A pair that was drawn. -/
def PairH (B : List Int) (cb : Nat) (H : Heap) (ob : Nat) (cs : List SV) (nm : Nat → Nat) (M : List (List Int)) (lb : Nat) (C : List Con) (H' : Heap) : Prop :=
  MatH H' H.nb ob cs nm M ∧ H'.map lb = some ⟨cons C, false⟩ ∧ H.nb ≤ lb ∧ lb < H'.nb ∧ DS B cb H H' ∧ (1 ≤ M.length ∧ M.length ≤ 7) ∧ (∀ i, i < M.length → (mrow M i).length ≤ 6) ∧ C.length ≤ 5
theorem PairH.go {B : List Int} {cb : Nat} {H H1 H2 : Heap} {ob : Nat} {cs : List SV} {nm : Nat → Nat} {M : List (List Int)} {lb : Nat} {C : List Con} (h : PairH B cb H ob cs nm M lb C H1) (hcb : cb < H.nb) (hd : DS B cb H1 H2) : PairH B cb H ob cs nm M lb C H2 := by
  obtain ⟨h1, h2, h3, h4, h5, h6⟩ := h
  have := h5.nb
  have := hd.nb
  exact ⟨h1.fr hd.nb (fun b b1 b2 => hd.fr b b2 (by omega)), by rw [hd.fr lb h4 (by omega), h2], h3, by omega, h5.trans hd, h6⟩
def TriQ (B : List Int) (cb : Nat) (H : Heap) (r : SV) (H' : Heap) : Prop :=
  ∃ ob cs nm M lb C c2 xb L c3, r = .tup [.own ob 0 M.length M.length 1 false, .own lb 0 C.length c2 3 false, .own xb 0 L.length c3 1 false] ∧ MatH H' H.nb ob cs nm M ∧ H'.map lb = some ⟨cons C, false⟩ ∧ H'.map xb = some ⟨ints L, false⟩ ∧
    M.length ≤ 7 ∧ (∀ i, i < M.length → (mrow M i).length ≤ 6) ∧ C.length ≤ 5 ∧ 1 ≤ L.length ∧ L.length ≤ 9
theorem PairH.tri {B : List Int} {cb : Nat} {H H1 : Heap} {ob : Nat} {cs : List SV} {nm : Nat → Nat} {M : List (List Int)} {lb : Nat} {C : List Con} (h : PairH B cb H ob cs nm M lb C H1) {c2 xb c3 n : Nat} {L : List Int} (hx : H1.map xb = some ⟨ints L, false⟩) (hn : n = L.length) (h1 : 1 ≤ L.length) (h9 : L.length ≤ 9) :
    TriQ B cb H (.tup [.own ob 0 M.length M.length 1 false, .own lb 0 C.length c2 3 false, .own xb 0 n c3 1 false]) H1 := by
  subst hn
  obtain ⟨a1, a2, a3, a4, a5, a6, a7, a8⟩ := h
  exact ⟨ob, cs, nm, M, lb, C, c2, xb, L, c3, rfl, a1, a2, hx, a6.2, a7, a8, h1, h9⟩
set_option maxHeartbeats 4000000 in
theorem Try.l23Three_ok (B : List Int) (hB : B.length ≤ 1048576) (H : Heap) (cb : Nat) (hc : Cur B H cb) (hcb : cb < H.nb) : CallS Try.prog 147 [.optr cb 0] H (TriQ B cb H) := by
  refine CallS.of_body Try.func147 rfl (by kernel_rfl) (by simp [Try.ntmps147]) ?_
  refine SW.seqW ⟨ofL [(0, .optr cb 0)], H⟩ ?_ ?_
  · refine SW_of_vc Try.mixed _ _ _ (by kernel_rfl) ?_
    simp (disch := omega) only [Try.ntmps147, Try.results147, go_sem, Nat.reduceLT, Nat.reduceLeDiff, Nat.reduceEqDiff, Nat.reduceAdd, Nat.reduceSub, Nat.reduceMul, reduceIte, ↓reduceIte, reduceCtorEq, Int.reduceToNat, Int.reduceLE, Int.reduceLT, Int.reduceNeg, Int.reduceSub, Int.reduceAdd, Int.reduceMul]
    exact Wk.of (by simp only [go_sem, ↓List.forall_mem_cons, List.not_mem_nil, false_implies, implies_true, and_true, true_and, and_self, Nat.reduceEqDiff, reduceIte, ↓reduceIte, ri_eq, Int.natCast_add, Int.cast_ofNat_Int]; try simp) rfl
  refine SW.seqI (fun y : Nat × List SV × (Nat → Nat) × List (List Int) × Nat × List Con × Heap => ⟨ofL [(0, .optr cb 0), (5, .own y.1 0 y.2.2.2.1.length y.2.2.2.1.length 1 false), (6, .own y.2.2.2.2.1 0 y.2.2.2.2.2.1.length y.2.2.2.2.2.1.length 3 false)], y.2.2.2.2.2.2⟩)
    (fun y => PairH B cb H y.1 y.2.1 y.2.2.1 y.2.2.2.1 y.2.2.2.2.1 y.2.2.2.2.2.1 y.2.2.2.2.2.2) ?_ ?_
  · refine SW_of_vc Try.mixed _ _ _ (by kernel_rfl) ?_
    simp (disch := omega) only [Try.ntmps147, Try.results147, go_sem, Nat.reduceLT, Nat.reduceLeDiff, Nat.reduceEqDiff, Nat.reduceAdd, Nat.reduceSub, Nat.reduceMul, reduceIte, ↓reduceIte, reduceCtorEq, Int.reduceToNat, Int.reduceLE, Int.reduceLT, Int.reduceNeg, Int.reduceSub, Int.reduceAdd, Int.reduceMul]
    refine (Try.l20Pair_ok B hB H cb hc hcb).callX ?_
    rintro r H1 ⟨ob, cs, nm, M, lb, C, rfl, hP⟩
    simp (disch := omega) only [Try.ntmps147, Try.results147, go_sem, Nat.reduceLT, Nat.reduceLeDiff, Nat.reduceEqDiff, Nat.reduceAdd, Nat.reduceSub, Nat.reduceMul, reduceIte, ↓reduceIte, reduceCtorEq, Int.reduceToNat, Int.reduceLE, Int.reduceLT, Int.reduceNeg, Int.reduceSub, Int.reduceAdd, Int.reduceMul]
    exact ⟨(ob, cs, nm, M, lb, C, H1), hP, Wk.of (by simp only [go_sem, ↓List.forall_mem_cons, List.not_mem_nil, false_implies, implies_true, and_true, true_and, and_self, Nat.reduceEqDiff, reduceIte, ↓reduceIte, ri_eq, Int.natCast_add, Int.cast_ofNat_Int]; try simp) rfl⟩
  rintro ⟨ob, cs, nm, M, lb, C, H1⟩ hP
  simp only at hP
  obtain ⟨hM, hm, l1, l2, hd, ⟨hl1, hl7⟩, hr6, hC⟩ := id hP
  have hnb := hd.nb
  have v1 := hM.viewH (f := 0) (cap := M.length) (e := false)
  have v2 : view H1 2 (.own lb 0 C.length C.length 3 false) = some (rc C) := view_ownCC hm rfl
  have hR : ∀ i, i < M.length → (mrow M i).length ≤ 1048576 := fun i hi => by have := hr6 i hi; omega
  have hbl := bpt_len (M := M) (C := C)
  have w : FCall Try.prog 30 [rr M, rc C] (fun r H => r = .tup (.own 0 0 (bpt M C).1.length (bpt M C).1.length 1 false :: [Value.int .i64 (bpt M C).2.1, .bool (bpt M C).2.2].map .val) ∧ H = Heap.one ⟨ints (bpt M C).1, false⟩) := by
    by_cases h : okB M C
    · rw [hbl h, bpt_t h]; exact (Try.specBest_f (by omega) hR (by omega) h).oneU
    · rw [bpt_f h]; exact (Try.specBest_n (by omega) hR (by omega) h).oneU
  have hLl : (bpt M C).2.2 = true → (bpt M C).1.length = M.length := by
    by_cases h : okB M C
    · exact fun _ => hbl h
    · rw [bpt_f h]; simp
  generalize bpt M C = t at *
  obtain ⟨L, z, is⟩ := t
  simp only at w hLl
  refine SW.seqW ⟨ofL [(0, .optr cb 0), (5, .own ob 0 M.length M.length 1 false), (6, .own lb 0 C.length C.length 3 false), (7, .own H1.nb 0 L.length L.length 1 false), (9, .val (.bool is))], H1.push ⟨ints L, false⟩⟩ ?_ ?_
  · refine SW_of_vc Try.mixed _ _ _ (by kernel_rfl) ?_
    simp (disch := omega) only [Try.ntmps147, Try.results147, go_sem, Nat.reduceLT, Nat.reduceLeDiff, Nat.reduceEqDiff, Nat.reduceAdd, Nat.reduceSub, Nat.reduceMul, reduceIte, ↓reduceIte, reduceCtorEq, Int.reduceToNat, Int.reduceLE, Int.reduceLT, Int.reduceNeg, Int.reduceSub, Int.reduceAdd, Int.reduceMul]
    refine w.callOneU (ints_vals _) 2 (viewL_cons_of v1 (viewL_cons_of v2 viewL_nil_of)) ?_
    simp (disch := omega) only [Try.ntmps147, Try.results147, go_sem, Nat.reduceLT, Nat.reduceLeDiff, Nat.reduceEqDiff, Nat.reduceAdd, Nat.reduceSub, Nat.reduceMul, reduceIte, ↓reduceIte, reduceCtorEq, Int.reduceToNat, Int.reduceLE, Int.reduceLT, Int.reduceNeg, Int.reduceSub, Int.reduceAdd, Int.reduceMul]
    exact Wk.of (by simp only [go_sem, ↓List.forall_mem_cons, List.not_mem_nil, false_implies, implies_true, and_true, true_and, and_self, Nat.reduceEqDiff, reduceIte, ↓reduceIte, ri_eq, Int.natCast_add, Int.cast_ofNat_Int]; try simp) rfl
  have hP2 := hP.go hcb (DS.push hd.cur (by omega) ⟨ints L, false⟩)
  have hx2 : (H1.push ⟨ints L, false⟩).map H1.nb = some ⟨ints L, false⟩ := by rw [hpush_map, if_pos rfl]
  have hn2 : (H1.push ⟨ints L, false⟩).nb = H1.nb + 1 := hpush_nb ..
  generalize H1.push ⟨ints L, false⟩ = H2 at *
  generalize H1.nb = x at *
  clear w v1 v2 hbl hM hm l1 l2 hP
  refine SW.seqI (fun H3 : Heap => ⟨ofL [(0, .optr cb 0), (5, .own ob 0 M.length M.length 1 false), (6, .own lb 0 C.length C.length 3 false)], H3⟩) (fun H3 => PairH B cb H ob cs nm M lb C H3) ?_ ?_
  · have wb := Try.l1Below_ok B hB 4 (by omega) H2 cb hP2.2.2.2.2.1.cur
    refine SW_of_vc Try.mixed _ _ _ (by kernel_rfl) ?_
    simp (disch := omega) only [Try.ntmps147, Try.results147, go_sem, Nat.reduceLT, Nat.reduceLeDiff, Nat.reduceEqDiff, Nat.reduceAdd, Nat.reduceSub, Nat.reduceMul, reduceIte, ↓reduceIte, reduceCtorEq, Int.reduceToNat, Int.reduceLE, Int.reduceLT, Int.reduceNeg, Int.reduceSub, Int.reduceAdd, Int.reduceMul]
    refine wb.callX ?_
    rintro r H3 ⟨v, rfl, v0, v1, v2, hs⟩
    have hP3 := hP2.go hcb hs.ds
    have hx3 : H3.map x = some ⟨ints L, false⟩ := by rw [hs.map (by omega), hx2]
    have hnb3 := hP3.2.2.2.2.1.nb
    rcases (by omega : v = 0 ∨ v = 1 ∨ 2 ≤ v) with rfl | rfl | h2
    · cases is with
      | true =>
        have hl := hLl rfl
        simp (disch := omega) only [Try.ntmps147, Try.results147, go_sem, Nat.reduceLT, Nat.reduceLeDiff, Nat.reduceEqDiff, Nat.reduceAdd, Nat.reduceSub, Nat.reduceMul, reduceIte, ↓reduceIte, reduceCtorEq, Int.reduceToNat, Int.reduceLE, Int.reduceLT, Int.reduceNeg, Int.reduceSub, Int.reduceAdd, Int.reduceMul]
        exact hP3.tri hx3 rfl (by omega) (by omega)
      | false =>
        simp (disch := omega) only [Try.ntmps147, Try.results147, go_sem, Nat.reduceLT, Nat.reduceLeDiff, Nat.reduceEqDiff, Nat.reduceAdd, Nat.reduceSub, Nat.reduceMul, reduceIte, ↓reduceIte, reduceCtorEq, Int.reduceToNat, Int.reduceLE, Int.reduceLT, Int.reduceNeg, Int.reduceSub, Int.reduceAdd, Int.reduceMul]
        exact ⟨H3, hP3, Wk.of (by simp only [go_sem, ↓List.forall_mem_cons, List.not_mem_nil, false_implies, implies_true, and_true, true_and, and_self, Nat.reduceEqDiff, reduceIte, ↓reduceIte, ri_eq, Int.natCast_add, Int.cast_ofNat_Int]; try simp) rfl⟩
    · have wl := Try.l19Labels_ok B hB M.length (by omega) H3 cb hP3.2.2.2.2.1.cur (by omega)
      simp (disch := omega) only [Try.ntmps147, Try.results147, go_sem, Nat.reduceLT, Nat.reduceLeDiff, Nat.reduceEqDiff, Nat.reduceAdd, Nat.reduceSub, Nat.reduceMul, reduceIte, ↓reduceIte, reduceCtorEq, Int.reduceToNat, Int.reduceLE, Int.reduceLT, Int.reduceNeg, Int.reduceSub, Int.reduceAdd, Int.reduceMul]
      refine wl.callX ?_
      rintro r H4 ⟨xb, K, rfl, hx, x1, x2, hd4, hK⟩
      have hP4 := hP3.go hcb hd4
      simp (disch := omega) only [Try.ntmps147, Try.results147, go_sem, Nat.reduceLT, Nat.reduceLeDiff, Nat.reduceEqDiff, Nat.reduceAdd, Nat.reduceSub, Nat.reduceMul, reduceIte, ↓reduceIte, reduceCtorEq, Int.reduceToNat, Int.reduceLE, Int.reduceLT, Int.reduceNeg, Int.reduceSub, Int.reduceAdd, Int.reduceMul]
      exact hP4.tri hx rfl (by omega) (by omega)
    · simp (disch := omega) only [Try.ntmps147, Try.results147, go_sem, Nat.reduceLT, Nat.reduceLeDiff, Nat.reduceEqDiff, Nat.reduceAdd, Nat.reduceSub, Nat.reduceMul, reduceIte, ↓reduceIte, reduceCtorEq, Int.reduceToNat, Int.reduceLE, Int.reduceLT, Int.reduceNeg, Int.reduceSub, Int.reduceAdd, Int.reduceMul]
      exact ⟨H3, hP3, Wk.of (by simp only [go_sem, ↓List.forall_mem_cons, List.not_mem_nil, false_implies, implies_true, and_true, true_and, and_self, Nat.reduceEqDiff, reduceIte, ↓reduceIte, ri_eq, Int.natCast_add, Int.cast_ofNat_Int]; try simp) rfl⟩
  intro H3 hP3
  clear hP2 hx2 hn2 hLl
  obtain ⟨hM, hm, l1, l2, hd, _⟩ := id hP3
  have hnb3 := hd.nb
  have v1 := hM.viewH (f := 0) (cap := M.length) (e := false)
  have v2 : view H3 2 (.own lb 0 C.length C.length 3 false) = some (rc C) := view_ownCC hm rfl
  have w : FCall Try.prog 75 [.val (.int .i64 M.length), rc C] (OneRes (must M.length C).length 1 (ints (must M.length C))) := by
    rcases Bool.eq_false_or_eq_true (areCons M.length C) with h | h
    · have := must_length h
      have e : (must M.length C).length = ((M.length : Int)).toNat := by omega
      rw [e]; exact (Try.specMust_f M.length C (by omega) h).one
    · rw [must_f h]; exact (Try.specMust_not M.length C (by omega) (by omega) (by omega) h).one
  have hml : (must M.length C).length ≤ 9 ∧ ((must M.length C).length = 0 ∨ 1 ≤ (must M.length C).length) := by
    rcases Bool.eq_false_or_eq_true (areCons M.length C) with h | h
    · have := must_length h
      omega
    · rw [must_f h]; simp
  have wk := Try.specKeepsConstraints_ok (must M.length C) C (by omega) (by omega)
  have hk0 : (must M.length C).length = 0 → isPart (must M.length C) = false := fun h => by
    rw [List.length_eq_zero_iff.1 h]; exact isPart_nil
  generalize must M.length C = K at *
  refine SW.seqW ⟨ofL [(0, .optr cb 0), (5, .own ob 0 M.length M.length 1 false), (6, .own lb 0 C.length C.length 3 false), (10, .own H3.nb 0 K.length K.length 1 false)], H3.push ⟨ints K, false⟩⟩ ?_ ?_
  · refine SW_of_vc Try.mixed _ _ _ (by kernel_rfl) ?_
    simp (disch := omega) only [Try.ntmps147, Try.results147, go_sem, Nat.reduceLT, Nat.reduceLeDiff, Nat.reduceEqDiff, Nat.reduceAdd, Nat.reduceSub, Nat.reduceMul, reduceIte, ↓reduceIte, reduceCtorEq, Int.reduceToNat, Int.reduceLE, Int.reduceLT, Int.reduceNeg, Int.reduceSub, Int.reduceAdd, Int.reduceMul]
    refine w.callOne (ints_vals _) 2 (viewL_cons_of view_int (viewL_cons_of v2 viewL_nil_of)) ?_
    simp (disch := omega) only [Try.ntmps147, Try.results147, go_sem, Nat.reduceLT, Nat.reduceLeDiff, Nat.reduceEqDiff, Nat.reduceAdd, Nat.reduceSub, Nat.reduceMul, reduceIte, ↓reduceIte, reduceCtorEq, Int.reduceToNat, Int.reduceLE, Int.reduceLT, Int.reduceNeg, Int.reduceSub, Int.reduceAdd, Int.reduceMul]
    exact Wk.of (by simp only [go_sem, ↓List.forall_mem_cons, List.not_mem_nil, false_implies, implies_true, and_true, true_and, and_self, Nat.reduceEqDiff, reduceIte, ↓reduceIte, ri_eq, Int.natCast_add, Int.cast_ofNat_Int]; try simp) rfl
  have hP4 := hP3.go hcb (DS.push hd.cur (by omega) ⟨ints K, false⟩)
  have hx4 : (H3.push ⟨ints K, false⟩).map H3.nb = some ⟨ints K, false⟩ := by rw [hpush_map, if_pos rfl]
  have hn4 : (H3.push ⟨ints K, false⟩).nb = H3.nb + 1 := hpush_nb ..
  generalize H3.push ⟨ints K, false⟩ = H4 at *
  generalize H3.nb = x3 at *
  have v3 : view H4 2 (.own x3 0 K.length K.length 1 false) = some (ri K) := view_own hx4 rfl
  have v4 : view H4 2 (.own lb 0 C.length C.length 3 false) = some (rc C) := view_ownCC hP4.2.1 rfl
  have hcur := hP4.2.2.2.2.1.cur
  have hd4 := hP4.2.2.2.2.1.nb
  rcases Bool.eq_false_or_eq_true (isPart K && C.all (kp K)) with hk | hk
  · rw [hk] at wk
    have : isPart K = true := by rw [Bool.and_eq_true] at hk; exact hk.1
    have h1K : 1 ≤ K.length := by
      rcases hml.2 with h | h
      · rw [hk0 h] at this; simp at this
      · exact h
    refine SW_of_vc Try.mixed _ _ _ (by kernel_rfl) ?_
    simp (disch := omega) only [Try.ntmps147, Try.results147, go_sem, Nat.reduceLT, Nat.reduceLeDiff, Nat.reduceEqDiff, Nat.reduceAdd, Nat.reduceSub, Nat.reduceMul, reduceIte, ↓reduceIte, reduceCtorEq, Int.reduceToNat, Int.reduceLE, Int.reduceLT, Int.reduceNeg, Int.reduceSub, Int.reduceAdd, Int.reduceMul]
    refine wk.callV 2 (viewL_cons_of v3 (viewL_cons_of v4 viewL_nil_of)) ?_
    simp (disch := omega) only [Try.ntmps147, Try.results147, go_sem, Nat.reduceLT, Nat.reduceLeDiff, Nat.reduceEqDiff, Nat.reduceAdd, Nat.reduceSub, Nat.reduceMul, reduceIte, ↓reduceIte, reduceCtorEq, Int.reduceToNat, Int.reduceLE, Int.reduceLT, Int.reduceNeg, Int.reduceSub, Int.reduceAdd, Int.reduceMul]
    exact hP4.tri hx4 rfl h1K hml.1
  · rw [hk] at wk
    have wl := Try.l19Labels_ok B hB M.length (by omega) (H4.push ⟨[], false⟩) cb (DS.push hcur (by omega) ⟨[], false⟩).cur (by rw [hpush_nb]; omega)
    have hP5 := hP4.go hcb (DS.push hcur (by omega) ⟨[], false⟩)
    refine SW_of_vc Try.mixed _ _ _ (by kernel_rfl) ?_
    simp (disch := omega) only [Try.ntmps147, Try.results147, go_sem, Nat.reduceLT, Nat.reduceLeDiff, Nat.reduceEqDiff, Nat.reduceAdd, Nat.reduceSub, Nat.reduceMul, reduceIte, ↓reduceIte, reduceCtorEq, Int.reduceToNat, Int.reduceLE, Int.reduceLT, Int.reduceNeg, Int.reduceSub, Int.reduceAdd, Int.reduceMul]
    refine wk.callV 2 (viewL_cons_of v3 (viewL_cons_of v4 viewL_nil_of)) ?_
    simp (disch := omega) only [Try.ntmps147, Try.results147, go_sem, Nat.reduceLT, Nat.reduceLeDiff, Nat.reduceEqDiff, Nat.reduceAdd, Nat.reduceSub, Nat.reduceMul, reduceIte, ↓reduceIte, reduceCtorEq, Int.reduceToNat, Int.reduceLE, Int.reduceLT, Int.reduceNeg, Int.reduceSub, Int.reduceAdd, Int.reduceMul]
    refine wl.callX ?_
    rintro r H6 ⟨xb, Z, rfl, hx, x1, x2, hd6, hZ⟩
    have hP6 := hP5.go hcb hd6
    have hb6 : H6.map H4.nb = some ⟨[], false⟩ := by rw [hd6.fr H4.nb (by rw [hpush_nb]; omega) (by omega), hpush_map, if_pos rfl]
    have hfin : TriQ B cb H (.tup [.own ob 0 M.length M.length 1 false, .own H4.nb 0 0 0 3 false, .own xb 0 Z.length Z.length 1 false]) H6 := ⟨ob, cs, nm, M, H4.nb, [], 0, xb, Z, Z.length, rfl, hP6.1, hb6, hx, by omega, hr6, by simp, by omega, by omega⟩
    simp (disch := omega) only [Try.ntmps147, Try.results147, go_sem, Nat.reduceLT, Nat.reduceLeDiff, Nat.reduceEqDiff, Nat.reduceAdd, Nat.reduceSub, Nat.reduceMul, reduceIte, ↓reduceIte, reduceCtorEq, Int.reduceToNat, Int.reduceLE, Int.reduceLT, Int.reduceNeg, Int.reduceSub, Int.reduceAdd, Int.reduceMul]
    exact hfin
set_option maxHeartbeats 4000000 in
theorem Try.drawImp_e (B : List Int) (hB : B.length ≤ 1048576) : PCallE Try.prog 79 [rby B] (fun T => ∃ M C L, T = .tup [rr M, rc C, ri L] ∧ M.length ≤ 7 ∧ (∀ i, i < M.length → (mrow M i).length ≤ 6) ∧ C.length ≤ 5 ∧ 1 ≤ L.length ∧ L.length ≤ 9) := by
  refine FCall.pcallE (R := R3 (fun T => ∃ M C L, T = .tup [rr M, rc C, ri L] ∧ M.length ≤ 7 ∧ (∀ i, i < M.length → (mrow M i).length ≤ 6) ∧ C.length ≤ 5 ∧ 1 ≤ L.length ∧ L.length ≤ 9)) ?_ 3 (fun _ _ h => h)
  refine FCall.of_body Try.func79 rfl (by kernel_rfl) (by simp [Try.ntmps79]) ?_
  refine SW_of_vc Try.mixed _ _ _ (by kernel_rfl) ?_
  simp (disch := omega) only [Try.ntmps79, Try.results79, go_sem, Nat.reduceLT, Nat.reduceLeDiff, Nat.reduceEqDiff, Nat.reduceAdd, Nat.reduceSub, Nat.reduceMul, reduceIte, ↓reduceIte, reduceCtorEq, Int.reduceToNat, Int.reduceLE, Int.reduceLT, Int.reduceNeg, Int.reduceSub, Int.reduceAdd, Int.reduceMul, rby]
  refine (Try.l1New_ok B hB _).callX ?_
  rintro r H0 ⟨h, rfl, rfl⟩
  have hc : Cur B ((hp [] 0).push (curB B 0 h)) 0 := ⟨0, h, by omega, by rw [hpush_map]; rfl⟩
  have hn0 : ((hp [] 0).push (curB B 0 h)).nb = 1 := rfl
  generalize (hp [] 0).push (curB B 0 h) = H0 at *
  simp (disch := omega) only [Try.ntmps79, Try.results79, go_sem, Nat.reduceLT, Nat.reduceLeDiff, Nat.reduceEqDiff, Nat.reduceAdd, Nat.reduceSub, Nat.reduceMul, reduceIte, ↓reduceIte, reduceCtorEq, Int.reduceToNat, Int.reduceLE, Int.reduceLT, Int.reduceNeg, Int.reduceSub, Int.reduceAdd, Int.reduceMul, rby]
  refine (Try.l23Three_ok B hB H0 0 hc (by omega)).callX ?_
  rintro r H1 ⟨ob, cs, nm, M, lb, C, c2, xb, L, c3, rfl, hM, hm, hx, hl7, hr6, hC, hL1, hL9⟩
  simp (disch := omega) only [Try.ntmps79, Try.results79, go_sem, Nat.reduceLT, Nat.reduceLeDiff, Nat.reduceEqDiff, Nat.reduceAdd, Nat.reduceSub, Nat.reduceMul, reduceIte, ↓reduceIte, reduceCtorEq, Int.reduceToNat, Int.reduceLE, Int.reduceLT, Int.reduceNeg, Int.reduceSub, Int.reduceAdd, Int.reduceMul, rby]
  exact fin_mcl hM hm hx ⟨M, C, L, rfl, hl7, hr6, hC, hL1, hL9⟩
end Go.Sh

/-
  The laws' own helpers: is the code long; are two lists the same.
-/
namespace Go.Sh
set_option linter.unusedSimpArgs false
set_option linter.unusedVariables false
open Go Go.RowKit Go.Proofs

theorem Try.big_ok (B : List Int) (hB : B.length ≤ 9223372036854775807) : PCall Try.prog 49 [rby B] (.val (.bool (decide (1048576 < B.length)))) := by
  refine FCall.pcall (R := fun r _ => r = .val (.bool (decide (1048576 < B.length)))) ?_ 0 (by rintro r H rfl; exact view_bool)
  refine FCall.of_body Try.func49 rfl (by kernel_rfl) (by simp [Try.ntmps49]) ?_
  refine SW_of_vc Try.mixed _ _ _ (by kernel_rfl) ?_
  by_cases h : 1048576 < B.length
  · rw [decide_eq_true h]
    simp (disch := omega) only [Try.ntmps49, Try.results49, go_sem, Nat.reduceLT, Nat.reduceLeDiff, Nat.reduceEqDiff, Nat.reduceAdd, Nat.reduceSub, Nat.reduceMul, reduceIte, ↓reduceIte, reduceCtorEq, Int.reduceToNat, Int.reduceLE, Int.reduceLT, Int.reduceNeg, Int.reduceSub, Int.reduceAdd, Int.reduceMul, rby]
    exact Fin.val rfl
  · rw [decide_eq_false h]
    simp (disch := omega) only [Try.ntmps49, Try.results49, go_sem, Nat.reduceLT, Nat.reduceLeDiff, Nat.reduceEqDiff, Nat.reduceAdd, Nat.reduceSub, Nat.reduceMul, reduceIte, ↓reduceIte, reduceCtorEq, Int.reduceToNat, Int.reduceLE, Int.reduceLT, Int.reduceNeg, Int.reduceSub, Int.reduceAdd, Int.reduceMul, rby]
    exact Fin.val rfl
theorem Try.sameInts_ok (A : List Int) (hA : A.length ≤ 1048576) : PCall Try.prog 65 [ri A, ri A] (.val (.bool true)) := by
  refine FCall.pcall (R := fun r _ => r = .val (.bool true)) ?_ 0 (by rintro r H rfl; exact view_bool)
  refine FCall.of_body Try.func65 rfl (by kernel_rfl) (by simp [Try.ntmps65]) ?_
  refine SW_of_vc Try.mixed _ _ _ (by kernel_rfl) ?_
  simp (disch := omega) only [Try.ntmps65, Try.results65, go_sem, Nat.reduceLT, Nat.reduceLeDiff, Nat.reduceEqDiff, Nat.reduceAdd, Nat.reduceSub, Nat.reduceMul, reduceIte, ↓reduceIte, reduceCtorEq, Int.reduceToNat, Int.reduceLE, Int.reduceLT, Int.reduceNeg, Int.reduceSub, Int.reduceAdd, Int.reduceMul]
  refine LoopW.loop (fun k : Nat => ⟨ofL [(0, ri A), (1, ri A), (5, .val (.int .i64 k))], hp [] 0⟩) (fun k => k ≤ A.length) (fun k => A.length - k) 0 (by omega) (Wk.of (by simp only [go_sem, ↓List.forall_mem_cons, List.not_mem_nil, false_implies, implies_true, and_true, true_and, and_self, Nat.reduceEqDiff, reduceIte, ↓reduceIte, ri_eq, Int.natCast_add, Int.cast_ofNat_Int]; try simp) rfl) ?_
  intro k hk
  refine SW_of_vc Try.mixed _ _ _ (by kernel_rfl) ?_
  by_cases hlt : k < A.length
  · have gx : (ints A)[k]? = some (.val (.int .i64 (A.getD k 0))) := ints_get hlt
    have hil := ints_length A
    simp (disch := omega) only [Try.ntmps65, Try.results65, go_sem, Nat.reduceLT, Nat.reduceLeDiff, Nat.reduceEqDiff, Nat.reduceAdd, Nat.reduceSub, Nat.reduceMul, reduceIte, ↓reduceIte, reduceCtorEq, Int.reduceToNat, Int.reduceLE, Int.reduceLT, Int.reduceNeg, Int.reduceSub, Int.reduceAdd, Int.reduceMul, gx, hil, bne_self_eq_false]
    exact ⟨k + 1, by omega, by omega, Wk.of (by simp only [go_sem, ↓List.forall_mem_cons, List.not_mem_nil, false_implies, implies_true, and_true, true_and, and_self, Nat.reduceEqDiff, reduceIte, ↓reduceIte, ri_eq, Int.natCast_add, Int.cast_ofNat_Int]; try simp) rfl⟩
  · simp (disch := omega) only [Try.ntmps65, Try.results65, go_sem, Nat.reduceLT, Nat.reduceLeDiff, Nat.reduceEqDiff, Nat.reduceAdd, Nat.reduceSub, Nat.reduceMul, reduceIte, ↓reduceIte, reduceCtorEq, Int.reduceToNat, Int.reduceLE, Int.reduceLT, Int.reduceNeg, Int.reduceSub, Int.reduceAdd, Int.reduceMul]
    exact Fin.val rfl
end Go.Sh

/-
  Labels by first occurrence are a partition.
-/
namespace Go.Sh
set_option linter.unusedSimpArgs false
set_option linter.unusedVariables false
open Go Go.Proofs

def nxt : Int → List Int → Int
  | nx, [] => nx
  | nx, x :: l => nxt (max nx (x + 1)) l
theorem okP_append : ∀ (A : List Int) (nx x : Int), okP nx (A ++ [x]) = (okP nx A && inR x 0 (nxt nx A))
  | [], nx, x => by simp [okP, nxt]
  | a :: A, nx, x => by
    rw [List.cons_append, okP, okP_append A, okP, nxt, Bool.and_assoc]
theorem nxt_append : ∀ (A : List Int) (nx x : Int), nxt nx (A ++ [x]) = max (nxt nx A) (x + 1)
  | [], nx, x => by simp [nxt]
  | a :: A, nx, x => by rw [List.cons_append, nxt, nxt_append A, nxt]
theorem cst_ok (X : List Int) : ∀ k, k ≤ X.length → okP 0 (cst (X.take k)).2 = true ∧ nxt 0 (cst (X.take k)).2 = (cst (X.take k)).1.length
  | 0, _ => by simp [cst_zero, okP, nxt]
  | k + 1, hk => by
    obtain ⟨h1, h2⟩ := cst_ok X k (by omega)
    rw [cst_succ (L := X) (by omega)]
    generalize cst (X.take k) = st at *
    obtain ⟨S, O⟩ := st
    simp only at h1 h2 ⊢
    unfold cstep
    simp only
    by_cases hx : X.getD k 0 ∈ S
    · rw [if_pos hx]
      have i1 := idx_nonneg hx
      have i2 : idx (X.getD k 0) S < S.length := by
        rcases idx_lt (x := X.getD k 0) (L := S) with h | h
        · exact h
        · rw [h] at hx; simp at hx
      refine ⟨?_, ?_⟩
      · show okP 0 (O ++ [idx (X.getD k 0) S]) = true
        rw [okP_append, h1, h2, inR_tt i1 (by omega)]; rfl
      · show nxt 0 (O ++ [idx (X.getD k 0) S]) = (S.length : Int)
        rw [nxt_append, h2]; omega
    · rw [if_neg hx]
      refine ⟨?_, ?_⟩
      · show okP 0 (O ++ [(S.length : Int)]) = true
        rw [okP_append, h1, h2, inR_tt (by omega) (by omega)]; rfl
      · show nxt 0 (O ++ [(S.length : Int)]) = ((S ++ [X.getD k 0]).length : Int)
        rw [nxt_append, h2, List.length_append]
        simp only [List.length_cons, List.length_nil]
        omega
theorem canon_isPart {X : List Int} (h1 : 1 ≤ X.length) (h2 : X.length ≤ 8) : isPart (canon X) = true := by
  have := (cst_ok X X.length (Nat.le_refl _)).1
  rw [List.take_length] at this
  rw [isPart, canon_length, inR_tt (by omega) (by omega)]
  show (okP 0 (cst X).2 && true) = true
  rw [this]; rfl
end Go.Sh

/-
  Contracts: what a move gains. Of the reference and of the program; the law.
-/
namespace Go.Sh
set_option linter.unusedSimpArgs false
set_option linter.unusedVariables false
open Go Go.Proofs

noncomputable def gain (M : List (List Int)) (L : List Int) (it bl : Int) : Int := if moveOk L it bl = true ∧ 0 ≤ pcost M L then cc M L L.length - cc M (moveTo L it bl) L.length else 0
theorem pcost_cases (M : List (List Int)) (L : List Int) : (pcost M L = -1) ∨ (WM M ∧ isPart L = true ∧ L.length = M.length ∧ pcost M L = cc M L L.length) := by
  by_cases h : isWM M = true ∧ isPart L = true ∧ L.length = M.length
  · right
    exact ⟨WM_of h.1, h.2.1, h.2.2, if_pos h⟩
  · left
    exact if_neg h
theorem moveTo_part {L : List Int} {it bl : Int} (h : moveOk L it bl = true) : isPart (moveTo L it bl) = true := by
  have hp : isPart L = true := by
    unfold moveOk at h
    simp only [Bool.and_eq_true] at h
    exact h.1
  have := isPart_len hp
  rw [moveTo, if_pos h]
  exact canon_isPart (by simp; omega) (by simp; omega)

set_option maxHeartbeats 2000000 in
theorem Try.implGain_ok (M : List (List Int)) (L : List Int) (it bl : Int) (hM : M.length ≤ 1048576) (hR : ∀ i, i < M.length → (mrow M i).length ≤ 1048576) (hL : L.length ≤ 1048576) (h0 : 0 < L.length) :
    PCall Try.prog 87 [rr M, ri L, .val (.int .i64 it), .val (.int .i64 bl)] (.val (.int .i64 (gain M L it bl))) := by
  refine FCall.pcall (R := fun r _ => r = .val (.int .i64 (gain M L it bl))) ?_ 0 (by rintro r H rfl; exact view_int)
  refine FCall.of_body Try.func87 rfl (by kernel_rfl) (by simp [Try.ntmps87]) ?_
  refine SW_of_vc Try.mixed _ _ _ (by kernel_rfl) ?_
  have w1 := Try.implMove_ok L it bl hL h0
  have w2 := Try.implPartitionCost_ok M L hM hR hL
  have hml := moveTo_length L it bl
  rcases pcost_cases M L with hp | ⟨hw, hpt, hl, hp⟩
  · have hg : gain M L it bl = 0 := if_neg (fun h => by rw [hp] at h; omega)
    rw [hp] at w2
    rcases Bool.eq_false_or_eq_true (moveOk L it bl) with hk | hk
    · rw [hk] at w1
      simp (disch := omega) only [Try.ntmps87, Try.results87, go_sem, Nat.reduceLT, Nat.reduceLeDiff, Nat.reduceEqDiff, Nat.reduceAdd, Nat.reduceSub, Nat.reduceMul, reduceIte, ↓reduceIte, reduceCtorEq, Int.reduceToNat, Int.reduceLE, Int.reduceLT, Int.reduceNeg, Int.reduceSub, Int.reduceAdd, Int.reduceMul, rr_eq]
      refine w1.callV 0 (viewL_cons_of (view_rowL (by first | rfl | simp [marks_length, canon_length] | omega)) (viewL_cons_of (view_int) (viewL_cons_of (view_int) viewL_nil_of))) ?_
      simp (disch := omega) only [Try.ntmps87, Try.results87, go_sem, Nat.reduceLT, Nat.reduceLeDiff, Nat.reduceEqDiff, Nat.reduceAdd, Nat.reduceSub, Nat.reduceMul, reduceIte, ↓reduceIte, reduceCtorEq, Int.reduceToNat, Int.reduceLE, Int.reduceLT, Int.reduceNeg, Int.reduceSub, Int.reduceAdd, Int.reduceMul, rr_eq]
      refine w2.callV 0 (viewL_cons_of (view_row) (viewL_cons_of (view_rowL (by first | rfl | simp [marks_length, canon_length] | omega)) viewL_nil_of)) ?_
      simp (disch := omega) only [Try.ntmps87, Try.results87, go_sem, Nat.reduceLT, Nat.reduceLeDiff, Nat.reduceEqDiff, Nat.reduceAdd, Nat.reduceSub, Nat.reduceMul, reduceIte, ↓reduceIte, reduceCtorEq, Int.reduceToNat, Int.reduceLE, Int.reduceLT, Int.reduceNeg, Int.reduceSub, Int.reduceAdd, Int.reduceMul, rr_eq]
      exact Fin.val (by rw [hg])
    · rw [hk] at w1
      simp (disch := omega) only [Try.ntmps87, Try.results87, go_sem, Nat.reduceLT, Nat.reduceLeDiff, Nat.reduceEqDiff, Nat.reduceAdd, Nat.reduceSub, Nat.reduceMul, reduceIte, ↓reduceIte, reduceCtorEq, Int.reduceToNat, Int.reduceLE, Int.reduceLT, Int.reduceNeg, Int.reduceSub, Int.reduceAdd, Int.reduceMul, rr_eq]
      refine w1.callV 0 (viewL_cons_of (view_rowL (by first | rfl | simp [marks_length, canon_length] | omega)) (viewL_cons_of (view_int) (viewL_cons_of (view_int) viewL_nil_of))) ?_
      simp (disch := omega) only [Try.ntmps87, Try.results87, go_sem, Nat.reduceLT, Nat.reduceLeDiff, Nat.reduceEqDiff, Nat.reduceAdd, Nat.reduceSub, Nat.reduceMul, reduceIte, ↓reduceIte, reduceCtorEq, Int.reduceToNat, Int.reduceLE, Int.reduceLT, Int.reduceNeg, Int.reduceSub, Int.reduceAdd, Int.reduceMul, rr_eq]
      refine w2.callV 0 (viewL_cons_of (view_row) (viewL_cons_of (view_rowL (by first | rfl | simp [marks_length, canon_length] | omega)) viewL_nil_of)) ?_
      simp (disch := omega) only [Try.ntmps87, Try.results87, go_sem, Nat.reduceLT, Nat.reduceLeDiff, Nat.reduceEqDiff, Nat.reduceAdd, Nat.reduceSub, Nat.reduceMul, reduceIte, ↓reduceIte, reduceCtorEq, Int.reduceToNat, Int.reduceLE, Int.reduceLT, Int.reduceNeg, Int.reduceSub, Int.reduceAdd, Int.reduceMul, rr_eq]
      exact Fin.val (by rw [hg])
  · have b1 := cc_b (L := L) hw L.length (by omega)
    have b2 := cc_b (L := moveTo L it bl) hw L.length (by omega)
    have hM8 := hw.1.2
    rw [hp] at w2
    rcases Bool.eq_false_or_eq_true (moveOk L it bl) with hk | hk
    · have hg : gain M L it bl = cc M L L.length - cc M (moveTo L it bl) L.length := if_pos ⟨hk, by rw [hp]; omega⟩
      rw [hk] at w1
      have w3 := Try.implCost_ok M (moveTo L it bl) hw (by omega)
      rw [hml] at w3
      simp (disch := omega) only [Try.ntmps87, Try.results87, go_sem, Nat.reduceLT, Nat.reduceLeDiff, Nat.reduceEqDiff, Nat.reduceAdd, Nat.reduceSub, Nat.reduceMul, reduceIte, ↓reduceIte, reduceCtorEq, Int.reduceToNat, Int.reduceLE, Int.reduceLT, Int.reduceNeg, Int.reduceSub, Int.reduceAdd, Int.reduceMul, rr_eq]
      refine w1.callV 0 (viewL_cons_of (view_rowL (by first | rfl | simp [marks_length, canon_length] | omega)) (viewL_cons_of (view_int) (viewL_cons_of (view_int) viewL_nil_of))) ?_
      simp (disch := omega) only [Try.ntmps87, Try.results87, go_sem, Nat.reduceLT, Nat.reduceLeDiff, Nat.reduceEqDiff, Nat.reduceAdd, Nat.reduceSub, Nat.reduceMul, reduceIte, ↓reduceIte, reduceCtorEq, Int.reduceToNat, Int.reduceLE, Int.reduceLT, Int.reduceNeg, Int.reduceSub, Int.reduceAdd, Int.reduceMul, rr_eq]
      refine w2.callV 0 (viewL_cons_of (view_row) (viewL_cons_of (view_rowL (by first | rfl | simp [marks_length, canon_length] | omega)) viewL_nil_of)) ?_
      simp (disch := omega) only [Try.ntmps87, Try.results87, go_sem, Nat.reduceLT, Nat.reduceLeDiff, Nat.reduceEqDiff, Nat.reduceAdd, Nat.reduceSub, Nat.reduceMul, reduceIte, ↓reduceIte, reduceCtorEq, Int.reduceToNat, Int.reduceLE, Int.reduceLT, Int.reduceNeg, Int.reduceSub, Int.reduceAdd, Int.reduceMul, rr_eq]
      refine w3.callV 0 (viewL_cons_of (view_row) (viewL_cons_of (view_rowL (by first | rfl | simp [marks_length, canon_length] | omega)) viewL_nil_of)) ?_
      simp (disch := omega) only [Try.ntmps87, Try.results87, go_sem, Nat.reduceLT, Nat.reduceLeDiff, Nat.reduceEqDiff, Nat.reduceAdd, Nat.reduceSub, Nat.reduceMul, reduceIte, ↓reduceIte, reduceCtorEq, Int.reduceToNat, Int.reduceLE, Int.reduceLT, Int.reduceNeg, Int.reduceSub, Int.reduceAdd, Int.reduceMul, rr_eq]
      exact Fin.val (by rw [hg])
    · have hg : gain M L it bl = 0 := if_neg (fun h => by rw [hk] at h; cases h.1)
      rw [hk] at w1
      simp (disch := omega) only [Try.ntmps87, Try.results87, go_sem, Nat.reduceLT, Nat.reduceLeDiff, Nat.reduceEqDiff, Nat.reduceAdd, Nat.reduceSub, Nat.reduceMul, reduceIte, ↓reduceIte, reduceCtorEq, Int.reduceToNat, Int.reduceLE, Int.reduceLT, Int.reduceNeg, Int.reduceSub, Int.reduceAdd, Int.reduceMul, rr_eq]
      refine w1.callV 0 (viewL_cons_of (view_rowL (by first | rfl | simp [marks_length, canon_length] | omega)) (viewL_cons_of (view_int) (viewL_cons_of (view_int) viewL_nil_of))) ?_
      simp (disch := omega) only [Try.ntmps87, Try.results87, go_sem, Nat.reduceLT, Nat.reduceLeDiff, Nat.reduceEqDiff, Nat.reduceAdd, Nat.reduceSub, Nat.reduceMul, reduceIte, ↓reduceIte, reduceCtorEq, Int.reduceToNat, Int.reduceLE, Int.reduceLT, Int.reduceNeg, Int.reduceSub, Int.reduceAdd, Int.reduceMul, rr_eq]
      refine w2.callV 0 (viewL_cons_of (view_row) (viewL_cons_of (view_rowL (by first | rfl | simp [marks_length, canon_length] | omega)) viewL_nil_of)) ?_
      simp (disch := omega) only [Try.ntmps87, Try.results87, go_sem, Nat.reduceLT, Nat.reduceLeDiff, Nat.reduceEqDiff, Nat.reduceAdd, Nat.reduceSub, Nat.reduceMul, reduceIte, ↓reduceIte, reduceCtorEq, Int.reduceToNat, Int.reduceLE, Int.reduceLT, Int.reduceNeg, Int.reduceSub, Int.reduceAdd, Int.reduceMul, rr_eq]
      exact Fin.val (by rw [hg])

set_option maxHeartbeats 2000000 in
theorem Try.specGain_ok (M : List (List Int)) (L : List Int) (it bl : Int) (hM : M.length ≤ 1048576) (hR : ∀ i, i < M.length → (mrow M i).length ≤ 1048576) (hL : L.length ≤ 1048576) :
    PCall Try.prog 153 [rr M, ri L, .val (.int .i64 it), .val (.int .i64 bl)] (.val (.int .i64 (gain M L it bl))) := by
  refine FCall.pcall (R := fun r _ => r = .val (.int .i64 (gain M L it bl))) ?_ 0 (by rintro r H rfl; exact view_int)
  refine FCall.of_body Try.func153 rfl (by kernel_rfl) (by simp [Try.ntmps153]) ?_
  refine SW_of_vc Try.mixed _ _ _ (by kernel_rfl) ?_
  have w1 := Try.specMove_ok L it bl hL
  have w2 := Try.specPartitionCost_ok M L hM hR hL
  have hml := moveTo_length L it bl
  rcases pcost_cases M L with hp | ⟨hw, hpt, hl, hp⟩
  · have hg : gain M L it bl = 0 := if_neg (fun h => by rw [hp] at h; omega)
    rw [hp] at w2
    rcases Bool.eq_false_or_eq_true (moveOk L it bl) with hk | hk
    · rw [hk] at w1
      simp (disch := omega) only [Try.ntmps153, Try.results153, go_sem, Nat.reduceLT, Nat.reduceLeDiff, Nat.reduceEqDiff, Nat.reduceAdd, Nat.reduceSub, Nat.reduceMul, reduceIte, ↓reduceIte, reduceCtorEq, Int.reduceToNat, Int.reduceLE, Int.reduceLT, Int.reduceNeg, Int.reduceSub, Int.reduceAdd, Int.reduceMul, rr_eq]
      refine w1.callV 0 (viewL_cons_of (view_rowL (by first | rfl | simp [marks_length, canon_length] | omega)) (viewL_cons_of (view_int) (viewL_cons_of (view_int) viewL_nil_of))) ?_
      simp (disch := omega) only [Try.ntmps153, Try.results153, go_sem, Nat.reduceLT, Nat.reduceLeDiff, Nat.reduceEqDiff, Nat.reduceAdd, Nat.reduceSub, Nat.reduceMul, reduceIte, ↓reduceIte, reduceCtorEq, Int.reduceToNat, Int.reduceLE, Int.reduceLT, Int.reduceNeg, Int.reduceSub, Int.reduceAdd, Int.reduceMul, rr_eq]
      refine w2.callV 0 (viewL_cons_of (view_row) (viewL_cons_of (view_rowL (by first | rfl | simp [marks_length, canon_length] | omega)) viewL_nil_of)) ?_
      simp (disch := omega) only [Try.ntmps153, Try.results153, go_sem, Nat.reduceLT, Nat.reduceLeDiff, Nat.reduceEqDiff, Nat.reduceAdd, Nat.reduceSub, Nat.reduceMul, reduceIte, ↓reduceIte, reduceCtorEq, Int.reduceToNat, Int.reduceLE, Int.reduceLT, Int.reduceNeg, Int.reduceSub, Int.reduceAdd, Int.reduceMul, rr_eq]
      exact Fin.val (by rw [hg])
    · rw [hk] at w1
      simp (disch := omega) only [Try.ntmps153, Try.results153, go_sem, Nat.reduceLT, Nat.reduceLeDiff, Nat.reduceEqDiff, Nat.reduceAdd, Nat.reduceSub, Nat.reduceMul, reduceIte, ↓reduceIte, reduceCtorEq, Int.reduceToNat, Int.reduceLE, Int.reduceLT, Int.reduceNeg, Int.reduceSub, Int.reduceAdd, Int.reduceMul, rr_eq]
      refine w1.callV 0 (viewL_cons_of (view_rowL (by first | rfl | simp [marks_length, canon_length] | omega)) (viewL_cons_of (view_int) (viewL_cons_of (view_int) viewL_nil_of))) ?_
      simp (disch := omega) only [Try.ntmps153, Try.results153, go_sem, Nat.reduceLT, Nat.reduceLeDiff, Nat.reduceEqDiff, Nat.reduceAdd, Nat.reduceSub, Nat.reduceMul, reduceIte, ↓reduceIte, reduceCtorEq, Int.reduceToNat, Int.reduceLE, Int.reduceLT, Int.reduceNeg, Int.reduceSub, Int.reduceAdd, Int.reduceMul, rr_eq]
      refine w2.callV 0 (viewL_cons_of (view_row) (viewL_cons_of (view_rowL (by first | rfl | simp [marks_length, canon_length] | omega)) viewL_nil_of)) ?_
      simp (disch := omega) only [Try.ntmps153, Try.results153, go_sem, Nat.reduceLT, Nat.reduceLeDiff, Nat.reduceEqDiff, Nat.reduceAdd, Nat.reduceSub, Nat.reduceMul, reduceIte, ↓reduceIte, reduceCtorEq, Int.reduceToNat, Int.reduceLE, Int.reduceLT, Int.reduceNeg, Int.reduceSub, Int.reduceAdd, Int.reduceMul, rr_eq]
      exact Fin.val (by rw [hg])
  · have b1 := cc_b (L := L) hw L.length (by omega)
    have b2 := cc_b (L := moveTo L it bl) hw L.length (by omega)
    have hM8 := hw.1.2
    rw [hp] at w2
    rcases Bool.eq_false_or_eq_true (moveOk L it bl) with hk | hk
    · have hg : gain M L it bl = cc M L L.length - cc M (moveTo L it bl) L.length := if_pos ⟨hk, by rw [hp]; omega⟩
      rw [hk] at w1
      have w3 := Try.specPartitionCost_ok M (moveTo L it bl) hM hR (by omega)
      have hp3 : pcost M (moveTo L it bl) = cc M (moveTo L it bl) L.length := by
        rw [pcost, if_pos ⟨isWM_t hw, moveTo_part hk, by omega⟩, hml]
      rw [hp3] at w3
      simp (disch := omega) only [Try.ntmps153, Try.results153, go_sem, Nat.reduceLT, Nat.reduceLeDiff, Nat.reduceEqDiff, Nat.reduceAdd, Nat.reduceSub, Nat.reduceMul, reduceIte, ↓reduceIte, reduceCtorEq, Int.reduceToNat, Int.reduceLE, Int.reduceLT, Int.reduceNeg, Int.reduceSub, Int.reduceAdd, Int.reduceMul, rr_eq]
      refine w1.callV 0 (viewL_cons_of (view_rowL (by first | rfl | simp [marks_length, canon_length] | omega)) (viewL_cons_of (view_int) (viewL_cons_of (view_int) viewL_nil_of))) ?_
      simp (disch := omega) only [Try.ntmps153, Try.results153, go_sem, Nat.reduceLT, Nat.reduceLeDiff, Nat.reduceEqDiff, Nat.reduceAdd, Nat.reduceSub, Nat.reduceMul, reduceIte, ↓reduceIte, reduceCtorEq, Int.reduceToNat, Int.reduceLE, Int.reduceLT, Int.reduceNeg, Int.reduceSub, Int.reduceAdd, Int.reduceMul, rr_eq]
      refine w2.callV 0 (viewL_cons_of (view_row) (viewL_cons_of (view_rowL (by first | rfl | simp [marks_length, canon_length] | omega)) viewL_nil_of)) ?_
      simp (disch := omega) only [Try.ntmps153, Try.results153, go_sem, Nat.reduceLT, Nat.reduceLeDiff, Nat.reduceEqDiff, Nat.reduceAdd, Nat.reduceSub, Nat.reduceMul, reduceIte, ↓reduceIte, reduceCtorEq, Int.reduceToNat, Int.reduceLE, Int.reduceLT, Int.reduceNeg, Int.reduceSub, Int.reduceAdd, Int.reduceMul, rr_eq]
      refine w3.callV 0 (viewL_cons_of (view_row) (viewL_cons_of (view_rowL (by first | rfl | simp [marks_length, canon_length] | omega)) viewL_nil_of)) ?_
      simp (disch := omega) only [Try.ntmps153, Try.results153, go_sem, Nat.reduceLT, Nat.reduceLeDiff, Nat.reduceEqDiff, Nat.reduceAdd, Nat.reduceSub, Nat.reduceMul, reduceIte, ↓reduceIte, reduceCtorEq, Int.reduceToNat, Int.reduceLE, Int.reduceLT, Int.reduceNeg, Int.reduceSub, Int.reduceAdd, Int.reduceMul, rr_eq]
      exact Fin.val (by rw [hg])
    · have hg : gain M L it bl = 0 := if_neg (fun h => by rw [hk] at h; cases h.1)
      rw [hk] at w1
      simp (disch := omega) only [Try.ntmps153, Try.results153, go_sem, Nat.reduceLT, Nat.reduceLeDiff, Nat.reduceEqDiff, Nat.reduceAdd, Nat.reduceSub, Nat.reduceMul, reduceIte, ↓reduceIte, reduceCtorEq, Int.reduceToNat, Int.reduceLE, Int.reduceLT, Int.reduceNeg, Int.reduceSub, Int.reduceAdd, Int.reduceMul, rr_eq]
      refine w1.callV 0 (viewL_cons_of (view_rowL (by first | rfl | simp [marks_length, canon_length] | omega)) (viewL_cons_of (view_int) (viewL_cons_of (view_int) viewL_nil_of))) ?_
      simp (disch := omega) only [Try.ntmps153, Try.results153, go_sem, Nat.reduceLT, Nat.reduceLeDiff, Nat.reduceEqDiff, Nat.reduceAdd, Nat.reduceSub, Nat.reduceMul, reduceIte, ↓reduceIte, reduceCtorEq, Int.reduceToNat, Int.reduceLE, Int.reduceLT, Int.reduceNeg, Int.reduceSub, Int.reduceAdd, Int.reduceMul, rr_eq]
      refine w2.callV 0 (viewL_cons_of (view_row) (viewL_cons_of (view_rowL (by first | rfl | simp [marks_length, canon_length] | omega)) viewL_nil_of)) ?_
      simp (disch := omega) only [Try.ntmps153, Try.results153, go_sem, Nat.reduceLT, Nat.reduceLeDiff, Nat.reduceEqDiff, Nat.reduceAdd, Nat.reduceSub, Nat.reduceMul, reduceIte, ↓reduceIte, reduceCtorEq, Int.reduceToNat, Int.reduceLE, Int.reduceLT, Int.reduceNeg, Int.reduceSub, Int.reduceAdd, Int.reduceMul, rr_eq]
      exact Fin.val (by rw [hg])

/-- At an empty list that is not nil. -/
theorem Try.implGain_0 (M : List (List Int)) (it bl : Int) (hM : M.length ≤ 1048576) (hR : ∀ i, i < M.length → (mrow M i).length ≤ 1048576) (H : Heap) (b cap : Nat) (ex e2 : Bool) (hb : H.map b = some ⟨ints [], e2⟩) (hbn : b ≠ H.nb) :
    CallS Try.prog 87 [rr M, .own b 0 0 cap 1 ex, .val (.int .i64 it), .val (.int .i64 bl)] H (fun r H' => r = .val (.int .i64 0) ∧ H' = H.push ⟨[], false⟩) := by
  have hp : pcost M [] = -1 := if_neg (fun h => by have := h.2.1; rw [isPart_nil] at this; cases this)
  have w2 := Try.implPartitionCost_ok M [] hM hR (by simp)
  rw [hp] at w2
  have p2 : (H.push ⟨[], false⟩).map b = some ⟨ints [], e2⟩ := by simp [Heap.push, hbn, hb]
  refine CallS.of_body Try.func87 rfl (by kernel_rfl) (by simp [Try.ntmps87]) ?_
  refine SW_of_vc Try.mixed _ _ _ (by kernel_rfl) ?_
  simp (disch := omega) only [Try.ntmps87, Try.results87, go_sem, Nat.reduceLT, Nat.reduceLeDiff, Nat.reduceEqDiff, Nat.reduceAdd, Nat.reduceSub, Nat.reduceMul, reduceIte, ↓reduceIte, reduceCtorEq, Int.reduceToNat, Int.reduceLE, Int.reduceLT, Int.reduceNeg, Int.reduceSub, Int.reduceAdd, Int.reduceMul, rr_eq]
  refine (Try.implMove_0 H it bl b cap ex e2 hb hbn).callDet ?_
  simp (disch := omega) only [Try.ntmps87, Try.results87, go_sem, Nat.reduceLT, Nat.reduceLeDiff, Nat.reduceEqDiff, Nat.reduceAdd, Nat.reduceSub, Nat.reduceMul, reduceIte, ↓reduceIte, reduceCtorEq, Int.reduceToNat, Int.reduceLE, Int.reduceLT, Int.reduceNeg, Int.reduceSub, Int.reduceAdd, Int.reduceMul, rr_eq]
  refine w2.callV 1 (viewL_cons_of view_row (viewL_cons_of (view_own p2 (by simp)) viewL_nil_of)) ?_
  simp (disch := omega) only [Try.ntmps87, Try.results87, go_sem, Nat.reduceLT, Nat.reduceLeDiff, Nat.reduceEqDiff, Nat.reduceAdd, Nat.reduceSub, Nat.reduceMul, reduceIte, ↓reduceIte, reduceCtorEq, Int.reduceToNat, Int.reduceLE, Int.reduceLT, Int.reduceNeg, Int.reduceSub, Int.reduceAdd, Int.reduceMul, rr_eq]

end Go.Sh

/-
  The best move: plain.
-/
namespace Go.Sh
set_option linter.unusedSimpArgs false
set_option linter.unusedVariables false
open Go Go.Proofs

abbrev Mv := Int × Int × Int
noncomputable def bstep (M : List (List Int)) (C : List Con) (L : List Int) (best : Mv) (i b : Nat) : Mv :=
  if moveOk L i b = true ∧ best.2.2 < gain M L i b ∧ C.all (kp (moveTo L i b)) = true then ((i : Int), (b : Int), gain M L i b) else best
noncomputable def bmRow (M : List (List Int)) (C : List Con) (L : List Int) (best : Mv) (i : Nat) : Nat → Mv
  | 0 => best
  | b + 1 => bstep M C L (bmRow M C L best i b) i b
theorem bmRow_stop {M : List (List Int)} {C : List Con} {L : List Int} {best : Mv} {i k : Nat} (h : ∀ b, k ≤ b → moveOk L i b = false) : ∀ {j : Nat}, k ≤ j → bmRow M C L best i j = bmRow M C L best i k := by
  intro j hj
  induction hj with
  | refl => rfl
  | step hs ih =>
    rename_i m
    rw [bmRow, bstep, if_neg (by rw [h m hs]; simp), ih]
noncomputable def bmTo (M : List (List Int)) (C : List Con) (L : List Int) : Nat → Mv
  | 0 => (0, 0, 0)
  | i + 1 => bmRow M C L (bmTo M C L i) i (L.length + 1)
def canM (M : List (List Int)) (C : List Con) (L : List Int) : Prop := 0 ≤ pcost M L ∧ C.all (kp L) = true
theorem canM_r {M : List (List Int)} {C : List Con} {L : List Int} (h : canM M C L) : WM M ∧ isPart L = true ∧ L.length = M.length ∧ pcost M L = cc M L L.length := by
  rcases pcost_cases M L with g | g
  · have := h.1; omega
  · exact g
open Classical in
noncomputable def bmv (M : List (List Int)) (C : List Con) (L : List Int) : Mv := if canM M C L then bmTo M C L L.length else (0, 0, 0)
theorem bmv_t {M : List (List Int)} {C : List Con} {L : List Int} (h : canM M C L) : bmv M C L = bmTo M C L L.length := by rw [bmv, if_pos h]
theorem bmv_f {M : List (List Int)} {C : List Con} {L : List Int} (h : ¬ canM M C L) : bmv M C L = (0, 0, 0) := by rw [bmv, if_neg h]
theorem gain_r {M : List (List Int)} {L : List Int} (hw : WM M) (hl : L.length = M.length) (i b : Int) : -64000 ≤ gain M L i b ∧ gain M L i b ≤ 64000 := by
  have h8 := hw.1
  have h1 := cc_b (L := L) hw L.length (by omega)
  have h2 := cc_b (L := moveTo L i b) hw L.length (by omega)
  unfold gain
  split <;> omega
theorem bmRow_r {M : List (List Int)} {C : List Con} {L : List Int} (hw : WM M) (hl : L.length = M.length) {best : Mv} {i : Nat} (h : -64000 ≤ best.2.2 ∧ best.2.2 ≤ 64000) : ∀ b, -64000 ≤ (bmRow M C L best i b).2.2 ∧ (bmRow M C L best i b).2.2 ≤ 64000
  | 0 => h
  | b + 1 => by
    have ih := bmRow_r (C := C) hw hl (i := i) h b
    rw [bmRow, bstep]
    split
    · exact gain_r hw hl _ _
    · exact ih
theorem bmTo_r {M : List (List Int)} {C : List Con} {L : List Int} (hw : WM M) (hl : L.length = M.length) : ∀ i, -64000 ≤ (bmTo M C L i).2.2 ∧ (bmTo M C L i).2.2 ≤ 64000
  | 0 => by simp [bmTo]
  | i + 1 => bmRow_r hw hl (bmTo_r hw hl i) _
theorem top_lt {L : List Int} (h : isPart L = true) : ∀ k, k ≤ L.length → top L k ≤ (k : Int) - 1
  | 0, _ => by rw [top_zero]; omega
  | k + 1, hk => by
    have ih := top_lt h k (by omega)
    rw [top_succ (by omega)]
    rw [isPart, Bool.and_eq_true] at h
    have := okP_bound L 0 h.1 k (by omega)
    omega
theorem moveOk_in {L : List Int} (h : isPart L = true) {i b : Nat} (hi : i < L.length) : moveOk L i b = decide ((b : Int) ≤ top L L.length + 1) := by
  rw [moveOk, h, inR_tt (by omega) (by omega)]
  by_cases hb : (b : Int) ≤ top L L.length + 1
  · rw [inR_tt (by omega) hb, decide_eq_true hb]; rfl
  · rw [inR_f2 hb, decide_eq_false hb]; rfl
end Go.Sh

/-
  The best move, of the reference.
-/
namespace Go.Sh
set_option linter.unusedSimpArgs false
set_option linter.unusedVariables false
open Go Go.Proofs

abbrev mvS (t : Mv) : List SV := [.val (.int .i64 t.1), .val (.int .i64 t.2.1), .val (.int .i64 t.2.2)]
abbrev mvR (t : Mv) : SV := .tup [.agg (mvS t), .val (.bool (decide (0 < t.2.2)))]
theorem fin_mv {R : SV → Heap → Prop} {a b c : Value} {u : Value} {H : Heap} (h : R (.tup [.agg [.val a, .val b, .val c], .val u]) ⟨fun _ => none, H.nb⟩) : Fin R (.tup [.agg [.val a, .val b, .val c], .val u]) H :=
  ⟨⟨fun _ => none, H.nb⟩, ⟨rfl, fun _ => .inl rfl⟩, by simp [noRow, noRowL], fun b blk hb => by simp at hb, h⟩
theorem view_mv {H : Heap} {f : Nat} {a b c : Int} {u : Bool} : view H (f + 2) (.tup [.agg [.val (.int .i64 a), .val (.int .i64 b), .val (.int .i64 c)], .val (.bool u)]) = some (.tup [.agg [.val (.int .i64 a), .val (.int .i64 b), .val (.int .i64 c)], .val (.bool u)]) := by
  simp only [view, viewL, viewV]
theorem moveOk_part {L : List Int} {i b : Int} (h : moveOk L i b = true) : isPart L = true := by
  unfold moveOk at h
  simp only [Bool.and_eq_true] at h
  exact h.1
theorem kp_not {M : List (List Int)} {C : List Con} {L : List Int} (h1 : ¬ pcost M L < 0) (h : ¬ canM M C L) : C.all (kp L) = false := by
  cases hk : C.all (kp L) with
  | false => rfl
  | true => exact absurd ⟨by omega, hk⟩ h

set_option maxRecDepth 20000 in
set_option maxHeartbeats 8000000 in
theorem Try.specBM_ok (M : List (List Int)) (C : List Con) (L : List Int) (hM : M.length ≤ 1048576) (hR : ∀ i, i < M.length → (mrow M i).length ≤ 1048576) (hC : C.length ≤ 1048576) (hL : L.length ≤ 1048576) :
    PCall Try.prog 83 [rr M, rc C, ri L] (mvR (bmv M C L)) := by
  refine FCall.pcall (R := fun r _ => r = mvR (bmv M C L)) ?_ 2 (by rintro r H rfl; exact view_mv)
  have w1 := Try.specPartitionCost_ok M L hM hR hL
  have w2 := Try.specKeepsConstraints_ok L C hL hC
  refine FCall.of_body Try.func83 rfl (by kernel_rfl) (by simp [Try.ntmps83]) ?_
  refine SW_of_vc2 (onD 14 [(67, 6)] []) Try.mixed _ _ _ (by kernel_rfl) ?_
  by_cases hcan : canM M C L
  case neg =>
    rw [bmv_f hcan]
    by_cases hp : pcost M L < 0
    · simp (disch := omega) only [Try.ntmps83, Try.results83, go_sem, Nat.reduceLT, Nat.reduceLeDiff, Nat.reduceEqDiff, Nat.reduceAdd, Nat.reduceSub, Nat.reduceMul, reduceIte, ↓reduceIte, reduceCtorEq, Int.reduceToNat, Int.reduceLE, Int.reduceLT, Int.reduceNeg, Int.reduceSub, Int.reduceAdd, Int.reduceMul, rr_eq, rc, mvS]
      refine w1.callV 0 (viewL_cons_of (view_row) (viewL_cons_of (view_rowL (by first | rfl | simp [marks_length, canon_length] | omega)) viewL_nil_of)) ?_
      simp (disch := omega) only [Try.ntmps83, Try.results83, go_sem, Nat.reduceLT, Nat.reduceLeDiff, Nat.reduceEqDiff, Nat.reduceAdd, Nat.reduceSub, Nat.reduceMul, reduceIte, ↓reduceIte, reduceCtorEq, Int.reduceToNat, Int.reduceLE, Int.reduceLT, Int.reduceNeg, Int.reduceSub, Int.reduceAdd, Int.reduceMul, rr_eq, rc, mvS]
      exact fin_mv rfl
    · rw [kp_not hp hcan, Bool.and_false] at w2
      simp (disch := omega) only [Try.ntmps83, Try.results83, go_sem, Nat.reduceLT, Nat.reduceLeDiff, Nat.reduceEqDiff, Nat.reduceAdd, Nat.reduceSub, Nat.reduceMul, reduceIte, ↓reduceIte, reduceCtorEq, Int.reduceToNat, Int.reduceLE, Int.reduceLT, Int.reduceNeg, Int.reduceSub, Int.reduceAdd, Int.reduceMul, rr_eq, rc, mvS]
      refine w1.callV 0 (viewL_cons_of (view_row) (viewL_cons_of (view_rowL (by first | rfl | simp [marks_length, canon_length] | omega)) viewL_nil_of)) ?_
      simp (disch := omega) only [Try.ntmps83, Try.results83, go_sem, Nat.reduceLT, Nat.reduceLeDiff, Nat.reduceEqDiff, Nat.reduceAdd, Nat.reduceSub, Nat.reduceMul, reduceIte, ↓reduceIte, reduceCtorEq, Int.reduceToNat, Int.reduceLE, Int.reduceLT, Int.reduceNeg, Int.reduceSub, Int.reduceAdd, Int.reduceMul, rr_eq, rc, mvS]
      refine w2.callV 2 (viewL_cons_of view_row (viewL_cons_of view_row viewL_nil_of)) ?_
      simp (disch := omega) only [Try.ntmps83, Try.results83, go_sem, Nat.reduceLT, Nat.reduceLeDiff, Nat.reduceEqDiff, Nat.reduceAdd, Nat.reduceSub, Nat.reduceMul, reduceIte, ↓reduceIte, reduceCtorEq, Int.reduceToNat, Int.reduceLE, Int.reduceLT, Int.reduceNeg, Int.reduceSub, Int.reduceAdd, Int.reduceMul, rr_eq, rc, mvS]
      exact fin_mv rfl
  rw [bmv_t hcan]
  obtain ⟨hw, hpt, hl, hpc⟩ := canM_r hcan
  have hp0 := hcan.1
  rw [hpt, hcan.2] at w2
  have hln := hw.1
  simp (disch := omega) only [Try.ntmps83, Try.results83, go_sem, Nat.reduceLT, Nat.reduceLeDiff, Nat.reduceEqDiff, Nat.reduceAdd, Nat.reduceSub, Nat.reduceMul, reduceIte, ↓reduceIte, reduceCtorEq, Int.reduceToNat, Int.reduceLE, Int.reduceLT, Int.reduceNeg, Int.reduceSub, Int.reduceAdd, Int.reduceMul, rr_eq, rc, mvS]
  refine w1.callV 0 (viewL_cons_of (view_row) (viewL_cons_of (view_rowL (by first | rfl | simp [marks_length, canon_length] | omega)) viewL_nil_of)) ?_
  simp (disch := omega) only [Try.ntmps83, Try.results83, go_sem, Nat.reduceLT, Nat.reduceLeDiff, Nat.reduceEqDiff, Nat.reduceAdd, Nat.reduceSub, Nat.reduceMul, reduceIte, ↓reduceIte, reduceCtorEq, Int.reduceToNat, Int.reduceLE, Int.reduceLT, Int.reduceNeg, Int.reduceSub, Int.reduceAdd, Int.reduceMul, rr_eq, rc, mvS]
  refine w2.callV 2 (viewL_cons_of view_row (viewL_cons_of view_row viewL_nil_of)) ?_
  simp (disch := omega) only [Try.ntmps83, Try.results83, go_sem, Nat.reduceLT, Nat.reduceLeDiff, Nat.reduceEqDiff, Nat.reduceAdd, Nat.reduceSub, Nat.reduceMul, reduceIte, ↓reduceIte, reduceCtorEq, Int.reduceToNat, Int.reduceLE, Int.reduceLT, Int.reduceNeg, Int.reduceSub, Int.reduceAdd, Int.reduceMul, rr_eq, rc, mvS]
  clear w1 w2
  refine LoopW.loop (fun i : Nat => ⟨ofL [(0, rr M), (1, rc C), (2, ri L), (6, .optr 0 0), (7, .val (.bool false)), (8, .optr 1 0), (9, .val (.int .i64 i))], hp [(1, ⟨mvS (bmTo M C L i), true⟩), (0, ⟨mvS (0, 0, 0), true⟩)] 2⟩) (fun i => i ≤ L.length) (fun i => L.length - i) 0 (by omega) (Wk.ofH (by simp only [go_sem, ↓List.forall_mem_cons, List.not_mem_nil, false_implies, implies_true, and_true, true_and, and_self, Nat.reduceEqDiff, reduceIte, ↓reduceIte, ri_eq, Int.natCast_add, Int.cast_ofNat_Int, rr_eq, rc]; try simp) (by simp [hp, hmap, bmTo]) (by simp [hp])) ?_
  intro i hi
  refine SW_of_vc2 (onD 14 [(67, 6)] []) Try.mixed _ _ _ (by kernel_rfl) ?_
  by_cases hlt : i < L.length
  · simp (disch := omega) only [Try.ntmps83, Try.results83, go_sem, Nat.reduceLT, Nat.reduceLeDiff, Nat.reduceEqDiff, Nat.reduceAdd, Nat.reduceSub, Nat.reduceMul, reduceIte, ↓reduceIte, reduceCtorEq, Int.reduceToNat, Int.reduceLE, Int.reduceLT, Int.reduceNeg, Int.reduceSub, Int.reduceAdd, Int.reduceMul, rr_eq, rc, mvS]
    refine LoopW.loop (fun k : Nat => ⟨ofL [(0, rr M), (1, rc C), (2, ri L), (6, .optr 0 0), (7, .val (.bool false)), (8, .optr 1 0), (9, .val (.int .i64 i)), (10, .val (.int .i64 k))], hp [(1, ⟨mvS (bmRow M C L (bmTo M C L i) i k), true⟩), (0, ⟨mvS (0, 0, 0), true⟩)] 2⟩) (fun k => k ≤ L.length + 1) (fun k => L.length + 1 - k) 0 (by omega) (Wk.ofH (by simp only [go_sem, ↓List.forall_mem_cons, List.not_mem_nil, false_implies, implies_true, and_true, true_and, and_self, Nat.reduceEqDiff, reduceIte, ↓reduceIte, ri_eq, Int.natCast_add, Int.cast_ofNat_Int, rr_eq, rc]; try simp) (by simp [hp, hmap, bmRow]) (by simp [hp])) ?_
    intro k hk
    refine SW_of_vc2 (onD 14 [(67, 6)] []) Try.mixed _ _ _ (by kernel_rfl) ?_
    by_cases hlt2 : k ≤ L.length
    · have w3 := Try.specMove_ok L i k hL
      have w4 := Try.specGain_ok M L i k hM hR hL
      have w5 := Try.specKeepsConstraints_ok (moveTo L i k) C (by rw [moveTo_length]; exact hL) hC
      have hb : bmRow M C L (bmTo M C L i) i (k + 1) = bstep M C L (bmRow M C L (bmTo M C L i) i k) i k := rfl
      rw [bstep] at hb
      generalize hb2 : bmRow M C L (bmTo M C L i) i (k + 1) = t2 at *
      generalize bmRow M C L (bmTo M C L i) i k = t at *
      generalize gain M L i k = g at *
      rcases Bool.eq_false_or_eq_true (moveOk L i k) with hok | hok
      · rw [moveTo_part hok, Bool.true_and] at w5
        rw [hok] at w3 hb
        by_cases hg : t.2.2 < g
        · rcases Bool.eq_false_or_eq_true (C.all (kp (moveTo L i k))) with hkp | hkp
          · rw [hkp] at w5
            rw [if_pos ⟨rfl, hg, hkp⟩] at hb
            subst hb
            simp (disch := omega) only [Try.ntmps83, Try.results83, go_sem, Nat.reduceLT, Nat.reduceLeDiff, Nat.reduceEqDiff, Nat.reduceAdd, Nat.reduceSub, Nat.reduceMul, reduceIte, ↓reduceIte, reduceCtorEq, Int.reduceToNat, Int.reduceLE, Int.reduceLT, Int.reduceNeg, Int.reduceSub, Int.reduceAdd, Int.reduceMul, rr_eq, rc, mvS]
            refine w3.callV 0 (viewL_cons_of (view_rowL (by first | rfl | simp [marks_length, canon_length] | omega)) (viewL_cons_of (view_int) (viewL_cons_of (view_int) viewL_nil_of))) ?_
            simp (disch := omega) only [Try.ntmps83, Try.results83, go_sem, Nat.reduceLT, Nat.reduceLeDiff, Nat.reduceEqDiff, Nat.reduceAdd, Nat.reduceSub, Nat.reduceMul, reduceIte, ↓reduceIte, reduceCtorEq, Int.reduceToNat, Int.reduceLE, Int.reduceLT, Int.reduceNeg, Int.reduceSub, Int.reduceAdd, Int.reduceMul, rr_eq, rc, mvS]
            refine w4.callV 0 (viewL_cons_of (view_row) (viewL_cons_of (view_rowL (by first | rfl | simp [marks_length, canon_length] | omega)) (viewL_cons_of (view_int) (viewL_cons_of (view_int) viewL_nil_of)))) ?_
            simp (disch := omega) only [Try.ntmps83, Try.results83, go_sem, Nat.reduceLT, Nat.reduceLeDiff, Nat.reduceEqDiff, Nat.reduceAdd, Nat.reduceSub, Nat.reduceMul, reduceIte, ↓reduceIte, reduceCtorEq, Int.reduceToNat, Int.reduceLE, Int.reduceLT, Int.reduceNeg, Int.reduceSub, Int.reduceAdd, Int.reduceMul, rr_eq, rc, mvS]
            refine w5.callV 2 (viewL_cons_of view_row (viewL_cons_of view_row viewL_nil_of)) ?_
            simp (disch := omega) only [Try.ntmps83, Try.results83, go_sem, Nat.reduceLT, Nat.reduceLeDiff, Nat.reduceEqDiff, Nat.reduceAdd, Nat.reduceSub, Nat.reduceMul, reduceIte, ↓reduceIte, reduceCtorEq, Int.reduceToNat, Int.reduceLE, Int.reduceLT, Int.reduceNeg, Int.reduceSub, Int.reduceAdd, Int.reduceMul, rr_eq, rc, mvS]
            exact ⟨k + 1, by omega, by omega, Wk.ofH (by simp only [go_sem, ↓List.forall_mem_cons, List.not_mem_nil, false_implies, implies_true, and_true, true_and, and_self, Nat.reduceEqDiff, reduceIte, ↓reduceIte, ri_eq, Int.natCast_add, Int.cast_ofNat_Int, rr_eq, rc]; try simp) (by simp (disch := omega) only [go_sem, ↓List.forall_mem_cons, List.not_mem_nil, false_implies, implies_true, and_true, true_and, and_self, Nat.reduceEqDiff, reduceIte, ↓reduceIte, ri_eq, Int.natCast_add, Int.cast_ofNat_Int, if_pos, if_neg, Nat.reduceAdd, List.nil_append, hb2]; try simp) (Nat.le_refl _)⟩
          · rw [hkp] at w5
            rw [if_neg (fun h => by rw [hkp] at h; cases h.2.2)] at hb
            subst hb
            simp (disch := omega) only [Try.ntmps83, Try.results83, go_sem, Nat.reduceLT, Nat.reduceLeDiff, Nat.reduceEqDiff, Nat.reduceAdd, Nat.reduceSub, Nat.reduceMul, reduceIte, ↓reduceIte, reduceCtorEq, Int.reduceToNat, Int.reduceLE, Int.reduceLT, Int.reduceNeg, Int.reduceSub, Int.reduceAdd, Int.reduceMul, rr_eq, rc, mvS]
            refine w3.callV 0 (viewL_cons_of (view_rowL (by first | rfl | simp [marks_length, canon_length] | omega)) (viewL_cons_of (view_int) (viewL_cons_of (view_int) viewL_nil_of))) ?_
            simp (disch := omega) only [Try.ntmps83, Try.results83, go_sem, Nat.reduceLT, Nat.reduceLeDiff, Nat.reduceEqDiff, Nat.reduceAdd, Nat.reduceSub, Nat.reduceMul, reduceIte, ↓reduceIte, reduceCtorEq, Int.reduceToNat, Int.reduceLE, Int.reduceLT, Int.reduceNeg, Int.reduceSub, Int.reduceAdd, Int.reduceMul, rr_eq, rc, mvS]
            refine w4.callV 0 (viewL_cons_of (view_row) (viewL_cons_of (view_rowL (by first | rfl | simp [marks_length, canon_length] | omega)) (viewL_cons_of (view_int) (viewL_cons_of (view_int) viewL_nil_of)))) ?_
            simp (disch := omega) only [Try.ntmps83, Try.results83, go_sem, Nat.reduceLT, Nat.reduceLeDiff, Nat.reduceEqDiff, Nat.reduceAdd, Nat.reduceSub, Nat.reduceMul, reduceIte, ↓reduceIte, reduceCtorEq, Int.reduceToNat, Int.reduceLE, Int.reduceLT, Int.reduceNeg, Int.reduceSub, Int.reduceAdd, Int.reduceMul, rr_eq, rc, mvS]
            refine w5.callV 2 (viewL_cons_of view_row (viewL_cons_of view_row viewL_nil_of)) ?_
            simp (disch := omega) only [Try.ntmps83, Try.results83, go_sem, Nat.reduceLT, Nat.reduceLeDiff, Nat.reduceEqDiff, Nat.reduceAdd, Nat.reduceSub, Nat.reduceMul, reduceIte, ↓reduceIte, reduceCtorEq, Int.reduceToNat, Int.reduceLE, Int.reduceLT, Int.reduceNeg, Int.reduceSub, Int.reduceAdd, Int.reduceMul, rr_eq, rc, mvS]
            exact ⟨k + 1, by omega, by omega, Wk.ofH (by simp only [go_sem, ↓List.forall_mem_cons, List.not_mem_nil, false_implies, implies_true, and_true, true_and, and_self, Nat.reduceEqDiff, reduceIte, ↓reduceIte, ri_eq, Int.natCast_add, Int.cast_ofNat_Int, rr_eq, rc]; try simp) (by simp (disch := omega) only [go_sem, ↓List.forall_mem_cons, List.not_mem_nil, false_implies, implies_true, and_true, true_and, and_self, Nat.reduceEqDiff, reduceIte, ↓reduceIte, ri_eq, Int.natCast_add, Int.cast_ofNat_Int, if_pos, if_neg, Nat.reduceAdd, List.nil_append, hb2]; try simp) (Nat.le_refl _)⟩
        · rw [if_neg (fun h => hg h.2.1)] at hb
          subst hb
          simp (disch := omega) only [Try.ntmps83, Try.results83, go_sem, Nat.reduceLT, Nat.reduceLeDiff, Nat.reduceEqDiff, Nat.reduceAdd, Nat.reduceSub, Nat.reduceMul, reduceIte, ↓reduceIte, reduceCtorEq, Int.reduceToNat, Int.reduceLE, Int.reduceLT, Int.reduceNeg, Int.reduceSub, Int.reduceAdd, Int.reduceMul, rr_eq, rc, mvS]
          refine w3.callV 0 (viewL_cons_of (view_rowL (by first | rfl | simp [marks_length, canon_length] | omega)) (viewL_cons_of (view_int) (viewL_cons_of (view_int) viewL_nil_of))) ?_
          simp (disch := omega) only [Try.ntmps83, Try.results83, go_sem, Nat.reduceLT, Nat.reduceLeDiff, Nat.reduceEqDiff, Nat.reduceAdd, Nat.reduceSub, Nat.reduceMul, reduceIte, ↓reduceIte, reduceCtorEq, Int.reduceToNat, Int.reduceLE, Int.reduceLT, Int.reduceNeg, Int.reduceSub, Int.reduceAdd, Int.reduceMul, rr_eq, rc, mvS]
          refine w4.callV 0 (viewL_cons_of (view_row) (viewL_cons_of (view_rowL (by first | rfl | simp [marks_length, canon_length] | omega)) (viewL_cons_of (view_int) (viewL_cons_of (view_int) viewL_nil_of)))) ?_
          simp (disch := omega) only [Try.ntmps83, Try.results83, go_sem, Nat.reduceLT, Nat.reduceLeDiff, Nat.reduceEqDiff, Nat.reduceAdd, Nat.reduceSub, Nat.reduceMul, reduceIte, ↓reduceIte, reduceCtorEq, Int.reduceToNat, Int.reduceLE, Int.reduceLT, Int.reduceNeg, Int.reduceSub, Int.reduceAdd, Int.reduceMul, rr_eq, rc, mvS]
          exact ⟨k + 1, by omega, by omega, Wk.ofH (by simp only [go_sem, ↓List.forall_mem_cons, List.not_mem_nil, false_implies, implies_true, and_true, true_and, and_self, Nat.reduceEqDiff, reduceIte, ↓reduceIte, ri_eq, Int.natCast_add, Int.cast_ofNat_Int, rr_eq, rc]; try simp) (by simp (disch := omega) only [go_sem, ↓List.forall_mem_cons, List.not_mem_nil, false_implies, implies_true, and_true, true_and, and_self, Nat.reduceEqDiff, reduceIte, ↓reduceIte, ri_eq, Int.natCast_add, Int.cast_ofNat_Int, if_pos, if_neg, Nat.reduceAdd, List.nil_append, hb2]; try simp) (Nat.le_refl _)⟩
      · rw [hok] at w3
        rw [if_neg (fun h => by rw [hok] at h; cases h.1)] at hb
        subst hb
        simp (disch := omega) only [Try.ntmps83, Try.results83, go_sem, Nat.reduceLT, Nat.reduceLeDiff, Nat.reduceEqDiff, Nat.reduceAdd, Nat.reduceSub, Nat.reduceMul, reduceIte, ↓reduceIte, reduceCtorEq, Int.reduceToNat, Int.reduceLE, Int.reduceLT, Int.reduceNeg, Int.reduceSub, Int.reduceAdd, Int.reduceMul, rr_eq, rc, mvS]
        refine w3.callV 0 (viewL_cons_of (view_rowL (by first | rfl | simp [marks_length, canon_length] | omega)) (viewL_cons_of (view_int) (viewL_cons_of (view_int) viewL_nil_of))) ?_
        simp (disch := omega) only [Try.ntmps83, Try.results83, go_sem, Nat.reduceLT, Nat.reduceLeDiff, Nat.reduceEqDiff, Nat.reduceAdd, Nat.reduceSub, Nat.reduceMul, reduceIte, ↓reduceIte, reduceCtorEq, Int.reduceToNat, Int.reduceLE, Int.reduceLT, Int.reduceNeg, Int.reduceSub, Int.reduceAdd, Int.reduceMul, rr_eq, rc, mvS]
        refine w4.callV 0 (viewL_cons_of (view_row) (viewL_cons_of (view_rowL (by first | rfl | simp [marks_length, canon_length] | omega)) (viewL_cons_of (view_int) (viewL_cons_of (view_int) viewL_nil_of)))) ?_
        simp (disch := omega) only [Try.ntmps83, Try.results83, go_sem, Nat.reduceLT, Nat.reduceLeDiff, Nat.reduceEqDiff, Nat.reduceAdd, Nat.reduceSub, Nat.reduceMul, reduceIte, ↓reduceIte, reduceCtorEq, Int.reduceToNat, Int.reduceLE, Int.reduceLT, Int.reduceNeg, Int.reduceSub, Int.reduceAdd, Int.reduceMul, rr_eq, rc, mvS]
        exact ⟨k + 1, by omega, by omega, Wk.ofH (by simp only [go_sem, ↓List.forall_mem_cons, List.not_mem_nil, false_implies, implies_true, and_true, true_and, and_self, Nat.reduceEqDiff, reduceIte, ↓reduceIte, ri_eq, Int.natCast_add, Int.cast_ofNat_Int, rr_eq, rc]; try simp) (by simp (disch := omega) only [go_sem, ↓List.forall_mem_cons, List.not_mem_nil, false_implies, implies_true, and_true, true_and, and_self, Nat.reduceEqDiff, reduceIte, ↓reduceIte, ri_eq, Int.natCast_add, Int.cast_ofNat_Int, if_pos, if_neg, Nat.reduceAdd, List.nil_append, hb2]; try simp) (Nat.le_refl _)⟩
    · obtain rfl : k = L.length + 1 := by omega
      have e : bmRow M C L (bmTo M C L i) i (L.length + 1) = bmTo M C L (i + 1) := rfl
      rw [e]
      simp (disch := omega) only [Try.ntmps83, Try.results83, go_sem, Nat.reduceLT, Nat.reduceLeDiff, Nat.reduceEqDiff, Nat.reduceAdd, Nat.reduceSub, Nat.reduceMul, reduceIte, ↓reduceIte, reduceCtorEq, Int.reduceToNat, Int.reduceLE, Int.reduceLT, Int.reduceNeg, Int.reduceSub, Int.reduceAdd, Int.reduceMul, rr_eq, rc, mvS]
      exact ⟨i + 1, hlt, by omega, Wk.ofH (by simp only [go_sem, ↓List.forall_mem_cons, List.not_mem_nil, false_implies, implies_true, and_true, true_and, and_self, Nat.reduceEqDiff, reduceIte, ↓reduceIte, ri_eq, Int.natCast_add, Int.cast_ofNat_Int, rr_eq, rc]; try simp) (by simp (disch := omega) only [go_sem, ↓List.forall_mem_cons, List.not_mem_nil, false_implies, implies_true, and_true, true_and, and_self, Nat.reduceEqDiff, reduceIte, ↓reduceIte, ri_eq, Int.natCast_add, Int.cast_ofNat_Int, if_pos, if_neg, Nat.reduceAdd, List.nil_append]; try simp) (Nat.le_refl _)⟩
  · obtain rfl : i = L.length := by omega
    simp (disch := omega) only [Try.ntmps83, Try.results83, go_sem, Nat.reduceLT, Nat.reduceLeDiff, Nat.reduceEqDiff, Nat.reduceAdd, Nat.reduceSub, Nat.reduceMul, reduceIte, ↓reduceIte, reduceCtorEq, Int.reduceToNat, Int.reduceLE, Int.reduceLT, Int.reduceNeg, Int.reduceSub, Int.reduceAdd, Int.reduceMul, rr_eq, rc, mvS]
    exact fin_mv rfl
end Go.Sh

/-
  The best move, of the program.
-/
namespace Go.Sh
set_option linter.unusedSimpArgs false
set_option linter.unusedVariables false
open Go Go.Proofs

theorem Try.canMove_t (M : List (List Int)) (C : List Con) (L : List Int) (hM : M.length ≤ 1048576) (hR : ∀ i, i < M.length → (mrow M i).length ≤ 1048576) (hC : C.length ≤ 1048576) (hL : L.length ≤ 1048576) (h : canM M C L) :
    PCall Try.prog 151 [rr M, rc C, ri L] (.val (.bool true)) := by
  refine FCall.pcall (R := fun r _ => r = .val (.bool true)) ?_ 0 (by rintro r H rfl; exact view_bool)
  have w1 := Try.implPartitionCost_ok M L hM hR hL
  have w2 := Try.keeps_ok L C hL hC
  rw [h.2] at w2
  have hp0 := h.1
  refine FCall.of_body Try.func151 rfl (by kernel_rfl) (by simp [Try.ntmps151]) ?_
  refine SW_of_vc Try.mixed _ _ _ (by kernel_rfl) ?_
  simp (disch := omega) only [Try.ntmps151, Try.results151, go_sem, Nat.reduceLT, Nat.reduceLeDiff, Nat.reduceEqDiff, Nat.reduceAdd, Nat.reduceSub, Nat.reduceMul, reduceIte, ↓reduceIte, reduceCtorEq, Int.reduceToNat, Int.reduceLE, Int.reduceLT, Int.reduceNeg, Int.reduceSub, Int.reduceAdd, Int.reduceMul, rr_eq, rc]
  refine w1.callV 0 (viewL_cons_of (view_row) (viewL_cons_of (view_rowL (by first | rfl | simp [marks_length, canon_length] | omega)) viewL_nil_of)) ?_
  simp (disch := omega) only [Try.ntmps151, Try.results151, go_sem, Nat.reduceLT, Nat.reduceLeDiff, Nat.reduceEqDiff, Nat.reduceAdd, Nat.reduceSub, Nat.reduceMul, reduceIte, ↓reduceIte, reduceCtorEq, Int.reduceToNat, Int.reduceLE, Int.reduceLT, Int.reduceNeg, Int.reduceSub, Int.reduceAdd, Int.reduceMul, rr_eq, rc]
  refine w2.callV 2 (viewL_cons_of view_row (viewL_cons_of view_row viewL_nil_of)) ?_
  simp (disch := omega) only [Try.ntmps151, Try.results151, go_sem, Nat.reduceLT, Nat.reduceLeDiff, Nat.reduceEqDiff, Nat.reduceAdd, Nat.reduceSub, Nat.reduceMul, reduceIte, ↓reduceIte, reduceCtorEq, Int.reduceToNat, Int.reduceLE, Int.reduceLT, Int.reduceNeg, Int.reduceSub, Int.reduceAdd, Int.reduceMul, rr_eq, rc]
  exact Fin.val rfl
theorem Try.canMove_f (M : List (List Int)) (C : List Con) (L : List Int) (hM : M.length ≤ 1048576) (hR : ∀ i, i < M.length → (mrow M i).length ≤ 1048576) (hC : C.length ≤ 1048576) (hL : L.length ≤ 1048576) (h : ¬ canM M C L) :
    PCall Try.prog 151 [rr M, rc C, ri L] (.val (.bool false)) := by
  refine FCall.pcall (R := fun r _ => r = .val (.bool false)) ?_ 0 (by rintro r H rfl; exact view_bool)
  have w1 := Try.implPartitionCost_ok M L hM hR hL
  have w2 := Try.keeps_ok L C hL hC
  refine FCall.of_body Try.func151 rfl (by kernel_rfl) (by simp [Try.ntmps151]) ?_
  refine SW_of_vc Try.mixed _ _ _ (by kernel_rfl) ?_
  by_cases hp : pcost M L < 0
  · simp (disch := omega) only [Try.ntmps151, Try.results151, go_sem, Nat.reduceLT, Nat.reduceLeDiff, Nat.reduceEqDiff, Nat.reduceAdd, Nat.reduceSub, Nat.reduceMul, reduceIte, ↓reduceIte, reduceCtorEq, Int.reduceToNat, Int.reduceLE, Int.reduceLT, Int.reduceNeg, Int.reduceSub, Int.reduceAdd, Int.reduceMul, rr_eq, rc]
    refine w1.callV 0 (viewL_cons_of (view_row) (viewL_cons_of (view_rowL (by first | rfl | simp [marks_length, canon_length] | omega)) viewL_nil_of)) ?_
    simp (disch := omega) only [Try.ntmps151, Try.results151, go_sem, Nat.reduceLT, Nat.reduceLeDiff, Nat.reduceEqDiff, Nat.reduceAdd, Nat.reduceSub, Nat.reduceMul, reduceIte, ↓reduceIte, reduceCtorEq, Int.reduceToNat, Int.reduceLE, Int.reduceLT, Int.reduceNeg, Int.reduceSub, Int.reduceAdd, Int.reduceMul, rr_eq, rc]
    exact Fin.val rfl
  · rw [kp_not hp h] at w2
    simp (disch := omega) only [Try.ntmps151, Try.results151, go_sem, Nat.reduceLT, Nat.reduceLeDiff, Nat.reduceEqDiff, Nat.reduceAdd, Nat.reduceSub, Nat.reduceMul, reduceIte, ↓reduceIte, reduceCtorEq, Int.reduceToNat, Int.reduceLE, Int.reduceLT, Int.reduceNeg, Int.reduceSub, Int.reduceAdd, Int.reduceMul, rr_eq, rc]
    refine w1.callV 0 (viewL_cons_of (view_row) (viewL_cons_of (view_rowL (by first | rfl | simp [marks_length, canon_length] | omega)) viewL_nil_of)) ?_
    simp (disch := omega) only [Try.ntmps151, Try.results151, go_sem, Nat.reduceLT, Nat.reduceLeDiff, Nat.reduceEqDiff, Nat.reduceAdd, Nat.reduceSub, Nat.reduceMul, reduceIte, ↓reduceIte, reduceCtorEq, Int.reduceToNat, Int.reduceLE, Int.reduceLT, Int.reduceNeg, Int.reduceSub, Int.reduceAdd, Int.reduceMul, rr_eq, rc]
    refine w2.callV 2 (viewL_cons_of view_row (viewL_cons_of view_row viewL_nil_of)) ?_
    simp (disch := omega) only [Try.ntmps151, Try.results151, go_sem, Nat.reduceLT, Nat.reduceLeDiff, Nat.reduceEqDiff, Nat.reduceAdd, Nat.reduceSub, Nat.reduceMul, reduceIte, ↓reduceIte, reduceCtorEq, Int.reduceToNat, Int.reduceLE, Int.reduceLT, Int.reduceNeg, Int.reduceSub, Int.reduceAdd, Int.reduceMul, rr_eq, rc]
    exact Fin.val rfl
theorem Try.moved_ok (L : List Int) (it bl : Int) (h : moveOk L it bl = true) : PCall Try.prog 149 [ri L, .val (.int .i64 it), .val (.int .i64 bl)] (ri (moveTo L it bl)) :=
  (Try.moved_f L it bl h).one.pcall 2 (fun _ _ h => one_view h (moveTo_length L it bl).symm)

set_option maxRecDepth 20000 in
set_option maxHeartbeats 8000000 in
theorem Try.implBM_ok (M : List (List Int)) (C : List Con) (L : List Int) (hM : M.length ≤ 1048576) (hR : ∀ i, i < M.length → (mrow M i).length ≤ 1048576) (hC : C.length ≤ 1048576) (hL : L.length ≤ 1048576) :
    PCall Try.prog 82 [rr M, rc C, ri L] (mvR (bmv M C L)) := by
  refine FCall.pcall (R := fun r _ => r = mvR (bmv M C L)) ?_ 2 (by rintro r H rfl; exact view_mv)
  refine FCall.of_body Try.func82 rfl (by kernel_rfl) (by simp [Try.ntmps82]) ?_
  refine SW_of_vc2 (onD 16 [(58, 6)] []) Try.mixed _ _ _ (by kernel_rfl) ?_
  by_cases hcan : canM M C L
  case neg =>
    rw [bmv_f hcan]
    simp (disch := omega) only [Try.ntmps82, Try.results82, go_sem, Nat.reduceLT, Nat.reduceLeDiff, Nat.reduceEqDiff, Nat.reduceAdd, Nat.reduceSub, Nat.reduceMul, reduceIte, ↓reduceIte, reduceCtorEq, Int.reduceToNat, Int.reduceLE, Int.reduceLT, Int.reduceNeg, Int.reduceSub, Int.reduceAdd, Int.reduceMul, rr_eq, rc, mvS]
    refine (Try.canMove_f M C L hM hR hC hL hcan).callV 2 (viewL_cons_of view_row (viewL_cons_of view_row (viewL_cons_of view_row viewL_nil_of))) ?_
    simp (disch := omega) only [Try.ntmps82, Try.results82, go_sem, Nat.reduceLT, Nat.reduceLeDiff, Nat.reduceEqDiff, Nat.reduceAdd, Nat.reduceSub, Nat.reduceMul, reduceIte, ↓reduceIte, reduceCtorEq, Int.reduceToNat, Int.reduceLE, Int.reduceLT, Int.reduceNeg, Int.reduceSub, Int.reduceAdd, Int.reduceMul, rr_eq, rc, mvS]
    exact fin_mv rfl
  rw [bmv_t hcan]
  obtain ⟨hw, hpt, hl, hpc⟩ := canM_r hcan
  have hln := hw.1
  have w1 := Try.implCost_ok M L hw hl
  have b1 := cc_b (L := L) hw L.length (by omega)
  have wB := Try.blockCount_ok L hpt
  have g1 := top_ge L L.length (Nat.le_refl _)
  have g2 := top_lt hpt L.length (Nat.le_refl _)
  have hok : ∀ i b : Nat, i < L.length → moveOk L i b = decide ((b : Int) ≤ top L L.length + 1) := fun i b h => moveOk_in hpt h
  obtain ⟨T, hT⟩ : ∃ T : Nat, top L L.length + 1 = T := ⟨(top L L.length + 1).toNat, by omega⟩
  rw [hT] at hok wB
  have hTl : T ≤ L.length := by omega
  clear g1 g2
  simp (disch := omega) only [Try.ntmps82, Try.results82, go_sem, Nat.reduceLT, Nat.reduceLeDiff, Nat.reduceEqDiff, Nat.reduceAdd, Nat.reduceSub, Nat.reduceMul, reduceIte, ↓reduceIte, reduceCtorEq, Int.reduceToNat, Int.reduceLE, Int.reduceLT, Int.reduceNeg, Int.reduceSub, Int.reduceAdd, Int.reduceMul, rr_eq, rc, mvS]
  refine (Try.canMove_t M C L hM hR hC hL hcan).callV 2 (viewL_cons_of view_row (viewL_cons_of view_row (viewL_cons_of view_row viewL_nil_of))) ?_
  simp (disch := omega) only [Try.ntmps82, Try.results82, go_sem, Nat.reduceLT, Nat.reduceLeDiff, Nat.reduceEqDiff, Nat.reduceAdd, Nat.reduceSub, Nat.reduceMul, reduceIte, ↓reduceIte, reduceCtorEq, Int.reduceToNat, Int.reduceLE, Int.reduceLT, Int.reduceNeg, Int.reduceSub, Int.reduceAdd, Int.reduceMul, rr_eq, rc, mvS]
  refine w1.callV 0 (viewL_cons_of (view_row) (viewL_cons_of (view_rowL (by first | rfl | simp [marks_length, canon_length] | omega)) viewL_nil_of)) ?_
  simp (disch := omega) only [Try.ntmps82, Try.results82, go_sem, Nat.reduceLT, Nat.reduceLeDiff, Nat.reduceEqDiff, Nat.reduceAdd, Nat.reduceSub, Nat.reduceMul, reduceIte, ↓reduceIte, reduceCtorEq, Int.reduceToNat, Int.reduceLE, Int.reduceLT, Int.reduceNeg, Int.reduceSub, Int.reduceAdd, Int.reduceMul, rr_eq, rc, mvS]
  clear w1
  refine LoopW.loop (fun i : Nat => ⟨ofL [(0, rr M), (1, rc C), (2, ri L), (6, .optr 0 0), (7, .val (.bool false)), (8, .optr 1 0), (9, .val (.int .i64 (cc M L L.length))), (24, .val (.int .i64 L.length)), (25, .val (.int .i64 i))], hp [(1, ⟨mvS (bmTo M C L i), true⟩), (0, ⟨mvS (0, 0, 0), true⟩)] 2⟩) (fun i => i ≤ L.length) (fun i => L.length - i) 0 (by omega) (Wk.ofH (by simp only [go_sem, ↓List.forall_mem_cons, List.not_mem_nil, false_implies, implies_true, and_true, true_and, and_self, Nat.reduceEqDiff, reduceIte, ↓reduceIte, ri_eq, Int.natCast_add, Int.cast_ofNat_Int, rr_eq, rc]; try simp) (by simp [hp, hmap, bmTo]) (by simp [hp])) ?_
  intro i hi
  refine SW_of_vc2 (onD 16 [(58, 6)] []) Try.mixed _ _ _ (by kernel_rfl) ?_
  by_cases hlt : i < L.length
  · simp (disch := omega) only [Try.ntmps82, Try.results82, go_sem, Nat.reduceLT, Nat.reduceLeDiff, Nat.reduceEqDiff, Nat.reduceAdd, Nat.reduceSub, Nat.reduceMul, reduceIte, ↓reduceIte, reduceCtorEq, Int.reduceToNat, Int.reduceLE, Int.reduceLT, Int.reduceNeg, Int.reduceSub, Int.reduceAdd, Int.reduceMul, rr_eq, rc, mvS]
    refine LoopW.loop (fun k : Nat => ⟨ofL [(0, rr M), (1, rc C), (2, ri L), (6, .optr 0 0), (7, .val (.bool false)), (8, .optr 1 0), (9, .val (.int .i64 (cc M L L.length))), (10, .val (.int .i64 i)), (24, .val (.int .i64 L.length)), (25, .val (.int .i64 i)), (11, .val (.int .i64 k))], hp [(1, ⟨mvS (bmRow M C L (bmTo M C L i) i k), true⟩), (0, ⟨mvS (0, 0, 0), true⟩)] 2⟩) (fun k => k ≤ T + 1) (fun k => T + 1 - k) 0 (by omega) (Wk.ofH (by simp only [go_sem, ↓List.forall_mem_cons, List.not_mem_nil, false_implies, implies_true, and_true, true_and, and_self, Nat.reduceEqDiff, reduceIte, ↓reduceIte, ri_eq, Int.natCast_add, Int.cast_ofNat_Int, rr_eq, rc]; try simp) (by simp [hp, hmap, bmRow]) (by simp [hp])) ?_
    intro k hk
    refine SW_of_vc2 (onD 16 [(58, 6)] []) Try.mixed _ _ _ (by kernel_rfl) ?_
    by_cases hlt2 : k ≤ T
    · have hokk : moveOk L i k = true := by rw [hok i k hlt]; exact decide_eq_true (by omega)
      have hml := moveTo_length L i k
      have w3 := Try.moved_ok L i k hokk
      have w4 := Try.implCost_ok M (moveTo L i k) hw (by omega)
      have b2 := cc_b (L := moveTo L i k) hw L.length (by omega)
      rw [hml] at w4
      have w5 := Try.keeps_ok (moveTo L i k) C (by rw [hml]; exact hL) hC
      have hgn : gain M L i k = cc M L L.length - cc M (moveTo L i k) L.length := if_pos ⟨hokk, hcan.1⟩
      have hb : bmRow M C L (bmTo M C L i) i (k + 1) = bstep M C L (bmRow M C L (bmTo M C L i) i k) i k := rfl
      rw [bstep, hgn] at hb
      generalize hb2 : bmRow M C L (bmTo M C L i) i (k + 1) = t2 at *
      generalize bmRow M C L (bmTo M C L i) i k = t at *
      generalize cc M (moveTo L i k) L.length = c2 at *
      generalize cc M L L.length = c1 at *
      by_cases hg : t.2.2 < c1 - c2
      · rcases Bool.eq_false_or_eq_true (C.all (kp (moveTo L i k))) with hkp | hkp
        · rw [hkp] at w5
          rw [if_pos ⟨hokk, hg, hkp⟩] at hb
          subst hb
          simp (disch := omega) only [Try.ntmps82, Try.results82, go_sem, Nat.reduceLT, Nat.reduceLeDiff, Nat.reduceEqDiff, Nat.reduceAdd, Nat.reduceSub, Nat.reduceMul, reduceIte, ↓reduceIte, reduceCtorEq, Int.reduceToNat, Int.reduceLE, Int.reduceLT, Int.reduceNeg, Int.reduceSub, Int.reduceAdd, Int.reduceMul, rr_eq, rc, mvS]
          refine wB.callV 0 (viewL_cons_of (view_rowL (by first | rfl | simp [marks_length, canon_length] | omega)) viewL_nil_of) ?_
          simp (disch := omega) only [Try.ntmps82, Try.results82, go_sem, Nat.reduceLT, Nat.reduceLeDiff, Nat.reduceEqDiff, Nat.reduceAdd, Nat.reduceSub, Nat.reduceMul, reduceIte, ↓reduceIte, reduceCtorEq, Int.reduceToNat, Int.reduceLE, Int.reduceLT, Int.reduceNeg, Int.reduceSub, Int.reduceAdd, Int.reduceMul, rr_eq, rc, mvS]
          refine w3.callV 0 (viewL_cons_of (view_rowL (by first | rfl | simp [marks_length, canon_length] | omega)) (viewL_cons_of (view_int) (viewL_cons_of (view_int) viewL_nil_of))) ?_
          simp (disch := omega) only [Try.ntmps82, Try.results82, go_sem, Nat.reduceLT, Nat.reduceLeDiff, Nat.reduceEqDiff, Nat.reduceAdd, Nat.reduceSub, Nat.reduceMul, reduceIte, ↓reduceIte, reduceCtorEq, Int.reduceToNat, Int.reduceLE, Int.reduceLT, Int.reduceNeg, Int.reduceSub, Int.reduceAdd, Int.reduceMul, rr_eq, rc, mvS]
          refine w4.callV 0 (viewL_cons_of (view_row) (viewL_cons_of (view_rowL (by first | rfl | simp [marks_length, canon_length] | omega)) viewL_nil_of)) ?_
          simp (disch := omega) only [Try.ntmps82, Try.results82, go_sem, Nat.reduceLT, Nat.reduceLeDiff, Nat.reduceEqDiff, Nat.reduceAdd, Nat.reduceSub, Nat.reduceMul, reduceIte, ↓reduceIte, reduceCtorEq, Int.reduceToNat, Int.reduceLE, Int.reduceLT, Int.reduceNeg, Int.reduceSub, Int.reduceAdd, Int.reduceMul, rr_eq, rc, mvS]
          refine w5.callV 2 (viewL_cons_of view_row (viewL_cons_of view_row viewL_nil_of)) ?_
          simp (disch := omega) only [Try.ntmps82, Try.results82, go_sem, Nat.reduceLT, Nat.reduceLeDiff, Nat.reduceEqDiff, Nat.reduceAdd, Nat.reduceSub, Nat.reduceMul, reduceIte, ↓reduceIte, reduceCtorEq, Int.reduceToNat, Int.reduceLE, Int.reduceLT, Int.reduceNeg, Int.reduceSub, Int.reduceAdd, Int.reduceMul, rr_eq, rc, mvS]
          exact ⟨k + 1, by omega, by omega, Wk.ofH (by simp only [go_sem, ↓List.forall_mem_cons, List.not_mem_nil, false_implies, implies_true, and_true, true_and, and_self, Nat.reduceEqDiff, reduceIte, ↓reduceIte, ri_eq, Int.natCast_add, Int.cast_ofNat_Int, rr_eq, rc]; try simp) (by simp (disch := omega) only [go_sem, ↓List.forall_mem_cons, List.not_mem_nil, false_implies, implies_true, and_true, true_and, and_self, Nat.reduceEqDiff, reduceIte, ↓reduceIte, ri_eq, Int.natCast_add, Int.cast_ofNat_Int, if_pos, if_neg, Nat.reduceAdd, List.nil_append, hb2]; try simp) (Nat.le_refl _)⟩
        · rw [hkp] at w5
          rw [if_neg (fun h => by rw [hkp] at h; cases h.2.2)] at hb
          subst hb
          simp (disch := omega) only [Try.ntmps82, Try.results82, go_sem, Nat.reduceLT, Nat.reduceLeDiff, Nat.reduceEqDiff, Nat.reduceAdd, Nat.reduceSub, Nat.reduceMul, reduceIte, ↓reduceIte, reduceCtorEq, Int.reduceToNat, Int.reduceLE, Int.reduceLT, Int.reduceNeg, Int.reduceSub, Int.reduceAdd, Int.reduceMul, rr_eq, rc, mvS]
          refine wB.callV 0 (viewL_cons_of (view_rowL (by first | rfl | simp [marks_length, canon_length] | omega)) viewL_nil_of) ?_
          simp (disch := omega) only [Try.ntmps82, Try.results82, go_sem, Nat.reduceLT, Nat.reduceLeDiff, Nat.reduceEqDiff, Nat.reduceAdd, Nat.reduceSub, Nat.reduceMul, reduceIte, ↓reduceIte, reduceCtorEq, Int.reduceToNat, Int.reduceLE, Int.reduceLT, Int.reduceNeg, Int.reduceSub, Int.reduceAdd, Int.reduceMul, rr_eq, rc, mvS]
          refine w3.callV 0 (viewL_cons_of (view_rowL (by first | rfl | simp [marks_length, canon_length] | omega)) (viewL_cons_of (view_int) (viewL_cons_of (view_int) viewL_nil_of))) ?_
          simp (disch := omega) only [Try.ntmps82, Try.results82, go_sem, Nat.reduceLT, Nat.reduceLeDiff, Nat.reduceEqDiff, Nat.reduceAdd, Nat.reduceSub, Nat.reduceMul, reduceIte, ↓reduceIte, reduceCtorEq, Int.reduceToNat, Int.reduceLE, Int.reduceLT, Int.reduceNeg, Int.reduceSub, Int.reduceAdd, Int.reduceMul, rr_eq, rc, mvS]
          refine w4.callV 0 (viewL_cons_of (view_row) (viewL_cons_of (view_rowL (by first | rfl | simp [marks_length, canon_length] | omega)) viewL_nil_of)) ?_
          simp (disch := omega) only [Try.ntmps82, Try.results82, go_sem, Nat.reduceLT, Nat.reduceLeDiff, Nat.reduceEqDiff, Nat.reduceAdd, Nat.reduceSub, Nat.reduceMul, reduceIte, ↓reduceIte, reduceCtorEq, Int.reduceToNat, Int.reduceLE, Int.reduceLT, Int.reduceNeg, Int.reduceSub, Int.reduceAdd, Int.reduceMul, rr_eq, rc, mvS]
          refine w5.callV 2 (viewL_cons_of view_row (viewL_cons_of view_row viewL_nil_of)) ?_
          simp (disch := omega) only [Try.ntmps82, Try.results82, go_sem, Nat.reduceLT, Nat.reduceLeDiff, Nat.reduceEqDiff, Nat.reduceAdd, Nat.reduceSub, Nat.reduceMul, reduceIte, ↓reduceIte, reduceCtorEq, Int.reduceToNat, Int.reduceLE, Int.reduceLT, Int.reduceNeg, Int.reduceSub, Int.reduceAdd, Int.reduceMul, rr_eq, rc, mvS]
          exact ⟨k + 1, by omega, by omega, Wk.ofH (by simp only [go_sem, ↓List.forall_mem_cons, List.not_mem_nil, false_implies, implies_true, and_true, true_and, and_self, Nat.reduceEqDiff, reduceIte, ↓reduceIte, ri_eq, Int.natCast_add, Int.cast_ofNat_Int, rr_eq, rc]; try simp) (by simp (disch := omega) only [go_sem, ↓List.forall_mem_cons, List.not_mem_nil, false_implies, implies_true, and_true, true_and, and_self, Nat.reduceEqDiff, reduceIte, ↓reduceIte, ri_eq, Int.natCast_add, Int.cast_ofNat_Int, if_pos, if_neg, Nat.reduceAdd, List.nil_append, hb2]; try simp) (Nat.le_refl _)⟩
      · rw [if_neg (fun h => hg h.2.1)] at hb
        subst hb
        simp (disch := omega) only [Try.ntmps82, Try.results82, go_sem, Nat.reduceLT, Nat.reduceLeDiff, Nat.reduceEqDiff, Nat.reduceAdd, Nat.reduceSub, Nat.reduceMul, reduceIte, ↓reduceIte, reduceCtorEq, Int.reduceToNat, Int.reduceLE, Int.reduceLT, Int.reduceNeg, Int.reduceSub, Int.reduceAdd, Int.reduceMul, rr_eq, rc, mvS]
        refine wB.callV 0 (viewL_cons_of (view_rowL (by first | rfl | simp [marks_length, canon_length] | omega)) viewL_nil_of) ?_
        simp (disch := omega) only [Try.ntmps82, Try.results82, go_sem, Nat.reduceLT, Nat.reduceLeDiff, Nat.reduceEqDiff, Nat.reduceAdd, Nat.reduceSub, Nat.reduceMul, reduceIte, ↓reduceIte, reduceCtorEq, Int.reduceToNat, Int.reduceLE, Int.reduceLT, Int.reduceNeg, Int.reduceSub, Int.reduceAdd, Int.reduceMul, rr_eq, rc, mvS]
        refine w3.callV 0 (viewL_cons_of (view_rowL (by first | rfl | simp [marks_length, canon_length] | omega)) (viewL_cons_of (view_int) (viewL_cons_of (view_int) viewL_nil_of))) ?_
        simp (disch := omega) only [Try.ntmps82, Try.results82, go_sem, Nat.reduceLT, Nat.reduceLeDiff, Nat.reduceEqDiff, Nat.reduceAdd, Nat.reduceSub, Nat.reduceMul, reduceIte, ↓reduceIte, reduceCtorEq, Int.reduceToNat, Int.reduceLE, Int.reduceLT, Int.reduceNeg, Int.reduceSub, Int.reduceAdd, Int.reduceMul, rr_eq, rc, mvS]
        refine w4.callV 0 (viewL_cons_of (view_row) (viewL_cons_of (view_rowL (by first | rfl | simp [marks_length, canon_length] | omega)) viewL_nil_of)) ?_
        simp (disch := omega) only [Try.ntmps82, Try.results82, go_sem, Nat.reduceLT, Nat.reduceLeDiff, Nat.reduceEqDiff, Nat.reduceAdd, Nat.reduceSub, Nat.reduceMul, reduceIte, ↓reduceIte, reduceCtorEq, Int.reduceToNat, Int.reduceLE, Int.reduceLT, Int.reduceNeg, Int.reduceSub, Int.reduceAdd, Int.reduceMul, rr_eq, rc, mvS]
        exact ⟨k + 1, by omega, by omega, Wk.ofH (by simp only [go_sem, ↓List.forall_mem_cons, List.not_mem_nil, false_implies, implies_true, and_true, true_and, and_self, Nat.reduceEqDiff, reduceIte, ↓reduceIte, ri_eq, Int.natCast_add, Int.cast_ofNat_Int, rr_eq, rc]; try simp) (by simp (disch := omega) only [go_sem, ↓List.forall_mem_cons, List.not_mem_nil, false_implies, implies_true, and_true, true_and, and_self, Nat.reduceEqDiff, reduceIte, ↓reduceIte, ri_eq, Int.natCast_add, Int.cast_ofNat_Int, if_pos, if_neg, Nat.reduceAdd, List.nil_append, hb2]; try simp) (Nat.le_refl _)⟩
    · obtain rfl : k = T + 1 := by omega
      have e : bmRow M C L (bmTo M C L i) i (T + 1) = bmTo M C L (i + 1) := by
        show _ = bmRow M C L (bmTo M C L i) i (L.length + 1)
        exact (bmRow_stop (fun b hb => by rw [hok i b hlt]; exact decide_eq_false (by omega)) (by omega)).symm
      rw [e]
      simp (disch := omega) only [Try.ntmps82, Try.results82, go_sem, Nat.reduceLT, Nat.reduceLeDiff, Nat.reduceEqDiff, Nat.reduceAdd, Nat.reduceSub, Nat.reduceMul, reduceIte, ↓reduceIte, reduceCtorEq, Int.reduceToNat, Int.reduceLE, Int.reduceLT, Int.reduceNeg, Int.reduceSub, Int.reduceAdd, Int.reduceMul, rr_eq, rc, mvS]
      refine wB.callV 0 (viewL_cons_of (view_rowL (by first | rfl | simp [marks_length, canon_length] | omega)) viewL_nil_of) ?_
      simp (disch := omega) only [Try.ntmps82, Try.results82, go_sem, Nat.reduceLT, Nat.reduceLeDiff, Nat.reduceEqDiff, Nat.reduceAdd, Nat.reduceSub, Nat.reduceMul, reduceIte, ↓reduceIte, reduceCtorEq, Int.reduceToNat, Int.reduceLE, Int.reduceLT, Int.reduceNeg, Int.reduceSub, Int.reduceAdd, Int.reduceMul, rr_eq, rc, mvS]
      exact ⟨i + 1, hlt, by omega, Wk.ofH (by simp only [go_sem, ↓List.forall_mem_cons, List.not_mem_nil, false_implies, implies_true, and_true, true_and, and_self, Nat.reduceEqDiff, reduceIte, ↓reduceIte, ri_eq, Int.natCast_add, Int.cast_ofNat_Int, rr_eq, rc]; try simp) (by simp (disch := omega) only [go_sem, ↓List.forall_mem_cons, List.not_mem_nil, false_implies, implies_true, and_true, true_and, and_self, Nat.reduceEqDiff, reduceIte, ↓reduceIte, ri_eq, Int.natCast_add, Int.cast_ofNat_Int, if_pos, if_neg, Nat.reduceAdd, List.nil_append]; try simp) (Nat.le_refl _)⟩
  · obtain rfl : i = L.length := by omega
    simp (disch := omega) only [Try.ntmps82, Try.results82, go_sem, Nat.reduceLT, Nat.reduceLeDiff, Nat.reduceEqDiff, Nat.reduceAdd, Nat.reduceSub, Nat.reduceMul, reduceIte, ↓reduceIte, reduceCtorEq, Int.reduceToNat, Int.reduceLE, Int.reduceLT, Int.reduceNeg, Int.reduceSub, Int.reduceAdd, Int.reduceMul, rr_eq, rc, mvS]
    exact fin_mv rfl
end Go.Sh

/-
  Two moves are the same.
-/
namespace Go.Sh
set_option linter.unusedSimpArgs false
set_option linter.unusedVariables false
open Go Go.Proofs

theorem view_mvA {H : Heap} {f : Nat} {a b c : Int} : view H (f + 1) (.agg [.val (.int .i64 a), .val (.int .i64 b), .val (.int .i64 c)]) = some (.agg [.val (.int .i64 a), .val (.int .i64 b), .val (.int .i64 c)]) :=
  view_agg (viewL_cons_of view_int (viewL_cons_of view_int (viewL_cons_of view_int viewL_nil_of)))
end Go.Sh

/-
  Best moves again and again: plain; of the program and of the reference.
-/
namespace Go.Sh
set_option linter.unusedSimpArgs false
set_option linter.unusedVariables false
open Go Go.Proofs

theorem bmRow_ok {M : List (List Int)} {C : List Con} {L : List Int} {best : Mv} {i : Nat} (h : 0 < best.2.2 → moveOk L best.1 best.2.1 = true) : ∀ b, 0 < (bmRow M C L best i b).2.2 → moveOk L (bmRow M C L best i b).1 (bmRow M C L best i b).2.1 = true
  | 0 => h
  | b + 1 => by
    have ih := bmRow_ok (C := C) (M := M) (i := i) h b
    rw [bmRow, bstep]
    split
    · rename_i hh
      exact fun _ => hh.1
    · exact ih
theorem bmTo_ok {M : List (List Int)} {C : List Con} {L : List Int} : ∀ i, 0 < (bmTo M C L i).2.2 → moveOk L (bmTo M C L i).1 (bmTo M C L i).2.1 = true
  | 0 => fun h => by simp [bmTo] at h
  | i + 1 => bmRow_ok (bmTo_ok i) _
theorem bmv_ok {M : List (List Int)} {C : List Con} {L : List Int} (h : 0 < (bmv M C L).2.2) : moveOk L (bmv M C L).1 (bmv M C L).2.1 = true := by
  by_cases hc : canM M C L
  · rw [bmv_t hc] at h ⊢; exact bmTo_ok _ h
  · rw [bmv_f hc] at h; simp at h
/-- What is reached from X, of which n moves led there, in at most f more. -/
noncomputable def im (M : List (List Int)) (C : List Con) : Nat → List Int → Nat → List Int × Nat
  | 0, X, n => (X, n)
  | f + 1, X, n => if 0 < (bmv M C X).2.2 then im M C f (moveTo X (bmv M C X).1 (bmv M C X).2.1) (n + 1) else (X, n)
theorem im_go {M : List (List Int)} {C : List Con} {f n : Nat} {X : List Int} (h : 0 < (bmv M C X).2.2) : im M C (f + 1) X n = im M C f (moveTo X (bmv M C X).1 (bmv M C X).2.1) (n + 1) := by rw [im, if_pos h]
theorem im_stop {M : List (List Int)} {C : List Con} {f n : Nat} {X : List Int} (h : ¬ 0 < (bmv M C X).2.2) : im M C f X n = (X, n) := by
  cases f with
  | zero => rfl
  | succ f => rw [im, if_neg h]
theorem im_len {M : List (List Int)} {C : List Con} : ∀ (f : Nat) (X : List Int) (n : Nat), (im M C f X n).1.length = X.length
  | 0, X, n => rfl
  | f + 1, X, n => by
    rw [im]
    split
    · rw [im_len f, moveTo_length]
    · rfl
theorem im_le {M : List (List Int)} {C : List Con} : ∀ (f : Nat) (X : List Int) (n : Nat), (im M C f X n).2 ≤ n + f
  | 0, X, n => Nat.le_refl _
  | f + 1, X, n => by
    rw [im]
    split
    · have := im_le (M := M) (C := C) f (moveTo X (bmv M C X).1 (bmv M C X).2.1) (n + 1); omega
    · show n ≤ _; omega
theorem bmv_nil {M : List (List Int)} {C : List Con} : bmv M C [] = (0, 0, 0) := bmv_f (fun h => by
  have := (canM_r h).2.1
  rw [isPart_nil] at this; cases this)
abbrev ImR (L : List Int) (p : List Int × Nat) (r : SV) (H : Heap) : Prop := ∃ r0, r = .tup [r0, .val (.int .i64 p.2)] ∧ FlatRes L.length 1 (ints p.1) r0 H

set_option maxHeartbeats 4000000 in
theorem Try.specMove_t (L : List Int) (it bl : Int) (hL : L.length ≤ 1048576) (hok : moveOk L it bl = true) : FCall Try.prog 150 [ri L, .val (.int .i64 it), .val (.int .i64 bl)] (fun r H => ∃ r0, r = .tup [r0, .val (.bool true)] ∧ FlatRes L.length 1 (ints (moveTo L it bl)) r0 H) := by
  have w1 := Try.specIsPartition_ok L hL
  have hf := ints_flat L
  have hml := moveTo_length L it bl
  have hm : moveTo L it bl = canon (L.set it.toNat bl) := by rw [moveTo, if_pos hok]
  unfold moveOk at hok
  simp only [Bool.and_eq_true] at hok
  obtain ⟨h1, h2, h3⟩ := hok
  have h0 := (isPart_len h1).1
  refine FCall.of_body Try.func150 rfl (by kernel_rfl) (by simp [Try.ntmps150]) ?_
  refine SW_of_vc Try.mixed _ _ _ (by kernel_rfl) ?_
  simp (disch := omega) only [Try.ntmps150, Try.results150, go_sem, Nat.reduceLT, Nat.reduceLeDiff, Nat.reduceEqDiff, Nat.reduceAdd, Nat.reduceSub, Nat.reduceMul, reduceIte, ↓reduceIte, reduceCtorEq, Int.reduceToNat, Int.reduceLE, Int.reduceLT, Int.reduceNeg, Int.reduceSub, Int.reduceAdd, Int.reduceMul, hf]
  refine LoopW.loop (fun k : Nat => ⟨ofL [(0, ri L), (1, .val (.int .i64 it)), (2, .val (.int .i64 bl)), (8, .own 1 0 L.length L.length 1 false), (9, .val (.int .i64 (top L k))), (10, .val (.int .i64 k))], hp [(1, ⟨ints L, false⟩)] 2⟩) (fun k => k ≤ L.length) (fun k => L.length - k) 0 (by omega)
    (Wk.ofH (by simp only [go_sem, ↓List.forall_mem_cons, List.not_mem_nil, false_implies, implies_true, and_true, true_and, and_self, Nat.reduceEqDiff, reduceIte, ↓reduceIte, ri_eq, Int.natCast_add, Int.cast_ofNat_Int, top_zero]; try simp) (by simp (disch := omega) only [go_sem, ↓List.forall_mem_cons, List.not_mem_nil, false_implies, implies_true, and_true, true_and, and_self, Nat.reduceEqDiff, reduceIte, ↓reduceIte, ri_eq, Int.natCast_add, Int.cast_ofNat_Int, if_pos, if_neg, Nat.reduceAdd, List.nil_append]; try simp) (by simp [hp])) ?_
  intro k hk
  refine SW_of_vc Try.mixed _ _ _ (by kernel_rfl) ?_
  by_cases hlt : k < L.length
  · have e : top L (k + 1) = if top L k < L.getD k 0 then L.getD k 0 else top L k := by
      rw [top_succ hlt, Int.max_def]
      split <;> split <;> omega
    simp (disch := omega) only [Try.ntmps150, Try.results150, go_sem, Nat.reduceLT, Nat.reduceLeDiff, Nat.reduceEqDiff, Nat.reduceAdd, Nat.reduceSub, Nat.reduceMul, reduceIte, ↓reduceIte, reduceCtorEq, Int.reduceToNat, Int.reduceLE, Int.reduceLT, Int.reduceNeg, Int.reduceSub, Int.reduceAdd, Int.reduceMul]
    exact ⟨k + 1, by omega, by omega, Wk.of (by simp only [go_sem, ↓List.forall_mem_cons, List.not_mem_nil, false_implies, implies_true, and_true, true_and, and_self, Nat.reduceEqDiff, reduceIte, ↓reduceIte, ri_eq, Int.natCast_add, Int.cast_ofNat_Int, e]; try simp) rfl⟩
  · obtain rfl : k = L.length := by omega
    rw [h1] at w1
    have tg := top_ge L L.length (Nat.le_refl _)
    have tp := top_part h1 L.length (Nat.le_refl _)
    have w2 := Try.l1In_ok it 0 ((L.length : Int) - 1)
    rw [h2] at w2
    obtain ⟨i1, i2⟩ := inR_of h2
    have w4 := Try.l1In_ok bl 0 (top L L.length + 1)
    rw [h3] at w4
    have hsl : (L.set it.toNat bl).length = L.length := by simp
    have w5 := (Try.specCanon_f (L.set it.toNat bl) (by omega)).one
    rw [hsl] at w5
    simp (disch := omega) only [Try.ntmps150, Try.results150, go_sem, Nat.reduceLT, Nat.reduceLeDiff, Nat.reduceEqDiff, Nat.reduceAdd, Nat.reduceSub, Nat.reduceMul, reduceIte, ↓reduceIte, reduceCtorEq, Int.reduceToNat, Int.reduceLE, Int.reduceLT, Int.reduceNeg, Int.reduceSub, Int.reduceAdd, Int.reduceMul]
    refine w1.callV 0 (viewL_cons_of (view_rowL (by first | rfl | simp [marks_length, canon_length] | omega)) viewL_nil_of) ?_
    simp (disch := omega) only [Try.ntmps150, Try.results150, go_sem, Nat.reduceLT, Nat.reduceLeDiff, Nat.reduceEqDiff, Nat.reduceAdd, Nat.reduceSub, Nat.reduceMul, reduceIte, ↓reduceIte, reduceCtorEq, Int.reduceToNat, Int.reduceLE, Int.reduceLT, Int.reduceNeg, Int.reduceSub, Int.reduceAdd, Int.reduceMul]
    refine w2.callV 0 (viewL_cons_of (view_int) (viewL_cons_of (view_int) (viewL_cons_of (view_int) viewL_nil_of))) ?_
    simp (disch := omega) only [Try.ntmps150, Try.results150, go_sem, Nat.reduceLT, Nat.reduceLeDiff, Nat.reduceEqDiff, Nat.reduceAdd, Nat.reduceSub, Nat.reduceMul, reduceIte, ↓reduceIte, reduceCtorEq, Int.reduceToNat, Int.reduceLE, Int.reduceLT, Int.reduceNeg, Int.reduceSub, Int.reduceAdd, Int.reduceMul]
    refine w4.callV 0 (viewL_cons_of (view_int) (viewL_cons_of (view_int) (viewL_cons_of (view_int) viewL_nil_of))) ?_
    simp (disch := omega) only [Try.ntmps150, Try.results150, go_sem, Nat.reduceLT, Nat.reduceLeDiff, Nat.reduceEqDiff, Nat.reduceAdd, Nat.reduceSub, Nat.reduceMul, reduceIte, ↓reduceIte, reduceCtorEq, Int.reduceToNat, Int.reduceLE, Int.reduceLT, Int.reduceNeg, Int.reduceSub, Int.reduceAdd, Int.reduceMul]
    refine w5.callOne (ints_vals _) 1 (viewL_cons_of (view_own (by rw [hp_map, hmap_cons, if_pos rfl]) (by omega)) viewL_nil_of) ?_
    simp (disch := omega) only [Try.ntmps150, Try.results150, go_sem, Nat.reduceLT, Nat.reduceLeDiff, Nat.reduceEqDiff, Nat.reduceAdd, Nat.reduceSub, Nat.reduceMul, reduceIte, ↓reduceIte, reduceCtorEq, Int.reduceToNat, Int.reduceLE, Int.reduceLT, Int.reduceNeg, Int.reduceSub, Int.reduceAdd, Int.reduceMul]
    rw [hm]
    exact fin_tup (by simp [ints, canon_length]) (ints_vals _) (by rw [hp_map, hmap_cons, if_pos rfl])

set_option maxHeartbeats 4000000 in
theorem Try.implIm_f (M : List (List Int)) (C : List Con) (L : List Int) (hM : M.length ≤ 1048576) (hR : ∀ i, i < M.length → (mrow M i).length ≤ 1048576) (hC : C.length ≤ 1048576) (hL : L.length ≤ 1048576) (h0 : 0 < L.length) :
    FCall Try.prog 80 [rr M, rc C, ri L] (ImR L (im M C 100 L 0)) := by
  refine FCall.of_body Try.func80 rfl (by kernel_rfl) (by simp [Try.ntmps80]) ?_
  refine SW_of_vc Try.mixed _ _ _ (by kernel_rfl) ?_
  simp (disch := omega) only [Try.ntmps80, Try.results80, go_sem, Nat.reduceLT, Nat.reduceLeDiff, Nat.reduceEqDiff, Nat.reduceAdd, Nat.reduceSub, Nat.reduceMul, reduceIte, ↓reduceIte, reduceCtorEq, Int.reduceToNat, Int.reduceLE, Int.reduceLT, Int.reduceNeg, Int.reduceSub, Int.reduceAdd, Int.reduceMul, rr_eq, rc]
  refine (Try.clone_f L hL h0).one.callOne (ints_vals L) 0 (viewL_cons_of (view_rowL (by first | rfl | simp [marks_length, canon_length] | omega)) viewL_nil_of) ?_
  simp (disch := omega) only [Try.ntmps80, Try.results80, go_sem, Nat.reduceLT, Nat.reduceLeDiff, Nat.reduceEqDiff, Nat.reduceAdd, Nat.reduceSub, Nat.reduceMul, reduceIte, ↓reduceIte, reduceCtorEq, Int.reduceToNat, Int.reduceLE, Int.reduceLT, Int.reduceNeg, Int.reduceSub, Int.reduceAdd, Int.reduceMul, rr_eq, rc]
  refine LoopW.loop (fun p : Nat × List Int × Nat × Nat => ⟨ofL [(0, rr M), (1, rc C), (2, ri L), (8, .own p.2.2.1 0 L.length L.length 1 false), (14, .val (.int .i64 p.1))], hp [(p.2.2.1, ⟨ints p.2.1, false⟩)] p.2.2.2⟩)
    (fun p => p.1 ≤ 100 ∧ p.2.1.length = L.length ∧ im M C (100 - p.1) p.2.1 p.1 = im M C 100 L 0 ∧ p.2.2.1 < p.2.2.2) (fun p => 100 - p.1) (0, L, 0, 1) ⟨by simp, rfl, rfl, by simp⟩ (Wk.ofH (by simp only [go_sem, ↓List.forall_mem_cons, List.not_mem_nil, false_implies, implies_true, and_true, true_and, and_self, Nat.reduceEqDiff, reduceIte, ↓reduceIte, ri_eq, Int.natCast_add, Int.cast_ofNat_Int, rr_eq, rc]; try simp) (by simp (disch := omega) only [go_sem, ↓List.forall_mem_cons, List.not_mem_nil, false_implies, implies_true, and_true, true_and, and_self, Nat.reduceEqDiff, reduceIte, ↓reduceIte, ri_eq, Int.natCast_add, Int.cast_ofNat_Int, if_pos, if_neg, Nat.reduceAdd, List.nil_append]; try simp) (by simp [hp])) ?_
  rintro ⟨k, X, ob, nb⟩ ⟨hk, hX, him, hob⟩
  simp only at hk hX him hob
  have hXl : X.length ≤ 1048576 := by omega
  refine SW_of_vc Try.mixed _ _ _ (by kernel_rfl) ?_
  by_cases hlt : k < 100
  · have w1 := Try.implBM_ok M C X hM hR hC hXl
    by_cases hg : 0 < (bmv M C X).2.2
    · have w2 := (Try.moved_f X (bmv M C X).1 (bmv M C X).2.1 (bmv_ok hg)).one
      have e1 : 100 - k = (100 - (k + 1)) + 1 := by omega
      have hml := moveTo_length X (bmv M C X).1 (bmv M C X).2.1
      rw [e1, im_go hg] at him
      rw [hX] at w2 hml
      rw [mvR, decide_eq_true hg] at w1
      clear e1 hg
      generalize moveTo X (bmv M C X).1 (bmv M C X).2.1 = Y at *
      generalize bmv M C X = t at *
      simp (disch := omega) only [Try.ntmps80, Try.results80, go_sem, Nat.reduceLT, Nat.reduceLeDiff, Nat.reduceEqDiff, Nat.reduceAdd, Nat.reduceSub, Nat.reduceMul, reduceIte, ↓reduceIte, reduceCtorEq, Int.reduceToNat, Int.reduceLE, Int.reduceLT, Int.reduceNeg, Int.reduceSub, Int.reduceAdd, Int.reduceMul, rr_eq, rc]
      refine w1.callV 2 (viewL_cons_of view_row (viewL_cons_of view_row (viewL_cons_of (view_own (by rw [hp_map, hmap_cons, if_pos rfl]) (by omega)) viewL_nil_of))) ?_
      simp (disch := omega) only [Try.ntmps80, Try.results80, go_sem, Nat.reduceLT, Nat.reduceLeDiff, Nat.reduceEqDiff, Nat.reduceAdd, Nat.reduceSub, Nat.reduceMul, reduceIte, ↓reduceIte, reduceCtorEq, Int.reduceToNat, Int.reduceLE, Int.reduceLT, Int.reduceNeg, Int.reduceSub, Int.reduceAdd, Int.reduceMul, rr_eq, rc, mvS]
      refine w2.callOne (ints_vals _) 2 (viewL_cons_of (view_own (by rw [hp_map, hmap_cons, if_neg (by omega), hmap_cons, if_pos rfl]) (by omega)) (viewL_cons_of view_int (viewL_cons_of view_int viewL_nil_of))) ?_
      simp (disch := omega) only [Try.ntmps80, Try.results80, go_sem, Nat.reduceLT, Nat.reduceLeDiff, Nat.reduceEqDiff, Nat.reduceAdd, Nat.reduceSub, Nat.reduceMul, reduceIte, ↓reduceIte, reduceCtorEq, Int.reduceToNat, Int.reduceLE, Int.reduceLT, Int.reduceNeg, Int.reduceSub, Int.reduceAdd, Int.reduceMul, rr_eq, rc, mvS]
      exact ⟨(k + 1, Y, nb + 1, nb + 1 + 1), ⟨by show k + 1 ≤ 100; omega, hml, him, by show nb + 1 < nb + 1 + 1; omega⟩, by show 100 - (k + 1) < 100 - k; omega, Wk.ofH (by simp only [go_sem, ↓List.forall_mem_cons, List.not_mem_nil, false_implies, implies_true, and_true, true_and, and_self, Nat.reduceEqDiff, reduceIte, ↓reduceIte, ri_eq, Int.natCast_add, Int.cast_ofNat_Int, rr_eq, rc]; try simp) (by simp (disch := omega) only [go_sem, ↓List.forall_mem_cons, List.not_mem_nil, false_implies, implies_true, and_true, true_and, and_self, Nat.reduceEqDiff, reduceIte, ↓reduceIte, ri_eq, Int.natCast_add, Int.cast_ofNat_Int, if_pos, if_neg, Nat.reduceAdd, List.nil_append]; try simp) (Nat.le_refl _)⟩
    · rw [im_stop hg] at him
      rw [← him]
      rw [mvR, decide_eq_false hg] at w1
      clear hg him
      generalize bmv M C X = t at *
      simp (disch := omega) only [Try.ntmps80, Try.results80, go_sem, Nat.reduceLT, Nat.reduceLeDiff, Nat.reduceEqDiff, Nat.reduceAdd, Nat.reduceSub, Nat.reduceMul, reduceIte, ↓reduceIte, reduceCtorEq, Int.reduceToNat, Int.reduceLE, Int.reduceLT, Int.reduceNeg, Int.reduceSub, Int.reduceAdd, Int.reduceMul, rr_eq, rc]
      refine w1.callV 2 (viewL_cons_of view_row (viewL_cons_of view_row (viewL_cons_of (view_own (by rw [hp_map, hmap_cons, if_pos rfl]) (by omega)) viewL_nil_of))) ?_
      simp (disch := omega) only [Try.ntmps80, Try.results80, go_sem, Nat.reduceLT, Nat.reduceLeDiff, Nat.reduceEqDiff, Nat.reduceAdd, Nat.reduceSub, Nat.reduceMul, reduceIte, ↓reduceIte, reduceCtorEq, Int.reduceToNat, Int.reduceLE, Int.reduceLT, Int.reduceNeg, Int.reduceSub, Int.reduceAdd, Int.reduceMul, rr_eq, rc, mvS]
      exact fin_tup (by simp [ints, hX]) (ints_vals _) (by rw [hp_map, hmap_cons, if_neg (by omega), hmap_cons, if_pos rfl])
  · obtain rfl : k = 100 := by omega
    have him : (X, 100) = im M C 100 L 0 := him
    rw [← him]
    simp (disch := omega) only [Try.ntmps80, Try.results80, go_sem, Nat.reduceLT, Nat.reduceLeDiff, Nat.reduceEqDiff, Nat.reduceAdd, Nat.reduceSub, Nat.reduceMul, reduceIte, ↓reduceIte, reduceCtorEq, Int.reduceToNat, Int.reduceLE, Int.reduceLT, Int.reduceNeg, Int.reduceSub, Int.reduceAdd, Int.reduceMul, rr_eq, rc]
    exact fin_tup (by simp [ints, hX]) (ints_vals _) (by rw [hp_map, hmap_cons, if_pos rfl])

set_option maxHeartbeats 4000000 in
theorem Try.specIm_f (M : List (List Int)) (C : List Con) (L : List Int) (hM : M.length ≤ 1048576) (hR : ∀ i, i < M.length → (mrow M i).length ≤ 1048576) (hC : C.length ≤ 1048576) (hL : L.length ≤ 1048576) :
    FCall Try.prog 81 [rr M, rc C, ri L] (ImR L (im M C 100 L 0)) := by
  have hf := ints_flat L
  refine FCall.of_body Try.func81 rfl (by kernel_rfl) (by simp [Try.ntmps81]) ?_
  refine SW_of_vc Try.mixed _ _ _ (by kernel_rfl) ?_
  by_cases h0 : 0 < L.length
  case neg =>
    obtain rfl : L = [] := by cases L with | nil => rfl | cons a l => simp at h0
    have w1 := Try.specBM_ok M C [] hM hR hC hL
    have him : im M C 100 [] 0 = ([], 0) := im_stop (by rw [bmv_nil]; simp)
    rw [bmv_nil] at w1
    rw [him]
    simp (disch := omega) only [Try.ntmps81, Try.results81, go_sem, Nat.reduceLT, Nat.reduceLeDiff, Nat.reduceEqDiff, Nat.reduceAdd, Nat.reduceSub, Nat.reduceMul, reduceIte, ↓reduceIte, reduceCtorEq, Int.reduceToNat, Int.reduceLE, Int.reduceLT, Int.reduceNeg, Int.reduceSub, Int.reduceAdd, Int.reduceMul, rr_eq, rc, hf]
    refine LoopW.loop (fun _ : Unit => ⟨ofL [(0, rr M), (1, rc C), (2, ri []), (8, .own 0 0 0 0 1 false), (9, .val (.int .i64 0))], hp [(0, ⟨[], false⟩)] 1⟩) (fun _ => True) (fun _ => 0) () trivial
      (Wk.ofH (by simp only [go_sem, ↓List.forall_mem_cons, List.not_mem_nil, false_implies, implies_true, and_true, true_and, and_self, Nat.reduceEqDiff, reduceIte, ↓reduceIte, ri_eq, Int.natCast_add, Int.cast_ofNat_Int, rr_eq, rc]; try simp) (by simp (disch := omega) only [go_sem, ↓List.forall_mem_cons, List.not_mem_nil, false_implies, implies_true, and_true, true_and, and_self, Nat.reduceEqDiff, reduceIte, ↓reduceIte, ri_eq, Int.natCast_add, Int.cast_ofNat_Int, if_pos, if_neg, Nat.reduceAdd, List.nil_append]; try simp) (by simp [hp])) ?_
    rintro _ _
    refine SW_of_vc Try.mixed _ _ _ (by kernel_rfl) ?_
    simp (disch := omega) only [Try.ntmps81, Try.results81, go_sem, Nat.reduceLT, Nat.reduceLeDiff, Nat.reduceEqDiff, Nat.reduceAdd, Nat.reduceSub, Nat.reduceMul, reduceIte, ↓reduceIte, reduceCtorEq, Int.reduceToNat, Int.reduceLE, Int.reduceLT, Int.reduceNeg, Int.reduceSub, Int.reduceAdd, Int.reduceMul, rr_eq, rc]
    refine w1.callV 2 (viewL_cons_of view_row (viewL_cons_of view_row (viewL_cons_of (view_own (L := []) (by rw [hp_map, hmap_cons, if_pos rfl]; rfl) (by simp)) viewL_nil_of))) ?_
    simp (disch := omega) only [Try.ntmps81, Try.results81, go_sem, Nat.reduceLT, Nat.reduceLeDiff, Nat.reduceEqDiff, Nat.reduceAdd, Nat.reduceSub, Nat.reduceMul, reduceIte, ↓reduceIte, reduceCtorEq, Int.reduceToNat, Int.reduceLE, Int.reduceLT, Int.reduceNeg, Int.reduceSub, Int.reduceAdd, Int.reduceMul, rr_eq, rc, mvS]
    exact fin_tup (by simp [ints]) (ints_vals _) (by rw [hp_map, hmap_cons, if_neg (by omega), hmap_cons, if_pos rfl]; rfl)
  simp (disch := omega) only [Try.ntmps81, Try.results81, go_sem, Nat.reduceLT, Nat.reduceLeDiff, Nat.reduceEqDiff, Nat.reduceAdd, Nat.reduceSub, Nat.reduceMul, reduceIte, ↓reduceIte, reduceCtorEq, Int.reduceToNat, Int.reduceLE, Int.reduceLT, Int.reduceNeg, Int.reduceSub, Int.reduceAdd, Int.reduceMul, rr_eq, rc, hf]
  refine LoopW.loop (fun p : Nat × List Int × Nat × Nat => ⟨ofL [(0, rr M), (1, rc C), (2, ri L), (8, .own p.2.2.1 0 L.length L.length 1 false), (9, .val (.int .i64 p.1))], hp [(p.2.2.1, ⟨ints p.2.1, false⟩)] p.2.2.2⟩)
    (fun p => p.1 ≤ 100 ∧ p.2.1.length = L.length ∧ im M C (100 - p.1) p.2.1 p.1 = im M C 100 L 0 ∧ p.2.2.1 < p.2.2.2) (fun p => 100 - p.1) (0, L, 1, 2) ⟨by simp, rfl, rfl, by simp⟩ (Wk.ofH (by simp only [go_sem, ↓List.forall_mem_cons, List.not_mem_nil, false_implies, implies_true, and_true, true_and, and_self, Nat.reduceEqDiff, reduceIte, ↓reduceIte, ri_eq, Int.natCast_add, Int.cast_ofNat_Int, rr_eq, rc]; try simp) (by simp (disch := omega) only [go_sem, ↓List.forall_mem_cons, List.not_mem_nil, false_implies, implies_true, and_true, true_and, and_self, Nat.reduceEqDiff, reduceIte, ↓reduceIte, ri_eq, Int.natCast_add, Int.cast_ofNat_Int, if_pos, if_neg, Nat.reduceAdd, List.nil_append]; try simp) (by simp [hp])) ?_
  rintro ⟨k, X, ob, nb⟩ ⟨hk, hX, him, hob⟩
  simp only at hk hX him hob
  have hXl : X.length ≤ 1048576 := by omega
  refine SW_of_vc Try.mixed _ _ _ (by kernel_rfl) ?_
  by_cases hlt : k < 100
  · have w1 := Try.specBM_ok M C X hM hR hC hXl
    by_cases hg : 0 < (bmv M C X).2.2
    · have w2 := (Try.specMove_t X (bmv M C X).1 (bmv M C X).2.1 hXl (bmv_ok hg)).oneT
      have e1 : 100 - k = (100 - (k + 1)) + 1 := by omega
      have hml := moveTo_length X (bmv M C X).1 (bmv M C X).2.1
      rw [e1, im_go hg] at him
      rw [hX] at w2 hml
      rw [mvR, decide_eq_true hg] at w1
      clear e1 hg
      generalize moveTo X (bmv M C X).1 (bmv M C X).2.1 = Y at *
      generalize bmv M C X = t at *
      simp (disch := omega) only [Try.ntmps81, Try.results81, go_sem, Nat.reduceLT, Nat.reduceLeDiff, Nat.reduceEqDiff, Nat.reduceAdd, Nat.reduceSub, Nat.reduceMul, reduceIte, ↓reduceIte, reduceCtorEq, Int.reduceToNat, Int.reduceLE, Int.reduceLT, Int.reduceNeg, Int.reduceSub, Int.reduceAdd, Int.reduceMul, rr_eq, rc]
      refine w1.callV 2 (viewL_cons_of view_row (viewL_cons_of view_row (viewL_cons_of (view_own (by rw [hp_map, hmap_cons, if_pos rfl]) (by omega)) viewL_nil_of))) ?_
      simp (disch := omega) only [Try.ntmps81, Try.results81, go_sem, Nat.reduceLT, Nat.reduceLeDiff, Nat.reduceEqDiff, Nat.reduceAdd, Nat.reduceSub, Nat.reduceMul, reduceIte, ↓reduceIte, reduceCtorEq, Int.reduceToNat, Int.reduceLE, Int.reduceLT, Int.reduceNeg, Int.reduceSub, Int.reduceAdd, Int.reduceMul, rr_eq, rc, mvS]
      refine w2.callOneT (ints_vals _) 2 (viewL_cons_of (view_own (by rw [hp_map, hmap_cons, if_neg (by omega), hmap_cons, if_pos rfl]) (by omega)) (viewL_cons_of view_int (viewL_cons_of view_int viewL_nil_of))) ?_
      simp (disch := omega) only [Try.ntmps81, Try.results81, go_sem, Nat.reduceLT, Nat.reduceLeDiff, Nat.reduceEqDiff, Nat.reduceAdd, Nat.reduceSub, Nat.reduceMul, reduceIte, ↓reduceIte, reduceCtorEq, Int.reduceToNat, Int.reduceLE, Int.reduceLT, Int.reduceNeg, Int.reduceSub, Int.reduceAdd, Int.reduceMul, rr_eq, rc, mvS]
      exact ⟨(k + 1, Y, nb + 1, nb + 1 + 1), ⟨by show k + 1 ≤ 100; omega, hml, him, by show nb + 1 < nb + 1 + 1; omega⟩, by show 100 - (k + 1) < 100 - k; omega, Wk.ofH (by simp only [go_sem, ↓List.forall_mem_cons, List.not_mem_nil, false_implies, implies_true, and_true, true_and, and_self, Nat.reduceEqDiff, reduceIte, ↓reduceIte, ri_eq, Int.natCast_add, Int.cast_ofNat_Int, rr_eq, rc]; try simp) (by simp (disch := omega) only [go_sem, ↓List.forall_mem_cons, List.not_mem_nil, false_implies, implies_true, and_true, true_and, and_self, Nat.reduceEqDiff, reduceIte, ↓reduceIte, ri_eq, Int.natCast_add, Int.cast_ofNat_Int, if_pos, if_neg, Nat.reduceAdd, List.nil_append]; try simp) (Nat.le_refl _)⟩
    · rw [im_stop hg] at him
      rw [← him]
      rw [mvR, decide_eq_false hg] at w1
      clear hg him
      generalize bmv M C X = t at *
      simp (disch := omega) only [Try.ntmps81, Try.results81, go_sem, Nat.reduceLT, Nat.reduceLeDiff, Nat.reduceEqDiff, Nat.reduceAdd, Nat.reduceSub, Nat.reduceMul, reduceIte, ↓reduceIte, reduceCtorEq, Int.reduceToNat, Int.reduceLE, Int.reduceLT, Int.reduceNeg, Int.reduceSub, Int.reduceAdd, Int.reduceMul, rr_eq, rc]
      refine w1.callV 2 (viewL_cons_of view_row (viewL_cons_of view_row (viewL_cons_of (view_own (by rw [hp_map, hmap_cons, if_pos rfl]) (by omega)) viewL_nil_of))) ?_
      simp (disch := omega) only [Try.ntmps81, Try.results81, go_sem, Nat.reduceLT, Nat.reduceLeDiff, Nat.reduceEqDiff, Nat.reduceAdd, Nat.reduceSub, Nat.reduceMul, reduceIte, ↓reduceIte, reduceCtorEq, Int.reduceToNat, Int.reduceLE, Int.reduceLT, Int.reduceNeg, Int.reduceSub, Int.reduceAdd, Int.reduceMul, rr_eq, rc, mvS]
      exact fin_tup (by simp [ints, hX]) (ints_vals _) (by rw [hp_map, hmap_cons, if_neg (by omega), hmap_cons, if_pos rfl])
  · obtain rfl : k = 100 := by omega
    have him : (X, 100) = im M C 100 L 0 := him
    rw [← him]
    simp (disch := omega) only [Try.ntmps81, Try.results81, go_sem, Nat.reduceLT, Nat.reduceLeDiff, Nat.reduceEqDiff, Nat.reduceAdd, Nat.reduceSub, Nat.reduceMul, reduceIte, ↓reduceIte, reduceCtorEq, Int.reduceToNat, Int.reduceLE, Int.reduceLT, Int.reduceNeg, Int.reduceSub, Int.reduceAdd, Int.reduceMul, rr_eq, rc]
    exact fin_tup (by simp [ints, hX]) (ints_vals _) (by rw [hp_map, hmap_cons, if_pos rfl])
end Go.Sh

/-
  Best moves again and again, at an empty list that is not nil.
-/
namespace Go.Sh
set_option linter.unusedSimpArgs false
set_option linter.unusedVariables false
open Go Go.Proofs

set_option maxHeartbeats 2000000 in
theorem Try.implIm_0 (M : List (List Int)) (C : List Con) (hM : M.length ≤ 1048576) (hR : ∀ i, i < M.length → (mrow M i).length ≤ 1048576) (hC : C.length ≤ 1048576) (H : Heap) (sM sC : SV) (b cap : Nat) (ex e2 : Bool) (hb : H.map b = some ⟨ints [], e2⟩) (hbn : b ≠ H.nb)
    (hv : viewL (H.push ⟨[], false⟩) 2 [sM, sC, .own H.nb 0 0 0 1 false] = some [rr M, rc C, ri []]) :
    CallS Try.prog 80 [sM, sC, .own b 0 0 cap 1 ex] H (fun r H' => r = .tup [.own H.nb 0 0 0 1 false, .val (.int .i64 0)] ∧ H' = (H.push ⟨[], false⟩).push ⟨mvS (0, 0, 0), true⟩) := by
  have w1 := Try.implBM_ok M C [] hM hR hC (by simp)
  rw [bmv_nil] at w1
  have p1 : ∀ (G : Heap) (k : Blk), (G.push k).map G.nb = some k := fun G k => by simp [Heap.push]
  have p2 : ∀ (G : Heap) (k k2 : Blk), (G.push k).set G.nb (some k2) = G.push k2 := fun G k k2 => by
    refine Heap.ext' (fun x => ?_) rfl
    simp only [Heap.push, Heap.set]
    split <;> rfl
  refine CallS.of_body Try.func80 rfl (by kernel_rfl) (by simp [Try.ntmps80]) ?_
  refine SW_of_vc Try.mixed _ _ _ (by kernel_rfl) ?_
  simp (disch := omega) only [Try.ntmps80, Try.results80, go_sem, Nat.reduceLT, Nat.reduceLeDiff, Nat.reduceEqDiff, Nat.reduceAdd, Nat.reduceSub, Nat.reduceMul, reduceIte, ↓reduceIte, reduceCtorEq, Int.reduceToNat, Int.reduceLE, Int.reduceLT, Int.reduceNeg, Int.reduceSub, Int.reduceAdd, Int.reduceMul]
  refine (Try.clone_0 H b cap ex e2 hb hbn).callDet ?_
  simp (disch := omega) only [Try.ntmps80, Try.results80, go_sem, Nat.reduceLT, Nat.reduceLeDiff, Nat.reduceEqDiff, Nat.reduceAdd, Nat.reduceSub, Nat.reduceMul, reduceIte, ↓reduceIte, reduceCtorEq, Int.reduceToNat, Int.reduceLE, Int.reduceLT, Int.reduceNeg, Int.reduceSub, Int.reduceAdd, Int.reduceMul]
  refine LoopW.loop (fun _ : Unit => ⟨ofL [(0, sM), (1, sC), (2, .own b 0 0 cap 1 ex), (8, .own H.nb 0 0 0 1 false), (14, .val (.int .i64 0))], H.push ⟨[], false⟩⟩) (fun _ => True) (fun _ => 0) () trivial (Wk.of (by simp only [go_sem, ↓List.forall_mem_cons, List.not_mem_nil, false_implies, implies_true, and_true, true_and, and_self, Nat.reduceEqDiff, reduceIte, ↓reduceIte, ri_eq, Int.natCast_add, Int.cast_ofNat_Int]; try simp) rfl) ?_
  rintro _ _
  refine SW_of_vc Try.mixed _ _ _ (by kernel_rfl) ?_
  simp (disch := omega) only [Try.ntmps80, Try.results80, go_sem, Nat.reduceLT, Nat.reduceLeDiff, Nat.reduceEqDiff, Nat.reduceAdd, Nat.reduceSub, Nat.reduceMul, reduceIte, ↓reduceIte, reduceCtorEq, Int.reduceToNat, Int.reduceLE, Int.reduceLT, Int.reduceNeg, Int.reduceSub, Int.reduceAdd, Int.reduceMul]
  refine w1.callV 2 hv ?_
  simp (disch := omega) only [Try.ntmps80, Try.results80, go_sem, Nat.reduceLT, Nat.reduceLeDiff, Nat.reduceEqDiff, Nat.reduceAdd, Nat.reduceSub, Nat.reduceMul, reduceIte, ↓reduceIte, reduceCtorEq, Int.reduceToNat, Int.reduceLE, Int.reduceLT, Int.reduceNeg, Int.reduceSub, Int.reduceAdd, Int.reduceMul, mvS, p1, p2]
theorem view_tupI {L : List Int} {n : Nat} {u : Int} {r r0 : SV} {H : Heap} (h : r = .tup [r0, .val (.int .i64 u)]) (hf : FlatRes n 1 (ints L) r0 H) : view H 3 r = some (.tup [ri L, .val (.int .i64 u)]) := by
  subst h
  have h1 : viewL H 2 [r0, .val (.int .i64 u)] = some [ri L, .val (.int .i64 u)] := viewL_cons_of (flat_view hf) (viewL_cons_of view_int viewL_nil_of)
  simp only [view, h1]
theorem Try.specIm_ok (M : List (List Int)) (C : List Con) (L : List Int) (hM : M.length ≤ 1048576) (hR : ∀ i, i < M.length → (mrow M i).length ≤ 1048576) (hC : C.length ≤ 1048576) (hL : L.length ≤ 1048576) :
    PCall Try.prog 81 [rr M, rc C, ri L] (.tup [ri (im M C 100 L 0).1, .val (.int .i64 (im M C 100 L 0).2)]) :=
  (Try.specIm_f M C L hM hR hC hL).pcall 3 (fun r H ⟨r0, h1, h2⟩ => view_tupI h1 h2)
theorem Try.implIm_ok (M : List (List Int)) (C : List Con) (L : List Int) (hM : M.length ≤ 1048576) (hR : ∀ i, i < M.length → (mrow M i).length ≤ 1048576) (hC : C.length ≤ 1048576) (hL : L.length ≤ 1048576) (h0 : 0 < L.length) :
    PCall Try.prog 80 [rr M, rc C, ri L] (.tup [ri (im M C 100 L 0).1, .val (.int .i64 (im M C 100 L 0).2)]) :=
  (Try.implIm_f M C L hM hR hC hL h0).pcall 3 (fun r H ⟨r0, h1, h2⟩ => view_tupI h1 h2)
theorem Try.implIm_o (M : List (List Int)) (C : List Con) (L : List Int) (hM : M.length ≤ 1048576) (hR : ∀ i, i < M.length → (mrow M i).length ≤ 1048576) (hC : C.length ≤ 1048576) (hL : L.length ≤ 1048576) (h0 : 0 < L.length) :
    FCall Try.prog 80 [rr M, rc C, ri L] (fun r H => r = .tup [.own 0 0 L.length L.length 1 false, .val (.int .i64 (im M C 100 L 0).2)] ∧ H = Heap.one ⟨ints (im M C 100 L 0).1, false⟩) :=
  (Try.implIm_f M C L hM hR hC hL h0).oneT
end Go.Sh

/-
  Best partitions: plain facts.
-/
namespace Go.Sh
set_option linter.unusedSimpArgs false
set_option linter.unusedVariables false
open Go Go.Proofs

theorem pcost_t {M : List (List Int)} {L : List Int} (hw : WM M) (hp : isPart L = true) (hl : L.length = M.length) : pcost M L = cc M L L.length := by rw [pcost, if_pos ⟨isWM_t hw, hp, hl⟩]
theorem pcost_nn {M : List (List Int)} {L : List Int} (h : 0 ≤ pcost M L) : isPart L = true ∧ L.length = M.length ∧ pcost M L = cc M L L.length := by
  unfold pcost at h ⊢
  split at h
  · rename_i g
    exact ⟨g.2.1, g.2.2, if_pos g⟩
  · omega
theorem okB_least {M : List (List Int)} {C : List Con} {L : List Int} (h : okB M C) (hk : C.all (kp L) = true) (hc : 0 ≤ pcost M L) : (bs M C).least ≤ pcost M L := by
  obtain ⟨h1, h2, h3⟩ := pcost_nn hc
  rw [h3, h2]
  rw [isPart, Bool.and_eq_true] at h1
  exact (bs_least h.1 h2 h1.1 hk).2
theorem okB_facts {M : List (List Int)} {C : List Con} (h : okB M C) : (isPart (bs M C).first && C.all (kp (bs M C).first)) = true ∧ pcost M (bs M C).first = (bs M C).least ∧ isOpt M C (bs M C).first = true ∧ 0 ≤ ccost M C ∧ 0 < bCount M C := by
  obtain ⟨b1, b2, b3, b4, b5⟩ := (bs_best (C := C) h.1).ok (bs_ok h.1 h.2)
  have hln := h.1.1
  have hl0 := bs_ok h.1 h.2
  have hp : isPart (bs M C).first = true := by
    rw [isPart, b2, b1]; simp [inR]; omega
  have hpc : pcost M (bs M C).first = (bs M C).least := by rw [pcost_t h.1 hp b1, b1, b4]
  have hk : (isPart (bs M C).first && C.all (kp (bs M C).first)) = true := by rw [hp, b3]; rfl
  have hn : okB M [] := ⟨h.1, by
    have ha : areCons M.length [] = true := by simp [areCons, inR]; omega
    rw [isCst, ha, conflict_t ha]; simp [fidx]⟩
  refine ⟨hk, hpc, ?_, ?_, ?_⟩
  · rw [isOpt_t h, hk, hpc]; simp
  · have := okB_least (C := []) (L := (bs M C).first) hn (by simp) (by omega)
    rw [ccost, bCost_t h, bCost_t hn, if_neg (by omega)]
    omega
  · rw [bCount_t h]; omega
end Go.Sh

/-
  Is a partition a local optimum? Of the reference and of the program.
-/
namespace Go.Sh
set_option linter.unusedSimpArgs false
set_option linter.unusedVariables false
open Go Go.Proofs

open Classical in
noncomputable def lopt (M : List (List Int)) (C : List Con) (L : List Int) : Bool := if canM M C L then !decide (0 < (bmv M C L).2.2) else false
theorem lopt_t {M : List (List Int)} {C : List Con} {L : List Int} (h : canM M C L) : lopt M C L = !decide (0 < (bmv M C L).2.2) := by rw [lopt, if_pos h]
theorem lopt_f {M : List (List Int)} {C : List Con} {L : List Int} (h : ¬ canM M C L) : lopt M C L = false := by rw [lopt, if_neg h]

set_option maxHeartbeats 2000000 in
theorem Try.implLO_ok (M : List (List Int)) (C : List Con) (L : List Int) (hM : M.length ≤ 1048576) (hR : ∀ i, i < M.length → (mrow M i).length ≤ 1048576) (hC : C.length ≤ 1048576) (hL : L.length ≤ 1048576) :
    PCall Try.prog 84 [rr M, rc C, ri L] (.val (.bool (lopt M C L))) := by
  refine FCall.pcall (R := fun r _ => r = .val (.bool (lopt M C L))) ?_ 0 (by rintro r H rfl; exact view_bool)
  have w1 := Try.implBM_ok M C L hM hR hC hL
  refine FCall.of_body Try.func84 rfl (by kernel_rfl) (by simp [Try.ntmps84]) ?_
  refine SW_of_vc Try.mixed _ _ _ (by kernel_rfl) ?_
  by_cases hcan : canM M C L
  · have w2 := Try.canMove_t M C L hM hR hC hL hcan
    rw [lopt_t hcan]
    generalize bmv M C L = t at *
    rcases Bool.eq_false_or_eq_true (decide (0 < t.2.2)) with hd | hd
    · rw [mvR, hd] at w1
      rw [hd]
      simp (disch := omega) only [Try.ntmps84, Try.results84, go_sem, Nat.reduceLT, Nat.reduceLeDiff, Nat.reduceEqDiff, Nat.reduceAdd, Nat.reduceSub, Nat.reduceMul, reduceIte, ↓reduceIte, reduceCtorEq, Int.reduceToNat, Int.reduceLE, Int.reduceLT, Int.reduceNeg, Int.reduceSub, Int.reduceAdd, Int.reduceMul, rr_eq, rc]
      refine w1.callV 2 (viewL_cons_of view_row (viewL_cons_of view_row (viewL_cons_of view_row viewL_nil_of))) ?_
      simp (disch := omega) only [Try.ntmps84, Try.results84, go_sem, Nat.reduceLT, Nat.reduceLeDiff, Nat.reduceEqDiff, Nat.reduceAdd, Nat.reduceSub, Nat.reduceMul, reduceIte, ↓reduceIte, reduceCtorEq, Int.reduceToNat, Int.reduceLE, Int.reduceLT, Int.reduceNeg, Int.reduceSub, Int.reduceAdd, Int.reduceMul, rr_eq, rc, mvS]
      refine w2.callV 2 (viewL_cons_of view_row (viewL_cons_of view_row (viewL_cons_of view_row viewL_nil_of))) ?_
      simp (disch := omega) only [Try.ntmps84, Try.results84, go_sem, Nat.reduceLT, Nat.reduceLeDiff, Nat.reduceEqDiff, Nat.reduceAdd, Nat.reduceSub, Nat.reduceMul, reduceIte, ↓reduceIte, reduceCtorEq, Int.reduceToNat, Int.reduceLE, Int.reduceLT, Int.reduceNeg, Int.reduceSub, Int.reduceAdd, Int.reduceMul, rr_eq, rc, mvS]
      exact Fin.val rfl
    · rw [mvR, hd] at w1
      rw [hd]
      simp (disch := omega) only [Try.ntmps84, Try.results84, go_sem, Nat.reduceLT, Nat.reduceLeDiff, Nat.reduceEqDiff, Nat.reduceAdd, Nat.reduceSub, Nat.reduceMul, reduceIte, ↓reduceIte, reduceCtorEq, Int.reduceToNat, Int.reduceLE, Int.reduceLT, Int.reduceNeg, Int.reduceSub, Int.reduceAdd, Int.reduceMul, rr_eq, rc]
      refine w1.callV 2 (viewL_cons_of view_row (viewL_cons_of view_row (viewL_cons_of view_row viewL_nil_of))) ?_
      simp (disch := omega) only [Try.ntmps84, Try.results84, go_sem, Nat.reduceLT, Nat.reduceLeDiff, Nat.reduceEqDiff, Nat.reduceAdd, Nat.reduceSub, Nat.reduceMul, reduceIte, ↓reduceIte, reduceCtorEq, Int.reduceToNat, Int.reduceLE, Int.reduceLT, Int.reduceNeg, Int.reduceSub, Int.reduceAdd, Int.reduceMul, rr_eq, rc, mvS]
      refine w2.callV 2 (viewL_cons_of view_row (viewL_cons_of view_row (viewL_cons_of view_row viewL_nil_of))) ?_
      simp (disch := omega) only [Try.ntmps84, Try.results84, go_sem, Nat.reduceLT, Nat.reduceLeDiff, Nat.reduceEqDiff, Nat.reduceAdd, Nat.reduceSub, Nat.reduceMul, reduceIte, ↓reduceIte, reduceCtorEq, Int.reduceToNat, Int.reduceLE, Int.reduceLT, Int.reduceNeg, Int.reduceSub, Int.reduceAdd, Int.reduceMul, rr_eq, rc, mvS]
      exact Fin.val rfl
  · have w2 := Try.canMove_f M C L hM hR hC hL hcan
    rw [lopt_f hcan]
    generalize bmv M C L = t at *
    simp (disch := omega) only [Try.ntmps84, Try.results84, go_sem, Nat.reduceLT, Nat.reduceLeDiff, Nat.reduceEqDiff, Nat.reduceAdd, Nat.reduceSub, Nat.reduceMul, reduceIte, ↓reduceIte, reduceCtorEq, Int.reduceToNat, Int.reduceLE, Int.reduceLT, Int.reduceNeg, Int.reduceSub, Int.reduceAdd, Int.reduceMul, rr_eq, rc]
    refine w1.callV 2 (viewL_cons_of view_row (viewL_cons_of view_row (viewL_cons_of view_row viewL_nil_of))) ?_
    simp (disch := omega) only [Try.ntmps84, Try.results84, go_sem, Nat.reduceLT, Nat.reduceLeDiff, Nat.reduceEqDiff, Nat.reduceAdd, Nat.reduceSub, Nat.reduceMul, reduceIte, ↓reduceIte, reduceCtorEq, Int.reduceToNat, Int.reduceLE, Int.reduceLT, Int.reduceNeg, Int.reduceSub, Int.reduceAdd, Int.reduceMul, rr_eq, rc, mvS]
    refine w2.callV 2 (viewL_cons_of view_row (viewL_cons_of view_row (viewL_cons_of view_row viewL_nil_of))) ?_
    simp (disch := omega) only [Try.ntmps84, Try.results84, go_sem, Nat.reduceLT, Nat.reduceLeDiff, Nat.reduceEqDiff, Nat.reduceAdd, Nat.reduceSub, Nat.reduceMul, reduceIte, ↓reduceIte, reduceCtorEq, Int.reduceToNat, Int.reduceLE, Int.reduceLT, Int.reduceNeg, Int.reduceSub, Int.reduceAdd, Int.reduceMul, rr_eq, rc, mvS]
    exact Fin.val rfl

set_option maxHeartbeats 2000000 in
theorem Try.specLO_ok (M : List (List Int)) (C : List Con) (L : List Int) (hM : M.length ≤ 1048576) (hR : ∀ i, i < M.length → (mrow M i).length ≤ 1048576) (hC : C.length ≤ 1048576) (hL : L.length ≤ 1048576) :
    PCall Try.prog 85 [rr M, rc C, ri L] (.val (.bool (lopt M C L))) := by
  refine FCall.pcall (R := fun r _ => r = .val (.bool (lopt M C L))) ?_ 0 (by rintro r H rfl; exact view_bool)
  have w1 := Try.specBM_ok M C L hM hR hC hL
  have w2 := Try.specPartitionCost_ok M L hM hR hL
  have w3 := Try.specKeepsConstraints_ok L C hL hC
  refine FCall.of_body Try.func85 rfl (by kernel_rfl) (by simp [Try.ntmps85]) ?_
  refine SW_of_vc Try.mixed _ _ _ (by kernel_rfl) ?_
  by_cases hcan : canM M C L
  · rw [lopt_t hcan]
    obtain ⟨hw, hpt, hl, hpc⟩ := canM_r hcan
    have hp0 := hcan.1
    rw [hpt, hcan.2] at w3
    generalize bmv M C L = t at *
    rcases Bool.eq_false_or_eq_true (decide (0 < t.2.2)) with hd | hd
    · rw [mvR, hd] at w1
      rw [hd]
      simp (disch := omega) only [Try.ntmps85, Try.results85, go_sem, Nat.reduceLT, Nat.reduceLeDiff, Nat.reduceEqDiff, Nat.reduceAdd, Nat.reduceSub, Nat.reduceMul, reduceIte, ↓reduceIte, reduceCtorEq, Int.reduceToNat, Int.reduceLE, Int.reduceLT, Int.reduceNeg, Int.reduceSub, Int.reduceAdd, Int.reduceMul, rr_eq, rc]
      refine w1.callV 2 (viewL_cons_of view_row (viewL_cons_of view_row (viewL_cons_of view_row viewL_nil_of))) ?_
      simp (disch := omega) only [Try.ntmps85, Try.results85, go_sem, Nat.reduceLT, Nat.reduceLeDiff, Nat.reduceEqDiff, Nat.reduceAdd, Nat.reduceSub, Nat.reduceMul, reduceIte, ↓reduceIte, reduceCtorEq, Int.reduceToNat, Int.reduceLE, Int.reduceLT, Int.reduceNeg, Int.reduceSub, Int.reduceAdd, Int.reduceMul, rr_eq, rc, mvS]
      refine w2.callV 0 (viewL_cons_of (view_row) (viewL_cons_of (view_rowL (by first | rfl | simp [marks_length, canon_length] | omega)) viewL_nil_of)) ?_
      simp (disch := omega) only [Try.ntmps85, Try.results85, go_sem, Nat.reduceLT, Nat.reduceLeDiff, Nat.reduceEqDiff, Nat.reduceAdd, Nat.reduceSub, Nat.reduceMul, reduceIte, ↓reduceIte, reduceCtorEq, Int.reduceToNat, Int.reduceLE, Int.reduceLT, Int.reduceNeg, Int.reduceSub, Int.reduceAdd, Int.reduceMul, rr_eq, rc, mvS]
      refine w3.callV 2 (viewL_cons_of view_row (viewL_cons_of view_row viewL_nil_of)) ?_
      simp (disch := omega) only [Try.ntmps85, Try.results85, go_sem, Nat.reduceLT, Nat.reduceLeDiff, Nat.reduceEqDiff, Nat.reduceAdd, Nat.reduceSub, Nat.reduceMul, reduceIte, ↓reduceIte, reduceCtorEq, Int.reduceToNat, Int.reduceLE, Int.reduceLT, Int.reduceNeg, Int.reduceSub, Int.reduceAdd, Int.reduceMul, rr_eq, rc, mvS]
      exact Fin.val rfl
    · rw [mvR, hd] at w1
      rw [hd]
      simp (disch := omega) only [Try.ntmps85, Try.results85, go_sem, Nat.reduceLT, Nat.reduceLeDiff, Nat.reduceEqDiff, Nat.reduceAdd, Nat.reduceSub, Nat.reduceMul, reduceIte, ↓reduceIte, reduceCtorEq, Int.reduceToNat, Int.reduceLE, Int.reduceLT, Int.reduceNeg, Int.reduceSub, Int.reduceAdd, Int.reduceMul, rr_eq, rc]
      refine w1.callV 2 (viewL_cons_of view_row (viewL_cons_of view_row (viewL_cons_of view_row viewL_nil_of))) ?_
      simp (disch := omega) only [Try.ntmps85, Try.results85, go_sem, Nat.reduceLT, Nat.reduceLeDiff, Nat.reduceEqDiff, Nat.reduceAdd, Nat.reduceSub, Nat.reduceMul, reduceIte, ↓reduceIte, reduceCtorEq, Int.reduceToNat, Int.reduceLE, Int.reduceLT, Int.reduceNeg, Int.reduceSub, Int.reduceAdd, Int.reduceMul, rr_eq, rc, mvS]
      refine w2.callV 0 (viewL_cons_of (view_row) (viewL_cons_of (view_rowL (by first | rfl | simp [marks_length, canon_length] | omega)) viewL_nil_of)) ?_
      simp (disch := omega) only [Try.ntmps85, Try.results85, go_sem, Nat.reduceLT, Nat.reduceLeDiff, Nat.reduceEqDiff, Nat.reduceAdd, Nat.reduceSub, Nat.reduceMul, reduceIte, ↓reduceIte, reduceCtorEq, Int.reduceToNat, Int.reduceLE, Int.reduceLT, Int.reduceNeg, Int.reduceSub, Int.reduceAdd, Int.reduceMul, rr_eq, rc, mvS]
      refine w3.callV 2 (viewL_cons_of view_row (viewL_cons_of view_row viewL_nil_of)) ?_
      simp (disch := omega) only [Try.ntmps85, Try.results85, go_sem, Nat.reduceLT, Nat.reduceLeDiff, Nat.reduceEqDiff, Nat.reduceAdd, Nat.reduceSub, Nat.reduceMul, reduceIte, ↓reduceIte, reduceCtorEq, Int.reduceToNat, Int.reduceLE, Int.reduceLT, Int.reduceNeg, Int.reduceSub, Int.reduceAdd, Int.reduceMul, rr_eq, rc, mvS]
      exact Fin.val rfl
  · rw [lopt_f hcan]
    by_cases hp : pcost M L < 0
    · generalize bmv M C L = t at *
      simp (disch := omega) only [Try.ntmps85, Try.results85, go_sem, Nat.reduceLT, Nat.reduceLeDiff, Nat.reduceEqDiff, Nat.reduceAdd, Nat.reduceSub, Nat.reduceMul, reduceIte, ↓reduceIte, reduceCtorEq, Int.reduceToNat, Int.reduceLE, Int.reduceLT, Int.reduceNeg, Int.reduceSub, Int.reduceAdd, Int.reduceMul, rr_eq, rc]
      refine w1.callV 2 (viewL_cons_of view_row (viewL_cons_of view_row (viewL_cons_of view_row viewL_nil_of))) ?_
      simp (disch := omega) only [Try.ntmps85, Try.results85, go_sem, Nat.reduceLT, Nat.reduceLeDiff, Nat.reduceEqDiff, Nat.reduceAdd, Nat.reduceSub, Nat.reduceMul, reduceIte, ↓reduceIte, reduceCtorEq, Int.reduceToNat, Int.reduceLE, Int.reduceLT, Int.reduceNeg, Int.reduceSub, Int.reduceAdd, Int.reduceMul, rr_eq, rc, mvS]
      refine w2.callV 0 (viewL_cons_of (view_row) (viewL_cons_of (view_rowL (by first | rfl | simp [marks_length, canon_length] | omega)) viewL_nil_of)) ?_
      simp (disch := omega) only [Try.ntmps85, Try.results85, go_sem, Nat.reduceLT, Nat.reduceLeDiff, Nat.reduceEqDiff, Nat.reduceAdd, Nat.reduceSub, Nat.reduceMul, reduceIte, ↓reduceIte, reduceCtorEq, Int.reduceToNat, Int.reduceLE, Int.reduceLT, Int.reduceNeg, Int.reduceSub, Int.reduceAdd, Int.reduceMul, rr_eq, rc, mvS]
      exact Fin.val rfl
    · rw [kp_not hp hcan, Bool.and_false] at w3
      generalize bmv M C L = t at *
      simp (disch := omega) only [Try.ntmps85, Try.results85, go_sem, Nat.reduceLT, Nat.reduceLeDiff, Nat.reduceEqDiff, Nat.reduceAdd, Nat.reduceSub, Nat.reduceMul, reduceIte, ↓reduceIte, reduceCtorEq, Int.reduceToNat, Int.reduceLE, Int.reduceLT, Int.reduceNeg, Int.reduceSub, Int.reduceAdd, Int.reduceMul, rr_eq, rc]
      refine w1.callV 2 (viewL_cons_of view_row (viewL_cons_of view_row (viewL_cons_of view_row viewL_nil_of))) ?_
      simp (disch := omega) only [Try.ntmps85, Try.results85, go_sem, Nat.reduceLT, Nat.reduceLeDiff, Nat.reduceEqDiff, Nat.reduceAdd, Nat.reduceSub, Nat.reduceMul, reduceIte, ↓reduceIte, reduceCtorEq, Int.reduceToNat, Int.reduceLE, Int.reduceLT, Int.reduceNeg, Int.reduceSub, Int.reduceAdd, Int.reduceMul, rr_eq, rc, mvS]
      refine w2.callV 0 (viewL_cons_of (view_row) (viewL_cons_of (view_rowL (by first | rfl | simp [marks_length, canon_length] | omega)) viewL_nil_of)) ?_
      simp (disch := omega) only [Try.ntmps85, Try.results85, go_sem, Nat.reduceLT, Nat.reduceLeDiff, Nat.reduceEqDiff, Nat.reduceAdd, Nat.reduceSub, Nat.reduceMul, reduceIte, ↓reduceIte, reduceCtorEq, Int.reduceToNat, Int.reduceLE, Int.reduceLT, Int.reduceNeg, Int.reduceSub, Int.reduceAdd, Int.reduceMul, rr_eq, rc, mvS]
      refine w3.callV 2 (viewL_cons_of view_row (viewL_cons_of view_row viewL_nil_of)) ?_
      simp (disch := omega) only [Try.ntmps85, Try.results85, go_sem, Nat.reduceLT, Nat.reduceLeDiff, Nat.reduceEqDiff, Nat.reduceAdd, Nat.reduceSub, Nat.reduceMul, reduceIte, ↓reduceIte, reduceCtorEq, Int.reduceToNat, Int.reduceLE, Int.reduceLT, Int.reduceNeg, Int.reduceSub, Int.reduceAdd, Int.reduceMul, rr_eq, rc, mvS]
      exact Fin.val rfl
end Go.Sh

/-
  Best moves, again and again: plain facts.
-/
namespace Go.Sh
set_option linter.unusedSimpArgs false
set_option linter.unusedVariables false
open Go Go.Proofs

def MvOk (M : List (List Int)) (C : List Con) (L : List Int) (t : Mv) : Prop := 0 < t.2.2 → moveOk L t.1 t.2.1 = true ∧ t.2.2 = gain M L t.1 t.2.1 ∧ C.all (kp (moveTo L t.1 t.2.1)) = true
theorem bmRow_mv {M : List (List Int)} {C : List Con} {L : List Int} {best : Mv} {i : Nat} (h : MvOk M C L best) : ∀ b, MvOk M C L (bmRow M C L best i b)
  | 0 => h
  | b + 1 => by
    have ih := bmRow_mv (i := i) h b
    rw [bmRow, bstep]
    split
    · rename_i hh
      exact fun _ => ⟨hh.1, rfl, hh.2.2⟩
    · exact ih
theorem bmTo_mv {M : List (List Int)} {C : List Con} {L : List Int} : ∀ i, MvOk M C L (bmTo M C L i)
  | 0 => fun h => by simp [bmTo] at h
  | i + 1 => bmRow_mv (bmTo_mv i) _
theorem bmv_mv {M : List (List Int)} {C : List Con} {L : List Int} (hc : canM M C L) : MvOk M C L (bmv M C L) := by
  rw [bmv_t hc]; exact bmTo_mv _
theorem move_can {M : List (List Int)} {C : List Con} {L : List Int} {i b : Int} (hc : canM M C L) (h : moveOk L i b = true) (hk : C.all (kp (moveTo L i b)) = true) : canM M C (moveTo L i b) ∧ pcost M (moveTo L i b) = pcost M L - gain M L i b := by
  obtain ⟨hw, hp, hl, he⟩ := canM_r hc
  have hl2 := moveTo_length L i b
  have e := pcost_t hw (moveTo_part h) (by omega)
  have b2 := cc_b (L := moveTo L i b) hw (moveTo L i b).length (by omega)
  have hg : gain M L i b = cc M L L.length - cc M (moveTo L i b) L.length := if_pos ⟨h, hc.1⟩
  refine ⟨⟨by rw [e]; omega, hk⟩, ?_⟩
  rw [e, hg, he, hl2]; omega
theorem bmv_go {M : List (List Int)} {C : List Con} {L : List Int} (hc : canM M C L) (h : 0 < (bmv M C L).2.2) :
    moveOk L (bmv M C L).1 (bmv M C L).2.1 = true ∧ gain M L (bmv M C L).1 (bmv M C L).2.1 = (bmv M C L).2.2 ∧ canM M C (moveTo L (bmv M C L).1 (bmv M C L).2.1) ∧ pcost M (moveTo L (bmv M C L).1 (bmv M C L).2.1) = pcost M L - (bmv M C L).2.2 := by
  obtain ⟨h1, h2, h3⟩ := bmv_mv hc h
  obtain ⟨h4, h5⟩ := move_can hc h1 h3
  exact ⟨h1, h2.symm, h4, by rw [h5, ← h2]⟩
theorem im_facts {M : List (List Int)} {C : List Con} : ∀ (f : Nat) (X : List Int) (n : Nat), canM M C X →
    canM M C (im M C f X n).1 ∧ n ≤ (im M C f X n).2 ∧ pcost M (im M C f X n).1 ≤ pcost M X - (((im M C f X n).2 : Int) - n) ∧ ((im M C f X n).2 = n + f ∨ ¬ 0 < (bmv M C (im M C f X n).1).2.2)
  | 0, X, n, hc => ⟨hc, Nat.le_refl _, by show pcost M X ≤ pcost M X - ((n : Int) - n); omega, .inl rfl⟩
  | f + 1, X, n, hc => by
    by_cases h : 0 < (bmv M C X).2.2
    · rw [im_go h]
      obtain ⟨h1, h2, h3, h4⟩ := bmv_go hc h
      obtain ⟨k1, k2, k3, k4⟩ := im_facts f (moveTo X (bmv M C X).1 (bmv M C X).2.1) (n + 1) h3
      refine ⟨k1, by omega, by omega, ?_⟩
      rcases k4 with k4 | k4
      · exact .inl (by omega)
      · exact .inr k4
    · rw [im_stop h]
      exact ⟨hc, Nat.le_refl _, by show pcost M X ≤ pcost M X - ((n : Int) - n); omega, .inr h⟩
theorem im_not {M : List (List Int)} {C : List Con} {f : Nat} {L : List Int} (hc : ¬ canM M C L) : im M C f L 0 = (L, 0) := im_stop (by rw [bmv_f hc]; simp)
theorem im_one {M : List (List Int)} {C : List Con} {f : Nat} {L : List Int} (hc : canM M C L) (h : 0 < (bmv M C L).2.2) : 1 ≤ (im M C (f + 1) L 0).2 := by
  rw [im_go h]
  obtain ⟨h1, h2, h3, h4⟩ := bmv_go hc h
  exact (im_facts f _ (0 + 1) h3).2.1
/-- Of the best partitions none can be improved. -/
theorem opt_lopt {M : List (List Int)} {C : List Con} {L : List Int} (hc : canM M C L) (h : isOpt M C L = true) : lopt M C L = true := by
  have ho : okB M C := by
    by_cases ho : okB M C
    · exact ho
    · rw [isOpt_f ho] at h; cases h
  rw [isOpt_t ho, Bool.and_eq_true, decide_eq_true_eq] at h
  rw [lopt_t hc]
  by_cases hg : 0 < (bmv M C L).2.2
  · obtain ⟨h1, h2, h3, h4⟩ := bmv_go hc hg
    have := okB_least ho h3.2 h3.1
    omega
  · simp [hg]
theorem lopt_im {M : List (List Int)} {C : List Con} {L : List Int} (hc : canM M C L) (h : ¬ 0 < (bmv M C L).2.2) : lopt M C L = true := by
  rw [lopt_t hc]; simp [h]
end Go.Sh

/-
  The law FnLocal, walked: improving never increases the cost, keeps the constraints, and ends in a local optimum; an optimal partition is one.
-/
namespace Go.Sh
set_option linter.unusedSimpArgs false
set_option linter.unusedVariables false
open Go Go.RowKit Go.Proofs

set_option maxRecDepth 20000 in
set_option maxHeartbeats 8000000 in
theorem Try.fnLocal_ok (B : List Int) (hBw : B.length ≤ 9223372036854775807) : PCall Try.prog 14 [rby B] (.val (.bool true)) := by
  have wbig := Try.big_ok B hBw
  refine FCall.pcall (R := fun r _ => r = .val (.bool true)) ?_ 0 (by rintro r H rfl; exact view_bool)
  refine FCall.of_body Try.func14 rfl (by kernel_rfl) (by simp [Try.ntmps14]) ?_
  refine SW.seqW ⟨ofL [(0, rby B)], hp [] 0⟩ ?_ ?_
  · refine SW_of_vc Try.mixed _ _ _ (by kernel_rfl) ?_
    simp (disch := omega) only [Try.ntmps14, Try.results14, go_sem, Nat.reduceLT, Nat.reduceLeDiff, Nat.reduceEqDiff, Nat.reduceAdd, Nat.reduceSub, Nat.reduceMul, reduceIte, ↓reduceIte, reduceCtorEq, Int.reduceToNat, Int.reduceLE, Int.reduceLT, Int.reduceNeg, Int.reduceSub, Int.reduceAdd, Int.reduceMul, rby, rr_eq, rc, bne_self_eq_false, beq_self_eq_true]
    exact Wk.of (by simp only [go_sem, ↓List.forall_mem_cons, List.not_mem_nil, false_implies, implies_true, and_true, true_and, and_self, Nat.reduceEqDiff, reduceIte, ↓reduceIte, ri_eq, Int.natCast_add, Int.cast_ofNat_Int, rby]; try simp) rfl
  by_cases hB : 1048576 < B.length
  · rw [decide_eq_true hB] at wbig
    refine SW_of_vc Try.mixed _ _ _ (by kernel_rfl) ?_
    simp (disch := omega) only [Try.ntmps14, Try.results14, go_sem, Nat.reduceLT, Nat.reduceLeDiff, Nat.reduceEqDiff, Nat.reduceAdd, Nat.reduceSub, Nat.reduceMul, reduceIte, ↓reduceIte, reduceCtorEq, Int.reduceToNat, Int.reduceLE, Int.reduceLT, Int.reduceNeg, Int.reduceSub, Int.reduceAdd, Int.reduceMul, rby, rr_eq, rc, bne_self_eq_false, beq_self_eq_true]
    refine wbig.callV 0 (viewL_cons_of (view_row) viewL_nil_of) ?_
    simp (disch := omega) only [Try.ntmps14, Try.results14, go_sem, Nat.reduceLT, Nat.reduceLeDiff, Nat.reduceEqDiff, Nat.reduceAdd, Nat.reduceSub, Nat.reduceMul, reduceIte, ↓reduceIte, reduceCtorEq, Int.reduceToNat, Int.reduceLE, Int.reduceLT, Int.reduceNeg, Int.reduceSub, Int.reduceAdd, Int.reduceMul, rby, rr_eq, rc, bne_self_eq_false, beq_self_eq_true]
    exact Fin.val rfl
  rw [decide_eq_false hB] at wbig
  have hB : B.length ≤ 1048576 := by omega
  refine SW.seqW ⟨ofL [(0, rby B)], hp [] 0⟩ ?_ ?_
  · refine SW_of_vc Try.mixed _ _ _ (by kernel_rfl) ?_
    simp (disch := omega) only [Try.ntmps14, Try.results14, go_sem, Nat.reduceLT, Nat.reduceLeDiff, Nat.reduceEqDiff, Nat.reduceAdd, Nat.reduceSub, Nat.reduceMul, reduceIte, ↓reduceIte, reduceCtorEq, Int.reduceToNat, Int.reduceLE, Int.reduceLT, Int.reduceNeg, Int.reduceSub, Int.reduceAdd, Int.reduceMul, rby, rr_eq, rc, bne_self_eq_false, beq_self_eq_true]
    refine wbig.callV 0 (viewL_cons_of (view_row) viewL_nil_of) ?_
    simp (disch := omega) only [Try.ntmps14, Try.results14, go_sem, Nat.reduceLT, Nat.reduceLeDiff, Nat.reduceEqDiff, Nat.reduceAdd, Nat.reduceSub, Nat.reduceMul, reduceIte, ↓reduceIte, reduceCtorEq, Int.reduceToNat, Int.reduceLE, Int.reduceLT, Int.reduceNeg, Int.reduceSub, Int.reduceAdd, Int.reduceMul, rby, rr_eq, rc, bne_self_eq_false, beq_self_eq_true]
    exact Wk.of (by simp only [go_sem, ↓List.forall_mem_cons, List.not_mem_nil, false_implies, implies_true, and_true, true_and, and_self, Nat.reduceEqDiff, reduceIte, ↓reduceIte, ri_eq, Int.natCast_add, Int.cast_ofNat_Int, rby]; try simp) rfl
  refine SW.seqI (fun y : List (List Int) × List Con × List Int => ⟨ofL [(3, rr y.1), (4, rc y.2.1), (5, ri y.2.2)], hp [] 0⟩) (fun y => y.1.length ≤ 7 ∧ (∀ i, i < y.1.length → (mrow y.1 i).length ≤ 6) ∧ y.2.1.length ≤ 5 ∧ 1 ≤ y.2.2.length ∧ y.2.2.length ≤ 9) ?_ ?_
  · refine SW_of_vc Try.mixed _ _ _ (by kernel_rfl) ?_
    simp (disch := omega) only [Try.ntmps14, Try.results14, go_sem, Nat.reduceLT, Nat.reduceLeDiff, Nat.reduceEqDiff, Nat.reduceAdd, Nat.reduceSub, Nat.reduceMul, reduceIte, ↓reduceIte, reduceCtorEq, Int.reduceToNat, Int.reduceLE, Int.reduceLT, Int.reduceNeg, Int.reduceSub, Int.reduceAdd, Int.reduceMul, rby, rr_eq, rc, bne_self_eq_false, beq_self_eq_true]
    refine (Try.drawImp_e B hB).callE 0 (viewL_cons_of (view_row) viewL_nil_of) ?_
    rintro T ⟨M, C, L, rfl, hM7, hR6, hC5, hL1, hL9⟩
    simp (disch := omega) only [Try.ntmps14, Try.results14, go_sem, Nat.reduceLT, Nat.reduceLeDiff, Nat.reduceEqDiff, Nat.reduceAdd, Nat.reduceSub, Nat.reduceMul, reduceIte, ↓reduceIte, reduceCtorEq, Int.reduceToNat, Int.reduceLE, Int.reduceLT, Int.reduceNeg, Int.reduceSub, Int.reduceAdd, Int.reduceMul, rby, rr_eq, rc, bne_self_eq_false, beq_self_eq_true]
    exact ⟨(M, C, L), ⟨hM7, hR6, hC5, hL1, hL9⟩, Wk.of (by simp only [go_sem, ↓List.forall_mem_cons, List.not_mem_nil, false_implies, implies_true, and_true, true_and, and_self, Nat.reduceEqDiff, reduceIte, ↓reduceIte, ri_eq, Int.natCast_add, Int.cast_ofNat_Int, rr_eq, rc]; try simp) rfl⟩
  rintro ⟨M, C, L⟩ ⟨hM7, hR6, hC5, hL1, hL9⟩
  simp only at hM7 hR6 hC5 hL1 hL9
  have hM : M.length ≤ 1048576 := by omega
  have hR : ∀ i, i < M.length → (mrow M i).length ≤ 1048576 := fun i hi => by have := hR6 i hi; omega
  have hC : C.length ≤ 1048576 := by omega
  have hL : L.length ≤ 1048576 := by omega
  have w1 := Try.implIm_ok M C L hM hR hC hL (by omega)
  have w2 := Try.specIm_ok M C L hM hR hC hL
  have w3 := Try.implBM_ok M C L hM hR hC hL
  have w4 := Try.specBM_ok M C L hM hR hC hL
  have w5 := Try.implLO_ok M C L hM hR hC hL
  have w6 := Try.specLO_ok M C L hM hR hC hL
  have hXl : (im M C 100 L 0).1.length = L.length := im_len 100 L 0
  have hXn : (im M C 100 L 0).2 ≤ 0 + 100 := im_le 100 L 0
  have wx := Try.sameInts_ok (im M C 100 L 0).1 (by omega)
  have hfacts := im_facts (M := M) (C := C) 100 L 0
  have hnot := im_not (M := M) (C := C) (f := 100) (L := L)
  have hone := im_one (M := M) (C := C) (f := 99) (L := L)
  have hgo := bmv_go (M := M) (C := C) (L := L)
  generalize im M C 100 L 0 = p at *
  generalize bmv M C L = t at *
  obtain ⟨X, k⟩ := p
  obtain ⟨i, b, g⟩ := t
  simp only at hXl hXn wx hfacts hnot hone hgo w1 w2 w3 w4
  refine SW.seqW ⟨ofL [(3, rr M), (4, rc C), (5, ri L), (6, ri X), (7, .val (.int .i64 k))], hp [] 0⟩ ?_ ?_
  · refine SW_of_vc Try.mixed _ _ _ (by kernel_rfl) ?_
    simp (disch := omega) only [Try.ntmps14, Try.results14, go_sem, Nat.reduceLT, Nat.reduceLeDiff, Nat.reduceEqDiff, Nat.reduceAdd, Nat.reduceSub, Nat.reduceMul, reduceIte, ↓reduceIte, reduceCtorEq, Int.reduceToNat, Int.reduceLE, Int.reduceLT, Int.reduceNeg, Int.reduceSub, Int.reduceAdd, Int.reduceMul, rby, rr_eq, rc, bne_self_eq_false, beq_self_eq_true]
    refine w1.callV 0 (viewL_cons_of (view_row) (viewL_cons_of (view_row) (viewL_cons_of (view_row) viewL_nil_of))) ?_
    simp (disch := omega) only [Try.ntmps14, Try.results14, go_sem, Nat.reduceLT, Nat.reduceLeDiff, Nat.reduceEqDiff, Nat.reduceAdd, Nat.reduceSub, Nat.reduceMul, reduceIte, ↓reduceIte, reduceCtorEq, Int.reduceToNat, Int.reduceLE, Int.reduceLT, Int.reduceNeg, Int.reduceSub, Int.reduceAdd, Int.reduceMul, rby, rr_eq, rc, bne_self_eq_false, beq_self_eq_true]
    exact Wk.of (by simp only [go_sem, ↓List.forall_mem_cons, List.not_mem_nil, false_implies, implies_true, and_true, true_and, and_self, Nat.reduceEqDiff, reduceIte, ↓reduceIte, ri_eq, Int.natCast_add, Int.cast_ofNat_Int, rr_eq, rc]; try simp) rfl
  refine SW.seqW ⟨ofL [(3, rr M), (4, rc C), (5, ri L), (6, ri X), (7, .val (.int .i64 k)), (8, ri X), (9, .val (.int .i64 k))], hp [] 0⟩ ?_ ?_
  · refine SW_of_vc Try.mixed _ _ _ (by kernel_rfl) ?_
    simp (disch := omega) only [Try.ntmps14, Try.results14, go_sem, Nat.reduceLT, Nat.reduceLeDiff, Nat.reduceEqDiff, Nat.reduceAdd, Nat.reduceSub, Nat.reduceMul, reduceIte, ↓reduceIte, reduceCtorEq, Int.reduceToNat, Int.reduceLE, Int.reduceLT, Int.reduceNeg, Int.reduceSub, Int.reduceAdd, Int.reduceMul, rby, rr_eq, rc, bne_self_eq_false, beq_self_eq_true]
    refine w2.callV 0 (viewL_cons_of (view_row) (viewL_cons_of (view_row) (viewL_cons_of (view_row) viewL_nil_of))) ?_
    simp (disch := omega) only [Try.ntmps14, Try.results14, go_sem, Nat.reduceLT, Nat.reduceLeDiff, Nat.reduceEqDiff, Nat.reduceAdd, Nat.reduceSub, Nat.reduceMul, reduceIte, ↓reduceIte, reduceCtorEq, Int.reduceToNat, Int.reduceLE, Int.reduceLT, Int.reduceNeg, Int.reduceSub, Int.reduceAdd, Int.reduceMul, rby, rr_eq, rc, bne_self_eq_false, beq_self_eq_true]
    exact Wk.of (by simp only [go_sem, ↓List.forall_mem_cons, List.not_mem_nil, false_implies, implies_true, and_true, true_and, and_self, Nat.reduceEqDiff, reduceIte, ↓reduceIte, ri_eq, Int.natCast_add, Int.cast_ofNat_Int, rr_eq, rc]; try simp) rfl
  refine SW.seqW ⟨ofL [(3, rr M), (4, rc C), (5, ri L), (6, ri X), (7, .val (.int .i64 k)), (8, ri X), (9, .val (.int .i64 k)), (10, .optr 0 0), (11, .val (.bool (decide (0 < g))))], hp [(0, ⟨[.val (.int .i64 i), .val (.int .i64 b), .val (.int .i64 g)], true⟩)] 1⟩ ?_ ?_
  · refine SW_of_vc Try.mixed _ _ _ (by kernel_rfl) ?_
    simp (disch := omega) only [Try.ntmps14, Try.results14, go_sem, Nat.reduceLT, Nat.reduceLeDiff, Nat.reduceEqDiff, Nat.reduceAdd, Nat.reduceSub, Nat.reduceMul, reduceIte, ↓reduceIte, reduceCtorEq, Int.reduceToNat, Int.reduceLE, Int.reduceLT, Int.reduceNeg, Int.reduceSub, Int.reduceAdd, Int.reduceMul, rby, rr_eq, rc, bne_self_eq_false, beq_self_eq_true]
    refine w3.callV 0 (viewL_cons_of (view_row) (viewL_cons_of (view_row) (viewL_cons_of (view_row) viewL_nil_of))) ?_
    simp (disch := omega) only [Try.ntmps14, Try.results14, go_sem, Nat.reduceLT, Nat.reduceLeDiff, Nat.reduceEqDiff, Nat.reduceAdd, Nat.reduceSub, Nat.reduceMul, reduceIte, ↓reduceIte, reduceCtorEq, Int.reduceToNat, Int.reduceLE, Int.reduceLT, Int.reduceNeg, Int.reduceSub, Int.reduceAdd, Int.reduceMul, rby, rr_eq, rc, bne_self_eq_false, beq_self_eq_true]
    exact Wk.of (by simp only [go_sem, ↓List.forall_mem_cons, List.not_mem_nil, false_implies, implies_true, and_true, true_and, and_self, Nat.reduceEqDiff, reduceIte, ↓reduceIte, ri_eq, Int.natCast_add, Int.cast_ofNat_Int, rr_eq, rc]; try simp) rfl
  refine SW.seqW ⟨ofL [(3, rr M), (4, rc C), (5, ri L), (6, ri X), (7, .val (.int .i64 k)), (8, ri X), (9, .val (.int .i64 k)), (10, .optr 0 0), (11, .val (.bool (decide (0 < g)))), (12, .optr 1 0), (13, .val (.bool (decide (0 < g))))], hp [(1, ⟨[.val (.int .i64 i), .val (.int .i64 b), .val (.int .i64 g)], true⟩), (0, ⟨[.val (.int .i64 i), .val (.int .i64 b), .val (.int .i64 g)], true⟩)] 2⟩ ?_ ?_
  · refine SW_of_vc Try.mixed _ _ _ (by kernel_rfl) ?_
    simp (disch := omega) only [Try.ntmps14, Try.results14, go_sem, Nat.reduceLT, Nat.reduceLeDiff, Nat.reduceEqDiff, Nat.reduceAdd, Nat.reduceSub, Nat.reduceMul, reduceIte, ↓reduceIte, reduceCtorEq, Int.reduceToNat, Int.reduceLE, Int.reduceLT, Int.reduceNeg, Int.reduceSub, Int.reduceAdd, Int.reduceMul, rby, rr_eq, rc, bne_self_eq_false, beq_self_eq_true]
    refine w4.callV 0 (viewL_cons_of (view_row) (viewL_cons_of (view_row) (viewL_cons_of (view_row) viewL_nil_of))) ?_
    simp (disch := omega) only [Try.ntmps14, Try.results14, go_sem, Nat.reduceLT, Nat.reduceLeDiff, Nat.reduceEqDiff, Nat.reduceAdd, Nat.reduceSub, Nat.reduceMul, reduceIte, ↓reduceIte, reduceCtorEq, Int.reduceToNat, Int.reduceLE, Int.reduceLT, Int.reduceNeg, Int.reduceSub, Int.reduceAdd, Int.reduceMul, rby, rr_eq, rc, bne_self_eq_false, beq_self_eq_true]
    exact Wk.of (by simp only [go_sem, ↓List.forall_mem_cons, List.not_mem_nil, false_implies, implies_true, and_true, true_and, and_self, Nat.reduceEqDiff, reduceIte, ↓reduceIte, ri_eq, Int.natCast_add, Int.cast_ofNat_Int, rr_eq, rc]; try simp) rfl
  refine SW.seqW ⟨ofL [(3, rr M), (4, rc C), (5, ri L), (6, ri X), (7, .val (.int .i64 k)), (10, .optr 0 0), (11, .val (.bool (decide (0 < g))))], hp [(1, ⟨[.val (.int .i64 i), .val (.int .i64 b), .val (.int .i64 g)], true⟩), (0, ⟨[.val (.int .i64 i), .val (.int .i64 b), .val (.int .i64 g)], true⟩)] 2⟩ ?_ ?_
  · refine SW_of_vc Try.mixed _ _ _ (by kernel_rfl) ?_
    simp (disch := omega) only [Try.ntmps14, Try.results14, go_sem, Nat.reduceLT, Nat.reduceLeDiff, Nat.reduceEqDiff, Nat.reduceAdd, Nat.reduceSub, Nat.reduceMul, reduceIte, ↓reduceIte, reduceCtorEq, Int.reduceToNat, Int.reduceLE, Int.reduceLT, Int.reduceNeg, Int.reduceSub, Int.reduceAdd, Int.reduceMul, rby, rr_eq, rc, bne_self_eq_false, beq_self_eq_true]
    refine wx.callV 0 (viewL_cons_of (view_row) (viewL_cons_of (view_row) viewL_nil_of)) ?_
    simp (disch := omega) only [Try.ntmps14, Try.results14, go_sem, Nat.reduceLT, Nat.reduceLeDiff, Nat.reduceEqDiff, Nat.reduceAdd, Nat.reduceSub, Nat.reduceMul, reduceIte, ↓reduceIte, reduceCtorEq, Int.reduceToNat, Int.reduceLE, Int.reduceLT, Int.reduceNeg, Int.reduceSub, Int.reduceAdd, Int.reduceMul, rby, rr_eq, rc, bne_self_eq_false, beq_self_eq_true]
    refine w5.callV 0 (viewL_cons_of (view_row) (viewL_cons_of (view_row) (viewL_cons_of (view_row) viewL_nil_of))) ?_
    simp (disch := omega) only [Try.ntmps14, Try.results14, go_sem, Nat.reduceLT, Nat.reduceLeDiff, Nat.reduceEqDiff, Nat.reduceAdd, Nat.reduceSub, Nat.reduceMul, reduceIte, ↓reduceIte, reduceCtorEq, Int.reduceToNat, Int.reduceLE, Int.reduceLT, Int.reduceNeg, Int.reduceSub, Int.reduceAdd, Int.reduceMul, rby, rr_eq, rc, bne_self_eq_false, beq_self_eq_true]
    refine w6.callV 0 (viewL_cons_of (view_row) (viewL_cons_of (view_row) (viewL_cons_of (view_row) viewL_nil_of))) ?_
    simp (disch := omega) only [Try.ntmps14, Try.results14, go_sem, Nat.reduceLT, Nat.reduceLeDiff, Nat.reduceEqDiff, Nat.reduceAdd, Nat.reduceSub, Nat.reduceMul, reduceIte, ↓reduceIte, reduceCtorEq, Int.reduceToNat, Int.reduceLE, Int.reduceLT, Int.reduceNeg, Int.reduceSub, Int.reduceAdd, Int.reduceMul, rby, rr_eq, rc, bne_self_eq_false, beq_self_eq_true]
    exact Wk.of (by simp only [go_sem, ↓List.forall_mem_cons, List.not_mem_nil, false_implies, implies_true, and_true, true_and, and_self, Nat.reduceEqDiff, reduceIte, ↓reduceIte, ri_eq, Int.natCast_add, Int.cast_ofNat_Int, rr_eq, rc]; try simp) rfl
  clear wx w1 w2 w3 w4 w6
  have wp := Try.specPartitionCost_ok M L hM hR hL
  have wk := Try.specKeepsConstraints_ok L C hL hC
  by_cases hcan : canM M C L
  case neg =>
    obtain ⟨rfl, rfl⟩ := Prod.mk.inj (hnot hcan)
    have ws := Try.sameInts_ok X hL
    by_cases hn : pcost M X < 0
    · refine SW_of_vc Try.mixed _ _ _ (by kernel_rfl) ?_
      simp (disch := omega) only [Try.ntmps14, Try.results14, go_sem, Nat.reduceLT, Nat.reduceLeDiff, Nat.reduceEqDiff, Nat.reduceAdd, Nat.reduceSub, Nat.reduceMul, reduceIte, ↓reduceIte, reduceCtorEq, Int.reduceToNat, Int.reduceLE, Int.reduceLT, Int.reduceNeg, Int.reduceSub, Int.reduceAdd, Int.reduceMul, rby, rr_eq, rc, bne_self_eq_false, beq_self_eq_true]
      refine wp.callV 0 (viewL_cons_of (view_row) (viewL_cons_of (view_row) viewL_nil_of)) ?_
      simp (disch := omega) only [Try.ntmps14, Try.results14, go_sem, Nat.reduceLT, Nat.reduceLeDiff, Nat.reduceEqDiff, Nat.reduceAdd, Nat.reduceSub, Nat.reduceMul, reduceIte, ↓reduceIte, reduceCtorEq, Int.reduceToNat, Int.reduceLE, Int.reduceLT, Int.reduceNeg, Int.reduceSub, Int.reduceAdd, Int.reduceMul, rby, rr_eq, rc, bne_self_eq_false, beq_self_eq_true]
      refine ws.callV 0 (viewL_cons_of (view_row) (viewL_cons_of (view_row) viewL_nil_of)) ?_
      simp (disch := omega) only [Try.ntmps14, Try.results14, go_sem, Nat.reduceLT, Nat.reduceLeDiff, Nat.reduceEqDiff, Nat.reduceAdd, Nat.reduceSub, Nat.reduceMul, reduceIte, ↓reduceIte, reduceCtorEq, Int.reduceToNat, Int.reduceLE, Int.reduceLT, Int.reduceNeg, Int.reduceSub, Int.reduceAdd, Int.reduceMul, rby, rr_eq, rc, bne_self_eq_false, beq_self_eq_true]
      exact Fin.val rfl
    · rw [kp_not hn hcan, Bool.and_false] at wk
      refine SW_of_vc Try.mixed _ _ _ (by kernel_rfl) ?_
      simp (disch := omega) only [Try.ntmps14, Try.results14, go_sem, Nat.reduceLT, Nat.reduceLeDiff, Nat.reduceEqDiff, Nat.reduceAdd, Nat.reduceSub, Nat.reduceMul, reduceIte, ↓reduceIte, reduceCtorEq, Int.reduceToNat, Int.reduceLE, Int.reduceLT, Int.reduceNeg, Int.reduceSub, Int.reduceAdd, Int.reduceMul, rby, rr_eq, rc, bne_self_eq_false, beq_self_eq_true]
      refine wp.callV 0 (viewL_cons_of (view_row) (viewL_cons_of (view_row) viewL_nil_of)) ?_
      simp (disch := omega) only [Try.ntmps14, Try.results14, go_sem, Nat.reduceLT, Nat.reduceLeDiff, Nat.reduceEqDiff, Nat.reduceAdd, Nat.reduceSub, Nat.reduceMul, reduceIte, ↓reduceIte, reduceCtorEq, Int.reduceToNat, Int.reduceLE, Int.reduceLT, Int.reduceNeg, Int.reduceSub, Int.reduceAdd, Int.reduceMul, rby, rr_eq, rc, bne_self_eq_false, beq_self_eq_true]
      refine wk.callV 0 (viewL_cons_of (view_row) (viewL_cons_of (view_row) viewL_nil_of)) ?_
      simp (disch := omega) only [Try.ntmps14, Try.results14, go_sem, Nat.reduceLT, Nat.reduceLeDiff, Nat.reduceEqDiff, Nat.reduceAdd, Nat.reduceSub, Nat.reduceMul, reduceIte, ↓reduceIte, reduceCtorEq, Int.reduceToNat, Int.reduceLE, Int.reduceLT, Int.reduceNeg, Int.reduceSub, Int.reduceAdd, Int.reduceMul, rby, rr_eq, rc, bne_self_eq_false, beq_self_eq_true]
      refine ws.callV 0 (viewL_cons_of (view_row) (viewL_cons_of (view_row) viewL_nil_of)) ?_
      simp (disch := omega) only [Try.ntmps14, Try.results14, go_sem, Nat.reduceLT, Nat.reduceLeDiff, Nat.reduceEqDiff, Nat.reduceAdd, Nat.reduceSub, Nat.reduceMul, reduceIte, ↓reduceIte, reduceCtorEq, Int.reduceToNat, Int.reduceLE, Int.reduceLT, Int.reduceNeg, Int.reduceSub, Int.reduceAdd, Int.reduceMul, rby, rr_eq, rc, bne_self_eq_false, beq_self_eq_true]
      exact Fin.val rfl
  obtain ⟨hw, hpt, hl, hpe⟩ := canM_r hcan
  rw [hpt, hcan.2, Bool.true_and] at wk
  obtain ⟨f1, _, f3, f4⟩ := hfacts hcan
  have p0 := hcan.1
  have p9 : pcost M L ≤ 64000 := by
    have := cc_b (L := L) hw L.length (by omega)
    have := hw.1
    omega
  refine SW.seqW ⟨ofL [(3, rr M), (4, rc C), (5, ri L), (6, ri X), (7, .val (.int .i64 k)), (10, .optr 0 0), (11, .val (.bool (decide (0 < g))))], hp [(1, ⟨[.val (.int .i64 i), .val (.int .i64 b), .val (.int .i64 g)], true⟩), (0, ⟨[.val (.int .i64 i), .val (.int .i64 b), .val (.int .i64 g)], true⟩)] 2⟩ ?_ ?_
  · refine SW_of_vc Try.mixed _ _ _ (by kernel_rfl) ?_
    simp (disch := omega) only [Try.ntmps14, Try.results14, go_sem, Nat.reduceLT, Nat.reduceLeDiff, Nat.reduceEqDiff, Nat.reduceAdd, Nat.reduceSub, Nat.reduceMul, reduceIte, ↓reduceIte, reduceCtorEq, Int.reduceToNat, Int.reduceLE, Int.reduceLT, Int.reduceNeg, Int.reduceSub, Int.reduceAdd, Int.reduceMul, rby, rr_eq, rc, bne_self_eq_false, beq_self_eq_true]
    refine wp.callV 0 (viewL_cons_of (view_row) (viewL_cons_of (view_row) viewL_nil_of)) ?_
    simp (disch := omega) only [Try.ntmps14, Try.results14, go_sem, Nat.reduceLT, Nat.reduceLeDiff, Nat.reduceEqDiff, Nat.reduceAdd, Nat.reduceSub, Nat.reduceMul, reduceIte, ↓reduceIte, reduceCtorEq, Int.reduceToNat, Int.reduceLE, Int.reduceLT, Int.reduceNeg, Int.reduceSub, Int.reduceAdd, Int.reduceMul, rby, rr_eq, rc, bne_self_eq_false, beq_self_eq_true]
    refine wk.callV 0 (viewL_cons_of (view_row) (viewL_cons_of (view_row) viewL_nil_of)) ?_
    simp (disch := omega) only [Try.ntmps14, Try.results14, go_sem, Nat.reduceLT, Nat.reduceLeDiff, Nat.reduceEqDiff, Nat.reduceAdd, Nat.reduceSub, Nat.reduceMul, reduceIte, ↓reduceIte, reduceCtorEq, Int.reduceToNat, Int.reduceLE, Int.reduceLT, Int.reduceNeg, Int.reduceSub, Int.reduceAdd, Int.reduceMul, rby, rr_eq, rc, bne_self_eq_false, beq_self_eq_true]
    exact Wk.of (by simp only [go_sem, ↓List.forall_mem_cons, List.not_mem_nil, false_implies, implies_true, and_true, true_and, and_self, Nat.reduceEqDiff, reduceIte, ↓reduceIte, ri_eq, Int.natCast_add, Int.cast_ofNat_Int, rr_eq, rc]; try simp) rfl
  refine SW.seqW ⟨ofL [(3, rr M), (4, rc C), (5, ri L), (6, ri X), (7, .val (.int .i64 k))], hp [(1, ⟨[.val (.int .i64 i), .val (.int .i64 b), .val (.int .i64 g)], true⟩), (0, ⟨[.val (.int .i64 i), .val (.int .i64 b), .val (.int .i64 g)], true⟩)] 2⟩ ?_ ?_
  · by_cases hg : 0 < g
    · obtain ⟨g1, g2, g3, g4⟩ := hgo hcan hg
      have h1k := hone hcan hg
      have b0 : 0 ≤ pcost M L - g := by have := g3.1; omega
      have wm := Try.implMove_ok L i b hL (by omega)
      rw [g1] at wm
      have wg := Try.implGain_ok M L i b hM hR hL (by omega)
      rw [g2] at wg
      have hml := moveTo_length L i b
      have wz := Try.specPartitionCost_ok M (moveTo L i b) hM hR (by omega)
      rw [g4] at wz
      generalize moveTo L i b = Z at *
      refine SW_of_vc Try.mixed _ _ _ (by kernel_rfl) ?_
      simp (disch := omega) only [Try.ntmps14, Try.results14, go_sem, Nat.reduceLT, Nat.reduceLeDiff, Nat.reduceEqDiff, Nat.reduceAdd, Nat.reduceSub, Nat.reduceMul, reduceIte, ↓reduceIte, reduceCtorEq, Int.reduceToNat, Int.reduceLE, Int.reduceLT, Int.reduceNeg, Int.reduceSub, Int.reduceAdd, Int.reduceMul, rby, rr_eq, rc, bne_self_eq_false, beq_self_eq_true]
      refine wm.callV 0 (viewL_cons_of (view_row) (viewL_cons_of (view_int) (viewL_cons_of (view_int) viewL_nil_of))) ?_
      simp (disch := omega) only [Try.ntmps14, Try.results14, go_sem, Nat.reduceLT, Nat.reduceLeDiff, Nat.reduceEqDiff, Nat.reduceAdd, Nat.reduceSub, Nat.reduceMul, reduceIte, ↓reduceIte, reduceCtorEq, Int.reduceToNat, Int.reduceLE, Int.reduceLT, Int.reduceNeg, Int.reduceSub, Int.reduceAdd, Int.reduceMul, rby, rr_eq, rc, bne_self_eq_false, beq_self_eq_true]
      refine wg.callDV 0 (viewL_cons_of (view_row) (viewL_cons_of (view_row) (viewL_cons_of (view_int) (viewL_cons_of (view_int) viewL_nil_of)))) ?_
      simp (disch := omega) only [Try.ntmps14, Try.results14, go_sem, Nat.reduceLT, Nat.reduceLeDiff, Nat.reduceEqDiff, Nat.reduceAdd, Nat.reduceSub, Nat.reduceMul, reduceIte, ↓reduceIte, reduceCtorEq, Int.reduceToNat, Int.reduceLE, Int.reduceLT, Int.reduceNeg, Int.reduceSub, Int.reduceAdd, Int.reduceMul, rby, rr_eq, rc, bne_self_eq_false, beq_self_eq_true]
      refine wz.callDV 0 (viewL_cons_of (view_row) (viewL_cons_of (view_row) viewL_nil_of)) ?_
      simp (disch := omega) only [Try.ntmps14, Try.results14, go_sem, Nat.reduceLT, Nat.reduceLeDiff, Nat.reduceEqDiff, Nat.reduceAdd, Nat.reduceSub, Nat.reduceMul, reduceIte, ↓reduceIte, reduceCtorEq, Int.reduceToNat, Int.reduceLE, Int.reduceLT, Int.reduceNeg, Int.reduceSub, Int.reduceAdd, Int.reduceMul, rby, rr_eq, rc, bne_self_eq_false, beq_self_eq_true]
      refine wp.callDV 0 (viewL_cons_of (view_row) (viewL_cons_of (view_row) viewL_nil_of)) ?_
      simp (disch := omega) only [Try.ntmps14, Try.results14, go_sem, Nat.reduceLT, Nat.reduceLeDiff, Nat.reduceEqDiff, Nat.reduceAdd, Nat.reduceSub, Nat.reduceMul, reduceIte, ↓reduceIte, reduceCtorEq, Int.reduceToNat, Int.reduceLE, Int.reduceLT, Int.reduceNeg, Int.reduceSub, Int.reduceAdd, Int.reduceMul, rby, rr_eq, rc, bne_self_eq_false, beq_self_eq_true]
      exact Wk.of (by simp only [go_sem, ↓List.forall_mem_cons, List.not_mem_nil, false_implies, implies_true, and_true, true_and, and_self, Nat.reduceEqDiff, reduceIte, ↓reduceIte, ri_eq, Int.natCast_add, Int.cast_ofNat_Int, rr_eq, rc]; try simp) rfl
    · refine SW_of_vc Try.mixed _ _ _ (by kernel_rfl) ?_
      simp (disch := omega) only [Try.ntmps14, Try.results14, go_sem, Nat.reduceLT, Nat.reduceLeDiff, Nat.reduceEqDiff, Nat.reduceAdd, Nat.reduceSub, Nat.reduceMul, reduceIte, ↓reduceIte, reduceCtorEq, Int.reduceToNat, Int.reduceLE, Int.reduceLT, Int.reduceNeg, Int.reduceSub, Int.reduceAdd, Int.reduceMul, rby, rr_eq, rc, bne_self_eq_false, beq_self_eq_true]
      exact Wk.of (by simp only [go_sem, ↓List.forall_mem_cons, List.not_mem_nil, false_implies, implies_true, and_true, true_and, and_self, Nat.reduceEqDiff, reduceIte, ↓reduceIte, ri_eq, Int.natCast_add, Int.cast_ofNat_Int, rr_eq, rc]; try simp) rfl
  have wo := Try.specOpt_ok M C L hM hR hC hL
  refine SW.seqW ⟨ofL [(3, rr M), (4, rc C), (5, ri L), (6, ri X), (7, .val (.int .i64 k))], hp [(1, ⟨[.val (.int .i64 i), .val (.int .i64 b), .val (.int .i64 g)], true⟩), (0, ⟨[.val (.int .i64 i), .val (.int .i64 b), .val (.int .i64 g)], true⟩)] 2⟩ ?_ ?_
  · rcases Bool.eq_false_or_eq_true (isOpt M C L) with ho | ho
    · rw [ho] at wo
      rw [opt_lopt hcan ho] at w5
      refine SW_of_vc Try.mixed _ _ _ (by kernel_rfl) ?_
      simp (disch := omega) only [Try.ntmps14, Try.results14, go_sem, Nat.reduceLT, Nat.reduceLeDiff, Nat.reduceEqDiff, Nat.reduceAdd, Nat.reduceSub, Nat.reduceMul, reduceIte, ↓reduceIte, reduceCtorEq, Int.reduceToNat, Int.reduceLE, Int.reduceLT, Int.reduceNeg, Int.reduceSub, Int.reduceAdd, Int.reduceMul, rby, rr_eq, rc, bne_self_eq_false, beq_self_eq_true]
      refine wo.callV 0 (viewL_cons_of (view_row) (viewL_cons_of (view_row) (viewL_cons_of (view_row) viewL_nil_of))) ?_
      simp (disch := omega) only [Try.ntmps14, Try.results14, go_sem, Nat.reduceLT, Nat.reduceLeDiff, Nat.reduceEqDiff, Nat.reduceAdd, Nat.reduceSub, Nat.reduceMul, reduceIte, ↓reduceIte, reduceCtorEq, Int.reduceToNat, Int.reduceLE, Int.reduceLT, Int.reduceNeg, Int.reduceSub, Int.reduceAdd, Int.reduceMul, rby, rr_eq, rc, bne_self_eq_false, beq_self_eq_true]
      refine w5.callV 0 (viewL_cons_of (view_row) (viewL_cons_of (view_row) (viewL_cons_of (view_row) viewL_nil_of))) ?_
      simp (disch := omega) only [Try.ntmps14, Try.results14, go_sem, Nat.reduceLT, Nat.reduceLeDiff, Nat.reduceEqDiff, Nat.reduceAdd, Nat.reduceSub, Nat.reduceMul, reduceIte, ↓reduceIte, reduceCtorEq, Int.reduceToNat, Int.reduceLE, Int.reduceLT, Int.reduceNeg, Int.reduceSub, Int.reduceAdd, Int.reduceMul, rby, rr_eq, rc, bne_self_eq_false, beq_self_eq_true]
      exact Wk.of (by simp only [go_sem, ↓List.forall_mem_cons, List.not_mem_nil, false_implies, implies_true, and_true, true_and, and_self, Nat.reduceEqDiff, reduceIte, ↓reduceIte, ri_eq, Int.natCast_add, Int.cast_ofNat_Int, rr_eq, rc]; try simp) rfl
    · rw [ho] at wo
      refine SW_of_vc Try.mixed _ _ _ (by kernel_rfl) ?_
      simp (disch := omega) only [Try.ntmps14, Try.results14, go_sem, Nat.reduceLT, Nat.reduceLeDiff, Nat.reduceEqDiff, Nat.reduceAdd, Nat.reduceSub, Nat.reduceMul, reduceIte, ↓reduceIte, reduceCtorEq, Int.reduceToNat, Int.reduceLE, Int.reduceLT, Int.reduceNeg, Int.reduceSub, Int.reduceAdd, Int.reduceMul, rby, rr_eq, rc, bne_self_eq_false, beq_self_eq_true]
      refine wo.callV 0 (viewL_cons_of (view_row) (viewL_cons_of (view_row) (viewL_cons_of (view_row) viewL_nil_of))) ?_
      simp (disch := omega) only [Try.ntmps14, Try.results14, go_sem, Nat.reduceLT, Nat.reduceLeDiff, Nat.reduceEqDiff, Nat.reduceAdd, Nat.reduceSub, Nat.reduceMul, reduceIte, ↓reduceIte, reduceCtorEq, Int.reduceToNat, Int.reduceLE, Int.reduceLT, Int.reduceNeg, Int.reduceSub, Int.reduceAdd, Int.reduceMul, rby, rr_eq, rc, bne_self_eq_false, beq_self_eq_true]
      exact Wk.of (by simp only [go_sem, ↓List.forall_mem_cons, List.not_mem_nil, false_implies, implies_true, and_true, true_and, and_self, Nat.reduceEqDiff, reduceIte, ↓reduceIte, ri_eq, Int.natCast_add, Int.cast_ofNat_Int, rr_eq, rc]; try simp) rfl
  have wX := Try.implPartitionCost_ok M X hM hR (by omega)
  have wkX := Try.implKeepsConstraints_ok X C (by omega) hC
  have woX := Try.implLO_ok M C X hM hR hC (by omega)
  obtain ⟨_, hptX, _, hpX⟩ := canM_r f1
  rw [hptX, f1.2, Bool.true_and] at wkX
  have q0 := f1.1
  by_cases hk : k = 100
  · refine SW_of_vc Try.mixed _ _ _ (by kernel_rfl) ?_
    simp (disch := omega) only [Try.ntmps14, Try.results14, go_sem, Nat.reduceLT, Nat.reduceLeDiff, Nat.reduceEqDiff, Nat.reduceAdd, Nat.reduceSub, Nat.reduceMul, reduceIte, ↓reduceIte, reduceCtorEq, Int.reduceToNat, Int.reduceLE, Int.reduceLT, Int.reduceNeg, Int.reduceSub, Int.reduceAdd, Int.reduceMul, rby, rr_eq, rc, bne_self_eq_false, beq_self_eq_true]
    refine wX.callV 0 (viewL_cons_of (view_row) (viewL_cons_of (view_row) viewL_nil_of)) ?_
    simp (disch := omega) only [Try.ntmps14, Try.results14, go_sem, Nat.reduceLT, Nat.reduceLeDiff, Nat.reduceEqDiff, Nat.reduceAdd, Nat.reduceSub, Nat.reduceMul, reduceIte, ↓reduceIte, reduceCtorEq, Int.reduceToNat, Int.reduceLE, Int.reduceLT, Int.reduceNeg, Int.reduceSub, Int.reduceAdd, Int.reduceMul, rby, rr_eq, rc, bne_self_eq_false, beq_self_eq_true]
    refine wp.callV 0 (viewL_cons_of (view_row) (viewL_cons_of (view_row) viewL_nil_of)) ?_
    simp (disch := omega) only [Try.ntmps14, Try.results14, go_sem, Nat.reduceLT, Nat.reduceLeDiff, Nat.reduceEqDiff, Nat.reduceAdd, Nat.reduceSub, Nat.reduceMul, reduceIte, ↓reduceIte, reduceCtorEq, Int.reduceToNat, Int.reduceLE, Int.reduceLT, Int.reduceNeg, Int.reduceSub, Int.reduceAdd, Int.reduceMul, rby, rr_eq, rc, bne_self_eq_false, beq_self_eq_true]
    refine wkX.callV 0 (viewL_cons_of (view_row) (viewL_cons_of (view_row) viewL_nil_of)) ?_
    simp (disch := omega) only [Try.ntmps14, Try.results14, go_sem, Nat.reduceLT, Nat.reduceLeDiff, Nat.reduceEqDiff, Nat.reduceAdd, Nat.reduceSub, Nat.reduceMul, reduceIte, ↓reduceIte, reduceCtorEq, Int.reduceToNat, Int.reduceLE, Int.reduceLT, Int.reduceNeg, Int.reduceSub, Int.reduceAdd, Int.reduceMul, rby, rr_eq, rc, bne_self_eq_false, beq_self_eq_true]
    exact Fin.val rfl
  · rw [lopt_im f1 (f4.resolve_left (by omega))] at woX
    refine SW_of_vc Try.mixed _ _ _ (by kernel_rfl) ?_
    simp (disch := omega) only [Try.ntmps14, Try.results14, go_sem, Nat.reduceLT, Nat.reduceLeDiff, Nat.reduceEqDiff, Nat.reduceAdd, Nat.reduceSub, Nat.reduceMul, reduceIte, ↓reduceIte, reduceCtorEq, Int.reduceToNat, Int.reduceLE, Int.reduceLT, Int.reduceNeg, Int.reduceSub, Int.reduceAdd, Int.reduceMul, rby, rr_eq, rc, bne_self_eq_false, beq_self_eq_true]
    refine wX.callV 0 (viewL_cons_of (view_row) (viewL_cons_of (view_row) viewL_nil_of)) ?_
    simp (disch := omega) only [Try.ntmps14, Try.results14, go_sem, Nat.reduceLT, Nat.reduceLeDiff, Nat.reduceEqDiff, Nat.reduceAdd, Nat.reduceSub, Nat.reduceMul, reduceIte, ↓reduceIte, reduceCtorEq, Int.reduceToNat, Int.reduceLE, Int.reduceLT, Int.reduceNeg, Int.reduceSub, Int.reduceAdd, Int.reduceMul, rby, rr_eq, rc, bne_self_eq_false, beq_self_eq_true]
    refine wp.callV 0 (viewL_cons_of (view_row) (viewL_cons_of (view_row) viewL_nil_of)) ?_
    simp (disch := omega) only [Try.ntmps14, Try.results14, go_sem, Nat.reduceLT, Nat.reduceLeDiff, Nat.reduceEqDiff, Nat.reduceAdd, Nat.reduceSub, Nat.reduceMul, reduceIte, ↓reduceIte, reduceCtorEq, Int.reduceToNat, Int.reduceLE, Int.reduceLT, Int.reduceNeg, Int.reduceSub, Int.reduceAdd, Int.reduceMul, rby, rr_eq, rc, bne_self_eq_false, beq_self_eq_true]
    refine wkX.callV 0 (viewL_cons_of (view_row) (viewL_cons_of (view_row) viewL_nil_of)) ?_
    simp (disch := omega) only [Try.ntmps14, Try.results14, go_sem, Nat.reduceLT, Nat.reduceLeDiff, Nat.reduceEqDiff, Nat.reduceAdd, Nat.reduceSub, Nat.reduceMul, reduceIte, ↓reduceIte, reduceCtorEq, Int.reduceToNat, Int.reduceLE, Int.reduceLT, Int.reduceNeg, Int.reduceSub, Int.reduceAdd, Int.reduceMul, rby, rr_eq, rc, bne_self_eq_false, beq_self_eq_true]
    refine woX.callV 0 (viewL_cons_of (view_row) (viewL_cons_of (view_row) (viewL_cons_of (view_row) viewL_nil_of))) ?_
    simp (disch := omega) only [Try.ntmps14, Try.results14, go_sem, Nat.reduceLT, Nat.reduceLeDiff, Nat.reduceEqDiff, Nat.reduceAdd, Nat.reduceSub, Nat.reduceMul, reduceIte, ↓reduceIte, reduceCtorEq, Int.reduceToNat, Int.reduceLE, Int.reduceLT, Int.reduceNeg, Int.reduceSub, Int.reduceAdd, Int.reduceMul, rby, rr_eq, rc, bne_self_eq_false, beq_self_eq_true]
    exact Fin.val rfl
end Go.Sh

/-
  From the values that came in to the shadow's: bytes.
-/
namespace Go.Sh
set_option linter.unusedSimpArgs false
set_option linter.unusedVariables false
open Go Go.RowKit
open Go.ChangeShapes Go.WideShapes

theorem crel_bys {O : Nat → Prop} {w : World} : ∀ (L : List Int) (x : Addr), (L ≠ [] → ¬ O x.block) → (∀ i, i < L.length → w.cell? (x.add i) = some (.int .u8 (L.getD i 0))) → CRel O w (bys L) x
  | [], x, _, _ => by simp only [bys, List.map_nil, CRel]
  | n :: L, x, hO, h => by
    have h0 := h 0 (by simp)
    rw [Addr.add_zero'] at h0
    have hs : x.spot = none := World.cell?_spot h0
    have e : bys (n :: L) = .val (.int .u8 n) :: bys L := rfl
    rw [e]
    simp only [CRel]
    refine ⟨hs, hO (by simp), ⟨_, h0, by simp [VRel]⟩, crel_bys L ⟨x.block, x.off + 1, none⟩ (fun _ => hO (by simp)) (fun i hi => ?_)⟩
    have := h (i + 1) (by simpa using hi)
    have e2 : (⟨x.block, x.off + 1, none⟩ : Addr).add i = x.add (i + 1) := by
      rw [Addr.add_lit, Addr.add_succ']
      simp [Nat.add_assoc, Nat.add_comm 1 i]
    rw [e2, this]
    simp
theorem isRow_bys {w : World} {a : Option Addr} {len cap : Nat} {zs : List Int} (h : IsRow .u8 w a len cap zs) : VRel (fun _ => False) w noj (rby (zs.take len)) (.slice a len cap) := by
  rcases h with ⟨rfl, rfl, rfl, rfl⟩ | ⟨x, rfl, h1, h2, h3, h4, h5⟩
  · simp only [rby, VRel]
    exact ⟨none, 0, rfl, Nat.le_refl _, by simp, .inl (by simp [bys])⟩
  · have hl : (zs.take len).length = len := by simp; omega
    simp only [rby, VRel]
    refine ⟨some x, cap, by rw [hl], by omega, by simp, .inr ⟨x, rfl, crel_bys _ x (fun _ h => h) (fun i hi => ?_)⟩⟩
    have hi' : i < len := by rw [hl] at hi; exact hi
    rw [h4 i (by omega)]
    congr 2
    simp [List.getD, hi']
theorem cell_bys {Hh : Type} {enc : TypeId × Value → Hh} {P : Program} {w : World} {held : Bool} {t e : TypeId} {fuel : Nat} {v : Value} {x : DataW Hh × List MemPlace} (ht : P.underlying t = some (.slice e)) (he : P.underlying e = some (.int .u8)) (hc : P.cellsOf e = 1)
    (h : DataW.trod enc P w 0 (fun _ => true) held fuel t [v] = some x) : ∃ L : List Int, VRel (fun _ => False) w noj (rby L) v ∧ L.length ≤ maxLen := by
  rcases open_ints ht he hc h with ⟨hcs, _⟩ | ⟨a, l, c, zs, hcs, _, hl, hm, hz, _, hcell, hwz⟩
  · simp at hcs
    subst hcs
    exact ⟨[], isRow_bys (zs := []) (.inl ⟨rfl, rfl, rfl, rfl⟩), by simp⟩
  · simp at hcs
    subst hcs
    exact ⟨zs.take l, isRow_bys (.inr ⟨_, rfl, hl, hm, by simpa using hz, hcell, hwz⟩), by simp; omega⟩
end Go.Sh
