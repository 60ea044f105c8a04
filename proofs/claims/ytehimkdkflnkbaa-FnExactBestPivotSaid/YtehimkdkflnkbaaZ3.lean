/-
  Contracts: pivots, of the reference; both as one.
-/
import Derived.Test.YtehimkdkflnkbaaZ2
import Derived.Test.YtehimkdkflnkbaaN3
namespace Go.Sh
set_option linter.unusedSimpArgs false
set_option linter.unusedVariables false
open Go Go.Proofs

def pvk (M : List (List Int)) (Q : List Int) (p i k : Nat) : List Int := gen M.length fun x => if x < k ∧ Q.getD x 0 < 0 ∧ (x = p ∨ 0 < mat M p x) then (i : Int) else Q.getD x 0
theorem pvk_zero {M : List (List Int)} {Q : List Int} {p i : Nat} (hl : Q.length = M.length) : pvk M Q p i 0 = Q := by
  rw [pvk, gen_self hl]
  refine gen_congr fun x hx => ?_
  rw [if_neg (by omega), gen_at hx]
theorem pvk_self {M : List (List Int)} {Q : List Int} {p i k : Nat} (h : k < M.length) : (pvk M Q p i k).getD k 0 = Q.getD k 0 := by rw [pvk, gen_at h, if_neg (by omega)]
theorem pvk_put {M : List (List Int)} {Q : List Int} {p i k : Nat} (hk : k < M.length) (h : Q.getD k 0 < 0 ∧ (k = p ∨ 0 < mat M p k)) : (pvk M Q p i k).set k i = pvk M Q p i (k + 1) := by
  rw [pvk, gen_set hk, pvk]
  refine gen_congr fun x hx => ?_
  by_cases e : x = k
  · subst e; rw [if_pos rfl, if_pos ⟨by omega, h⟩]
  · rw [if_neg e]
    by_cases hc : x < k ∧ Q.getD x 0 < 0 ∧ (x = p ∨ 0 < mat M p x)
    · rw [if_pos hc, if_pos ⟨by omega, hc.2⟩]
    · rw [if_neg hc, if_neg (fun g => hc ⟨by omega, g.2⟩)]
theorem pvk_skip {M : List (List Int)} {Q : List Int} {p i k : Nat} (h : ¬ (Q.getD k 0 < 0 ∧ (k = p ∨ 0 < mat M p k))) : pvk M Q p i k = pvk M Q p i (k + 1) := by
  refine gen_congr fun x hx => ?_
  by_cases e : x = k
  · subst e; rw [if_neg (by omega), if_neg (fun g => h g.2)]
  · by_cases hc : x < k ∧ Q.getD x 0 < 0 ∧ (x = p ∨ 0 < mat M p x)
    · rw [if_pos hc, if_pos ⟨by omega, hc.2⟩]
    · rw [if_neg hc, if_neg (fun g => hc ⟨by omega, g.2⟩)]
theorem pvk_all {M : List (List Int)} {Q : List Int} {p i : Nat} : pvk M Q p i M.length = gen M.length fun x => if Q.getD x 0 < 0 ∧ (x = p ∨ 0 < mat M p x) then (i : Int) else Q.getD x 0 := by
  refine gen_congr fun x hx => ?_
  by_cases hc : Q.getD x 0 < 0 ∧ (x = p ∨ 0 < mat M p x)
  · rw [if_pos hc, if_pos ⟨hx, hc⟩]
  · rw [if_neg hc, if_neg (fun g => hc g.2)]

set_option maxRecDepth 20000 in
set_option maxHeartbeats 8000000 in
theorem Try.specPiv_f (M : List (List Int)) (O : List Int) (hM : M.length ≤ 1048576) (hR : ∀ i, i < M.length → (mrow M i).length ≤ 1048576) (hO : O.length ≤ 1048576) (h : WM M ∧ isOrd M.length O = true) : FCall Try.prog 83 [rr M, ri O] (FlatRes M.length 1 (ints (piv M O))) := by
  obtain ⟨hw, hord⟩ := h
  obtain ⟨h1, h2, h3, h4⟩ := ord_t hord
  have w1 := Try.specIsWM_ok M hM hR
  rw [isWM_t hw] at w1
  have w2 := Try.specIsOrder_ok M.length O hO (by omega) (by omega)
  rw [hord] at w2
  have hpl : ∀ i, (pv M O i).length = M.length := pv_length M O
  have w4 := (Try.specCanon_f (pv M O O.length) (by rw [hpl]; omega)).one
  rw [hpl, ← piv_t ⟨hw, hord⟩] at w4
  refine FCall.of_body Try.func83 rfl (by kernel_rfl) (by simp [Try.ntmps83]) ?_
  refine SW_of_vc Try.mixed _ _ _ (by kernel_rfl) ?_
  simp (disch := omega) only [Try.ntmps83, Try.results83, go_sem, Nat.reduceLT, Nat.reduceLeDiff, Nat.reduceEqDiff, Nat.reduceAdd, Nat.reduceSub, Nat.reduceMul, reduceIte, ↓reduceIte, reduceCtorEq, Int.reduceToNat, Int.reduceLE, Int.reduceLT, Int.reduceNeg, Int.reduceSub, Int.reduceAdd, Int.reduceMul, rr_eq]
  refine w1.callV 0 (viewL_cons_of (view_row) viewL_nil_of) ?_
  simp (disch := omega) only [Try.ntmps83, Try.results83, go_sem, Nat.reduceLT, Nat.reduceLeDiff, Nat.reduceEqDiff, Nat.reduceAdd, Nat.reduceSub, Nat.reduceMul, reduceIte, ↓reduceIte, reduceCtorEq, Int.reduceToNat, Int.reduceLE, Int.reduceLT, Int.reduceNeg, Int.reduceSub, Int.reduceAdd, Int.reduceMul, rr_eq]
  refine w2.callV 0 (viewL_cons_of (view_int) (viewL_cons_of (view_rowL (by first | rfl | simp [marks_length, canon_length] | omega)) viewL_nil_of)) ?_
  simp (disch := omega) only [Try.ntmps83, Try.results83, go_sem, Nat.reduceLT, Nat.reduceLeDiff, Nat.reduceEqDiff, Nat.reduceAdd, Nat.reduceSub, Nat.reduceMul, reduceIte, ↓reduceIte, reduceCtorEq, Int.reduceToNat, Int.reduceLE, Int.reduceLT, Int.reduceNeg, Int.reduceSub, Int.reduceAdd, Int.reduceMul, rr_eq]
  refine LoopW.loop (fun p : Nat × Nat × Nat => ⟨ofL [(0, rr M), (1, ri O), (5, .own p.2.1 0 p.1 p.1 1 false), (6, .val (.int .i64 p.1))], hp [(p.2.1, ⟨ints (List.replicate p.1 (-1)), false⟩)] p.2.2⟩) (fun p => p.1 ≤ M.length ∧ p.2.1 < p.2.2) (fun p => M.length - p.1) (0, 0, 1) ⟨by simp, by simp⟩
    (Wk.ofH (by simp only [go_sem, ↓List.forall_mem_cons, List.not_mem_nil, false_implies, implies_true, and_true, true_and, and_self, Nat.reduceEqDiff, reduceIte, ↓reduceIte, ri_eq, Int.natCast_add, Int.cast_ofNat_Int, rr_eq]; try simp) (by simp (disch := omega) only [go_sem, ↓List.forall_mem_cons, List.not_mem_nil, false_implies, implies_true, and_true, true_and, and_self, Nat.reduceEqDiff, reduceIte, ↓reduceIte, ri_eq, Int.natCast_add, Int.cast_ofNat_Int, if_pos, if_neg, Nat.reduceAdd, List.nil_append, List.replicate_zero, ints_nil]; try simp) (by simp [hp])) ?_
  rintro ⟨k, b, nb⟩ ⟨hk, hb⟩
  simp only at hk hb
  refine SW_of_vc Try.mixed _ _ _ (by kernel_rfl) ?_
  by_cases hlt : k < M.length
  · have hl := rep_snoc k (-1)
    have ht : (ints (List.replicate k (-1))).take k = ints (List.replicate k (-1)) := ints_take_of (by simp)
    simp (disch := omega) only [Try.ntmps83, Try.results83, go_sem, Nat.reduceLT, Nat.reduceLeDiff, Nat.reduceEqDiff, Nat.reduceAdd, Nat.reduceSub, Nat.reduceMul, reduceIte, ↓reduceIte, reduceCtorEq, Int.reduceToNat, Int.reduceLE, Int.reduceLT, Int.reduceNeg, Int.reduceSub, Int.reduceAdd, Int.reduceMul, rr_eq, List.length_replicate, ht]
    refine ⟨(k + 1, nb + 1, nb + 1 + 1), ⟨hlt, by simp⟩, by show M.length - (k + 1) < M.length - k; omega, ?_⟩
    exact Wk.ofH (by simp only [go_sem, ↓List.forall_mem_cons, List.not_mem_nil, false_implies, implies_true, and_true, true_and, and_self, Nat.reduceEqDiff, reduceIte, ↓reduceIte, ri_eq, Int.natCast_add, Int.cast_ofNat_Int, rr_eq]; try simp) (by simp (disch := omega) only [go_sem, ↓List.forall_mem_cons, List.not_mem_nil, false_implies, implies_true, and_true, true_and, and_self, Nat.reduceEqDiff, reduceIte, ↓reduceIte, ri_eq, Int.natCast_add, Int.cast_ofNat_Int, if_pos, if_neg, Nat.reduceAdd, List.nil_append, hl]; try simp) (by simp [hp])
  obtain rfl : k = M.length := by omega
  simp (disch := omega) only [Try.ntmps83, Try.results83, go_sem, Nat.reduceLT, Nat.reduceLeDiff, Nat.reduceEqDiff, Nat.reduceAdd, Nat.reduceSub, Nat.reduceMul, reduceIte, ↓reduceIte, reduceCtorEq, Int.reduceToNat, Int.reduceLE, Int.reduceLT, Int.reduceNeg, Int.reduceSub, Int.reduceAdd, Int.reduceMul, rr_eq]
  refine LoopW.loop (fun i : Nat => ⟨ofL [(0, rr M), (1, ri O), (5, .own b 0 M.length M.length 1 false), (7, .val (.int .i64 i))], hp [(b, ⟨ints (pv M O i), false⟩)] nb⟩) (fun i => i ≤ O.length) (fun i => O.length - i) 0 (by omega)
    (Wk.ofH (by simp only [go_sem, ↓List.forall_mem_cons, List.not_mem_nil, false_implies, implies_true, and_true, true_and, and_self, Nat.reduceEqDiff, reduceIte, ↓reduceIte, ri_eq, Int.natCast_add, Int.cast_ofNat_Int, rr_eq]; try simp) (by simp (disch := omega) only [go_sem, ↓List.forall_mem_cons, List.not_mem_nil, false_implies, implies_true, and_true, true_and, and_self, Nat.reduceEqDiff, reduceIte, ↓reduceIte, ri_eq, Int.natCast_add, Int.cast_ofNat_Int, if_pos, if_neg, Nat.reduceAdd, List.nil_append, pv]; try simp) (Nat.le_refl _)) ?_
  intro i hi
  have hl := hpl i
  refine SW_of_vc Try.mixed _ _ _ (by kernel_rfl) ?_
  by_cases hlti : i < O.length
  case neg =>
    obtain rfl : i = O.length := by omega
    simp (disch := omega) only [Try.ntmps83, Try.results83, go_sem, Nat.reduceLT, Nat.reduceLeDiff, Nat.reduceEqDiff, Nat.reduceAdd, Nat.reduceSub, Nat.reduceMul, reduceIte, ↓reduceIte, reduceCtorEq, Int.reduceToNat, Int.reduceLE, Int.reduceLT, Int.reduceNeg, Int.reduceSub, Int.reduceAdd, Int.reduceMul, rr_eq]
    refine w4.callOne (ints_vals _) 1 (viewL_cons_of (view_own (e2 := false) (by rw [hp_map, hmap_cons, if_pos rfl]) hl.symm) viewL_nil_of) ?_
    simp (disch := omega) only [Try.ntmps83, Try.results83, go_sem, Nat.reduceLT, Nat.reduceLeDiff, Nat.reduceEqDiff, Nat.reduceAdd, Nat.reduceSub, Nat.reduceMul, reduceIte, ↓reduceIte, reduceCtorEq, Int.reduceToNat, Int.reduceLE, Int.reduceLT, Int.reduceNeg, Int.reduceSub, Int.reduceAdd, Int.reduceMul, rr_eq]
    exact fin_ints (piv_length ⟨hw, hord⟩).symm (by rw [hp_map, hmap_cons, if_pos rfl])
  obtain ⟨p, hpp⟩ := Int.eq_ofNat_of_zero_le (h3 i hlti).1
  have hpM : p < M.length := by have := (h3 i hlti).2; omega
  have g1 := ints_get hlti
  rw [hpp] at g1
  have g2 : (ints (pv M O i))[p]? = some (.val (.int .i64 ((pv M O i).getD p 0))) := ints_get' hl hpM
  by_cases hs : 0 ≤ (pv M O i).getD p 0
  · have hskip := pv_skip (M := M) hpp hs
    generalize (pv M O i).getD p 0 = v at *
    simp (disch := omega) only [Try.ntmps83, Try.results83, go_sem, Nat.reduceLT, Nat.reduceLeDiff, Nat.reduceEqDiff, Nat.reduceAdd, Nat.reduceSub, Nat.reduceMul, reduceIte, ↓reduceIte, reduceCtorEq, Int.reduceToNat, Int.reduceLE, Int.reduceLT, Int.reduceNeg, Int.reduceSub, Int.reduceAdd, Int.reduceMul, rr_eq, g1, g2, hl]
    exact ⟨i + 1, hlti, by omega, Wk.ofH (by simp only [go_sem, ↓List.forall_mem_cons, List.not_mem_nil, false_implies, implies_true, and_true, true_and, and_self, Nat.reduceEqDiff, reduceIte, ↓reduceIte, ri_eq, Int.natCast_add, Int.cast_ofNat_Int, rr_eq]; try simp) (by simp (disch := omega) only [go_sem, ↓List.forall_mem_cons, List.not_mem_nil, false_implies, implies_true, and_true, true_and, and_self, Nat.reduceEqDiff, reduceIte, ↓reduceIte, ri_eq, Int.natCast_add, Int.cast_ofNat_Int, if_pos, if_neg, Nat.reduceAdd, List.nil_append, hskip]; try simp) (Nat.le_refl _)⟩
  · have hend := pvk_all (M := M) (Q := pv M O i) (p := p) (i := i)
    rw [← pv_step hpp (by omega)] at hend
    have hz := pvk_zero (p := p) (i := i) hl
    have hrp := hw.2.1 p hpM
    have hkl : ∀ k, (pvk M (pv M O i) p i k).length = M.length := fun k => gen_length _ _
    have hks := fun k hk => pvk_self (Q := pv M O i) (p := p) (i := i) (k := k) (M := M) hk
    generalize hv : (pv M O i).getD p 0 = v at *
    simp (disch := omega) only [Try.ntmps83, Try.results83, go_sem, Nat.reduceLT, Nat.reduceLeDiff, Nat.reduceEqDiff, Nat.reduceAdd, Nat.reduceSub, Nat.reduceMul, reduceIte, ↓reduceIte, reduceCtorEq, Int.reduceToNat, Int.reduceLE, Int.reduceLT, Int.reduceNeg, Int.reduceSub, Int.reduceAdd, Int.reduceMul, rr_eq, g1, g2, hl]
    refine LoopW.loop (fun k : Nat => ⟨ofL [(0, rr M), (1, ri O), (5, .own b 0 M.length M.length 1 false), (7, .val (.int .i64 i)), (8, .val (.int .i64 p)), (9, .val (.int .i64 k))], hp [(b, ⟨ints (pvk M (pv M O i) p i k), false⟩)] nb⟩) (fun k => k ≤ M.length) (fun k => M.length - k) 0 (by omega)
      (Wk.ofH (by simp only [go_sem, ↓List.forall_mem_cons, List.not_mem_nil, false_implies, implies_true, and_true, true_and, and_self, Nat.reduceEqDiff, reduceIte, ↓reduceIte, ri_eq, Int.natCast_add, Int.cast_ofNat_Int, rr_eq]; try simp) (by simp (disch := omega) only [go_sem, ↓List.forall_mem_cons, List.not_mem_nil, false_implies, implies_true, and_true, true_and, and_self, Nat.reduceEqDiff, reduceIte, ↓reduceIte, ri_eq, Int.natCast_add, Int.cast_ofNat_Int, if_pos, if_neg, Nat.reduceAdd, List.nil_append, hz]; try simp) (Nat.le_refl _)) ?_
    clear g2 hl hv
    intro k hk
    have hl := hkl k
    refine SW_of_vc Try.mixed _ _ _ (by kernel_rfl) ?_
    by_cases hlk : k < M.length
    · have g3 : (ints (mrow M p))[k]? = some (.val (.int .i64 (mat M p k))) := ints_get' hrp hlk
      have g4 : (ints (pvk M (pv M O i) p i k))[k]? = some (.val (.int .i64 ((pvk M (pv M O i) p i k).getD k 0))) := ints_get' hl hlk
      rw [hks k hlk] at g4
      have hput := pvk_put (Q := pv M O i) (p := p) (i := i) hlk
      have hsk := pvk_skip (M := M) (Q := pv M O i) (p := p) (i := i) (k := k)
      clear hks hkl hend hz
      generalize (pv M O i).getD k 0 = u at *
      by_cases e1 : u < 0
      · by_cases e2 : k = p
        · have hput := hput ⟨e1, .inl e2⟩
          simp (disch := omega) only [Try.ntmps83, Try.results83, go_sem, Nat.reduceLT, Nat.reduceLeDiff, Nat.reduceEqDiff, Nat.reduceAdd, Nat.reduceSub, Nat.reduceMul, reduceIte, ↓reduceIte, reduceCtorEq, Int.reduceToNat, Int.reduceLE, Int.reduceLT, Int.reduceNeg, Int.reduceSub, Int.reduceAdd, Int.reduceMul, rr_eq, g4, hl, hput]
          exact ⟨k + 1, hlk, by omega, Wk.ofH (by simp only [go_sem, ↓List.forall_mem_cons, List.not_mem_nil, false_implies, implies_true, and_true, true_and, and_self, Nat.reduceEqDiff, reduceIte, ↓reduceIte, ri_eq, Int.natCast_add, Int.cast_ofNat_Int, rr_eq]; try simp) (by simp (disch := omega) only [go_sem, ↓List.forall_mem_cons, List.not_mem_nil, false_implies, implies_true, and_true, true_and, and_self, Nat.reduceEqDiff, reduceIte, ↓reduceIte, ri_eq, Int.natCast_add, Int.cast_ofNat_Int, if_pos, if_neg, Nat.reduceAdd, List.nil_append]; try simp) (Nat.le_refl _)⟩
        · by_cases e3 : 0 < mat M p k
          · have hput := hput ⟨e1, .inr e3⟩
            generalize mat M p k = mm at *
            simp (disch := omega) only [Try.ntmps83, Try.results83, go_sem, Nat.reduceLT, Nat.reduceLeDiff, Nat.reduceEqDiff, Nat.reduceAdd, Nat.reduceSub, Nat.reduceMul, reduceIte, ↓reduceIte, reduceCtorEq, Int.reduceToNat, Int.reduceLE, Int.reduceLT, Int.reduceNeg, Int.reduceSub, Int.reduceAdd, Int.reduceMul, rr_eq, g3, g4, hl, hput, rows_get, hrp]
            exact ⟨k + 1, hlk, by omega, Wk.ofH (by simp only [go_sem, ↓List.forall_mem_cons, List.not_mem_nil, false_implies, implies_true, and_true, true_and, and_self, Nat.reduceEqDiff, reduceIte, ↓reduceIte, ri_eq, Int.natCast_add, Int.cast_ofNat_Int, rr_eq]; try simp) (by simp (disch := omega) only [go_sem, ↓List.forall_mem_cons, List.not_mem_nil, false_implies, implies_true, and_true, true_and, and_self, Nat.reduceEqDiff, reduceIte, ↓reduceIte, ri_eq, Int.natCast_add, Int.cast_ofNat_Int, if_pos, if_neg, Nat.reduceAdd, List.nil_append]; try simp) (Nat.le_refl _)⟩
          · have hsk := hsk (fun g => g.2.elim e2 e3)
            generalize mat M p k = mm at *
            simp (disch := omega) only [Try.ntmps83, Try.results83, go_sem, Nat.reduceLT, Nat.reduceLeDiff, Nat.reduceEqDiff, Nat.reduceAdd, Nat.reduceSub, Nat.reduceMul, reduceIte, ↓reduceIte, reduceCtorEq, Int.reduceToNat, Int.reduceLE, Int.reduceLT, Int.reduceNeg, Int.reduceSub, Int.reduceAdd, Int.reduceMul, rr_eq, g3, g4, hl, rows_get, hrp]
            exact ⟨k + 1, hlk, by omega, Wk.ofH (by simp only [go_sem, ↓List.forall_mem_cons, List.not_mem_nil, false_implies, implies_true, and_true, true_and, and_self, Nat.reduceEqDiff, reduceIte, ↓reduceIte, ri_eq, Int.natCast_add, Int.cast_ofNat_Int, rr_eq]; try simp) (by simp (disch := omega) only [go_sem, ↓List.forall_mem_cons, List.not_mem_nil, false_implies, implies_true, and_true, true_and, and_self, Nat.reduceEqDiff, reduceIte, ↓reduceIte, ri_eq, Int.natCast_add, Int.cast_ofNat_Int, if_pos, if_neg, Nat.reduceAdd, List.nil_append, ← hsk]; try simp) (Nat.le_refl _)⟩
      · have hsk := hsk (fun g => e1 g.1)
        simp (disch := omega) only [Try.ntmps83, Try.results83, go_sem, Nat.reduceLT, Nat.reduceLeDiff, Nat.reduceEqDiff, Nat.reduceAdd, Nat.reduceSub, Nat.reduceMul, reduceIte, ↓reduceIte, reduceCtorEq, Int.reduceToNat, Int.reduceLE, Int.reduceLT, Int.reduceNeg, Int.reduceSub, Int.reduceAdd, Int.reduceMul, rr_eq, g4, hl]
        exact ⟨k + 1, hlk, by omega, Wk.ofH (by simp only [go_sem, ↓List.forall_mem_cons, List.not_mem_nil, false_implies, implies_true, and_true, true_and, and_self, Nat.reduceEqDiff, reduceIte, ↓reduceIte, ri_eq, Int.natCast_add, Int.cast_ofNat_Int, rr_eq]; try simp) (by simp (disch := omega) only [go_sem, ↓List.forall_mem_cons, List.not_mem_nil, false_implies, implies_true, and_true, true_and, and_self, Nat.reduceEqDiff, reduceIte, ↓reduceIte, ri_eq, Int.natCast_add, Int.cast_ofNat_Int, if_pos, if_neg, Nat.reduceAdd, List.nil_append, ← hsk]; try simp) (Nat.le_refl _)⟩
    · obtain rfl : k = M.length := by omega
      rw [hend]
      simp (disch := omega) only [Try.ntmps83, Try.results83, go_sem, Nat.reduceLT, Nat.reduceLeDiff, Nat.reduceEqDiff, Nat.reduceAdd, Nat.reduceSub, Nat.reduceMul, reduceIte, ↓reduceIte, reduceCtorEq, Int.reduceToNat, Int.reduceLE, Int.reduceLT, Int.reduceNeg, Int.reduceSub, Int.reduceAdd, Int.reduceMul, rr_eq]
      exact ⟨i + 1, hlti, by omega, Wk.ofH (by simp only [go_sem, ↓List.forall_mem_cons, List.not_mem_nil, false_implies, implies_true, and_true, true_and, and_self, Nat.reduceEqDiff, reduceIte, ↓reduceIte, ri_eq, Int.natCast_add, Int.cast_ofNat_Int, rr_eq]; try simp) (by simp (disch := omega) only [go_sem, ↓List.forall_mem_cons, List.not_mem_nil, false_implies, implies_true, and_true, true_and, and_self, Nat.reduceEqDiff, reduceIte, ↓reduceIte, ri_eq, Int.natCast_add, Int.cast_ofNat_Int, if_pos, if_neg, Nat.reduceAdd, List.nil_append]; try simp) (Nat.le_refl _)⟩
theorem Try.specPiv_not (M : List (List Int)) (O : List Int) (hM : M.length ≤ 1048576) (hR : ∀ i, i < M.length → (mrow M i).length ≤ 1048576) (hO : O.length ≤ 1048576) (h : ¬ (WM M ∧ isOrd M.length O = true)) : FCall Try.prog 83 [rr M, ri O] (FlatRes 0 1 (ints [])) := by
  have w1 := Try.specIsWM_ok M hM hR
  refine FCall.of_body Try.func83 rfl (by kernel_rfl) (by simp [Try.ntmps83]) ?_
  refine SW_of_vc Try.mixed _ _ _ (by kernel_rfl) ?_
  by_cases hw : WM M
  · have w2 := Try.specIsOrder_ok M.length O hO (by omega) (by omega)
    have hn : isOrd M.length O = false := by
      rcases Bool.eq_false_or_eq_true (isOrd M.length O) with g | g
      · exact absurd ⟨hw, g⟩ h
      · exact g
    rw [hn] at w2
    rw [isWM_t hw] at w1
    simp (disch := omega) only [Try.ntmps83, Try.results83, go_sem, Nat.reduceLT, Nat.reduceLeDiff, Nat.reduceEqDiff, Nat.reduceAdd, Nat.reduceSub, Nat.reduceMul, reduceIte, ↓reduceIte, reduceCtorEq, Int.reduceToNat, Int.reduceLE, Int.reduceLT, Int.reduceNeg, Int.reduceSub, Int.reduceAdd, Int.reduceMul, rr_eq]
    refine w1.callV 0 (viewL_cons_of (view_row) viewL_nil_of) ?_
    simp (disch := omega) only [Try.ntmps83, Try.results83, go_sem, Nat.reduceLT, Nat.reduceLeDiff, Nat.reduceEqDiff, Nat.reduceAdd, Nat.reduceSub, Nat.reduceMul, reduceIte, ↓reduceIte, reduceCtorEq, Int.reduceToNat, Int.reduceLE, Int.reduceLT, Int.reduceNeg, Int.reduceSub, Int.reduceAdd, Int.reduceMul, rr_eq]
    refine w2.callV 0 (viewL_cons_of (view_int) (viewL_cons_of (view_rowL (by first | rfl | simp [marks_length, canon_length] | omega)) viewL_nil_of)) ?_
    simp (disch := omega) only [Try.ntmps83, Try.results83, go_sem, Nat.reduceLT, Nat.reduceLeDiff, Nat.reduceEqDiff, Nat.reduceAdd, Nat.reduceSub, Nat.reduceMul, reduceIte, ↓reduceIte, reduceCtorEq, Int.reduceToNat, Int.reduceLE, Int.reduceLT, Int.reduceNeg, Int.reduceSub, Int.reduceAdd, Int.reduceMul, rr_eq]
    exact fin_ints (L := []) (b := 0) (e2 := false) rfl rfl
  · rw [isWM_f hw] at w1
    simp (disch := omega) only [Try.ntmps83, Try.results83, go_sem, Nat.reduceLT, Nat.reduceLeDiff, Nat.reduceEqDiff, Nat.reduceAdd, Nat.reduceSub, Nat.reduceMul, reduceIte, ↓reduceIte, reduceCtorEq, Int.reduceToNat, Int.reduceLE, Int.reduceLT, Int.reduceNeg, Int.reduceSub, Int.reduceAdd, Int.reduceMul, rr_eq]
    refine w1.callV 0 (viewL_cons_of (view_row) viewL_nil_of) ?_
    simp (disch := omega) only [Try.ntmps83, Try.results83, go_sem, Nat.reduceLT, Nat.reduceLeDiff, Nat.reduceEqDiff, Nat.reduceAdd, Nat.reduceSub, Nat.reduceMul, reduceIte, ↓reduceIte, reduceCtorEq, Int.reduceToNat, Int.reduceLE, Int.reduceLT, Int.reduceNeg, Int.reduceSub, Int.reduceAdd, Int.reduceMul, rr_eq]
    exact fin_ints (L := []) (b := 0) (e2 := false) rfl rfl
theorem Try.implPiv_nil (M : List (List Int)) (O : List Int) (hM : M.length ≤ 1048576) (hR : ∀ i, i < M.length → (mrow M i).length ≤ 1048576) (hO : O.length ≤ 1048576) (h : ¬ (WM M ∧ isOrd M.length O = true)) : FCall Try.prog 85 [rr M, ri O] (fun r _ => r = .val (.slice none 0 0)) := by
  have w1 := Try.implIsWM_ok M hM hR
  refine FCall.of_body Try.func85 rfl (by kernel_rfl) (by simp [Try.ntmps85]) ?_
  refine SW_of_vc Try.mixed _ _ _ (by kernel_rfl) ?_
  by_cases hw : WM M
  · have w2 := Try.implIsOrder_ok M.length O hO
    have hn : isOrd M.length O = false := by
      rcases Bool.eq_false_or_eq_true (isOrd M.length O) with g | g
      · exact absurd ⟨hw, g⟩ h
      · exact g
    rw [hn] at w2
    rw [isWM_t hw] at w1
    simp (disch := omega) only [Try.ntmps85, Try.results85, go_sem, Nat.reduceLT, Nat.reduceLeDiff, Nat.reduceEqDiff, Nat.reduceAdd, Nat.reduceSub, Nat.reduceMul, reduceIte, ↓reduceIte, reduceCtorEq, Int.reduceToNat, Int.reduceLE, Int.reduceLT, Int.reduceNeg, Int.reduceSub, Int.reduceAdd, Int.reduceMul, rr_eq]
    refine w1.callV 0 (viewL_cons_of (view_row) viewL_nil_of) ?_
    simp (disch := omega) only [Try.ntmps85, Try.results85, go_sem, Nat.reduceLT, Nat.reduceLeDiff, Nat.reduceEqDiff, Nat.reduceAdd, Nat.reduceSub, Nat.reduceMul, reduceIte, ↓reduceIte, reduceCtorEq, Int.reduceToNat, Int.reduceLE, Int.reduceLT, Int.reduceNeg, Int.reduceSub, Int.reduceAdd, Int.reduceMul, rr_eq]
    refine w2.callV 0 (viewL_cons_of (view_int) (viewL_cons_of (view_rowL (by first | rfl | simp [marks_length, canon_length] | omega)) viewL_nil_of)) ?_
    simp (disch := omega) only [Try.ntmps85, Try.results85, go_sem, Nat.reduceLT, Nat.reduceLeDiff, Nat.reduceEqDiff, Nat.reduceAdd, Nat.reduceSub, Nat.reduceMul, reduceIte, ↓reduceIte, reduceCtorEq, Int.reduceToNat, Int.reduceLE, Int.reduceLT, Int.reduceNeg, Int.reduceSub, Int.reduceAdd, Int.reduceMul, rr_eq]
    exact Fin.val rfl
  · rw [isWM_f hw] at w1
    simp (disch := omega) only [Try.ntmps85, Try.results85, go_sem, Nat.reduceLT, Nat.reduceLeDiff, Nat.reduceEqDiff, Nat.reduceAdd, Nat.reduceSub, Nat.reduceMul, reduceIte, ↓reduceIte, reduceCtorEq, Int.reduceToNat, Int.reduceLE, Int.reduceLT, Int.reduceNeg, Int.reduceSub, Int.reduceAdd, Int.reduceMul, rr_eq]
    refine w1.callV 0 (viewL_cons_of (view_row) viewL_nil_of) ?_
    simp (disch := omega) only [Try.ntmps85, Try.results85, go_sem, Nat.reduceLT, Nat.reduceLeDiff, Nat.reduceEqDiff, Nat.reduceAdd, Nat.reduceSub, Nat.reduceMul, reduceIte, ↓reduceIte, reduceCtorEq, Int.reduceToNat, Int.reduceLE, Int.reduceLT, Int.reduceNeg, Int.reduceSub, Int.reduceAdd, Int.reduceMul, rr_eq]
    exact Fin.val rfl
theorem Try.specPiv_ok (M : List (List Int)) (O : List Int) (hM : M.length ≤ 1048576) (hR : ∀ i, i < M.length → (mrow M i).length ≤ 1048576) (hO : O.length ≤ 1048576) : PCall Try.prog 83 [rr M, ri O] (ri (piv M O)) := by
  by_cases h : WM M ∧ isOrd M.length O = true
  · exact (Try.specPiv_f M O hM hR hO h).pcall 2 (fun _ _ h => flat_view h)
  · rw [piv_f h]; exact (Try.specPiv_not M O hM hR hO h).pcall 2 (fun _ _ h => flat_view h)
theorem Try.implPiv_one (M : List (List Int)) (O : List Int) (hM : M.length ≤ 1048576) (hR : ∀ i, i < M.length → (mrow M i).length ≤ 1048576) (hO : O.length ≤ 1048576) (h : WM M ∧ isOrd M.length O = true) : FCall Try.prog 85 [rr M, ri O] (OneRes M.length 1 (ints (piv M O))) := (Try.implPiv_f M O hM hR hO h).one
theorem Try.implPiv_ok (M : List (List Int)) (O : List Int) (hM : M.length ≤ 1048576) (hR : ∀ i, i < M.length → (mrow M i).length ≤ 1048576) (hO : O.length ≤ 1048576) : PCall Try.prog 85 [rr M, ri O] (ri (piv M O)) := by
  by_cases h : WM M ∧ isOrd M.length O = true
  · exact (Try.implPiv_f M O hM hR hO h).pcall 2 (fun _ _ h => flat_view h)
  · rw [piv_f h]; exact (Try.implPiv_nil M O hM hR hO h).pcall 0 (by rintro r H rfl; exact view_nil)
end Go.Sh
