/-
  Texts put together: Z3, M1, AD1, AD2, BA3, ShQ, PW1, PW2, PW3. What each proves stands at its own head, with its conditions.
-/
import Derived.Test.YtgkicmckimgjjaaZPairWeight3

/-
  Contracts: pivots, of the reference; both as one.
-/
namespace Go.Sh
set_option linter.unusedSimpArgs false
set_option linter.unusedVariables false
open Go Go.Proofs

def pvk (M : List (List Int)) (Q : List Int) (p i k : Nat) : List Int := gen M.length fun x => if x < k ∧ Q.getD x 0 < 0 ∧ (x = p ∨ 0 < mat M p x) then (i : Int) else Q.getD x 0
theorem pvk_zero {M : List (List Int)} {Q : List Int} {p i : Nat} (hl : Q.length = M.length) : pvk M Q p i 0 = Q := by
  rw [pvk, gen_self hl]
  refine gen_congr fun x hx => ?_
  rw [if_neg (by omega), gen_at hx]
theorem pvk_self {M : List (List Int)} {Q : List Int} {p i k : Nat} (h : k < M.length) : (pvk M Q p i k).getD k 0 = Q.getD k 0 := by rw [pvk, gen_at h, if_neg (by omega)]
theorem pvk_put {M : List (List Int)} {Q : List Int} {p i k : Nat} (hk : k < M.length) (h : Q.getD k 0 < 0 ∧ (k = p ∨ 0 < mat M p k)) : (pvk M Q p i k).set k i = pvk M Q p i (k + 1) := by
  rw [pvk, gen_set hk, pvk]
  refine gen_congr fun x hx => ?_
  by_cases e : x = k
  · subst e; rw [if_pos rfl, if_pos ⟨by omega, h⟩]
  · rw [if_neg e]
    by_cases hc : x < k ∧ Q.getD x 0 < 0 ∧ (x = p ∨ 0 < mat M p x)
    · rw [if_pos hc, if_pos ⟨by omega, hc.2⟩]
    · rw [if_neg hc, if_neg (fun g => hc ⟨by omega, g.2⟩)]
theorem pvk_skip {M : List (List Int)} {Q : List Int} {p i k : Nat} (h : ¬ (Q.getD k 0 < 0 ∧ (k = p ∨ 0 < mat M p k))) : pvk M Q p i k = pvk M Q p i (k + 1) := by
  refine gen_congr fun x hx => ?_
  by_cases e : x = k
  · subst e; rw [if_neg (by omega), if_neg (fun g => h g.2)]
  · by_cases hc : x < k ∧ Q.getD x 0 < 0 ∧ (x = p ∨ 0 < mat M p x)
    · rw [if_pos hc, if_pos ⟨by omega, hc.2⟩]
    · rw [if_neg hc, if_neg (fun g => hc ⟨by omega, g.2⟩)]
theorem pvk_all {M : List (List Int)} {Q : List Int} {p i : Nat} : pvk M Q p i M.length = gen M.length fun x => if Q.getD x 0 < 0 ∧ (x = p ∨ 0 < mat M p x) then (i : Int) else Q.getD x 0 := by
  refine gen_congr fun x hx => ?_
  by_cases hc : Q.getD x 0 < 0 ∧ (x = p ∨ 0 < mat M p x)
  · rw [if_pos hc, if_pos ⟨hx, hc⟩]
  · rw [if_neg hc, if_neg (fun g => hc g.2)]

set_option maxRecDepth 20000 in
set_option maxHeartbeats 8000000 in
theorem Try.specPiv_f (M : List (List Int)) (O : List Int) (hM : M.length ≤ 1048576) (hR : ∀ i, i < M.length → (mrow M i).length ≤ 1048576) (hO : O.length ≤ 1048576) (h : WM M ∧ isOrd M.length O = true) : FCall Try.prog 47 [rr M, ri O] (FlatRes M.length 1 (ints (piv M O))) := by
  obtain ⟨hw, hord⟩ := h
  obtain ⟨h1, h2, h3, h4⟩ := ord_t hord
  have w1 := Try.specIsWM_ok M hM hR
  rw [isWM_t hw] at w1
  have w2 := Try.specIsOrder_ok M.length O hO (by omega) (by omega)
  rw [hord] at w2
  have hpl : ∀ i, (pv M O i).length = M.length := pv_length M O
  have w4 := (Try.specCanon_f (pv M O O.length) (by rw [hpl]; omega)).one
  rw [hpl, ← piv_t ⟨hw, hord⟩] at w4
  refine FCall.of_body Try.func47 rfl (by kernel_rfl) (by simp [Try.ntmps47]) ?_
  refine SW_of_vc Try.mixed _ _ _ (by kernel_rfl) ?_
  simp (disch := omega) only [Try.ntmps47, Try.results47, go_sem, rr_eq]
  refine w1.callV 0 (viewL_cons_of (view_row) viewL_nil_of) ?_
  simp (disch := omega) only [Try.ntmps47, Try.results47, go_sem, rr_eq]
  refine w2.callV 0 (viewL_cons_of (view_int) (viewL_cons_of (view_rowL (by first | rfl | simp [marks_length, canon_length] | omega)) viewL_nil_of)) ?_
  simp (disch := omega) only [Try.ntmps47, Try.results47, go_sem, rr_eq]
  refine LoopW.loop (fun p : Nat × Nat × Nat => ⟨ofL [(0, rr M), (1, ri O), (5, .own p.2.1 0 p.1 p.1 1 false), (6, .val (.int .i64 p.1))], hp [(p.2.1, ⟨ints (List.replicate p.1 (-1)), false⟩)] p.2.2⟩) (fun p => p.1 ≤ M.length ∧ p.2.1 < p.2.2) (fun p => M.length - p.1) (0, 0, 1) ⟨by simp, by simp⟩
    (Wk.ofH (by simp only [go_sem, ↓List.forall_mem_cons, List.not_mem_nil, false_implies, implies_true, and_true, true_and, and_self, ri_eq, Int.natCast_add, Int.cast_ofNat_Int, rr_eq]; try simp) (by simp (disch := omega) only [go_sem, ↓List.forall_mem_cons, List.not_mem_nil, false_implies, implies_true, and_true, true_and, and_self, ri_eq, Int.natCast_add, Int.cast_ofNat_Int, if_pos, if_neg, Nat.reduceAdd, List.nil_append, List.replicate_zero, ints_nil]; try simp) (by simp [hp])) ?_
  rintro ⟨k, b, nb⟩ ⟨hk, hb⟩
  simp only at hk hb
  refine SW_of_vc Try.mixed _ _ _ (by kernel_rfl) ?_
  by_cases hlt : k < M.length
  · have hl := rep_snoc k (-1)
    have ht : (ints (List.replicate k (-1))).take k = ints (List.replicate k (-1)) := ints_take_of (by simp)
    simp (disch := omega) only [Try.ntmps47, Try.results47, go_sem, rr_eq, List.length_replicate, ht]
    refine ⟨(k + 1, nb + 1, nb + 1 + 1), ⟨hlt, by simp⟩, by show M.length - (k + 1) < M.length - k; omega, ?_⟩
    exact Wk.ofH (by simp only [go_sem, ↓List.forall_mem_cons, List.not_mem_nil, false_implies, implies_true, and_true, true_and, and_self, ri_eq, Int.natCast_add, Int.cast_ofNat_Int, rr_eq]; try simp) (by simp (disch := omega) only [go_sem, ↓List.forall_mem_cons, List.not_mem_nil, false_implies, implies_true, and_true, true_and, and_self, ri_eq, Int.natCast_add, Int.cast_ofNat_Int, if_pos, if_neg, Nat.reduceAdd, List.nil_append, hl]; try simp) (by simp [hp])
  obtain rfl : k = M.length := by omega
  simp (disch := omega) only [Try.ntmps47, Try.results47, go_sem, rr_eq]
  refine LoopW.loop (fun i : Nat => ⟨ofL [(0, rr M), (1, ri O), (5, .own b 0 M.length M.length 1 false), (7, .val (.int .i64 i))], hp [(b, ⟨ints (pv M O i), false⟩)] nb⟩) (fun i => i ≤ O.length) (fun i => O.length - i) 0 (by omega)
    (Wk.ofH (by simp only [go_sem, ↓List.forall_mem_cons, List.not_mem_nil, false_implies, implies_true, and_true, true_and, and_self, ri_eq, Int.natCast_add, Int.cast_ofNat_Int, rr_eq]; try simp) (by simp (disch := omega) only [go_sem, ↓List.forall_mem_cons, List.not_mem_nil, false_implies, implies_true, and_true, true_and, and_self, ri_eq, Int.natCast_add, Int.cast_ofNat_Int, if_pos, if_neg, Nat.reduceAdd, List.nil_append, pv]; try simp) (Nat.le_refl _)) ?_
  intro i hi
  have hl := hpl i
  refine SW_of_vc Try.mixed _ _ _ (by kernel_rfl) ?_
  by_cases hlti : i < O.length
  case neg =>
    obtain rfl : i = O.length := by omega
    simp (disch := omega) only [Try.ntmps47, Try.results47, go_sem, rr_eq]
    refine w4.callOne (ints_vals _) 1 (viewL_cons_of (view_own (e2 := false) (by rw [hp_map, hmap_cons, if_pos rfl]) hl.symm) viewL_nil_of) ?_
    simp (disch := omega) only [Try.ntmps47, Try.results47, go_sem, rr_eq]
    exact fin_ints (piv_length ⟨hw, hord⟩).symm (by rw [hp_map, hmap_cons, if_pos rfl])
  obtain ⟨p, hpp⟩ := Int.eq_ofNat_of_zero_le (h3 i hlti).1
  have hpM : p < M.length := by have := (h3 i hlti).2; omega
  have g1 := ints_get hlti
  rw [hpp] at g1
  have g2 : (ints (pv M O i))[p]? = some (.val (.int .i64 ((pv M O i).getD p 0))) := ints_get' hl hpM
  by_cases hs : 0 ≤ (pv M O i).getD p 0
  · have hskip := pv_skip (M := M) hpp hs
    generalize (pv M O i).getD p 0 = v at *
    simp (disch := omega) only [Try.ntmps47, Try.results47, go_sem, rr_eq, g1, g2, hl]
    exact ⟨i + 1, hlti, by omega, Wk.ofH (by simp only [go_sem, ↓List.forall_mem_cons, List.not_mem_nil, false_implies, implies_true, and_true, true_and, and_self, ri_eq, Int.natCast_add, Int.cast_ofNat_Int, rr_eq]; try simp) (by simp (disch := omega) only [go_sem, ↓List.forall_mem_cons, List.not_mem_nil, false_implies, implies_true, and_true, true_and, and_self, ri_eq, Int.natCast_add, Int.cast_ofNat_Int, if_pos, if_neg, Nat.reduceAdd, List.nil_append, hskip]; try simp) (Nat.le_refl _)⟩
  · have hend := pvk_all (M := M) (Q := pv M O i) (p := p) (i := i)
    rw [← pv_step hpp (by omega)] at hend
    have hz := pvk_zero (p := p) (i := i) hl
    have hrp := hw.2.1 p hpM
    have hkl : ∀ k, (pvk M (pv M O i) p i k).length = M.length := fun k => gen_length _ _
    have hks := fun k hk => pvk_self (Q := pv M O i) (p := p) (i := i) (k := k) (M := M) hk
    generalize hv : (pv M O i).getD p 0 = v at *
    simp (disch := omega) only [Try.ntmps47, Try.results47, go_sem, rr_eq, g1, g2, hl]
    refine LoopW.loop (fun k : Nat => ⟨ofL [(0, rr M), (1, ri O), (5, .own b 0 M.length M.length 1 false), (7, .val (.int .i64 i)), (8, .val (.int .i64 p)), (9, .val (.int .i64 k))], hp [(b, ⟨ints (pvk M (pv M O i) p i k), false⟩)] nb⟩) (fun k => k ≤ M.length) (fun k => M.length - k) 0 (by omega)
      (Wk.ofH (by simp only [go_sem, ↓List.forall_mem_cons, List.not_mem_nil, false_implies, implies_true, and_true, true_and, and_self, ri_eq, Int.natCast_add, Int.cast_ofNat_Int, rr_eq]; try simp) (by simp (disch := omega) only [go_sem, ↓List.forall_mem_cons, List.not_mem_nil, false_implies, implies_true, and_true, true_and, and_self, ri_eq, Int.natCast_add, Int.cast_ofNat_Int, if_pos, if_neg, Nat.reduceAdd, List.nil_append, hz]; try simp) (Nat.le_refl _)) ?_
    clear g2 hl hv
    intro k hk
    have hl := hkl k
    refine SW_of_vc Try.mixed _ _ _ (by kernel_rfl) ?_
    by_cases hlk : k < M.length
    · have g3 : (ints (mrow M p))[k]? = some (.val (.int .i64 (mat M p k))) := ints_get' hrp hlk
      have g4 : (ints (pvk M (pv M O i) p i k))[k]? = some (.val (.int .i64 ((pvk M (pv M O i) p i k).getD k 0))) := ints_get' hl hlk
      rw [hks k hlk] at g4
      have hput := pvk_put (Q := pv M O i) (p := p) (i := i) hlk
      have hsk := pvk_skip (M := M) (Q := pv M O i) (p := p) (i := i) (k := k)
      clear hks hkl hend hz
      generalize (pv M O i).getD k 0 = u at *
      by_cases e1 : u < 0
      · by_cases e2 : k = p
        · have hput := hput ⟨e1, .inl e2⟩
          simp (disch := omega) only [Try.ntmps47, Try.results47, go_sem, rr_eq, g4, hl, hput]
          exact ⟨k + 1, hlk, by omega, Wk.ofH (by simp only [go_sem, ↓List.forall_mem_cons, List.not_mem_nil, false_implies, implies_true, and_true, true_and, and_self, ri_eq, Int.natCast_add, Int.cast_ofNat_Int, rr_eq]; try simp) (by simp (disch := omega) only [go_sem, ↓List.forall_mem_cons, List.not_mem_nil, false_implies, implies_true, and_true, true_and, and_self, ri_eq, Int.natCast_add, Int.cast_ofNat_Int, if_pos, if_neg, Nat.reduceAdd, List.nil_append]; try simp) (Nat.le_refl _)⟩
        · by_cases e3 : 0 < mat M p k
          · have hput := hput ⟨e1, .inr e3⟩
            generalize mat M p k = mm at *
            simp (disch := omega) only [Try.ntmps47, Try.results47, go_sem, rr_eq, g3, g4, hl, hput, rows_get, hrp]
            exact ⟨k + 1, hlk, by omega, Wk.ofH (by simp only [go_sem, ↓List.forall_mem_cons, List.not_mem_nil, false_implies, implies_true, and_true, true_and, and_self, ri_eq, Int.natCast_add, Int.cast_ofNat_Int, rr_eq]; try simp) (by simp (disch := omega) only [go_sem, ↓List.forall_mem_cons, List.not_mem_nil, false_implies, implies_true, and_true, true_and, and_self, ri_eq, Int.natCast_add, Int.cast_ofNat_Int, if_pos, if_neg, Nat.reduceAdd, List.nil_append]; try simp) (Nat.le_refl _)⟩
          · have hsk := hsk (fun g => g.2.elim e2 e3)
            generalize mat M p k = mm at *
            simp (disch := omega) only [Try.ntmps47, Try.results47, go_sem, rr_eq, g3, g4, hl, rows_get, hrp]
            exact ⟨k + 1, hlk, by omega, Wk.ofH (by simp only [go_sem, ↓List.forall_mem_cons, List.not_mem_nil, false_implies, implies_true, and_true, true_and, and_self, ri_eq, Int.natCast_add, Int.cast_ofNat_Int, rr_eq]; try simp) (by simp (disch := omega) only [go_sem, ↓List.forall_mem_cons, List.not_mem_nil, false_implies, implies_true, and_true, true_and, and_self, ri_eq, Int.natCast_add, Int.cast_ofNat_Int, if_pos, if_neg, Nat.reduceAdd, List.nil_append, ← hsk]; try simp) (Nat.le_refl _)⟩
      · have hsk := hsk (fun g => e1 g.1)
        simp (disch := omega) only [Try.ntmps47, Try.results47, go_sem, rr_eq, g4, hl]
        exact ⟨k + 1, hlk, by omega, Wk.ofH (by simp only [go_sem, ↓List.forall_mem_cons, List.not_mem_nil, false_implies, implies_true, and_true, true_and, and_self, ri_eq, Int.natCast_add, Int.cast_ofNat_Int, rr_eq]; try simp) (by simp (disch := omega) only [go_sem, ↓List.forall_mem_cons, List.not_mem_nil, false_implies, implies_true, and_true, true_and, and_self, ri_eq, Int.natCast_add, Int.cast_ofNat_Int, if_pos, if_neg, Nat.reduceAdd, List.nil_append, ← hsk]; try simp) (Nat.le_refl _)⟩
    · obtain rfl : k = M.length := by omega
      rw [hend]
      simp (disch := omega) only [Try.ntmps47, Try.results47, go_sem, rr_eq]
      exact ⟨i + 1, hlti, by omega, Wk.ofH (by simp only [go_sem, ↓List.forall_mem_cons, List.not_mem_nil, false_implies, implies_true, and_true, true_and, and_self, ri_eq, Int.natCast_add, Int.cast_ofNat_Int, rr_eq]; try simp) (by simp (disch := omega) only [go_sem, ↓List.forall_mem_cons, List.not_mem_nil, false_implies, implies_true, and_true, true_and, and_self, ri_eq, Int.natCast_add, Int.cast_ofNat_Int, if_pos, if_neg, Nat.reduceAdd, List.nil_append]; try simp) (Nat.le_refl _)⟩
theorem Try.specPiv_not (M : List (List Int)) (O : List Int) (hM : M.length ≤ 1048576) (hR : ∀ i, i < M.length → (mrow M i).length ≤ 1048576) (hO : O.length ≤ 1048576) (h : ¬ (WM M ∧ isOrd M.length O = true)) : FCall Try.prog 47 [rr M, ri O] (FlatRes 0 1 (ints [])) := by
  have w1 := Try.specIsWM_ok M hM hR
  refine FCall.of_body Try.func47 rfl (by kernel_rfl) (by simp [Try.ntmps47]) ?_
  refine SW_of_vc Try.mixed _ _ _ (by kernel_rfl) ?_
  by_cases hw : WM M
  · have w2 := Try.specIsOrder_ok M.length O hO (by omega) (by omega)
    have hn : isOrd M.length O = false := by
      rcases Bool.eq_false_or_eq_true (isOrd M.length O) with g | g
      · exact absurd ⟨hw, g⟩ h
      · exact g
    rw [hn] at w2
    rw [isWM_t hw] at w1
    simp (disch := omega) only [Try.ntmps47, Try.results47, go_sem, rr_eq]
    refine w1.callV 0 (viewL_cons_of (view_row) viewL_nil_of) ?_
    simp (disch := omega) only [Try.ntmps47, Try.results47, go_sem, rr_eq]
    refine w2.callV 0 (viewL_cons_of (view_int) (viewL_cons_of (view_rowL (by first | rfl | simp [marks_length, canon_length] | omega)) viewL_nil_of)) ?_
    simp (disch := omega) only [Try.ntmps47, Try.results47, go_sem, rr_eq]
    exact fin_ints (L := []) (b := 0) (e2 := false) rfl rfl
  · rw [isWM_f hw] at w1
    simp (disch := omega) only [Try.ntmps47, Try.results47, go_sem, rr_eq]
    refine w1.callV 0 (viewL_cons_of (view_row) viewL_nil_of) ?_
    simp (disch := omega) only [Try.ntmps47, Try.results47, go_sem, rr_eq]
    exact fin_ints (L := []) (b := 0) (e2 := false) rfl rfl
theorem Try.implPiv_nil (M : List (List Int)) (O : List Int) (hM : M.length ≤ 1048576) (hR : ∀ i, i < M.length → (mrow M i).length ≤ 1048576) (hO : O.length ≤ 1048576) (h : ¬ (WM M ∧ isOrd M.length O = true)) : FCall Try.prog 43 [rr M, ri O] (fun r _ => r = .val (.slice none 0 0)) := by
  have w1 := Try.implIsWM_ok M hM hR
  refine FCall.of_body Try.func43 rfl (by kernel_rfl) (by simp [Try.ntmps43]) ?_
  refine SW_of_vc Try.mixed _ _ _ (by kernel_rfl) ?_
  by_cases hw : WM M
  · have w2 := Try.implIsOrder_ok M.length O hO
    have hn : isOrd M.length O = false := by
      rcases Bool.eq_false_or_eq_true (isOrd M.length O) with g | g
      · exact absurd ⟨hw, g⟩ h
      · exact g
    rw [hn] at w2
    rw [isWM_t hw] at w1
    simp (disch := omega) only [Try.ntmps43, Try.results43, go_sem, rr_eq]
    refine w1.callV 0 (viewL_cons_of (view_row) viewL_nil_of) ?_
    simp (disch := omega) only [Try.ntmps43, Try.results43, go_sem, rr_eq]
    refine w2.callV 0 (viewL_cons_of (view_int) (viewL_cons_of (view_rowL (by first | rfl | simp [marks_length, canon_length] | omega)) viewL_nil_of)) ?_
    simp (disch := omega) only [Try.ntmps43, Try.results43, go_sem, rr_eq]
    exact Fin.val rfl
  · rw [isWM_f hw] at w1
    simp (disch := omega) only [Try.ntmps43, Try.results43, go_sem, rr_eq]
    refine w1.callV 0 (viewL_cons_of (view_row) viewL_nil_of) ?_
    simp (disch := omega) only [Try.ntmps43, Try.results43, go_sem, rr_eq]
    exact Fin.val rfl
theorem Try.specPiv_ok (M : List (List Int)) (O : List Int) (hM : M.length ≤ 1048576) (hR : ∀ i, i < M.length → (mrow M i).length ≤ 1048576) (hO : O.length ≤ 1048576) : PCall Try.prog 47 [rr M, ri O] (ri (piv M O)) := by
  by_cases h : WM M ∧ isOrd M.length O = true
  · exact (Try.specPiv_f M O hM hR hO h).pcall 2 (fun _ _ h => flat_view h)
  · rw [piv_f h]; exact (Try.specPiv_not M O hM hR hO h).pcall 2 (fun _ _ h => flat_view h)
theorem Try.implPiv_one (M : List (List Int)) (O : List Int) (hM : M.length ≤ 1048576) (hR : ∀ i, i < M.length → (mrow M i).length ≤ 1048576) (hO : O.length ≤ 1048576) (h : WM M ∧ isOrd M.length O = true) : FCall Try.prog 43 [rr M, ri O] (OneRes M.length 1 (ints (piv M O))) := (Try.implPiv_f M O hM hR hO h).one
theorem Try.implPiv_ok (M : List (List Int)) (O : List Int) (hM : M.length ≤ 1048576) (hR : ∀ i, i < M.length → (mrow M i).length ≤ 1048576) (hO : O.length ≤ 1048576) : PCall Try.prog 43 [rr M, ri O] (ri (piv M O)) := by
  by_cases h : WM M ∧ isOrd M.length O = true
  · exact (Try.implPiv_f M O hM hR hO h).pcall 2 (fun _ _ h => flat_view h)
  · rw [piv_f h]; exact (Try.implPiv_nil M O hM hR hO h).pcall 0 (by rintro r H rfl; exact view_nil)
end Go.Sh

/-
  Contracts: an item moved to another block. Of the program.
-/
namespace Go.Sh
set_option linter.unusedSimpArgs false
set_option linter.unusedVariables false
open Go Go.Proofs

def top (L : List Int) (k : Nat) : Int := (L.take k).foldl max (-1)
theorem top_zero (L : List Int) : top L 0 = -1 := rfl
theorem top_succ {L : List Int} {k : Nat} (h : k < L.length) : top L (k + 1) = max (top L k) (L.getD k 0) := by
  rw [top, List.take_succ_eq_append_getElem h, List.foldl_append]
  simp [top, h]
theorem top_ge (L : List Int) : ∀ k, k ≤ L.length → -1 ≤ top L k
  | 0, _ => by rw [top_zero]; omega
  | k + 1, h => by
    have := top_ge L k (by omega)
    rw [top_succ (by omega)]; omega
theorem top_part {L : List Int} (h : isPart L = true) : ∀ k, k ≤ L.length → top L k ≤ 7
  | 0, _ => by rw [top_zero]; omega
  | k + 1, hk => by
    have := top_part h k (by omega)
    have := (isPart_bound h (i := k) (by omega)).2
    rw [top_succ (by omega)]; omega
def moveOk (L : List Int) (it bl : Int) : Bool := isPart L && (inR it 0 ((L.length : Int) - 1) && inR bl 0 (top L L.length + 1))
def moveTo (L : List Int) (it bl : Int) : List Int := if moveOk L it bl = true then canon (L.set it.toNat bl) else L
theorem moveTo_length (L : List Int) (it bl : Int) : (moveTo L it bl).length = L.length := by
  unfold moveTo
  split
  · rw [canon_length]; simp
  · rfl

theorem Try.clone_f (L : List Int) (hL : L.length ≤ 1048576) (h0 : 0 < L.length) : FCall Try.prog 153 [ri L] (FlatRes L.length 1 (ints L)) := by
  have hf := ints_flat L
  refine FCall.of_body Try.func153 rfl (by kernel_rfl) (by simp [Try.ntmps153]) ?_
  refine SW_of_vc Try.mixed _ _ _ (by kernel_rfl) ?_
  simp (disch := omega) only [Try.ntmps153, Try.results153, go_sem, hf]
  exact fin_ints rfl (by rw [hp_map, hmap_cons, if_pos rfl])

/-- Of an empty slice that is not nil. -/
theorem Try.clone_0 (H : Heap) (b cap : Nat) (ex e2 : Bool) (hb : H.map b = some ⟨ints [], e2⟩) (hbn : b ≠ H.nb) : CallS Try.prog 153 [.own b 0 0 cap 1 ex] H (fun r H' => r = .own H.nb 0 0 0 1 false ∧ H' = H.push ⟨[], false⟩) := by
  refine CallS.of_body Try.func153 rfl (by kernel_rfl) (by simp [Try.ntmps153]) ?_
  refine SW_of_vc Try.mixed _ _ _ (by kernel_rfl) ?_
  have p1 : (H.push ⟨[], false⟩).map H.nb = some ⟨[], false⟩ := by simp [Heap.push]
  have p2 : (H.push ⟨[], false⟩).map b = some ⟨ints [], e2⟩ := by simp [Heap.push, hbn, hb]
  simp (disch := omega) only [Try.ntmps153, Try.results153, go_sem, hb, p1, p2]

theorem fin_tup {n z cap b : Nat} {ex e2 : Bool} {cs : List SV} {u : Value} {H : Heap} (hn : cs.length = n * z) (hv : cs.all isVal = true) (hb : H.map b = some ⟨cs, e2⟩) :
    Fin (fun r H => ∃ r0, r = .tup [r0, .val u] ∧ FlatRes n z cs r0 H) (.tup [.own b 0 n cap z ex, .val u]) H := by
  obtain ⟨H2, h1, _, h3, h4⟩ := flat_fin (ex := ex) (cap := cap) hn hv hb
  exact ⟨H2, h1, by simp [noRow, noRowL], h3, _, rfl, h4⟩

end Go.Sh

/-
  The best of the orders that begin with each item: plain; of the reference.
-/
namespace Go.Sh
set_option linter.unusedSimpArgs false
set_option linter.unusedVariables false
open Go Go.Proofs

theorem rep_none (zs : List SV) : rep zs 0 = [] := rfl
/-- The first k items of the order that begins with s. -/
def rot (n s k : Nat) : List Int := (List.range k).map fun i => (((s + i) % n : Nat) : Int)
theorem rot_length (n s k : Nat) : (rot n s k).length = k := by simp [rot]
theorem rot_succ (n s k : Nat) : rot n s (k + 1) = rot n s k ++ [(((s + k) % n : Nat) : Int)] := by simp [rot, List.range_succ]
theorem rot_snoc (n s k : Nat) : ints (rot n s k) ++ [.val (.int .i64 (((s + k) % n : Nat) : Int))] = ints (rot n s (k + 1)) := by rw [rot_succ]; simp [ints]
theorem rot_ord {n s : Nat} (h0 : 1 ≤ n) (h8 : n ≤ 8) (hs : s < n) : isOrd n (rot n s n) = true := by
  have : ∀ n : _root_.Fin 9, ∀ s : _root_.Fin 9, 1 ≤ n.val → s.val < n.val → isOrd n.val (rot n.val s.val n.val) = true := by decide +kernel
  exact this ⟨n, by omega⟩ ⟨s, by omega⟩ h0 hs
noncomputable def bpv (M : List (List Int)) : Nat → List Int × Int
  | 0 => ([], -1)
  | s + 1 => if (bpv M s).2 < 0 ∨ cc M (piv M (rot M.length s M.length)) M.length < (bpv M s).2 then (piv M (rot M.length s M.length), cc M (piv M (rot M.length s M.length)) M.length) else bpv M s
theorem bpv_inv {M : List (List Int)} (hw : WM M) : ∀ s, s ≤ M.length → (s = 0 ∨ ((bpv M s).1.length = M.length ∧ 0 ≤ (bpv M s).2))
  | 0, _ => .inl rfl
  | s + 1, hs => by
    have ih := bpv_inv hw s (by omega)
    have hb := cc_b (L := piv M (rot M.length s M.length)) hw M.length (Nat.le_refl _)
    right
    rw [bpv]
    split
    · exact ⟨piv_length ⟨hw, rot_ord (by have := hw.1; omega) hw.1.2 (by omega)⟩, hb.1⟩
    · rename_i h
      rcases ih with rfl | ih
      · simp [bpv] at h
      · exact ih
theorem rot_mod (s k n : Nat) : ((s : Int) + (k : Int)).tmod (n : Int) = (((s + k) % n : Nat) : Int) := by
  rw [← Int.natCast_add]; exact (Int.ofNat_tmod _ _).symm
open Classical in
noncomputable def bp (M : List (List Int)) : List Int × Int := if WM M then bpv M M.length else ([], -1)
theorem bp_t {M : List (List Int)} (h : WM M) : bp M = bpv M M.length := by rw [bp, if_pos h]
theorem bp_f {M : List (List Int)} (h : ¬ WM M) : bp M = ([], -1) := by rw [bp, if_neg h]
abbrev BpR (p : List Int × Int) (r : SV) (H : Heap) : Prop := ∃ r0, r = .tup [r0, .val (.int .i64 p.2)] ∧ FlatRes p.1.length 1 (ints p.1) r0 H

set_option maxHeartbeats 4000000 in
theorem Try.specBP_f (M : List (List Int)) (hM : M.length ≤ 1048576) (hR : ∀ i, i < M.length → (mrow M i).length ≤ 1048576) : FCall Try.prog 45 [rr M] (BpR (bp M)) := by
  have w1 := Try.specIsWM_ok M hM hR
  refine FCall.of_body Try.func45 rfl (by kernel_rfl) (by simp [Try.ntmps45]) ?_
  refine SW_of_vc Try.mixed _ _ _ (by kernel_rfl) ?_
  by_cases hw : WM M
  case neg =>
    rw [isWM_f hw] at w1
    rw [bp_f hw]
    simp (disch := omega) only [Try.ntmps45, Try.results45, go_sem, rr_eq, rep_none]
    refine LoopW.loop (fun _ : Unit => ⟨ofL [(0, rr M), (4, .own 0 0 0 0 1 false), (5, .val (.int .i64 (-1))), (6, .val (.int .i64 0))], hp [(0, ⟨[], false⟩)] 1⟩) (fun _ => True) (fun _ => 0) () trivial (Wk.ofH (by simp only [go_sem, ↓List.forall_mem_cons, List.not_mem_nil, false_implies, implies_true, and_true, true_and, and_self, ri_eq, Int.natCast_add, Int.cast_ofNat_Int, rr_eq]; try simp) (by simp [hp, hmap, rep]) (by simp [hp])) ?_
    rintro _ _
    refine SW_of_vc Try.mixed _ _ _ (by kernel_rfl) ?_
    by_cases hz : 0 < M.length
    · simp (disch := omega) only [Try.ntmps45, Try.results45, go_sem, rr_eq]
      refine w1.callV 0 (viewL_cons_of (view_row) viewL_nil_of) ?_
      simp (disch := omega) only [Try.ntmps45, Try.results45, go_sem, rr_eq]
      exact fin_tup (by simp [ints]) (ints_vals _) (by rw [hp_map, hmap_cons, if_pos rfl]; rfl)
    · simp (disch := omega) only [Try.ntmps45, Try.results45, go_sem, rr_eq]
      exact fin_tup (by simp [ints]) (ints_vals _) (by rw [hp_map, hmap_cons, if_pos rfl]; rfl)
  rw [isWM_t hw] at w1
  rw [bp_t hw]
  have hln := hw.1
  simp (disch := omega) only [Try.ntmps45, Try.results45, go_sem, rr_eq, rep_none]
  refine LoopW.loop (fun p : Nat × Nat × Nat => ⟨ofL [(0, rr M), (4, .own p.2.1 0 (bpv M p.1).1.length (bpv M p.1).1.length 1 false), (5, .val (.int .i64 (bpv M p.1).2)), (6, .val (.int .i64 p.1))], hp [(p.2.1, ⟨ints (bpv M p.1).1, false⟩)] p.2.2⟩)
    (fun p => p.1 ≤ M.length ∧ p.2.1 < p.2.2) (fun p => M.length - p.1) (0, 0, 1) ⟨by simp, by simp⟩ (Wk.ofH (by simp only [go_sem, ↓List.forall_mem_cons, List.not_mem_nil, false_implies, implies_true, and_true, true_and, and_self, ri_eq, Int.natCast_add, Int.cast_ofNat_Int, rr_eq, bpv, List.length_nil]; try simp) (by simp [hp, hmap, rep, bpv, ints]) (by simp [hp])) ?_
  rintro ⟨s, ob, nb⟩ ⟨hs, hob⟩
  simp only at hs hob
  refine SW_of_vc Try.mixed _ _ _ (by kernel_rfl) ?_
  by_cases hlt : s < M.length
  case neg =>
    obtain rfl : s = M.length := by omega
    simp (disch := omega) only [Try.ntmps45, Try.results45, go_sem, rr_eq]
    exact fin_tup (by simp [ints]) (ints_vals _) (by rw [hp_map, hmap_cons, if_pos rfl])
  have hord := rot_ord (n := M.length) (s := s) (by omega) hw.1.2 hlt
  have hb := cc_b (L := piv M (rot M.length s M.length)) hw M.length (Nat.le_refl _)
  have hpl := piv_length ⟨hw, hord⟩
  have wp := (Try.specPiv_f M (rot M.length s M.length) hM hR (by rw [rot_length]; exact hM) ⟨hw, hord⟩).one
  have wc := Try.specCost_ok M (piv M (rot M.length s M.length)) hw hpl
  rw [hpl] at wc
  have hnext : bpv M (s + 1) = if (bpv M s).2 < 0 ∨ cc M (piv M (rot M.length s M.length)) M.length < (bpv M s).2 then (piv M (rot M.length s M.length), cc M (piv M (rot M.length s M.length)) M.length) else bpv M s := rfl
  generalize hb1 : bpv M (s + 1) = t2 at *
  generalize hb0 : bpv M s = t at *
  simp (disch := omega) only [Try.ntmps45, Try.results45, go_sem, rr_eq]
  refine w1.callV 0 (viewL_cons_of (view_row) viewL_nil_of) ?_
  simp (disch := omega) only [Try.ntmps45, Try.results45, go_sem, rr_eq, rep_none]
  refine LoopW.loop (fun p : Nat × Nat × Nat => ⟨ofL [(0, rr M), (4, .own ob 0 t.1.length t.1.length 1 false), (5, .val (.int .i64 t.2)), (6, .val (.int .i64 s)), (7, .own p.2.1 0 p.1 p.1 1 false), (8, .val (.int .i64 p.1))], hp [(p.2.1, ⟨ints (rot M.length s p.1), false⟩), (ob, ⟨ints t.1, false⟩)] p.2.2⟩)
    (fun p => p.1 ≤ M.length ∧ ob < p.2.1 ∧ p.2.1 < p.2.2) (fun p => M.length - p.1) (0, nb, nb + 1) ⟨by simp, hob, by simp⟩ (Wk.ofH (by simp only [go_sem, ↓List.forall_mem_cons, List.not_mem_nil, false_implies, implies_true, and_true, true_and, and_self, ri_eq, Int.natCast_add, Int.cast_ofNat_Int, rr_eq]; try simp) (by
      simp only [List.forall_mem_cons]
      refine ⟨by rw [hp_map, hmap_cons, if_pos rfl]; rfl, by simp (disch := omega) only [hp_map, hmap_cons, if_pos, if_neg, ↓reduceIte], by simp⟩) (Nat.le_refl _)) ?_
  rintro ⟨k, ob2, nb2⟩ ⟨hk, ho1, ho2⟩
  simp only at hk ho1 ho2
  refine SW_of_vc Try.mixed _ _ _ (by kernel_rfl) ?_
  have hrl := rot_length M.length s k
  by_cases hlt2 : k < M.length
  · have hm := rot_mod s k M.length
    have hsn := rot_snoc M.length s k
    have hlt3 : (s + k) % M.length < M.length := Nat.mod_lt _ (by omega)
    have hil : (ints (rot M.length s k)).length = k := by rw [ints_length, hrl]
    have hit : (ints (rot M.length s k)).take k = ints (rot M.length s k) := List.take_of_length_le (by omega)
    simp (disch := omega) only [Try.ntmps45, Try.results45, go_sem, rr_eq, hm, hil, hit, hsn]
    exact ⟨(k + 1, nb2 + 1, nb2 + 1 + 1), ⟨hlt2, by show ob < nb2 + 1; omega, by show nb2 + 1 < nb2 + 1 + 1; omega⟩, by show M.length - (k + 1) < M.length - k; omega, Wk.ofH (by simp only [go_sem, ↓List.forall_mem_cons, List.not_mem_nil, false_implies, implies_true, and_true, true_and, and_self, ri_eq, Int.natCast_add, Int.cast_ofNat_Int, rr_eq]; try simp) (by simp (disch := omega) only [go_sem, ↓List.forall_mem_cons, List.not_mem_nil, false_implies, implies_true, and_true, true_and, and_self, ri_eq, Int.natCast_add, Int.cast_ofNat_Int, if_pos, if_neg, Nat.reduceAdd, List.nil_append]; try simp) (Nat.le_refl _)⟩
  · obtain rfl : k = M.length := by omega
    by_cases hc : t.2 < 0
    · rw [if_pos (.inl hc)] at hnext
      subst hnext
      generalize piv M (rot M.length s M.length) = l at *
      generalize cc M l M.length = c at *
      simp (disch := omega) only [Try.ntmps45, Try.results45, go_sem, rr_eq]
      refine wp.callOne (ints_vals _) 2 (viewL_cons_of view_row (viewL_cons_of (view_own (by rw [hp_map, hmap_cons, if_pos rfl]) (by omega)) viewL_nil_of)) ?_
      simp (disch := omega) only [Try.ntmps45, Try.results45, go_sem, rr_eq]
      refine wc.callV 2 (viewL_cons_of view_row (viewL_cons_of (view_own (by rw [hp_map, hmap_cons, if_pos rfl]) (by omega)) viewL_nil_of)) ?_
      simp (disch := omega) only [Try.ntmps45, Try.results45, go_sem, rr_eq]
      exact ⟨(s + 1, nb2, nb2 + 1), ⟨hlt, by show nb2 < nb2 + 1; omega⟩, by show M.length - (s + 1) < M.length - s; omega, Wk.ofH (by simp only [go_sem, ↓List.forall_mem_cons, List.not_mem_nil, false_implies, implies_true, and_true, true_and, and_self, ri_eq, Int.natCast_add, Int.cast_ofNat_Int, rr_eq, hb1, hpl]; try simp) (by simp (disch := omega) only [go_sem, ↓List.forall_mem_cons, List.not_mem_nil, false_implies, implies_true, and_true, true_and, and_self, ri_eq, Int.natCast_add, Int.cast_ofNat_Int, if_pos, if_neg, Nat.reduceAdd, List.nil_append, hb1]; try simp) (Nat.le_refl _)⟩
    · by_cases hc2 : cc M (piv M (rot M.length s M.length)) M.length < t.2
      · rw [if_pos (.inr hc2)] at hnext
        subst hnext
        generalize piv M (rot M.length s M.length) = l at *
        generalize cc M l M.length = c at *
        simp (disch := omega) only [Try.ntmps45, Try.results45, go_sem, rr_eq]
        refine wp.callOne (ints_vals _) 2 (viewL_cons_of view_row (viewL_cons_of (view_own (by rw [hp_map, hmap_cons, if_pos rfl]) (by omega)) viewL_nil_of)) ?_
        simp (disch := omega) only [Try.ntmps45, Try.results45, go_sem, rr_eq]
        refine wc.callV 2 (viewL_cons_of view_row (viewL_cons_of (view_own (by rw [hp_map, hmap_cons, if_pos rfl]) (by omega)) viewL_nil_of)) ?_
        simp (disch := omega) only [Try.ntmps45, Try.results45, go_sem, rr_eq]
        exact ⟨(s + 1, nb2, nb2 + 1), ⟨hlt, by show nb2 < nb2 + 1; omega⟩, by show M.length - (s + 1) < M.length - s; omega, Wk.ofH (by simp only [go_sem, ↓List.forall_mem_cons, List.not_mem_nil, false_implies, implies_true, and_true, true_and, and_self, ri_eq, Int.natCast_add, Int.cast_ofNat_Int, rr_eq, hb1, hpl]; try simp) (by simp (disch := omega) only [go_sem, ↓List.forall_mem_cons, List.not_mem_nil, false_implies, implies_true, and_true, true_and, and_self, ri_eq, Int.natCast_add, Int.cast_ofNat_Int, if_pos, if_neg, Nat.reduceAdd, List.nil_append, hb1]; try simp) (Nat.le_refl _)⟩
      · rw [if_neg (fun h => h.elim hc hc2)] at hnext
        subst hnext
        generalize piv M (rot M.length s M.length) = l at *
        generalize cc M l M.length = c at *
        simp (disch := omega) only [Try.ntmps45, Try.results45, go_sem, rr_eq]
        refine wp.callOne (ints_vals _) 2 (viewL_cons_of view_row (viewL_cons_of (view_own (by rw [hp_map, hmap_cons, if_pos rfl]) (by omega)) viewL_nil_of)) ?_
        simp (disch := omega) only [Try.ntmps45, Try.results45, go_sem, rr_eq]
        refine wc.callV 2 (viewL_cons_of view_row (viewL_cons_of (view_own (by rw [hp_map, hmap_cons, if_pos rfl]) (by omega)) viewL_nil_of)) ?_
        simp (disch := omega) only [Try.ntmps45, Try.results45, go_sem, rr_eq]
        exact ⟨(s + 1, ob, nb2 + 1), ⟨hlt, by show ob < nb2 + 1; omega⟩, by show M.length - (s + 1) < M.length - s; omega, Wk.ofH (by simp only [go_sem, ↓List.forall_mem_cons, List.not_mem_nil, false_implies, implies_true, and_true, true_and, and_self, ri_eq, Int.natCast_add, Int.cast_ofNat_Int, rr_eq, hb1]; try simp) (by simp (disch := omega) only [go_sem, ↓List.forall_mem_cons, List.not_mem_nil, false_implies, implies_true, and_true, true_and, and_self, ri_eq, Int.natCast_add, Int.cast_ofNat_Int, if_pos, if_neg, Nat.reduceAdd, List.nil_append, hb1]; try simp) (Nat.le_refl _)⟩
end Go.Sh

/-
  The best of the orders that begin with each item: of the program.
-/
namespace Go.Sh
set_option linter.unusedSimpArgs false
set_option linter.unusedVariables false
open Go Go.Proofs

/-- A slice of ints that is nil as long as it is empty. -/
def nlI (b : Nat) (T : List Int) : SV := if T.length = 0 then .val (.slice none 0 0) else .own b 0 T.length T.length 1 false
def nlH (b : Nat) (T : List Int) : List (Nat × Blk) := if T.length = 0 then [] else [(b, ⟨ints T, false⟩)]
theorem nlI_f {b : Nat} {T : List Int} (h : T.length ≠ 0) : nlI b T = .own b 0 T.length T.length 1 false := if_neg h
theorem nlH_f {b : Nat} {T : List Int} (h : T.length ≠ 0) : nlH b T = [(b, ⟨ints T, false⟩)] := if_neg h
theorem nlI_t {b : Nat} {T : List Int} (h : T.length = 0) : nlI b T = .val (.slice none 0 0) := if_pos h
theorem nlH_t {b : Nat} {T : List Int} (h : T.length = 0) : nlH b T = [] := if_pos h
theorem nlH_in {b : Nat} {T : List Int} {H : Heap} (h : T.length ≠ 0 → H.map b = some ⟨ints T, false⟩) : ∀ q ∈ nlH b T, H.map q.1 = some q.2 := by
  intro q hq
  unfold nlH at hq
  split at hq
  · simp at hq
  · rename_i h0
    simp at hq; subst hq
    exact h h0
theorem nlH_map {b : Nat} {T : List Int} (h : T.length ≠ 0) : hmap (nlH b T) b = some ⟨ints T, false⟩ := by rw [nlH_f h, hmap_cons, if_pos rfl]

theorem nlI_nil (b : Nat) : nlI b [] = .val (.slice none 0 0) := rfl
theorem delB_nlH {b x : Nat} {T : List Int} (h : T.length ≠ 0 → b ≠ x) : delB (nlH b T) x = nlH b T := by
  by_cases h0 : T.length = 0
  · rw [nlH_t h0]; rfl
  · rw [nlH_f h0]; have := h h0; simp [delB, this]

set_option maxRecDepth 20000 in
set_option maxHeartbeats 8000000 in
theorem Try.implBP_f (M : List (List Int)) (hM : M.length ≤ 1048576) (hR : ∀ i, i < M.length → (mrow M i).length ≤ 1048576) (hw : WM M) : FCall Try.prog 44 [rr M] (BpR (bp M)) := by
  have w1 := Try.implIsWM_ok M hM hR
  rw [isWM_t hw] at w1
  rw [bp_t hw]
  have hln := hw.1
  refine FCall.of_body Try.func44 rfl (by kernel_rfl) (by simp [Try.ntmps44]) ?_
  refine SW_of_vc Try.mixed _ _ _ (by kernel_rfl) ?_
  simp (disch := omega) only [Try.ntmps44, Try.results44, go_sem, rr_eq]
  refine w1.callV 0 (viewL_cons_of (view_row) viewL_nil_of) ?_
  simp (disch := omega) only [Try.ntmps44, Try.results44, go_sem, rr_eq]
  clear w1
  refine LoopW.loop (fun p : Nat × Nat × Nat => ⟨ofL [(0, rr M), (4, nlI p.2.1 (bpv M p.1).1), (5, .val (.int .i64 (bpv M p.1).2)), (15, .val (.int .i64 M.length)), (16, .val (.int .i64 p.1))], hp (nlH p.2.1 (bpv M p.1).1) p.2.2⟩)
    (fun p => p.1 ≤ M.length ∧ ((bpv M p.1).1.length ≠ 0 → p.2.1 < p.2.2)) (fun p => M.length - p.1) (0, 0, 0) ⟨by simp, fun h => absurd rfl h⟩ (Wk.ofH (by simp only [go_sem, ↓List.forall_mem_cons, List.not_mem_nil, false_implies, implies_true, and_true, true_and, and_self, ri_eq, Int.natCast_add, Int.cast_ofNat_Int, rr_eq, bpv, nlI_nil]; try simp) (by simp [nlH, bpv]) (by simp [hp])) ?_
  rintro ⟨s, ob, nb⟩ ⟨hs, hob⟩
  simp only at hs hob
  refine SW_of_vc Try.mixed _ _ _ (by kernel_rfl) ?_
  by_cases hlt : s < M.length
  case neg =>
    obtain rfl : s = M.length := by omega
    have hl : (bpv M M.length).1.length ≠ 0 := by
      rcases bpv_inv hw M.length (Nat.le_refl _) with h | h
      · omega
      · omega
    have e1 := nlI_f (b := ob) hl
    have e2 := nlH_map (b := ob) hl
    simp (disch := omega) only [Try.ntmps44, Try.results44, go_sem, rr_eq, e1]
    exact fin_tup (by simp [ints]) (ints_vals _) (by rw [hp_map, e2])
  have hord := rot_ord (n := M.length) (s := s) (by omega) hw.1.2 hlt
  have hb := cc_b (L := piv M (rot M.length s M.length)) hw M.length (Nat.le_refl _)
  have hpl := piv_length ⟨hw, hord⟩
  have wp := Try.implPiv_one M (rot M.length s M.length) hM hR (by rw [rot_length]; exact hM) ⟨hw, hord⟩
  have wc := Try.implCost_ok M (piv M (rot M.length s M.length)) hw hpl
  rw [hpl] at wc
  have hnext : bpv M (s + 1) = if (bpv M s).2 < 0 ∨ cc M (piv M (rot M.length s M.length)) M.length < (bpv M s).2 then (piv M (rot M.length s M.length), cc M (piv M (rot M.length s M.length)) M.length) else bpv M s := rfl
  generalize hb1 : bpv M (s + 1) = t2 at *
  generalize hb0 : bpv M s = t at *
  simp (disch := omega) only [Try.ntmps44, Try.results44, go_sem, rr_eq]
  refine LoopW.loop (fun p : Nat × Nat × Nat => ⟨ofL [(0, rr M), (4, nlI ob t.1), (5, .val (.int .i64 t.2)), (6, .val (.int .i64 s)), (7, nlI p.2.1 (rot M.length s p.1)), (15, .val (.int .i64 M.length)), (16, .val (.int .i64 s)), (20, .val (.int .i64 M.length)), (21, .val (.int .i64 p.1))], hp (nlH p.2.1 (rot M.length s p.1) ++ nlH ob t.1) p.2.2⟩)
    (fun p => p.1 ≤ M.length ∧ nb ≤ p.2.2 ∧ (p.1 ≠ 0 → nb ≤ p.2.1 ∧ p.2.1 < p.2.2)) (fun p => M.length - p.1) (0, nb, nb) ⟨by simp, by simp, fun h => absurd rfl h⟩ (Wk.ofH (by simp only [go_sem, ↓List.forall_mem_cons, List.not_mem_nil, false_implies, implies_true, and_true, true_and, and_self, ri_eq, Int.natCast_add, Int.cast_ofNat_Int, rr_eq, nlI_t (T := rot M.length s 0) rfl]; try simp) (by
      rw [nlH_t (T := rot M.length s 0) rfl, List.nil_append]
      exact nlH_in fun h => by rw [hp_map, nlH_map h]) (Nat.le_refl _)) ?_
  rintro ⟨k, ob2, nb2⟩ ⟨hk, hn2, ho2⟩
  simp only at hk hn2 ho2
  refine SW_of_vc Try.mixed _ _ _ (by kernel_rfl) ?_
  have hrl := rot_length M.length s k
  by_cases hlt2 : k < M.length
  · have hm := rot_mod s k M.length
    have hsn := rot_snoc M.length s k
    have hlt3 : (s + k) % M.length < M.length := Nat.mod_lt _ (by omega)
    have hl2 := rot_length M.length s (k + 1)
    have e2 : ∀ b, nlI b (rot M.length s (k + 1)) = .own b 0 (k + 1) (k + 1) 1 false := fun b => by rw [nlI_f (by omega), hl2]
    have e3 : ∀ b, nlH b (rot M.length s (k + 1)) = [(b, ⟨ints (rot M.length s (k + 1)), false⟩)] := fun b => nlH_f (by omega)
    by_cases hz : k = 0
    · have hkl : (rot M.length s k).length = 0 := by omega
      have e0 := nlI_t (b := ob2) hkl
      have h0 := nlH_t (b := ob2) hkl
      have hsn0 : [SV.val (.int .i64 (((s + k) % M.length : Nat) : Int))] = ints (rot M.length s (k + 1)) := by rw [← hsn, List.length_eq_zero_iff.1 hkl]; rfl
      have e2z : ∀ b, nlI b (rot M.length s (k + 1)) = .own b 0 1 1 1 false := fun b => by
        have hk1 : k + 1 = 1 := by omega
        rw [e2, hk1]
      simp (disch := omega) only [Try.ntmps44, Try.results44, go_sem, rr_eq, hm, e0, h0, List.nil_append]
      refine ⟨(k + 1, nb2 + 1, nb2 + 1 + 1), ⟨hlt2, by show nb ≤ nb2 + 1 + 1; omega, fun _ => ⟨by show nb ≤ nb2 + 1; omega, by show nb2 + 1 < nb2 + 1 + 1; omega⟩⟩, by show M.length - (k + 1) < M.length - k; omega, Wk.ofH (by simp only [go_sem, ↓List.forall_mem_cons, List.not_mem_nil, false_implies, implies_true, and_true, true_and, and_self, ri_eq, Int.natCast_add, Int.cast_ofNat_Int, rr_eq, e2z]; try simp) ?_ (Nat.le_refl _)⟩
      show ∀ q ∈ nlH (nb2 + 1) (rot M.length s (k + 1)) ++ nlH ob t.1, _
      rw [e3, List.cons_append, List.nil_append, List.forall_mem_cons]
      refine ⟨?_, nlH_in fun h => ?_⟩
      · rw [← hsn0]; simp (disch := omega) only [hp_map, hmap_cons, if_pos, if_neg, ↓reduceIte]
      · have := hob h
        show hmap _ ob = _
        simp (disch := omega) only [hmap_cons, if_neg]
        exact nlH_map h
    · have hkl : (rot M.length s k).length ≠ 0 := by omega
      obtain ⟨o1, o2⟩ := ho2 hz
      have e0 := nlI_f (b := ob2) hkl
      have h0 := nlH_f (b := ob2) hkl
      rw [hrl] at e0
      have hil : (ints (rot M.length s k)).length = k := by rw [ints_length, hrl]
      have hit : (ints (rot M.length s k)).take k = ints (rot M.length s k) := List.take_of_length_le (by omega)
      have hdel : delB (nlH ob t.1) ob2 = nlH ob t.1 := delB_nlH fun h => by have := hob h; omega
      simp (disch := omega) only [Try.ntmps44, Try.results44, go_sem, rr_eq, hm, e0, h0, List.cons_append, List.nil_append, hil, hit, hsn, hdel]
      refine ⟨(k + 1, nb2 + 1, nb2 + 1 + 1), ⟨hlt2, by show nb ≤ nb2 + 1 + 1; omega, fun _ => ⟨by show nb ≤ nb2 + 1; omega, by show nb2 + 1 < nb2 + 1 + 1; omega⟩⟩, by show M.length - (k + 1) < M.length - k; omega, Wk.ofH (by simp only [go_sem, ↓List.forall_mem_cons, List.not_mem_nil, false_implies, implies_true, and_true, true_and, and_self, ri_eq, Int.natCast_add, Int.cast_ofNat_Int, rr_eq, e2]; try simp) ?_ (Nat.le_refl _)⟩
      show ∀ q ∈ nlH (nb2 + 1) (rot M.length s (k + 1)) ++ nlH ob t.1, _
      rw [e3, List.cons_append, List.nil_append, List.forall_mem_cons]
      refine ⟨?_, nlH_in fun h => ?_⟩
      · simp (disch := omega) only [hp_map, hmap_cons, if_pos, if_neg, ↓reduceIte]
      · have := hob h
        show hmap _ ob = _
        simp (disch := omega) only [hmap_cons, if_neg]
        exact nlH_map h
  · obtain rfl : k = M.length := by omega
    obtain ⟨o1, o2⟩ := ho2 (by omega)
    have hkl : (rot M.length s M.length).length ≠ 0 := by omega
    have e0 := nlI_f (b := ob2) hkl
    have h0 := nlH_f (b := ob2) hkl
    rw [hrl] at e0
    by_cases hc : t.2 < 0 ∨ cc M (piv M (rot M.length s M.length)) M.length < t.2
    · rw [if_pos hc] at hnext
      subst hnext
      generalize piv M (rot M.length s M.length) = l at *
      generalize cc M l M.length = c at *
      have e4 : ∀ b, nlI b l = .own b 0 M.length M.length 1 false := fun b => by rw [nlI_f (by omega), hpl]
      have e5 : ∀ b, nlH b l = [(b, ⟨ints l, false⟩)] := fun b => nlH_f (by omega)
      by_cases hc1 : t.2 < 0
      · simp (disch := omega) only [Try.ntmps44, Try.results44, go_sem, rr_eq, e0, h0, List.cons_append, List.nil_append]
        refine wp.callOne (ints_vals _) 2 (viewL_cons_of view_row (viewL_cons_of (view_own (by rw [hp_map, hmap_cons, if_pos rfl]) (by omega)) viewL_nil_of)) ?_
        simp (disch := omega) only [Try.ntmps44, Try.results44, go_sem, rr_eq]
        refine wc.callV 2 (viewL_cons_of view_row (viewL_cons_of (view_own (by rw [hp_map, hmap_cons, if_pos rfl]) (by omega)) viewL_nil_of)) ?_
        simp (disch := omega) only [Try.ntmps44, Try.results44, go_sem, rr_eq]
        refine ⟨(s + 1, nb2, nb2 + 1), ⟨hlt, fun _ => by show nb2 < nb2 + 1; omega⟩, by show M.length - (s + 1) < M.length - s; omega, Wk.ofH (by simp only [go_sem, ↓List.forall_mem_cons, List.not_mem_nil, false_implies, implies_true, and_true, true_and, and_self, ri_eq, Int.natCast_add, Int.cast_ofNat_Int, rr_eq, hb1, e4]; try simp) ?_ (Nat.le_refl _)⟩
        show ∀ q ∈ nlH nb2 (bpv M (s + 1)).1, _
        rw [hb1]
        exact nlH_in fun _ => by show hmap _ nb2 = _; rw [hmap_cons, if_pos rfl]
      · have hc2 : c < t.2 := hc.resolve_left hc1
        simp (disch := omega) only [Try.ntmps44, Try.results44, go_sem, rr_eq, e0, h0, List.cons_append, List.nil_append]
        refine wp.callOne (ints_vals _) 2 (viewL_cons_of view_row (viewL_cons_of (view_own (by rw [hp_map, hmap_cons, if_pos rfl]) (by omega)) viewL_nil_of)) ?_
        simp (disch := omega) only [Try.ntmps44, Try.results44, go_sem, rr_eq]
        refine wc.callV 2 (viewL_cons_of view_row (viewL_cons_of (view_own (by rw [hp_map, hmap_cons, if_pos rfl]) (by omega)) viewL_nil_of)) ?_
        simp (disch := omega) only [Try.ntmps44, Try.results44, go_sem, rr_eq]
        refine ⟨(s + 1, nb2, nb2 + 1), ⟨hlt, fun _ => by show nb2 < nb2 + 1; omega⟩, by show M.length - (s + 1) < M.length - s; omega, Wk.ofH (by simp only [go_sem, ↓List.forall_mem_cons, List.not_mem_nil, false_implies, implies_true, and_true, true_and, and_self, ri_eq, Int.natCast_add, Int.cast_ofNat_Int, rr_eq, hb1, e4]; try simp) ?_ (Nat.le_refl _)⟩
        show ∀ q ∈ nlH nb2 (bpv M (s + 1)).1, _
        rw [hb1]
        exact nlH_in fun _ => by show hmap _ nb2 = _; rw [hmap_cons, if_pos rfl]
    · rw [if_neg hc] at hnext
      subst hnext
      generalize piv M (rot M.length s M.length) = l at *
      generalize cc M l M.length = c at *
      have hc1 : ¬ t2.2 < 0 := fun h => hc (.inl h)
      have hc2 : ¬ c < t2.2 := fun h => hc (.inr h)
      simp (disch := omega) only [Try.ntmps44, Try.results44, go_sem, rr_eq, e0, h0, List.cons_append, List.nil_append]
      refine wp.callOne (ints_vals _) 2 (viewL_cons_of view_row (viewL_cons_of (view_own (by rw [hp_map, hmap_cons, if_pos rfl]) (by omega)) viewL_nil_of)) ?_
      simp (disch := omega) only [Try.ntmps44, Try.results44, go_sem, rr_eq]
      refine wc.callV 2 (viewL_cons_of view_row (viewL_cons_of (view_own (by rw [hp_map, hmap_cons, if_pos rfl]) (by omega)) viewL_nil_of)) ?_
      simp (disch := omega) only [Try.ntmps44, Try.results44, go_sem, rr_eq]
      refine ⟨(s + 1, ob, nb2 + 1), ⟨hlt, fun h => by
        show ob < nb2 + 1
        have h : (bpv M (s + 1)).1.length ≠ 0 := h
        rw [hb1] at h
        have := hob h; omega⟩, by show M.length - (s + 1) < M.length - s; omega, Wk.ofH (by simp only [go_sem, ↓List.forall_mem_cons, List.not_mem_nil, false_implies, implies_true, and_true, true_and, and_self, ri_eq, Int.natCast_add, Int.cast_ofNat_Int, rr_eq, hb1]; try simp) ?_ (Nat.le_refl _)⟩
      show ∀ q ∈ nlH ob (bpv M (s + 1)).1, _
      rw [hb1]
      refine nlH_in fun h => ?_
      have := hob h
      show hmap _ ob = _
      simp (disch := omega) only [hmap_cons, if_neg]
      exact nlH_map h

theorem Try.implBP_n (M : List (List Int)) (hM : M.length ≤ 1048576) (hR : ∀ i, i < M.length → (mrow M i).length ≤ 1048576) (hw : ¬ WM M) : FCall Try.prog 44 [rr M] (fun r _ => r = .tup ([.slice none 0 0, .int .i64 (-1)].map .val)) := by
  have w1 := Try.implIsWM_ok M hM hR
  rw [isWM_f hw] at w1
  refine FCall.of_body Try.func44 rfl (by kernel_rfl) (by simp [Try.ntmps44]) ?_
  refine SW_of_vc Try.mixed _ _ _ (by kernel_rfl) ?_
  simp (disch := omega) only [Try.ntmps44, Try.results44, go_sem, rr_eq]
  refine w1.callV 0 (viewL_cons_of (view_row) viewL_nil_of) ?_
  simp (disch := omega) only [Try.ntmps44, Try.results44, go_sem, rr_eq]
  exact ⟨⟨fun _ => none, 0⟩, ⟨rfl, fun _ => .inl rfl⟩, by simp [noRow, noRowL], fun b blk hb => by simp at hb, rfl⟩
theorem view_tupJ {L : List Int} {n : Nat} {u : Int} {r r0 : SV} {H : Heap} (h : r = .tup [r0, .val (.int .i64 u)]) (hf : FlatRes n 1 (ints L) r0 H) : view H 3 r = some (.tup [ri L, .val (.int .i64 u)]) := by
  subst h
  have h1 : viewL H 2 [r0, .val (.int .i64 u)] = some [ri L, .val (.int .i64 u)] := viewL_cons_of (flat_view hf) (viewL_cons_of view_int viewL_nil_of)
  simp only [view, h1]
theorem bp_len {M : List (List Int)} (hw : WM M) : (bp M).1.length = M.length := by
  rw [bp_t hw]
  rcases bpv_inv hw M.length (Nat.le_refl _) with h | h
  · have := hw.1; omega
  · exact h.1
theorem Try.specBP_ok (M : List (List Int)) (hM : M.length ≤ 1048576) (hR : ∀ i, i < M.length → (mrow M i).length ≤ 1048576) : PCall Try.prog 45 [rr M] (.tup [ri (bp M).1, .val (.int .i64 (bp M).2)]) :=
  (Try.specBP_f M hM hR).pcall 3 (fun r H ⟨r0, h1, h2⟩ => view_tupJ h1 h2)
theorem Try.implBP_ok (M : List (List Int)) (hM : M.length ≤ 1048576) (hR : ∀ i, i < M.length → (mrow M i).length ≤ 1048576) : PCall Try.prog 44 [rr M] (.tup [ri (bp M).1, .val (.int .i64 (bp M).2)]) := by
  by_cases hw : WM M
  · exact (Try.implBP_f M hM hR hw).pcall 3 (fun r H ⟨r0, h1, h2⟩ => view_tupJ h1 h2)
  · rw [bp_f hw]
    refine (Try.implBP_n M hM hR hw).pcall 3 (by
      rintro r H rfl
      have h1 : viewL H 2 [.val (.slice none 0 0), .val (.int .i64 (-1))] = some [ri [], .val (.int .i64 (-1))] := viewL_cons_of view_nil (viewL_cons_of view_int viewL_nil_of)
      simp only [List.map_cons, List.map_nil, view, h1])
theorem Try.implBP_o (M : List (List Int)) (hM : M.length ≤ 1048576) (hR : ∀ i, i < M.length → (mrow M i).length ≤ 1048576) (hw : WM M) :
    FCall Try.prog 44 [rr M] (fun r H => r = .tup [.own 0 0 M.length M.length 1 false, .val (.int .i64 (bp M).2)] ∧ H = Heap.one ⟨ints (bp M).1, false⟩) := by
  have := (Try.implBP_f M hM hR hw).oneT
  rw [bp_len hw] at this
  exact this
end Go.Sh

/-
  The search for the best partition: of the program.
-/
namespace Go.Sh
set_option linter.unusedSimpArgs false
set_option linter.unusedVariables false
open Go Go.Proofs

theorem hset_map (H : Heap) (b x : Nat) (k : Option Blk) : (H.set b k).map x = if x = b then k else H.map x := rfl
theorem hset_nb (H : Heap) (b : Nat) (k : Option Blk) : (H.set b k).nb = H.nb := rfl
theorem hpush_map (H : Heap) (x : Nat) (k : Blk) : (H.push k).map x = if x = H.nb then some k else H.map x := rfl
theorem hpush_nb (H : Heap) (k : Blk) : (H.push k).nb = H.nb + 1 := rfl

def yClos : SV := .clos (.func 152) [] [.optr 1 0, .optr 0 0, .optr 3 0, .optr 2 0, .optr 4 0]
def fClos : SV := .clos (.func 165) [] [.optr 5 0, .optr 6 0, .optr 8 0, .optr 9 0]
/-- What best and eachPartition hold in memory. -/
structure EH (M : List (List Int)) (C : List Con) (H : Heap) (s : BS) (fb : Nat) (W : List Int) : Prop where
  m0 : H.map 0 = some ⟨[rr M], true⟩
  m1 : H.map 1 = some ⟨[rc C], true⟩
  m2 : H.map 2 = some ⟨[nlI fb s.first], true⟩
  m3 : H.map 3 = some ⟨[.val (.int .i64 s.least)], true⟩
  m4 : H.map 4 = some ⟨[.val (.int .i64 s.count)], true⟩
  m5 : H.map 5 = some ⟨[.val (.int .i64 M.length)], true⟩
  m6 : H.map 6 = some ⟨[yClos], true⟩
  m7 : H.map 7 = some ⟨ints W, true⟩
  m8 : H.map 8 = some ⟨[.own 7 0 M.length M.length 1 true], true⟩
  m9 : H.map 9 = some ⟨[fClos], true⟩
  mf : s.first.length ≠ 0 → H.map fb = some ⟨ints s.first, false⟩
  bf : s.first.length ≠ 0 → 10 ≤ fb ∧ fb < H.nb
  nb : 10 ≤ H.nb
def EQ (M : List (List Int)) (C : List Con) (t : BS) (p : List Int) (n : Nat) (r : SV) (H' : Heap) : Prop := r = .tup [] ∧ ∃ fb', EH M C H' t fb' p ∧ n ≤ H'.nb

set_option maxRecDepth 20000 in
set_option maxHeartbeats 4000000 in
theorem Try.yield_ok {M : List (List Int)} {C : List Con} (hw : WM M) (hC : C.length ≤ 1048576) (s : BS) (p : List Int) (hpl : p.length = M.length) (hcnt : s.count ≤ 1000000000) (fb : Nat) (H : Heap) (h : EH M C H s fb p) :
    CallS Try.prog 152 [.own 7 0 M.length M.length 1 true, .optr 1 0, .optr 0 0, .optr 3 0, .optr 2 0, .optr 4 0] H (EQ M C (updB M C s p) p H.nb) := by
  have hln := hw.1
  have wk := Try.keeps_ok p C (by omega) hC
  have wc := Try.implCost_ok M p hw hpl
  rw [hpl] at wc
  have hc := cc_b (L := p) hw M.length (Nat.le_refl _)
  have hu : updB M C s p = updB M C s p := rfl
  conv at hu => rhs; rw [updB, hpl]
  generalize updB M C s p = t at *
  have hnb := h.nb
  have m0 := h.m0
  have m1 := h.m1
  have m2 := h.m2
  have m3 := h.m3
  have m4 := h.m4
  have m7 := h.m7
  refine CallS.of_body Try.func152 rfl (by kernel_rfl) (by simp [Try.ntmps152]) ?_
  refine SW_of_vc Try.mixed _ _ _ (by kernel_rfl) ?_
  rcases Bool.eq_false_or_eq_true (C.all (kp p)) with hk | hk
  · rw [hk] at wk
    rw [if_pos hk] at hu
    generalize hcc : cc M p M.length = z at *
    have wl := (Try.clone_f p (by omega) (by omega)).one
    by_cases g1 : s.least < 0 ∨ z < s.least
    · rw [if_pos g1] at hu
      have hfin : EQ M C t p H.nb (.tup []) ((((H.push ⟨ints p, false⟩).set 2 (some ⟨[.own H.nb 0 M.length M.length 1 false], true⟩)).set 3 (some ⟨[.val (.int .i64 z)], true⟩)).set 4 (some ⟨[.val (.int .i64 1)], true⟩)) := by
        subst hu
        refine ⟨rfl, H.nb, ⟨?_, ?_, ?_, ?_, ?_, ?_, ?_, ?_, ?_, ?_, ?_, ?_, ?_⟩, by simp only [hset_nb, hpush_nb]; omega⟩
        all_goals simp (disch := omega) only [hset_map, hpush_map, hset_nb, hpush_nb, if_neg, ↓reduceIte, Nat.reduceEqDiff, h.m0, h.m1, h.m5, h.m6, h.m7, h.m8, h.m9]
        · rw [nlI_f (by omega), hpl]
        · rfl
        · exact fun _ => trivial
        · intro _; omega
        · omega
      rw [hpl] at wl
      have p0 : ∀ k, (H.push k).map 2 = some ⟨[nlI fb s.first], true⟩ := fun k => by rw [hpush_map, if_neg (by omega), m2]
      have p1 : ∀ k, (H.push k).map 3 = some ⟨[.val (.int .i64 s.least)], true⟩ := fun k => by rw [hpush_map, if_neg (by omega), m3]
      have p2 : ∀ k, (H.push k).map 4 = some ⟨[.val (.int .i64 s.count)], true⟩ := fun k => by rw [hpush_map, if_neg (by omega), m4]
      simp (disch := omega) only [Try.ntmps152, Try.results152, go_sem, rc, m1]
      refine wk.callV 2 (viewL_cons_of (view_own (L := p) (e2 := true) m7 hpl.symm) (viewL_cons_of view_row viewL_nil_of)) ?_
      simp (disch := omega) only [Try.ntmps152, Try.results152, go_sem, rc, m0]
      refine wc.callV 2 (viewL_cons_of view_row (viewL_cons_of (view_own (L := p) (e2 := true) m7 hpl.symm) viewL_nil_of)) ?_
      have hgd : s.least < 0 ∨ (¬ s.least < 0 ∧ z < s.least) := by omega
      rcases hgd with hg | ⟨hg, hg2⟩
      · simp (disch := omega) only [Try.ntmps152, Try.results152, go_sem, rc, m3]
        refine wl.callOne (ints_vals _) 2 (viewL_cons_of (view_own (L := p) (e2 := true) m7 hpl.symm) viewL_nil_of) ?_
        simp (disch := omega) only [Try.ntmps152, Try.results152, go_sem, rc, p0, p1, p2, hset_map]
        exact hfin
      · simp (disch := omega) only [Try.ntmps152, Try.results152, go_sem, rc, m3]
        refine wl.callOne (ints_vals _) 2 (viewL_cons_of (view_own (L := p) (e2 := true) m7 hpl.symm) viewL_nil_of) ?_
        simp (disch := omega) only [Try.ntmps152, Try.results152, go_sem, rc, p0, p1, p2, hset_map]
        exact hfin
    · rw [if_neg g1] at hu
      by_cases g2 : z = s.least
      · rw [if_pos g2] at hu
        have hfin : EQ M C t p H.nb (.tup []) (H.set 4 (some ⟨[.val (.int .i64 ((s.count : Int) + 1))], true⟩)) := by
          subst hu
          refine ⟨rfl, fb, ⟨?_, ?_, ?_, ?_, ?_, ?_, ?_, ?_, ?_, ?_, fun hf => ?_, h.bf, h.nb⟩, by simp only [hset_nb]; omega⟩
          all_goals simp (disch := omega) only [hset_map, hset_nb, if_neg, ↓reduceIte, Nat.reduceEqDiff, h.m0, h.m1, h.m2, h.m3, h.m5, h.m6, h.m7, h.m8, h.m9]
          · rfl
          · have := h.bf hf
            rw [if_neg (by omega)]; exact h.mf hf
        simp (disch := omega) only [Try.ntmps152, Try.results152, go_sem, rc, m1]
        refine wk.callV 2 (viewL_cons_of (view_own (L := p) (e2 := true) m7 hpl.symm) (viewL_cons_of view_row viewL_nil_of)) ?_
        simp (disch := omega) only [Try.ntmps152, Try.results152, go_sem, rc, m0]
        refine wc.callV 2 (viewL_cons_of view_row (viewL_cons_of (view_own (L := p) (e2 := true) m7 hpl.symm) viewL_nil_of)) ?_
        simp (disch := omega) only [Try.ntmps152, Try.results152, go_sem, rc, m3, m4]
        exact hfin
      · rw [if_neg g2] at hu
        subst hu
        have hfin : EQ M C t p H.nb (.tup []) H := ⟨rfl, fb, h, Nat.le_refl _⟩
        simp (disch := omega) only [Try.ntmps152, Try.results152, go_sem, rc, m1]
        refine wk.callV 2 (viewL_cons_of (view_own (L := p) (e2 := true) m7 hpl.symm) (viewL_cons_of view_row viewL_nil_of)) ?_
        simp (disch := omega) only [Try.ntmps152, Try.results152, go_sem, rc, m0]
        refine wc.callV 2 (viewL_cons_of view_row (viewL_cons_of (view_own (L := p) (e2 := true) m7 hpl.symm) viewL_nil_of)) ?_
        simp (disch := omega) only [Try.ntmps152, Try.results152, go_sem, rc, m3]
        exact hfin
  · rw [hk] at wk
    rw [if_neg (by rw [hk]; simp)] at hu
    subst hu
    have hfin : EQ M C t p H.nb (.tup []) H := ⟨rfl, fb, h, Nat.le_refl _⟩
    simp (disch := omega) only [Try.ntmps152, Try.results152, go_sem, rc, m1]
    refine wk.callV 2 (viewL_cons_of (view_own (L := p) (e2 := true) m7 hpl.symm) (viewL_cons_of view_row viewL_nil_of)) ?_
    simp (disch := omega) only [Try.ntmps152, Try.results152, go_sem, rc]
    exact hfin

def FQ (M : List (List Int)) (C : List Con) (t : BS) (p : List Int) (n : Nat) (r : SV) (H' : Heap) : Prop := r = .tup [] ∧ ∃ fb' W', EH M C H' t fb' W' ∧ n ≤ H'.nb ∧ W'.length = M.length ∧ W'.take p.length = p
theorem EH.put {M : List (List Int)} {C : List Con} {H : Heap} {s : BS} {fb : Nat} {W V : List Int} (h : EH M C H s fb W) : EH M C (H.set 7 (some ⟨ints V, true⟩)) s fb V := by
  refine ⟨?_, ?_, ?_, ?_, ?_, ?_, ?_, ?_, ?_, ?_, fun hf => ?_, h.bf, h.nb⟩
  all_goals simp (disch := omega) only [hset_map, hset_nb, if_neg, ↓reduceIte, Nat.reduceEqDiff, h.m0, h.m1, h.m2, h.m3, h.m4, h.m5, h.m6, h.m8, h.m9]
  have := h.bf hf
  rw [if_neg (by omega)]; exact h.mf hf
theorem take_set {W p : List Int} {x : Int} (hl : p.length < W.length) (h : W.take p.length = p) : (W.set p.length x).take (p.length + 1) = p ++ [x] := by
  rw [List.take_succ_eq_append_getElem (by simpa using hl)]
  simp [List.take_set_of_le, h]
def eachTo (M : List (List Int)) (C : List Con) (k : Nat) (p : List Int) (nx : Nat) (s : BS) (x : Nat) : BS := (List.range x).foldl (fun s (x : Nat) => each (updB M C) k (p ++ [(x : Int)]) (max nx (x + 1)) s) s
theorem eachTo_succ {M : List (List Int)} {C : List Con} {k : Nat} {p : List Int} {nx : Nat} {s : BS} {x : Nat} : eachTo M C k p nx s (x + 1) = each (updB M C) k (p ++ [(x : Int)]) (max nx (x + 1)) (eachTo M C k p nx s x) := by
  rw [eachTo, List.range_succ, List.foldl_append]; rfl
theorem eachTo_count {M : List (List Int)} {C : List Con} {k : Nat} {p : List Int} {nx : Nat} {s : BS} {x : Nat} (hx : x ≤ nx + 1) (h : nx + (k + 1) ≤ 8) : (eachTo M C k p nx s x).count ≤ s.count + x * 9 ^ k :=
  foldl_count (g := fun s (x : Nat) => each (updB M C) k (p ++ [(x : Int)]) (max nx (x + 1)) s) (B := 9 ^ k) x s fun s y hy => each_count k _ _ s (by omega)

set_option maxRecDepth 20000 in
set_option maxHeartbeats 4000000 in
theorem Try.from_ok {M : List (List Int)} {C : List Con} (hw : WM M) (hC : C.length ≤ 1048576) : ∀ (k : Nat) (p W : List Int) (nx : Nat) (s : BS) (fb : Nat) (H : Heap), p.length + k = M.length → W.length = M.length → W.take p.length = p → nx + k ≤ 8 → s.count + 9 ^ k ≤ 1000000000 → EH M C H s fb W →
    CallS Try.prog 165 [.val (.int .i64 p.length), .val (.int .i64 nx), .optr 5 0, .optr 6 0, .optr 8 0, .optr 9 0] H (FQ M C (each (updB M C) k p nx s) p H.nb)
  | 0, p, W, nx, s, fb, H, hl, hWl, hW, hnx, hc, h => by
    have hln := hw.1
    have hWp : W = p := by rw [← hW, List.take_of_length_le (by omega)]
    subst hWp
    have wy := Try.yield_ok hw hC s W hWl (by omega) fb H h
    have m5 := h.m5
    have m6 := h.m6
    have m8 := h.m8
    rw [each]
    generalize updB M C s W = t at *
    rw [hWl]
    refine CallS.of_body Try.func165 rfl (by kernel_rfl) (by simp [Try.ntmps165]) ?_
    refine SW_of_vc Try.mixed _ _ _ (by kernel_rfl) ?_
    simp (disch := omega) only [Try.ntmps165, Try.results165, go_sem, m5, m6, m8, yClos]
    refine wy.callX ?_
    rintro r H' ⟨rfl, fb', h', hnb⟩
    have hfin : FQ M C t W H.nb (.tup []) H' := ⟨rfl, fb', W, h', hnb, hWl, List.take_length⟩
    simp (disch := omega) only [Try.ntmps165, Try.results165, go_sem]
    exact hfin
  | k + 1, p, W, nx, s, fb, H, hl, hWl, hW, hnx, hc, h => by
    have hln := hw.1
    have m5 := h.m5
    have he : each (updB M C) (k + 1) p nx s = eachTo M C k p nx s (nx + 1) := by rw [each]; rfl
    rw [he]
    have h9 : (nx + 1) * 9 ^ k ≤ 9 * 9 ^ k := mul9 (by omega)
    rw [Nat.pow_succ] at hc
    refine CallS.of_body Try.func165 rfl (by kernel_rfl) (by simp [Try.ntmps165]) ?_
    refine SW_of_vc Try.mixed _ _ _ (by kernel_rfl) ?_
    simp (disch := omega) only [Try.ntmps165, Try.results165, go_sem, m5]
    refine LoopW.loop (fun y : Nat × Nat × List Int × Heap => ⟨ofL [(0, .val (.int .i64 p.length)), (1, .val (.int .i64 nx)), (2, .optr 5 0), (3, .optr 6 0), (4, .optr 8 0), (5, .optr 9 0), (8, .val (.int .i64 y.1))], y.2.2.2⟩)
      (fun y => y.1 ≤ nx + 1 ∧ EH M C y.2.2.2 (eachTo M C k p nx s y.1) y.2.1 y.2.2.1 ∧ H.nb ≤ y.2.2.2.nb ∧ y.2.2.1.length = M.length ∧ y.2.2.1.take p.length = p) (fun y => nx + 1 - y.1) (0, fb, W, H) ⟨by simp, h, Nat.le_refl _, hWl, hW⟩ (Wk.of (by simp only [go_sem, ↓List.forall_mem_cons, List.not_mem_nil, false_implies, implies_true, and_true, true_and, and_self, ri_eq, Int.natCast_add, Int.cast_ofNat_Int]; try simp) rfl) ?_
    clear m5 h hWl hW
    rintro ⟨x, fb, W, H1⟩ ⟨hx, h, hnb, hWl, hW⟩
    simp only at hx h hnb hWl hW
    have m7 := h.m7
    have m8 := h.m8
    have m9 := h.m9
    refine SW_of_vc Try.mixed _ _ _ (by kernel_rfl) ?_
    by_cases hlt : x < nx + 1
    · have h2 := h.put (V := W.set p.length (x : Int))
      have hct := eachTo_count (M := M) (C := C) (p := p) (s := s) hx hnx
      have hx9 : (x + 1) * 9 ^ k ≤ (nx + 1) * 9 ^ k := mul9 (by omega)
      rw [Nat.succ_mul] at hx9
      have wf := Try.from_ok hw hC k (p ++ [(x : Int)]) (W.set p.length (x : Int)) (max nx (x + 1)) _ fb _ (by simp; omega) (by simpa using hWl) (by
        rw [List.length_append, List.length_singleton]; exact take_set (by omega) hW) (by omega) (by omega) h2
      rw [← eachTo_succ] at wf
      have hpl : (p ++ [(x : Int)]).length = p.length + 1 := by simp
      rw [hpl] at wf
      have hil : (ints W).length = M.length := by rw [ints_length, hWl]
      have hst : (ints W).set p.length (.val (.int .i64 (x : Int))) = ints (W.set p.length (x : Int)) := by simp [ints]
      simp (disch := omega) only [Try.ntmps165, Try.results165, go_sem, m7, m8, m9, hil, hst, hset_map, fClos]
      have c1 : ((p.length + 1 : Nat) : Int) = (p.length : Int) + 1 := by omega
      have c2 : ((max nx (x + 1) : Nat) : Int) = if (nx : Int) < (x : Int) + 1 then (x : Int) + 1 else (nx : Int) := by split <;> omega
      rw [c1, c2] at wf
      refine wf.callX ?_
      rintro r H2 ⟨rfl, fb2, W2, h3, hnb2, hW2l, hW2⟩
      rw [hpl] at hW2
      have hW3 : W2.take p.length = p := by
        have := congrArg (List.take p.length) hW2
        rw [List.take_take, Nat.min_eq_left (by omega)] at this
        rw [this]; simp
      have hnb3 : H1.nb ≤ H2.nb := hnb2
      simp (disch := omega) only [Try.ntmps165, Try.results165, go_sem]
      exact ⟨(x + 1, fb2, W2, H2), ⟨hlt, h3, Nat.le_trans hnb hnb3, hW2l, hW3⟩, by show nx + 1 - (x + 1) < nx + 1 - x; omega, Wk.of (by simp only [go_sem, ↓List.forall_mem_cons, List.not_mem_nil, false_implies, implies_true, and_true, true_and, and_self, ri_eq, Int.natCast_add, Int.cast_ofNat_Int]; try simp) rfl⟩
    · obtain rfl : x = nx + 1 := by omega
      have hfin : FQ M C (eachTo M C k p nx s (nx + 1)) p H.nb (.tup []) H1 := ⟨rfl, fb, W, h, hnb, hWl, hW⟩
      simp (disch := omega) only [Try.ntmps165, Try.results165, go_sem]
      exact hfin

def bH (M : List (List Int)) (C : List Con) : List (Nat × Blk) := [(4, ⟨[.val (.int .i64 0)], true⟩), (3, ⟨[.val (.int .i64 (-1))], true⟩), (2, ⟨[.val (.slice none 0 0)], true⟩), (1, ⟨[rc C], true⟩), (0, ⟨[rr M], true⟩)]
def BQ (M : List (List Int)) (C : List Con) (t : BS) (r : SV) (H' : Heap) : Prop := r = .tup [] ∧ ∃ fb' W', EH M C H' t fb' W'
set_option maxRecDepth 20000 in
set_option maxHeartbeats 4000000 in
theorem Try.eachPart_ok {M : List (List Int)} {C : List Con} (hw : WM M) (hC : C.length ≤ 1048576) :
    CallS Try.prog 151 [.val (.int .i64 M.length), yClos] (hp (bH M C) 5) (BQ M C (bs M C)) := by
  have hln := hw.1
  refine CallS.of_body Try.func151 rfl (by kernel_rfl) (by simp [Try.ntmps151]) ?_
  refine SW_of_vc Try.mixed _ _ _ (by kernel_rfl) ?_
  have hil : List.replicate M.length (SV.val (.int .i64 0)) = ints (List.replicate M.length 0) := by simp [ints]
  rw [bH]
  simp (disch := omega) only [Try.ntmps151, Try.results151, go_sem, yClos, hil]
  refine (Try.from_ok hw hC M.length [] (List.replicate M.length 0) 0 ⟨[], -1, 0⟩ 0 _ (by simp) (by simp) rfl (by omega) ?_ ⟨rfl, rfl, rfl, rfl, rfl, rfl, rfl, rfl, rfl, rfl, fun h => absurd rfl h, fun h => absurd rfl h, by simp [hp]⟩).callX ?_
  · have h9 : 9 ^ M.length ≤ 9 ^ 8 := Nat.pow_le_pow_right (by omega) hln.2
    show 0 + 9 ^ M.length ≤ 1000000000
    omega
  rintro r H' ⟨rfl, fb', W', h, _, _, _⟩
  have hfin : BQ M C (bs M C) (.tup []) H' := ⟨rfl, fb', W', h⟩
  simp (disch := omega) only [Try.ntmps151, Try.results151, go_sem]
  exact hfin

variable {P : Program}
theorem LRel.valsI {O : Nat → Prop} {w : World} {j : JMap} {us vs : List Value} (h : vs = us) : LRel O w j (us.map SV.val) vs := (LRel.vals us vs).2 h
theorem FCall.oneU {f : FuncId} {args : List SV} {n z : Nat} {cs : List SV} {us : List Value} (h : FCall P f args (fun r H => ∃ r0, r = .tup (r0 :: us.map .val) ∧ FlatRes n z cs r0 H)) :
    FCall P f args (fun r H => r = .tup (.own 0 0 n n z false :: us.map .val) ∧ H = Heap.one ⟨cs, false⟩) := by
  refine ⟨h.1, fun w vs hl => (h.2 w vs hl).mono ?_⟩
  rintro e w' ⟨v, r, j, H, h1, h2, h3, h4, h5, h6, h7, r0, rfl, h8⟩
  simp only [VRel, LRel] at h4
  obtain ⟨vs, rfl, x, rest, rfl, hx, hrest⟩ := h4
  obtain ⟨j', r', v', o'⟩ := one_rel h8 h3 hx
  have hr := (LRel.vals us rest).1 hrest
  refine ⟨_, _, j', _, h1, h2, r', ?_, fun k hk => h5 k (o' k hk), ?_, nr_one h8.vals, rfl, rfl⟩
  · simp only [VRel, LRel]
    exact ⟨_, rfl, _, _, rfl, by simpa only [VRel] using v', LRel.valsI hr⟩
  · simp only [noRow, noRowL, Bool.true_and]
    exact isVal_noRow (by simp [isVal])
theorem shiftL_vals (k : Nat) (us : List Value) : shiftL k (us.map SV.val) = us.map SV.val := isVal_shift (by simp [isVal])
theorem FCall.callOneU {f : FuncId} {args args' : List SV} {n z : Nat} {cs : List SV} {us : List Value} {H : Heap} {K : SV → Heap → Prop} (h : FCall P f args' (fun r H => r = .tup (.own 0 0 n n z false :: us.map .val) ∧ H = Heap.one ⟨cs, false⟩)) (hc : cs.all isVal = true) (fu : Nat) (hv : viewL H fu args = some args')
    (k : K (.tup (.own H.nb 0 n n z false :: us.map .val)) (H.push ⟨cs, false⟩)) : @CallX P f args H ⟨K⟩ := by
  refine ⟨h.1, fun j w vs r hl => ((h.callS fu hv).2 j w vs r hl).mono ?_⟩
  rintro e w' ⟨r1, v, j', H', h1, h2, h3, h4, r0, H0, ⟨rfl, rfl⟩, rfl, rfl⟩
  refine ⟨_, v, j', _, h1, h2, h3, h4, ?_⟩
  rw [merge_one r hc]
  simpa only [shift, shiftL, Nat.zero_add, shiftL_vals] using k
theorem fin_tupU {n z cap b : Nat} {ex e2 : Bool} {cs : List SV} {us : List Value} {H : Heap} (hn : cs.length = n * z) (hv : cs.all isVal = true) (hb : H.map b = some ⟨cs, e2⟩) :
    Fin (fun r H => ∃ r0, r = .tup (r0 :: us.map .val) ∧ FlatRes n z cs r0 H) (.tup (.own b 0 n cap z ex :: us.map .val)) H := by
  obtain ⟨H2, h1, h2, h3, h4⟩ := flat_fin (n := n) (z := z) (cap := cap) (ex := ex) hn hv hb
  refine ⟨H2, h1, ?_, h3, _, rfl, h4⟩
  simp only [noRow, noRowL, Bool.true_and]
  exact isVal_noRow (by simp [isVal])

theorem fin_tupV {R : SV → Heap → Prop} {us : List Value} {H : Heap} (h : R (.tup (us.map .val)) ⟨fun _ => none, H.nb⟩) : Fin R (.tup (us.map .val)) H :=
  ⟨⟨fun _ => none, H.nb⟩, ⟨rfl, fun _ => .inl rfl⟩, by simp only [noRow]; exact isVal_noRow (by simp [isVal]), fun b blk hb => by simp at hb, h⟩

set_option maxRecDepth 20000 in
set_option maxHeartbeats 4000000 in
theorem Try.best_f {M : List (List Int)} {C : List Con} (hw : WM M) (hC : C.length ≤ 1048576) (hcs : isCst M.length C = true) : FCall Try.prog 131 [rr M, rc C]
    (fun r H => ∃ r0, r = .tup (r0 :: [Value.int .i64 (bs M C).least, .int .i64 (bs M C).count].map .val) ∧ FlatRes M.length 1 (ints (bs M C).first) r0 H) := by
  have hln := hw.1
  have hfl := ((bs_best (C := C) hw).ok (bs_ok hw hcs)).1
  have we := Try.eachPart_ok hw hC
  rw [bH, yClos, rr_eq, rc] at we
  refine FCall.of_body Try.func131 rfl (by kernel_rfl) (by simp [Try.ntmps131]) ?_
  refine SW_of_vc Try.mixed _ _ _ (by kernel_rfl) ?_
  simp (disch := omega) only [Try.ntmps131, Try.results131, go_sem, rr_eq, rc]
  refine we.callX ?_
  rintro r H ⟨rfl, fb, W, h⟩
  have m2 := h.m2
  have m3 := h.m3
  have m4 := h.m4
  have mf := h.mf
  generalize bs M C = t at *
  have h0 : t.first.length ≠ 0 := by omega
  rw [nlI_f h0, hfl] at m2
  simp (disch := omega) only [Try.ntmps131, Try.results131, go_sem, rr_eq, rc, m2, m3, m4]
  exact fin_tupU (us := [.int .i64 t.least, .int .i64 t.count]) (by rw [ints_length]; omega) (ints_vals _) (mf h0)
end Go.Sh

/-
  Results of any shape in memory of their own, known by what they read as.
-/
namespace Go.Sh
set_option linter.unusedSimpArgs false
set_option linter.unusedVariables false
open Go Go.RowKit
variable {P : Program}

theorem shiftL_map (k : Nat) : ∀ ss : List SV, shiftL k ss = ss.map (shift k)
  | [] => by simp [shiftL]
  | s :: ss => by simp [shiftL, shiftL_map k ss]
mutual
theorem view_shift {H0 H' : Heap} {n : Nat} (hm : ∀ b blk, H0.map b = some blk → H'.map (b + n) = some ⟨shiftL n blk.cells, blk.ex⟩) : ∀ (f : Nat) (s s' : SV), view H0 f s = some s' → view H' f (shift n s) = some s'
  | f, .undef, s', h => by cases f <;> simpa [view, shift] using h
  | f, .val u, s', h => by cases f <;> simpa [view, shift] using h
  | f, .row m ex cs, s', h => by cases f <;> simpa [view, shift] using h
  | f, .rptr cs off, s', h => by cases f <;> simpa [view, shift] using h
  | 0, .own _ _ _ _ _ _, s', h => by simp [view] at h
  | f + 1, .own b off m cap sz ex, s', h => by
    simp only [view] at h
    split at h
    · rename_i blk hb
      split at h
      · rename_i hle
        split at h
        · rename_i cs hcs
          simp only [shift, view, hm b blk hb, shiftL_length, hle, if_true]
          have := viewL_shift hm f _ _ hcs
          rw [shiftL_map] at this
          rw [shiftL_map, ← List.map_drop, ← List.map_take, this]
          exact h
        · simp at h
      · simp at h
    · simp at h
  | 0, .optr _ _, s', h => by simp [view] at h
  | f + 1, .optr b off, s', h => by
    simp only [view] at h
    split at h
    · rename_i blk hb
      split at h
      · rename_i cs hcs
        simp only [shift, view, hm b blk hb, viewL_shift hm f _ _ hcs]
        exact h
      · simp at h
    · simp at h
  | 0, .agg _, s', h => by simp [view] at h
  | f + 1, .agg cs, s', h => by
    simp only [view] at h
    split at h
    · rename_i cs' hcs
      simp only [shift, view, viewL_shift hm f _ _ hcs]
      exact h
    · simp at h
  | 0, .tup _, s', h => by simp [view] at h
  | f + 1, .tup cs, s', h => by
    simp only [view] at h
    split at h
    · rename_i cs' hcs
      simp only [shift, view, viewL_shift hm f _ _ hcs]
      exact h
    · simp at h
  | 0, .clos _ _ _, s', h => by simp [view] at h
  | f + 1, .clos fn a c, s', h => by
    simp only [view] at h
    split at h
    · rename_i a' c' ha hc
      simp only [shift, view, viewL_shift hm f _ _ ha, viewL_shift hm f _ _ hc]
      exact h
    · simp at h
  | 0, .iface _ _, s', h => by simp [view] at h
  | f + 1, .iface t s, s', h => by
    simp only [view] at h
    split at h
    · rename_i s'' hs
      simp only [shift, view, view_shift hm f _ _ hs]
      exact h
    · simp at h
theorem viewL_shift {H0 H' : Heap} {n : Nat} (hm : ∀ b blk, H0.map b = some blk → H'.map (b + n) = some ⟨shiftL n blk.cells, blk.ex⟩) : ∀ (f : Nat) (ss ss' : List SV), viewL H0 f ss = some ss' → viewL H' f (shiftL n ss) = some ss'
  | f, [], ss', h => by cases f <;> simpa [viewL, shiftL] using h
  | f, s :: ss, ss', h => by
    have key : ∃ t ts, view H0 f s = some t ∧ viewL H0 f ss = some ts ∧ ss' = t :: ts := by
      cases f
      all_goals
        simp only [viewL] at h
        split at h
        · rename_i t ts ht hts
          exact ⟨t, ts, ht, hts, by simpa using h.symm⟩
        · simp at h
    obtain ⟨t, ts, ht, hts, rfl⟩ := key
    have := viewL_cons_of (view_shift hm f s t ht) (viewL_shift hm f ss ts hts)
    simpa only [shiftL] using this
end

mutual
theorem noRow_shift (n : Nat) : ∀ s : SV, noRow s = true → noRow (shift n s) = true
  | .undef, _ => rfl
  | .val _, _ => rfl
  | .row _ _ _, h => by simp [noRow] at h
  | .rptr _ _, h => by simp [noRow] at h
  | .own _ _ _ _ _ _, _ => rfl
  | .optr _ _, _ => rfl
  | .agg cs, h => by simp only [noRow] at h; simp only [shift, noRow]; exact noRowL_shift n cs h
  | .tup cs, h => by simp only [noRow] at h; simp only [shift, noRow]; exact noRowL_shift n cs h
  | .clos _ a c, h => by simp only [noRow, Bool.and_eq_true] at h; simp only [shift, noRow, noRowL_shift n a h.1, noRowL_shift n c h.2, Bool.and_self]
  | .iface _ s, h => by simp only [noRow] at h; simp only [shift, noRow]; exact noRow_shift n s h
theorem noRowL_shift (n : Nat) : ∀ ss : List SV, noRowL ss = true → noRowL (shiftL n ss) = true
  | [], _ => by simp [shiftL, noRowL]
  | s :: ss, h => by simp only [noRowL, Bool.and_eq_true] at h; simp only [shiftL, noRowL, noRow_shift n s h.1, noRowL_shift n ss h.2, Bool.and_self]
end

/-- r reads as T in whatever heap holds the blocks from lo on as H does. -/
structure VIn (lo : Nat) (H : Heap) (fu : Nat) (T r : SV) : Prop where
  nr : noRow r = true
  vw : ∀ H' : Heap, (∀ b, lo ≤ b → b < H.nb → H'.map b = H.map b) → view H' fu r = some T
  hn : ∀ b blk, lo ≤ b → b < H.nb → H.map b = some blk → noRowL blk.cells = true
theorem VIn.mono {lo : Nat} {H H1 : Heap} {fu : Nat} {T r : SV} (h : VIn lo H fu T r) (hnb : H.nb ≤ H1.nb) (hm : ∀ b, lo ≤ b → b < H.nb → H1.map b = H.map b) : ∀ H' : Heap, (∀ b, lo ≤ b → b < H1.nb → H'.map b = H1.map b) → view H' fu r = some T :=
  fun H' hh => h.vw H' fun b hb hb2 => by rw [hh b hb (by omega), hm b hb hb2]
theorem VIn.here {lo : Nat} {H : Heap} {fu : Nat} {T r : SV} (h : VIn lo H fu T r) : view H fu r = some T := h.vw H fun _ _ _ => rfl

/-- The blocks from lo on, below hi. -/
def cutH (H : Heap) (lo hi : Nat) : Heap := ⟨fun b => if lo ≤ b ∧ b < hi then H.map b else none, H.nb⟩
theorem cutH_sub (H : Heap) (lo hi : Nat) : Sub (cutH H lo hi) H := ⟨rfl, fun b => by
  show (if lo ≤ b ∧ b < hi then H.map b else none) = none ∨ (if lo ≤ b ∧ b < hi then H.map b else none) = H.map b
  split
  · exact .inr rfl
  · exact .inl rfl⟩
theorem cutH_map {H : Heap} {lo hi b : Nat} (h1 : lo ≤ b) (h2 : b < hi) : (cutH H lo hi).map b = H.map b := if_pos ⟨h1, h2⟩

/-- What a body's end owes a contract by reading: its shape S, and that it reads as T. -/
def VRes (S : SV → Prop) (fu : Nat) (T : SV) (r : SV) (H : Heap) : Prop := S r ∧ view H fu r = some T
/-- A slice of n elements of z cells each; a struct with one in front. -/
def IsOwn (n z : Nat) (r : SV) : Prop := ∃ b off cap ex, r = .own b off n cap z ex
def IsAgg1 (n z : Nat) (r : SV) : Prop := ∃ b off cap ex, r = .agg [.own b off n cap z ex]
theorem IsOwn.sh {n z : Nat} (k : Nat) (r : SV) (h : IsOwn n z r) : IsOwn n z (shift k r) := by
  obtain ⟨b, off, cap, ex, rfl⟩ := h
  exact ⟨b + k, off, cap, ex, by simp only [shift]⟩
theorem IsAgg1.sh {n z : Nat} (k : Nat) (r : SV) (h : IsAgg1 n z r) : IsAgg1 n z (shift k r) := by
  obtain ⟨b, off, cap, ex, rfl⟩ := h
  exact ⟨b + k, off, cap, ex, by simp only [shift, shiftL]⟩
theorem FCall.callVw {f : FuncId} {args args' : List SV} {S : SV → Prop} {fu : Nat} {T : SV} {H : Heap} {K : SV → Heap → Prop} (h : FCall P f args' (VRes S fu T)) (hS : ∀ k r, S r → S (shift k r)) (fu' : Nat) (hv : viewL H fu' args = some args')
    (k : ∀ r H', S r → VIn H.nb H' fu T r → H.nb ≤ H'.nb → (∀ b, b < H.nb → H'.map b = H.map b) → K r H') : @CallX P f args H ⟨K⟩ := by
  have h' : FCall P f args' (fun r H0 => VRes S fu T r H0 ∧ noRow r = true ∧ nrHeap H0 ∧ ∀ b blk, H0.map b = some blk → b < H0.nb) := by
    refine ⟨h.1, fun w vs hl => (h.2 w vs hl).mono ?_⟩
    rintro e w' ⟨v, r, j, H0, h1, h2, h3, h4, h5, h6, h7, h8⟩
    refine ⟨v, r, j, H0, h1, h2, h3, h4, h5, h6, h7, h8, h6, h7, fun b blk hb => ?_⟩
    obtain ⟨rb, base, g1, _⟩ := h3.live b blk hb
    exact h3.dom b _ g1
  refine (h'.callS fu' hv).mono ?_
  rintro r H' ⟨r0, H0, ⟨⟨h0, h1⟩, h2, h3, h4⟩, rfl, rfl⟩
  have hmap : ∀ b blk, H0.map b = some blk → (H.merge H0).map (b + H.nb) = some ⟨shiftL H.nb blk.cells, blk.ex⟩ := fun b blk hb => by
    simp only [Heap.merge]
    rw [if_neg (by omega), Nat.add_sub_cancel, hb]; rfl
  have hnb : (H.merge H0).nb = H.nb + H0.nb := rfl
  refine k _ _ (hS _ _ h0) ⟨noRow_shift _ _ h2, fun H1 hH1 => ?_, fun b blk hb1 hb2 hb => ?_⟩ (by omega) (fun b hb => by simp only [Heap.merge]; rw [if_pos hb])
  · refine view_shift (H0 := H0) (fun b blk hb => ?_) fu r0 T h1
    have := h4 b blk hb
    rw [hH1 (b + H.nb) (by omega) (by omega), hmap b blk hb]
  · simp only [Heap.merge] at hb
    rw [if_neg (by omega)] at hb
    cases hx : H0.map (b - H.nb) with
    | none => rw [hx] at hb; simp at hb
    | some blk0 =>
      rw [hx] at hb
      simp at hb; subst hb
      exact noRowL_shift _ _ (h3 _ _ hx)
theorem FCall.pcallVw {f : FuncId} {args : List SV} {S : SV → Prop} {fu : Nat} {T : SV} (h : FCall P f args (VRes S fu T)) : PCall P f args T := h.pcall fu (fun _ _ h => h.2)
/-- At a body's end: the result uses the blocks from lo to hi alone. -/
theorem fin_vw {S : SV → Prop} {fu : Nat} {T r : SV} {H : Heap} (lo hi : Nat) (hS : S r) (hnr : noRow r = true) (hn : ∀ b blk, lo ≤ b → b < hi → H.map b = some blk → noRowL blk.cells = true) (hv : view (cutH H lo hi) fu r = some T) : Fin (VRes S fu T) r H :=
  ⟨cutH H lo hi, cutH_sub H lo hi, hnr, (fun b blk hb => by
    by_cases h : lo ≤ b ∧ b < hi
    · exact hn b blk h.1 h.2 (by rw [← cutH_map h.1 h.2]; exact hb)
    · have : (cutH H lo hi).map b = none := if_neg h
      rw [this] at hb; cases hb), hS, hv⟩
end Go.Sh

/-
  Contracts: tests, rules, sets of rules and scorings, measured, copied and compared.
-/
namespace Go.Sh
set_option linter.unusedSimpArgs false
set_option linter.unusedVariables false
open Go Go.Proofs

/-! ### Tests: two numbers and a Bool, as constraints are -/
theorem Try.toTest_ok (a b : Int) (s : Bool) : PCall Try.prog 157 [.agg [.val (.int .i64 a), .val (.int .i64 b), .val (.bool s)]] (.agg [.val (.int .i64 a), .val (.int .i64 b), .val (.bool s)]) := by
  refine FCall.pcall (R := fun r _ => r = .agg [.val (.int .i64 a), .val (.int .i64 b), .val (.bool s)]) ?_ 1 (by rintro r H rfl; exact view_con) 
  refine FCall.of_body Try.func157 rfl (by kernel_rfl) (by simp [Try.ntmps157]) ?_
  refine SW_of_vc Try.mixed _ _ _ (by kernel_rfl) ?_
  simp (disch := omega) only [Try.ntmps157, Try.results157, go_sem]
  exact Fin.agg rfl rfl

theorem Try.eqTest_ok (a b : Int) (s : Bool) (c d : Int) (t : Bool) : PCall Try.prog 161 [.agg [.val (.int .i64 a), .val (.int .i64 b), .val (.bool s)], .agg [.val (.int .i64 c), .val (.int .i64 d), .val (.bool t)]] (.val (.bool (decide ((a, b, s) = (c, d, t))))) := by
  refine FCall.pcall (R := fun r _ => r = .val (.bool (decide ((a, b, s) = (c, d, t))))) ?_ 0 (by rintro r H rfl; exact view_bool)
  refine FCall.of_body Try.func161 rfl (by kernel_rfl) (by simp [Try.ntmps161]) ?_
  refine SW_of_vc Try.mixed _ _ _ (by kernel_rfl) ?_
  by_cases h1 : a = c
  · by_cases h2 : b = d
    · cases s <;> cases t <;> simp (disch := omega) only [Try.ntmps161, Try.results161, go_sem] <;> exact Fin.val (by simp [h1, h2])
    · simp (disch := omega) only [Try.ntmps161, Try.results161, go_sem]
      exact Fin.val (by simp [h2])
  · simp (disch := omega) only [Try.ntmps161, Try.results161, go_sem]
    exact Fin.val (by simp [h1])

set_option maxHeartbeats 1000000 in
theorem Try.toTestS_f (C : List Con) (hC : C.length ≤ 1048576) : FCall Try.prog 140 [rc C] (FlatRes C.length 3 (cons C)) := by
  refine FCall.of_body Try.func140 rfl (by kernel_rfl) (by simp [Try.ntmps140]) ?_
  refine SW_of_vc Try.mixed _ _ _ (by kernel_rfl) ?_
  simp (disch := omega) only [Try.ntmps140, Try.results140, go_sem, rc]
  refine LoopW.loop (fun k : Nat => ⟨ofL [(0, rc C), (3, .own 0 0 C.length C.length 3 true), (4, .val (.int .i64 k))], hp [(0, ⟨cons (fillG dc C k), true⟩)] 1⟩) (fun k => k ≤ C.length) (fun k => C.length - k) 0 (by omega)
    (Wk.of (by simp only [go_sem, ↓List.forall_mem_cons, List.not_mem_nil, false_implies, implies_true, and_true, true_and, and_self, ri_eq, Int.natCast_add, Int.cast_ofNat_Int, rc]; try simp) (by simp only [fillG_zero, rep_cons])) ?_
  intro k hk
  have hf := fillG_length dc C k hk
  have hl := cons_length (fillG dc C k)
  have hl2 := cons_length C
  refine SW_of_vc Try.mixed _ _ _ (by kernel_rfl) ?_
  by_cases hlt : k < C.length
  · simp (disch := omega) only [Try.ntmps140, Try.results140, go_sem, rc, cons_load]
    refine (Try.toTest_ok _ _ _).callV 1 (viewL_cons_of (view_con) viewL_nil_of) ?_
    simp (disch := omega) only [Try.ntmps140, Try.results140, go_sem, rc, cons_set3, hl, hf]
    refine ⟨k + 1, by omega, by omega, Wk.of (by simp only [go_sem, ↓List.forall_mem_cons, List.not_mem_nil, false_implies, implies_true, and_true, true_and, and_self, ri_eq, Int.natCast_add, Int.cast_ofNat_Int, rc]; try simp) ?_⟩
    have := fillG_set dc dc C k hlt
    rw [← this]; rfl
  · simp (disch := omega) only [Try.ntmps140, Try.results140, go_sem, rc]
    obtain rfl : k = C.length := by omega
    rw [fillG_all]
    exact flat_fin hl2 (cons_vals C) (by rw [hp_map, hmap_cons, if_pos rfl])

theorem Try.toTestS_ok (C : List Con) (hC : C.length ≤ 1048576) : PCall Try.prog 140 [rc C] (rc C) := (Try.toTestS_f C hC).pcall 2 (fun _ _ h => flat_viewC h)

set_option maxHeartbeats 1000000 in
theorem Try.eqTestS_ok (A B : List Con) (hA : A.length ≤ 1048576) (hB : B.length ≤ 1048576) : PCall Try.prog 145 [rc A, rc B] (.val (.bool (decide (A = B)))) := by
  refine FCall.pcall (R := fun r _ => r = .val (.bool (decide (A = B)))) ?_ 0 (by rintro r H rfl; exact view_bool)
  refine FCall.of_body Try.func145 rfl (by kernel_rfl) (by simp [Try.ntmps145]) ?_
  refine SW_of_vc Try.mixed _ _ _ (by kernel_rfl) ?_
  have lA := cons_length A
  have lB := cons_length B
  by_cases hl : A.length = B.length
  · simp (disch := omega) only [Try.ntmps145, Try.results145, go_sem, rc]
    refine LoopW.loop (fun k : Nat => ⟨ofL [(0, rc A), (1, rc B), (5, .val (.int .i64 k))], hp [] 0⟩) (fun k => k ≤ A.length ∧ A.take k = B.take k) (fun k => A.length - k) 0 ⟨by omega, by simp⟩ (Wk.of (by simp only [go_sem, ↓List.forall_mem_cons, List.not_mem_nil, false_implies, implies_true, and_true, true_and, and_self, ri_eq, Int.natCast_add, Int.cast_ofNat_Int, rc]; try simp) rfl) ?_
    rintro k ⟨hk, hkk⟩
    refine SW_of_vc Try.mixed _ _ _ (by kernel_rfl) ?_
    by_cases hlt : k < A.length
    · simp (disch := omega) only [Try.ntmps145, Try.results145, go_sem, rc, cons_load]
      refine (Try.eqTest_ok _ _ _ _ _ _).callDV 1 (viewL_cons_of (view_con) (viewL_cons_of (view_con) viewL_nil_of)) ?_
      by_cases he : cg A k = cg B k
      · have he' : decide (((cg A k).1, (cg A k).2.1, (cg A k).2.2) = ((cg B k).1, (cg B k).2.1, (cg B k).2.2)) = true := by simp [he]
        rw [he']
        simp (disch := omega) only [Try.ntmps145, Try.results145, go_sem]
        exact ⟨k + 1, ⟨by omega, cg_take_succ hlt (by omega) hkk he⟩, by omega, Wk.of (by simp only [go_sem, ↓List.forall_mem_cons, List.not_mem_nil, false_implies, implies_true, and_true, true_and, and_self, ri_eq, Int.natCast_add, Int.cast_ofNat_Int, rc]; try simp) rfl⟩
      · have he' : decide (((cg A k).1, (cg A k).2.1, (cg A k).2.2) = ((cg B k).1, (cg B k).2.1, (cg B k).2.2)) = false := decide_eq_false (fun e => he e)
        rw [he']
        simp (disch := omega) only [Try.ntmps145, Try.results145, go_sem]
        refine Fin.val ?_
        have : A ≠ B := fun e => he (by rw [e])
        simp [this]
    · simp (disch := omega) only [Try.ntmps145, Try.results145, go_sem, rc]
      refine Fin.val ?_
      have h1 : A.take k = A := List.take_of_length_le (by omega)
      have h2 : B.take k = B := List.take_of_length_le (by omega)
      rw [h1, h2] at hkk
      simp [hkk]
  · simp (disch := omega) only [Try.ntmps145, Try.results145, go_sem, rc]
    refine Fin.val ?_
    have : A ≠ B := fun e => hl (by rw [e])
    simp [this]

theorem Try.szTestS_ok (C : List Con) (l : Int) (hC : C.length ≤ 9223372036854775807) (h0 : 0 ≤ l) (h1 : l ≤ 1048576) : PCall Try.prog 138 [rc C, .val (.int .i64 l)] (.val (.int .i64 (if l < C.length then -1 else l - C.length))) := by
  refine FCall.pcall (R := fun r _ => r = .val (.int .i64 (if l < C.length then -1 else l - C.length))) ?_ 0 (by rintro r H rfl; exact view_int)
  refine FCall.of_body Try.func138 rfl (by kernel_rfl) (by simp [Try.ntmps138]) ?_
  refine SW_of_vc Try.mixed _ _ _ (by kernel_rfl) ?_
  by_cases hl : l < C.length
  · simp (disch := omega) only [Try.ntmps138, Try.results138, go_sem, rc]
    exact Fin.val rfl
  · simp (disch := omega) only [Try.ntmps138, Try.results138, go_sem, rc]
    exact Fin.val rfl

/-! ### Rules -/
def rules (R : List (List Con)) : List SV := R.map rc
def rR (R : List (List Con)) : SV := .row R.length false (rules R)
def rg (R : List (List Con)) (k : Nat) : List Con := R.getD k []
theorem rules_length (R : List (List Con)) : (rules R).length = R.length := by simp [rules]
theorem rules_get {R : List (List Con)} {k : Nat} (h : k < R.length) : (rules R)[k]? = some (.row (rg R k).length false (cons (rg R k))) := by simp [rules, rg, h, rc]
theorem rules_load {R : List (List Con)} {k : Nat} (h : k < R.length) : ((rules R).drop k).take 1 = [.row (rg R k).length false (cons (rg R k))] := by
  rw [List.drop_eq_getElem_cons (by rw [rules_length]; exact h)]
  simp [rules, rg, h, rc]
def rsum (R : List (List Con)) (k : Nat) : Int := ((R.take k).map fun r => (r.length : Int)).sum
theorem rsum_succ {R : List (List Con)} {k : Nat} (h : k < R.length) : rsum R (k + 1) = rsum R k + (rg R k).length := by
  have e : rg R k = R[k] := by simp [rg, h]
  rw [rsum, List.take_succ_eq_append_getElem h, List.map_append, List.sum_append, e]
  simp only [List.map_cons, List.map_nil, List.sum_cons, List.sum_nil, Int.add_zero]
  rfl
theorem rsum_nonneg (R : List (List Con)) (k : Nat) : 0 ≤ rsum R k := by
  unfold rsum
  induction R.take k with
  | nil => simp
  | cons a l ih => simp only [List.map_cons, List.sum_cons]; omega
theorem rsum_mono {R : List (List Con)} {k : Nat} : ∀ d, k + d ≤ R.length → rsum R k ≤ rsum R (k + d)
  | 0, _ => by simp
  | d + 1, h => by
    have ih := rsum_mono (R := R) (k := k) d (by omega)
    have := rsum_succ (R := R) (k := k + d) (by omega)
    rw [show k + (d + 1) = k + d + 1 by omega]; omega
theorem rsum_le {R : List (List Con)} {k : Nat} (h : k ≤ R.length) : rsum R k ≤ rsum R R.length := by
  have := rsum_mono (R := R) (k := k) (R.length - k) (by omega)
  rwa [show k + (R.length - k) = R.length by omega] at this
theorem rg_le {R : List (List Con)} {k : Nat} (h : k < R.length) : (rg R k).length ≤ rsum R R.length := by
  have h1 := rsum_succ h
  have h2 := rsum_le (R := R) (k := k + 1) h
  have h3 := rsum_nonneg R k
  omega
theorem view_rule {H : Heap} {f n : Nat} {ex : Bool} {cs : List SV} : view H (f + 1) (.agg [.row n ex cs]) = some (.agg [.row n false cs]) := view_agg (viewL_cons_of view_row viewL_nil_of)

theorem Try.szRule_ok (T : List Con) (l : Int) (hT : T.length ≤ 9223372036854775807) (h0 : 0 ≤ l) (h1 : l ≤ 1048576) : PCall Try.prog 114 [.agg [rc T], .val (.int .i64 l)] (.val (.int .i64 (if l < T.length then -1 else l - T.length))) := by
  refine FCall.pcall (R := fun r _ => r = .val (.int .i64 (if l < T.length then -1 else l - T.length))) ?_ 0 (by rintro r H rfl; exact view_int)
  refine FCall.of_body Try.func114 rfl (by kernel_rfl) (by simp [Try.ntmps114]) ?_
  have w := Try.szTestS_ok T l hT h0 h1
  refine SW_of_vc Try.mixed _ _ _ (by kernel_rfl) ?_
  by_cases hl : l < T.length
  · rw [if_pos hl] at w
    simp (disch := omega) only [Try.ntmps114, Try.results114, go_sem, rc]
    refine w.callV 0 (viewL_cons_of (view_row) (viewL_cons_of (view_int) viewL_nil_of)) ?_
    simp (disch := omega) only [Try.ntmps114, Try.results114, go_sem, rc]
    exact Fin.val rfl
  · rw [if_neg hl] at w
    simp (disch := omega) only [Try.ntmps114, Try.results114, go_sem, rc]
    refine w.callV 0 (viewL_cons_of (view_row) (viewL_cons_of (view_int) viewL_nil_of)) ?_
    simp (disch := omega) only [Try.ntmps114, Try.results114, go_sem, rc]
    exact Fin.val rfl

set_option maxHeartbeats 4000000 in
theorem Try.szRuleS_ok (R : List (List Con)) (l : Int) (hR : R.length ≤ 9223372036854775807) (hT : ∀ i, i < R.length → (rg R i).length ≤ 9223372036854775807) (h0 : 0 ≤ l) (h1 : l ≤ 1048576) :
    PCall Try.prog 82 [rR R, .val (.int .i64 l)] (.val (.int .i64 (if l < R.length + rsum R R.length then -1 else l - R.length - rsum R R.length))) := by
  refine FCall.pcall (R := fun r _ => r = .val (.int .i64 (if l < R.length + rsum R R.length then -1 else l - R.length - rsum R R.length))) ?_ 0 (by rintro r H rfl; exact view_int)
  refine FCall.of_body Try.func82 rfl (by kernel_rfl) (by simp [Try.ntmps82]) ?_
  have hrl := rules_length R
  have hrn := rsum_nonneg R R.length
  refine SW_of_vc Try.mixed _ _ _ (by kernel_rfl) ?_
  by_cases hl : l < R.length
  · simp (disch := omega) only [Try.ntmps82, Try.results82, go_sem, rR]
    exact Fin.val rfl
  simp (disch := omega) only [Try.ntmps82, Try.results82, go_sem, rR]
  refine LoopW.loop (fun k : Nat => ⟨ofL [(0, rR R), (1, .val (.int .i64 (l - R.length - rsum R k))), (5, .val (.int .i64 k))], hp [] 0⟩) (fun k => k ≤ R.length ∧ rsum R k ≤ l - R.length) (fun k => R.length - k) 0 ⟨by omega, by simp [rsum]; omega⟩ (Wk.of (by simp only [go_sem, ↓List.forall_mem_cons, List.not_mem_nil, false_implies, implies_true, and_true, true_and, and_self, ri_eq, Int.natCast_add, Int.cast_ofNat_Int, rR, show rsum R 0 = 0 from rfl, Int.sub_zero]; try simp) rfl) ?_
  rintro k ⟨hk, hs⟩
  have hk0 := rsum_nonneg R k
  refine SW_of_vc Try.mixed _ _ _ (by kernel_rfl) ?_
  by_cases hlt : k < R.length
  · have gk := rules_get hlt
    have gl := rules_load hlt
    have hsu := rsum_succ hlt
    have hle := rsum_le (R := R) (k := k + 1) hlt
    have w := Try.szRule_ok (rg R k) (l - R.length - rsum R k) (hT k hlt) (by omega) (by omega)
    by_cases hc : l - R.length - rsum R k < (rg R k).length
    · rw [if_pos hc] at w
      simp (disch := omega) only [Try.ntmps82, Try.results82, go_sem, rR, gk, gl, hrl]
      refine w.callV 1 (viewL_cons_of view_rule (viewL_cons_of view_int viewL_nil_of)) ?_
      simp (disch := omega) only [Try.ntmps82, Try.results82, go_sem, rR, gk, gl, hrl]
      exact Fin.val rfl
    · rw [if_neg hc] at w
      have e : l - R.length - rsum R k - (rg R k).length = l - R.length - rsum R (k + 1) := by omega
      simp (disch := omega) only [Try.ntmps82, Try.results82, go_sem, rR, gk, gl, hrl]
      refine w.callV 1 (viewL_cons_of view_rule (viewL_cons_of view_int viewL_nil_of)) ?_
      simp (disch := omega) only [Try.ntmps82, Try.results82, go_sem, rR, gk, gl, hrl]
      exact ⟨k + 1, ⟨hlt, by omega⟩, by omega, Wk.of (by simp only [go_sem, ↓List.forall_mem_cons, List.not_mem_nil, false_implies, implies_true, and_true, true_and, and_self, ri_eq, Int.natCast_add, Int.cast_ofNat_Int, rR, e]; try simp) rfl⟩
  · obtain rfl : k = R.length := by omega
    simp (disch := omega) only [Try.ntmps82, Try.results82, go_sem, rR]
    exact Fin.val rfl
theorem Try.szRuleSet_ok (R : List (List Con)) (l : Int) (hR : R.length ≤ 9223372036854775807) (hT : ∀ i, i < R.length → (rg R i).length ≤ 9223372036854775807) (h0 : 0 ≤ l) (h1 : l ≤ 1048576) :
    PCall Try.prog 33 [.agg [rR R], .val (.int .i64 l)] (.val (.int .i64 (if l < R.length + rsum R R.length then -1 else l - R.length - rsum R R.length))) := by
  refine FCall.pcall (R := fun r _ => r = .val (.int .i64 (if l < R.length + rsum R R.length then -1 else l - R.length - rsum R R.length))) ?_ 0 (by rintro r H rfl; exact view_int)
  refine FCall.of_body Try.func33 rfl (by kernel_rfl) (by simp [Try.ntmps33]) ?_
  have w := Try.szRuleS_ok R l hR hT h0 h1
  refine SW_of_vc Try.mixed _ _ _ (by kernel_rfl) ?_
  by_cases hl : l < R.length + rsum R R.length
  · rw [if_pos hl] at w
    simp (disch := omega) only [Try.ntmps33, Try.results33, go_sem, rR]
    refine w.callV 0 (viewL_cons_of (view_row) (viewL_cons_of (view_int) viewL_nil_of)) ?_
    simp (disch := omega) only [Try.ntmps33, Try.results33, go_sem, rR]
    exact Fin.val rfl
  · rw [if_neg hl] at w
    simp (disch := omega) only [Try.ntmps33, Try.results33, go_sem, rR]
    refine w.callV 0 (viewL_cons_of (view_row) (viewL_cons_of (view_int) viewL_nil_of)) ?_
    simp (disch := omega) only [Try.ntmps33, Try.results33, go_sem, rR]
    exact Fin.val rfl

theorem Try.eqRule_ok (T : List Con) (hT : T.length ≤ 1048576) : PCall Try.prog 124 [.agg [rc T], .agg [rc T]] (.val (.bool true)) := by
  refine FCall.pcall (R := fun r _ => r = .val (.bool true)) ?_ 0 (by rintro r H rfl; exact view_bool)
  refine FCall.of_body Try.func124 rfl (by kernel_rfl) (by simp [Try.ntmps124]) ?_
  have w := Try.eqTestS_ok T T hT hT
  rw [decide_eq_true rfl] at w
  refine SW_of_vc Try.mixed _ _ _ (by kernel_rfl) ?_
  simp (disch := omega) only [Try.ntmps124, Try.results124, go_sem, rc]
  refine w.callV 0 (viewL_cons_of (view_row) (viewL_cons_of (view_row) viewL_nil_of)) ?_
  simp (disch := omega) only [Try.ntmps124, Try.results124, go_sem, rc]
  exact Fin.val rfl
set_option maxHeartbeats 4000000 in
theorem Try.eqRuleS_ok (R : List (List Con)) (hR : R.length ≤ 1048576) (hT : ∀ i, i < R.length → (rg R i).length ≤ 1048576) : PCall Try.prog 94 [rR R, rR R] (.val (.bool true)) := by
  refine FCall.pcall (R := fun r _ => r = .val (.bool true)) ?_ 0 (by rintro r H rfl; exact view_bool)
  refine FCall.of_body Try.func94 rfl (by kernel_rfl) (by simp [Try.ntmps94]) ?_
  have hrl := rules_length R
  refine SW_of_vc Try.mixed _ _ _ (by kernel_rfl) ?_
  simp (disch := omega) only [Try.ntmps94, Try.results94, go_sem, rR, bne_self_eq_false]
  refine LoopW.loop (fun k : Nat => ⟨ofL [(0, rR R), (1, rR R), (5, .val (.int .i64 k))], hp [] 0⟩) (fun k => k ≤ R.length) (fun k => R.length - k) 0 (by omega) (Wk.of (by simp only [go_sem, ↓List.forall_mem_cons, List.not_mem_nil, false_implies, implies_true, and_true, true_and, and_self, ri_eq, Int.natCast_add, Int.cast_ofNat_Int, rR]; try simp) rfl) ?_
  intro k hk
  refine SW_of_vc Try.mixed _ _ _ (by kernel_rfl) ?_
  by_cases hlt : k < R.length
  · have gk := rules_get hlt
    have gl := rules_load hlt
    have w := Try.eqRule_ok (rg R k) (hT k hlt)
    simp (disch := omega) only [Try.ntmps94, Try.results94, go_sem, rR, gk, gl, hrl]
    refine w.callDV 1 (viewL_cons_of view_rule (viewL_cons_of view_rule viewL_nil_of)) ?_
    simp (disch := omega) only [Try.ntmps94, Try.results94, go_sem, rR, gk, gl, hrl]
    exact ⟨k + 1, hlt, by omega, Wk.of (by simp only [go_sem, ↓List.forall_mem_cons, List.not_mem_nil, false_implies, implies_true, and_true, true_and, and_self, ri_eq, Int.natCast_add, Int.cast_ofNat_Int, rR]; try simp) rfl⟩
  · simp (disch := omega) only [Try.ntmps94, Try.results94, go_sem, rR]
    exact Fin.val rfl
theorem Try.eqRuleSet_ok (R : List (List Con)) (hR : R.length ≤ 1048576) (hT : ∀ i, i < R.length → (rg R i).length ≤ 1048576) : PCall Try.prog 40 [.agg [rR R], .agg [rR R]] (.val (.bool true)) := by
  refine FCall.pcall (R := fun r _ => r = .val (.bool true)) ?_ 0 (by rintro r H rfl; exact view_bool)
  refine FCall.of_body Try.func40 rfl (by kernel_rfl) (by simp [Try.ntmps40]) ?_
  have w := Try.eqRuleS_ok R hR hT
  refine SW_of_vc Try.mixed _ _ _ (by kernel_rfl) ?_
  simp (disch := omega) only [Try.ntmps40, Try.results40, go_sem, rR]
  refine w.callV 0 (viewL_cons_of (view_row) (viewL_cons_of (view_row) viewL_nil_of)) ?_
  simp (disch := omega) only [Try.ntmps40, Try.results40, go_sem, rR]
  exact Fin.val rfl

/-! ### Copies -/
theorem FlatRes.isOwn {n z : Nat} {cs : List SV} {r : SV} {H : Heap} (h : FlatRes n z cs r H) : IsOwn n z r := by
  obtain ⟨b, off, cap, ex, blk, e, _⟩ := h
  exact ⟨b, off, cap, ex, e⟩
set_option maxHeartbeats 4000000 in
theorem Try.toRule_f (T : List Con) (hT : T.length ≤ 1048576) : FCall Try.prog 117 [.agg [rc T]] (VRes (IsAgg1 T.length 3) 3 (.agg [rc T])) := by
  have w : FCall Try.prog 140 [rc T] (VRes (IsOwn T.length 3) 2 (rc T)) := (Try.toTestS_f T hT).mono fun _ _ h => ⟨h.isOwn, flat_viewC h⟩
  refine FCall.of_body Try.func117 rfl (by kernel_rfl) (by simp [Try.ntmps117]) ?_
  refine SW_of_vc Try.mixed _ _ _ (by kernel_rfl) ?_
  simp (disch := omega) only [Try.ntmps117, Try.results117, go_sem, rc]
  refine w.callVw IsOwn.sh 0 (viewL_cons_of (view_row) viewL_nil_of) ?_
  rintro _ H ⟨b, off, cap, ex, rfl⟩ hv hnb hlow
  have h0 := hlow 0 (by simp [hp])
  have h1 := hlow 1 (by simp [hp])
  have h2 := hlow 2 (by simp [hp])
  simp only [hp, hmap, Nat.reduceEqDiff, if_true, if_false] at hnb h0 h1 h2 hv
  simp (disch := omega) only [Try.ntmps117, Try.results117, go_sem, rc, h0, h1, h2, hset_map]
  refine fin_vw 3 H.nb ⟨b, off, cap, ex, rfl⟩ rfl (fun b blk b1 b2 hb => hv.hn b blk b1 b2 (by simpa (disch := omega) only [hset_map, if_neg] using hb)) ?_
  refine view_agg (viewL_cons_of (hv.vw _ (fun b b1 b2 => ?_)) viewL_nil_of)
  rw [cutH_map b1 b2]
  simp (disch := omega) only [hset_map, if_neg]

theorem rules_take (R : List (List Con)) {k : Nat} (h : k < R.length) : (R.take (k + 1)).map rc = (R.take k).map rc ++ [rc (rg R k)] := by
  rw [List.take_succ_eq_append_getElem h, List.map_append]; simp [rg, h]
theorem view_agg1_inv {H : Heap} {f : Nat} {s t : SV} (h : view H (f + 1) (.agg [s]) = some (.agg [t])) : view H f s = some t := by
  simp only [view] at h
  split at h
  · rename_i cs hcs
    simp at h; subst h
    cases f
    all_goals
      simp only [viewL] at hcs
      split at hcs
      · rename_i a b ha hb
        simp at hcs hb
        rw [ha, hcs.1]
      · simp at hcs
  · simp at h
theorem viewL_append {H : Heap} {f : Nat} : ∀ {a b a' b' : List SV}, viewL H f a = some a' → viewL H f b = some b' → viewL H f (a ++ b) = some (a' ++ b')
  | [], b, a', b', h, g => by
    have : a' = [] := by cases f <;> simpa [viewL] using h.symm
    subst this; exact g
  | s :: a, b, a', b', h, g => by
    have key : ∃ t ts, view H f s = some t ∧ viewL H f a = some ts ∧ a' = t :: ts := by
      cases f
      all_goals
        simp only [viewL] at h
        split at h
        · rename_i t ts ht hts
          exact ⟨t, ts, ht, hts, by simpa using h.symm⟩
        · simp at h
    obtain ⟨t, ts, ht, hts, rfl⟩ := key
    exact viewL_cons_of ht (viewL_append hts g)
theorem noRowL_append {a b : List SV} (h : noRowL a = true) (g : noRowL b = true) : noRowL (a ++ b) = true := by
  induction a with
  | nil => exact g
  | cons s a ih =>
    simp only [noRowL, Bool.and_eq_true] at h
    simp only [List.cons_append, noRowL, h.1, ih h.2, Bool.and_self]
/-- The outer block of a copy of rules, k of them copied. -/
structure RuB (R : List (List Con)) (k : Nat) (rs : List SV) (H : Heap) : Prop where
  ln : rs.length = k
  o : H.map 0 = some ⟨rs ++ List.replicate (R.length - k) (.val (.slice none 0 0)), true⟩
  nr : noRowL rs = true
  vw : ∀ H' : Heap, (∀ b, 1 ≤ b → b < H.nb → H'.map b = H.map b) → viewL H' 2 rs = some ((R.take k).map rc)
  hn : ∀ b blk, 1 ≤ b → b < H.nb → H.map b = some blk → noRowL blk.cells = true
  nb : 1 ≤ H.nb
set_option maxHeartbeats 4000000 in
theorem Try.toRuleS_f (R : List (List Con)) (hR : R.length ≤ 1048576) (hT : ∀ i, i < R.length → (rg R i).length ≤ 1048576) : FCall Try.prog 88 [rR R] (VRes (IsOwn R.length 1) 3 (rR R)) := by
  have hrl := rules_length R
  refine FCall.of_body Try.func88 rfl (by kernel_rfl) (by simp [Try.ntmps88]) ?_
  refine SW_of_vc Try.mixed _ _ _ (by kernel_rfl) ?_
  simp (disch := omega) only [Try.ntmps88, Try.results88, go_sem, rR]
  refine LoopW.loop (fun y : Nat × List SV × Heap => ⟨ofL [(0, rR R), (3, .own 0 0 R.length R.length 1 true), (4, .val (.int .i64 y.1))], y.2.2⟩) (fun y => y.1 ≤ R.length ∧ RuB R y.1 y.2.1 y.2.2) (fun y => R.length - y.1)
    (0, [], hp [(0, ⟨List.replicate R.length (.val (.slice none 0 0)), true⟩)] 1) ⟨by simp, rfl, by simp [hp, hmap], rfl, fun H' _ => viewL_nil_of, fun b blk b1 b2 hb => by simp [hp, hmap] at b2; omega, by simp [hp]⟩ (Wk.of (by simp only [go_sem, ↓List.forall_mem_cons, List.not_mem_nil, false_implies, implies_true, and_true, true_and, and_self, ri_eq, Int.natCast_add, Int.cast_ofNat_Int, rR]; try simp) (by first | rfl | (trace_state; simp))) ?_
  rintro ⟨k, rs, H⟩ ⟨hk, hB⟩
  simp only at hk hB
  have hm := hB.o
  have hln := hB.ln
  refine SW_of_vc Try.mixed _ _ _ (by kernel_rfl) ?_
  by_cases hlt : k < R.length
  · have gk := rules_get hlt
    have gl := rules_load hlt
    simp (disch := omega) only [Try.ntmps88, Try.results88, go_sem, rR, gk, gl, hrl]
    refine (Try.toRule_f (rg R k) (hT k hlt)).callVw IsAgg1.sh 1 (viewL_cons_of view_rule viewL_nil_of) ?_
    rintro _ H1 ⟨b, off, cap, ex, rfl⟩ hv hnb hlow
    have hm1 : H1.map 0 = _ := (hlow 0 (by have := hB.nb; omega)).trans hm
    have hcl : (rs ++ List.replicate (R.length - k) (SV.val (.slice none 0 0))).length = R.length := by simp [hln]; omega
    have hst : (rs ++ List.replicate (R.length - k) (SV.val (.slice none 0 0))).set k (.own b off (rg R k).length cap 3 ex) = (rs ++ [.own b off (rg R k).length cap 3 ex]) ++ List.replicate (R.length - (k + 1)) (.val (.slice none 0 0)) := by
      rw [List.set_append_right _ _ (by omega), hln, Nat.sub_self, show R.length - k = (R.length - (k + 1)) + 1 by omega, List.replicate_succ, List.set_cons_zero, List.append_assoc, List.singleton_append]
    simp (disch := omega) only [Try.ntmps88, Try.results88, go_sem, rR, hm1, hcl, hst]
    refine ⟨(k + 1, rs ++ [.own b off (rg R k).length cap 3 ex], _), ⟨hlt, ?_⟩, by show R.length - (k + 1) < R.length - k; omega, Wk.of (by simp only [go_sem, ↓List.forall_mem_cons, List.not_mem_nil, false_implies, implies_true, and_true, true_and, and_self, ri_eq, Int.natCast_add, Int.cast_ofNat_Int, rR]; try simp) rfl⟩
    have hBn := hB.nb
    refine ⟨by simp [hln], by simp only [hset_map, if_pos], noRowL_append hB.nr rfl, fun H' hH' => ?_, fun b blk b1 b2 hb => ?_, by simp only [hset_nb]; omega⟩
    · simp only [hset_nb] at hH'
      have hH2 : ∀ b, 1 ≤ b → b < H1.nb → H'.map b = H1.map b := fun b b1 b2 => by
        rw [hH' b b1 b2, hset_map, if_neg (by omega)]
      rw [rules_take R hlt]
      refine viewL_append (hB.vw H' fun b b1 b2 => by rw [hH2 b b1 (by omega), hlow b b2]) (viewL_cons_of (view_agg1_inv (hv.vw H' fun b b1 b2 => hH2 b (by omega) b2)) viewL_nil_of)
    · simp only [hset_nb] at b2
      rw [hset_map, if_neg (by omega)] at hb
      by_cases hbn : b < H.nb
      · exact hB.hn b blk b1 hbn (by rw [← hlow b hbn]; exact hb)
      · exact hv.hn b blk (by omega) b2 hb
  · obtain rfl : k = R.length := by omega
    simp (disch := omega) only [Try.ntmps88, Try.results88, go_sem, rR]
    have hBn := hB.nb
    rw [Nat.sub_self, List.replicate_zero, List.append_nil] at hm
    refine fin_vw 0 H.nb ⟨0, 0, R.length, true, rfl⟩ rfl (fun b blk _ b2 hb => ?_) ?_
    · by_cases h0 : b = 0
      · subst h0; rw [hm] at hb; simp at hb; subst hb; exact hB.nr
      · exact hB.hn b blk (by omega) b2 hb
    · have hv := hB.vw (cutH H 0 H.nb) (fun b b1 b2 => cutH_map (by omega) b2)
      rw [List.take_length] at hv
      have hm0 : (cutH H 0 H.nb).map 0 = some ⟨rs, true⟩ := by rw [cutH_map (by omega) (by omega), hm]
      simp only [view, hm0, Nat.mul_one, List.drop_zero, hln, Nat.zero_add, Nat.le_refl, if_true]
      rw [show List.take R.length rs = rs from List.take_of_length_le (by omega), hv]
      rfl
set_option maxHeartbeats 4000000 in
theorem Try.toRuleSet_f (R : List (List Con)) (hR : R.length ≤ 1048576) (hT : ∀ i, i < R.length → (rg R i).length ≤ 1048576) : FCall Try.prog 36 [.agg [rR R]] (VRes (IsAgg1 R.length 1) 4 (.agg [rR R])) := by
  have w := Try.toRuleS_f R hR hT
  refine FCall.of_body Try.func36 rfl (by kernel_rfl) (by simp [Try.ntmps36]) ?_
  refine SW_of_vc Try.mixed _ _ _ (by kernel_rfl) ?_
  simp (disch := omega) only [Try.ntmps36, Try.results36, go_sem, rR]
  refine w.callVw IsOwn.sh 0 (viewL_cons_of (view_row) viewL_nil_of) ?_
  rintro _ H ⟨b, off, cap, ex, rfl⟩ hv hnb hlow
  have h0 := hlow 0 (by simp [hp])
  have h1 := hlow 1 (by simp [hp])
  have h2 := hlow 2 (by simp [hp])
  simp only [hp, hmap, Nat.reduceEqDiff, if_true, if_false] at hnb h0 h1 h2 hv
  simp (disch := omega) only [Try.ntmps36, Try.results36, go_sem, rR, h0, h1, h2, hset_map]
  refine fin_vw 3 H.nb ⟨b, off, cap, ex, rfl⟩ rfl (fun b blk b1 b2 hb => hv.hn b blk b1 b2 (by simpa (disch := omega) only [hset_map, if_neg] using hb)) ?_
  refine view_agg (viewL_cons_of (hv.vw _ (fun b b1 b2 => ?_)) viewL_nil_of)
  rw [cutH_map b1 b2]
  simp (disch := omega) only [hset_map, if_neg]
theorem Try.toRuleSet_ok (R : List (List Con)) (hR : R.length ≤ 1048576) (hT : ∀ i, i < R.length → (rg R i).length ≤ 1048576) : PCall Try.prog 36 [.agg [rR R]] (.agg [rR R]) := (Try.toRuleSet_f R hR hT).pcallVw

/-! ### Scorings -/
abbrev sS (W : List Int) (b : Int) : SV := .agg [ri W, .val (.int .i64 b)]
theorem view_sS {H : Heap} {f n : Nat} {ex : Bool} {cs : List SV} {k : IntKind} {b : Int} : view H (f + 1) (.agg [.row n ex cs, .val (.int k b)]) = some (.agg [.row n false cs, .val (.int k b)]) := view_agg (viewL_cons_of view_row (viewL_cons_of view_int viewL_nil_of))
theorem Try.szScoring_ok (L : List Int) (b : Int) (l : Int) (hL : L.length ≤ 9223372036854775807) (h0 : 0 ≤ l) (h1 : l ≤ 1048576) : PCall Try.prog 34 [sS L b, .val (.int .i64 l)] (.val (.int .i64 (if l < L.length then -1 else l - L.length))) := by
  refine FCall.pcall (R := fun r _ => r = .val (.int .i64 (if l < L.length then -1 else l - L.length))) ?_ 0 (by rintro r H rfl; exact view_int)
  refine FCall.of_body Try.func34 rfl (by kernel_rfl) (by simp [Try.ntmps34]) ?_
  have w := Try.szIntS_ok L l hL h0 h1
  refine SW_of_vc Try.mixed _ _ _ (by kernel_rfl) ?_
  by_cases hl : l < L.length
  · rw [if_pos hl] at w
    simp (disch := omega) only [Try.ntmps34, Try.results34, go_sem]
    refine w.callV 0 (viewL_cons_of (view_row) (viewL_cons_of (view_int) viewL_nil_of)) ?_
    simp (disch := omega) only [Try.ntmps34, Try.results34, go_sem]
    exact Fin.val rfl
  · rw [if_neg hl] at w
    simp (disch := omega) only [Try.ntmps34, Try.results34, go_sem]
    refine w.callV 0 (viewL_cons_of (view_row) (viewL_cons_of (view_int) viewL_nil_of)) ?_
    simp (disch := omega) only [Try.ntmps34, Try.results34, go_sem]
    exact Fin.val rfl
theorem Try.toScoring_ok (L : List Int) (a : Int) (hL : L.length ≤ 1048576) : PCall Try.prog 37 [sS L a] (sS L a) := by
  refine FCall.pcall (R := fun r H => ∃ b, r = .agg [.own b 0 L.length L.length 1 false, .val (.int .i64 a)] ∧ H.map b = some ⟨ints L, false⟩) ?_ 2 ?_
  · refine FCall.of_body Try.func37 rfl (by kernel_rfl) (by simp [Try.ntmps37]) ?_
    refine SW_of_vc Try.mixed _ _ _ (by kernel_rfl) ?_
    simp (disch := omega) only [Try.ntmps37, Try.results37, go_sem]
    refine (Try.toIntS_one L hL).callOne (ints_vals L) 0 (viewL_cons_of (view_rowL (by first | rfl | simp [marks_length, canon_length] | omega)) viewL_nil_of) ?_
    simp (disch := omega) only [Try.ntmps37, Try.results37, go_sem]
    refine ⟨⟨fun x => if x = 3 then some ⟨ints L, false⟩ else none, _⟩, ⟨rfl, fun x => ?_⟩, rfl, fun b blk hb => ?_, 3, rfl, rfl⟩
    · by_cases hx : x = 3
      · subst hx; right; simp [hp, hmap]
      · left; simp [hx]
    · by_cases hx : b = 3
      · subst hx; simp at hb; subst hb; exact noRowL_ints L
      · simp [hx] at hb
  · rintro r H ⟨b, rfl, hb⟩
    exact view_agg (viewL_cons_of (view_own hb rfl) (viewL_cons_of view_int viewL_nil_of))
theorem Try.eqScoring_ok (L : List Int) (a : Int) (hL : L.length ≤ 1048576) : PCall Try.prog 41 [sS L a, sS L a] (.val (.bool true)) := by
  refine FCall.pcall (R := fun r _ => r = .val (.bool true)) ?_ 0 (by rintro r H rfl; exact view_bool)
  refine FCall.of_body Try.func41 rfl (by kernel_rfl) (by simp [Try.ntmps41]) ?_
  refine SW_of_vc Try.mixed _ _ _ (by kernel_rfl) ?_
  simp (disch := omega) only [Try.ntmps41, Try.results41, go_sem]
  refine (Try.eqIntS_ok L L (by omega) (by omega)).callV 0 (viewL_cons_of (view_rowL (by first | rfl | simp [marks_length, canon_length] | omega)) (viewL_cons_of (view_rowL (by first | rfl | simp [marks_length, canon_length] | omega)) viewL_nil_of)) ?_
  simp (disch := omega) only [Try.ntmps41, Try.results41, go_sem, bne_self_eq_false, beq_self_eq_true]
  exact Fin.val rfl
end Go.Sh

/-
  Contracts: vectors of features, scorings, the score of a pair.
-/
namespace Go.Sh
set_option linter.unusedSimpArgs false
set_option linter.unusedVariables false
open Go Go.Proofs

/-- Where the first element is that meets a test. -/
def fx {α : Type} (pr : α → Bool) (L : List α) : Int := match L.findIdx? pr with | some i => (i : Int) | none => -1
theorem fx_none {α : Type} {pr : α → Bool} {L : List α} (d : α) (h : ∀ i, i < L.length → pr (L.getD i d) = false) : fx pr L = -1 := by
  have : L.findIdx? pr = none := by
    rw [List.findIdx?_eq_none_iff]
    intro x hx
    obtain ⟨i, hi, e⟩ := List.getElem_of_mem hx
    have := h i hi
    simpa [hi, e] using this
  rw [fx, this]
theorem fx_some {α : Type} {pr : α → Bool} {L : List α} (d : α) {k : Nat} (hk : k < L.length) (h : ∀ i, i < k → pr (L.getD i d) = false) (e : pr (L.getD k d) = true) : fx pr L = k := by
  have : L.findIdx? pr = some k := by
    rw [List.findIdx?_eq_some_iff_getElem]
    refine ⟨hk, by simpa [hk] using e, fun j hj => ?_⟩
    have hj' : j < L.length := by omega
    have := h j hj
    simp [hj'] at this
    simp [this]
  rw [fx, this]
theorem fx_ge {α : Type} (pr : α → Bool) (L : List α) : (0 ≤ fx pr L) ↔ L.any pr = true := by
  rw [fx]
  cases h : L.findIdx? pr with
  | none =>
    rw [List.findIdx?_eq_none_iff] at h
    constructor
    · intro e; simp at e
    · intro e
      obtain ⟨x, hx, h1⟩ := List.any_eq_true.1 e
      rw [h x hx] at h1; cases h1
  | some i =>
    rw [List.findIdx?_eq_some_iff_getElem] at h
    obtain ⟨hi, h1, _⟩ := h
    simp only [Int.natCast_nonneg, true_iff, List.any_eq_true]
    exact ⟨L[i], List.getElem_mem hi, h1⟩
theorem any_not {α : Type} {L : List α} {p : α → Bool} : (!L.any fun c => !p c) = L.all p := by
  induction L with
  | nil => rfl
  | cons c C ih => simp only [List.any_cons, List.all_cons, ← ih]; cases p c <;> simp
theorem all_getD {α : Type} {L : List α} {p : α → Bool} (d : α) : L.all p = true ↔ ∀ i, i < L.length → p (L.getD i d) = true := by
  rw [List.all_eq_true]
  constructor
  · intro h i hi
    have := h L[i] (List.getElem_mem hi)
    simpa [hi] using this
  · intro h x hx
    obtain ⟨i, hi, e⟩ := List.getElem_of_mem hx
    have := h i hi
    simpa [hi, e] using this
theorem all_not {α : Type} {L : List α} {p : α → Bool} (d : α) {i : Nat} (hi : i < L.length) (h : p (L.getD i d) = false) : L.all p = false := by
  cases hc : L.all p with
  | false => rfl
  | true => rw [(all_getD d).1 hc i hi] at h; cases h

set_option maxHeartbeats 1000000 in
theorem Try.indexFuncI_ok (f : FuncId) (cap : List SV) (L : List Int) (pr : Int → Bool) (hL : L.length ≤ 1048576) (hcap : ∀ H fu, viewL H fu cap = some cap)
    (hf : ∀ x, PCall Try.prog f (.val (.int .i64 x) :: cap) (.val (.bool (pr x)))) :
    PCall Try.prog 141 [ri L, .clos (.func f) [] cap] (.val (.int .i64 (fx pr L))) := by
  refine FCall.pcall (R := fun r _ => r = .val (.int .i64 (fx pr L))) ?_ 0 (by rintro r H rfl; exact view_int)
  refine FCall.of_body Try.func141 rfl (by kernel_rfl) (by simp [Try.ntmps141]) ?_
  refine SW_of_vc Try.mixed _ _ _ (by kernel_rfl) ?_
  have lC := ints_length L
  simp (disch := omega) only [Try.ntmps141, Try.results141, go_sem]
  refine LoopW.loop (fun k : Nat => ⟨ofL [(0, ri L), (1, .clos (.func f) [] cap), (7, .val (.int .i64 L.length)), (8, .val (.int .i64 k))], hp [] 0⟩) (fun k => k ≤ L.length ∧ ∀ i, i < k → pr (L.getD i 0) = false) (fun k => L.length - k) 0 ⟨by omega, by simp⟩ (Wk.of (by simp only [go_sem, ↓List.forall_mem_cons, List.not_mem_nil, false_implies, implies_true, and_true, true_and, and_self, ri_eq, Int.natCast_add, Int.cast_ofNat_Int]; try simp) rfl) ?_
  rintro k ⟨hk, hkk⟩
  refine SW_of_vc Try.mixed _ _ _ (by kernel_rfl) ?_
  by_cases hlt : k < L.length
  · have gk : (ints L)[k]? = some (.val (.int .i64 (L.getD k 0))) := ints_get hlt
    simp (disch := omega) only [Try.ntmps141, Try.results141, go_sem, gk, lC]
    refine (hf _).callV 1 (viewL_cons_of view_int (hcap _ _)) ?_
    cases he : pr (L.getD k 0) with
    | true =>
      simp (disch := omega) only [Try.ntmps141, Try.results141, go_sem]
      exact Fin.val (by rw [fx_some 0 hlt hkk he])
    | false =>
      simp (disch := omega) only [Try.ntmps141, Try.results141, go_sem]
      refine ⟨k + 1, ⟨by omega, fun i hi => ?_⟩, by omega, Wk.of (by simp only [go_sem, ↓List.forall_mem_cons, List.not_mem_nil, false_implies, implies_true, and_true, true_and, and_self, ri_eq, Int.natCast_add, Int.cast_ofNat_Int]; try simp) rfl⟩
      rcases Nat.lt_succ_iff_lt_or_eq.mp hi with h | rfl
      · exact hkk i h
      · exact he
  · simp (disch := omega) only [Try.ntmps141, Try.results141, go_sem]
    exact Fin.val (by rw [fx_none 0 (fun i hi => hkk i (by omega))])
theorem Try.containsFuncI_ok (f : FuncId) (cap : List SV) (L : List Int) (pr : Int → Bool) (hL : L.length ≤ 1048576) (hcap : ∀ H fu, viewL H fu cap = some cap)
    (hf : ∀ x, PCall Try.prog f (.val (.int .i64 x) :: cap) (.val (.bool (pr x)))) :
    PCall Try.prog 120 [ri L, .clos (.func f) [] cap] (.val (.bool (L.any pr))) := by
  refine FCall.pcall (R := fun r _ => r = .val (.bool (L.any pr))) ?_ 0 (by rintro r H rfl; exact view_bool)
  refine FCall.of_body Try.func120 rfl (by kernel_rfl) (by simp [Try.ntmps120]) ?_
  have w := Try.indexFuncI_ok f cap L pr hL hcap hf
  have hg := fx_ge pr L
  generalize fx pr L = q at *
  refine SW_of_vc Try.mixed _ _ _ (by kernel_rfl) ?_
  cases h : L.any pr with
  | true =>
    have := hg.mpr h
    simp (disch := omega) only [Try.ntmps120, Try.results120, go_sem]
    refine w.callV 1 (viewL_cons_of view_row (viewL_cons_of (view_clos (hcap _ _)) viewL_nil_of)) ?_
    simp (disch := omega) only [Try.ntmps120, Try.results120, go_sem]
    exact Fin.val rfl
  | false =>
    have : ¬ 0 ≤ q := fun e => by rw [hg.mp e] at h; cases h
    simp (disch := omega) only [Try.ntmps120, Try.results120, go_sem]
    refine w.callV 1 (viewL_cons_of view_row (viewL_cons_of (view_clos (hcap _ _)) viewL_nil_of)) ?_
    simp (disch := omega) only [Try.ntmps120, Try.results120, go_sem]
    exact Fin.val rfl

/-! ### Vectors of features -/
def isFV (f : List Int) : Bool := decide (f.length = 6) && f.all fun x => inR x 0 1000
theorem isFV_t {f : List Int} (h : isFV f = true) : f.length = 6 ∧ ∀ i, i < 6 → 0 ≤ f.getD i 0 ∧ f.getD i 0 ≤ 1000 := by
  rw [isFV, Bool.and_eq_true] at h
  have hl := of_decide_eq_true h.1
  exact ⟨hl, fun i hi => inR_of ((all_getD 0).1 h.2 i (by omega))⟩
theorem Try.implFV1_ok (x : Int) : PCall Try.prog 121 [.val (.int .i64 x)] (.val (.bool (!inR x 0 1000))) := by
  refine FCall.pcall (R := fun r _ => r = .val (.bool (!inR x 0 1000))) ?_ 0 (by rintro r H rfl; exact view_bool)
  refine FCall.of_body Try.func121 rfl (by kernel_rfl) (by simp [Try.ntmps121]) ?_
  have w := Try.within_ok x 0 1000
  refine SW_of_vc Try.mixed _ _ _ (by kernel_rfl) ?_
  simp (disch := omega) only [Try.ntmps121, Try.results121, go_sem]
  refine w.callV 0 (viewL_cons_of (view_int) (viewL_cons_of (view_int) (viewL_cons_of (view_int) viewL_nil_of))) ?_
  simp (disch := omega) only [Try.ntmps121, Try.results121, go_sem]
  exact Fin.val rfl
theorem Try.implFV_ok (f : List Int) (hf : f.length ≤ 1048576) : PCall Try.prog 91 [ri f] (.val (.bool (isFV f))) := by
  refine FCall.pcall (R := fun r _ => r = .val (.bool (isFV f))) ?_ 0 (by rintro r H rfl; exact view_bool)
  refine FCall.of_body Try.func91 rfl (by kernel_rfl) (by simp [Try.ntmps91]) ?_
  have w := Try.containsFuncI_ok 121 [] f (fun x => !inR x 0 1000) hf (fun _ _ => viewL_nil_of) (fun x => Try.implFV1_ok x)
  have e := any_not (L := f) (p := fun x => inR x 0 1000)
  refine SW_of_vc Try.mixed _ _ _ (by kernel_rfl) ?_
  by_cases h6 : f.length = 6
  · simp (disch := omega) only [Try.ntmps91, Try.results91, go_sem, h6]
    refine w.callV 1 (viewL_cons_of (view_rowL h6.symm) (viewL_cons_of (view_clos viewL_nil_of) viewL_nil_of)) ?_
    simp (disch := omega) only [Try.ntmps91, Try.results91, go_sem]
    exact Fin.val (by rw [e, isFV, decide_eq_true h6, Bool.true_and])
  · simp (disch := omega) only [Try.ntmps91, Try.results91, go_sem]
    exact Fin.val (by rw [isFV, decide_eq_false h6, Bool.false_and])
set_option maxHeartbeats 1000000 in
theorem Try.specFV_ok (f : List Int) (hf : f.length ≤ 1048576) : PCall Try.prog 85 [ri f] (.val (.bool (isFV f))) := by
  refine FCall.pcall (R := fun r _ => r = .val (.bool (isFV f))) ?_ 0 (by rintro r H rfl; exact view_bool)
  refine FCall.of_body Try.func85 rfl (by kernel_rfl) (by simp [Try.ntmps85]) ?_
  have lC := ints_length f
  refine SW_of_vc Try.mixed _ _ _ (by kernel_rfl) ?_
  simp (disch := omega) only [Try.ntmps85, Try.results85, go_sem]
  refine LoopW.loop (fun k : Nat => ⟨ofL [(0, ri f), (3, .val (.int .i64 k))], hp [] 0⟩) (fun k => k ≤ f.length ∧ ∀ i, i < k → inR (f.getD i 0) 0 1000 = true) (fun k => f.length - k) 0 ⟨by omega, by simp⟩ (Wk.of (by simp only [go_sem, ↓List.forall_mem_cons, List.not_mem_nil, false_implies, implies_true, and_true, true_and, and_self, ri_eq, Int.natCast_add, Int.cast_ofNat_Int]; try simp) rfl) ?_
  rintro k ⟨hk, hkk⟩
  refine SW_of_vc Try.mixed _ _ _ (by kernel_rfl) ?_
  by_cases hlt : k < f.length
  · have gk : (ints f)[k]? = some (.val (.int .i64 (f.getD k 0))) := ints_get hlt
    have w := Try.l1In_ok (f.getD k 0) 0 1000
    cases he : inR (f.getD k 0) 0 1000 with
    | true =>
      rw [he] at w
      simp (disch := omega) only [Try.ntmps85, Try.results85, go_sem, gk, lC]
      refine w.callV 0 (viewL_cons_of (view_int) (viewL_cons_of (view_int) (viewL_cons_of (view_int) viewL_nil_of))) ?_
      simp (disch := omega) only [Try.ntmps85, Try.results85, go_sem, gk, lC]
      refine ⟨k + 1, ⟨by omega, fun i hi => ?_⟩, by omega, Wk.of (by simp only [go_sem, ↓List.forall_mem_cons, List.not_mem_nil, false_implies, implies_true, and_true, true_and, and_self, ri_eq, Int.natCast_add, Int.cast_ofNat_Int]; try simp) rfl⟩
      rcases Nat.lt_succ_iff_lt_or_eq.mp hi with h | rfl
      · exact hkk i h
      · exact he
    | false =>
      rw [he] at w
      simp (disch := omega) only [Try.ntmps85, Try.results85, go_sem, gk, lC]
      refine w.callV 0 (viewL_cons_of (view_int) (viewL_cons_of (view_int) (viewL_cons_of (view_int) viewL_nil_of))) ?_
      simp (disch := omega) only [Try.ntmps85, Try.results85, go_sem, gk, lC]
      exact Fin.val (by rw [isFV, all_not 0 hlt he, Bool.and_false])
  · have hall : (f.all fun x => inR x 0 1000) = true := (all_getD 0).2 fun i hi => hkk i (by omega)
    by_cases h6 : f.length = 6
    · simp (disch := omega) only [Try.ntmps85, Try.results85, go_sem, h6]
      exact Fin.val (by rw [isFV, decide_eq_true h6, hall]; rfl)
    · simp (disch := omega) only [Try.ntmps85, Try.results85, go_sem]
      exact Fin.val (by rw [isFV, decide_eq_false h6, Bool.false_and])

/-! ### Scorings -/
def wsum (W : List Int) (k : Nat) : Int := (W.take k).sum
theorem wsum_succ {W : List Int} {k : Nat} (h : k < W.length) : wsum W (k + 1) = wsum W k + W.getD k 0 := by
  rw [wsum, List.take_succ_eq_append_getElem h, List.sum_append, wsum]; simp [h]
def isSc (W : List Int) (b : Int) : Bool := (W.all fun x => inR x 0 9) && (decide (W.length = 6) && (decide (0 < wsum W W.length) && inR b 0 1000))
theorem wsum_b {W : List Int} (h : ∀ i, i < W.length → 0 ≤ W.getD i 0 ∧ W.getD i 0 ≤ 9) : ∀ k, k ≤ W.length → 0 ≤ wsum W k ∧ wsum W k ≤ 9 * k
  | 0, _ => by simp [wsum]
  | k + 1, hk => by
    have ih := wsum_b h k (by omega)
    have := h k (by omega)
    rw [wsum_succ (by omega)]
    omega

set_option maxHeartbeats 2000000 in
theorem Try.specSc_ok (W : List Int) (b : Int) (hW : W.length ≤ 1048576) : PCall Try.prog 84 [sS W b] (.val (.bool (isSc W b))) := by
  refine FCall.pcall (R := fun r _ => r = .val (.bool (isSc W b))) ?_ 0 (by rintro r H rfl; exact view_bool)
  refine FCall.of_body Try.func84 rfl (by kernel_rfl) (by simp [Try.ntmps84]) ?_
  have lC := ints_length W
  have ws0 : wsum W 0 = 0 := by simp [wsum]
  refine SW_of_vc Try.mixed _ _ _ (by kernel_rfl) ?_
  simp (disch := omega) only [Try.ntmps84, Try.results84, go_sem]
  refine LoopW.loop (fun k : Nat => ⟨ofL [(1, .optr 0 0), (3, .val (.int .i64 (wsum W k))), (4, .val (.int .i64 k))], hp [(0, ⟨[ri W, .val (.int .i64 b)], true⟩)] 1⟩) (fun k => k ≤ W.length ∧ ∀ i, i < k → inR (W.getD i 0) 0 9 = true) (fun k => W.length - k) 0 ⟨by omega, by simp⟩ (Wk.of (by simp only [go_sem, ↓List.forall_mem_cons, List.not_mem_nil, false_implies, implies_true, and_true, true_and, and_self, ri_eq, Int.natCast_add, Int.cast_ofNat_Int, ws0]; try simp) (by first | rfl | (simp only [ri]; done))) ?_
  rintro k ⟨hk, hkk⟩
  have hws : 0 ≤ wsum W k ∧ wsum W k ≤ 9 * k := by
    have h1 : ∀ k, (∀ i, i < k → inR (W.getD i 0) 0 9 = true) → k ≤ W.length → 0 ≤ wsum W k ∧ wsum W k ≤ 9 * k := by
      intro k
      induction k with
      | zero => intro _ _; simp [wsum]
      | succ k ih =>
        intro h1 h2
        have := ih (fun i hi => h1 i (by omega)) (by omega)
        have h3 := inR_of (h1 k (by omega))
        rw [wsum_succ (by omega)]; omega
    exact h1 k hkk hk
  refine SW_of_vc Try.mixed _ _ _ (by kernel_rfl) ?_
  by_cases hlt : k < W.length
  · have gk : (ints W)[k]? = some (.val (.int .i64 (W.getD k 0))) := ints_get hlt
    have w := Try.l1In_ok (W.getD k 0) 0 9
    have hsu := wsum_succ hlt
    cases he : inR (W.getD k 0) 0 9 with
    | true =>
      have hr := inR_of he
      have hnx : ∀ i, i < k + 1 → inR (W.getD i 0) 0 9 = true := fun i hi => by
        rcases Nat.lt_succ_iff_lt_or_eq.mp hi with h | rfl
        · exact hkk i h
        · exact he
      rw [he] at w
      generalize W.getD k 0 = x at *
      simp (disch := omega) only [Try.ntmps84, Try.results84, go_sem, gk, lC]
      refine w.callV 0 (viewL_cons_of (view_int) (viewL_cons_of (view_int) (viewL_cons_of (view_int) viewL_nil_of))) ?_
      simp (disch := omega) only [Try.ntmps84, Try.results84, go_sem, gk, lC]
      exact ⟨k + 1, ⟨by omega, hnx⟩, by omega, Wk.of (by simp only [go_sem, ↓List.forall_mem_cons, List.not_mem_nil, false_implies, implies_true, and_true, true_and, and_self, ri_eq, Int.natCast_add, Int.cast_ofNat_Int, hsu]; try simp) (by first | rfl | (simp only [ri]; done))⟩
    | false =>
      rw [he] at w
      simp (disch := omega) only [Try.ntmps84, Try.results84, go_sem, gk, lC]
      refine w.callV 0 (viewL_cons_of (view_int) (viewL_cons_of (view_int) (viewL_cons_of (view_int) viewL_nil_of))) ?_
      simp (disch := omega) only [Try.ntmps84, Try.results84, go_sem, gk, lC]
      exact Fin.val (by rw [isSc, all_not 0 hlt he, Bool.false_and])
  · obtain rfl : k = W.length := by omega
    have hall : (W.all fun x => inR x 0 9) = true := (all_getD 0).2 fun i hi => hkk i (by omega)
    by_cases h6 : W.length = 6
    · by_cases hs : 0 < wsum W W.length
      · have w := Try.l1In_ok b 0 1000
        have ef : isSc W b = inR b 0 1000 := by rw [isSc, hall, decide_eq_true h6, decide_eq_true hs]; rfl
        rw [ef]
        clear ef hall hkk
        generalize wsum W W.length = z at *
        simp (disch := omega) only [Try.ntmps84, Try.results84, go_sem]
        refine w.callV 0 (viewL_cons_of (view_int) (viewL_cons_of (view_int) (viewL_cons_of (view_int) viewL_nil_of))) ?_
        simp (disch := omega) only [Try.ntmps84, Try.results84, go_sem]
        exact Fin.val rfl
      · have ef : isSc W b = false := by rw [isSc, decide_eq_false hs]; simp
        rw [ef]
        clear ef hall hkk
        generalize wsum W W.length = z at *
        simp (disch := omega) only [Try.ntmps84, Try.results84, go_sem]
        exact Fin.val rfl
    · have ef : isSc W b = false := by rw [isSc, decide_eq_false h6]; simp
      rw [ef]
      clear ef
      simp (disch := omega) only [Try.ntmps84, Try.results84, go_sem]
      exact Fin.val rfl

set_option maxHeartbeats 2000000 in
theorem Try.implSc_ok (W : List Int) (b : Int) (hW : W.length ≤ 1048576) : PCall Try.prog 90 [sS W b] (.val (.bool (isSc W b))) := by
  refine FCall.pcall (R := fun r _ => r = .val (.bool (isSc W b))) ?_ 0 (by rintro r H rfl; exact view_bool)
  refine FCall.of_body Try.func90 rfl (by kernel_rfl) (by simp [Try.ntmps90]) ?_
  have lC := ints_length W
  have ws0 : wsum W 0 = 0 := by simp [wsum]
  refine SW_of_vc Try.mixed _ _ _ (by kernel_rfl) ?_
  simp (disch := omega) only [Try.ntmps90, Try.results90, go_sem]
  refine LoopW.loop (fun k : Nat => ⟨ofL [(1, .optr 0 0), (3, .val (.int .i64 (wsum W k))), (7, ri W), (8, .val (.int .i64 W.length)), (9, .val (.int .i64 k))], hp [(0, ⟨[ri W, .val (.int .i64 b)], true⟩)] 1⟩) (fun k => k ≤ W.length ∧ ∀ i, i < k → inR (W.getD i 0) 0 9 = true) (fun k => W.length - k) 0 ⟨by omega, by simp⟩ (Wk.of (by simp only [go_sem, ↓List.forall_mem_cons, List.not_mem_nil, false_implies, implies_true, and_true, true_and, and_self, ri_eq, Int.natCast_add, Int.cast_ofNat_Int, ws0]; try simp) (by first | rfl | (simp only [ri]; done))) ?_
  rintro k ⟨hk, hkk⟩
  have hws : 0 ≤ wsum W k ∧ wsum W k ≤ 9 * k := by
    have h1 : ∀ k, (∀ i, i < k → inR (W.getD i 0) 0 9 = true) → k ≤ W.length → 0 ≤ wsum W k ∧ wsum W k ≤ 9 * k := by
      intro k
      induction k with
      | zero => intro _ _; simp [wsum]
      | succ k ih =>
        intro h1 h2
        have := ih (fun i hi => h1 i (by omega)) (by omega)
        have h3 := inR_of (h1 k (by omega))
        rw [wsum_succ (by omega)]; omega
    exact h1 k hkk hk
  refine SW_of_vc Try.mixed _ _ _ (by kernel_rfl) ?_
  by_cases hlt : k < W.length
  · have gk : (ints W)[k]? = some (.val (.int .i64 (W.getD k 0))) := ints_get hlt
    have w := Try.within_ok (W.getD k 0) 0 9
    have hsu := wsum_succ hlt
    cases he : inR (W.getD k 0) 0 9 with
    | true =>
      have hr := inR_of he
      have hnx : ∀ i, i < k + 1 → inR (W.getD i 0) 0 9 = true := fun i hi => by
        rcases Nat.lt_succ_iff_lt_or_eq.mp hi with h | rfl
        · exact hkk i h
        · exact he
      rw [he] at w
      generalize W.getD k 0 = x at *
      simp (disch := omega) only [Try.ntmps90, Try.results90, go_sem, gk, lC]
      refine w.callV 0 (viewL_cons_of (view_int) (viewL_cons_of (view_int) (viewL_cons_of (view_int) viewL_nil_of))) ?_
      simp (disch := omega) only [Try.ntmps90, Try.results90, go_sem, gk, lC]
      exact ⟨k + 1, ⟨by omega, hnx⟩, by omega, Wk.of (by simp only [go_sem, ↓List.forall_mem_cons, List.not_mem_nil, false_implies, implies_true, and_true, true_and, and_self, ri_eq, Int.natCast_add, Int.cast_ofNat_Int, hsu]; try simp) (by first | rfl | (simp only [ri]; done))⟩
    | false =>
      rw [he] at w
      simp (disch := omega) only [Try.ntmps90, Try.results90, go_sem, gk, lC]
      refine w.callV 0 (viewL_cons_of (view_int) (viewL_cons_of (view_int) (viewL_cons_of (view_int) viewL_nil_of))) ?_
      simp (disch := omega) only [Try.ntmps90, Try.results90, go_sem, gk, lC]
      exact Fin.val (by rw [isSc, all_not 0 hlt he, Bool.false_and])
  · obtain rfl : k = W.length := by omega
    have hall : (W.all fun x => inR x 0 9) = true := (all_getD 0).2 fun i hi => hkk i (by omega)
    by_cases h6 : W.length = 6
    · by_cases hs : 0 < wsum W W.length
      · have w := Try.within_ok b 0 1000
        have ef : isSc W b = inR b 0 1000 := by rw [isSc, hall, decide_eq_true h6, decide_eq_true hs]; rfl
        rw [ef]
        clear ef hall hkk
        generalize wsum W W.length = z at *
        simp (disch := omega) only [Try.ntmps90, Try.results90, go_sem]
        refine w.callV 0 (viewL_cons_of (view_int) (viewL_cons_of (view_int) (viewL_cons_of (view_int) viewL_nil_of))) ?_
        simp (disch := omega) only [Try.ntmps90, Try.results90, go_sem]
        exact Fin.val rfl
      · have ef : isSc W b = false := by rw [isSc, decide_eq_false hs]; simp
        rw [ef]
        clear ef hall hkk
        generalize wsum W W.length = z at *
        simp (disch := omega) only [Try.ntmps90, Try.results90, go_sem]
        exact Fin.val rfl
    · have ef : isSc W b = false := by rw [isSc, decide_eq_false h6]; simp
      rw [ef]
      clear ef
      simp (disch := omega) only [Try.ntmps90, Try.results90, go_sem]
      exact Fin.val rfl

/-! ### The score of a pair -/
def dot (f W : List Int) : Nat → Int
  | 0 => 0
  | k + 1 => dot f W k + f.getD k 0 * W.getD k 0
theorem mul_b {x y : Int} (h1 : 0 ≤ x ∧ x ≤ 1000) (h2 : 0 ≤ y ∧ y ≤ 9) : 0 ≤ x * y ∧ x * y ≤ 9000 := by
  constructor
  · exact Int.mul_nonneg h1.1 h2.1
  · have : x * y ≤ 1000 * 9 := Int.mul_le_mul h1.2 h2.2 h2.1 (by omega)
    omega
theorem dot_b {f W : List Int} (hf : ∀ i, i < 6 → 0 ≤ f.getD i 0 ∧ f.getD i 0 ≤ 1000) (hW : ∀ i, i < 6 → 0 ≤ W.getD i 0 ∧ W.getD i 0 ≤ 9) : ∀ k, k ≤ 6 → 0 ≤ dot f W k ∧ dot f W k ≤ 9000 * k
  | 0, _ => by simp [dot]
  | k + 1, hk => by
    have ih := dot_b hf hW k (by omega)
    have := mul_b (hf k (by omega)) (hW k (by omega))
    rw [dot]; omega
theorem isSc_t {W : List Int} {b : Int} (h : isSc W b = true) : W.length = 6 ∧ (∀ i, i < 6 → 0 ≤ W.getD i 0 ∧ W.getD i 0 ≤ 9) ∧ 0 < wsum W 6 ∧ 0 ≤ b ∧ b ≤ 1000 := by
  simp only [isSc, Bool.and_eq_true] at h
  obtain ⟨h1, h2, h3, h4⟩ := h
  have hl := of_decide_eq_true h2
  have hs := of_decide_eq_true h3
  rw [hl] at hs
  exact ⟨hl, fun i hi => inR_of ((all_getD 0).1 h1 i (by omega)), hs, inR_of h4⟩

set_option maxHeartbeats 2000000 in
theorem Try.specComb_ok (f W : List Int) (hf : isFV f = true) (hl : W.length = 6) (hW : ∀ i, i < 6 → 0 ≤ W.getD i 0 ∧ W.getD i 0 ≤ 9) (hs : 0 < wsum W 6) : PCall Try.prog 115 [ri f, ri W] (.val (.int .i64 ((dot f W 6).tdiv (wsum W 6)))) := by
  obtain ⟨fl, fr⟩ := isFV_t hf
  refine FCall.pcall (R := fun r _ => r = .val (.int .i64 ((dot f W 6).tdiv (wsum W 6)))) ?_ 0 (by rintro r H rfl; exact view_int)
  refine FCall.of_body Try.func115 rfl (by kernel_rfl) (by simp [Try.ntmps115]) ?_
  have l1 : (ints f).length = 6 := by rw [ints_length, fl]
  have l2 : (ints W).length = 6 := by rw [ints_length, hl]
  have ws0 : wsum W 0 = 0 := by simp [wsum]
  have d0 : dot f W 0 = 0 := rfl
  refine SW_of_vc Try.mixed _ _ _ (by kernel_rfl) ?_
  simp (disch := omega) only [Try.ntmps115, Try.results115, go_sem, fl, hl, bne_self_eq_false]
  refine LoopW.loop (fun k : Nat => ⟨ofL [(0, ri f), (1, ri W), (5, .val (.int .i64 (dot f W k))), (6, .val (.int .i64 (wsum W k))), (7, .val (.int .i64 k))], hp [] 0⟩) (fun k => k ≤ 6) (fun k => 6 - k) 0 (by omega) (Wk.of (by simp only [go_sem, ↓List.forall_mem_cons, List.not_mem_nil, false_implies, implies_true, and_true, true_and, and_self, ri_eq, Int.natCast_add, Int.cast_ofNat_Int, ws0, d0, fl, hl]; try simp) rfl) ?_
  intro k hk
  have hwb := wsum_b (W := W) (fun i hi => hW i (by omega)) k (by omega)
  have hdb := dot_b fr hW k hk
  have hwb6 := wsum_b (W := W) (fun i hi => hW i (by omega)) 6 (by omega)
  have hdb6 := dot_b fr hW 6 (by omega)
  refine SW_of_vc Try.mixed _ _ _ (by kernel_rfl) ?_
  by_cases hlt : k < 6
  · have g1 : (ints f)[k]? = some (.val (.int .i64 (f.getD k 0))) := ints_get (by omega)
    have g2 : (ints W)[k]? = some (.val (.int .i64 (W.getD k 0))) := ints_get (by omega)
    have b1 := fr k hlt
    have b2 := hW k hlt
    have w1 := Try.l1In_ok (f.getD k 0) 0 1000
    have w2 := Try.l1In_ok (W.getD k 0) 0 1000
    rw [inR_tt (by omega) (by omega)] at w1 w2
    have hsu := wsum_succ (W := W) (k := k) (by omega)
    have hdu : dot f W (k + 1) = dot f W k + f.getD k 0 * W.getD k 0 := rfl
    have hmul : 0 ≤ f.getD k 0 * W.getD k 0 ∧ f.getD k 0 * W.getD k 0 ≤ 9000 := mul_b b1 b2
    generalize f.getD k 0 = x at *
    generalize W.getD k 0 = y at *
    simp (disch := omega) only [Try.ntmps115, Try.results115, go_sem, g1, g2, l1, l2, fl, hl]
    refine w1.callV 0 (viewL_cons_of (view_int) (viewL_cons_of (view_int) (viewL_cons_of (view_int) viewL_nil_of))) ?_
    simp (disch := omega) only [Try.ntmps115, Try.results115, go_sem, g1, g2, l1, l2, fl, hl]
    refine w2.callV 0 (viewL_cons_of (view_int) (viewL_cons_of (view_int) (viewL_cons_of (view_int) viewL_nil_of))) ?_
    simp (disch := omega) only [Try.ntmps115, Try.results115, go_sem, g1, g2, l1, l2, fl, hl]
    exact ⟨k + 1, by omega, by omega, Wk.of (by simp only [go_sem, ↓List.forall_mem_cons, List.not_mem_nil, false_implies, implies_true, and_true, true_and, and_self, ri_eq, Int.natCast_add, Int.cast_ofNat_Int, hsu, hdu, fl, hl]; try simp) rfl⟩
  · obtain rfl : k = 6 := by omega
    have hq : 0 ≤ (dot f W 6).tdiv (wsum W 6) := Int.tdiv_nonneg hdb6.1 hwb6.1
    have hq2 : (dot f W 6).tdiv (wsum W 6) ≤ dot f W 6 := Int.tdiv_le_self _ hdb6.1
    have hne : ¬ wsum W 6 = 0 := by omega
    generalize wsum W 6 = s at *
    generalize dot f W 6 = d at *
    have hne2 : (s == 0) = false := by simpa using hne
    simp (disch := omega) only [Try.ntmps115, Try.results115, go_sem, l1, l2, fl, hl, hne, hne2]
    exact Fin.val rfl

set_option maxHeartbeats 2000000 in
theorem Try.implComb_ok (f W : List Int) (hf : isFV f = true) (hl : W.length = 6) (hW : ∀ i, i < 6 → 0 ≤ W.getD i 0 ∧ W.getD i 0 ≤ 9) (hs : 0 < wsum W 6) : PCall Try.prog 122 [ri f, ri W] (.val (.int .i64 ((dot f W 6).tdiv (wsum W 6)))) := by
  obtain ⟨fl, fr⟩ := isFV_t hf
  refine FCall.pcall (R := fun r _ => r = .val (.int .i64 ((dot f W 6).tdiv (wsum W 6)))) ?_ 0 (by rintro r H rfl; exact view_int)
  refine FCall.of_body Try.func122 rfl (by kernel_rfl) (by simp [Try.ntmps122]) ?_
  have l1 : (ints f).length = 6 := by rw [ints_length, fl]
  have l2 : (ints W).length = 6 := by rw [ints_length, hl]
  have ws0 : wsum W 0 = 0 := by simp [wsum]
  have d0 : dot f W 0 = 0 := rfl
  refine SW_of_vc Try.mixed _ _ _ (by kernel_rfl) ?_
  simp (disch := omega) only [Try.ntmps122, Try.results122, go_sem, fl, hl, bne_self_eq_false]
  refine LoopW.loop (fun k : Nat => ⟨ofL [(0, ri f), (1, ri W), (5, .val (.int .i64 (dot f W k))), (6, .val (.int .i64 (wsum W k))), (14, ri f), (15, .val (.int .i64 6)), (16, .val (.int .i64 k))], hp [] 0⟩) (fun k => k ≤ 6) (fun k => 6 - k) 0 (by omega) (Wk.of (by simp only [go_sem, ↓List.forall_mem_cons, List.not_mem_nil, false_implies, implies_true, and_true, true_and, and_self, ri_eq, Int.natCast_add, Int.cast_ofNat_Int, ws0, d0, fl, hl]; try simp) rfl) ?_
  intro k hk
  have hwb := wsum_b (W := W) (fun i hi => hW i (by omega)) k (by omega)
  have hdb := dot_b fr hW k hk
  have hwb6 := wsum_b (W := W) (fun i hi => hW i (by omega)) 6 (by omega)
  have hdb6 := dot_b fr hW 6 (by omega)
  refine SW_of_vc Try.mixed _ _ _ (by kernel_rfl) ?_
  by_cases hlt : k < 6
  · have g1 : (ints f)[k]? = some (.val (.int .i64 (f.getD k 0))) := ints_get (by omega)
    have g2 : (ints W)[k]? = some (.val (.int .i64 (W.getD k 0))) := ints_get (by omega)
    have b1 := fr k hlt
    have b2 := hW k hlt
    have w1 := Try.within_ok (f.getD k 0) 0 1000
    have w2 := Try.within_ok (W.getD k 0) 0 1000
    rw [inR_tt (by omega) (by omega)] at w1 w2
    have hsu := wsum_succ (W := W) (k := k) (by omega)
    have hdu : dot f W (k + 1) = dot f W k + f.getD k 0 * W.getD k 0 := rfl
    have hmul : 0 ≤ f.getD k 0 * W.getD k 0 ∧ f.getD k 0 * W.getD k 0 ≤ 9000 := mul_b b1 b2
    generalize f.getD k 0 = x at *
    generalize W.getD k 0 = y at *
    simp (disch := omega) only [Try.ntmps122, Try.results122, go_sem, g1, g2, l1, l2, fl, hl]
    refine w1.callV 0 (viewL_cons_of (view_int) (viewL_cons_of (view_int) (viewL_cons_of (view_int) viewL_nil_of))) ?_
    simp (disch := omega) only [Try.ntmps122, Try.results122, go_sem, g1, g2, l1, l2, fl, hl]
    refine w2.callV 0 (viewL_cons_of (view_int) (viewL_cons_of (view_int) (viewL_cons_of (view_int) viewL_nil_of))) ?_
    simp (disch := omega) only [Try.ntmps122, Try.results122, go_sem, g1, g2, l1, l2, fl, hl]
    exact ⟨k + 1, by omega, by omega, Wk.of (by simp only [go_sem, ↓List.forall_mem_cons, List.not_mem_nil, false_implies, implies_true, and_true, true_and, and_self, ri_eq, Int.natCast_add, Int.cast_ofNat_Int, hsu, hdu, fl, hl]; try simp) rfl⟩
  · obtain rfl : k = 6 := by omega
    have hq : 0 ≤ (dot f W 6).tdiv (wsum W 6) := Int.tdiv_nonneg hdb6.1 hwb6.1
    have hq2 : (dot f W 6).tdiv (wsum W 6) ≤ dot f W 6 := Int.tdiv_le_self _ hdb6.1
    have hne : ¬ wsum W 6 = 0 := by omega
    generalize wsum W 6 = s at *
    generalize dot f W 6 = d at *
    have hne2 : (s == 0) = false := by simpa using hne
    simp (disch := omega) only [Try.ntmps122, Try.results122, go_sem, l1, l2, fl, hl, hne, hne2]
    exact Fin.val rfl

set_option maxHeartbeats 2000000 in
theorem Try.specPS_ok (W : List Int) (b : Int) (f : List Int) (hW : W.length ≤ 1048576) (hf : f.length ≤ 1048576) (h1 : isSc W b = true) (h2 : isFV f = true) : PCall Try.prog 86 [sS W b, ri f] (.val (.int .i64 ((dot f W 6).tdiv (wsum W 6)))) := by
  obtain ⟨g1, g2, g3, g4⟩ := isSc_t h1
  have w1 := Try.specSc_ok W b hW
  have w2 := Try.specFV_ok f hf
  rw [h1] at w1
  rw [h2] at w2
  have w3 := Try.specComb_ok f W h2 g1 g2 g3
  refine FCall.pcall (R := fun r _ => r = .val (.int .i64 ((dot f W 6).tdiv (wsum W 6)))) ?_ 0 (by rintro r H rfl; exact view_int)
  refine FCall.of_body Try.func86 rfl (by kernel_rfl) (by simp [Try.ntmps86]) ?_
  refine SW_of_vc Try.mixed _ _ _ (by kernel_rfl) ?_
  simp (disch := omega) only [Try.ntmps86, Try.results86, go_sem]
  refine w1.callV 1 (viewL_cons_of view_sS viewL_nil_of) ?_
  simp (disch := omega) only [Try.ntmps86, Try.results86, go_sem]
  refine w2.callV 0 (viewL_cons_of (view_row) viewL_nil_of) ?_
  simp (disch := omega) only [Try.ntmps86, Try.results86, go_sem]
  refine w3.callV 0 (viewL_cons_of (view_row) (viewL_cons_of (view_row) viewL_nil_of)) ?_
  simp (disch := omega) only [Try.ntmps86, Try.results86, go_sem]
  exact Fin.val rfl

set_option maxHeartbeats 2000000 in
theorem Try.implPS_ok (W : List Int) (b : Int) (f : List Int) (hW : W.length ≤ 1048576) (hf : f.length ≤ 1048576) (h1 : isSc W b = true) (h2 : isFV f = true) : PCall Try.prog 92 [sS W b, ri f] (.val (.int .i64 ((dot f W 6).tdiv (wsum W 6)))) := by
  obtain ⟨g1, g2, g3, g4⟩ := isSc_t h1
  have w1 := Try.implSc_ok W b hW
  have w2 := Try.implFV_ok f hf
  rw [h1] at w1
  rw [h2] at w2
  have w3 := Try.implComb_ok f W h2 g1 g2 g3
  refine FCall.pcall (R := fun r _ => r = .val (.int .i64 ((dot f W 6).tdiv (wsum W 6)))) ?_ 0 (by rintro r H rfl; exact view_int)
  refine FCall.of_body Try.func92 rfl (by kernel_rfl) (by simp [Try.ntmps92]) ?_
  refine SW_of_vc Try.mixed _ _ _ (by kernel_rfl) ?_
  simp (disch := omega) only [Try.ntmps92, Try.results92, go_sem]
  refine w1.callV 1 (viewL_cons_of view_sS viewL_nil_of) ?_
  simp (disch := omega) only [Try.ntmps92, Try.results92, go_sem]
  refine w2.callV 0 (viewL_cons_of (view_row) viewL_nil_of) ?_
  simp (disch := omega) only [Try.ntmps92, Try.results92, go_sem]
  refine w3.callV 0 (viewL_cons_of (view_row) (viewL_cons_of (view_row) viewL_nil_of)) ?_
  simp (disch := omega) only [Try.ntmps92, Try.results92, go_sem]
  exact Fin.val rfl
end Go.Sh

/-
  Contracts: rules: valid, of a test, of a rule, the first that holds.
-/
namespace Go.Sh
set_option linter.unusedSimpArgs false
set_option linter.unusedVariables false
open Go Go.Proofs

def okT (T : List Con) (k : Nat) : Bool := inR (cg T k).1 0 5 && (inR (cg T k).2.1 1 1000 && (decide (k = 0) || decide ((cg T (k - 1)).1 < (cg T k).1)))
def okR (T : List Con) : Bool := ((List.range T.length).all (okT T)) && inR T.length 1 3
def isVR (R : List (List Con)) : Bool := R.all okR && inR R.length 1 3
theorem okR_not {T : List Con} {k : Nat} (hk : k < T.length) (h : okT T k = false) : okR T = false := by
  have : (List.range T.length).all (okT T) = false := by
    rw [List.all_eq_false]; exact ⟨k, by simpa using hk, by rw [h]; simp⟩
  rw [okR, this, Bool.false_and]
theorem okR_of {T : List Con} (h : ∀ k, k < T.length → okT T k = true) : okR T = inR T.length 1 3 := by
  have : (List.range T.length).all (okT T) = true := by
    rw [List.all_eq_true]; intro k hk; exact h k (by simpa using hk)
  rw [okR, this, Bool.true_and]
theorem isVR_t {R : List (List Con)} (h : isVR R = true) : R.length ≤ 3 ∧ ∀ i, i < R.length → (rg R i).length ≤ 3 ∧ ∀ k, k < (rg R i).length → okT (rg R i) k = true := by
  simp only [isVR, Bool.and_eq_true] at h
  refine ⟨by have := inR_of h.2; omega, fun i hi => ?_⟩
  have := (all_getD []).1 h.1 i hi
  rw [okR, Bool.and_eq_true, List.all_eq_true] at this
  exact ⟨by have := inR_of this.2; unfold rg; omega, fun k hk => this.1 k (by rw [List.mem_range]; exact hk)⟩

theorem Try.isFeature_ok (x : Int) : PCall Try.prog 118 [.val (.int .i64 x)] (.val (.bool (inR x 0 5))) := by
  refine FCall.pcall (R := fun r _ => r = .val (.bool (inR x 0 5))) ?_ 0 (by rintro r H rfl; exact view_bool)
  refine FCall.of_body Try.func118 rfl (by kernel_rfl) (by simp [Try.ntmps118]) ?_
  have w := Try.within_ok x 0 5
  refine SW_of_vc Try.mixed _ _ _ (by kernel_rfl) ?_
  simp (disch := omega) only [Try.ntmps118, Try.results118, go_sem]
  refine w.callV 0 (viewL_cons_of (view_int) (viewL_cons_of (view_int) (viewL_cons_of (view_int) viewL_nil_of))) ?_
  simp (disch := omega) only [Try.ntmps118, Try.results118, go_sem]
  exact Fin.val rfl
theorem Try.isThreshold_ok (x : Int) : PCall Try.prog 119 [.val (.int .i64 x)] (.val (.bool (inR x 1 1000))) := by
  refine FCall.pcall (R := fun r _ => r = .val (.bool (inR x 1 1000))) ?_ 0 (by rintro r H rfl; exact view_bool)
  refine FCall.of_body Try.func119 rfl (by kernel_rfl) (by simp [Try.ntmps119]) ?_
  have w := Try.within_ok x 1 1000
  refine SW_of_vc Try.mixed _ _ _ (by kernel_rfl) ?_
  simp (disch := omega) only [Try.ntmps119, Try.results119, go_sem]
  refine w.callV 0 (viewL_cons_of (view_int) (viewL_cons_of (view_int) (viewL_cons_of (view_int) viewL_nil_of))) ?_
  simp (disch := omega) only [Try.ntmps119, Try.results119, go_sem]
  exact Fin.val rfl

set_option maxRecDepth 20000 in
set_option maxHeartbeats 8000000 in
theorem Try.specVR_ok (R : List (List Con)) (hR : R.length ≤ 1048576) (hT : ∀ i, i < R.length → (rg R i).length ≤ 1048576) : PCall Try.prog 83 [.agg [rR R]] (.val (.bool (isVR R))) := by
  refine FCall.pcall (R := fun r _ => r = .val (.bool (isVR R))) ?_ 0 (by rintro r H rfl; exact view_bool)
  refine FCall.of_body Try.func83 rfl (by kernel_rfl) (by simp [Try.ntmps83]) ?_
  have hrl := rules_length R
  refine SW_of_vc Try.mixed _ _ _ (by kernel_rfl) ?_
  simp (disch := omega) only [Try.ntmps83, Try.results83, go_sem, rR]
  refine LoopW.loop (fun i : Nat => ⟨ofL [(1, .optr 0 0), (3, .val (.int .i64 i))], hp [(0, ⟨[rR R], true⟩)] 1⟩) (fun i => i ≤ R.length ∧ ∀ x, x < i → okR (R.getD x []) = true) (fun i => R.length - i) 0 ⟨by omega, by simp⟩ (Wk.of (by simp only [go_sem, ↓List.forall_mem_cons, List.not_mem_nil, false_implies, implies_true, and_true, true_and, and_self, ri_eq, Int.natCast_add, Int.cast_ofNat_Int, rR]; try simp) rfl) ?_
  rintro i ⟨hi, hii⟩
  refine SW_of_vc Try.mixed _ _ _ (by kernel_rfl) ?_
  by_cases hlt : i < R.length
  case neg =>
    obtain rfl : i = R.length := by omega
    have w := Try.l1In_ok R.length 1 3
    have e : isVR R = inR R.length 1 3 := by rw [isVR, (all_getD []).2 hii, Bool.true_and]
    rw [e]
    simp (disch := omega) only [Try.ntmps83, Try.results83, go_sem, rR]
    refine w.callV 0 (viewL_cons_of (view_int) (viewL_cons_of (view_int) (viewL_cons_of (view_int) viewL_nil_of))) ?_
    simp (disch := omega) only [Try.ntmps83, Try.results83, go_sem, rR]
    exact Fin.val rfl
  have gk := rules_get hlt
  have htl := hT i hlt
  have hno : okR (rg R i) = false → isVR R = false := fun h => by rw [isVR, all_not [] hlt h, Bool.false_and]
  have hyes : okR (rg R i) = true → ∀ x, x < i + 1 → okR (R.getD x []) = true := fun h x hx => by
    rcases Nat.lt_succ_iff_lt_or_eq.mp hx with g | rfl
    · exact hii x g
    · exact h
  clear hii
  generalize rg R i = T at *
  have hcl := cons_length T
  simp (disch := omega) only [Try.ntmps83, Try.results83, go_sem, rR, gk, hrl]
  refine LoopW.loop (fun k : Nat => ⟨ofL [(1, .optr 0 0), (3, .val (.int .i64 i)), (4, rc T), (5, .val (.int .i64 k))], hp [(0, ⟨[rR R], true⟩)] 1⟩) (fun k => k ≤ T.length ∧ ∀ x, x < k → okT T x = true) (fun k => T.length - k) 0 ⟨by omega, by simp⟩ (Wk.of (by simp only [go_sem, ↓List.forall_mem_cons, List.not_mem_nil, false_implies, implies_true, and_true, true_and, and_self, ri_eq, Int.natCast_add, Int.cast_ofNat_Int, rR, rc]; try simp) rfl) ?_
  rintro k ⟨hk, hkk⟩
  refine SW_of_vc Try.mixed _ _ _ (by kernel_rfl) ?_
  by_cases hltk : k < T.length
  case neg =>
    obtain rfl : k = T.length := by omega
    have w := Try.l1In_ok T.length 1 3
    have e := okR_of hkk
    cases hin : inR T.length 1 3 with
    | true =>
      rw [hin] at w e
      simp (disch := omega) only [Try.ntmps83, Try.results83, go_sem, rR, rc]
      refine w.callV 0 (viewL_cons_of (view_int) (viewL_cons_of (view_int) (viewL_cons_of (view_int) viewL_nil_of))) ?_
      simp (disch := omega) only [Try.ntmps83, Try.results83, go_sem, rR, rc]
      exact ⟨i + 1, ⟨hlt, hyes e⟩, by omega, Wk.of (by simp only [go_sem, ↓List.forall_mem_cons, List.not_mem_nil, false_implies, implies_true, and_true, true_and, and_self, ri_eq, Int.natCast_add, Int.cast_ofNat_Int, rR, rc]; try simp) rfl⟩
    | false =>
      rw [hin] at w e
      simp (disch := omega) only [Try.ntmps83, Try.results83, go_sem, rR, rc]
      refine w.callV 0 (viewL_cons_of (view_int) (viewL_cons_of (view_int) (viewL_cons_of (view_int) viewL_nil_of))) ?_
      simp (disch := omega) only [Try.ntmps83, Try.results83, go_sem, rR, rc]
      exact Fin.val (by rw [hno e])
  obtain ⟨a, b, s, hc⟩ := con_ex T k
  obtain ⟨q0, q1, _, _⟩ := cons_of hltk hc
  have w1 := Try.l1In_ok a 0 5
  have w2 := Try.l1In_ok b 1 1000
  have eok : okT T k = (inR a 0 5 && (inR b 1 1000 && (decide (k = 0) || decide ((cg T (k - 1)).1 < a)))) := by rw [okT, hc]
  have hno2 : okT T k = false → isVR R = false := fun h => hno (okR_not hltk h)
  have hyes2 : okT T k = true → ∀ x, x < k + 1 → okT T x = true := fun h x hx => by
    rcases Nat.lt_succ_iff_lt_or_eq.mp hx with g | rfl
    · exact hkk x g
    · exact h
  clear hkk hno hyes
  cases ha : inR a 0 5 with
  | false =>
    rw [ha] at w1 eok
    simp (disch := omega) only [Try.ntmps83, Try.results83, go_sem, rR, rc, q0, q1, hcl]
    refine w1.callDV 0 (viewL_cons_of (view_int) (viewL_cons_of (view_int) (viewL_cons_of (view_int) viewL_nil_of))) ?_
    simp (disch := omega) only [Try.ntmps83, Try.results83, go_sem, rR, rc, q0, q1, hcl]
    exact Fin.val (by rw [hno2 (by rw [eok]; rfl)])
  | true =>
    rw [ha] at w1 eok
    cases hb : inR b 1 1000 with
    | false =>
      rw [hb] at w2 eok
      simp (disch := omega) only [Try.ntmps83, Try.results83, go_sem, rR, rc, q0, q1, hcl]
      refine w1.callDV 0 (viewL_cons_of (view_int) (viewL_cons_of (view_int) (viewL_cons_of (view_int) viewL_nil_of))) ?_
      simp (disch := omega) only [Try.ntmps83, Try.results83, go_sem, rR, rc, q0, q1, hcl]
      refine w2.callDV 0 (viewL_cons_of (view_int) (viewL_cons_of (view_int) (viewL_cons_of (view_int) viewL_nil_of))) ?_
      simp (disch := omega) only [Try.ntmps83, Try.results83, go_sem, rR, rc, q0, q1, hcl]
      exact Fin.val (by rw [hno2 (by rw [eok]; rfl)])
    | true =>
      rw [hb] at w2 eok
      cases k with
      | zero =>
        simp (disch := omega) only [Try.ntmps83, Try.results83, go_sem, rR, rc, q0, q1, hcl]
        refine w1.callDV 0 (viewL_cons_of (view_int) (viewL_cons_of (view_int) (viewL_cons_of (view_int) viewL_nil_of))) ?_
        simp (disch := omega) only [Try.ntmps83, Try.results83, go_sem, rR, rc, q0, q1, hcl]
        refine w2.callDV 0 (viewL_cons_of (view_int) (viewL_cons_of (view_int) (viewL_cons_of (view_int) viewL_nil_of))) ?_
        simp (disch := omega) only [Try.ntmps83, Try.results83, go_sem, rR, rc, q0, q1, hcl]
        exact ⟨1, ⟨by omega, hyes2 (by rw [eok]; rfl)⟩, by omega, Wk.of (by simp only [go_sem, ↓List.forall_mem_cons, List.not_mem_nil, false_implies, implies_true, and_true, true_and, and_self, ri_eq, Int.natCast_add, Int.cast_ofNat_Int, rR, rc]; try simp) rfl⟩
      | succ p =>
        obtain ⟨a', b', s', hc'⟩ := con_ex T p
        obtain ⟨p0, _, _, _⟩ := cons_of (k := p) (by omega) hc'
        rw [Nat.add_sub_cancel, hc'] at eok
        have hp1 : (((p + 1 : Nat) : Int)) - 1 = (p : Int) := by omega
        by_cases hlt3 : a' < a
        · simp (disch := omega) only [Try.ntmps83, Try.results83, go_sem, rR, rc, q0, q1, p0, hcl, hp1]
          refine w1.callDV 0 (viewL_cons_of (view_int) (viewL_cons_of (view_int) (viewL_cons_of (view_int) viewL_nil_of))) ?_
          simp (disch := omega) only [Try.ntmps83, Try.results83, go_sem, rR, rc, q0, q1, p0, hcl, hp1]
          refine w2.callDV 0 (viewL_cons_of (view_int) (viewL_cons_of (view_int) (viewL_cons_of (view_int) viewL_nil_of))) ?_
          simp (disch := omega) only [Try.ntmps83, Try.results83, go_sem, rR, rc, q0, q1, p0, hcl, hp1]
          exact ⟨p + 1 + 1, ⟨by omega, hyes2 (by rw [eok]; simp [hlt3])⟩, by omega, Wk.of (by simp only [go_sem, ↓List.forall_mem_cons, List.not_mem_nil, false_implies, implies_true, and_true, true_and, and_self, ri_eq, Int.natCast_add, Int.cast_ofNat_Int, rR, rc]; try simp) rfl⟩
        · simp (disch := omega) only [Try.ntmps83, Try.results83, go_sem, rR, rc, q0, q1, p0, hcl, hp1]
          refine w1.callDV 0 (viewL_cons_of (view_int) (viewL_cons_of (view_int) (viewL_cons_of (view_int) viewL_nil_of))) ?_
          simp (disch := omega) only [Try.ntmps83, Try.results83, go_sem, rR, rc, q0, q1, p0, hcl, hp1]
          refine w2.callDV 0 (viewL_cons_of (view_int) (viewL_cons_of (view_int) (viewL_cons_of (view_int) viewL_nil_of))) ?_
          simp (disch := omega) only [Try.ntmps83, Try.results83, go_sem, rR, rc, q0, q1, p0, hcl, hp1]
          exact Fin.val (by rw [hno2 (by rw [eok]; simp [hlt3])])

set_option maxRecDepth 20000 in
set_option maxHeartbeats 8000000 in
theorem Try.implVR_ok (R : List (List Con)) (hR : R.length ≤ 1048576) (hT : ∀ i, i < R.length → (rg R i).length ≤ 1048576) : PCall Try.prog 89 [.agg [rR R]] (.val (.bool (isVR R))) := by
  refine FCall.pcall (R := fun r _ => r = .val (.bool (isVR R))) ?_ 0 (by rintro r H rfl; exact view_bool)
  refine FCall.of_body Try.func89 rfl (by kernel_rfl) (by simp [Try.ntmps89]) ?_
  have hrl := rules_length R
  refine SW_of_vc Try.mixed _ _ _ (by kernel_rfl) ?_
  simp (disch := omega) only [Try.ntmps89, Try.results89, go_sem, rR]
  refine LoopW.loop (fun y : Nat × Nat => ⟨ofL [(1, .optr 0 0), (8, rR R), (9, .val (.int .i64 R.length)), (10, .val (.int .i64 y.1))], hp [(0, ⟨[rR R], true⟩)] y.2⟩) (fun y => y.1 ≤ R.length ∧ 1 ≤ y.2 ∧ ∀ x, x < y.1 → okR (R.getD x []) = true) (fun y => R.length - y.1) (0, 1) ⟨by simp, by simp, by simp⟩ (Wk.of (by simp only [go_sem, ↓List.forall_mem_cons, List.not_mem_nil, false_implies, implies_true, and_true, true_and, and_self, ri_eq, Int.natCast_add, Int.cast_ofNat_Int, rR]; try simp) rfl) ?_
  rintro ⟨i, nb⟩ ⟨hi, hnb, hii⟩
  simp only at hi hnb hii
  refine SW_of_vc Try.mixed _ _ _ (by kernel_rfl) ?_
  by_cases hlt : i < R.length
  case neg =>
    obtain rfl : i = R.length := by omega
    have w := Try.within_ok R.length 1 3
    have e : isVR R = inR R.length 1 3 := by rw [isVR, (all_getD []).2 hii, Bool.true_and]
    rw [e]
    simp (disch := omega) only [Try.ntmps89, Try.results89, go_sem, rR]
    refine w.callV 0 (viewL_cons_of (view_int) (viewL_cons_of (view_int) (viewL_cons_of (view_int) viewL_nil_of))) ?_
    simp (disch := omega) only [Try.ntmps89, Try.results89, go_sem, rR]
    exact Fin.val rfl
  have gk := rules_get hlt
  have gl := rules_load hlt
  have htl := hT i hlt
  have hno : okR (rg R i) = false → isVR R = false := fun h => by rw [isVR, all_not [] hlt h, Bool.false_and]
  have hyes : okR (rg R i) = true → ∀ x, x < i + 1 → okR (R.getD x []) = true := fun h x hx => by
    rcases Nat.lt_succ_iff_lt_or_eq.mp hx with g | rfl
    · exact hii x g
    · exact h
  clear hii
  generalize rg R i = T at *
  have hcl := cons_length T
  have w := Try.within_ok T.length 1 3
  cases hin : inR T.length 1 3 with
  | false =>
    rw [hin] at w
    have e : okR T = false := by rw [okR, hin, Bool.and_false]
    simp (disch := omega) only [Try.ntmps89, Try.results89, go_sem, rR, rc, gk, gl, hrl]
    refine w.callV 0 (viewL_cons_of (view_int) (viewL_cons_of (view_int) (viewL_cons_of (view_int) viewL_nil_of))) ?_
    simp (disch := omega) only [Try.ntmps89, Try.results89, go_sem, rR, rc, gk, gl, hrl]
    exact Fin.val (by rw [hno e])
  | true =>
  rw [hin] at w
  simp (disch := omega) only [Try.ntmps89, Try.results89, go_sem, rR, rc, gk, gl, hrl]
  refine w.callV 0 (viewL_cons_of (view_int) (viewL_cons_of (view_int) (viewL_cons_of (view_int) viewL_nil_of))) ?_
  simp (disch := omega) only [Try.ntmps89, Try.results89, go_sem, rR, rc, gk, gl, hrl]
  refine LoopW.loop (fun y : Nat × Nat => ⟨ofL [(1, .optr 0 0), (4, .optr nb 0), (8, rR R), (9, .val (.int .i64 R.length)), (10, .val (.int .i64 i)), (20, rc T), (21, .val (.int .i64 T.length)), (22, .val (.int .i64 y.1))], hp [(nb, ⟨[rc T], true⟩), (0, ⟨[rR R], true⟩)] y.2⟩) (fun y => y.1 ≤ T.length ∧ nb < y.2 ∧ ∀ x, x < y.1 → okT T x = true) (fun y => T.length - y.1) (0, nb + 1) ⟨by simp, by simp, by simp⟩ (Wk.of (by simp only [go_sem, ↓List.forall_mem_cons, List.not_mem_nil, false_implies, implies_true, and_true, true_and, and_self, ri_eq, Int.natCast_add, Int.cast_ofNat_Int, rR, rc]; try simp) (by first | rfl | (simp only [rR, rc]; done))) ?_
  rintro ⟨k, nb2⟩ ⟨hk, hnb2, hkk⟩
  simp only at hk hnb2 hkk
  refine SW_of_vc Try.mixed _ _ _ (by kernel_rfl) ?_
  by_cases hltk : k < T.length
  case neg =>
    obtain rfl : k = T.length := by omega
    have e := okR_of hkk
    rw [hin] at e
    simp (disch := omega) only [Try.ntmps89, Try.results89, go_sem, rR, rc]
    exact ⟨(i + 1, nb2), ⟨hlt, by show 1 ≤ nb2; omega, hyes e⟩, by show R.length - (i + 1) < R.length - i; omega, Wk.ofH (by simp only [go_sem, ↓List.forall_mem_cons, List.not_mem_nil, false_implies, implies_true, and_true, true_and, and_self, ri_eq, Int.natCast_add, Int.cast_ofNat_Int, rR, rc]; try simp) (by simp (disch := omega) only [hp, hmap, ↓List.forall_mem_cons, List.not_mem_nil, false_implies, implies_true, and_true, if_neg, if_pos, ↓reduceIte, rR]) (by simp [hp])⟩
  obtain ⟨a, b, s, hc⟩ := con_ex T k
  obtain ⟨q0, q1, q2, q3⟩ := cons_of hltk hc
  have w1 := Try.isFeature_ok a
  have w2 := Try.isThreshold_ok b
  have eok : okT T k = (inR a 0 5 && (inR b 1 1000 && (decide (k = 0) || decide ((cg T (k - 1)).1 < a)))) := by rw [okT, hc]
  have hno2 : okT T k = false → isVR R = false := fun h => hno (okR_not hltk h)
  have hyes2 : okT T k = true → ∀ x, x < k + 1 → okT T x = true := fun h x hx => by
    rcases Nat.lt_succ_iff_lt_or_eq.mp hx with g | rfl
    · exact hkk x g
    · exact h
  clear hkk hno hyes w
  cases ha : inR a 0 5 with
  | false =>
    rw [ha] at w1 eok
    simp (disch := omega) only [Try.ntmps89, Try.results89, go_sem, rR, rc, q0, q1, q3, hcl]
    refine w1.callDV 0 (viewL_cons_of (view_int) viewL_nil_of) ?_
    simp (disch := omega) only [Try.ntmps89, Try.results89, go_sem, rR, rc, q0, q1, q3, hcl]
    exact Fin.val (by rw [hno2 (by rw [eok]; rfl)])
  | true =>
    rw [ha] at w1 eok
    cases hb : inR b 1 1000 with
    | false =>
      rw [hb] at w2 eok
      simp (disch := omega) only [Try.ntmps89, Try.results89, go_sem, rR, rc, q0, q1, q3, hcl]
      refine w1.callDV 0 (viewL_cons_of (view_int) viewL_nil_of) ?_
      simp (disch := omega) only [Try.ntmps89, Try.results89, go_sem, rR, rc, q0, q1, q3, hcl]
      refine w2.callDV 0 (viewL_cons_of (view_int) viewL_nil_of) ?_
      simp (disch := omega) only [Try.ntmps89, Try.results89, go_sem, rR, rc, q0, q1, q3, hcl]
      exact Fin.val (by rw [hno2 (by rw [eok]; rfl)])
    | true =>
      rw [hb] at w2 eok
      cases k with
      | zero =>
        have q3z : List.take 3 (cons T) = [.val (.int .i64 a), .val (.int .i64 b), .val (.bool s)] := by simpa using q3
        simp (disch := omega) only [Try.ntmps89, Try.results89, go_sem, rR, rc, q0, q1, q3z, hcl]
        refine w1.callDV 0 (viewL_cons_of (view_int) viewL_nil_of) ?_
        simp (disch := omega) only [Try.ntmps89, Try.results89, go_sem, rR, rc, q0, q1, q3z, hcl]
        refine w2.callDV 0 (viewL_cons_of (view_int) viewL_nil_of) ?_
        simp (disch := omega) only [Try.ntmps89, Try.results89, go_sem, rR, rc, q0, q1, q3z, hcl]
        exact ⟨(1, nb2 + 1), ⟨by show 1 ≤ T.length; omega, by show nb < nb2 + 1; omega, hyes2 (by rw [eok]; rfl)⟩, by show T.length - 1 < T.length - 0; omega, Wk.ofH (by simp only [go_sem, ↓List.forall_mem_cons, List.not_mem_nil, false_implies, implies_true, and_true, true_and, and_self, ri_eq, Int.natCast_add, Int.cast_ofNat_Int, rR, rc]; try simp) (by simp (disch := omega) only [hp, hmap, ↓List.forall_mem_cons, List.not_mem_nil, false_implies, implies_true, and_true, if_neg, if_pos, ↓reduceIte, rR, rc, and_self]) (by simp [hp])⟩
      | succ p =>
        obtain ⟨a', b', s', hc'⟩ := con_ex T p
        obtain ⟨p0, _, _, _⟩ := cons_of (k := p) (by omega) hc'
        rw [Nat.add_sub_cancel, hc'] at eok
        have hp1 : (((p + 1 : Nat) : Int)) - 1 = (p : Int) := by omega
        by_cases hlt3 : a' < a
        · simp (disch := omega) only [Try.ntmps89, Try.results89, go_sem, rR, rc, q0, q1, q3, hcl, p0, hp1]
          refine w1.callDV 0 (viewL_cons_of (view_int) viewL_nil_of) ?_
          simp (disch := omega) only [Try.ntmps89, Try.results89, go_sem, rR, rc, q0, q1, q3, hcl, p0, hp1]
          refine w2.callDV 0 (viewL_cons_of (view_int) viewL_nil_of) ?_
          simp (disch := omega) only [Try.ntmps89, Try.results89, go_sem, rR, rc, q0, q1, q3, hcl, p0, hp1]
          exact ⟨(p + 1 + 1, nb2 + 1), ⟨by show p + 1 + 1 ≤ T.length; omega, by show nb < nb2 + 1; omega, hyes2 (by rw [eok]; simp [hlt3])⟩, by show T.length - (p + 1 + 1) < T.length - (p + 1); omega, Wk.ofH (by simp only [go_sem, ↓List.forall_mem_cons, List.not_mem_nil, false_implies, implies_true, and_true, true_and, and_self, ri_eq, Int.natCast_add, Int.cast_ofNat_Int, rR, rc]; try simp) (by simp (disch := omega) only [hp, hmap, ↓List.forall_mem_cons, List.not_mem_nil, false_implies, implies_true, and_true, if_neg, if_pos, ↓reduceIte, rR, rc, and_self]) (by simp [hp])⟩
        · simp (disch := omega) only [Try.ntmps89, Try.results89, go_sem, rR, rc, q0, q1, q3, hcl, p0, hp1]
          refine w1.callDV 0 (viewL_cons_of (view_int) viewL_nil_of) ?_
          simp (disch := omega) only [Try.ntmps89, Try.results89, go_sem, rR, rc, q0, q1, q3, hcl, p0, hp1]
          refine w2.callDV 0 (viewL_cons_of (view_int) viewL_nil_of) ?_
          simp (disch := omega) only [Try.ntmps89, Try.results89, go_sem, rR, rc, q0, q1, q3, hcl, p0, hp1]
          exact Fin.val (by rw [hno2 (by rw [eok]; simp [hlt3])])
end Go.Sh
