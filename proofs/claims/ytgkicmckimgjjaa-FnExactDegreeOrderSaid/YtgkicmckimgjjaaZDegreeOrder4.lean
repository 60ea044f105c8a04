/-
  Texts put together: Z3, M1, AD1, AD2, BA3, DA1, ShP, AE2, AF2, AE3, AE4, EDegreeOrder. What each proves stands at its own head, with its conditions.
-/
import Derived.Test.YtgkicmckimgjjaaZDegreeOrder3

/-
  Contracts: pivots, of the reference; both as one.
-/
namespace Go.Sh
set_option linter.unusedSimpArgs false
set_option linter.unusedVariables false
open Go Go.Proofs

def pvk (M : List (List Int)) (Q : List Int) (p i k : Nat) : List Int := gen M.length fun x => if x < k ∧ Q.getD x 0 < 0 ∧ (x = p ∨ 0 < mat M p x) then (i : Int) else Q.getD x 0
theorem pvk_zero {M : List (List Int)} {Q : List Int} {p i : Nat} (hl : Q.length = M.length) : pvk M Q p i 0 = Q := by
  rw [pvk, gen_self hl]
  refine gen_congr fun x hx => ?_
  rw [if_neg (by omega), gen_at hx]
theorem pvk_self {M : List (List Int)} {Q : List Int} {p i k : Nat} (h : k < M.length) : (pvk M Q p i k).getD k 0 = Q.getD k 0 := by rw [pvk, gen_at h, if_neg (by omega)]
theorem pvk_put {M : List (List Int)} {Q : List Int} {p i k : Nat} (hk : k < M.length) (h : Q.getD k 0 < 0 ∧ (k = p ∨ 0 < mat M p k)) : (pvk M Q p i k).set k i = pvk M Q p i (k + 1) := by
  rw [pvk, gen_set hk, pvk]
  refine gen_congr fun x hx => ?_
  by_cases e : x = k
  · subst e; rw [if_pos rfl, if_pos ⟨by omega, h⟩]
  · rw [if_neg e]
    by_cases hc : x < k ∧ Q.getD x 0 < 0 ∧ (x = p ∨ 0 < mat M p x)
    · rw [if_pos hc, if_pos ⟨by omega, hc.2⟩]
    · rw [if_neg hc, if_neg (fun g => hc ⟨by omega, g.2⟩)]
theorem pvk_skip {M : List (List Int)} {Q : List Int} {p i k : Nat} (h : ¬ (Q.getD k 0 < 0 ∧ (k = p ∨ 0 < mat M p k))) : pvk M Q p i k = pvk M Q p i (k + 1) := by
  refine gen_congr fun x hx => ?_
  by_cases e : x = k
  · subst e; rw [if_neg (by omega), if_neg (fun g => h g.2)]
  · by_cases hc : x < k ∧ Q.getD x 0 < 0 ∧ (x = p ∨ 0 < mat M p x)
    · rw [if_pos hc, if_pos ⟨by omega, hc.2⟩]
    · rw [if_neg hc, if_neg (fun g => hc ⟨by omega, g.2⟩)]
theorem pvk_all {M : List (List Int)} {Q : List Int} {p i : Nat} : pvk M Q p i M.length = gen M.length fun x => if Q.getD x 0 < 0 ∧ (x = p ∨ 0 < mat M p x) then (i : Int) else Q.getD x 0 := by
  refine gen_congr fun x hx => ?_
  by_cases hc : Q.getD x 0 < 0 ∧ (x = p ∨ 0 < mat M p x)
  · rw [if_pos hc, if_pos ⟨hx, hc⟩]
  · rw [if_neg hc, if_neg (fun g => hc g.2)]

set_option maxRecDepth 20000 in
set_option maxHeartbeats 8000000 in
theorem Try.specPiv_f (M : List (List Int)) (O : List Int) (hM : M.length ≤ 1048576) (hR : ∀ i, i < M.length → (mrow M i).length ≤ 1048576) (hO : O.length ≤ 1048576) (h : WM M ∧ isOrd M.length O = true) : FCall Try.prog 47 [rr M, ri O] (FlatRes M.length 1 (ints (piv M O))) := by
  obtain ⟨hw, hord⟩ := h
  obtain ⟨h1, h2, h3, h4⟩ := ord_t hord
  have w1 := Try.specIsWM_ok M hM hR
  rw [isWM_t hw] at w1
  have w2 := Try.specIsOrder_ok M.length O hO (by omega) (by omega)
  rw [hord] at w2
  have hpl : ∀ i, (pv M O i).length = M.length := pv_length M O
  have w4 := (Try.specCanon_f (pv M O O.length) (by rw [hpl]; omega)).one
  rw [hpl, ← piv_t ⟨hw, hord⟩] at w4
  refine FCall.of_body Try.func47 rfl (by kernel_rfl) (by simp [Try.ntmps47]) ?_
  refine SW_of_vc Try.mixed _ _ _ (by kernel_rfl) ?_
  simp (disch := omega) only [Try.ntmps47, Try.results47, go_sem, rr_eq]
  refine w1.callV 0 (viewL_cons_of (view_row) viewL_nil_of) ?_
  simp (disch := omega) only [Try.ntmps47, Try.results47, go_sem, rr_eq]
  refine w2.callV 0 (viewL_cons_of (view_int) (viewL_cons_of (view_rowL (by first | rfl | simp [marks_length, canon_length] | omega)) viewL_nil_of)) ?_
  simp (disch := omega) only [Try.ntmps47, Try.results47, go_sem, rr_eq]
  refine LoopW.loop (fun p : Nat × Nat × Nat => ⟨ofL [(0, rr M), (1, ri O), (5, .own p.2.1 0 p.1 p.1 1 false), (6, .val (.int .i64 p.1))], hp [(p.2.1, ⟨ints (List.replicate p.1 (-1)), false⟩)] p.2.2⟩) (fun p => p.1 ≤ M.length ∧ p.2.1 < p.2.2) (fun p => M.length - p.1) (0, 0, 1) ⟨by simp, by simp⟩
    (Wk.ofH (by simp only [go_sem, ↓List.forall_mem_cons, List.not_mem_nil, false_implies, implies_true, and_true, true_and, and_self, ri_eq, Int.natCast_add, Int.cast_ofNat_Int, rr_eq]; try simp) (by simp (disch := omega) only [go_sem, ↓List.forall_mem_cons, List.not_mem_nil, false_implies, implies_true, and_true, true_and, and_self, ri_eq, Int.natCast_add, Int.cast_ofNat_Int, if_pos, if_neg, Nat.reduceAdd, List.nil_append, List.replicate_zero, ints_nil]; try simp) (by simp [hp])) ?_
  rintro ⟨k, b, nb⟩ ⟨hk, hb⟩
  simp only at hk hb
  refine SW_of_vc Try.mixed _ _ _ (by kernel_rfl) ?_
  by_cases hlt : k < M.length
  · have hl := rep_snoc k (-1)
    have ht : (ints (List.replicate k (-1))).take k = ints (List.replicate k (-1)) := ints_take_of (by simp)
    simp (disch := omega) only [Try.ntmps47, Try.results47, go_sem, rr_eq, List.length_replicate, ht]
    refine ⟨(k + 1, nb + 1, nb + 1 + 1), ⟨hlt, by simp⟩, by show M.length - (k + 1) < M.length - k; omega, ?_⟩
    exact Wk.ofH (by simp only [go_sem, ↓List.forall_mem_cons, List.not_mem_nil, false_implies, implies_true, and_true, true_and, and_self, ri_eq, Int.natCast_add, Int.cast_ofNat_Int, rr_eq]; try simp) (by simp (disch := omega) only [go_sem, ↓List.forall_mem_cons, List.not_mem_nil, false_implies, implies_true, and_true, true_and, and_self, ri_eq, Int.natCast_add, Int.cast_ofNat_Int, if_pos, if_neg, Nat.reduceAdd, List.nil_append, hl]; try simp) (by simp [hp])
  obtain rfl : k = M.length := by omega
  simp (disch := omega) only [Try.ntmps47, Try.results47, go_sem, rr_eq]
  refine LoopW.loop (fun i : Nat => ⟨ofL [(0, rr M), (1, ri O), (5, .own b 0 M.length M.length 1 false), (7, .val (.int .i64 i))], hp [(b, ⟨ints (pv M O i), false⟩)] nb⟩) (fun i => i ≤ O.length) (fun i => O.length - i) 0 (by omega)
    (Wk.ofH (by simp only [go_sem, ↓List.forall_mem_cons, List.not_mem_nil, false_implies, implies_true, and_true, true_and, and_self, ri_eq, Int.natCast_add, Int.cast_ofNat_Int, rr_eq]; try simp) (by simp (disch := omega) only [go_sem, ↓List.forall_mem_cons, List.not_mem_nil, false_implies, implies_true, and_true, true_and, and_self, ri_eq, Int.natCast_add, Int.cast_ofNat_Int, if_pos, if_neg, Nat.reduceAdd, List.nil_append, pv]; try simp) (Nat.le_refl _)) ?_
  intro i hi
  have hl := hpl i
  refine SW_of_vc Try.mixed _ _ _ (by kernel_rfl) ?_
  by_cases hlti : i < O.length
  case neg =>
    obtain rfl : i = O.length := by omega
    simp (disch := omega) only [Try.ntmps47, Try.results47, go_sem, rr_eq]
    refine w4.callOne (ints_vals _) 1 (viewL_cons_of (view_own (e2 := false) (by rw [hp_map, hmap_cons, if_pos rfl]) hl.symm) viewL_nil_of) ?_
    simp (disch := omega) only [Try.ntmps47, Try.results47, go_sem, rr_eq]
    exact fin_ints (piv_length ⟨hw, hord⟩).symm (by rw [hp_map, hmap_cons, if_pos rfl])
  obtain ⟨p, hpp⟩ := Int.eq_ofNat_of_zero_le (h3 i hlti).1
  have hpM : p < M.length := by have := (h3 i hlti).2; omega
  have g1 := ints_get hlti
  rw [hpp] at g1
  have g2 : (ints (pv M O i))[p]? = some (.val (.int .i64 ((pv M O i).getD p 0))) := ints_get' hl hpM
  by_cases hs : 0 ≤ (pv M O i).getD p 0
  · have hskip := pv_skip (M := M) hpp hs
    generalize (pv M O i).getD p 0 = v at *
    simp (disch := omega) only [Try.ntmps47, Try.results47, go_sem, rr_eq, g1, g2, hl]
    exact ⟨i + 1, hlti, by omega, Wk.ofH (by simp only [go_sem, ↓List.forall_mem_cons, List.not_mem_nil, false_implies, implies_true, and_true, true_and, and_self, ri_eq, Int.natCast_add, Int.cast_ofNat_Int, rr_eq]; try simp) (by simp (disch := omega) only [go_sem, ↓List.forall_mem_cons, List.not_mem_nil, false_implies, implies_true, and_true, true_and, and_self, ri_eq, Int.natCast_add, Int.cast_ofNat_Int, if_pos, if_neg, Nat.reduceAdd, List.nil_append, hskip]; try simp) (Nat.le_refl _)⟩
  · have hend := pvk_all (M := M) (Q := pv M O i) (p := p) (i := i)
    rw [← pv_step hpp (by omega)] at hend
    have hz := pvk_zero (p := p) (i := i) hl
    have hrp := hw.2.1 p hpM
    have hkl : ∀ k, (pvk M (pv M O i) p i k).length = M.length := fun k => gen_length _ _
    have hks := fun k hk => pvk_self (Q := pv M O i) (p := p) (i := i) (k := k) (M := M) hk
    generalize hv : (pv M O i).getD p 0 = v at *
    simp (disch := omega) only [Try.ntmps47, Try.results47, go_sem, rr_eq, g1, g2, hl]
    refine LoopW.loop (fun k : Nat => ⟨ofL [(0, rr M), (1, ri O), (5, .own b 0 M.length M.length 1 false), (7, .val (.int .i64 i)), (8, .val (.int .i64 p)), (9, .val (.int .i64 k))], hp [(b, ⟨ints (pvk M (pv M O i) p i k), false⟩)] nb⟩) (fun k => k ≤ M.length) (fun k => M.length - k) 0 (by omega)
      (Wk.ofH (by simp only [go_sem, ↓List.forall_mem_cons, List.not_mem_nil, false_implies, implies_true, and_true, true_and, and_self, ri_eq, Int.natCast_add, Int.cast_ofNat_Int, rr_eq]; try simp) (by simp (disch := omega) only [go_sem, ↓List.forall_mem_cons, List.not_mem_nil, false_implies, implies_true, and_true, true_and, and_self, ri_eq, Int.natCast_add, Int.cast_ofNat_Int, if_pos, if_neg, Nat.reduceAdd, List.nil_append, hz]; try simp) (Nat.le_refl _)) ?_
    clear g2 hl hv
    intro k hk
    have hl := hkl k
    refine SW_of_vc Try.mixed _ _ _ (by kernel_rfl) ?_
    by_cases hlk : k < M.length
    · have g3 : (ints (mrow M p))[k]? = some (.val (.int .i64 (mat M p k))) := ints_get' hrp hlk
      have g4 : (ints (pvk M (pv M O i) p i k))[k]? = some (.val (.int .i64 ((pvk M (pv M O i) p i k).getD k 0))) := ints_get' hl hlk
      rw [hks k hlk] at g4
      have hput := pvk_put (Q := pv M O i) (p := p) (i := i) hlk
      have hsk := pvk_skip (M := M) (Q := pv M O i) (p := p) (i := i) (k := k)
      clear hks hkl hend hz
      generalize (pv M O i).getD k 0 = u at *
      by_cases e1 : u < 0
      · by_cases e2 : k = p
        · have hput := hput ⟨e1, .inl e2⟩
          simp (disch := omega) only [Try.ntmps47, Try.results47, go_sem, rr_eq, g4, hl, hput]
          exact ⟨k + 1, hlk, by omega, Wk.ofH (by simp only [go_sem, ↓List.forall_mem_cons, List.not_mem_nil, false_implies, implies_true, and_true, true_and, and_self, ri_eq, Int.natCast_add, Int.cast_ofNat_Int, rr_eq]; try simp) (by simp (disch := omega) only [go_sem, ↓List.forall_mem_cons, List.not_mem_nil, false_implies, implies_true, and_true, true_and, and_self, ri_eq, Int.natCast_add, Int.cast_ofNat_Int, if_pos, if_neg, Nat.reduceAdd, List.nil_append]; try simp) (Nat.le_refl _)⟩
        · by_cases e3 : 0 < mat M p k
          · have hput := hput ⟨e1, .inr e3⟩
            generalize mat M p k = mm at *
            simp (disch := omega) only [Try.ntmps47, Try.results47, go_sem, rr_eq, g3, g4, hl, hput, rows_get, hrp]
            exact ⟨k + 1, hlk, by omega, Wk.ofH (by simp only [go_sem, ↓List.forall_mem_cons, List.not_mem_nil, false_implies, implies_true, and_true, true_and, and_self, ri_eq, Int.natCast_add, Int.cast_ofNat_Int, rr_eq]; try simp) (by simp (disch := omega) only [go_sem, ↓List.forall_mem_cons, List.not_mem_nil, false_implies, implies_true, and_true, true_and, and_self, ri_eq, Int.natCast_add, Int.cast_ofNat_Int, if_pos, if_neg, Nat.reduceAdd, List.nil_append]; try simp) (Nat.le_refl _)⟩
          · have hsk := hsk (fun g => g.2.elim e2 e3)
            generalize mat M p k = mm at *
            simp (disch := omega) only [Try.ntmps47, Try.results47, go_sem, rr_eq, g3, g4, hl, rows_get, hrp]
            exact ⟨k + 1, hlk, by omega, Wk.ofH (by simp only [go_sem, ↓List.forall_mem_cons, List.not_mem_nil, false_implies, implies_true, and_true, true_and, and_self, ri_eq, Int.natCast_add, Int.cast_ofNat_Int, rr_eq]; try simp) (by simp (disch := omega) only [go_sem, ↓List.forall_mem_cons, List.not_mem_nil, false_implies, implies_true, and_true, true_and, and_self, ri_eq, Int.natCast_add, Int.cast_ofNat_Int, if_pos, if_neg, Nat.reduceAdd, List.nil_append, ← hsk]; try simp) (Nat.le_refl _)⟩
      · have hsk := hsk (fun g => e1 g.1)
        simp (disch := omega) only [Try.ntmps47, Try.results47, go_sem, rr_eq, g4, hl]
        exact ⟨k + 1, hlk, by omega, Wk.ofH (by simp only [go_sem, ↓List.forall_mem_cons, List.not_mem_nil, false_implies, implies_true, and_true, true_and, and_self, ri_eq, Int.natCast_add, Int.cast_ofNat_Int, rr_eq]; try simp) (by simp (disch := omega) only [go_sem, ↓List.forall_mem_cons, List.not_mem_nil, false_implies, implies_true, and_true, true_and, and_self, ri_eq, Int.natCast_add, Int.cast_ofNat_Int, if_pos, if_neg, Nat.reduceAdd, List.nil_append, ← hsk]; try simp) (Nat.le_refl _)⟩
    · obtain rfl : k = M.length := by omega
      rw [hend]
      simp (disch := omega) only [Try.ntmps47, Try.results47, go_sem, rr_eq]
      exact ⟨i + 1, hlti, by omega, Wk.ofH (by simp only [go_sem, ↓List.forall_mem_cons, List.not_mem_nil, false_implies, implies_true, and_true, true_and, and_self, ri_eq, Int.natCast_add, Int.cast_ofNat_Int, rr_eq]; try simp) (by simp (disch := omega) only [go_sem, ↓List.forall_mem_cons, List.not_mem_nil, false_implies, implies_true, and_true, true_and, and_self, ri_eq, Int.natCast_add, Int.cast_ofNat_Int, if_pos, if_neg, Nat.reduceAdd, List.nil_append]; try simp) (Nat.le_refl _)⟩
theorem Try.specPiv_not (M : List (List Int)) (O : List Int) (hM : M.length ≤ 1048576) (hR : ∀ i, i < M.length → (mrow M i).length ≤ 1048576) (hO : O.length ≤ 1048576) (h : ¬ (WM M ∧ isOrd M.length O = true)) : FCall Try.prog 47 [rr M, ri O] (FlatRes 0 1 (ints [])) := by
  have w1 := Try.specIsWM_ok M hM hR
  refine FCall.of_body Try.func47 rfl (by kernel_rfl) (by simp [Try.ntmps47]) ?_
  refine SW_of_vc Try.mixed _ _ _ (by kernel_rfl) ?_
  by_cases hw : WM M
  · have w2 := Try.specIsOrder_ok M.length O hO (by omega) (by omega)
    have hn : isOrd M.length O = false := by
      rcases Bool.eq_false_or_eq_true (isOrd M.length O) with g | g
      · exact absurd ⟨hw, g⟩ h
      · exact g
    rw [hn] at w2
    rw [isWM_t hw] at w1
    simp (disch := omega) only [Try.ntmps47, Try.results47, go_sem, rr_eq]
    refine w1.callV 0 (viewL_cons_of (view_row) viewL_nil_of) ?_
    simp (disch := omega) only [Try.ntmps47, Try.results47, go_sem, rr_eq]
    refine w2.callV 0 (viewL_cons_of (view_int) (viewL_cons_of (view_rowL (by first | rfl | simp [marks_length, canon_length] | omega)) viewL_nil_of)) ?_
    simp (disch := omega) only [Try.ntmps47, Try.results47, go_sem, rr_eq]
    exact fin_ints (L := []) (b := 0) (e2 := false) rfl rfl
  · rw [isWM_f hw] at w1
    simp (disch := omega) only [Try.ntmps47, Try.results47, go_sem, rr_eq]
    refine w1.callV 0 (viewL_cons_of (view_row) viewL_nil_of) ?_
    simp (disch := omega) only [Try.ntmps47, Try.results47, go_sem, rr_eq]
    exact fin_ints (L := []) (b := 0) (e2 := false) rfl rfl
theorem Try.implPiv_nil (M : List (List Int)) (O : List Int) (hM : M.length ≤ 1048576) (hR : ∀ i, i < M.length → (mrow M i).length ≤ 1048576) (hO : O.length ≤ 1048576) (h : ¬ (WM M ∧ isOrd M.length O = true)) : FCall Try.prog 43 [rr M, ri O] (fun r _ => r = .val (.slice none 0 0)) := by
  have w1 := Try.implIsWM_ok M hM hR
  refine FCall.of_body Try.func43 rfl (by kernel_rfl) (by simp [Try.ntmps43]) ?_
  refine SW_of_vc Try.mixed _ _ _ (by kernel_rfl) ?_
  by_cases hw : WM M
  · have w2 := Try.implIsOrder_ok M.length O hO
    have hn : isOrd M.length O = false := by
      rcases Bool.eq_false_or_eq_true (isOrd M.length O) with g | g
      · exact absurd ⟨hw, g⟩ h
      · exact g
    rw [hn] at w2
    rw [isWM_t hw] at w1
    simp (disch := omega) only [Try.ntmps43, Try.results43, go_sem, rr_eq]
    refine w1.callV 0 (viewL_cons_of (view_row) viewL_nil_of) ?_
    simp (disch := omega) only [Try.ntmps43, Try.results43, go_sem, rr_eq]
    refine w2.callV 0 (viewL_cons_of (view_int) (viewL_cons_of (view_rowL (by first | rfl | simp [marks_length, canon_length] | omega)) viewL_nil_of)) ?_
    simp (disch := omega) only [Try.ntmps43, Try.results43, go_sem, rr_eq]
    exact Fin.val rfl
  · rw [isWM_f hw] at w1
    simp (disch := omega) only [Try.ntmps43, Try.results43, go_sem, rr_eq]
    refine w1.callV 0 (viewL_cons_of (view_row) viewL_nil_of) ?_
    simp (disch := omega) only [Try.ntmps43, Try.results43, go_sem, rr_eq]
    exact Fin.val rfl
theorem Try.specPiv_ok (M : List (List Int)) (O : List Int) (hM : M.length ≤ 1048576) (hR : ∀ i, i < M.length → (mrow M i).length ≤ 1048576) (hO : O.length ≤ 1048576) : PCall Try.prog 47 [rr M, ri O] (ri (piv M O)) := by
  by_cases h : WM M ∧ isOrd M.length O = true
  · exact (Try.specPiv_f M O hM hR hO h).pcall 2 (fun _ _ h => flat_view h)
  · rw [piv_f h]; exact (Try.specPiv_not M O hM hR hO h).pcall 2 (fun _ _ h => flat_view h)
theorem Try.implPiv_one (M : List (List Int)) (O : List Int) (hM : M.length ≤ 1048576) (hR : ∀ i, i < M.length → (mrow M i).length ≤ 1048576) (hO : O.length ≤ 1048576) (h : WM M ∧ isOrd M.length O = true) : FCall Try.prog 43 [rr M, ri O] (OneRes M.length 1 (ints (piv M O))) := (Try.implPiv_f M O hM hR hO h).one
theorem Try.implPiv_ok (M : List (List Int)) (O : List Int) (hM : M.length ≤ 1048576) (hR : ∀ i, i < M.length → (mrow M i).length ≤ 1048576) (hO : O.length ≤ 1048576) : PCall Try.prog 43 [rr M, ri O] (ri (piv M O)) := by
  by_cases h : WM M ∧ isOrd M.length O = true
  · exact (Try.implPiv_f M O hM hR hO h).pcall 2 (fun _ _ h => flat_view h)
  · rw [piv_f h]; exact (Try.implPiv_nil M O hM hR hO h).pcall 0 (by rintro r H rfl; exact view_nil)
end Go.Sh

/-
  Contracts: an item moved to another block. Of the program.
-/
namespace Go.Sh
set_option linter.unusedSimpArgs false
set_option linter.unusedVariables false
open Go Go.Proofs

def top (L : List Int) (k : Nat) : Int := (L.take k).foldl max (-1)
theorem top_zero (L : List Int) : top L 0 = -1 := rfl
theorem top_succ {L : List Int} {k : Nat} (h : k < L.length) : top L (k + 1) = max (top L k) (L.getD k 0) := by
  rw [top, List.take_succ_eq_append_getElem h, List.foldl_append]
  simp [top, h]
theorem top_ge (L : List Int) : ∀ k, k ≤ L.length → -1 ≤ top L k
  | 0, _ => by rw [top_zero]; omega
  | k + 1, h => by
    have := top_ge L k (by omega)
    rw [top_succ (by omega)]; omega
theorem top_part {L : List Int} (h : isPart L = true) : ∀ k, k ≤ L.length → top L k ≤ 7
  | 0, _ => by rw [top_zero]; omega
  | k + 1, hk => by
    have := top_part h k (by omega)
    have := (isPart_bound h (i := k) (by omega)).2
    rw [top_succ (by omega)]; omega
def moveOk (L : List Int) (it bl : Int) : Bool := isPart L && (inR it 0 ((L.length : Int) - 1) && inR bl 0 (top L L.length + 1))
def moveTo (L : List Int) (it bl : Int) : List Int := if moveOk L it bl = true then canon (L.set it.toNat bl) else L
theorem moveTo_length (L : List Int) (it bl : Int) : (moveTo L it bl).length = L.length := by
  unfold moveTo
  split
  · rw [canon_length]; simp
  · rfl

theorem Try.clone_f (L : List Int) (hL : L.length ≤ 1048576) (h0 : 0 < L.length) : FCall Try.prog 153 [ri L] (FlatRes L.length 1 (ints L)) := by
  have hf := ints_flat L
  refine FCall.of_body Try.func153 rfl (by kernel_rfl) (by simp [Try.ntmps153]) ?_
  refine SW_of_vc Try.mixed _ _ _ (by kernel_rfl) ?_
  simp (disch := omega) only [Try.ntmps153, Try.results153, go_sem, hf]
  exact fin_ints rfl (by rw [hp_map, hmap_cons, if_pos rfl])

/-- Of an empty slice that is not nil. -/
theorem Try.clone_0 (H : Heap) (b cap : Nat) (ex e2 : Bool) (hb : H.map b = some ⟨ints [], e2⟩) (hbn : b ≠ H.nb) : CallS Try.prog 153 [.own b 0 0 cap 1 ex] H (fun r H' => r = .own H.nb 0 0 0 1 false ∧ H' = H.push ⟨[], false⟩) := by
  refine CallS.of_body Try.func153 rfl (by kernel_rfl) (by simp [Try.ntmps153]) ?_
  refine SW_of_vc Try.mixed _ _ _ (by kernel_rfl) ?_
  have p1 : (H.push ⟨[], false⟩).map H.nb = some ⟨[], false⟩ := by simp [Heap.push]
  have p2 : (H.push ⟨[], false⟩).map b = some ⟨ints [], e2⟩ := by simp [Heap.push, hbn, hb]
  simp (disch := omega) only [Try.ntmps153, Try.results153, go_sem, hb, p1, p2]

theorem fin_tup {n z cap b : Nat} {ex e2 : Bool} {cs : List SV} {u : Value} {H : Heap} (hn : cs.length = n * z) (hv : cs.all isVal = true) (hb : H.map b = some ⟨cs, e2⟩) :
    Fin (fun r H => ∃ r0, r = .tup [r0, .val u] ∧ FlatRes n z cs r0 H) (.tup [.own b 0 n cap z ex, .val u]) H := by
  obtain ⟨H2, h1, _, h3, h4⟩ := flat_fin (ex := ex) (cap := cap) hn hv hb
  exact ⟨H2, h1, by simp [noRow, noRowL], h3, _, rfl, h4⟩

end Go.Sh

/-
  The best of the orders that begin with each item: plain; of the reference.
-/
namespace Go.Sh
set_option linter.unusedSimpArgs false
set_option linter.unusedVariables false
open Go Go.Proofs

theorem rep_none (zs : List SV) : rep zs 0 = [] := rfl
/-- The first k items of the order that begins with s. -/
def rot (n s k : Nat) : List Int := (List.range k).map fun i => (((s + i) % n : Nat) : Int)
theorem rot_length (n s k : Nat) : (rot n s k).length = k := by simp [rot]
theorem rot_succ (n s k : Nat) : rot n s (k + 1) = rot n s k ++ [(((s + k) % n : Nat) : Int)] := by simp [rot, List.range_succ]
theorem rot_snoc (n s k : Nat) : ints (rot n s k) ++ [.val (.int .i64 (((s + k) % n : Nat) : Int))] = ints (rot n s (k + 1)) := by rw [rot_succ]; simp [ints]
theorem rot_ord {n s : Nat} (h0 : 1 ≤ n) (h8 : n ≤ 8) (hs : s < n) : isOrd n (rot n s n) = true := by
  have : ∀ n : _root_.Fin 9, ∀ s : _root_.Fin 9, 1 ≤ n.val → s.val < n.val → isOrd n.val (rot n.val s.val n.val) = true := by decide +kernel
  exact this ⟨n, by omega⟩ ⟨s, by omega⟩ h0 hs
noncomputable def bpv (M : List (List Int)) : Nat → List Int × Int
  | 0 => ([], -1)
  | s + 1 => if (bpv M s).2 < 0 ∨ cc M (piv M (rot M.length s M.length)) M.length < (bpv M s).2 then (piv M (rot M.length s M.length), cc M (piv M (rot M.length s M.length)) M.length) else bpv M s
theorem bpv_inv {M : List (List Int)} (hw : WM M) : ∀ s, s ≤ M.length → (s = 0 ∨ ((bpv M s).1.length = M.length ∧ 0 ≤ (bpv M s).2))
  | 0, _ => .inl rfl
  | s + 1, hs => by
    have ih := bpv_inv hw s (by omega)
    have hb := cc_b (L := piv M (rot M.length s M.length)) hw M.length (Nat.le_refl _)
    right
    rw [bpv]
    split
    · exact ⟨piv_length ⟨hw, rot_ord (by have := hw.1; omega) hw.1.2 (by omega)⟩, hb.1⟩
    · rename_i h
      rcases ih with rfl | ih
      · simp [bpv] at h
      · exact ih
theorem rot_mod (s k n : Nat) : ((s : Int) + (k : Int)).tmod (n : Int) = (((s + k) % n : Nat) : Int) := by
  rw [← Int.natCast_add]; exact (Int.ofNat_tmod _ _).symm
open Classical in
noncomputable def bp (M : List (List Int)) : List Int × Int := if WM M then bpv M M.length else ([], -1)
theorem bp_t {M : List (List Int)} (h : WM M) : bp M = bpv M M.length := by rw [bp, if_pos h]
theorem bp_f {M : List (List Int)} (h : ¬ WM M) : bp M = ([], -1) := by rw [bp, if_neg h]
abbrev BpR (p : List Int × Int) (r : SV) (H : Heap) : Prop := ∃ r0, r = .tup [r0, .val (.int .i64 p.2)] ∧ FlatRes p.1.length 1 (ints p.1) r0 H

set_option maxHeartbeats 4000000 in
theorem Try.specBP_f (M : List (List Int)) (hM : M.length ≤ 1048576) (hR : ∀ i, i < M.length → (mrow M i).length ≤ 1048576) : FCall Try.prog 45 [rr M] (BpR (bp M)) := by
  have w1 := Try.specIsWM_ok M hM hR
  refine FCall.of_body Try.func45 rfl (by kernel_rfl) (by simp [Try.ntmps45]) ?_
  refine SW_of_vc Try.mixed _ _ _ (by kernel_rfl) ?_
  by_cases hw : WM M
  case neg =>
    rw [isWM_f hw] at w1
    rw [bp_f hw]
    simp (disch := omega) only [Try.ntmps45, Try.results45, go_sem, rr_eq, rep_none]
    refine LoopW.loop (fun _ : Unit => ⟨ofL [(0, rr M), (4, .own 0 0 0 0 1 false), (5, .val (.int .i64 (-1))), (6, .val (.int .i64 0))], hp [(0, ⟨[], false⟩)] 1⟩) (fun _ => True) (fun _ => 0) () trivial (Wk.ofH (by simp only [go_sem, ↓List.forall_mem_cons, List.not_mem_nil, false_implies, implies_true, and_true, true_and, and_self, ri_eq, Int.natCast_add, Int.cast_ofNat_Int, rr_eq]; try simp) (by simp [hp, hmap, rep]) (by simp [hp])) ?_
    rintro _ _
    refine SW_of_vc Try.mixed _ _ _ (by kernel_rfl) ?_
    by_cases hz : 0 < M.length
    · simp (disch := omega) only [Try.ntmps45, Try.results45, go_sem, rr_eq]
      refine w1.callV 0 (viewL_cons_of (view_row) viewL_nil_of) ?_
      simp (disch := omega) only [Try.ntmps45, Try.results45, go_sem, rr_eq]
      exact fin_tup (by simp [ints]) (ints_vals _) (by rw [hp_map, hmap_cons, if_pos rfl]; rfl)
    · simp (disch := omega) only [Try.ntmps45, Try.results45, go_sem, rr_eq]
      exact fin_tup (by simp [ints]) (ints_vals _) (by rw [hp_map, hmap_cons, if_pos rfl]; rfl)
  rw [isWM_t hw] at w1
  rw [bp_t hw]
  have hln := hw.1
  simp (disch := omega) only [Try.ntmps45, Try.results45, go_sem, rr_eq, rep_none]
  refine LoopW.loop (fun p : Nat × Nat × Nat => ⟨ofL [(0, rr M), (4, .own p.2.1 0 (bpv M p.1).1.length (bpv M p.1).1.length 1 false), (5, .val (.int .i64 (bpv M p.1).2)), (6, .val (.int .i64 p.1))], hp [(p.2.1, ⟨ints (bpv M p.1).1, false⟩)] p.2.2⟩)
    (fun p => p.1 ≤ M.length ∧ p.2.1 < p.2.2) (fun p => M.length - p.1) (0, 0, 1) ⟨by simp, by simp⟩ (Wk.ofH (by simp only [go_sem, ↓List.forall_mem_cons, List.not_mem_nil, false_implies, implies_true, and_true, true_and, and_self, ri_eq, Int.natCast_add, Int.cast_ofNat_Int, rr_eq, bpv, List.length_nil]; try simp) (by simp [hp, hmap, rep, bpv, ints]) (by simp [hp])) ?_
  rintro ⟨s, ob, nb⟩ ⟨hs, hob⟩
  simp only at hs hob
  refine SW_of_vc Try.mixed _ _ _ (by kernel_rfl) ?_
  by_cases hlt : s < M.length
  case neg =>
    obtain rfl : s = M.length := by omega
    simp (disch := omega) only [Try.ntmps45, Try.results45, go_sem, rr_eq]
    exact fin_tup (by simp [ints]) (ints_vals _) (by rw [hp_map, hmap_cons, if_pos rfl])
  have hord := rot_ord (n := M.length) (s := s) (by omega) hw.1.2 hlt
  have hb := cc_b (L := piv M (rot M.length s M.length)) hw M.length (Nat.le_refl _)
  have hpl := piv_length ⟨hw, hord⟩
  have wp := (Try.specPiv_f M (rot M.length s M.length) hM hR (by rw [rot_length]; exact hM) ⟨hw, hord⟩).one
  have wc := Try.specCost_ok M (piv M (rot M.length s M.length)) hw hpl
  rw [hpl] at wc
  have hnext : bpv M (s + 1) = if (bpv M s).2 < 0 ∨ cc M (piv M (rot M.length s M.length)) M.length < (bpv M s).2 then (piv M (rot M.length s M.length), cc M (piv M (rot M.length s M.length)) M.length) else bpv M s := rfl
  generalize hb1 : bpv M (s + 1) = t2 at *
  generalize hb0 : bpv M s = t at *
  simp (disch := omega) only [Try.ntmps45, Try.results45, go_sem, rr_eq]
  refine w1.callV 0 (viewL_cons_of (view_row) viewL_nil_of) ?_
  simp (disch := omega) only [Try.ntmps45, Try.results45, go_sem, rr_eq, rep_none]
  refine LoopW.loop (fun p : Nat × Nat × Nat => ⟨ofL [(0, rr M), (4, .own ob 0 t.1.length t.1.length 1 false), (5, .val (.int .i64 t.2)), (6, .val (.int .i64 s)), (7, .own p.2.1 0 p.1 p.1 1 false), (8, .val (.int .i64 p.1))], hp [(p.2.1, ⟨ints (rot M.length s p.1), false⟩), (ob, ⟨ints t.1, false⟩)] p.2.2⟩)
    (fun p => p.1 ≤ M.length ∧ ob < p.2.1 ∧ p.2.1 < p.2.2) (fun p => M.length - p.1) (0, nb, nb + 1) ⟨by simp, hob, by simp⟩ (Wk.ofH (by simp only [go_sem, ↓List.forall_mem_cons, List.not_mem_nil, false_implies, implies_true, and_true, true_and, and_self, ri_eq, Int.natCast_add, Int.cast_ofNat_Int, rr_eq]; try simp) (by
      simp only [List.forall_mem_cons]
      refine ⟨by rw [hp_map, hmap_cons, if_pos rfl]; rfl, by simp (disch := omega) only [hp_map, hmap_cons, if_pos, if_neg, ↓reduceIte], by simp⟩) (Nat.le_refl _)) ?_
  rintro ⟨k, ob2, nb2⟩ ⟨hk, ho1, ho2⟩
  simp only at hk ho1 ho2
  refine SW_of_vc Try.mixed _ _ _ (by kernel_rfl) ?_
  have hrl := rot_length M.length s k
  by_cases hlt2 : k < M.length
  · have hm := rot_mod s k M.length
    have hsn := rot_snoc M.length s k
    have hlt3 : (s + k) % M.length < M.length := Nat.mod_lt _ (by omega)
    have hil : (ints (rot M.length s k)).length = k := by rw [ints_length, hrl]
    have hit : (ints (rot M.length s k)).take k = ints (rot M.length s k) := List.take_of_length_le (by omega)
    simp (disch := omega) only [Try.ntmps45, Try.results45, go_sem, rr_eq, hm, hil, hit, hsn]
    exact ⟨(k + 1, nb2 + 1, nb2 + 1 + 1), ⟨hlt2, by show ob < nb2 + 1; omega, by show nb2 + 1 < nb2 + 1 + 1; omega⟩, by show M.length - (k + 1) < M.length - k; omega, Wk.ofH (by simp only [go_sem, ↓List.forall_mem_cons, List.not_mem_nil, false_implies, implies_true, and_true, true_and, and_self, ri_eq, Int.natCast_add, Int.cast_ofNat_Int, rr_eq]; try simp) (by simp (disch := omega) only [go_sem, ↓List.forall_mem_cons, List.not_mem_nil, false_implies, implies_true, and_true, true_and, and_self, ri_eq, Int.natCast_add, Int.cast_ofNat_Int, if_pos, if_neg, Nat.reduceAdd, List.nil_append]; try simp) (Nat.le_refl _)⟩
  · obtain rfl : k = M.length := by omega
    by_cases hc : t.2 < 0
    · rw [if_pos (.inl hc)] at hnext
      subst hnext
      generalize piv M (rot M.length s M.length) = l at *
      generalize cc M l M.length = c at *
      simp (disch := omega) only [Try.ntmps45, Try.results45, go_sem, rr_eq]
      refine wp.callOne (ints_vals _) 2 (viewL_cons_of view_row (viewL_cons_of (view_own (by rw [hp_map, hmap_cons, if_pos rfl]) (by omega)) viewL_nil_of)) ?_
      simp (disch := omega) only [Try.ntmps45, Try.results45, go_sem, rr_eq]
      refine wc.callV 2 (viewL_cons_of view_row (viewL_cons_of (view_own (by rw [hp_map, hmap_cons, if_pos rfl]) (by omega)) viewL_nil_of)) ?_
      simp (disch := omega) only [Try.ntmps45, Try.results45, go_sem, rr_eq]
      exact ⟨(s + 1, nb2, nb2 + 1), ⟨hlt, by show nb2 < nb2 + 1; omega⟩, by show M.length - (s + 1) < M.length - s; omega, Wk.ofH (by simp only [go_sem, ↓List.forall_mem_cons, List.not_mem_nil, false_implies, implies_true, and_true, true_and, and_self, ri_eq, Int.natCast_add, Int.cast_ofNat_Int, rr_eq, hb1, hpl]; try simp) (by simp (disch := omega) only [go_sem, ↓List.forall_mem_cons, List.not_mem_nil, false_implies, implies_true, and_true, true_and, and_self, ri_eq, Int.natCast_add, Int.cast_ofNat_Int, if_pos, if_neg, Nat.reduceAdd, List.nil_append, hb1]; try simp) (Nat.le_refl _)⟩
    · by_cases hc2 : cc M (piv M (rot M.length s M.length)) M.length < t.2
      · rw [if_pos (.inr hc2)] at hnext
        subst hnext
        generalize piv M (rot M.length s M.length) = l at *
        generalize cc M l M.length = c at *
        simp (disch := omega) only [Try.ntmps45, Try.results45, go_sem, rr_eq]
        refine wp.callOne (ints_vals _) 2 (viewL_cons_of view_row (viewL_cons_of (view_own (by rw [hp_map, hmap_cons, if_pos rfl]) (by omega)) viewL_nil_of)) ?_
        simp (disch := omega) only [Try.ntmps45, Try.results45, go_sem, rr_eq]
        refine wc.callV 2 (viewL_cons_of view_row (viewL_cons_of (view_own (by rw [hp_map, hmap_cons, if_pos rfl]) (by omega)) viewL_nil_of)) ?_
        simp (disch := omega) only [Try.ntmps45, Try.results45, go_sem, rr_eq]
        exact ⟨(s + 1, nb2, nb2 + 1), ⟨hlt, by show nb2 < nb2 + 1; omega⟩, by show M.length - (s + 1) < M.length - s; omega, Wk.ofH (by simp only [go_sem, ↓List.forall_mem_cons, List.not_mem_nil, false_implies, implies_true, and_true, true_and, and_self, ri_eq, Int.natCast_add, Int.cast_ofNat_Int, rr_eq, hb1, hpl]; try simp) (by simp (disch := omega) only [go_sem, ↓List.forall_mem_cons, List.not_mem_nil, false_implies, implies_true, and_true, true_and, and_self, ri_eq, Int.natCast_add, Int.cast_ofNat_Int, if_pos, if_neg, Nat.reduceAdd, List.nil_append, hb1]; try simp) (Nat.le_refl _)⟩
      · rw [if_neg (fun h => h.elim hc hc2)] at hnext
        subst hnext
        generalize piv M (rot M.length s M.length) = l at *
        generalize cc M l M.length = c at *
        simp (disch := omega) only [Try.ntmps45, Try.results45, go_sem, rr_eq]
        refine wp.callOne (ints_vals _) 2 (viewL_cons_of view_row (viewL_cons_of (view_own (by rw [hp_map, hmap_cons, if_pos rfl]) (by omega)) viewL_nil_of)) ?_
        simp (disch := omega) only [Try.ntmps45, Try.results45, go_sem, rr_eq]
        refine wc.callV 2 (viewL_cons_of view_row (viewL_cons_of (view_own (by rw [hp_map, hmap_cons, if_pos rfl]) (by omega)) viewL_nil_of)) ?_
        simp (disch := omega) only [Try.ntmps45, Try.results45, go_sem, rr_eq]
        exact ⟨(s + 1, ob, nb2 + 1), ⟨hlt, by show ob < nb2 + 1; omega⟩, by show M.length - (s + 1) < M.length - s; omega, Wk.ofH (by simp only [go_sem, ↓List.forall_mem_cons, List.not_mem_nil, false_implies, implies_true, and_true, true_and, and_self, ri_eq, Int.natCast_add, Int.cast_ofNat_Int, rr_eq, hb1]; try simp) (by simp (disch := omega) only [go_sem, ↓List.forall_mem_cons, List.not_mem_nil, false_implies, implies_true, and_true, true_and, and_self, ri_eq, Int.natCast_add, Int.cast_ofNat_Int, if_pos, if_neg, Nat.reduceAdd, List.nil_append, hb1]; try simp) (Nat.le_refl _)⟩
end Go.Sh

/-
  The best of the orders that begin with each item: of the program.
-/
namespace Go.Sh
set_option linter.unusedSimpArgs false
set_option linter.unusedVariables false
open Go Go.Proofs

/-- A slice of ints that is nil as long as it is empty. -/
def nlI (b : Nat) (T : List Int) : SV := if T.length = 0 then .val (.slice none 0 0) else .own b 0 T.length T.length 1 false
def nlH (b : Nat) (T : List Int) : List (Nat × Blk) := if T.length = 0 then [] else [(b, ⟨ints T, false⟩)]
theorem nlI_f {b : Nat} {T : List Int} (h : T.length ≠ 0) : nlI b T = .own b 0 T.length T.length 1 false := if_neg h
theorem nlH_f {b : Nat} {T : List Int} (h : T.length ≠ 0) : nlH b T = [(b, ⟨ints T, false⟩)] := if_neg h
theorem nlI_t {b : Nat} {T : List Int} (h : T.length = 0) : nlI b T = .val (.slice none 0 0) := if_pos h
theorem nlH_t {b : Nat} {T : List Int} (h : T.length = 0) : nlH b T = [] := if_pos h
theorem nlH_in {b : Nat} {T : List Int} {H : Heap} (h : T.length ≠ 0 → H.map b = some ⟨ints T, false⟩) : ∀ q ∈ nlH b T, H.map q.1 = some q.2 := by
  intro q hq
  unfold nlH at hq
  split at hq
  · simp at hq
  · rename_i h0
    simp at hq; subst hq
    exact h h0
theorem nlH_map {b : Nat} {T : List Int} (h : T.length ≠ 0) : hmap (nlH b T) b = some ⟨ints T, false⟩ := by rw [nlH_f h, hmap_cons, if_pos rfl]

theorem nlI_nil (b : Nat) : nlI b [] = .val (.slice none 0 0) := rfl
theorem delB_nlH {b x : Nat} {T : List Int} (h : T.length ≠ 0 → b ≠ x) : delB (nlH b T) x = nlH b T := by
  by_cases h0 : T.length = 0
  · rw [nlH_t h0]; rfl
  · rw [nlH_f h0]; have := h h0; simp [delB, this]

set_option maxRecDepth 20000 in
set_option maxHeartbeats 8000000 in
theorem Try.implBP_f (M : List (List Int)) (hM : M.length ≤ 1048576) (hR : ∀ i, i < M.length → (mrow M i).length ≤ 1048576) (hw : WM M) : FCall Try.prog 44 [rr M] (BpR (bp M)) := by
  have w1 := Try.implIsWM_ok M hM hR
  rw [isWM_t hw] at w1
  rw [bp_t hw]
  have hln := hw.1
  refine FCall.of_body Try.func44 rfl (by kernel_rfl) (by simp [Try.ntmps44]) ?_
  refine SW_of_vc Try.mixed _ _ _ (by kernel_rfl) ?_
  simp (disch := omega) only [Try.ntmps44, Try.results44, go_sem, rr_eq]
  refine w1.callV 0 (viewL_cons_of (view_row) viewL_nil_of) ?_
  simp (disch := omega) only [Try.ntmps44, Try.results44, go_sem, rr_eq]
  clear w1
  refine LoopW.loop (fun p : Nat × Nat × Nat => ⟨ofL [(0, rr M), (4, nlI p.2.1 (bpv M p.1).1), (5, .val (.int .i64 (bpv M p.1).2)), (15, .val (.int .i64 M.length)), (16, .val (.int .i64 p.1))], hp (nlH p.2.1 (bpv M p.1).1) p.2.2⟩)
    (fun p => p.1 ≤ M.length ∧ ((bpv M p.1).1.length ≠ 0 → p.2.1 < p.2.2)) (fun p => M.length - p.1) (0, 0, 0) ⟨by simp, fun h => absurd rfl h⟩ (Wk.ofH (by simp only [go_sem, ↓List.forall_mem_cons, List.not_mem_nil, false_implies, implies_true, and_true, true_and, and_self, ri_eq, Int.natCast_add, Int.cast_ofNat_Int, rr_eq, bpv, nlI_nil]; try simp) (by simp [nlH, bpv]) (by simp [hp])) ?_
  rintro ⟨s, ob, nb⟩ ⟨hs, hob⟩
  simp only at hs hob
  refine SW_of_vc Try.mixed _ _ _ (by kernel_rfl) ?_
  by_cases hlt : s < M.length
  case neg =>
    obtain rfl : s = M.length := by omega
    have hl : (bpv M M.length).1.length ≠ 0 := by
      rcases bpv_inv hw M.length (Nat.le_refl _) with h | h
      · omega
      · omega
    have e1 := nlI_f (b := ob) hl
    have e2 := nlH_map (b := ob) hl
    simp (disch := omega) only [Try.ntmps44, Try.results44, go_sem, rr_eq, e1]
    exact fin_tup (by simp [ints]) (ints_vals _) (by rw [hp_map, e2])
  have hord := rot_ord (n := M.length) (s := s) (by omega) hw.1.2 hlt
  have hb := cc_b (L := piv M (rot M.length s M.length)) hw M.length (Nat.le_refl _)
  have hpl := piv_length ⟨hw, hord⟩
  have wp := Try.implPiv_one M (rot M.length s M.length) hM hR (by rw [rot_length]; exact hM) ⟨hw, hord⟩
  have wc := Try.implCost_ok M (piv M (rot M.length s M.length)) hw hpl
  rw [hpl] at wc
  have hnext : bpv M (s + 1) = if (bpv M s).2 < 0 ∨ cc M (piv M (rot M.length s M.length)) M.length < (bpv M s).2 then (piv M (rot M.length s M.length), cc M (piv M (rot M.length s M.length)) M.length) else bpv M s := rfl
  generalize hb1 : bpv M (s + 1) = t2 at *
  generalize hb0 : bpv M s = t at *
  simp (disch := omega) only [Try.ntmps44, Try.results44, go_sem, rr_eq]
  refine LoopW.loop (fun p : Nat × Nat × Nat => ⟨ofL [(0, rr M), (4, nlI ob t.1), (5, .val (.int .i64 t.2)), (6, .val (.int .i64 s)), (7, nlI p.2.1 (rot M.length s p.1)), (15, .val (.int .i64 M.length)), (16, .val (.int .i64 s)), (20, .val (.int .i64 M.length)), (21, .val (.int .i64 p.1))], hp (nlH p.2.1 (rot M.length s p.1) ++ nlH ob t.1) p.2.2⟩)
    (fun p => p.1 ≤ M.length ∧ nb ≤ p.2.2 ∧ (p.1 ≠ 0 → nb ≤ p.2.1 ∧ p.2.1 < p.2.2)) (fun p => M.length - p.1) (0, nb, nb) ⟨by simp, by simp, fun h => absurd rfl h⟩ (Wk.ofH (by simp only [go_sem, ↓List.forall_mem_cons, List.not_mem_nil, false_implies, implies_true, and_true, true_and, and_self, ri_eq, Int.natCast_add, Int.cast_ofNat_Int, rr_eq, nlI_t (T := rot M.length s 0) rfl]; try simp) (by
      rw [nlH_t (T := rot M.length s 0) rfl, List.nil_append]
      exact nlH_in fun h => by rw [hp_map, nlH_map h]) (Nat.le_refl _)) ?_
  rintro ⟨k, ob2, nb2⟩ ⟨hk, hn2, ho2⟩
  simp only at hk hn2 ho2
  refine SW_of_vc Try.mixed _ _ _ (by kernel_rfl) ?_
  have hrl := rot_length M.length s k
  by_cases hlt2 : k < M.length
  · have hm := rot_mod s k M.length
    have hsn := rot_snoc M.length s k
    have hlt3 : (s + k) % M.length < M.length := Nat.mod_lt _ (by omega)
    have hl2 := rot_length M.length s (k + 1)
    have e2 : ∀ b, nlI b (rot M.length s (k + 1)) = .own b 0 (k + 1) (k + 1) 1 false := fun b => by rw [nlI_f (by omega), hl2]
    have e3 : ∀ b, nlH b (rot M.length s (k + 1)) = [(b, ⟨ints (rot M.length s (k + 1)), false⟩)] := fun b => nlH_f (by omega)
    by_cases hz : k = 0
    · have hkl : (rot M.length s k).length = 0 := by omega
      have e0 := nlI_t (b := ob2) hkl
      have h0 := nlH_t (b := ob2) hkl
      have hsn0 : [SV.val (.int .i64 (((s + k) % M.length : Nat) : Int))] = ints (rot M.length s (k + 1)) := by rw [← hsn, List.length_eq_zero_iff.1 hkl]; rfl
      have e2z : ∀ b, nlI b (rot M.length s (k + 1)) = .own b 0 1 1 1 false := fun b => by
        have hk1 : k + 1 = 1 := by omega
        rw [e2, hk1]
      simp (disch := omega) only [Try.ntmps44, Try.results44, go_sem, rr_eq, hm, e0, h0, List.nil_append]
      refine ⟨(k + 1, nb2 + 1, nb2 + 1 + 1), ⟨hlt2, by show nb ≤ nb2 + 1 + 1; omega, fun _ => ⟨by show nb ≤ nb2 + 1; omega, by show nb2 + 1 < nb2 + 1 + 1; omega⟩⟩, by show M.length - (k + 1) < M.length - k; omega, Wk.ofH (by simp only [go_sem, ↓List.forall_mem_cons, List.not_mem_nil, false_implies, implies_true, and_true, true_and, and_self, ri_eq, Int.natCast_add, Int.cast_ofNat_Int, rr_eq, e2z]; try simp) ?_ (Nat.le_refl _)⟩
      show ∀ q ∈ nlH (nb2 + 1) (rot M.length s (k + 1)) ++ nlH ob t.1, _
      rw [e3, List.cons_append, List.nil_append, List.forall_mem_cons]
      refine ⟨?_, nlH_in fun h => ?_⟩
      · rw [← hsn0]; simp (disch := omega) only [hp_map, hmap_cons, if_pos, if_neg, ↓reduceIte]
      · have := hob h
        show hmap _ ob = _
        simp (disch := omega) only [hmap_cons, if_neg]
        exact nlH_map h
    · have hkl : (rot M.length s k).length ≠ 0 := by omega
      obtain ⟨o1, o2⟩ := ho2 hz
      have e0 := nlI_f (b := ob2) hkl
      have h0 := nlH_f (b := ob2) hkl
      rw [hrl] at e0
      have hil : (ints (rot M.length s k)).length = k := by rw [ints_length, hrl]
      have hit : (ints (rot M.length s k)).take k = ints (rot M.length s k) := List.take_of_length_le (by omega)
      have hdel : delB (nlH ob t.1) ob2 = nlH ob t.1 := delB_nlH fun h => by have := hob h; omega
      simp (disch := omega) only [Try.ntmps44, Try.results44, go_sem, rr_eq, hm, e0, h0, List.cons_append, List.nil_append, hil, hit, hsn, hdel]
      refine ⟨(k + 1, nb2 + 1, nb2 + 1 + 1), ⟨hlt2, by show nb ≤ nb2 + 1 + 1; omega, fun _ => ⟨by show nb ≤ nb2 + 1; omega, by show nb2 + 1 < nb2 + 1 + 1; omega⟩⟩, by show M.length - (k + 1) < M.length - k; omega, Wk.ofH (by simp only [go_sem, ↓List.forall_mem_cons, List.not_mem_nil, false_implies, implies_true, and_true, true_and, and_self, ri_eq, Int.natCast_add, Int.cast_ofNat_Int, rr_eq, e2]; try simp) ?_ (Nat.le_refl _)⟩
      show ∀ q ∈ nlH (nb2 + 1) (rot M.length s (k + 1)) ++ nlH ob t.1, _
      rw [e3, List.cons_append, List.nil_append, List.forall_mem_cons]
      refine ⟨?_, nlH_in fun h => ?_⟩
      · simp (disch := omega) only [hp_map, hmap_cons, if_pos, if_neg, ↓reduceIte]
      · have := hob h
        show hmap _ ob = _
        simp (disch := omega) only [hmap_cons, if_neg]
        exact nlH_map h
  · obtain rfl : k = M.length := by omega
    obtain ⟨o1, o2⟩ := ho2 (by omega)
    have hkl : (rot M.length s M.length).length ≠ 0 := by omega
    have e0 := nlI_f (b := ob2) hkl
    have h0 := nlH_f (b := ob2) hkl
    rw [hrl] at e0
    by_cases hc : t.2 < 0 ∨ cc M (piv M (rot M.length s M.length)) M.length < t.2
    · rw [if_pos hc] at hnext
      subst hnext
      generalize piv M (rot M.length s M.length) = l at *
      generalize cc M l M.length = c at *
      have e4 : ∀ b, nlI b l = .own b 0 M.length M.length 1 false := fun b => by rw [nlI_f (by omega), hpl]
      have e5 : ∀ b, nlH b l = [(b, ⟨ints l, false⟩)] := fun b => nlH_f (by omega)
      by_cases hc1 : t.2 < 0
      · simp (disch := omega) only [Try.ntmps44, Try.results44, go_sem, rr_eq, e0, h0, List.cons_append, List.nil_append]
        refine wp.callOne (ints_vals _) 2 (viewL_cons_of view_row (viewL_cons_of (view_own (by rw [hp_map, hmap_cons, if_pos rfl]) (by omega)) viewL_nil_of)) ?_
        simp (disch := omega) only [Try.ntmps44, Try.results44, go_sem, rr_eq]
        refine wc.callV 2 (viewL_cons_of view_row (viewL_cons_of (view_own (by rw [hp_map, hmap_cons, if_pos rfl]) (by omega)) viewL_nil_of)) ?_
        simp (disch := omega) only [Try.ntmps44, Try.results44, go_sem, rr_eq]
        refine ⟨(s + 1, nb2, nb2 + 1), ⟨hlt, fun _ => by show nb2 < nb2 + 1; omega⟩, by show M.length - (s + 1) < M.length - s; omega, Wk.ofH (by simp only [go_sem, ↓List.forall_mem_cons, List.not_mem_nil, false_implies, implies_true, and_true, true_and, and_self, ri_eq, Int.natCast_add, Int.cast_ofNat_Int, rr_eq, hb1, e4]; try simp) ?_ (Nat.le_refl _)⟩
        show ∀ q ∈ nlH nb2 (bpv M (s + 1)).1, _
        rw [hb1]
        exact nlH_in fun _ => by show hmap _ nb2 = _; rw [hmap_cons, if_pos rfl]
      · have hc2 : c < t.2 := hc.resolve_left hc1
        simp (disch := omega) only [Try.ntmps44, Try.results44, go_sem, rr_eq, e0, h0, List.cons_append, List.nil_append]
        refine wp.callOne (ints_vals _) 2 (viewL_cons_of view_row (viewL_cons_of (view_own (by rw [hp_map, hmap_cons, if_pos rfl]) (by omega)) viewL_nil_of)) ?_
        simp (disch := omega) only [Try.ntmps44, Try.results44, go_sem, rr_eq]
        refine wc.callV 2 (viewL_cons_of view_row (viewL_cons_of (view_own (by rw [hp_map, hmap_cons, if_pos rfl]) (by omega)) viewL_nil_of)) ?_
        simp (disch := omega) only [Try.ntmps44, Try.results44, go_sem, rr_eq]
        refine ⟨(s + 1, nb2, nb2 + 1), ⟨hlt, fun _ => by show nb2 < nb2 + 1; omega⟩, by show M.length - (s + 1) < M.length - s; omega, Wk.ofH (by simp only [go_sem, ↓List.forall_mem_cons, List.not_mem_nil, false_implies, implies_true, and_true, true_and, and_self, ri_eq, Int.natCast_add, Int.cast_ofNat_Int, rr_eq, hb1, e4]; try simp) ?_ (Nat.le_refl _)⟩
        show ∀ q ∈ nlH nb2 (bpv M (s + 1)).1, _
        rw [hb1]
        exact nlH_in fun _ => by show hmap _ nb2 = _; rw [hmap_cons, if_pos rfl]
    · rw [if_neg hc] at hnext
      subst hnext
      generalize piv M (rot M.length s M.length) = l at *
      generalize cc M l M.length = c at *
      have hc1 : ¬ t2.2 < 0 := fun h => hc (.inl h)
      have hc2 : ¬ c < t2.2 := fun h => hc (.inr h)
      simp (disch := omega) only [Try.ntmps44, Try.results44, go_sem, rr_eq, e0, h0, List.cons_append, List.nil_append]
      refine wp.callOne (ints_vals _) 2 (viewL_cons_of view_row (viewL_cons_of (view_own (by rw [hp_map, hmap_cons, if_pos rfl]) (by omega)) viewL_nil_of)) ?_
      simp (disch := omega) only [Try.ntmps44, Try.results44, go_sem, rr_eq]
      refine wc.callV 2 (viewL_cons_of view_row (viewL_cons_of (view_own (by rw [hp_map, hmap_cons, if_pos rfl]) (by omega)) viewL_nil_of)) ?_
      simp (disch := omega) only [Try.ntmps44, Try.results44, go_sem, rr_eq]
      refine ⟨(s + 1, ob, nb2 + 1), ⟨hlt, fun h => by
        show ob < nb2 + 1
        have h : (bpv M (s + 1)).1.length ≠ 0 := h
        rw [hb1] at h
        have := hob h; omega⟩, by show M.length - (s + 1) < M.length - s; omega, Wk.ofH (by simp only [go_sem, ↓List.forall_mem_cons, List.not_mem_nil, false_implies, implies_true, and_true, true_and, and_self, ri_eq, Int.natCast_add, Int.cast_ofNat_Int, rr_eq, hb1]; try simp) ?_ (Nat.le_refl _)⟩
      show ∀ q ∈ nlH ob (bpv M (s + 1)).1, _
      rw [hb1]
      refine nlH_in fun h => ?_
      have := hob h
      show hmap _ ob = _
      simp (disch := omega) only [hmap_cons, if_neg]
      exact nlH_map h

theorem Try.implBP_n (M : List (List Int)) (hM : M.length ≤ 1048576) (hR : ∀ i, i < M.length → (mrow M i).length ≤ 1048576) (hw : ¬ WM M) : FCall Try.prog 44 [rr M] (fun r _ => r = .tup ([.slice none 0 0, .int .i64 (-1)].map .val)) := by
  have w1 := Try.implIsWM_ok M hM hR
  rw [isWM_f hw] at w1
  refine FCall.of_body Try.func44 rfl (by kernel_rfl) (by simp [Try.ntmps44]) ?_
  refine SW_of_vc Try.mixed _ _ _ (by kernel_rfl) ?_
  simp (disch := omega) only [Try.ntmps44, Try.results44, go_sem, rr_eq]
  refine w1.callV 0 (viewL_cons_of (view_row) viewL_nil_of) ?_
  simp (disch := omega) only [Try.ntmps44, Try.results44, go_sem, rr_eq]
  exact ⟨⟨fun _ => none, 0⟩, ⟨rfl, fun _ => .inl rfl⟩, by simp [noRow, noRowL], fun b blk hb => by simp at hb, rfl⟩
theorem view_tupJ {L : List Int} {n : Nat} {u : Int} {r r0 : SV} {H : Heap} (h : r = .tup [r0, .val (.int .i64 u)]) (hf : FlatRes n 1 (ints L) r0 H) : view H 3 r = some (.tup [ri L, .val (.int .i64 u)]) := by
  subst h
  have h1 : viewL H 2 [r0, .val (.int .i64 u)] = some [ri L, .val (.int .i64 u)] := viewL_cons_of (flat_view hf) (viewL_cons_of view_int viewL_nil_of)
  simp only [view, h1]
theorem bp_len {M : List (List Int)} (hw : WM M) : (bp M).1.length = M.length := by
  rw [bp_t hw]
  rcases bpv_inv hw M.length (Nat.le_refl _) with h | h
  · have := hw.1; omega
  · exact h.1
theorem Try.specBP_ok (M : List (List Int)) (hM : M.length ≤ 1048576) (hR : ∀ i, i < M.length → (mrow M i).length ≤ 1048576) : PCall Try.prog 45 [rr M] (.tup [ri (bp M).1, .val (.int .i64 (bp M).2)]) :=
  (Try.specBP_f M hM hR).pcall 3 (fun r H ⟨r0, h1, h2⟩ => view_tupJ h1 h2)
theorem Try.implBP_ok (M : List (List Int)) (hM : M.length ≤ 1048576) (hR : ∀ i, i < M.length → (mrow M i).length ≤ 1048576) : PCall Try.prog 44 [rr M] (.tup [ri (bp M).1, .val (.int .i64 (bp M).2)]) := by
  by_cases hw : WM M
  · exact (Try.implBP_f M hM hR hw).pcall 3 (fun r H ⟨r0, h1, h2⟩ => view_tupJ h1 h2)
  · rw [bp_f hw]
    refine (Try.implBP_n M hM hR hw).pcall 3 (by
      rintro r H rfl
      have h1 : viewL H 2 [.val (.slice none 0 0), .val (.int .i64 (-1))] = some [ri [], .val (.int .i64 (-1))] := viewL_cons_of view_nil (viewL_cons_of view_int viewL_nil_of)
      simp only [List.map_cons, List.map_nil, view, h1])
theorem Try.implBP_o (M : List (List Int)) (hM : M.length ≤ 1048576) (hR : ∀ i, i < M.length → (mrow M i).length ≤ 1048576) (hw : WM M) :
    FCall Try.prog 44 [rr M] (fun r H => r = .tup [.own 0 0 M.length M.length 1 false, .val (.int .i64 (bp M).2)] ∧ H = Heap.one ⟨ints (bp M).1, false⟩) := by
  have := (Try.implBP_f M hM hR hw).oneT
  rw [bp_len hw] at this
  exact this
end Go.Sh

/-
  The search for the best partition: of the program.
-/
namespace Go.Sh
set_option linter.unusedSimpArgs false
set_option linter.unusedVariables false
open Go Go.Proofs

theorem hset_map (H : Heap) (b x : Nat) (k : Option Blk) : (H.set b k).map x = if x = b then k else H.map x := rfl
theorem hset_nb (H : Heap) (b : Nat) (k : Option Blk) : (H.set b k).nb = H.nb := rfl
theorem hpush_map (H : Heap) (x : Nat) (k : Blk) : (H.push k).map x = if x = H.nb then some k else H.map x := rfl
theorem hpush_nb (H : Heap) (k : Blk) : (H.push k).nb = H.nb + 1 := rfl

def yClos : SV := .clos (.func 152) [] [.optr 1 0, .optr 0 0, .optr 3 0, .optr 2 0, .optr 4 0]
def fClos : SV := .clos (.func 165) [] [.optr 5 0, .optr 6 0, .optr 8 0, .optr 9 0]
/-- What best and eachPartition hold in memory. -/
structure EH (M : List (List Int)) (C : List Con) (H : Heap) (s : BS) (fb : Nat) (W : List Int) : Prop where
  m0 : H.map 0 = some ⟨[rr M], true⟩
  m1 : H.map 1 = some ⟨[rc C], true⟩
  m2 : H.map 2 = some ⟨[nlI fb s.first], true⟩
  m3 : H.map 3 = some ⟨[.val (.int .i64 s.least)], true⟩
  m4 : H.map 4 = some ⟨[.val (.int .i64 s.count)], true⟩
  m5 : H.map 5 = some ⟨[.val (.int .i64 M.length)], true⟩
  m6 : H.map 6 = some ⟨[yClos], true⟩
  m7 : H.map 7 = some ⟨ints W, true⟩
  m8 : H.map 8 = some ⟨[.own 7 0 M.length M.length 1 true], true⟩
  m9 : H.map 9 = some ⟨[fClos], true⟩
  mf : s.first.length ≠ 0 → H.map fb = some ⟨ints s.first, false⟩
  bf : s.first.length ≠ 0 → 10 ≤ fb ∧ fb < H.nb
  nb : 10 ≤ H.nb
def EQ (M : List (List Int)) (C : List Con) (t : BS) (p : List Int) (n : Nat) (r : SV) (H' : Heap) : Prop := r = .tup [] ∧ ∃ fb', EH M C H' t fb' p ∧ n ≤ H'.nb

set_option maxRecDepth 20000 in
set_option maxHeartbeats 4000000 in
theorem Try.yield_ok {M : List (List Int)} {C : List Con} (hw : WM M) (hC : C.length ≤ 1048576) (s : BS) (p : List Int) (hpl : p.length = M.length) (hcnt : s.count ≤ 1000000000) (fb : Nat) (H : Heap) (h : EH M C H s fb p) :
    CallS Try.prog 152 [.own 7 0 M.length M.length 1 true, .optr 1 0, .optr 0 0, .optr 3 0, .optr 2 0, .optr 4 0] H (EQ M C (updB M C s p) p H.nb) := by
  have hln := hw.1
  have wk := Try.keeps_ok p C (by omega) hC
  have wc := Try.implCost_ok M p hw hpl
  rw [hpl] at wc
  have hc := cc_b (L := p) hw M.length (Nat.le_refl _)
  have hu : updB M C s p = updB M C s p := rfl
  conv at hu => rhs; rw [updB, hpl]
  generalize updB M C s p = t at *
  have hnb := h.nb
  have m0 := h.m0
  have m1 := h.m1
  have m2 := h.m2
  have m3 := h.m3
  have m4 := h.m4
  have m7 := h.m7
  refine CallS.of_body Try.func152 rfl (by kernel_rfl) (by simp [Try.ntmps152]) ?_
  refine SW_of_vc Try.mixed _ _ _ (by kernel_rfl) ?_
  rcases Bool.eq_false_or_eq_true (C.all (kp p)) with hk | hk
  · rw [hk] at wk
    rw [if_pos hk] at hu
    generalize hcc : cc M p M.length = z at *
    have wl := (Try.clone_f p (by omega) (by omega)).one
    by_cases g1 : s.least < 0 ∨ z < s.least
    · rw [if_pos g1] at hu
      have hfin : EQ M C t p H.nb (.tup []) ((((H.push ⟨ints p, false⟩).set 2 (some ⟨[.own H.nb 0 M.length M.length 1 false], true⟩)).set 3 (some ⟨[.val (.int .i64 z)], true⟩)).set 4 (some ⟨[.val (.int .i64 1)], true⟩)) := by
        subst hu
        refine ⟨rfl, H.nb, ⟨?_, ?_, ?_, ?_, ?_, ?_, ?_, ?_, ?_, ?_, ?_, ?_, ?_⟩, by simp only [hset_nb, hpush_nb]; omega⟩
        all_goals simp (disch := omega) only [hset_map, hpush_map, hset_nb, hpush_nb, if_neg, ↓reduceIte, Nat.reduceEqDiff, h.m0, h.m1, h.m5, h.m6, h.m7, h.m8, h.m9]
        · rw [nlI_f (by omega), hpl]
        · rfl
        · exact fun _ => trivial
        · intro _; omega
        · omega
      rw [hpl] at wl
      have p0 : ∀ k, (H.push k).map 2 = some ⟨[nlI fb s.first], true⟩ := fun k => by rw [hpush_map, if_neg (by omega), m2]
      have p1 : ∀ k, (H.push k).map 3 = some ⟨[.val (.int .i64 s.least)], true⟩ := fun k => by rw [hpush_map, if_neg (by omega), m3]
      have p2 : ∀ k, (H.push k).map 4 = some ⟨[.val (.int .i64 s.count)], true⟩ := fun k => by rw [hpush_map, if_neg (by omega), m4]
      simp (disch := omega) only [Try.ntmps152, Try.results152, go_sem, rc, m1]
      refine wk.callV 2 (viewL_cons_of (view_own (L := p) (e2 := true) m7 hpl.symm) (viewL_cons_of view_row viewL_nil_of)) ?_
      simp (disch := omega) only [Try.ntmps152, Try.results152, go_sem, rc, m0]
      refine wc.callV 2 (viewL_cons_of view_row (viewL_cons_of (view_own (L := p) (e2 := true) m7 hpl.symm) viewL_nil_of)) ?_
      have hgd : s.least < 0 ∨ (¬ s.least < 0 ∧ z < s.least) := by omega
      rcases hgd with hg | ⟨hg, hg2⟩
      · simp (disch := omega) only [Try.ntmps152, Try.results152, go_sem, rc, m3]
        refine wl.callOne (ints_vals _) 2 (viewL_cons_of (view_own (L := p) (e2 := true) m7 hpl.symm) viewL_nil_of) ?_
        simp (disch := omega) only [Try.ntmps152, Try.results152, go_sem, rc, p0, p1, p2, hset_map]
        exact hfin
      · simp (disch := omega) only [Try.ntmps152, Try.results152, go_sem, rc, m3]
        refine wl.callOne (ints_vals _) 2 (viewL_cons_of (view_own (L := p) (e2 := true) m7 hpl.symm) viewL_nil_of) ?_
        simp (disch := omega) only [Try.ntmps152, Try.results152, go_sem, rc, p0, p1, p2, hset_map]
        exact hfin
    · rw [if_neg g1] at hu
      by_cases g2 : z = s.least
      · rw [if_pos g2] at hu
        have hfin : EQ M C t p H.nb (.tup []) (H.set 4 (some ⟨[.val (.int .i64 ((s.count : Int) + 1))], true⟩)) := by
          subst hu
          refine ⟨rfl, fb, ⟨?_, ?_, ?_, ?_, ?_, ?_, ?_, ?_, ?_, ?_, fun hf => ?_, h.bf, h.nb⟩, by simp only [hset_nb]; omega⟩
          all_goals simp (disch := omega) only [hset_map, hset_nb, if_neg, ↓reduceIte, Nat.reduceEqDiff, h.m0, h.m1, h.m2, h.m3, h.m5, h.m6, h.m7, h.m8, h.m9]
          · rfl
          · have := h.bf hf
            rw [if_neg (by omega)]; exact h.mf hf
        simp (disch := omega) only [Try.ntmps152, Try.results152, go_sem, rc, m1]
        refine wk.callV 2 (viewL_cons_of (view_own (L := p) (e2 := true) m7 hpl.symm) (viewL_cons_of view_row viewL_nil_of)) ?_
        simp (disch := omega) only [Try.ntmps152, Try.results152, go_sem, rc, m0]
        refine wc.callV 2 (viewL_cons_of view_row (viewL_cons_of (view_own (L := p) (e2 := true) m7 hpl.symm) viewL_nil_of)) ?_
        simp (disch := omega) only [Try.ntmps152, Try.results152, go_sem, rc, m3, m4]
        exact hfin
      · rw [if_neg g2] at hu
        subst hu
        have hfin : EQ M C t p H.nb (.tup []) H := ⟨rfl, fb, h, Nat.le_refl _⟩
        simp (disch := omega) only [Try.ntmps152, Try.results152, go_sem, rc, m1]
        refine wk.callV 2 (viewL_cons_of (view_own (L := p) (e2 := true) m7 hpl.symm) (viewL_cons_of view_row viewL_nil_of)) ?_
        simp (disch := omega) only [Try.ntmps152, Try.results152, go_sem, rc, m0]
        refine wc.callV 2 (viewL_cons_of view_row (viewL_cons_of (view_own (L := p) (e2 := true) m7 hpl.symm) viewL_nil_of)) ?_
        simp (disch := omega) only [Try.ntmps152, Try.results152, go_sem, rc, m3]
        exact hfin
  · rw [hk] at wk
    rw [if_neg (by rw [hk]; simp)] at hu
    subst hu
    have hfin : EQ M C t p H.nb (.tup []) H := ⟨rfl, fb, h, Nat.le_refl _⟩
    simp (disch := omega) only [Try.ntmps152, Try.results152, go_sem, rc, m1]
    refine wk.callV 2 (viewL_cons_of (view_own (L := p) (e2 := true) m7 hpl.symm) (viewL_cons_of view_row viewL_nil_of)) ?_
    simp (disch := omega) only [Try.ntmps152, Try.results152, go_sem, rc]
    exact hfin

def FQ (M : List (List Int)) (C : List Con) (t : BS) (p : List Int) (n : Nat) (r : SV) (H' : Heap) : Prop := r = .tup [] ∧ ∃ fb' W', EH M C H' t fb' W' ∧ n ≤ H'.nb ∧ W'.length = M.length ∧ W'.take p.length = p
theorem EH.put {M : List (List Int)} {C : List Con} {H : Heap} {s : BS} {fb : Nat} {W V : List Int} (h : EH M C H s fb W) : EH M C (H.set 7 (some ⟨ints V, true⟩)) s fb V := by
  refine ⟨?_, ?_, ?_, ?_, ?_, ?_, ?_, ?_, ?_, ?_, fun hf => ?_, h.bf, h.nb⟩
  all_goals simp (disch := omega) only [hset_map, hset_nb, if_neg, ↓reduceIte, Nat.reduceEqDiff, h.m0, h.m1, h.m2, h.m3, h.m4, h.m5, h.m6, h.m8, h.m9]
  have := h.bf hf
  rw [if_neg (by omega)]; exact h.mf hf
theorem take_set {W p : List Int} {x : Int} (hl : p.length < W.length) (h : W.take p.length = p) : (W.set p.length x).take (p.length + 1) = p ++ [x] := by
  rw [List.take_succ_eq_append_getElem (by simpa using hl)]
  simp [List.take_set_of_le, h]
def eachTo (M : List (List Int)) (C : List Con) (k : Nat) (p : List Int) (nx : Nat) (s : BS) (x : Nat) : BS := (List.range x).foldl (fun s (x : Nat) => each (updB M C) k (p ++ [(x : Int)]) (max nx (x + 1)) s) s
theorem eachTo_succ {M : List (List Int)} {C : List Con} {k : Nat} {p : List Int} {nx : Nat} {s : BS} {x : Nat} : eachTo M C k p nx s (x + 1) = each (updB M C) k (p ++ [(x : Int)]) (max nx (x + 1)) (eachTo M C k p nx s x) := by
  rw [eachTo, List.range_succ, List.foldl_append]; rfl
theorem eachTo_count {M : List (List Int)} {C : List Con} {k : Nat} {p : List Int} {nx : Nat} {s : BS} {x : Nat} (hx : x ≤ nx + 1) (h : nx + (k + 1) ≤ 8) : (eachTo M C k p nx s x).count ≤ s.count + x * 9 ^ k :=
  foldl_count (g := fun s (x : Nat) => each (updB M C) k (p ++ [(x : Int)]) (max nx (x + 1)) s) (B := 9 ^ k) x s fun s y hy => each_count k _ _ s (by omega)

set_option maxRecDepth 20000 in
set_option maxHeartbeats 4000000 in
theorem Try.from_ok {M : List (List Int)} {C : List Con} (hw : WM M) (hC : C.length ≤ 1048576) : ∀ (k : Nat) (p W : List Int) (nx : Nat) (s : BS) (fb : Nat) (H : Heap), p.length + k = M.length → W.length = M.length → W.take p.length = p → nx + k ≤ 8 → s.count + 9 ^ k ≤ 1000000000 → EH M C H s fb W →
    CallS Try.prog 165 [.val (.int .i64 p.length), .val (.int .i64 nx), .optr 5 0, .optr 6 0, .optr 8 0, .optr 9 0] H (FQ M C (each (updB M C) k p nx s) p H.nb)
  | 0, p, W, nx, s, fb, H, hl, hWl, hW, hnx, hc, h => by
    have hln := hw.1
    have hWp : W = p := by rw [← hW, List.take_of_length_le (by omega)]
    subst hWp
    have wy := Try.yield_ok hw hC s W hWl (by omega) fb H h
    have m5 := h.m5
    have m6 := h.m6
    have m8 := h.m8
    rw [each]
    generalize updB M C s W = t at *
    rw [hWl]
    refine CallS.of_body Try.func165 rfl (by kernel_rfl) (by simp [Try.ntmps165]) ?_
    refine SW_of_vc Try.mixed _ _ _ (by kernel_rfl) ?_
    simp (disch := omega) only [Try.ntmps165, Try.results165, go_sem, m5, m6, m8, yClos]
    refine wy.callX ?_
    rintro r H' ⟨rfl, fb', h', hnb⟩
    have hfin : FQ M C t W H.nb (.tup []) H' := ⟨rfl, fb', W, h', hnb, hWl, List.take_length⟩
    simp (disch := omega) only [Try.ntmps165, Try.results165, go_sem]
    exact hfin
  | k + 1, p, W, nx, s, fb, H, hl, hWl, hW, hnx, hc, h => by
    have hln := hw.1
    have m5 := h.m5
    have he : each (updB M C) (k + 1) p nx s = eachTo M C k p nx s (nx + 1) := by rw [each]; rfl
    rw [he]
    have h9 : (nx + 1) * 9 ^ k ≤ 9 * 9 ^ k := mul9 (by omega)
    rw [Nat.pow_succ] at hc
    refine CallS.of_body Try.func165 rfl (by kernel_rfl) (by simp [Try.ntmps165]) ?_
    refine SW_of_vc Try.mixed _ _ _ (by kernel_rfl) ?_
    simp (disch := omega) only [Try.ntmps165, Try.results165, go_sem, m5]
    refine LoopW.loop (fun y : Nat × Nat × List Int × Heap => ⟨ofL [(0, .val (.int .i64 p.length)), (1, .val (.int .i64 nx)), (2, .optr 5 0), (3, .optr 6 0), (4, .optr 8 0), (5, .optr 9 0), (8, .val (.int .i64 y.1))], y.2.2.2⟩)
      (fun y => y.1 ≤ nx + 1 ∧ EH M C y.2.2.2 (eachTo M C k p nx s y.1) y.2.1 y.2.2.1 ∧ H.nb ≤ y.2.2.2.nb ∧ y.2.2.1.length = M.length ∧ y.2.2.1.take p.length = p) (fun y => nx + 1 - y.1) (0, fb, W, H) ⟨by simp, h, Nat.le_refl _, hWl, hW⟩ (Wk.of (by simp only [go_sem, ↓List.forall_mem_cons, List.not_mem_nil, false_implies, implies_true, and_true, true_and, and_self, ri_eq, Int.natCast_add, Int.cast_ofNat_Int]; try simp) rfl) ?_
    clear m5 h hWl hW
    rintro ⟨x, fb, W, H1⟩ ⟨hx, h, hnb, hWl, hW⟩
    simp only at hx h hnb hWl hW
    have m7 := h.m7
    have m8 := h.m8
    have m9 := h.m9
    refine SW_of_vc Try.mixed _ _ _ (by kernel_rfl) ?_
    by_cases hlt : x < nx + 1
    · have h2 := h.put (V := W.set p.length (x : Int))
      have hct := eachTo_count (M := M) (C := C) (p := p) (s := s) hx hnx
      have hx9 : (x + 1) * 9 ^ k ≤ (nx + 1) * 9 ^ k := mul9 (by omega)
      rw [Nat.succ_mul] at hx9
      have wf := Try.from_ok hw hC k (p ++ [(x : Int)]) (W.set p.length (x : Int)) (max nx (x + 1)) _ fb _ (by simp; omega) (by simpa using hWl) (by
        rw [List.length_append, List.length_singleton]; exact take_set (by omega) hW) (by omega) (by omega) h2
      rw [← eachTo_succ] at wf
      have hpl : (p ++ [(x : Int)]).length = p.length + 1 := by simp
      rw [hpl] at wf
      have hil : (ints W).length = M.length := by rw [ints_length, hWl]
      have hst : (ints W).set p.length (.val (.int .i64 (x : Int))) = ints (W.set p.length (x : Int)) := by simp [ints]
      simp (disch := omega) only [Try.ntmps165, Try.results165, go_sem, m7, m8, m9, hil, hst, hset_map, fClos]
      have c1 : ((p.length + 1 : Nat) : Int) = (p.length : Int) + 1 := by omega
      have c2 : ((max nx (x + 1) : Nat) : Int) = if (nx : Int) < (x : Int) + 1 then (x : Int) + 1 else (nx : Int) := by split <;> omega
      rw [c1, c2] at wf
      refine wf.callX ?_
      rintro r H2 ⟨rfl, fb2, W2, h3, hnb2, hW2l, hW2⟩
      rw [hpl] at hW2
      have hW3 : W2.take p.length = p := by
        have := congrArg (List.take p.length) hW2
        rw [List.take_take, Nat.min_eq_left (by omega)] at this
        rw [this]; simp
      have hnb3 : H1.nb ≤ H2.nb := hnb2
      simp (disch := omega) only [Try.ntmps165, Try.results165, go_sem]
      exact ⟨(x + 1, fb2, W2, H2), ⟨hlt, h3, Nat.le_trans hnb hnb3, hW2l, hW3⟩, by show nx + 1 - (x + 1) < nx + 1 - x; omega, Wk.of (by simp only [go_sem, ↓List.forall_mem_cons, List.not_mem_nil, false_implies, implies_true, and_true, true_and, and_self, ri_eq, Int.natCast_add, Int.cast_ofNat_Int]; try simp) rfl⟩
    · obtain rfl : x = nx + 1 := by omega
      have hfin : FQ M C (eachTo M C k p nx s (nx + 1)) p H.nb (.tup []) H1 := ⟨rfl, fb, W, h, hnb, hWl, hW⟩
      simp (disch := omega) only [Try.ntmps165, Try.results165, go_sem]
      exact hfin

def bH (M : List (List Int)) (C : List Con) : List (Nat × Blk) := [(4, ⟨[.val (.int .i64 0)], true⟩), (3, ⟨[.val (.int .i64 (-1))], true⟩), (2, ⟨[.val (.slice none 0 0)], true⟩), (1, ⟨[rc C], true⟩), (0, ⟨[rr M], true⟩)]
def BQ (M : List (List Int)) (C : List Con) (t : BS) (r : SV) (H' : Heap) : Prop := r = .tup [] ∧ ∃ fb' W', EH M C H' t fb' W'
set_option maxRecDepth 20000 in
set_option maxHeartbeats 4000000 in
theorem Try.eachPart_ok {M : List (List Int)} {C : List Con} (hw : WM M) (hC : C.length ≤ 1048576) :
    CallS Try.prog 151 [.val (.int .i64 M.length), yClos] (hp (bH M C) 5) (BQ M C (bs M C)) := by
  have hln := hw.1
  refine CallS.of_body Try.func151 rfl (by kernel_rfl) (by simp [Try.ntmps151]) ?_
  refine SW_of_vc Try.mixed _ _ _ (by kernel_rfl) ?_
  have hil : List.replicate M.length (SV.val (.int .i64 0)) = ints (List.replicate M.length 0) := by simp [ints]
  rw [bH]
  simp (disch := omega) only [Try.ntmps151, Try.results151, go_sem, yClos, hil]
  refine (Try.from_ok hw hC M.length [] (List.replicate M.length 0) 0 ⟨[], -1, 0⟩ 0 _ (by simp) (by simp) rfl (by omega) ?_ ⟨rfl, rfl, rfl, rfl, rfl, rfl, rfl, rfl, rfl, rfl, fun h => absurd rfl h, fun h => absurd rfl h, by simp [hp]⟩).callX ?_
  · have h9 : 9 ^ M.length ≤ 9 ^ 8 := Nat.pow_le_pow_right (by omega) hln.2
    show 0 + 9 ^ M.length ≤ 1000000000
    omega
  rintro r H' ⟨rfl, fb', W', h, _, _, _⟩
  have hfin : BQ M C (bs M C) (.tup []) H' := ⟨rfl, fb', W', h⟩
  simp (disch := omega) only [Try.ntmps151, Try.results151, go_sem]
  exact hfin

variable {P : Program}
theorem LRel.valsI {O : Nat → Prop} {w : World} {j : JMap} {us vs : List Value} (h : vs = us) : LRel O w j (us.map SV.val) vs := (LRel.vals us vs).2 h
theorem FCall.oneU {f : FuncId} {args : List SV} {n z : Nat} {cs : List SV} {us : List Value} (h : FCall P f args (fun r H => ∃ r0, r = .tup (r0 :: us.map .val) ∧ FlatRes n z cs r0 H)) :
    FCall P f args (fun r H => r = .tup (.own 0 0 n n z false :: us.map .val) ∧ H = Heap.one ⟨cs, false⟩) := by
  refine ⟨h.1, fun w vs hl => (h.2 w vs hl).mono ?_⟩
  rintro e w' ⟨v, r, j, H, h1, h2, h3, h4, h5, h6, h7, r0, rfl, h8⟩
  simp only [VRel, LRel] at h4
  obtain ⟨vs, rfl, x, rest, rfl, hx, hrest⟩ := h4
  obtain ⟨j', r', v', o'⟩ := one_rel h8 h3 hx
  have hr := (LRel.vals us rest).1 hrest
  refine ⟨_, _, j', _, h1, h2, r', ?_, fun k hk => h5 k (o' k hk), ?_, nr_one h8.vals, rfl, rfl⟩
  · simp only [VRel, LRel]
    exact ⟨_, rfl, _, _, rfl, by simpa only [VRel] using v', LRel.valsI hr⟩
  · simp only [noRow, noRowL, Bool.true_and]
    exact isVal_noRow (by simp [isVal])
theorem shiftL_vals (k : Nat) (us : List Value) : shiftL k (us.map SV.val) = us.map SV.val := isVal_shift (by simp [isVal])
theorem FCall.callOneU {f : FuncId} {args args' : List SV} {n z : Nat} {cs : List SV} {us : List Value} {H : Heap} {K : SV → Heap → Prop} (h : FCall P f args' (fun r H => r = .tup (.own 0 0 n n z false :: us.map .val) ∧ H = Heap.one ⟨cs, false⟩)) (hc : cs.all isVal = true) (fu : Nat) (hv : viewL H fu args = some args')
    (k : K (.tup (.own H.nb 0 n n z false :: us.map .val)) (H.push ⟨cs, false⟩)) : @CallX P f args H ⟨K⟩ := by
  refine ⟨h.1, fun j w vs r hl => ((h.callS fu hv).2 j w vs r hl).mono ?_⟩
  rintro e w' ⟨r1, v, j', H', h1, h2, h3, h4, r0, H0, ⟨rfl, rfl⟩, rfl, rfl⟩
  refine ⟨_, v, j', _, h1, h2, h3, h4, ?_⟩
  rw [merge_one r hc]
  simpa only [shift, shiftL, Nat.zero_add, shiftL_vals] using k
theorem fin_tupU {n z cap b : Nat} {ex e2 : Bool} {cs : List SV} {us : List Value} {H : Heap} (hn : cs.length = n * z) (hv : cs.all isVal = true) (hb : H.map b = some ⟨cs, e2⟩) :
    Fin (fun r H => ∃ r0, r = .tup (r0 :: us.map .val) ∧ FlatRes n z cs r0 H) (.tup (.own b 0 n cap z ex :: us.map .val)) H := by
  obtain ⟨H2, h1, h2, h3, h4⟩ := flat_fin (n := n) (z := z) (cap := cap) (ex := ex) hn hv hb
  refine ⟨H2, h1, ?_, h3, _, rfl, h4⟩
  simp only [noRow, noRowL, Bool.true_and]
  exact isVal_noRow (by simp [isVal])

theorem fin_tupV {R : SV → Heap → Prop} {us : List Value} {H : Heap} (h : R (.tup (us.map .val)) ⟨fun _ => none, H.nb⟩) : Fin R (.tup (us.map .val)) H :=
  ⟨⟨fun _ => none, H.nb⟩, ⟨rfl, fun _ => .inl rfl⟩, by simp only [noRow]; exact isVal_noRow (by simp [isVal]), fun b blk hb => by simp at hb, h⟩

set_option maxRecDepth 20000 in
set_option maxHeartbeats 4000000 in
theorem Try.best_f {M : List (List Int)} {C : List Con} (hw : WM M) (hC : C.length ≤ 1048576) (hcs : isCst M.length C = true) : FCall Try.prog 131 [rr M, rc C]
    (fun r H => ∃ r0, r = .tup (r0 :: [Value.int .i64 (bs M C).least, .int .i64 (bs M C).count].map .val) ∧ FlatRes M.length 1 (ints (bs M C).first) r0 H) := by
  have hln := hw.1
  have hfl := ((bs_best (C := C) hw).ok (bs_ok hw hcs)).1
  have we := Try.eachPart_ok hw hC
  rw [bH, yClos, rr_eq, rc] at we
  refine FCall.of_body Try.func131 rfl (by kernel_rfl) (by simp [Try.ntmps131]) ?_
  refine SW_of_vc Try.mixed _ _ _ (by kernel_rfl) ?_
  simp (disch := omega) only [Try.ntmps131, Try.results131, go_sem, rr_eq, rc]
  refine we.callX ?_
  rintro r H ⟨rfl, fb, W, h⟩
  have m2 := h.m2
  have m3 := h.m3
  have m4 := h.m4
  have mf := h.mf
  generalize bs M C = t at *
  have h0 : t.first.length ≠ 0 := by omega
  rw [nlI_f h0, hfl] at m2
  simp (disch := omega) only [Try.ntmps131, Try.results131, go_sem, rr_eq, rc, m2, m3, m4]
  exact fin_tupU (us := [.int .i64 t.least, .int .i64 t.count]) (by rw [ints_length]; omega) (ints_vals _) (mf h0)
end Go.Sh

/-
  Drawing numbers from bytes: the cursor, a byte, a number below a bound, one of a list.
-/
namespace Go.Sh
set_option linter.unusedSimpArgs false
set_option linter.unusedVariables false
open Go Go.Proofs

def bys (B : List Int) : List SV := B.map fun b => .val (.int .u8 b)
def rby (B : List Int) : SV := .row B.length false (bys B)
theorem bys_length (B : List Int) : (bys B).length = B.length := by simp [bys]
theorem bys_get {B : List Int} {i : Nat} (h : i < B.length) : (bys B)[i]? = some (.val (.int .u8 (B.getD i 0))) := by simp [bys, h]
def curB (B : List Int) (i : Nat) (h : Int) : Blk := ⟨[rby B, .val (.int .i64 i), .val (.int .i64 h)], true⟩
def Cur (B : List Int) (H : Heap) (cb : Nat) : Prop := ∃ (i : Nat) (h : Int), i ≤ B.length ∧ H.map cb = some (curB B i h)
/-- The cursor has moved, nothing else. -/
def CurS (B : List Int) (H : Heap) (cb : Nat) (H' : Heap) : Prop := ∃ (i : Nat) (h : Int), i ≤ B.length ∧ H' = H.set cb (some (curB B i h))
theorem hset_set (H : Heap) (b : Nat) (x y : Option Blk) : (H.set b x).set b y = H.set b y := by
  refine Heap.ext' (fun z => ?_) rfl
  simp only [hset_map]
  split <;> rfl
theorem CurS.cur {B : List Int} {H H' : Heap} {cb : Nat} (h : CurS B H cb H') : Cur B H' cb := by
  obtain ⟨i, x, hi, rfl⟩ := h
  exact ⟨i, x, hi, by rw [hset_map, if_pos rfl]⟩
theorem CurS.trans {B : List Int} {H H' H'' : Heap} {cb : Nat} (h : CurS B H cb H') (g : CurS B H' cb H'') : CurS B H cb H'' := by
  obtain ⟨i, x, hi, rfl⟩ := h
  obtain ⟨k, y, hk, rfl⟩ := g
  exact ⟨k, y, hk, hset_set _ _ _ _⟩
theorem Cur.s {B : List Int} {H : Heap} {cb : Nat} (h : Cur B H cb) : CurS B H cb H := by
  obtain ⟨i, x, hi, e⟩ := h
  exact ⟨i, x, hi, (Heap.set_self e).symm⟩
theorem CurS.nb {B : List Int} {H H' : Heap} {cb : Nat} (h : CurS B H cb H') : H'.nb = H.nb := by obtain ⟨i, x, hi, rfl⟩ := h; rfl
theorem CurS.map {B : List Int} {H H' : Heap} {cb b : Nat} (h : CurS B H cb H') (hb : b ≠ cb) : H'.map b = H.map b := by obtain ⟨i, x, hi, rfl⟩ := h; rw [hset_map, if_neg hb]
theorem kand255 (x : Int) : 0 ≤ kand .i64 x 255 ∧ kand .i64 x 255 ≤ 255 := by
  have h : ((BitVec.ofInt 64 x) &&& (BitVec.ofInt 64 255)).toNat ≤ 255 := by
    rw [BitVec.toNat_and]
    exact Nat.le_trans Nat.and_le_right (by decide)
  generalize hn : ((BitVec.ofInt 64 x) &&& (BitVec.ofInt 64 255)).toNat = n at *
  have e : kand .i64 x 255 = IntKind.i64.wrap (n : Int) := by rw [← hn]; rfl
  rw [e, wrap_id (by omega) (by omega)]; omega

def NewQ (B : List Int) (H : Heap) (r : SV) (H' : Heap) : Prop := ∃ h, r = .optr H.nb 0 ∧ H' = H.push (curB B 0 h)
set_option maxHeartbeats 2000000 in
theorem Try.l1New_ok (B : List Int) (hB : B.length ≤ 1048576) (H : Heap) : CallS Try.prog 60 [rby B] H (NewQ B H) := by
  have hfin : ∀ h : Int, NewQ B H (SV.optr H.nb 0) (H.push ⟨[.row B.length false (bys B), .val (.int .i64 0), .val (.int .i64 h)], true⟩) := fun h => ⟨h, rfl, rfl⟩
  refine CallS.of_body Try.func60 rfl (by kernel_rfl) (by simp [Try.ntmps60]) ?_
  refine SW_of_vc Try.mixed _ _ _ (by kernel_rfl) ?_
  simp (disch := omega) only [Try.ntmps60, Try.results60, go_sem, rby]
  refine LoopW.loop (fun y : Nat × Int => ⟨ofL [(0, rby B), (3, .val (.int .i64 y.2)), (4, .val (.int .i64 y.1))], H⟩) (fun y => y.1 ≤ B.length) (fun y => B.length - y.1) (0, 10101 + B.length) (by simp) (Wk.of (by simp only [go_sem, ↓List.forall_mem_cons, List.not_mem_nil, false_implies, implies_true, and_true, true_and, and_self, ri_eq, Int.natCast_add, Int.cast_ofNat_Int, rby]; try simp) rfl) ?_
  rintro ⟨i, h⟩ hi
  simp only at hi
  refine SW_of_vc Try.mixed _ _ _ (by kernel_rfl) ?_
  by_cases hlt : i < B.length
  · have gb := bys_get hlt
    by_cases h4 : i < 4000
    · simp (disch := omega) only [Try.ntmps60, Try.results60, go_sem, rby, gb]
      exact ⟨(i + 1, kand .i64 (IntKind.i64.wrap (IntKind.i64.wrap (IntKind.i64.wrap (h * 131) + IntKind.i64.wrap (B.getD i 0)) + 7)) 1073741823), hlt, by show B.length - (i + 1) < B.length - i; omega, Wk.of (by simp only [go_sem, ↓List.forall_mem_cons, List.not_mem_nil, false_implies, implies_true, and_true, true_and, and_self, ri_eq, Int.natCast_add, Int.cast_ofNat_Int, rby]; try simp) rfl⟩
    · simp (disch := omega) only [Try.ntmps60, Try.results60, go_sem, rby, gb]
      exact hfin h
  · simp (disch := omega) only [Try.ntmps60, Try.results60, go_sem, rby]
    exact hfin h

def ByteQ (B : List Int) (H : Heap) (cb : Nat) (r : SV) (H' : Heap) : Prop := ∃ v : Int, r = .val (.int .i64 v) ∧ 0 ≤ v ∧ v ≤ 255 ∧ CurS B H cb H'
set_option maxHeartbeats 2000000 in
theorem Try.l1Byte_ok (B : List Int) (hB : B.length ≤ 1048576) (H : Heap) (cb : Nat) (hc : Cur B H cb) : CallS Try.prog 132 [.optr cb 0] H (ByteQ B H cb) := by
  obtain ⟨i, h, hi, hm⟩ := hc
  rw [curB] at hm
  refine CallS.of_body Try.func132 rfl (by kernel_rfl) (by simp [Try.ntmps132]) ?_
  refine SW_of_vc Try.mixed _ _ _ (by kernel_rfl) ?_
  by_cases hlt : i < B.length
  · have gb := bys_get hlt
    simp (disch := omega) only [Try.ntmps132, Try.results132, go_sem, rby, hm, hset_map, gb]
    have hk := kand255
    exact ⟨_, rfl, (hk _).1, (hk _).2, i + 1, _, hlt, hset_set _ _ _ _⟩
  · simp (disch := omega) only [Try.ntmps132, Try.results132, go_sem, rby, hm, hset_map]
    have hk := kand255
    exact ⟨_, rfl, (hk _).1, (hk _).2, i, _, hi, rfl⟩

def BelowQ (B : List Int) (n : Int) (H : Heap) (cb : Nat) (r : SV) (H' : Heap) : Prop := ∃ v : Int, r = .val (.int .i64 v) ∧ 0 ≤ v ∧ (0 < n → v < n) ∧ (n ≤ 0 → v = 0) ∧ CurS B H cb H'
set_option maxHeartbeats 2000000 in
theorem Try.l1Below_ok (B : List Int) (hB : B.length ≤ 1048576) (n : Int) (hn : n ≤ 256) (H : Heap) (cb : Nat) (hc : Cur B H cb) : CallS Try.prog 108 [.optr cb 0, .val (.int .i64 n)] H (BelowQ B n H cb) := by
  have w := Try.l1Byte_ok B hB H cb hc
  refine CallS.of_body Try.func108 rfl (by kernel_rfl) (by simp [Try.ntmps108]) ?_
  refine SW_of_vc Try.mixed _ _ _ (by kernel_rfl) ?_
  by_cases h0 : n ≤ 0
  · have hfin : BelowQ B n H cb (.val (.int .i64 0)) H := ⟨0, rfl, by omega, by omega, fun _ => rfl, hc.s⟩
    simp (disch := omega) only [Try.ntmps108, Try.results108, go_sem]
    exact hfin
  · simp (disch := omega) only [Try.ntmps108, Try.results108, go_sem]
    refine w.callX ?_
    rintro r H' ⟨v, rfl, v0, v1, hs⟩
    have h1 : 0 ≤ v.tmod n := Int.tmod_nonneg n v0
    have h2 : v.tmod n < n := Int.tmod_lt_of_pos v (by omega)
    have hfin : BelowQ B n H cb (.val (.int .i64 (v.tmod n))) H' := ⟨_, rfl, h1, fun _ => h2, fun h => by omega, hs⟩
    have hne : ¬ n = 0 := by omega
    simp (disch := omega) only [Try.ntmps108, Try.results108, go_sem, hne]
    exact hfin
theorem BelowQ.ne {B : List Int} {n : Int} {H : Heap} {cb : Nat} (hc : Cur B H cb) : ∃ r H', BelowQ B n H cb r H' := ⟨_, H, 0, rfl, by omega, fun h => h, fun _ => rfl, hc.s⟩

def OnceQ (B : List Int) (H : Heap) (cb : Nat) (r : SV) (H' : Heap) : Prop := ∃ b : Bool, r = .val (.bool b) ∧ CurS B H cb H'
theorem OnceQ.ne {B : List Int} {H : Heap} {cb : Nat} (hc : Cur B H cb) : ∃ r H', OnceQ B H cb r H' := ⟨_, H, true, rfl, hc.s⟩
theorem Try.l1Once_ok (B : List Int) (hB : B.length ≤ 1048576) (n : Int) (hn : n ≤ 256) (H : Heap) (cb : Nat) (hc : Cur B H cb) : CallS Try.prog 126 [.optr cb 0, .val (.int .i64 n)] H (OnceQ B H cb) := by
  have w := Try.l1Below_ok B hB n hn H cb hc
  refine CallS.of_body Try.func126 rfl (by kernel_rfl) (by simp [Try.ntmps126]) ?_
  refine SW_of_vc Try.mixed _ _ _ (by kernel_rfl) ?_
  simp (disch := omega) only [Try.ntmps126, Try.results126, go_sem]
  refine w.callX ?_
  rintro r H' ⟨v, rfl, v0, v1, v2, hs⟩
  have hfin : ∀ b, OnceQ B H cb (.val (.bool b)) H' := fun b => ⟨b, rfl, hs⟩
  simp (disch := omega) only [Try.ntmps126, Try.results126, go_sem]
  exact hfin _

def PickQ (B : List Int) (L : List Int) (H : Heap) (cb : Nat) (r : SV) (H' : Heap) : Prop := ∃ v : Int, r = .val (.int .i64 v) ∧ v ∈ L ∧ CurS B H cb H'
theorem PickQ.ne {B L : List Int} {H : Heap} {cb : Nat} (hL : L ≠ []) (hc : Cur B H cb) : ∃ r H', PickQ B L H cb r H' := ⟨_, H, L.head hL, rfl, List.head_mem hL, hc.s⟩
theorem Try.l1Pick_ok (B : List Int) (hB : B.length ≤ 1048576) (L : List Int) (hL : L ≠ []) (hl : L.length ≤ 256) (H : Heap) (cb lb : Nat) (ex e2 : Bool) (hc : Cur B H cb) (hb : H.map lb = some ⟨ints L, e2⟩) (hne : lb ≠ cb) :
    CallS Try.prog 109 [.optr cb 0, .own lb 0 L.length L.length 1 ex] H (PickQ B L H cb) := by
  have w := Try.l1Below_ok B hB L.length (by omega) H cb hc
  have hl0 : 0 < L.length := List.length_pos_iff.2 hL
  refine CallS.of_body Try.func109 rfl (by kernel_rfl) (by simp [Try.ntmps109]) ?_
  refine SW_of_vc Try.mixed _ _ _ (by kernel_rfl) ?_
  simp (disch := omega) only [Try.ntmps109, Try.results109, go_sem]
  refine w.callX ?_
  rintro r H' ⟨v, rfl, v0, v1, v2, hs⟩
  have v1 := v1 (by omega)
  obtain ⟨x, rfl⟩ := Int.eq_ofNat_of_zero_le v0
  have hx : x < L.length := by omega
  have hm : H'.map lb = some ⟨ints L, e2⟩ := by rw [hs.map hne, hb]
  have gx : (ints L)[x]? = some (.val (.int .i64 (L.getD x 0))) := ints_get hx
  have hfin : PickQ B L H cb (.val (.int .i64 (L.getD x 0))) H' := ⟨_, rfl, by simp [hx], hs⟩
  simp (disch := omega) only [Try.ntmps109, Try.results109, go_sem, hm, gx]
  exact hfin
end Go.Sh

/-
  Regions that draw their order, further: operations that allocate, in more orders than one.
-/
namespace Go.Sh
set_option linter.unusedSimpArgs false
set_option linter.unusedVariables false
open Go Go.RowKit
variable {P : Program}

theorem legS_uniq {ops : Array Oper} {S : Heap → Prop} {d : Bool} {o : Oper} {σ : Slots} {H : Heap} {Q Q' : SV → Heap → Prop} (hu : userCall o.op = none) (hS : S H) (h : legS P ops S d o σ H Q) (h' : legS P ops S d o σ H Q') : ∀ r H1, Q r H1 ↔ Q' r H1 := by
  cases d with
  | true =>
    simp only [legS, if_true] at h h'
    rcases h.2 with ⟨g, a, h1, h2⟩ | ⟨g, h2⟩
    · rcases h'.2 with ⟨g', b, k1, k2⟩ | ⟨g', _⟩
      · have := (h1 H hS).symm.trans (k1 H hS)
        have e : a = b := by simpa using this
        intro r H1; rw [h2, k2, e]
      · rw [g] at g'; simp at g'
    · rcases h'.2 with ⟨g', _⟩ | ⟨g', k2⟩
      · rw [g] at g'; simp at g'
      · intro r H1; rw [h2, k2]
  | false =>
    simp only [legS, Bool.false_eq_true, if_false, leg, hu] at h h'
    rcases h.2 with ⟨g, a, Ha, h1, h2⟩ | ⟨g, h2⟩
    · rcases h'.2 with ⟨g', b, Hb, k1, k2⟩ | ⟨g', _⟩
      · have := h1.symm.trans k1
        simp only [Option.some.injEq, Prod.mk.injEq] at this
        intro r H1; rw [h2, k2, this.1, this.2]
      · rw [g] at g'; simp at g'
    · rcases h'.2 with ⟨g', _⟩ | ⟨g', k2⟩
      · rw [g] at g'; simp at g'
      · intro r H1; rw [h2, k2]
theorem stepS_fam {n : Nat} {ops : Array Oper} {S : Heap → Prop} {d : Bool} {o : Oper} {s : St} {ι : Type} {F : ι → Prop} {A : ι → St → Prop} (hu : userCall o.op = none) (hS : S s.H) {l0 : ι} (h0 : F l0) (h : ∀ l, F l → stepS P n ops S d o s (A l)) :
    stepS P n ops S d o s (fun s' => ∀ l, F l → A l s') := by
  obtain ⟨hd, Q, hl, hk⟩ := h l0 h0
  refine ⟨hd, Q, hl, fun r H' hq => ⟨(hk r H' hq).1, fun l hf => ?_⟩⟩
  obtain ⟨_, Q', hl', hk'⟩ := h l hf
  exact (hk' r H' ((legS_uniq hu hS hl hl' r H').1 hq)).2

def pOk (D : List Nat) (ops : Array Oper) (k i : Nat) : Bool := match ops[k]?, ops[i]? with
  | some x, some y => waitsT ops 6 y k || pairOkS D ops k i x y
  | _, _ => false
structure Fam (D : List Nat) (ops : Array Oper) (hv : Nat → Bool) (Ls : List (List Nat)) : Prop where
  edge : ∀ (i : Nat) (y : Oper), ops[i]? = some y → ∀ e ∈ y.after, Region.binds .any e = true → e.on < i
  user : ∀ (i : Nat) (y : Oper), ops[i]? = some y → userCall y.op = none
  nd : ∀ l ∈ Ls, l.Nodup
  bd : ∀ l ∈ Ls, ∀ i ∈ l, i < ops.size
  all : ∀ l ∈ Ls, ∀ i, i < ops.size → i ∈ l
  pw : ∀ l ∈ Ls, l.Pairwise (fun k i => (hv k = true ∧ hv i = true) ∨ pOk D ops k i = true)
  ext : ∀ l ∈ Ls, ∀ m i, i < ops.size → hv i = true → i ∉ (l.filter hv).take m → (∃ k, k < ops.size ∧ hv k = true ∧ k ∉ (l.filter hv).take m ∧ ∃ y : Oper, ops[i]? = some y ∧ waitsT ops 6 y k = true) ∨ ∃ l' ∈ Ls, ((l.filter hv).take m ++ [i]) <+: l'.filter hv

def unl (listed : Array Bool) (i : Nat) : Bool := !listed.getD i true
theorem unl_set {listed : Array Bool} {i : Nat} (hi : i < listed.size) (a : Nat) : unl (listed.setIfInBounds i true) a = (unl listed a && decide (a ≠ i)) := by
  unfold unl
  by_cases h : a = i
  · subst h; simp [Array.getD_eq_getD_getElem?, hi]
  · rw [Array.getD_eq_getD_getElem?, Array.getElem?_setIfInBounds_ne (Ne.symm h), ← Array.getD_eq_getD_getElem?]; simp [h]
theorem filter_set {listed : Array Bool} {i : Nat} (hi : i < listed.size) {l l1 l2 : List Nat} (hnd : l.Nodup) (h : l.filter (unl listed) = l1 ++ i :: l2) : l.filter (unl (listed.setIfInBounds i true)) = l1 ++ l2 ∧ i ∉ l1 ∧ i ∉ l2 := by
  have hn : (l1 ++ i :: l2).Nodup := by rw [← h]; exact hnd.filter _
  rw [List.nodup_append] at hn
  obtain ⟨_, n2, n3⟩ := hn
  have i1 : i ∉ l1 := fun hm => n3 i hm i (by simp) rfl
  have i2 : i ∉ l2 := (List.nodup_cons.1 n2).1
  refine ⟨?_, i1, i2⟩
  have e : (fun a => unl (listed.setIfInBounds i true) a) = fun a => (unl listed a && decide (a ≠ i)) := funext fun a => unl_set hi a
  have : l.filter (unl (listed.setIfInBounds i true)) = (l.filter (unl listed)).filter (fun a => decide (a ≠ i)) := by
    rw [List.filter_filter]
    congr 1
    funext a; rw [unl_set hi, Bool.and_comm]
  rw [this, h, List.filter_append, List.filter_cons]
  simp only [ne_eq, not_true_eq_false, decide_false, Bool.false_eq_true, if_false]
  rw [List.filter_eq_self.2 (fun a ha => by simp; rintro rfl; exact i1 ha), List.filter_eq_self.2 (fun a ha => by simp; rintro rfl; exact i2 ha)]
theorem left_nil_filter {n : Nat} {listed : Array Bool} (hs : listed.size = n) (h : left n listed = []) (l : List Nat) : l.filter (unl listed) = [] := by
  rw [List.filter_eq_nil_iff]
  intro a _
  by_cases ha : a < n
  · have : a ∉ left n listed := by rw [h]; simp
    intro hu
    exact this (List.mem_filter.2 ⟨by simpa using ha, hu⟩)
  · simp [unl, Array.getD_eq_getD_getElem?, Array.getElem?_eq_none (by omega : listed.size ≤ a)]

theorem wpAny_of_fam {n : Nat} {ops : Array Oper} {S : Heap → Prop} {D : List Nat} {Q : Exit → Act → World → Prop} {K : St → Prop} {hv : Nat → Bool} {Ls : List (List Nat)} (hok : Fam D ops hv Ls) : ∀ (fuel : Nat) (listed : Array Bool) (p : List Nat) (s : St) (j : JMap) (a : Act) (w : World), listed.size = ops.size → ClosedL ops listed →
    (left ops.size listed).length ≤ fuel → S s.H → (∃ l ∈ Ls, p <+: l.filter hv) → (∀ i, i < ops.size → hv i = true → (listed.getD i true = true ↔ i ∈ p)) →
    (∀ l, l ∈ Ls ∧ p <+: l.filter hv → opsS P n ops S D (l.filter (unl listed)) s K) → SAll n j s a w → (∀ j' s' a' w', SAll n j' s' a' w' → Nx j s.H w j' s'.H w' → K s' → Q .normal a' w') → wpAny P .any ops Q fuel listed a w := by
  have ready_nil : ∀ listed : Array Bool, listed.size = ops.size → Region.ready .any ops listed = [] → left ops.size listed = [] := by
    intro listed hs hr
    cases hl : left ops.size listed with
    | nil => rfl
    | cons i rest =>
      exfalso
      have hmem : i ∈ left ops.size listed := by rw [hl]; simp
      have hi := List.mem_filter.1 hmem
      have hlt : i < ops.size := by simpa using hi.1
      have hsmall : ∀ k, k < i → listed.getD k true = true := by
        intro k hk
        cases hk' : listed.getD k true with
        | true => rfl
        | false =>
          exfalso
          have hkm : k ∈ left ops.size listed := List.mem_filter.2 ⟨by simp; omega, by simp [hk']⟩
          have hsorted : (left ops.size listed).Pairwise (· < ·) := (List.pairwise_lt_range).filter _
          rw [hl] at hsorted hkm
          rcases List.mem_cons.1 hkm with rfl | h
          · omega
          · have := (List.pairwise_cons.1 hsorted).1 k h
            omega
      have : i ∈ Region.ready .any ops listed := by
        refine List.mem_filter.2 ⟨by simpa using hlt, ?_⟩
        rw [Array.getElem?_eq_getElem hlt]
        simp only [Option.map_some, Option.getD_some, Bool.and_eq_true]
        refine ⟨hi.2, Array.all_eq_true.2 (fun m hm => ?_)⟩
        cases hb : Region.binds .any (ops[i]).after[m] with
        | false => simp
        | true =>
          have h1 := hok.edge i ops[i] (Array.getElem?_eq_getElem hlt) _ (Array.getElem_mem hm) hb
          have h2 := hsmall _ h1
          have h3 : listed.getD ((ops[i]).after[m]).on false = true := by
            rw [Array.getD_eq_getD_getElem?, Array.getElem?_eq_getElem (by omega)] at h2 ⊢
            simpa using h2
          simp [h3]
      rw [hr] at this
      simp at this
  intro fuel
  induction fuel with
  | zero =>
    intro listed p s j a w hs hcl hf hS hne hp hrun ha hq
    have hl : left ops.size listed = [] := by simpa using hf
    obtain ⟨l, hlm, hlp⟩ := hne
    have hrun := hrun l ⟨hlm, hlp⟩
    rw [left_nil_filter hs hl] at hrun
    simp only [opsS] at hrun
    refine ⟨?_, hq j s a w ha (Nx.refl _ _ _) hrun⟩
    cases hr : Region.ready .any ops listed with
    | nil => rfl
    | cons i rest =>
      exfalso
      have hm : i ∈ Region.ready .any ops listed := by rw [hr]; simp
      have hm := List.mem_filter.1 hm
      simp only [Bool.and_eq_true] at hm
      have : i ∈ left ops.size listed := List.mem_filter.2 ⟨hm.1, hm.2.1⟩
      rw [hl] at this; simp at this
  | succ fuel ih =>
    intro listed p s j a w hs hcl hf hS hne hp hrun ha hq
    refine ⟨fun hr => ?_, fun i hi => ?_⟩
    · obtain ⟨l, hlm, hlp⟩ := hne
      have hrun := hrun l ⟨hlm, hlp⟩
      rw [left_nil_filter hs (ready_nil listed hs hr)] at hrun
      simp only [opsS] at hrun
      exact hq j s a w ha (Nx.refl _ _ _) hrun
    · have hm := List.mem_filter.1 hi
      simp only [Bool.and_eq_true] at hm
      have hlt : i < ops.size := by simpa using hm.1
      have hno : listed.getD i true = false := by simpa using hm.2.1
      have hy : ops[i]? = some ops[i] := Array.getElem?_eq_getElem hlt
      have hu := hok.user i _ hy
      have hdir : ∀ e ∈ (ops[i]).after, Region.binds .any e = true → listed.getD e.on false = true := by
        intro e he hb
        have hall := hm.2.2
        rw [hy] at hall
        simp only [Option.map_some, Option.getD_some] at hall
        obtain ⟨m, hm', rfl⟩ := Array.mem_iff_getElem.1 he
        have := Array.all_eq_true.1 hall m hm'
        rw [hb] at this
        simpa only [Bool.not_true, Bool.false_or] using this
      have hset : ∀ m, listed.getD m false = true → (listed.setIfInBounds i true).getD m false = true := by
        intro m h
        by_cases hmi : m = i
        · subst hmi
          simp [Array.getD_eq_getD_getElem?, hs, hlt]
        · rw [Array.getD_eq_getD_getElem?] at h ⊢
          rw [Array.getElem?_setIfInBounds_ne (Ne.symm hmi)]
          exact h
      have hcl' : ClosedL ops (listed.setIfInBounds i true) := by
        intro m y hmy hlm e he hb
        by_cases hmi : m = i
        · subst hmi
          rw [hy] at hmy
          simp at hmy
          subst hmy
          exact hset _ (hdir e he hb)
        · refine hset _ (hcl m y hmy ?_ e he hb)
          rw [Array.getD_eq_getD_getElem?] at hlm ⊢
          rwa [Array.getElem?_setIfInBounds_ne (Ne.symm hmi)] at hlm
      have hwait : ∀ k, k < ops.size → unl listed k = true → waitsT ops 6 ops[i] k = true → False := fun k hk hul hw => by
        have := waitsT_listed hcl 6 _ hdir hw
        simp only [unl, Bool.not_eq_true'] at hul
        rw [Array.getD_eq_getD_getElem?, Array.getElem?_eq_getElem (by omega)] at this hul
        simp at this hul
        rw [this] at hul; simp at hul
      have hsz : i < listed.size := by omega
      -- the lists that go on
      obtain ⟨p', hp', hne', hmov⟩ : ∃ p', (∀ k, k < ops.size → hv k = true → ((listed.setIfInBounds i true).getD k true = true ↔ k ∈ p')) ∧ (∃ l ∈ Ls, p' <+: l.filter hv) ∧
          ∀ l, l ∈ Ls ∧ p' <+: l.filter hv → (p <+: l.filter hv) ∧ ∀ l1 l2, l.filter (unl listed) = l1 ++ i :: l2 → hv i = true → ∀ k ∈ l1, hv k = false := by
        have hlk : ∀ k, (listed.setIfInBounds i true).getD k true = true ↔ (listed.getD k true = true ∨ k = i) := fun k => by
          have := unl_set hsz k
          simp only [unl] at this
          by_cases e : k = i
          · subst e; simp at this; simp [this]
          · simp only [e, ne_eq, not_false_eq_true, decide_true, Bool.and_true, Bool.not_inj_iff] at this
            rw [this]; simp [e]
        by_cases hvi : hv i = true
        · have hip : i ∉ p := fun h => by
            have := (hp i hlt hvi).2 h
            rw [hno] at this; cases this
          obtain ⟨l, hlm, hlp⟩ := hne
          have hpt : (l.filter hv).take p.length = p := (List.prefix_iff_eq_take.1 hlp).symm
          have hx := hok.ext l hlm p.length i hlt hvi (by rw [hpt]; exact hip)
          rw [hpt] at hx
          rcases hx with ⟨k, hk1, hk2, hk3, y, hy', hk4⟩ | ⟨l', hl', hpre⟩
          · exfalso
            rw [hy] at hy'
            simp at hy'; subst hy'
            refine hwait k hk1 ?_ hk4
            have : ¬ listed.getD k true = true := fun h => hk3 ((hp k hk1 hk2).1 h)
            simp only [unl]; simpa using this
          · refine ⟨p ++ [i], fun k hk hvk => ?_, ⟨l', hl', hpre⟩, fun l ⟨hl, hpl⟩ => ⟨(List.prefix_append p [i]).trans hpl, fun l1 l2 he _ k hk => ?_⟩⟩
            · rw [hlk, List.mem_append, List.mem_singleton, hp k hk hvk]
            · cases hvk : hv k with
              | false => rfl
              | true =>
                exfalso
                obtain ⟨q, hq'⟩ := hpl
                have e1 : (l.filter (unl listed)).filter hv = (l.filter hv).filter (unl listed) := by
                  rw [List.filter_filter, List.filter_filter]; congr 1; funext a; rw [Bool.and_comm]
                obtain ⟨_, i1, i2⟩ := filter_set hsz (hok.nd l hl) he
                have hpn : p.filter (unl listed) = [] := by
                  rw [List.filter_eq_nil_iff]
                  intro b hb
                  have hbl : b ∈ l.filter hv := by rw [← hq']; simp [hb]
                  by_cases hbs : b < ops.size
                  · have := (hp b hbs (List.mem_filter.1 hbl).2).2 hb
                    simp only [unl]; rw [this]; simp
                  · simp [unl, Array.getD_eq_getD_getElem?, Array.getElem?_eq_none (by omega : listed.size ≤ b)]
                have hui : unl listed i = true := by simp [unl, hno]
                rw [he, ← hq', List.filter_append, List.filter_append, List.filter_append, hpn, List.filter_cons, List.filter_cons, if_pos hvi, if_pos hui] at e1
                simp only [List.filter_nil, List.nil_append, List.cons_append] at e1
                have hkl : k ∈ l1.filter hv := List.mem_filter.2 ⟨hk, hvk⟩
                cases hc : l1.filter hv with
                | nil => rw [hc] at hkl; simp at hkl
                | cons b bs =>
                  rw [hc] at e1
                  simp only [List.cons_append, List.cons.injEq] at e1
                  have : b ∈ l1.filter hv := by rw [hc]; simp
                  rw [e1.1] at this
                  exact i1 (List.mem_filter.1 this).1
        · refine ⟨p, fun k hk hvk => ?_, hne, fun l ⟨hl, hpl⟩ => ⟨hpl, fun l1 l2 he h => absurd h hvi⟩⟩
          rw [hlk, ← hp k hk hvk]
          constructor
          · rintro (h | rfl)
            · exact h
            · exact absurd hvk hvi
          · exact .inl
      have hstep : ∀ l, l ∈ Ls ∧ p' <+: l.filter hv → stepS P n ops S (hasD D i) ops[i] s (fun s' => opsS P n ops S D (l.filter (unl (listed.setIfInBounds i true))) s' K) := by
        intro l hl
        obtain ⟨hpl, hm2⟩ := hmov l hl
        have hr := hrun l ⟨hl.1, hpl⟩
        have him : i ∈ l.filter (unl listed) := List.mem_filter.2 ⟨hok.all l hl.1 i hlt, by simp [unl, hno]⟩
        obtain ⟨l1, l2, he⟩ := List.append_of_mem him
        obtain ⟨e2, i1, i2⟩ := filter_set hsz (hok.nd l hl.1) he
        have hpw : (l1 ++ i :: l2).Pairwise (fun k i => (hv k = true ∧ hv i = true) ∨ pOk D ops k i = true) := by rw [← he]; exact (hok.pw l hl.1).filter _
        rw [he] at hr
        have hfront := opsS_front hy l1 l2 s hS (fun k hk x hx => by
          have h1 := (List.pairwise_append.1 hpw).2.2 k hk i (by simp)
          have hku : unl listed k = true := by
            have : k ∈ l.filter (unl listed) := by rw [he]; simp [hk]
            exact (List.mem_filter.1 this).2
          have hks : k < ops.size := by
            rcases Nat.lt_or_ge k ops.size with h | h
            · exact h
            · rw [Array.getElem?_eq_none h] at hx; simp at hx
          rcases h1 with ⟨h1, h2⟩ | h1
          · have := hm2 l1 l2 he h2 k hk
            rw [h1] at this; cases this
          · unfold pOk at h1
            rw [hx, hy] at h1
            simp only [Bool.or_eq_true] at h1
            rcases h1 with h1 | h1
            · exact (hwait k hks hku h1).elim
            · exact h1) hr
        simp only [opsS] at hfront
        obtain ⟨y, hy', hst⟩ := hfront
        rw [hy] at hy'
        simp at hy'; subst hy'
        rw [e2]
        exact hst
      obtain ⟨l0, hl0, hl0p⟩ := hne'
      have hall := stepS_fam (F := fun l => l ∈ Ls ∧ p' <+: l.filter hv) (A := fun l s' => opsS P n ops S D (l.filter (unl (listed.setIfInBounds i true))) s' K) hu hS (l0 := l0) ⟨hl0, hl0p⟩ hstep
      refine stepS_real hS hy hall ha (fun j' s1 a' w' h1 h2 hS1 hrest => ?_)
      refine ih (listed.setIfInBounds i true) p' s1 j' a' w' (by simpa using hs) hcl' ?_ hS1 ⟨l0, hl0, hl0p⟩ hp' hrest h1 (fun j'' s'' a'' w'' g1 g2 g3 => hq j'' s'' a'' w'' g1 (h2.trans g2) g3)
      obtain ⟨l1, l2, e1, e2, e3⟩ := left_split hs hlt hno
      rw [e2]
      rw [e1] at hf
      simp at hf ⊢
      omega

def pwB (R : Nat → Nat → Bool) : List Nat → Bool
  | [] => true
  | k :: l => l.all (R k) && pwB R l
theorem pwB_of {R : Nat → Nat → Bool} : ∀ {l : List Nat}, pwB R l = true → l.Pairwise (fun a b => R a b = true)
  | [], _ => .nil
  | k :: l, h => by
    simp only [pwB, Bool.and_eq_true, List.all_eq_true] at h
    exact .cons h.1 (pwB_of h.2)
def wt (ops : Array Oper) (i k : Nat) : Bool := match ops[i]? with | some y => waitsT ops 6 y k | none => false
/-- Orders enough: all orders of the named operations that can come, one list for each; all others change places. -/
def famOk (D : List Nat) (ops : Array Oper) (hv : List Nat) (Ls : List (List Nat)) : Bool :=
  (List.range ops.size).all (fun i => match ops[i]? with | some y => (y.after.all fun e => !Region.binds .any e || decide (e.on < i)) && (userCall y.op).isNone | none => true) &&
  Ls.all (fun l => pwB (fun a b => decide (a ≠ b)) l && l.all (fun i => decide (i < ops.size)) && (List.range ops.size).all (fun i => l.contains i) && pwB (fun k i => (hv.contains k && hv.contains i) || pOk D ops k i) l) &&
  Ls.all (fun l => (List.range ((l.filter hv.contains).length + 1)).all fun m => hv.all fun i => ((l.filter hv.contains).take m).contains i || hv.any (fun k => decide (k < ops.size) && (!((l.filter hv.contains).take m).contains k && wt ops i k)) || Ls.any fun l' => (((l.filter hv.contains).take m) ++ [i]).isPrefixOf (l'.filter hv.contains))
theorem fam_of {D : List Nat} {ops : Array Oper} {hv : List Nat} {Ls : List (List Nat)} (h : famOk D ops hv Ls = true) : Fam D ops hv.contains Ls := by
  simp only [famOk, Bool.and_eq_true] at h
  obtain ⟨⟨h1, h2⟩, h3⟩ := h
  have one : ∀ (i : Nat) (y : Oper), ops[i]? = some y → (∀ e ∈ y.after, Region.binds .any e = true → e.on < i) ∧ userCall y.op = none := by
    intro i y hy
    have hi : i < ops.size := by
      rcases Nat.lt_or_ge i ops.size with h | h
      · exact h
      · rw [Array.getElem?_eq_none h] at hy; simp at hy
    have := List.all_eq_true.1 h1 i (by simpa using hi)
    rw [hy] at this
    simp only [Bool.and_eq_true] at this
    refine ⟨fun e he hb => ?_, by simpa using this.2⟩
    have h1 := Array.all_eq_true.1 this.1
    obtain ⟨m, hm, rfl⟩ := Array.mem_iff_getElem.1 he
    have := h1 m hm
    simpa [hb] using this
  have two : ∀ l ∈ Ls, _ := List.all_eq_true.1 h2
  refine ⟨fun i y hy => (one i y hy).1, fun i y hy => (one i y hy).2, fun l hl => ?_, fun l hl i hi => ?_, fun l hl i hi => ?_, fun l hl => ?_, fun l hl m i hi hvi hnot => ?_⟩
  · have := two l hl
    simp only [Bool.and_eq_true] at this
    exact (pwB_of this.1.1.1).imp (fun h => by simpa using h)
  · have := two l hl
    simp only [Bool.and_eq_true] at this
    have := List.all_eq_true.1 this.1.1.2 i hi
    simpa using this
  · have := two l hl
    simp only [Bool.and_eq_true] at this
    have := List.all_eq_true.1 this.1.2 i (by simpa using hi)
    simpa using this
  · have := two l hl
    simp only [Bool.and_eq_true] at this
    exact (pwB_of this.2).imp (fun h => by simpa only [Bool.or_eq_true, Bool.and_eq_true] using h)
  · have key : ∃ m', (l.filter hv.contains).take m = (l.filter hv.contains).take m' ∧ m' < (l.filter hv.contains).length + 1 := by
      rcases Nat.lt_or_ge m ((l.filter hv.contains).length + 1) with h | h
      · exact ⟨m, rfl, h⟩
      · exact ⟨(l.filter hv.contains).length, by rw [List.take_of_length_le (by omega), List.take_length], by omega⟩
    obtain ⟨m', e, hm'⟩ := key
    rw [e] at hnot ⊢
    have := List.all_eq_true.1 h3 l hl
    have := List.all_eq_true.1 this m' (by simpa using hm')
    have := List.all_eq_true.1 this i (by simpa using hvi)
    simp only [Bool.or_eq_true] at this
    rcases this with (this | this) | this
    · exact absurd (by simpa using this) hnot
    · obtain ⟨k, hk, hk2⟩ := List.any_eq_true.1 this
      simp only [Bool.and_eq_true, decide_eq_true_eq, Bool.not_eq_true'] at hk2
      obtain ⟨k1, k2, k3⟩ := hk2
      refine .inl ⟨k, k1, by simpa using hk, fun hm => ?_, ?_⟩
      · rw [List.contains_iff_mem.2 hm] at k2; cases k2
      · unfold wt at k3
        split at k3
        · exact ⟨_, by assumption, k3⟩
        · cases k3
    · obtain ⟨l', hl', hp⟩ := List.any_eq_true.1 this
      exact .inr ⟨l', hl', List.isPrefixOf_iff_prefix.1 hp⟩

/-! ### As one steps through it -/
def atN : List Oper → Nat → (Oper → Prop) → Prop
  | [], _, _ => False
  | o :: _, 0, f => f o
  | _ :: l, k + 1, f => atN l k f
theorem atN_zero (o : Oper) (l : List Oper) (f : Oper → Prop) : atN (o :: l) 0 f = f o := rfl
theorem atN_succ (o : Oper) (l : List Oper) (k : Nat) (f : Oper → Prop) : atN (o :: l) (k + 1) f = atN l k f := rfl
theorem atN_of : ∀ {l : List Oper} {k : Nat} {f : Oper → Prop}, atN l k f → ∃ o, l[k]? = some o ∧ f o
  | [], _, _, h => h.elim
  | o :: _, 0, _, h => ⟨o, rfl, h⟩
  | _ :: l, k + 1, _, h => by
    obtain ⟨o, h1, h2⟩ := atN_of (l := l) h
    exact ⟨o, by simpa using h1, h2⟩
def opsL (P : Program) (n : Nat) (l : List Oper) (S : Heap → Prop) (D : List Nat) : List Nat → St → (St → Prop) → Prop
  | [], s, K => K s
  | i :: is, s, K => atN l i (fun o => opsNS P n l.toArray S D i [o] s (fun s' => opsL P n l S D is s' K))
theorem opsL_nil (n : Nat) (l : List Oper) (S : Heap → Prop) (D : List Nat) (s : St) (K : St → Prop) : opsL P n l S D [] s K = K s := rfl
theorem opsL_cons (n : Nat) (l : List Oper) (S : Heap → Prop) (D : List Nat) (i : Nat) (is : List Nat) (s : St) (K : St → Prop) : opsL P n l S D (i :: is) s K = atN l i (fun o => opsNS P n l.toArray S D i [o] s (fun s' => opsL P n l S D is s' K)) := rfl
theorem opsNS_one {n : Nat} {ops : Array Oper} {S : Heap → Prop} {D : List Nat} {K : St → Prop} {o : Oper} {i : Nat} {s : St} (hS : S s.H) (h : opsNS P n ops S D i [o] s K) : stepS P n ops S (hasD D i) o s K := by
  simp only [opsNS] at h
  split at h
  · rename_i hg
    split at h
    · rename_i hd
      split at h
      · rename_i t x hop
        obtain ⟨hdk, r, h1, h2⟩ := h
        rw [hd]
        refine ⟨hdk, fun r1 H1 => r1 = r ∧ H1 = s.H, ?_, ?_⟩
        · simp only [legS, if_true]
          refine ⟨⟨r, s.H, rfl, rfl⟩, .inl ⟨by simp [gst, hg], r, fun H2 h3 => ?_, fun _ _ => Iff.rfl⟩⟩
          have h4 : sload P H2 t (sval s.σ x) = some r := h1 H2 h3
          rw [hop]
          simp only [sop, h4]
        · rintro _ _ ⟨rfl, rfl⟩
          exact ⟨hS, h2⟩
      · rename_i t x lo hi mx hop
        obtain ⟨hdk, r, h1, h2⟩ := h
        rw [hd]
        refine ⟨hdk, fun r1 H1 => r1 = r ∧ H1 = s.H, ?_, ?_⟩
        · simp only [legS, if_true]
          refine ⟨⟨r, s.H, rfl, rfl⟩, .inl ⟨by simp [gst, hg], r, fun H2 h3 => ?_, fun _ _ => Iff.rfl⟩⟩
          have h4 : sslice P H2 t (sval s.σ x) (lo.map (sval s.σ)) (hi.map (sval s.σ)) (mx.map (sval s.σ)) = some r := h1 H2 h3
          rw [hop]
          simp only [sop, h4]
        · rintro _ _ ⟨rfl, rfl⟩
          exact ⟨hS, h2⟩
      · exact h.elim
    · rename_i hd
      have hd : hasD D i = false := by simpa using hd
      rw [hd]
      split at h
      · exact stepN_S (stepN_mono (opN_leg (by simp [gst, hg]) h) fun s' g => ⟨g.1, g.2⟩)
      · rename_i hh
        have hh : heavy o.op = false := by simpa using hh
        refine stepN_S (stepN_mono (stepN_keep hh (opN_leg (by simp [gst, hg]) h)) fun s' g => ?_)
        have hS' : S s'.H := by rw [g.1]; exact hS
        exact ⟨hS', g.2⟩
  · exact h.elim
theorem opsS_of_opsL {n : Nat} {l : List Oper} {S : Heap → Prop} {D : List Nat} {K : St → Prop} : ∀ (is : List Nat) (s : St), S s.H → opsL P n l S D is s K → opsS P n l.toArray S D is s K
  | [], s, _, h => h
  | i :: is, s, hS, h => by
    rw [opsL_cons] at h
    obtain ⟨o, h1, h2⟩ := atN_of h
    exact ⟨o, by simpa using h1, stepS_mono (opsNS_one hS h2) fun s' hS' g => opsS_of_opsL is s' hS' g⟩
def opsLs (P : Program) (n : Nat) (l : List Oper) (S : Heap → Prop) (D : List Nat) : List (List Nat) → St → (St → Prop) → Prop
  | [], _, _ => True
  | is :: Ls, s, K => opsL P n l S D is s K ∧ opsLs P n l S D Ls s K
theorem opsLs_mem {n : Nat} {l : List Oper} {S : Heap → Prop} {D : List Nat} {s : St} {K : St → Prop} : ∀ {Ls : List (List Nat)}, opsLs P n l S D Ls s K → ∀ is ∈ Ls, opsL P n l S D is s K
  | [], _, is, h => by simp at h
  | is0 :: Ls, h, is, hm => by
    rcases List.mem_cons.1 hm with rfl | hm
    · exact h.1
    · exact opsLs_mem h.2 is hm
/-- A region that draws its order, operations that allocate among them: D the reads of what nothing changes, hv the operations whose orders matter, Ls one order of all for each order of these. -/
theorem SW.regionP {n : Nat} {id : Nat} {l : List Oper} {Q : Exit → St → Prop} {s : St} (S : Heap → Prop) (D hv : List Nat) (l0 : List Nat) (Ls : List (List Nat)) (hm : P.follows .mixedOrders = true) (hok : famOk D l.toArray hv (l0 :: Ls) = true) (hS : S s.H) (h : opsLs P n l S D (l0 :: Ls) s (Q .normal)) : SW P n (.region id l.toArray true) Q s := by
  intro j a w ha
  have hd : SAll n j s a w.drew := ⟨ha.rel.drew, ha.slots.nx ha.rel (Nx.drew j s.H w), ha.size, ha.defers⟩
  refine wp_region_any hm ?_
  have hleft : left l.toArray.size (Array.replicate l.toArray.size false) = List.range' 0 l.length := by
    unfold left
    rw [← List.range_eq_range']
    simp only [List.size_toArray]
    apply List.filter_eq_self.2
    intro k hk
    simp at hk
    simp [Array.getD_eq_getD_getElem?, hk]
  have hfam := fam_of hok
  refine wpAny_of_fam (K := Q .normal) hfam l.toArray.size _ [] s j a w.drew (by simp) (fun m y _ h => by simp [Array.getD_eq_getD_getElem?, Array.getElem?_replicate] at h; split at h <;> simp at h) (by rw [hleft]; simp) hS ⟨l0, by simp, List.nil_prefix⟩ ?_ ?_ hd (fun j' s' a' w' h1 h2 h3 => ⟨j', s', h1, (Nx.drew j s.H w).trans h2, h3⟩)
  · intro i hi _
    simp at hi
    simp [Array.getD_eq_getD_getElem?, hi]
  · rintro is ⟨hm, _⟩
    have hr := opsS_of_opsL (P := P) is s hS (opsLs_mem h is hm)
    have e : is.filter (unl (Array.replicate l.toArray.size false)) = is := List.filter_eq_self.2 fun k hk => by
      have := hfam.bd is hm k hk
      simp at this
      simp [unl, Array.getD_eq_getD_getElem?, this]
    rw [e]; exact hr
theorem LoadS.rptr {t : TypeId} {cs : List SV} {off : Nat} {S : Heap → Prop} {k : SV → Prop} (h : @bindV (sload P (hp [] 0) t (.rptr cs off)) ⟨k⟩) : @LoadS P t (.rptr cs off) ⟨S, k⟩ := by
  cases hs : sload P (hp [] 0) t (.rptr cs off) with
  | none => rw [hs] at h; exact h.elim
  | some r => rw [hs] at h; exact ⟨r, fun H2 _ => by rw [← hs]; rfl, h⟩
theorem SliceS.own {t : TypeId} {b off m cap sz : Nat} {ex : Bool} {lo hi mx : Option SV} {S : Heap → Prop} {k : SV → Prop} (h : @bindV (sslice P (hp [] 0) t (.own b off m cap sz ex) lo hi mx) ⟨k⟩) : @SliceS P t (.own b off m cap sz ex) lo hi mx ⟨S, k⟩ := by
  cases hs : sslice P (hp [] 0) t (.own b off m cap sz ex) lo hi mx with
  | none => rw [hs] at h; exact h.elim
  | some r => rw [hs] at h; exact ⟨r, fun H2 _ => by rw [← hs]; rfl, h⟩
attribute [go_sem ↓] opsL_nil opsL_cons atN_zero atN_succ
end Go.Sh

/-
  The order by degrees: of the reference.
-/
namespace Go.Sh
set_option linter.unusedSimpArgs false
set_option linter.unusedVariables false
open Go Go.Proofs

/-- The order, and the degrees so far. -/
def oI (M : List (List Int)) (i : Nat) : List Int := (dOrd M i).map fun x : Nat => (x : Int)
def dgs (M : List (List Int)) (i : Nat) : List Int := (List.range i).map (dg M)
theorem oI_len (M : List (List Int)) (i : Nat) : (oI M i).length = i := by simp [oI, dOrd_length]
theorem dgs_len (M : List (List Int)) (i : Nat) : (dgs M i).length = i := by simp [dgs]
theorem dgs_succ (M : List (List Int)) (i : Nat) : dgs M (i + 1) = dgs M i ++ [dg M i] := by simp [dgs, List.range_succ]
theorem oI_get (M : List (List Int)) {i p : Nat} (h : p < i) : (oI M i).getD p 0 = (((dOrd M i).getD p 0 : Nat) : Int) ∧ (dOrd M i).getD p 0 < i := by
  have hl : p < (dOrd M i).length := by rw [dOrd_length]; exact h
  constructor
  · simp [oI, hl]
  · have := dOrd_lt M i ((dOrd M i)[p]) (List.getElem_mem hl)
    simpa [hl] using this
theorem dgs_get (M : List (List Int)) {i x : Nat} (h : x < i) : (dgs M i).getD x 0 = dg M x := by simp [dgs, h]
theorem oI_succ (M : List (List Int)) (i : Nat) : oI M (i + 1) = (oI M i).take (down M (dOrd M i) (dg M i) i) ++ (i : Int) :: (oI M i).drop (down M (dOrd M i) (dg M i) i) := by
  rw [oI, dOrd]
  simp only [dOrd_length, List.map_append, List.map_cons, List.map_take, List.map_drop, oI]
theorem rep_zero0 (zs : List SV) : rep zs 0 = [] := rfl
set_option maxRecDepth 20000 in
set_option maxHeartbeats 8000000 in
theorem Try.specDeg_f (M : List (List Int)) (hM : M.length ≤ 1048576) (hR : ∀ i, i < M.length → (mrow M i).length ≤ 1048576) (hw : WM M) : FCall Try.prog 25 [rr M] (FlatRes M.length 1 (ints (oI M M.length))) := by
  have w1 := Try.specIsWM_ok M hM hR
  rw [isWM_t hw] at w1
  have hn8 := hw.1
  refine FCall.of_body Try.func25 rfl (by kernel_rfl) (by simp [Try.ntmps25]) ?_
  refine SW.seqW ⟨ofL [(0, rr M)], hp [] 0⟩ ?_ ?_
  · refine SW_of_vc Try.mixed _ _ _ (by kernel_rfl) ?_
    simp (disch := omega) only [Try.ntmps25, Try.results25, go_sem, rr_eq, rep_zero0]
    exact Wk.of (by simp only [go_sem, ↓List.forall_mem_cons, List.not_mem_nil, false_implies, implies_true, and_true, true_and, and_self, ri_eq, Int.natCast_add, Int.cast_ofNat_Int, rr_eq]; try simp) rfl
  refine SW.seqW ⟨ofL [(0, rr M), (3, .own 0 0 0 0 1 false)], hp [(0, ⟨[], false⟩)] 1⟩ ?_ ?_
  · refine SW_of_vc Try.mixed _ _ _ (by kernel_rfl) ?_
    simp (disch := omega) only [Try.ntmps25, Try.results25, go_sem, rr_eq, rep_zero0]
    exact Wk.of (by simp only [go_sem, ↓List.forall_mem_cons, List.not_mem_nil, false_implies, implies_true, and_true, true_and, and_self, ri_eq, Int.natCast_add, Int.cast_ofNat_Int, rr_eq]; try simp) rfl
  refine SW.seqW ⟨ofL [(0, rr M), (3, .own 0 0 0 0 1 false)], hp [(0, ⟨[], false⟩)] 1⟩ ?_ ?_
  · refine SW_of_vc Try.mixed _ _ _ (by kernel_rfl) ?_
    simp (disch := omega) only [Try.ntmps25, Try.results25, go_sem, rr_eq, rep_zero0]
    refine w1.callV 0 (viewL_cons_of (view_row) viewL_nil_of) ?_
    simp (disch := omega) only [Try.ntmps25, Try.results25, go_sem, rr_eq, rep_zero0]
    exact Wk.of (by simp only [go_sem, ↓List.forall_mem_cons, List.not_mem_nil, false_implies, implies_true, and_true, true_and, and_self, ri_eq, Int.natCast_add, Int.cast_ofNat_Int, rr_eq]; try simp) rfl
  refine SW.seqW ⟨ofL [(0, rr M), (3, .own 0 0 0 0 1 false), (4, .own 1 0 0 0 1 false)], hp [(1, ⟨[], false⟩), (0, ⟨[], false⟩)] 2⟩ ?_ ?_
  · refine SW_of_vc Try.mixed _ _ _ (by kernel_rfl) ?_
    simp (disch := omega) only [Try.ntmps25, Try.results25, go_sem, rr_eq, rep_zero0]
    exact Wk.of (by simp only [go_sem, ↓List.forall_mem_cons, List.not_mem_nil, false_implies, implies_true, and_true, true_and, and_self, ri_eq, Int.natCast_add, Int.cast_ofNat_Int, rr_eq]; try simp) rfl
  refine SW.seqI (fun y : Nat × Nat => ⟨ofL [(3, .own y.1 0 M.length M.length 1 false)], hp [(y.1, ⟨ints (oI M M.length), false⟩)] y.2⟩) (fun _ => True) ?_ ?_
  · refine SW.seqW ⟨ofL [(0, rr M), (3, .own 0 0 0 0 1 false), (4, .own 1 0 0 0 1 false), (5, .val (.int .i64 0))], hp [(1, ⟨[], false⟩), (0, ⟨[], false⟩)] 2⟩ ?_ ?_
    · refine SW_of_vc Try.mixed _ _ _ (by kernel_rfl) ?_
      simp (disch := omega) only [Try.ntmps25, Try.results25, go_sem, rr_eq, rep_zero0]
      exact Wk.of (by simp only [go_sem, ↓List.forall_mem_cons, List.not_mem_nil, false_implies, implies_true, and_true, true_and, and_self, ri_eq, Int.natCast_add, Int.cast_ofNat_Int, rr_eq]; try simp) rfl
    refine SW.block ?_
    refine LoopW.loop (fun y : Nat × Nat × Nat × Nat => ⟨ofL [(0, rr M), (3, .own y.2.1 0 y.1 y.1 1 false), (4, .own y.2.2.1 0 y.1 y.1 1 false), (5, .val (.int .i64 y.1))], hp [(y.2.2.1, ⟨ints (dgs M y.1), false⟩), (y.2.1, ⟨ints (oI M y.1), false⟩)] y.2.2.2⟩)
      (fun y => y.1 ≤ M.length ∧ y.2.1 < y.2.2.2 ∧ y.2.2.1 < y.2.2.2 ∧ y.2.1 ≠ y.2.2.1) (fun y => M.length - y.1) (0, 0, 1, 2) (by simp) (Wk.of (by simp only [go_sem, ↓List.forall_mem_cons, List.not_mem_nil, false_implies, implies_true, and_true, true_and, and_self, ri_eq, Int.natCast_add, Int.cast_ofNat_Int, rr_eq]; try simp) rfl) ?_
    rintro ⟨i, ob, db, nb⟩ ⟨hi, ho, hd, hne⟩
    simp only at hi ho hd hne
    refine SW.seqI (fun _ : Unit => ⟨ofL [(0, rr M), (3, .own ob 0 i i 1 false), (4, .own db 0 i i 1 false), (5, .val (.int .i64 i))], hp [(db, ⟨ints (dgs M i), false⟩), (ob, ⟨ints (oI M i), false⟩)] nb⟩) (fun _ => i < M.length) ?_ ?_
    · refine SW_of_vc Try.mixed _ _ _ (by kernel_rfl) ?_
      by_cases hlt : i < M.length
      · simp (disch := omega) only [Try.ntmps25, Try.results25, go_sem, rr_eq, rep_zero0]
        exact ⟨(), hlt, Wk.of (by simp only [go_sem, ↓List.forall_mem_cons, List.not_mem_nil, false_implies, implies_true, and_true, true_and, and_self, ri_eq, Int.natCast_add, Int.cast_ofNat_Int, rr_eq]; try simp) rfl⟩
      · obtain rfl : i = M.length := by omega
        simp (disch := omega) only [Try.ntmps25, Try.results25, go_sem, rr_eq, rep_zero0]
        exact ⟨(ob, nb), Wk.ofH (by simp only [go_sem, ↓List.forall_mem_cons, List.not_mem_nil, false_implies, implies_true, and_true, true_and, and_self, ri_eq, Int.natCast_add, Int.cast_ofNat_Int, rr_eq]; try simp) (by simp [hp, hmap, hne]) (by simp [hp])⟩
    intro _ hlt
    have ho1 := oI_len M i
    have hd1 := dgs_len M i
    have ro := hw.2.1 i hlt
    have gr : (rows M)[i]? = some (.row M.length false (ints (mrow M i))) := by rw [rows_get hlt, ro]
    have rl : (rows M).length = M.length := by simp [rows]
    have hr : ∀ k, k < M.length → (-1000 ≤ mat M i k ∧ mat M i k ≤ 1000) := fun k hk => (hw.2.2.1 i k hlt hk).1
    have hdr : ∀ k, k ≤ M.length → 0 ≤ dgTo M i k ∧ dgTo M i k ≤ 1000 * k := fun k hk => dgTo_r hw hlt k hk
    refine SW.seqI (fun y : Nat × Nat × Nat => ⟨ofL [(0, rr M), (3, .own y.1 0 (i + 1) (i + 1) 1 false), (4, .own y.2.1 0 (i + 1) (i + 1) 1 false), (5, .val (.int .i64 i))], hp [(y.2.1, ⟨ints (dgs M (i + 1)), false⟩), (y.1, ⟨ints (oI M (i + 1)), false⟩)] y.2.2⟩) (fun y => y.1 < y.2.2 ∧ y.2.1 < y.2.2 ∧ y.1 ≠ y.2.1) ?_ ?_
    · refine SW.block ?_
      refine SW.seqW ⟨ofL [(0, rr M), (3, .own ob 0 i i 1 false), (4, .own db 0 i i 1 false), (5, .val (.int .i64 i)), (6, .val (.int .i64 0))], hp [(db, ⟨ints (dgs M i), false⟩), (ob, ⟨ints (oI M i), false⟩)] nb⟩ ?_ ?_
      · refine SW_of_vc Try.mixed _ _ _ (by kernel_rfl) ?_
        simp (disch := omega) only [Try.ntmps25, Try.results25, go_sem, rr_eq, rep_zero0]
        exact Wk.of (by simp only [go_sem, ↓List.forall_mem_cons, List.not_mem_nil, false_implies, implies_true, and_true, true_and, and_self, ri_eq, Int.natCast_add, Int.cast_ofNat_Int, rr_eq]; try simp) rfl
      refine SW.seqW ⟨ofL [(0, rr M), (3, .own ob 0 i i 1 false), (4, .own db 0 i i 1 false), (5, .val (.int .i64 i)), (6, .val (.int .i64 (dg M i)))], hp [(db, ⟨ints (dgs M i), false⟩), (ob, ⟨ints (oI M i), false⟩)] nb⟩ ?_ ?_
      · refine SW_of_vc Try.mixed _ _ _ (by kernel_rfl) ?_
        simp (disch := omega) only [Try.ntmps25, Try.results25, go_sem, rr_eq, rep_zero0]
        refine LoopW.loop (fun k : Nat => ⟨ofL [(0, rr M), (3, .own ob 0 i i 1 false), (4, .own db 0 i i 1 false), (5, .val (.int .i64 i)), (6, .val (.int .i64 (dgTo M i k))), (7, .val (.int .i64 k))], hp [(db, ⟨ints (dgs M i), false⟩), (ob, ⟨ints (oI M i), false⟩)] nb⟩) (fun k => k ≤ M.length) (fun k => M.length - k) 0 (by omega) (Wk.of (by simp only [go_sem, ↓List.forall_mem_cons, List.not_mem_nil, false_implies, implies_true, and_true, true_and, and_self, ri_eq, Int.natCast_add, Int.cast_ofNat_Int, rr_eq, dgTo]; try simp) rfl) ?_
        intro k hk
        have hdk := hdr k hk
        refine SW_of_vc Try.mixed _ _ _ (by kernel_rfl) ?_
        by_cases hltk : k < M.length
        · have g := hr k hltk
          have gk : (ints (mrow M i))[k]? = some (.val (.int .i64 (mat M i k))) := ints_get' ro hltk
          have hil : (ints (mrow M i)).length = M.length := by rw [ints_length, ro]
          have hs : dgTo M i (k + 1) = dgTo M i k + (if mat M i k < 0 then 0 else mat M i k) := rfl
          by_cases hneg : ¬ 0 < mat M i k
          · have hs : dgTo M i (k + 1) = dgTo M i k + 0 := by rw [hs]; split <;> omega
            rw [Int.add_zero] at hs
            simp (disch := omega) only [Try.ntmps25, Try.results25, go_sem, rr_eq, rep_zero0, gk, hil, gr, rl]
            exact ⟨k + 1, by omega, by omega, Wk.of (by simp only [go_sem, ↓List.forall_mem_cons, List.not_mem_nil, false_implies, implies_true, and_true, true_and, and_self, ri_eq, Int.natCast_add, Int.cast_ofNat_Int, rr_eq, hs]; try simp) rfl⟩
          · have hneg : 0 < mat M i k := by omega
            rw [if_neg (by omega)] at hs
            simp (disch := omega) only [Try.ntmps25, Try.results25, go_sem, rr_eq, rep_zero0, gk, hil, gr, rl]
            exact ⟨k + 1, by omega, by omega, Wk.of (by simp only [go_sem, ↓List.forall_mem_cons, List.not_mem_nil, false_implies, implies_true, and_true, true_and, and_self, ri_eq, Int.natCast_add, Int.cast_ofNat_Int, rr_eq, hs]; try simp) rfl⟩
        · obtain rfl : k = M.length := by omega
          simp (disch := omega) only [Try.ntmps25, Try.results25, go_sem, rr_eq, rep_zero0]
          exact Wk.of (by simp only [go_sem, ↓List.forall_mem_cons, List.not_mem_nil, false_implies, implies_true, and_true, true_and, and_self, ri_eq, Int.natCast_add, Int.cast_ofNat_Int, rr_eq, dg]; try simp) rfl
      refine SW.seqI (fun y : Nat × Nat => ⟨ofL [(0, rr M), (3, .own ob 0 i i 1 false), (4, .own y.1 0 (i + 1) (i + 1) 1 false), (5, .val (.int .i64 i)), (6, .val (.int .i64 (dg M i)))], hp [(y.1, ⟨ints (dgs M (i + 1)), false⟩), (ob, ⟨ints (oI M i), false⟩)] y.2⟩) (fun y => ob < y.2 ∧ y.1 < y.2 ∧ ob ≠ y.1) ?_ ?_
      · have hil : (ints (dgs M i)).length = i := by rw [ints_length, hd1]
        have htk : List.take i (ints (dgs M i)) = ints (dgs M i) := List.take_of_length_le (by omega)
        have hsn : ints (dgs M i) ++ [.val (.int .i64 (dg M i))] = ints (dgs M (i + 1)) := by rw [dgs_succ]; simp [ints]
        refine SW_of_vc Try.mixed _ _ _ (by kernel_rfl) ?_
        simp (disch := omega) only [Try.ntmps25, Try.results25, go_sem, rr_eq, rep_zero0, hil, htk, hsn]
        exact ⟨(nb + 1, nb + 1 + 1), ⟨by show ob < nb + 1 + 1; omega, by show nb + 1 < nb + 1 + 1; omega, by show ob ≠ nb + 1; omega⟩, Wk.ofH (by simp only [go_sem, ↓List.forall_mem_cons, List.not_mem_nil, false_implies, implies_true, and_true, true_and, and_self, ri_eq, Int.natCast_add, Int.cast_ofNat_Int, rr_eq]; try simp) (by simp only [hp, hmap, ↓List.forall_mem_cons, List.not_mem_nil, false_implies, implies_true, and_true, if_true]; refine ⟨by simp, ?_⟩; rw [if_neg (by omega)]; try rw [if_neg (by omega)]; try simp) (by simp [hp])⟩
      rintro ⟨db, nb⟩ ⟨ho, hd, hne⟩
      simp only at ho hd hne
      refine SW.seqW ⟨ofL [(0, rr M), (3, .own ob 0 i i 1 false), (4, .own db 0 (i + 1) (i + 1) 1 false), (5, .val (.int .i64 i)), (6, .val (.int .i64 (dg M i))), (8, .val (.int .i64 i))], hp [(db, ⟨ints (dgs M (i + 1)), false⟩), (ob, ⟨ints (oI M i), false⟩)] nb⟩ ?_ ?_
      · refine SW_of_vc Try.mixed _ _ _ (by kernel_rfl) ?_
        simp (disch := omega) only [Try.ntmps25, Try.results25, go_sem, rr_eq, rep_zero0]
        exact Wk.of (by simp only [go_sem, ↓List.forall_mem_cons, List.not_mem_nil, false_implies, implies_true, and_true, true_and, and_self, ri_eq, Int.natCast_add, Int.cast_ofNat_Int, rr_eq]; try simp) rfl
      refine SW.seqW ⟨ofL [(0, rr M), (3, .own ob 0 i i 1 false), (4, .own db 0 (i + 1) (i + 1) 1 false), (5, .val (.int .i64 i)), (6, .val (.int .i64 (dg M i))), (8, .val (.int .i64 (down M (dOrd M i) (dg M i) i)))], hp [(db, ⟨ints (dgs M (i + 1)), false⟩), (ob, ⟨ints (oI M i), false⟩)] nb⟩ ?_ ?_
      · refine SW_of_vc Try.mixed _ _ _ (by kernel_rfl) ?_
        simp (disch := omega) only [Try.ntmps25, Try.results25, go_sem, rr_eq, rep_zero0]
        refine LoopW.loop (fun p : Nat => ⟨ofL [(0, rr M), (3, .own ob 0 i i 1 false), (4, .own db 0 (i + 1) (i + 1) 1 false), (5, .val (.int .i64 i)), (6, .val (.int .i64 (dg M i))), (8, .val (.int .i64 p))], hp [(db, ⟨ints (dgs M (i + 1)), false⟩), (ob, ⟨ints (oI M i), false⟩)] nb⟩) (fun p => p ≤ i ∧ down M (dOrd M i) (dg M i) i = down M (dOrd M i) (dg M i) p) (fun p => p) i ⟨by omega, rfl⟩ (Wk.of (by simp only [go_sem, ↓List.forall_mem_cons, List.not_mem_nil, false_implies, implies_true, and_true, true_and, and_self, ri_eq, Int.natCast_add, Int.cast_ofNat_Int, rr_eq]; try simp) rfl) ?_
        rintro p ⟨hp, hdn⟩
        refine SW_of_vc Try.mixed _ _ _ (by kernel_rfl) ?_
        cases p with
        | zero =>
          have hdn : down M (dOrd M i) (dg M i) i = 0 := hdn
          simp (disch := omega) only [Try.ntmps25, Try.results25, go_sem, rr_eq, rep_zero0]
          exact Wk.of (by simp only [go_sem, ↓List.forall_mem_cons, List.not_mem_nil, false_implies, implies_true, and_true, true_and, and_self, ri_eq, Int.natCast_add, Int.cast_ofNat_Int, rr_eq, hdn]; try simp) rfl
        | succ q =>
          obtain ⟨k1, k2⟩ := oI_get M (i := i) (p := q) (by omega)
          have eo : (ints (oI M i))[q]? = some (.val (.int .i64 (((dOrd M i).getD q 0 : Nat) : Int))) := by rw [ints_get (by omega), k1]
          have ed : (ints (dgs M (i + 1)))[(dOrd M i).getD q 0]? = some (.val (.int .i64 (dg M ((dOrd M i).getD q 0)))) := by rw [ints_get (by rw [dgs_len]; omega), dgs_get M (by omega)]
          have hil : (ints (oI M i)).length = i := by rw [ints_length, ho1]
          have hil2 : (ints (dgs M (i + 1))).length = i + 1 := by rw [ints_length, dgs_len]
          have hq1 : (((q + 1 : Nat) : Int)) - 1 = (q : Int) := by omega
          have hds : down M (dOrd M i) (dg M i) (q + 1) = if dg M ((dOrd M i).getD q 0) < dg M i then down M (dOrd M i) (dg M i) q else q + 1 := rfl
          generalize (dOrd M i).getD q 0 = x at *
          by_cases hlt2 : dg M x < dg M i
          · rw [if_pos hlt2] at hds
            simp (disch := omega) only [Try.ntmps25, Try.results25, go_sem, rr_eq, rep_zero0, eo, ed, hil, hil2, hq1]
            exact ⟨q, ⟨by omega, by rw [hdn, hds]⟩, by omega, Wk.of (by simp only [go_sem, ↓List.forall_mem_cons, List.not_mem_nil, false_implies, implies_true, and_true, true_and, and_self, ri_eq, Int.natCast_add, Int.cast_ofNat_Int, rr_eq]; try simp) rfl⟩
          · rw [if_neg hlt2] at hds
            have hdn : down M (dOrd M i) (dg M i) i = q + 1 := by rw [hdn, hds]
            simp (disch := omega) only [Try.ntmps25, Try.results25, go_sem, rr_eq, rep_zero0, eo, ed, hil, hil2, hq1]
            exact Wk.of (by simp only [go_sem, ↓List.forall_mem_cons, List.not_mem_nil, false_implies, implies_true, and_true, true_and, and_self, ri_eq, Int.natCast_add, Int.cast_ofNat_Int, rr_eq, hdn]; try simp) rfl
      have hdl := down_le M (dOrd M i) (dg M i) i
      have hos := oI_succ M i
      generalize down M (dOrd M i) (dg M i) i = at0 at *
      have hil : (ints (oI M i)).length = i := by rw [ints_length, ho1]
      have hf1 : (List.take at0 (ints (oI M i))).all flat = true := List.all_eq_true.2 fun x hx => by obtain ⟨y, _, rfl⟩ := List.mem_map.1 (List.mem_of_mem_take hx); rfl
      have hf2 : (List.drop at0 (ints (oI M i))).all flat = true := List.all_eq_true.2 fun x hx => by obtain ⟨y, _, rfl⟩ := List.mem_map.1 (List.mem_of_mem_drop hx); rfl
      have e1 : ints (oI M (i + 1)) = List.take at0 (ints (oI M i)) ++ .val (.int .i64 i) :: List.drop at0 (ints (oI M i)) := by rw [hos]; simp [ints, List.map_take, List.map_drop]
      have lt : (List.take at0 (ints (oI M i))).length = at0 := by simp [hil]; omega
      have tk0 : List.take at0 (List.take at0 (ints (oI M i))) = List.take at0 (ints (oI M i)) := by rw [List.take_take, Nat.min_self]
      clear hos
      have dt : List.take (i - at0) (List.drop at0 (ints (oI M i))) = List.drop at0 (ints (oI M i)) := List.take_of_length_le (by rw [List.length_drop, hil]; omega)
      have lt1 : (List.take at0 (ints (oI M i)) ++ [SV.val (Value.int IntKind.i64 ↑i)]).length = at0 + 1 := by rw [List.length_append, lt]; rfl
      have tk1 : List.take (at0 + 1) (List.take at0 (ints (oI M i)) ++ [SV.val (Value.int IntKind.i64 ↑i)]) = List.take at0 (ints (oI M i)) ++ [SV.val (Value.int IntKind.i64 ↑i)] := List.take_of_length_le (by omega)
      generalize ints (oI M i) = A at *
      generalize ints (oI M (i + 1)) = A' at *
      rcases Nat.eq_zero_or_pos at0 with h0 | h0 <;> rcases Nat.lt_or_ge at0 i with h1 | h1
      all_goals
        refine SW.regionP (fun _ => True) [3, 10] [0, 4, 6, 7, 11] [0, 1, 2, 3, 4, 5, 6, 7, 8, 9, 10, 11, 12] [[0, 1, 2, 3, 5, 6, 4, 7, 8, 9, 10, 11, 12], [1, 2, 3, 5, 6, 0, 4, 7, 8, 9, 10, 11, 12]] Try.mixed (by kernel_rfl) trivial ⟨?_, ?_, ?_, trivial⟩
      all_goals
        simp (disch := omega) only [Try.ntmps25, Try.results25, go_sem, rr_eq, rep_zero0, hil, hf1, hf2, lt, tk0, dt, lt1, tk1]
        refine SliceS.own ?_
        simp (disch := omega) only [Try.ntmps25, Try.results25, go_sem, rr_eq, rep_zero0, hil, hf1, hf2, lt, tk0, dt, lt1, tk1]
        refine SliceS.own ?_
        simp (disch := omega) only [Try.ntmps25, Try.results25, go_sem, rr_eq, rep_zero0, hil, hf1, hf2, lt, tk0, dt, lt1, tk1]
      iterate 3
        · have n1 : 1 + (i - at0) = i + 1 := by omega
          have e2 : A' = .val (.int .i64 i) :: List.drop at0 A := by rw [e1, h0]; rfl
          exact ⟨(nb + 1 + 1 + 1, db, nb + 1 + 1 + 1 + 1), ⟨by show nb + 1 + 1 + 1 < nb + 1 + 1 + 1 + 1; omega, by show db < nb + 1 + 1 + 1 + 1; omega, by show nb + 1 + 1 + 1 ≠ db; omega⟩, Wk.ofH (by simp only [go_sem, ↓List.forall_mem_cons, List.not_mem_nil, false_implies, implies_true, and_true, true_and, and_self, ri_eq, Int.natCast_add, Int.cast_ofNat_Int, rr_eq, n1]; try simp) (by rw [e2]; simp only [hp, hmap, ↓List.forall_mem_cons, List.not_mem_nil, false_implies, implies_true, and_true, if_true]; (repeat (first | rw [if_pos rfl] | rw [if_neg (by omega)])); try exact ⟨rfl, rfl⟩) (by simp [hp])⟩
      iterate 3
        · have n1 : i = 0 := by omega
          have e2 : A' = [.val (.int .i64 i)] := by rw [e1, h0, List.drop_zero, List.length_eq_zero_iff.1 (hil.trans n1)]; rfl
          exact ⟨(nb + 1 + 1, db, nb + 1 + 1 + 1), ⟨by show nb + 1 + 1 < nb + 1 + 1 + 1; omega, by show db < nb + 1 + 1 + 1; omega, by show nb + 1 + 1 ≠ db; omega⟩, Wk.ofH (by simp only [go_sem, ↓List.forall_mem_cons, List.not_mem_nil, false_implies, implies_true, and_true, true_and, and_self, ri_eq, Int.natCast_add, Int.cast_ofNat_Int, rr_eq, n1]; try simp) (by rw [e2]; simp only [hp, hmap, ↓List.forall_mem_cons, List.not_mem_nil, false_implies, implies_true, and_true, if_true]; (repeat (first | rw [if_pos rfl] | rw [if_neg (by omega)])); try exact ⟨rfl, rfl⟩) (by simp [hp])⟩
      iterate 3
        · have n1 : at0 + 1 + (i - at0) = i + 1 := by omega
          have e2 : A' = List.take at0 A ++ [SV.val (Value.int IntKind.i64 ↑i)] ++ List.drop at0 A := by rw [e1]; simp
          exact ⟨(nb + 1 + 1 + 1 + 1, db, nb + 1 + 1 + 1 + 1 + 1), ⟨by show nb + 1 + 1 + 1 + 1 < nb + 1 + 1 + 1 + 1 + 1; omega, by show db < nb + 1 + 1 + 1 + 1 + 1; omega, by show nb + 1 + 1 + 1 + 1 ≠ db; omega⟩, Wk.ofH (by simp only [go_sem, ↓List.forall_mem_cons, List.not_mem_nil, false_implies, implies_true, and_true, true_and, and_self, ri_eq, Int.natCast_add, Int.cast_ofNat_Int, rr_eq, n1]; try simp) (by rw [e2]; simp only [hp, hmap, ↓List.forall_mem_cons, List.not_mem_nil, false_implies, implies_true, and_true, if_true]; (repeat (first | rw [if_pos rfl] | rw [if_neg (by omega)])); try exact ⟨rfl, rfl⟩) (by simp [hp])⟩
      iterate 3
        · have n1 : at0 = i := by omega
          have e2 : A' = List.take at0 A ++ [SV.val (Value.int IntKind.i64 ↑i)] := by rw [e1, List.drop_of_length_le (by omega)]
          exact ⟨(nb + 1 + 1 + 1, db, nb + 1 + 1 + 1 + 1), ⟨by show nb + 1 + 1 + 1 < nb + 1 + 1 + 1 + 1; omega, by show db < nb + 1 + 1 + 1 + 1; omega, by show nb + 1 + 1 + 1 ≠ db; omega⟩, Wk.ofH (by simp only [go_sem, ↓List.forall_mem_cons, List.not_mem_nil, false_implies, implies_true, and_true, true_and, and_self, ri_eq, Int.natCast_add, Int.cast_ofNat_Int, rr_eq, n1]; try simp) (by rw [e2]; simp only [hp, hmap, ↓List.forall_mem_cons, List.not_mem_nil, false_implies, implies_true, and_true, if_true]; (repeat (first | rw [if_pos rfl] | rw [if_neg (by omega)])); try exact ⟨rfl, rfl⟩) (by simp [hp])⟩
    rintro ⟨ob2, db2, nb2⟩ ⟨ho2, hd2, hne2⟩
    simp only at ho2 hd2 hne2
    refine SW_of_vc Try.mixed _ _ _ (by kernel_rfl) ?_
    simp (disch := omega) only [Try.ntmps25, Try.results25, go_sem, rr_eq, rep_zero0]
    exact ⟨(i + 1, ob2, db2, nb2), ⟨by show i + 1 ≤ M.length; omega, ho2, hd2, hne2⟩, by show M.length - (i + 1) < M.length - i; omega, Wk.of (by simp only [go_sem, ↓List.forall_mem_cons, List.not_mem_nil, false_implies, implies_true, and_true, true_and, and_self, ri_eq, Int.natCast_add, Int.cast_ofNat_Int, rr_eq]; try simp) rfl⟩
  rintro ⟨ob, nb⟩ _
  simp only
  have hol := oI_len M M.length
  refine SW_of_vc Try.mixed _ _ _ (by kernel_rfl) ?_
  simp (disch := omega) only [Try.ntmps25, Try.results25, go_sem, rr_eq, rep_zero0]
  exact fin_ints (e2 := false) (by omega) (by simp [hp, hmap])
end Go.Sh

/-
  All items: of the program.
-/
namespace Go.Sh
set_option linter.unusedSimpArgs false
set_option linter.unusedVariables false
open Go Go.Proofs

def allI (k : Nat) : List Int := (List.range k).map fun i : Nat => (i : Int)
theorem allI_length (k : Nat) : (allI k).length = k := by simp [allI]
theorem allI_snoc (k : Nat) : ints (allI k) ++ [.val (.int .i64 (k : Int))] = ints (allI (k + 1)) := by simp [allI, ints, List.range_succ]
theorem allI_at {n k : Nat} (h : k < n) : (allI n).getD k 0 = (k : Int) := by simp [allI, h]

set_option maxHeartbeats 4000000 in
theorem Try.allItems_f (n : Nat) (h1 : 1 ≤ n) (h8 : n ≤ 8) : FCall Try.prog 78 [.val (.int .i64 n)] (FlatRes n 1 (ints (allI n))) := by
  refine FCall.of_body Try.func78 rfl (by kernel_rfl) (by simp [Try.ntmps78]) ?_
  refine SW_of_vc Try.mixed _ _ _ (by kernel_rfl) ?_
  simp (disch := omega) only [Try.ntmps78, Try.results78, go_sem]
  refine LoopW.loop (fun p : Nat × Nat × Nat => ⟨ofL [(3, nlI p.2.1 (allI p.1)), (5, .val (.int .i64 n)), (6, .val (.int .i64 p.1))], hp (nlH p.2.1 (allI p.1)) p.2.2⟩)
    (fun p => p.1 ≤ n ∧ (p.1 ≠ 0 → p.2.1 < p.2.2)) (fun p => n - p.1) (0, 0, 0) ⟨by simp, fun h => absurd rfl h⟩ (Wk.ofH (by simp only [go_sem, ↓List.forall_mem_cons, List.not_mem_nil, false_implies, implies_true, and_true, true_and, and_self, ri_eq, Int.natCast_add, Int.cast_ofNat_Int, nlI_t (T := allI 0) rfl]; try simp) (by simp [nlH, allI]) (by simp [hp])) ?_
  rintro ⟨k, ob, nb⟩ ⟨hk, hob⟩
  simp only at hk hob
  have hrl := allI_length k
  have hsn := allI_snoc k
  have hl2 := allI_length (k + 1)
  have e2 : ∀ b, nlI b (allI (k + 1)) = .own b 0 (k + 1) (k + 1) 1 false := fun b => by rw [nlI_f (by omega), hl2]
  have e3 : ∀ b, nlH b (allI (k + 1)) = [(b, ⟨ints (allI (k + 1)), false⟩)] := fun b => nlH_f (by omega)
  refine SW_of_vc Try.mixed _ _ _ (by kernel_rfl) ?_
  by_cases hlt : k < n
  · by_cases hz : k = 0
    · have hkl : (allI k).length = 0 := by omega
      have e0 := nlI_t (b := ob) hkl
      have h0 := nlH_t (b := ob) hkl
      have hsn0 : [SV.val (.int .i64 (k : Int))] = ints (allI (k + 1)) := by rw [← hsn, List.length_eq_zero_iff.1 hkl]; rfl
      have e2z : ∀ b, nlI b (allI (k + 1)) = .own b 0 1 1 1 false := fun b => by
        have hk1 : k + 1 = 1 := by omega
        rw [e2, hk1]
      simp (disch := omega) only [Try.ntmps78, Try.results78, go_sem, e0, h0]
      refine ⟨(k + 1, nb + 1, nb + 1 + 1), ⟨hlt, fun _ => by show nb + 1 < nb + 1 + 1; omega⟩, by show n - (k + 1) < n - k; omega, Wk.ofH (by simp only [go_sem, ↓List.forall_mem_cons, List.not_mem_nil, false_implies, implies_true, and_true, true_and, and_self, ri_eq, Int.natCast_add, Int.cast_ofNat_Int, e2z]; try simp) ?_ (Nat.le_refl _)⟩
      show ∀ q ∈ nlH (nb + 1) (allI (k + 1)), _
      refine nlH_in fun _ => ?_
      rw [← hsn0]; simp (disch := omega) only [hp_map, hmap_cons, if_pos, if_neg, ↓reduceIte]
    · have hkl : (allI k).length ≠ 0 := by omega
      have o2 := hob hz
      have e0 := nlI_f (b := ob) hkl
      have h0 := nlH_f (b := ob) hkl
      rw [hrl] at e0
      have hil : (ints (allI k)).length = k := by rw [ints_length, hrl]
      have hit : (ints (allI k)).take k = ints (allI k) := List.take_of_length_le (by omega)
      simp (disch := omega) only [Try.ntmps78, Try.results78, go_sem, e0, h0, hil, hit, hsn]
      refine ⟨(k + 1, nb + 1, nb + 1 + 1), ⟨hlt, fun _ => by show nb + 1 < nb + 1 + 1; omega⟩, by show n - (k + 1) < n - k; omega, Wk.ofH (by simp only [go_sem, ↓List.forall_mem_cons, List.not_mem_nil, false_implies, implies_true, and_true, true_and, and_self, ri_eq, Int.natCast_add, Int.cast_ofNat_Int, e2]; try simp) ?_ (Nat.le_refl _)⟩
      show ∀ q ∈ nlH (nb + 1) (allI (k + 1)), _
      refine nlH_in fun _ => ?_
      simp (disch := omega) only [hp_map, hmap_cons, if_pos, if_neg, ↓reduceIte]
  · obtain rfl : k = n := by omega
    have hkl : (allI k).length ≠ 0 := by omega
    have e0 := nlI_f (b := ob) hkl
    rw [hrl] at e0
    have hm := nlH_map (b := ob) hkl
    simp (disch := omega) only [Try.ntmps78, Try.results78, go_sem, e0]
    exact fin_ints hrl.symm (by rw [hp_map, hm])
theorem Try.allItems_one (n : Nat) (h1 : 1 ≤ n) (h8 : n ≤ 8) : FCall Try.prog 78 [.val (.int .i64 n)] (OneRes n 1 (ints (allI n))) := (Try.allItems_f n h1 h8).one
theorem Try.allItems_ok (n : Nat) (h1 : 1 ≤ n) (h8 : n ≤ 8) : PCall Try.prog 78 [.val (.int .i64 n)] (ri (allI n)) := (Try.allItems_one n h1 h8).pcall 2 (fun _ _ h => one_view h (allI_length n).symm)
end Go.Sh

/-
  The order by degrees: of the program. The sort of the library at few items is one insertion sort.
-/
namespace Go.Sh
set_option linter.unusedSimpArgs false
set_option linter.unusedVariables false
open Go Go.Proofs

def cmpI (a b : Int) : Int := if a < b then -1 else if b < a then 1 else 0
theorem Try.isNaNI_ok (a : Int) : PCall Try.prog 113 [.val (.int .i64 a)] (.val (.bool false)) := by
  refine FCall.pcall (R := fun r _ => r = .val (.bool false)) ?_ 0 (by rintro r H rfl; exact view_bool)
  refine FCall.of_body Try.func113 rfl (by kernel_rfl) (by simp [Try.ntmps113]) ?_
  refine SW_of_vc Try.mixed _ _ _ (by kernel_rfl) ?_
  simp (disch := omega) only [Try.ntmps113, Try.results113, go_sem, bne_self_eq_false]
  exact Fin.val rfl
set_option maxHeartbeats 1000000 in
theorem Try.compareI_ok (a b : Int) : PCall Try.prog 81 [.val (.int .i64 a), .val (.int .i64 b)] (.val (.int .i64 (cmpI a b))) := by
  refine FCall.pcall (R := fun r _ => r = .val (.int .i64 (cmpI a b))) ?_ 0 (by rintro r H rfl; exact view_int)
  refine FCall.of_body Try.func81 rfl (by kernel_rfl) (by simp [Try.ntmps81]) ?_
  have w1 := Try.isNaNI_ok a
  have w2 := Try.isNaNI_ok b
  refine SW_of_vc Try.mixed _ _ _ (by kernel_rfl) ?_
  rcases Int.lt_trichotomy a b with h | h | h
  · have e : cmpI a b = -1 := if_pos h
    simp (disch := omega) only [Try.ntmps81, Try.results81, go_sem]
    refine w1.callV 0 (viewL_cons_of (view_int) viewL_nil_of) ?_
    simp (disch := omega) only [Try.ntmps81, Try.results81, go_sem]
    refine w2.callV 0 (viewL_cons_of (view_int) viewL_nil_of) ?_
    simp (disch := omega) only [Try.ntmps81, Try.results81, go_sem]
    exact Fin.val (by rw [e])
  · subst h
    have e : cmpI a a = 0 := by simp [cmpI]
    simp (disch := omega) only [Try.ntmps81, Try.results81, go_sem]
    refine w1.callV 0 (viewL_cons_of (view_int) viewL_nil_of) ?_
    simp (disch := omega) only [Try.ntmps81, Try.results81, go_sem]
    refine w1.callV 0 (viewL_cons_of (view_int) viewL_nil_of) ?_
    simp (disch := omega) only [Try.ntmps81, Try.results81, go_sem]
    exact Fin.val (by rw [e])
  · have e : cmpI a b = 1 := by rw [cmpI, if_neg (by omega), if_pos h]
    simp (disch := omega) only [Try.ntmps81, Try.results81, go_sem]
    refine w1.callV 0 (viewL_cons_of (view_int) viewL_nil_of) ?_
    simp (disch := omega) only [Try.ntmps81, Try.results81, go_sem]
    refine w2.callV 0 (viewL_cons_of (view_int) viewL_nil_of) ?_
    simp (disch := omega) only [Try.ntmps81, Try.results81, go_sem]
    exact Fin.val (by rw [e])

theorem Try.degCmp_ok (S : List Int) (a b : Nat) (ha : a < S.length) (hb : b < S.length) (H : Heap) (cb sb cap : Nat) (ex e1 e2 : Bool) (hc : H.map cb = some ⟨[.own sb 0 S.length cap 1 ex], e1⟩) (hs : H.map sb = some ⟨ints S, e2⟩) :
    CallS Try.prog 80 [.val (.int .i64 a), .val (.int .i64 b), .optr cb 0] H (fun r H' => r = .val (.int .i64 (cmpI (S.getD b 0) (S.getD a 0))) ∧ H' = H) := by
  have w := Try.compareI_ok (S.getD b 0) (S.getD a 0)
  refine CallS.of_body Try.func80 rfl (by kernel_rfl) (by simp [Try.ntmps80]) ?_
  have g1 : (ints S)[a]? = some (.val (.int .i64 (S.getD a 0))) := ints_get ha
  have g2 : (ints S)[b]? = some (.val (.int .i64 (S.getD b 0))) := ints_get hb
  have gl : (ints S).length = S.length := ints_length S
  refine SW_of_vc Try.mixed _ _ _ (by kernel_rfl) ?_
  simp (disch := omega) only [Try.ntmps80, Try.results80, go_sem, hc, hs, g1, g2, gl]
  refine w.callDV 0 (viewL_cons_of (view_int) (viewL_cons_of (view_int) viewL_nil_of)) ?_
  simp (disch := omega) only [Try.ntmps80, Try.results80, go_sem, hc, hs, g1, g2, gl]

/-! ### The sort's list -/
/-- The list while item i is on its way down, at place j. -/
def mid (M : List (List Int)) (n i j : Nat) : List Int := (oI M i).take j ++ (i : Int) :: ((oI M i).drop j ++ (allI n).drop (i + 1))
def cur (M : List (List Int)) (n i : Nat) : List Int := oI M i ++ (allI n).drop i
theorem cur_zero (M : List (List Int)) (n : Nat) : cur M n 0 = allI n := by simp [cur, oI, dOrd]
theorem cur_all (M : List (List Int)) (n : Nat) : cur M n n = oI M n := by simp [cur, allI]
theorem cur_mid (M : List (List Int)) {n i : Nat} (h : i < n) : cur M n i = mid M n i i := by
  have hl := oI_len M i
  have el : (oI M i).drop i = [] := List.drop_of_length_le (by omega)
  rw [cur, mid, List.take_of_length_le (by omega), el, List.nil_append, List.drop_eq_getElem_cons (by rw [allI_length]; exact h)]
  simp [allI]
theorem mid_cur (M : List (List Int)) {n i : Nat} : mid M n i (down M (dOrd M i) (dg M i) i) = cur M n (i + 1) := by
  rw [cur, oI_succ, mid]; simp
theorem mid_len (M : List (List Int)) {n i j : Nat} (h : i < n) (hj : j ≤ i) : (mid M n i j).length = n := by
  have hl := oI_len M i
  simp [mid, hl, allI_length]; omega
theorem mid_at (M : List (List Int)) {n i j : Nat} (hj : j ≤ i) : (mid M n i j).getD j 0 = (i : Int) := by
  have hl := oI_len M i
  rw [mid, List.getD_eq_getElem?_getD, List.getElem?_append_right (by simp [hl]; omega)]
  simp [hl, Nat.min_eq_left hj]
theorem mid_pred (M : List (List Int)) {n i q : Nat} (hj : q + 1 ≤ i) : (mid M n i (q + 1)).getD q 0 = (((dOrd M i).getD q 0 : Nat) : Int) := by
  have hl := oI_len M i
  rw [← (oI_get M (i := i) (p := q) (by omega)).1, mid, List.getD_eq_getElem?_getD, List.getElem?_append_left (by simp [hl]; omega), List.getElem?_take_of_lt (by omega), ← List.getD_eq_getElem?_getD]
theorem mid_swap (M : List (List Int)) {n i q : Nat} (hj : q + 1 ≤ i) : ((mid M n i (q + 1)).set (q + 1) (((dOrd M i).getD q 0 : Nat) : Int)).set q (i : Int) = mid M n i q := by
  have hl := oI_len M i
  rw [← (oI_get M (i := i) (p := q) (by omega)).1, mid, mid]
  generalize oI M i = O at *
  have hq : q < O.length := by omega
  have e1 : O.take (q + 1) = O.take q ++ [O.getD q 0] := by rw [List.take_add_one]; simp [hq]
  have e2 : O.drop q = O.getD q 0 :: O.drop (q + 1) := by rw [List.drop_eq_getElem_cons hq]; simp [hq]
  have l1 : (O.take q).length = q := by simp; omega
  rw [e2, e1]
  generalize O.take q = A at *
  generalize O.getD q 0 = x
  subst l1
  rw [List.append_assoc, List.set_append_right _ _ (by omega), List.set_append_right _ _ (by omega)]
  simp

theorem cur_one (M : List (List Int)) {n : Nat} (h : 0 < n) : cur M n 1 = allI n := by
  rw [← mid_cur, ← cur_zero M n, cur_mid M h]; rfl
theorem cmpI_neg {a b : Int} : cmpI a b < 0 ↔ a < b := by unfold cmpI; split <;> (try split) <;> omega

set_option maxHeartbeats 8000000 in
theorem Try.insDeg_ok (M : List (List Int)) (n : Nat) (hn0 : 0 < n) (hn : n ≤ 1048576) (H : Heap) (ob cb sb cap scap : Nat) (ex ex2 e0 e1 e2 : Bool) (ho : H.map ob = some ⟨ints (allI n), e0⟩) (hc : H.map cb = some ⟨[.own sb 0 n scap 1 ex2], e1⟩) (hs : H.map sb = some ⟨ints (dgs M n), e2⟩) (h1 : ob ≠ cb) (h2 : ob ≠ sb) :
    CallS Try.prog 136 [.own ob 0 n cap 1 ex, .val (.int .i64 0), .val (.int .i64 n), .clos (.func 80) [] [.optr cb 0]] H (fun r H' => r = .tup [] ∧ H' = H.set ob (some ⟨ints (oI M n), e0⟩)) := by
  refine CallS.of_body Try.func136 rfl (by kernel_rfl) (by simp [Try.ntmps136]) ?_
  have c1 : ∀ k, (H.set ob k).map cb = some ⟨[.own sb 0 n scap 1 ex2], e1⟩ := fun k => by rw [hset_map, if_neg (Ne.symm h1), hc]
  have c2 : ∀ k, (H.set ob k).map sb = some ⟨ints (dgs M n), e2⟩ := fun k => by rw [hset_map, if_neg (Ne.symm h2), hs]
  have dl := dgs_len M n
  refine SW.seqW ⟨ofL [(0, .own ob 0 n cap 1 ex), (1, .val (.int .i64 0)), (2, .val (.int .i64 n)), (3, .clos (.func 80) [] [.optr cb 0]), (8, .val (.int .i64 1))], H⟩ ?_ ?_
  · refine SW_of_vc Try.mixed _ _ _ (by kernel_rfl) ?_
    simp (disch := omega) only [Try.ntmps136, Try.results136, go_sem]
    exact Wk.of (by simp only [go_sem, ↓List.forall_mem_cons, List.not_mem_nil, false_implies, implies_true, and_true, true_and, and_self, ri_eq, Int.natCast_add, Int.cast_ofNat_Int]; try simp) rfl
  refine SW.block ?_
  refine LoopW.loop (fun i : Nat => ⟨ofL [(0, .own ob 0 n cap 1 ex), (1, .val (.int .i64 0)), (2, .val (.int .i64 n)), (3, .clos (.func 80) [] [.optr cb 0]), (8, .val (.int .i64 i))], H.set ob (some ⟨ints (cur M n i), e0⟩)⟩) (fun i => 1 ≤ i ∧ i ≤ n) (fun i => n - i) 1 ⟨Nat.le_refl _, hn0⟩ (Wk.of (by simp only [go_sem, ↓List.forall_mem_cons, List.not_mem_nil, false_implies, implies_true, and_true, true_and, and_self, ri_eq, Int.natCast_add, Int.cast_ofNat_Int]; try simp) (by rw [cur_one M hn0, Heap.set_self ho])) ?_
  rintro i ⟨hi1, hi⟩
  refine SW.seqI (fun _ : Unit => ⟨ofL [(0, .own ob 0 n cap 1 ex), (1, .val (.int .i64 0)), (2, .val (.int .i64 n)), (3, .clos (.func 80) [] [.optr cb 0]), (8, .val (.int .i64 i))], H.set ob (some ⟨ints (cur M n i), e0⟩)⟩) (fun _ => i < n) ?_ ?_
  · refine SW_of_vc Try.mixed _ _ _ (by kernel_rfl) ?_
    by_cases hlt : i < n
    · simp (disch := omega) only [Try.ntmps136, Try.results136, go_sem]
      exact ⟨(), hlt, Wk.of (by simp only [go_sem, ↓List.forall_mem_cons, List.not_mem_nil, false_implies, implies_true, and_true, true_and, and_self, ri_eq, Int.natCast_add, Int.cast_ofNat_Int]; try simp) rfl⟩
    · obtain rfl : i = n := by omega
      simp (disch := omega) only [Try.ntmps136, Try.results136, go_sem, cur_all]
  intro _ hlt
  refine SW.seqW ⟨ofL [(0, .own ob 0 n cap 1 ex), (1, .val (.int .i64 0)), (2, .val (.int .i64 n)), (3, .clos (.func 80) [] [.optr cb 0]), (8, .val (.int .i64 i))], H.set ob (some ⟨ints (cur M n (i + 1)), e0⟩)⟩ ?_ ?_
  · refine SW.block ?_
    refine SW.seqW ⟨ofL [(0, .own ob 0 n cap 1 ex), (1, .val (.int .i64 0)), (2, .val (.int .i64 n)), (3, .clos (.func 80) [] [.optr cb 0]), (8, .val (.int .i64 i)), (9, .val (.int .i64 i))], H.set ob (some ⟨ints (mid M n i i), e0⟩)⟩ ?_ ?_
    · refine SW_of_vc Try.mixed _ _ _ (by kernel_rfl) ?_
      simp (disch := omega) only [Try.ntmps136, Try.results136, go_sem]
      exact Wk.of (by simp only [go_sem, ↓List.forall_mem_cons, List.not_mem_nil, false_implies, implies_true, and_true, true_and, and_self, ri_eq, Int.natCast_add, Int.cast_ofNat_Int]; try simp) (by rw [cur_mid M hlt])
    refine SW.block ?_
    refine LoopW.loop (fun j : Nat => ⟨ofL [(0, .own ob 0 n cap 1 ex), (1, .val (.int .i64 0)), (2, .val (.int .i64 n)), (3, .clos (.func 80) [] [.optr cb 0]), (8, .val (.int .i64 i)), (9, .val (.int .i64 j))], H.set ob (some ⟨ints (mid M n i j), e0⟩)⟩) (fun j => j ≤ i ∧ down M (dOrd M i) (dg M i) i = down M (dOrd M i) (dg M i) j) (fun j => j) i ⟨Nat.le_refl _, rfl⟩ (Wk.of (by simp only [go_sem, ↓List.forall_mem_cons, List.not_mem_nil, false_implies, implies_true, and_true, true_and, and_self, ri_eq, Int.natCast_add, Int.cast_ofNat_Int]; try simp) rfl) ?_
    rintro j ⟨hj, hdn⟩
    have ml := mid_len M hlt hj
    have mil : (ints (mid M n i j)).length = n := by rw [ints_length, ml]
    have mj := mid_at M (n := n) hj
    have gj : (ints (mid M n i j))[j]? = some (.val (.int .i64 (i : Int))) := by rw [ints_get (by omega), mj]
    refine SW_of_vc Try.mixed _ _ _ (by kernel_rfl) ?_
    cases j with
    | zero =>
      have hdn : down M (dOrd M i) (dg M i) i = 0 := hdn
      have e := mid_cur M (n := n) (i := i)
      rw [hdn] at e
      simp (disch := omega) only [Try.ntmps136, Try.results136, go_sem, Heap.set_at]
      exact Wk.of (by simp only [go_sem, ↓List.forall_mem_cons, List.not_mem_nil, false_implies, implies_true, and_true, true_and, and_self, ri_eq, Int.natCast_add, Int.cast_ofNat_Int]; try simp) (by rw [e])
    | succ q =>
      have mq := mid_pred M (n := n) hj
      have gq : (ints (mid M n i (q + 1)))[q]? = some (.val (.int .i64 (((dOrd M i).getD q 0 : Nat) : Int))) := by rw [ints_get (by omega), mq]
      have xq := (oI_get M (i := i) (p := q) (by omega)).2
      have sw := mid_swap M (n := n) hj
      have hq1 : (((q + 1 : Nat) : Int)) - 1 = (q : Int) := by omega
      have hds : down M (dOrd M i) (dg M i) (q + 1) = if dg M ((dOrd M i).getD q 0) < dg M i then down M (dOrd M i) (dg M i) q else q + 1 := rfl
      have w := Try.degCmp_ok (dgs M n) i ((dOrd M i).getD q 0) (by omega) (by omega) (H.set ob (some ⟨ints (mid M n i (q + 1)), e0⟩)) cb sb scap ex2 e1 e2 (by rw [dl]; exact c1 _) (c2 _)
      rw [dgs_get M hlt, dgs_get M (by omega)] at w
      have e := mid_cur M (n := n) (i := i)
      generalize (dOrd M i).getD q 0 = x at *
      by_cases hlt2 : dg M x < dg M i
      · rw [if_pos hlt2] at hds
        have hc0 := cmpI_neg.2 hlt2
        generalize cmpI (dg M x) (dg M i) = cv at *
        simp (disch := omega) only [Try.ntmps136, Try.results136, go_sem, Heap.set_at, gj, gq, mil, hq1]
        refine ⟨_, w, ?_⟩
        simp (disch := omega) only [Try.ntmps136, Try.results136, go_sem, Heap.set_at, gj, gq, mil, hq1, Heap.set_set, ints_set, sw, ints_length, List.length_set, ml]
        exact ⟨q, ⟨by omega, by rw [hdn, hds]⟩, by omega, Wk.of (by simp only [go_sem, ↓List.forall_mem_cons, List.not_mem_nil, false_implies, implies_true, and_true, true_and, and_self, ri_eq, Int.natCast_add, Int.cast_ofNat_Int, hq1]; try simp) rfl⟩
      · rw [if_neg hlt2] at hds
        have hdn : down M (dOrd M i) (dg M i) i = q + 1 := by rw [hdn, hds]
        rw [hdn] at e
        have hc0 : ¬ cmpI (dg M x) (dg M i) < 0 := fun h => hlt2 (cmpI_neg.1 h)
        generalize cmpI (dg M x) (dg M i) = cv at *
        simp (disch := omega) only [Try.ntmps136, Try.results136, go_sem, Heap.set_at, gj, gq, mil, hq1]
        refine ⟨_, w, ?_⟩
        simp (disch := omega) only [Try.ntmps136, Try.results136, go_sem, Heap.set_at, gj, gq, mil, hq1]
        exact Wk.of (by simp only [go_sem, ↓List.forall_mem_cons, List.not_mem_nil, false_implies, implies_true, and_true, true_and, and_self, ri_eq, Int.natCast_add, Int.cast_ofNat_Int]; try simp) (by rw [e])
  refine SW_of_vc Try.mixed _ _ _ (by kernel_rfl) ?_
  simp (disch := omega) only [Try.ntmps136, Try.results136, go_sem]
  exact ⟨i + 1, ⟨by omega, by omega⟩, by omega, Wk.of (by simp only [go_sem, ↓List.forall_mem_cons, List.not_mem_nil, false_implies, implies_true, and_true, true_and, and_self, ri_eq, Int.natCast_add, Int.cast_ofNat_Int]; try simp) rfl⟩

set_option maxHeartbeats 8000000 in
theorem Try.stableDeg_ok (M : List (List Int)) (n : Nat) (hn0 : 0 < n) (hn : n ≤ 8) (H : Heap) (ob cb sb cap scap : Nat) (ex ex2 e0 e1 e2 : Bool) (ho : H.map ob = some ⟨ints (allI n), e0⟩) (hc : H.map cb = some ⟨[.own sb 0 n scap 1 ex2], e1⟩) (hs : H.map sb = some ⟨ints (dgs M n), e2⟩) (h1 : ob ≠ cb) (h2 : ob ≠ sb) :
    CallS Try.prog 112 [.own ob 0 n cap 1 ex, .val (.int .i64 n), .clos (.func 80) [] [.optr cb 0]] H (fun r H' => r = .tup [] ∧ H' = H.set ob (some ⟨ints (oI M n), e0⟩)) := by
  have w := Try.insDeg_ok M n hn0 (by omega) H ob cb sb cap scap ex ex2 e0 e1 e2 ho hc hs h1 h2
  refine CallS.of_body Try.func112 rfl (by kernel_rfl) (by simp [Try.ntmps112]) ?_
  refine SW_of_vc Try.mixed _ _ _ (by kernel_rfl) ?_
  simp (disch := omega) only [Try.ntmps112, Try.results112, go_sem]
  refine LoopW.loop (fun _ : Unit => ⟨ofL [(0, .own ob 0 n cap 1 ex), (1, .val (.int .i64 n)), (2, .clos (.func 80) [] [.optr cb 0]), (6, .val (.int .i64 20)), (7, .val (.int .i64 0)), (8, .val (.int .i64 20))], H⟩) (fun _ => True) (fun _ => 0) () trivial (Wk.of (by simp only [go_sem, ↓List.forall_mem_cons, List.not_mem_nil, false_implies, implies_true, and_true, true_and, and_self, ri_eq, Int.natCast_add, Int.cast_ofNat_Int]; try simp) rfl) ?_
  intro _ _
  refine SW_of_vc Try.mixed _ _ _ (by kernel_rfl) ?_
  simp (disch := omega) only [Try.ntmps112, Try.results112, go_sem]
  refine w.callDet ?_
  simp (disch := omega) only [Try.ntmps112, Try.results112, go_sem]
  refine LoopW.loop (fun _ : Unit => ⟨ofL [(0, .own ob 0 n cap 1 ex), (1, .val (.int .i64 n)), (2, .clos (.func 80) [] [.optr cb 0]), (6, .val (.int .i64 20)), (7, .val (.int .i64 0)), (8, .val (.int .i64 20))], H.set ob (some ⟨ints (oI M n), e0⟩)⟩) (fun _ => True) (fun _ => 0) () trivial (Wk.of (by simp only [go_sem, ↓List.forall_mem_cons, List.not_mem_nil, false_implies, implies_true, and_true, true_and, and_self, ri_eq, Int.natCast_add, Int.cast_ofNat_Int]; try simp) rfl) ?_
  intro _ _
  refine SW_of_vc Try.mixed _ _ _ (by kernel_rfl) ?_
  simp (disch := omega) only [Try.ntmps112, Try.results112, go_sem]
theorem Try.sortDeg_ok (M : List (List Int)) (n : Nat) (hn0 : 0 < n) (hn : n ≤ 8) (H : Heap) (ob cb sb cap scap : Nat) (ex ex2 e0 e1 e2 : Bool) (ho : H.map ob = some ⟨ints (allI n), e0⟩) (hc : H.map cb = some ⟨[.own sb 0 n scap 1 ex2], e1⟩) (hs : H.map sb = some ⟨ints (dgs M n), e2⟩) (h1 : ob ≠ cb) (h2 : ob ≠ sb) :
    CallS Try.prog 79 [.own ob 0 n cap 1 ex, .clos (.func 80) [] [.optr cb 0]] H (fun r H' => r = .tup [] ∧ H' = H.set ob (some ⟨ints (oI M n), e0⟩)) := by
  have w := Try.stableDeg_ok M n hn0 hn H ob cb sb cap scap ex ex2 e0 e1 e2 ho hc hs h1 h2
  refine CallS.of_body Try.func79 rfl (by kernel_rfl) (by simp [Try.ntmps79]) ?_
  refine SW_of_vc Try.mixed _ _ _ (by kernel_rfl) ?_
  simp (disch := omega) only [Try.ntmps79, Try.results79, go_sem]
  refine w.callDet ?_
  simp (disch := omega) only [Try.ntmps79, Try.results79, go_sem]

/-! ### The degrees -/
def sm (M : List (List Int)) (i : Nat) (c : Int) : List Int := (List.range M.length).map fun x => if x < i then dg M x else if x = i then c else 0
theorem sm_len (M : List (List Int)) (i : Nat) (c : Int) : (sm M i c).length = M.length := by simp [sm]
theorem sm_at (M : List (List Int)) {i : Nat} (h : i < M.length) (c : Int) : (sm M i c).getD i 0 = c := by simp [sm, h]
theorem sm_set (M : List (List Int)) {i : Nat} (c d : Int) : (sm M i c).set i d = sm M i d := by
  apply List.ext_getElem?
  intro x
  simp only [sm, List.getElem?_set, List.getElem?_map, List.length_map, List.length_range]
  by_cases hx : x < M.length
  · rw [List.getElem?_range hx]
    by_cases h : i = x
    · subst h; simp [hx]
    · simp [h, Ne.symm h]
  · rw [List.getElem?_eq_none (by simp; omega)]
    by_cases h : i = x
    · subst h; simp [hx]
    · simp [h]
theorem sm_next (M : List (List Int)) (i : Nat) : sm M i (dg M i) = sm M (i + 1) 0 := by
  apply List.map_congr_left
  intro x _
  by_cases h : x = i
  · subst h; simp
  · by_cases h2 : x < i
    · simp [h2, show x < i + 1 by omega]
    · simp [h, h2, show ¬ x < i + 1 by omega]
theorem sm_zero (M : List (List Int)) : sm M 0 0 = List.replicate M.length 0 := by
  apply List.ext_getElem <;> simp [sm]
theorem sm_all (M : List (List Int)) : sm M M.length 0 = dgs M M.length := by
  apply List.map_congr_left
  intro x hx
  simp at hx; simp [hx]

set_option maxRecDepth 20000 in
set_option maxHeartbeats 8000000 in
theorem Try.implDeg_f (M : List (List Int)) (hM : M.length ≤ 1048576) (hR : ∀ i, i < M.length → (mrow M i).length ≤ 1048576) (hw : WM M) : FCall Try.prog 27 [rr M] (FlatRes M.length 1 (ints (oI M M.length))) := by
  have w1 := Try.implIsWM_ok M hM hR
  rw [isWM_t hw] at w1
  have hn8 := hw.1
  refine FCall.of_body Try.func27 rfl (by kernel_rfl) (by simp [Try.ntmps27]) ?_
  refine SW_of_vc Try.mixed _ _ _ (by kernel_rfl) ?_
  simp (disch := omega) only [Try.ntmps27, Try.results27, go_sem, rr_eq]
  refine w1.callV 0 (viewL_cons_of (view_row) viewL_nil_of) ?_
  simp (disch := omega) only [Try.ntmps27, Try.results27, go_sem, rr_eq]
  refine LoopW.loop (fun i : Nat => ⟨ofL [(0, rr M), (3, .optr 1 0), (15, rr M), (16, .val (.int .i64 M.length)), (17, .val (.int .i64 i))], hp [(1, ⟨[.own 0 0 M.length M.length 1 true], true⟩), (0, ⟨ints (sm M i 0), true⟩)] 2⟩) (fun i => i ≤ M.length) (fun i => M.length - i) 0 (by omega) (Wk.of (by simp only [go_sem, ↓List.forall_mem_cons, List.not_mem_nil, false_implies, implies_true, and_true, true_and, and_self, ri_eq, Int.natCast_add, Int.cast_ofNat_Int, rr_eq]; try simp) (by rw [sm_zero])) ?_
  intro i hi
  refine SW_of_vc Try.mixed _ _ _ (by kernel_rfl) ?_
  by_cases hlt : i < M.length
  · have ro := hw.2.1 i hlt
    have gr : (rows M)[i]? = some (.row M.length false (ints (mrow M i))) := by rw [rows_get hlt, ro]
    have rl : (rows M).length = M.length := by simp [rows]
    have hr : ∀ k, k < M.length → (-1000 ≤ mat M i k ∧ mat M i k ≤ 1000) := fun k hk => (hw.2.2.1 i k hlt hk).1
    have hdr : ∀ k, k ≤ M.length → 0 ≤ dgTo M i k ∧ dgTo M i k ≤ 1000 * k := fun k hk => dgTo_r hw hlt k hk
    simp (disch := omega) only [Try.ntmps27, Try.results27, go_sem, rr_eq, gr, rl]
    refine LoopW.loop (fun k : Nat => ⟨ofL [(0, rr M), (3, .optr 1 0), (4, .val (.int .i64 i)), (15, rr M), (16, .val (.int .i64 M.length)), (17, .val (.int .i64 i)), (22, .row M.length false (ints (mrow M i))), (23, .val (.int .i64 M.length)), (24, .val (.int .i64 k))], hp [(1, ⟨[.own 0 0 M.length M.length 1 true], true⟩), (0, ⟨ints (sm M i (dgTo M i k)), true⟩)] 2⟩) (fun k => k ≤ M.length) (fun k => M.length - k) 0 (by omega) (Wk.of (by simp only [go_sem, ↓List.forall_mem_cons, List.not_mem_nil, false_implies, implies_true, and_true, true_and, and_self, ri_eq, Int.natCast_add, Int.cast_ofNat_Int, rr_eq]; try simp) (by rfl)) ?_
    intro k hk
    have hdk := hdr k hk
    have sl : (ints (sm M i (dgTo M i k))).length = M.length := by rw [ints_length, sm_len]
    have sg : (ints (sm M i (dgTo M i k)))[i]? = some (.val (.int .i64 (dgTo M i k))) := by rw [ints_get (by rw [sm_len]; exact hlt), sm_at M hlt]
    refine SW_of_vc Try.mixed _ _ _ (by kernel_rfl) ?_
    by_cases hltk : k < M.length
    · have g := hr k hltk
      have gk : (ints (mrow M i))[k]? = some (.val (.int .i64 (mat M i k))) := ints_get' ro hltk
      have hil : (ints (mrow M i)).length = M.length := by rw [ints_length, ro]
      have hs : dgTo M i (k + 1) = dgTo M i k + (if mat M i k < 0 then 0 else mat M i k) := rfl
      by_cases hneg : mat M i k < 0
      · rw [if_pos hneg, Int.add_zero] at hs
        simp (disch := omega) only [Try.ntmps27, Try.results27, go_sem, rr_eq, gr, rl, gk, hil, sl, sg, ints_set, sm_set]
        exact ⟨k + 1, by omega, by omega, Wk.of (by simp only [go_sem, ↓List.forall_mem_cons, List.not_mem_nil, false_implies, implies_true, and_true, true_and, and_self, ri_eq, Int.natCast_add, Int.cast_ofNat_Int, rr_eq, hs]; try simp) (by rw [hs, Int.add_zero])⟩
      · rw [if_neg hneg] at hs
        simp (disch := omega) only [Try.ntmps27, Try.results27, go_sem, rr_eq, gr, rl, gk, hil, sl, sg, ints_set, sm_set]
        exact ⟨k + 1, by omega, by omega, Wk.of (by simp only [go_sem, ↓List.forall_mem_cons, List.not_mem_nil, false_implies, implies_true, and_true, true_and, and_self, ri_eq, Int.natCast_add, Int.cast_ofNat_Int, rr_eq, hs]; try simp) (by rw [hs])⟩
    · obtain rfl : k = M.length := by omega
      have e : sm M i (dgTo M i M.length) = sm M (i + 1) 0 := sm_next M i
      simp (disch := omega) only [Try.ntmps27, Try.results27, go_sem, rr_eq]
      exact ⟨i + 1, by omega, by omega, Wk.of (by simp only [go_sem, ↓List.forall_mem_cons, List.not_mem_nil, false_implies, implies_true, and_true, true_and, and_self, ri_eq, Int.natCast_add, Int.cast_ofNat_Int, rr_eq]; try simp) (by rw [← e])⟩
  · obtain rfl : i = M.length := by omega
    have e := sm_all M
    have wf := Try.allItems_f M.length hn8.1 hn8.2
    simp (disch := omega) only [Try.ntmps27, Try.results27, go_sem, rr_eq]
    refine wf.one.callOne (ints_vals _) 0 (viewL_cons_of (view_int) viewL_nil_of) ?_
    simp (disch := omega) only [Try.ntmps27, Try.results27, go_sem, rr_eq]
    refine (Try.sortDeg_ok M M.length hn8.1 hn8.2 _ 2 1 0 M.length M.length false true false true true (by rfl) (by rfl) (by rw [← e]; rfl) (by omega) (by omega)).callDet ?_
    simp (disch := omega) only [Try.ntmps27, Try.results27, go_sem, rr_eq]
    exact fin_ints (oI_len M M.length).symm (by rfl)
theorem Try.implDeg_n (M : List (List Int)) (hM : M.length ≤ 1048576) (hR : ∀ i, i < M.length → (mrow M i).length ≤ 1048576) (hw : ¬ WM M) : FCall Try.prog 27 [rr M] (fun r _ => r = .val (.slice none 0 0)) := by
  have w1 := Try.implIsWM_ok M hM hR
  rw [isWM_f hw] at w1
  refine FCall.of_body Try.func27 rfl (by kernel_rfl) (by simp [Try.ntmps27]) ?_
  refine SW_of_vc Try.mixed _ _ _ (by kernel_rfl) ?_
  simp (disch := omega) only [Try.ntmps27, Try.results27, go_sem, rr_eq]
  refine w1.callV 0 (viewL_cons_of (view_row) viewL_nil_of) ?_
  simp (disch := omega) only [Try.ntmps27, Try.results27, go_sem, rr_eq]
  exact Fin.val rfl
end Go.Sh

/-
  Contracts: DegreeOrder of the reference and of the program.
-/
namespace Go.Sh
set_option linter.unusedSimpArgs false
set_option linter.unusedVariables false
open Go Go.Proofs

open Classical in
noncomputable def degO (M : List (List Int)) : List Int := if WM M then oI M M.length else []
theorem degO_t {M : List (List Int)} (h : WM M) : degO M = oI M M.length := by rw [degO, if_pos h]
theorem degO_f {M : List (List Int)} (h : ¬ WM M) : degO M = [] := by rw [degO, if_neg h]
theorem degO_length {M : List (List Int)} (h : WM M) : (degO M).length = M.length := by rw [degO_t h, oI_len]
theorem Try.specDeg_not (M : List (List Int)) (hM : M.length ≤ 1048576) (hR : ∀ i, i < M.length → (mrow M i).length ≤ 1048576) (hw : ¬ WM M) : FCall Try.prog 25 [rr M] (FlatRes 0 1 (ints [])) := by
  have w1 := Try.specIsWM_ok M hM hR
  rw [isWM_f hw] at w1
  refine FCall.of_body Try.func25 rfl (by kernel_rfl) (by simp [Try.ntmps25]) ?_
  refine SW.seqW ⟨ofL [(0, rr M)], hp [] 0⟩ ?_ ?_
  · refine SW_of_vc Try.mixed _ _ _ (by kernel_rfl) ?_
    simp (disch := omega) only [Try.ntmps25, Try.results25, go_sem, rr_eq, rep_zero0]
    exact Wk.of (by simp only [go_sem, ↓List.forall_mem_cons, List.not_mem_nil, false_implies, implies_true, and_true, true_and, and_self, ri_eq, Int.natCast_add, Int.cast_ofNat_Int, rr_eq]; try simp) rfl
  refine SW.seqW ⟨ofL [(0, rr M), (3, .own 0 0 0 0 1 false)], hp [(0, ⟨[], false⟩)] 1⟩ ?_ ?_
  · refine SW_of_vc Try.mixed _ _ _ (by kernel_rfl) ?_
    simp (disch := omega) only [Try.ntmps25, Try.results25, go_sem, rr_eq, rep_zero0]
    exact Wk.of (by simp only [go_sem, ↓List.forall_mem_cons, List.not_mem_nil, false_implies, implies_true, and_true, true_and, and_self, ri_eq, Int.natCast_add, Int.cast_ofNat_Int, rr_eq]; try simp) rfl
  refine SW.seqI (fun _ : Unit => ⟨ofL [], hp [] 0⟩) (fun _ => False) ?_ (fun _ h => h.elim)
  refine SW_of_vc Try.mixed _ _ _ (by kernel_rfl) ?_
  simp (disch := omega) only [Try.ntmps25, Try.results25, go_sem, rr_eq, rep_zero0]
  refine w1.callV 0 (viewL_cons_of (view_row) viewL_nil_of) ?_
  simp (disch := omega) only [Try.ntmps25, Try.results25, go_sem, rr_eq, rep_zero0]
  exact fin_ints (L := []) (e2 := false) rfl (by simp [hp, hmap, ints])
theorem Try.specDeg_ok (M : List (List Int)) (hM : M.length ≤ 1048576) (hR : ∀ i, i < M.length → (mrow M i).length ≤ 1048576) : PCall Try.prog 25 [rr M] (ri (degO M)) := by
  by_cases h : WM M
  · have w := (Try.specDeg_f M hM hR h).one
    rw [← degO_t h] at w
    exact w.pcall 2 (fun _ _ g => one_view g (degO_length h).symm)
  · rw [degO_f h]; exact (Try.specDeg_not M hM hR h).pcall 2 (fun _ _ h => flat_view h)
theorem Try.implDeg_one (M : List (List Int)) (hM : M.length ≤ 1048576) (hR : ∀ i, i < M.length → (mrow M i).length ≤ 1048576) (h : WM M) : FCall Try.prog 27 [rr M] (OneRes M.length 1 (ints (degO M))) := by
  rw [degO_t h]; exact (Try.implDeg_f M hM hR h).one
theorem Try.implDeg_ok (M : List (List Int)) (hM : M.length ≤ 1048576) (hR : ∀ i, i < M.length → (mrow M i).length ≤ 1048576) : PCall Try.prog 27 [rr M] (ri (degO M)) := by
  by_cases h : WM M
  · exact (Try.implDeg_one M hM hR h).pcall 2 (fun _ _ g => one_view g (degO_length h).symm)
  · rw [degO_f h]; exact (Try.implDeg_n M hM hR h).pcall 0 (by rintro r H rfl; exact view_nil)
end Go.Sh

/-
  The law FnExactDegreeOrder, walked.
-/
namespace Go.Sh
set_option linter.unusedSimpArgs false
set_option linter.unusedVariables false
open Go Go.Proofs

set_option maxHeartbeats 16000000 in
theorem Try.exactDegreeOrder_ok (M : List (List Int)) (Mw : (∀ l ∈ M, (∀ n ∈ l, i64R n) ∧ l.length ≤ maxLen) ∧ M.length ≤ maxLen) : PCall Try.prog 4 [rr M] (.val (.bool true)) := by
  refine FCall.pcall (R := fun r _ => r = .val (.bool true)) ?_ 0 (by rintro r H rfl; exact view_bool)
  refine FCall.of_body Try.func4 rfl (by kernel_rfl) (by simp [Try.ntmps4]) ?_
  refine SW_of_vc Try.mixed _ _ _ (by kernel_rfl) ?_
  obtain ⟨m1M, m2M⟩ := mrow_max Mw
  have nnM := msum_nonneg M M.length
  have zM := Try.szIntSS_ok M (1048576) m1M m2M (by omega) (by omega)
  by_cases sM : (1048576 : Int) < M.length + msum M M.length
  · rw [if_pos sM] at zM
    simp (disch := omega) only [Try.ntmps4, Try.results4, go_sem, beq_self_eq_true, bne_self_eq_false, decide_true, rr_eq, cutR_same, cutR_blk, cutR_other, xmap_skipI, xset_skipI, held_marks]
    refine zM.callV 0 (viewL_cons_of (view_row) (viewL_cons_of (view_int) viewL_nil_of)) ?_
    simp (disch := omega) only [Try.ntmps4, Try.results4, go_sem, beq_self_eq_true, bne_self_eq_false, decide_true, rr_eq, cutR_same, cutR_blk, cutR_other, xmap_skipI, xset_skipI, held_marks]
    exact Fin.val rfl
  rw [if_neg sM] at zM
  have hM : M.length ≤ 1048576 := by omega
  have hMr : ∀ i, i < M.length → (mrow M i).length ≤ 1048576 := fun i hi => by have := mrow_le hi; omega
  have wS := Try.specDeg_ok M hM hMr
  have wI := Try.implDeg_ok M hM hMr
  by_cases h : WM M
  · have wO := Try.implDeg_one M hM hMr h
    have hlen := degO_length h
    simp (disch := omega) only [Try.ntmps4, Try.results4, go_sem, beq_self_eq_true, bne_self_eq_false, decide_true, rr_eq, cutR_same, cutR_blk, cutR_other, xmap_skipI, xset_skipI, held_marks, hlen]
    refine zM.callV 0 (viewL_cons_of (view_row) (viewL_cons_of (view_int) viewL_nil_of)) ?_
    simp (disch := omega) only [Try.ntmps4, Try.results4, go_sem, beq_self_eq_true, bne_self_eq_false, decide_true, rr_eq, cutR_same, cutR_blk, cutR_other, xmap_skipI, xset_skipI, held_marks, hlen]
    refine (Try.toIntSS_ok M hM hMr).callV 0 (viewL_cons_of (view_row) viewL_nil_of) ?_
    simp (disch := omega) only [Try.ntmps4, Try.results4, go_sem, beq_self_eq_true, bne_self_eq_false, decide_true, rr_eq, cutR_same, cutR_blk, cutR_other, xmap_skipI, xset_skipI, held_marks, hlen]
    refine wS.callV 0 (viewL_cons_of (view_row) viewL_nil_of) ?_
    simp (disch := omega) only [Try.ntmps4, Try.results4, go_sem, beq_self_eq_true, bne_self_eq_false, decide_true, rr_eq, cutR_same, cutR_blk, cutR_other, xmap_skipI, xset_skipI, held_marks, hlen]
    refine (Try.toIntSS_one M hM hMr).callMat (mi_vals _) 2 (viewL_cons_of (view_row) viewL_nil_of) ?_
    simp (disch := omega) only [Try.ntmps4, Try.results4, go_sem, beq_self_eq_true, bne_self_eq_false, decide_true, rr_eq, cutR_same, cutR_blk, cutR_other, xmap_skipI, xset_skipI, held_marks, hlen]
    refine wO.callOne (ints_vals _) 2 (viewL_cons_of (view_mi (M := M) (by repeat (first | exact EntIn.self | refine EntIn.skipM ?_ (by simp only [mi_length]; omega) | refine EntIn.skipMM ?_ (by simp only [mi_length]; omega))) (by first | rfl | omega | (simp [marks_length]; done) | (simp [marks_length]; omega) | (rw [marksT_length] <;> omega) | (rw [marksC_length] <;> omega))) viewL_nil_of) ?_
    simp (disch := omega) only [Try.ntmps4, Try.results4, go_sem, beq_self_eq_true, bne_self_eq_false, decide_true, rr_eq, cutR_same, cutR_blk, cutR_other, xmap_skipI, xset_skipI, held_marks, hlen]
    refine (Try.eqIntS_ok (degO M) (degO M) (by first | omega | simp | (simp; omega)) (by first | omega | simp | (simp; omega))).callV 2 (viewL_cons_of (view_own (L := (degO M)) (e2 := false) (by first | rfl | (simp (disch := omega) only [hx_map, hp_map, xmap_blk, hmap_cons, xmap_skipI, xmap_nil, if_pos, if_neg, ↓reduceIte]; try rfl)) (by first | rfl | omega | (simp [marks_length]; done) | (simp [marks_length]; omega) | (rw [marksT_length] <;> omega) | (rw [marksC_length] <;> omega))) (viewL_cons_of (view_rowL (by first | rfl | omega | (simp [marks_length]; done) | (simp [marks_length]; omega) | (rw [marksT_length] <;> omega) | (rw [marksC_length] <;> omega))) viewL_nil_of)) ?_
    simp (disch := omega) only [Try.ntmps4, Try.results4, go_sem, beq_self_eq_true, bne_self_eq_false, decide_true, rr_eq, cutR_same, cutR_blk, cutR_other, xmap_skipI, xset_skipI, held_marks, hlen]
    refine (Try.toIntSS_ok M hM hMr).callV 2 (viewL_cons_of (view_row) viewL_nil_of) ?_
    simp (disch := omega) only [Try.ntmps4, Try.results4, go_sem, beq_self_eq_true, bne_self_eq_false, decide_true, rr_eq, cutR_same, cutR_blk, cutR_other, xmap_skipI, xset_skipI, held_marks, hlen]
    refine (Try.eqIntSS_ok M M hM hM hMr hMr).callV 2 (viewL_cons_of (view_mi (M := M) (by repeat (first | exact EntIn.self | refine EntIn.skipM ?_ (by simp only [mi_length]; omega) | refine EntIn.skipMM ?_ (by simp only [mi_length]; omega))) (by first | rfl | omega | (simp [marks_length]; done) | (simp [marks_length]; omega) | (rw [marksT_length] <;> omega) | (rw [marksC_length] <;> omega))) (viewL_cons_of (view_row) viewL_nil_of)) ?_
    simp (disch := omega) only [Try.ntmps4, Try.results4, go_sem, beq_self_eq_true, bne_self_eq_false, decide_true, rr_eq, cutR_same, cutR_blk, cutR_other, xmap_skipI, xset_skipI, held_marks, hlen]
    refine (Try.markIntSS_ok M (1) _ _ _ (by repeat (first | exact EntIn.self | refine EntIn.skipM ?_ (by simp only [mi_length]; omega) | refine EntIn.skipMM ?_ (by simp only [mi_length]; omega))) (by first | rfl | omega | (simp [marks_length]; done) | (simp [marks_length]; omega) | (rw [marksT_length] <;> omega) | (rw [marksC_length] <;> omega)) hM hMr (by omega) (by omega)).callDet ?_
    simp (disch := omega) only [Try.ntmps4, Try.results4, go_sem, beq_self_eq_true, bne_self_eq_false, decide_true, rr_eq, cutR_same, cutR_blk, cutR_other, xmap_skipI, xset_skipI, held_marks, hlen]
    refine (Try.eqIntS_ok (degO M) (degO M) (by first | omega | simp | (simp; omega)) (by first | omega | simp | (simp; omega))).callV 2 (viewL_cons_of (view_own (L := (degO M)) (e2 := false) (by first | rfl | (simp (disch := omega) only [hx_map, hp_map, xmap_blk, hmap_cons, xmap_skipI, xmap_nil, if_pos, if_neg, ↓reduceIte]; try rfl)) (by first | rfl | omega | (simp [marks_length]; done) | (simp [marks_length]; omega) | (rw [marksT_length] <;> omega) | (rw [marksC_length] <;> omega))) (viewL_cons_of (view_rowL (by first | rfl | omega | (simp [marks_length]; done) | (simp [marks_length]; omega) | (rw [marksT_length] <;> omega) | (rw [marksC_length] <;> omega))) viewL_nil_of)) ?_
    simp (disch := omega) only [Try.ntmps4, Try.results4, go_sem, beq_self_eq_true, bne_self_eq_false, decide_true, rr_eq, cutR_same, cutR_blk, cutR_other, xmap_skipI, xset_skipI, held_marks, hlen]
    refine (Try.markIntS_ok (degO M) 1 _ _ _ _ false false (by first | rfl | (simp (disch := omega) only [hx_map, hp_map, xmap_blk, hmap_cons, xmap_skipI, xmap_nil, if_pos, if_neg, ↓reduceIte]; try rfl)) (by first | rfl | omega | (simp [marks_length]; done) | (simp [marks_length]; omega) | (rw [marksT_length] <;> omega) | (rw [marksC_length] <;> omega)) (by omega) (by omega) (by omega)).callDet ?_
    simp (disch := omega) only [Try.ntmps4, Try.results4, go_sem, beq_self_eq_true, bne_self_eq_false, decide_true, rr_eq, cutR_same, cutR_blk, cutR_other, xmap_skipI, xset_skipI, held_marks, hlen]
    refine (Try.heldIntS_ok (marks (M.length) 1) 1 (by rw [marks_length]; omega) (by omega) (by omega)).callV 2 (viewL_cons_of (view_own (L := marks _ 1) (e2 := false) (by first | rfl | (simp (disch := omega) only [hx_map, hp_map, xmap_blk, hmap_cons, xmap_skipI, xmap_nil, if_pos, if_neg, ↓reduceIte]; try rfl)) (by first | rfl | omega | (simp [marks_length]; done) | (simp [marks_length]; omega) | (rw [marksT_length] <;> omega) | (rw [marksC_length] <;> omega))) (viewL_cons_of (view_int) viewL_nil_of)) ?_
    simp (disch := omega) only [Try.ntmps4, Try.results4, go_sem, beq_self_eq_true, bne_self_eq_false, decide_true, rr_eq, cutR_same, cutR_blk, cutR_other, xmap_skipI, xset_skipI, held_marks, hlen]
    refine (Try.toIntSS_ok M hM hMr).callV 0 (viewL_cons_of (view_row) viewL_nil_of) ?_
    simp (disch := omega) only [Try.ntmps4, Try.results4, go_sem, beq_self_eq_true, bne_self_eq_false, decide_true, rr_eq, cutR_same, cutR_blk, cutR_other, xmap_skipI, xset_skipI, held_marks, hlen]
    refine wI.callV 2 (viewL_cons_of (view_row) viewL_nil_of) ?_
    simp (disch := omega) only [Try.ntmps4, Try.results4, go_sem, beq_self_eq_true, bne_self_eq_false, decide_true, rr_eq, cutR_same, cutR_blk, cutR_other, xmap_skipI, xset_skipI, held_marks, hlen]
    refine (Try.eqIntS_ok (degO M) (degO M) (by first | omega | simp | (simp; omega)) (by first | omega | simp | (simp; omega))).callV 2 (viewL_cons_of (view_rowL (by first | rfl | omega | (simp [marks_length]; done) | (simp [marks_length]; omega) | (rw [marksT_length] <;> omega) | (rw [marksC_length] <;> omega))) (viewL_cons_of (view_rowL (by first | rfl | omega | (simp [marks_length]; done) | (simp [marks_length]; omega) | (rw [marksT_length] <;> omega) | (rw [marksC_length] <;> omega))) viewL_nil_of)) ?_
    simp (disch := omega) only [Try.ntmps4, Try.results4, go_sem, beq_self_eq_true, bne_self_eq_false, decide_true, rr_eq, cutR_same, cutR_blk, cutR_other, xmap_skipI, xset_skipI, held_marks, hlen]
    refine (Try.heldIntS_ok (marks (M.length) 1) 1 (by rw [marks_length]; omega) (by omega) (by omega)).callV 2 (viewL_cons_of (view_own (L := marks _ 1) (e2 := false) (by first | rfl | (simp (disch := omega) only [hx_map, hp_map, xmap_blk, hmap_cons, xmap_skipI, xmap_nil, if_pos, if_neg, ↓reduceIte]; try rfl)) (by first | rfl | omega | (simp [marks_length]; done) | (simp [marks_length]; omega) | (rw [marksT_length] <;> omega) | (rw [marksC_length] <;> omega))) (viewL_cons_of (view_int) viewL_nil_of)) ?_
    simp (disch := omega) only [Try.ntmps4, Try.results4, go_sem, beq_self_eq_true, bne_self_eq_false, decide_true, rr_eq, cutR_same, cutR_blk, cutR_other, xmap_skipI, xset_skipI, held_marks, hlen]
    exact Fin.val rfl
  · have hnil := degO_f h
    have wN := Try.implDeg_n M hM hMr h
    rw [hnil] at wS wI
    have hheld : held [] 1 = 1 := by simp [held, marks]
    simp (disch := omega) only [Try.ntmps4, Try.results4, go_sem, beq_self_eq_true, bne_self_eq_false, decide_true, rr_eq, cutR_same, cutR_blk, cutR_other, xmap_skipI, xset_skipI, held_marks, hheld]
    refine zM.callV 0 (viewL_cons_of (view_row) (viewL_cons_of (view_int) viewL_nil_of)) ?_
    simp (disch := omega) only [Try.ntmps4, Try.results4, go_sem, beq_self_eq_true, bne_self_eq_false, decide_true, rr_eq, cutR_same, cutR_blk, cutR_other, xmap_skipI, xset_skipI, held_marks, hheld]
    refine (Try.toIntSS_ok M hM hMr).callV 0 (viewL_cons_of (view_row) viewL_nil_of) ?_
    simp (disch := omega) only [Try.ntmps4, Try.results4, go_sem, beq_self_eq_true, bne_self_eq_false, decide_true, rr_eq, cutR_same, cutR_blk, cutR_other, xmap_skipI, xset_skipI, held_marks, hheld]
    refine wS.callV 0 (viewL_cons_of (view_row) viewL_nil_of) ?_
    simp (disch := omega) only [Try.ntmps4, Try.results4, go_sem, beq_self_eq_true, bne_self_eq_false, decide_true, rr_eq, cutR_same, cutR_blk, cutR_other, xmap_skipI, xset_skipI, held_marks, hheld]
    refine (Try.toIntSS_one M hM hMr).callMat (mi_vals _) 2 (viewL_cons_of (view_row) viewL_nil_of) ?_
    simp (disch := omega) only [Try.ntmps4, Try.results4, go_sem, beq_self_eq_true, bne_self_eq_false, decide_true, rr_eq, cutR_same, cutR_blk, cutR_other, xmap_skipI, xset_skipI, held_marks, hheld]
    refine wN.callVal 2 (viewL_cons_of (view_mi (M := M) (by repeat (first | exact EntIn.self | refine EntIn.skipM ?_ (by simp only [mi_length]; omega) | refine EntIn.skipMM ?_ (by simp only [mi_length]; omega))) (by first | rfl | omega | (simp [marks_length]; done) | (simp [marks_length]; omega) | (rw [marksT_length] <;> omega) | (rw [marksC_length] <;> omega))) viewL_nil_of) ?_
    simp (disch := omega) only [Try.ntmps4, Try.results4, go_sem, beq_self_eq_true, bne_self_eq_false, decide_true, rr_eq, cutR_same, cutR_blk, cutR_other, xmap_skipI, xset_skipI, held_marks, hheld]
    refine (Try.eqIntS_ok [] [] (by first | omega | simp | (simp; omega)) (by first | omega | simp | (simp; omega))).callV 2 (viewL_cons_of (view_nil) (viewL_cons_of (view_rowL (by first | rfl | omega | (simp [marks_length]; done) | (simp [marks_length]; omega) | (rw [marksT_length] <;> omega) | (rw [marksC_length] <;> omega))) viewL_nil_of)) ?_
    simp (disch := omega) only [Try.ntmps4, Try.results4, go_sem, beq_self_eq_true, bne_self_eq_false, decide_true, rr_eq, cutR_same, cutR_blk, cutR_other, xmap_skipI, xset_skipI, held_marks, hheld]
    refine (Try.toIntSS_ok M hM hMr).callV 2 (viewL_cons_of (view_row) viewL_nil_of) ?_
    simp (disch := omega) only [Try.ntmps4, Try.results4, go_sem, beq_self_eq_true, bne_self_eq_false, decide_true, rr_eq, cutR_same, cutR_blk, cutR_other, xmap_skipI, xset_skipI, held_marks, hheld]
    refine (Try.eqIntSS_ok M M hM hM hMr hMr).callV 2 (viewL_cons_of (view_mi (M := M) (by repeat (first | exact EntIn.self | refine EntIn.skipM ?_ (by simp only [mi_length]; omega) | refine EntIn.skipMM ?_ (by simp only [mi_length]; omega))) (by first | rfl | omega | (simp [marks_length]; done) | (simp [marks_length]; omega) | (rw [marksT_length] <;> omega) | (rw [marksC_length] <;> omega))) (viewL_cons_of (view_row) viewL_nil_of)) ?_
    simp (disch := omega) only [Try.ntmps4, Try.results4, go_sem, beq_self_eq_true, bne_self_eq_false, decide_true, rr_eq, cutR_same, cutR_blk, cutR_other, xmap_skipI, xset_skipI, held_marks, hheld]
    refine (Try.markIntSS_ok M (1) _ _ _ (by repeat (first | exact EntIn.self | refine EntIn.skipM ?_ (by simp only [mi_length]; omega) | refine EntIn.skipMM ?_ (by simp only [mi_length]; omega))) (by first | rfl | omega | (simp [marks_length]; done) | (simp [marks_length]; omega) | (rw [marksT_length] <;> omega) | (rw [marksC_length] <;> omega)) hM hMr (by omega) (by omega)).callDet ?_
    simp (disch := omega) only [Try.ntmps4, Try.results4, go_sem, beq_self_eq_true, bne_self_eq_false, decide_true, rr_eq, cutR_same, cutR_blk, cutR_other, xmap_skipI, xset_skipI, held_marks, hheld]
    refine (Try.eqIntS_ok [] [] (by first | omega | simp | (simp; omega)) (by first | omega | simp | (simp; omega))).callV 2 (viewL_cons_of (view_nil) (viewL_cons_of (view_rowL (by first | rfl | omega | (simp [marks_length]; done) | (simp [marks_length]; omega) | (rw [marksT_length] <;> omega) | (rw [marksC_length] <;> omega))) viewL_nil_of)) ?_
    simp (disch := omega) only [Try.ntmps4, Try.results4, go_sem, beq_self_eq_true, bne_self_eq_false, decide_true, rr_eq, cutR_same, cutR_blk, cutR_other, xmap_skipI, xset_skipI, held_marks, hheld]
    refine (Try.markIntS_nil 1 _ (by omega) (by omega)).callDet ?_
    simp (disch := omega) only [Try.ntmps4, Try.results4, go_sem, beq_self_eq_true, bne_self_eq_false, decide_true, rr_eq, cutR_same, cutR_blk, cutR_other, xmap_skipI, xset_skipI, held_marks, hheld]
    refine (Try.heldIntS_ok [] 1 (by simp) (by omega) (by omega)).callV 2 (viewL_cons_of (view_nil) (viewL_cons_of (view_int) viewL_nil_of)) ?_
    simp (disch := omega) only [Try.ntmps4, Try.results4, go_sem, beq_self_eq_true, bne_self_eq_false, decide_true, rr_eq, cutR_same, cutR_blk, cutR_other, xmap_skipI, xset_skipI, held_marks, hheld]
    refine (Try.toIntSS_ok M hM hMr).callV 0 (viewL_cons_of (view_row) viewL_nil_of) ?_
    simp (disch := omega) only [Try.ntmps4, Try.results4, go_sem, beq_self_eq_true, bne_self_eq_false, decide_true, rr_eq, cutR_same, cutR_blk, cutR_other, xmap_skipI, xset_skipI, held_marks, hheld]
    refine wI.callV 2 (viewL_cons_of (view_row) viewL_nil_of) ?_
    simp (disch := omega) only [Try.ntmps4, Try.results4, go_sem, beq_self_eq_true, bne_self_eq_false, decide_true, rr_eq, cutR_same, cutR_blk, cutR_other, xmap_skipI, xset_skipI, held_marks, hheld]
    refine (Try.eqIntS_ok [] [] (by first | omega | simp | (simp; omega)) (by first | omega | simp | (simp; omega))).callV 2 (viewL_cons_of (view_rowL (by first | rfl | omega | (simp [marks_length]; done) | (simp [marks_length]; omega) | (rw [marksT_length] <;> omega) | (rw [marksC_length] <;> omega))) (viewL_cons_of (view_rowL (by first | rfl | omega | (simp [marks_length]; done) | (simp [marks_length]; omega) | (rw [marksT_length] <;> omega) | (rw [marksC_length] <;> omega))) viewL_nil_of)) ?_
    simp (disch := omega) only [Try.ntmps4, Try.results4, go_sem, beq_self_eq_true, bne_self_eq_false, decide_true, rr_eq, cutR_same, cutR_blk, cutR_other, xmap_skipI, xset_skipI, held_marks, hheld]
    refine (Try.heldIntS_ok [] 1 (by simp) (by omega) (by omega)).callV 2 (viewL_cons_of (view_nil) (viewL_cons_of (view_int) viewL_nil_of)) ?_
    simp (disch := omega) only [Try.ntmps4, Try.results4, go_sem, beq_self_eq_true, bne_self_eq_false, decide_true, rr_eq, cutR_same, cutR_blk, cutR_other, xmap_skipI, xset_skipI, held_marks, hheld]
    exact Fin.val rfl
end Go.Sh
