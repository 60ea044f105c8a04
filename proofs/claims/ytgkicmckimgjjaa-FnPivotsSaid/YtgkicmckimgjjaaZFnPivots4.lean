/-
  Texts put together: Z3, M1, AD1, AD2, BA3, DA1, DA2, DA3, DA4, R1, DA5, BA4, BA5, BA6, BA7, R2, DA6. What each proves stands at its own head, with its conditions.
-/
import Derived.Test.YtgkicmckimgjjaaZFnPivots3

/-
  Contracts: pivots, of the reference; both as one.
-/
namespace Go.Sh
set_option linter.unusedSimpArgs false
set_option linter.unusedVariables false
open Go Go.Proofs

def pvk (M : List (List Int)) (Q : List Int) (p i k : Nat) : List Int := gen M.length fun x => if x < k ∧ Q.getD x 0 < 0 ∧ (x = p ∨ 0 < mat M p x) then (i : Int) else Q.getD x 0
theorem pvk_zero {M : List (List Int)} {Q : List Int} {p i : Nat} (hl : Q.length = M.length) : pvk M Q p i 0 = Q := by
  rw [pvk, gen_self hl]
  refine gen_congr fun x hx => ?_
  rw [if_neg (by omega), gen_at hx]
theorem pvk_self {M : List (List Int)} {Q : List Int} {p i k : Nat} (h : k < M.length) : (pvk M Q p i k).getD k 0 = Q.getD k 0 := by rw [pvk, gen_at h, if_neg (by omega)]
theorem pvk_put {M : List (List Int)} {Q : List Int} {p i k : Nat} (hk : k < M.length) (h : Q.getD k 0 < 0 ∧ (k = p ∨ 0 < mat M p k)) : (pvk M Q p i k).set k i = pvk M Q p i (k + 1) := by
  rw [pvk, gen_set hk, pvk]
  refine gen_congr fun x hx => ?_
  by_cases e : x = k
  · subst e; rw [if_pos rfl, if_pos ⟨by omega, h⟩]
  · rw [if_neg e]
    by_cases hc : x < k ∧ Q.getD x 0 < 0 ∧ (x = p ∨ 0 < mat M p x)
    · rw [if_pos hc, if_pos ⟨by omega, hc.2⟩]
    · rw [if_neg hc, if_neg (fun g => hc ⟨by omega, g.2⟩)]
theorem pvk_skip {M : List (List Int)} {Q : List Int} {p i k : Nat} (h : ¬ (Q.getD k 0 < 0 ∧ (k = p ∨ 0 < mat M p k))) : pvk M Q p i k = pvk M Q p i (k + 1) := by
  refine gen_congr fun x hx => ?_
  by_cases e : x = k
  · subst e; rw [if_neg (by omega), if_neg (fun g => h g.2)]
  · by_cases hc : x < k ∧ Q.getD x 0 < 0 ∧ (x = p ∨ 0 < mat M p x)
    · rw [if_pos hc, if_pos ⟨by omega, hc.2⟩]
    · rw [if_neg hc, if_neg (fun g => hc ⟨by omega, g.2⟩)]
theorem pvk_all {M : List (List Int)} {Q : List Int} {p i : Nat} : pvk M Q p i M.length = gen M.length fun x => if Q.getD x 0 < 0 ∧ (x = p ∨ 0 < mat M p x) then (i : Int) else Q.getD x 0 := by
  refine gen_congr fun x hx => ?_
  by_cases hc : Q.getD x 0 < 0 ∧ (x = p ∨ 0 < mat M p x)
  · rw [if_pos hc, if_pos ⟨hx, hc⟩]
  · rw [if_neg hc, if_neg (fun g => hc g.2)]

set_option maxRecDepth 20000 in
set_option maxHeartbeats 8000000 in
theorem Try.specPiv_f (M : List (List Int)) (O : List Int) (hM : M.length ≤ 1048576) (hR : ∀ i, i < M.length → (mrow M i).length ≤ 1048576) (hO : O.length ≤ 1048576) (h : WM M ∧ isOrd M.length O = true) : FCall Try.prog 47 [rr M, ri O] (FlatRes M.length 1 (ints (piv M O))) := by
  obtain ⟨hw, hord⟩ := h
  obtain ⟨h1, h2, h3, h4⟩ := ord_t hord
  have w1 := Try.specIsWM_ok M hM hR
  rw [isWM_t hw] at w1
  have w2 := Try.specIsOrder_ok M.length O hO (by omega) (by omega)
  rw [hord] at w2
  have hpl : ∀ i, (pv M O i).length = M.length := pv_length M O
  have w4 := (Try.specCanon_f (pv M O O.length) (by rw [hpl]; omega)).one
  rw [hpl, ← piv_t ⟨hw, hord⟩] at w4
  refine FCall.of_body Try.func47 rfl (by kernel_rfl) (by simp [Try.ntmps47]) ?_
  refine SW_of_vc Try.mixed _ _ _ (by kernel_rfl) ?_
  simp (disch := omega) only [Try.ntmps47, Try.results47, go_sem, rr_eq]
  refine w1.callV 0 (viewL_cons_of (view_row) viewL_nil_of) ?_
  simp (disch := omega) only [Try.ntmps47, Try.results47, go_sem, rr_eq]
  refine w2.callV 0 (viewL_cons_of (view_int) (viewL_cons_of (view_rowL (by first | rfl | simp [marks_length, canon_length] | omega)) viewL_nil_of)) ?_
  simp (disch := omega) only [Try.ntmps47, Try.results47, go_sem, rr_eq]
  refine LoopW.loop (fun p : Nat × Nat × Nat => ⟨ofL [(0, rr M), (1, ri O), (5, .own p.2.1 0 p.1 p.1 1 false), (6, .val (.int .i64 p.1))], hp [(p.2.1, ⟨ints (List.replicate p.1 (-1)), false⟩)] p.2.2⟩) (fun p => p.1 ≤ M.length ∧ p.2.1 < p.2.2) (fun p => M.length - p.1) (0, 0, 1) ⟨by simp, by simp⟩
    (Wk.ofH (by simp only [go_sem, ↓List.forall_mem_cons, List.not_mem_nil, false_implies, implies_true, and_true, true_and, and_self, ri_eq, Int.natCast_add, Int.cast_ofNat_Int, rr_eq]; try simp) (by simp (disch := omega) only [go_sem, ↓List.forall_mem_cons, List.not_mem_nil, false_implies, implies_true, and_true, true_and, and_self, ri_eq, Int.natCast_add, Int.cast_ofNat_Int, if_pos, if_neg, Nat.reduceAdd, List.nil_append, List.replicate_zero, ints_nil]; try simp) (by simp [hp])) ?_
  rintro ⟨k, b, nb⟩ ⟨hk, hb⟩
  simp only at hk hb
  refine SW_of_vc Try.mixed _ _ _ (by kernel_rfl) ?_
  by_cases hlt : k < M.length
  · have hl := rep_snoc k (-1)
    have ht : (ints (List.replicate k (-1))).take k = ints (List.replicate k (-1)) := ints_take_of (by simp)
    simp (disch := omega) only [Try.ntmps47, Try.results47, go_sem, rr_eq, List.length_replicate, ht]
    refine ⟨(k + 1, nb + 1, nb + 1 + 1), ⟨hlt, by simp⟩, by show M.length - (k + 1) < M.length - k; omega, ?_⟩
    exact Wk.ofH (by simp only [go_sem, ↓List.forall_mem_cons, List.not_mem_nil, false_implies, implies_true, and_true, true_and, and_self, ri_eq, Int.natCast_add, Int.cast_ofNat_Int, rr_eq]; try simp) (by simp (disch := omega) only [go_sem, ↓List.forall_mem_cons, List.not_mem_nil, false_implies, implies_true, and_true, true_and, and_self, ri_eq, Int.natCast_add, Int.cast_ofNat_Int, if_pos, if_neg, Nat.reduceAdd, List.nil_append, hl]; try simp) (by simp [hp])
  obtain rfl : k = M.length := by omega
  simp (disch := omega) only [Try.ntmps47, Try.results47, go_sem, rr_eq]
  refine LoopW.loop (fun i : Nat => ⟨ofL [(0, rr M), (1, ri O), (5, .own b 0 M.length M.length 1 false), (7, .val (.int .i64 i))], hp [(b, ⟨ints (pv M O i), false⟩)] nb⟩) (fun i => i ≤ O.length) (fun i => O.length - i) 0 (by omega)
    (Wk.ofH (by simp only [go_sem, ↓List.forall_mem_cons, List.not_mem_nil, false_implies, implies_true, and_true, true_and, and_self, ri_eq, Int.natCast_add, Int.cast_ofNat_Int, rr_eq]; try simp) (by simp (disch := omega) only [go_sem, ↓List.forall_mem_cons, List.not_mem_nil, false_implies, implies_true, and_true, true_and, and_self, ri_eq, Int.natCast_add, Int.cast_ofNat_Int, if_pos, if_neg, Nat.reduceAdd, List.nil_append, pv]; try simp) (Nat.le_refl _)) ?_
  intro i hi
  have hl := hpl i
  refine SW_of_vc Try.mixed _ _ _ (by kernel_rfl) ?_
  by_cases hlti : i < O.length
  case neg =>
    obtain rfl : i = O.length := by omega
    simp (disch := omega) only [Try.ntmps47, Try.results47, go_sem, rr_eq]
    refine w4.callOne (ints_vals _) 1 (viewL_cons_of (view_own (e2 := false) (by rw [hp_map, hmap_cons, if_pos rfl]) hl.symm) viewL_nil_of) ?_
    simp (disch := omega) only [Try.ntmps47, Try.results47, go_sem, rr_eq]
    exact fin_ints (piv_length ⟨hw, hord⟩).symm (by rw [hp_map, hmap_cons, if_pos rfl])
  obtain ⟨p, hpp⟩ := Int.eq_ofNat_of_zero_le (h3 i hlti).1
  have hpM : p < M.length := by have := (h3 i hlti).2; omega
  have g1 := ints_get hlti
  rw [hpp] at g1
  have g2 : (ints (pv M O i))[p]? = some (.val (.int .i64 ((pv M O i).getD p 0))) := ints_get' hl hpM
  by_cases hs : 0 ≤ (pv M O i).getD p 0
  · have hskip := pv_skip (M := M) hpp hs
    generalize (pv M O i).getD p 0 = v at *
    simp (disch := omega) only [Try.ntmps47, Try.results47, go_sem, rr_eq, g1, g2, hl]
    exact ⟨i + 1, hlti, by omega, Wk.ofH (by simp only [go_sem, ↓List.forall_mem_cons, List.not_mem_nil, false_implies, implies_true, and_true, true_and, and_self, ri_eq, Int.natCast_add, Int.cast_ofNat_Int, rr_eq]; try simp) (by simp (disch := omega) only [go_sem, ↓List.forall_mem_cons, List.not_mem_nil, false_implies, implies_true, and_true, true_and, and_self, ri_eq, Int.natCast_add, Int.cast_ofNat_Int, if_pos, if_neg, Nat.reduceAdd, List.nil_append, hskip]; try simp) (Nat.le_refl _)⟩
  · have hend := pvk_all (M := M) (Q := pv M O i) (p := p) (i := i)
    rw [← pv_step hpp (by omega)] at hend
    have hz := pvk_zero (p := p) (i := i) hl
    have hrp := hw.2.1 p hpM
    have hkl : ∀ k, (pvk M (pv M O i) p i k).length = M.length := fun k => gen_length _ _
    have hks := fun k hk => pvk_self (Q := pv M O i) (p := p) (i := i) (k := k) (M := M) hk
    generalize hv : (pv M O i).getD p 0 = v at *
    simp (disch := omega) only [Try.ntmps47, Try.results47, go_sem, rr_eq, g1, g2, hl]
    refine LoopW.loop (fun k : Nat => ⟨ofL [(0, rr M), (1, ri O), (5, .own b 0 M.length M.length 1 false), (7, .val (.int .i64 i)), (8, .val (.int .i64 p)), (9, .val (.int .i64 k))], hp [(b, ⟨ints (pvk M (pv M O i) p i k), false⟩)] nb⟩) (fun k => k ≤ M.length) (fun k => M.length - k) 0 (by omega)
      (Wk.ofH (by simp only [go_sem, ↓List.forall_mem_cons, List.not_mem_nil, false_implies, implies_true, and_true, true_and, and_self, ri_eq, Int.natCast_add, Int.cast_ofNat_Int, rr_eq]; try simp) (by simp (disch := omega) only [go_sem, ↓List.forall_mem_cons, List.not_mem_nil, false_implies, implies_true, and_true, true_and, and_self, ri_eq, Int.natCast_add, Int.cast_ofNat_Int, if_pos, if_neg, Nat.reduceAdd, List.nil_append, hz]; try simp) (Nat.le_refl _)) ?_
    clear g2 hl hv
    intro k hk
    have hl := hkl k
    refine SW_of_vc Try.mixed _ _ _ (by kernel_rfl) ?_
    by_cases hlk : k < M.length
    · have g3 : (ints (mrow M p))[k]? = some (.val (.int .i64 (mat M p k))) := ints_get' hrp hlk
      have g4 : (ints (pvk M (pv M O i) p i k))[k]? = some (.val (.int .i64 ((pvk M (pv M O i) p i k).getD k 0))) := ints_get' hl hlk
      rw [hks k hlk] at g4
      have hput := pvk_put (Q := pv M O i) (p := p) (i := i) hlk
      have hsk := pvk_skip (M := M) (Q := pv M O i) (p := p) (i := i) (k := k)
      clear hks hkl hend hz
      generalize (pv M O i).getD k 0 = u at *
      by_cases e1 : u < 0
      · by_cases e2 : k = p
        · have hput := hput ⟨e1, .inl e2⟩
          simp (disch := omega) only [Try.ntmps47, Try.results47, go_sem, rr_eq, g4, hl, hput]
          exact ⟨k + 1, hlk, by omega, Wk.ofH (by simp only [go_sem, ↓List.forall_mem_cons, List.not_mem_nil, false_implies, implies_true, and_true, true_and, and_self, ri_eq, Int.natCast_add, Int.cast_ofNat_Int, rr_eq]; try simp) (by simp (disch := omega) only [go_sem, ↓List.forall_mem_cons, List.not_mem_nil, false_implies, implies_true, and_true, true_and, and_self, ri_eq, Int.natCast_add, Int.cast_ofNat_Int, if_pos, if_neg, Nat.reduceAdd, List.nil_append]; try simp) (Nat.le_refl _)⟩
        · by_cases e3 : 0 < mat M p k
          · have hput := hput ⟨e1, .inr e3⟩
            generalize mat M p k = mm at *
            simp (disch := omega) only [Try.ntmps47, Try.results47, go_sem, rr_eq, g3, g4, hl, hput, rows_get, hrp]
            exact ⟨k + 1, hlk, by omega, Wk.ofH (by simp only [go_sem, ↓List.forall_mem_cons, List.not_mem_nil, false_implies, implies_true, and_true, true_and, and_self, ri_eq, Int.natCast_add, Int.cast_ofNat_Int, rr_eq]; try simp) (by simp (disch := omega) only [go_sem, ↓List.forall_mem_cons, List.not_mem_nil, false_implies, implies_true, and_true, true_and, and_self, ri_eq, Int.natCast_add, Int.cast_ofNat_Int, if_pos, if_neg, Nat.reduceAdd, List.nil_append]; try simp) (Nat.le_refl _)⟩
          · have hsk := hsk (fun g => g.2.elim e2 e3)
            generalize mat M p k = mm at *
            simp (disch := omega) only [Try.ntmps47, Try.results47, go_sem, rr_eq, g3, g4, hl, rows_get, hrp]
            exact ⟨k + 1, hlk, by omega, Wk.ofH (by simp only [go_sem, ↓List.forall_mem_cons, List.not_mem_nil, false_implies, implies_true, and_true, true_and, and_self, ri_eq, Int.natCast_add, Int.cast_ofNat_Int, rr_eq]; try simp) (by simp (disch := omega) only [go_sem, ↓List.forall_mem_cons, List.not_mem_nil, false_implies, implies_true, and_true, true_and, and_self, ri_eq, Int.natCast_add, Int.cast_ofNat_Int, if_pos, if_neg, Nat.reduceAdd, List.nil_append, ← hsk]; try simp) (Nat.le_refl _)⟩
      · have hsk := hsk (fun g => e1 g.1)
        simp (disch := omega) only [Try.ntmps47, Try.results47, go_sem, rr_eq, g4, hl]
        exact ⟨k + 1, hlk, by omega, Wk.ofH (by simp only [go_sem, ↓List.forall_mem_cons, List.not_mem_nil, false_implies, implies_true, and_true, true_and, and_self, ri_eq, Int.natCast_add, Int.cast_ofNat_Int, rr_eq]; try simp) (by simp (disch := omega) only [go_sem, ↓List.forall_mem_cons, List.not_mem_nil, false_implies, implies_true, and_true, true_and, and_self, ri_eq, Int.natCast_add, Int.cast_ofNat_Int, if_pos, if_neg, Nat.reduceAdd, List.nil_append, ← hsk]; try simp) (Nat.le_refl _)⟩
    · obtain rfl : k = M.length := by omega
      rw [hend]
      simp (disch := omega) only [Try.ntmps47, Try.results47, go_sem, rr_eq]
      exact ⟨i + 1, hlti, by omega, Wk.ofH (by simp only [go_sem, ↓List.forall_mem_cons, List.not_mem_nil, false_implies, implies_true, and_true, true_and, and_self, ri_eq, Int.natCast_add, Int.cast_ofNat_Int, rr_eq]; try simp) (by simp (disch := omega) only [go_sem, ↓List.forall_mem_cons, List.not_mem_nil, false_implies, implies_true, and_true, true_and, and_self, ri_eq, Int.natCast_add, Int.cast_ofNat_Int, if_pos, if_neg, Nat.reduceAdd, List.nil_append]; try simp) (Nat.le_refl _)⟩
theorem Try.specPiv_not (M : List (List Int)) (O : List Int) (hM : M.length ≤ 1048576) (hR : ∀ i, i < M.length → (mrow M i).length ≤ 1048576) (hO : O.length ≤ 1048576) (h : ¬ (WM M ∧ isOrd M.length O = true)) : FCall Try.prog 47 [rr M, ri O] (FlatRes 0 1 (ints [])) := by
  have w1 := Try.specIsWM_ok M hM hR
  refine FCall.of_body Try.func47 rfl (by kernel_rfl) (by simp [Try.ntmps47]) ?_
  refine SW_of_vc Try.mixed _ _ _ (by kernel_rfl) ?_
  by_cases hw : WM M
  · have w2 := Try.specIsOrder_ok M.length O hO (by omega) (by omega)
    have hn : isOrd M.length O = false := by
      rcases Bool.eq_false_or_eq_true (isOrd M.length O) with g | g
      · exact absurd ⟨hw, g⟩ h
      · exact g
    rw [hn] at w2
    rw [isWM_t hw] at w1
    simp (disch := omega) only [Try.ntmps47, Try.results47, go_sem, rr_eq]
    refine w1.callV 0 (viewL_cons_of (view_row) viewL_nil_of) ?_
    simp (disch := omega) only [Try.ntmps47, Try.results47, go_sem, rr_eq]
    refine w2.callV 0 (viewL_cons_of (view_int) (viewL_cons_of (view_rowL (by first | rfl | simp [marks_length, canon_length] | omega)) viewL_nil_of)) ?_
    simp (disch := omega) only [Try.ntmps47, Try.results47, go_sem, rr_eq]
    exact fin_ints (L := []) (b := 0) (e2 := false) rfl rfl
  · rw [isWM_f hw] at w1
    simp (disch := omega) only [Try.ntmps47, Try.results47, go_sem, rr_eq]
    refine w1.callV 0 (viewL_cons_of (view_row) viewL_nil_of) ?_
    simp (disch := omega) only [Try.ntmps47, Try.results47, go_sem, rr_eq]
    exact fin_ints (L := []) (b := 0) (e2 := false) rfl rfl
theorem Try.implPiv_nil (M : List (List Int)) (O : List Int) (hM : M.length ≤ 1048576) (hR : ∀ i, i < M.length → (mrow M i).length ≤ 1048576) (hO : O.length ≤ 1048576) (h : ¬ (WM M ∧ isOrd M.length O = true)) : FCall Try.prog 43 [rr M, ri O] (fun r _ => r = .val (.slice none 0 0)) := by
  have w1 := Try.implIsWM_ok M hM hR
  refine FCall.of_body Try.func43 rfl (by kernel_rfl) (by simp [Try.ntmps43]) ?_
  refine SW_of_vc Try.mixed _ _ _ (by kernel_rfl) ?_
  by_cases hw : WM M
  · have w2 := Try.implIsOrder_ok M.length O hO
    have hn : isOrd M.length O = false := by
      rcases Bool.eq_false_or_eq_true (isOrd M.length O) with g | g
      · exact absurd ⟨hw, g⟩ h
      · exact g
    rw [hn] at w2
    rw [isWM_t hw] at w1
    simp (disch := omega) only [Try.ntmps43, Try.results43, go_sem, rr_eq]
    refine w1.callV 0 (viewL_cons_of (view_row) viewL_nil_of) ?_
    simp (disch := omega) only [Try.ntmps43, Try.results43, go_sem, rr_eq]
    refine w2.callV 0 (viewL_cons_of (view_int) (viewL_cons_of (view_rowL (by first | rfl | simp [marks_length, canon_length] | omega)) viewL_nil_of)) ?_
    simp (disch := omega) only [Try.ntmps43, Try.results43, go_sem, rr_eq]
    exact Fin.val rfl
  · rw [isWM_f hw] at w1
    simp (disch := omega) only [Try.ntmps43, Try.results43, go_sem, rr_eq]
    refine w1.callV 0 (viewL_cons_of (view_row) viewL_nil_of) ?_
    simp (disch := omega) only [Try.ntmps43, Try.results43, go_sem, rr_eq]
    exact Fin.val rfl
theorem Try.specPiv_ok (M : List (List Int)) (O : List Int) (hM : M.length ≤ 1048576) (hR : ∀ i, i < M.length → (mrow M i).length ≤ 1048576) (hO : O.length ≤ 1048576) : PCall Try.prog 47 [rr M, ri O] (ri (piv M O)) := by
  by_cases h : WM M ∧ isOrd M.length O = true
  · exact (Try.specPiv_f M O hM hR hO h).pcall 2 (fun _ _ h => flat_view h)
  · rw [piv_f h]; exact (Try.specPiv_not M O hM hR hO h).pcall 2 (fun _ _ h => flat_view h)
theorem Try.implPiv_one (M : List (List Int)) (O : List Int) (hM : M.length ≤ 1048576) (hR : ∀ i, i < M.length → (mrow M i).length ≤ 1048576) (hO : O.length ≤ 1048576) (h : WM M ∧ isOrd M.length O = true) : FCall Try.prog 43 [rr M, ri O] (OneRes M.length 1 (ints (piv M O))) := (Try.implPiv_f M O hM hR hO h).one
theorem Try.implPiv_ok (M : List (List Int)) (O : List Int) (hM : M.length ≤ 1048576) (hR : ∀ i, i < M.length → (mrow M i).length ≤ 1048576) (hO : O.length ≤ 1048576) : PCall Try.prog 43 [rr M, ri O] (ri (piv M O)) := by
  by_cases h : WM M ∧ isOrd M.length O = true
  · exact (Try.implPiv_f M O hM hR hO h).pcall 2 (fun _ _ h => flat_view h)
  · rw [piv_f h]; exact (Try.implPiv_nil M O hM hR hO h).pcall 0 (by rintro r H rfl; exact view_nil)
end Go.Sh

/-
  Contracts: an item moved to another block. Of the program.
-/
namespace Go.Sh
set_option linter.unusedSimpArgs false
set_option linter.unusedVariables false
open Go Go.Proofs

def top (L : List Int) (k : Nat) : Int := (L.take k).foldl max (-1)
theorem top_zero (L : List Int) : top L 0 = -1 := rfl
theorem top_succ {L : List Int} {k : Nat} (h : k < L.length) : top L (k + 1) = max (top L k) (L.getD k 0) := by
  rw [top, List.take_succ_eq_append_getElem h, List.foldl_append]
  simp [top, h]
theorem top_ge (L : List Int) : ∀ k, k ≤ L.length → -1 ≤ top L k
  | 0, _ => by rw [top_zero]; omega
  | k + 1, h => by
    have := top_ge L k (by omega)
    rw [top_succ (by omega)]; omega
theorem top_part {L : List Int} (h : isPart L = true) : ∀ k, k ≤ L.length → top L k ≤ 7
  | 0, _ => by rw [top_zero]; omega
  | k + 1, hk => by
    have := top_part h k (by omega)
    have := (isPart_bound h (i := k) (by omega)).2
    rw [top_succ (by omega)]; omega
def moveOk (L : List Int) (it bl : Int) : Bool := isPart L && (inR it 0 ((L.length : Int) - 1) && inR bl 0 (top L L.length + 1))
def moveTo (L : List Int) (it bl : Int) : List Int := if moveOk L it bl = true then canon (L.set it.toNat bl) else L
theorem moveTo_length (L : List Int) (it bl : Int) : (moveTo L it bl).length = L.length := by
  unfold moveTo
  split
  · rw [canon_length]; simp
  · rfl

theorem Try.clone_f (L : List Int) (hL : L.length ≤ 1048576) (h0 : 0 < L.length) : FCall Try.prog 153 [ri L] (FlatRes L.length 1 (ints L)) := by
  have hf := ints_flat L
  refine FCall.of_body Try.func153 rfl (by kernel_rfl) (by simp [Try.ntmps153]) ?_
  refine SW_of_vc Try.mixed _ _ _ (by kernel_rfl) ?_
  simp (disch := omega) only [Try.ntmps153, Try.results153, go_sem, hf]
  exact fin_ints rfl (by rw [hp_map, hmap_cons, if_pos rfl])

/-- Of an empty slice that is not nil. -/
theorem Try.clone_0 (H : Heap) (b cap : Nat) (ex e2 : Bool) (hb : H.map b = some ⟨ints [], e2⟩) (hbn : b ≠ H.nb) : CallS Try.prog 153 [.own b 0 0 cap 1 ex] H (fun r H' => r = .own H.nb 0 0 0 1 false ∧ H' = H.push ⟨[], false⟩) := by
  refine CallS.of_body Try.func153 rfl (by kernel_rfl) (by simp [Try.ntmps153]) ?_
  refine SW_of_vc Try.mixed _ _ _ (by kernel_rfl) ?_
  have p1 : (H.push ⟨[], false⟩).map H.nb = some ⟨[], false⟩ := by simp [Heap.push]
  have p2 : (H.push ⟨[], false⟩).map b = some ⟨ints [], e2⟩ := by simp [Heap.push, hbn, hb]
  simp (disch := omega) only [Try.ntmps153, Try.results153, go_sem, hb, p1, p2]

theorem fin_tup {n z cap b : Nat} {ex e2 : Bool} {cs : List SV} {u : Value} {H : Heap} (hn : cs.length = n * z) (hv : cs.all isVal = true) (hb : H.map b = some ⟨cs, e2⟩) :
    Fin (fun r H => ∃ r0, r = .tup [r0, .val u] ∧ FlatRes n z cs r0 H) (.tup [.own b 0 n cap z ex, .val u]) H := by
  obtain ⟨H2, h1, _, h3, h4⟩ := flat_fin (ex := ex) (cap := cap) hn hv hb
  exact ⟨H2, h1, by simp [noRow, noRowL], h3, _, rfl, h4⟩

end Go.Sh

/-
  The best of the orders that begin with each item: plain; of the reference.
-/
namespace Go.Sh
set_option linter.unusedSimpArgs false
set_option linter.unusedVariables false
open Go Go.Proofs

theorem rep_none (zs : List SV) : rep zs 0 = [] := rfl
/-- The first k items of the order that begins with s. -/
def rot (n s k : Nat) : List Int := (List.range k).map fun i => (((s + i) % n : Nat) : Int)
theorem rot_length (n s k : Nat) : (rot n s k).length = k := by simp [rot]
theorem rot_succ (n s k : Nat) : rot n s (k + 1) = rot n s k ++ [(((s + k) % n : Nat) : Int)] := by simp [rot, List.range_succ]
theorem rot_snoc (n s k : Nat) : ints (rot n s k) ++ [.val (.int .i64 (((s + k) % n : Nat) : Int))] = ints (rot n s (k + 1)) := by rw [rot_succ]; simp [ints]
theorem rot_ord {n s : Nat} (h0 : 1 ≤ n) (h8 : n ≤ 8) (hs : s < n) : isOrd n (rot n s n) = true := by
  have : ∀ n : _root_.Fin 9, ∀ s : _root_.Fin 9, 1 ≤ n.val → s.val < n.val → isOrd n.val (rot n.val s.val n.val) = true := by decide +kernel
  exact this ⟨n, by omega⟩ ⟨s, by omega⟩ h0 hs
noncomputable def bpv (M : List (List Int)) : Nat → List Int × Int
  | 0 => ([], -1)
  | s + 1 => if (bpv M s).2 < 0 ∨ cc M (piv M (rot M.length s M.length)) M.length < (bpv M s).2 then (piv M (rot M.length s M.length), cc M (piv M (rot M.length s M.length)) M.length) else bpv M s
theorem bpv_inv {M : List (List Int)} (hw : WM M) : ∀ s, s ≤ M.length → (s = 0 ∨ ((bpv M s).1.length = M.length ∧ 0 ≤ (bpv M s).2))
  | 0, _ => .inl rfl
  | s + 1, hs => by
    have ih := bpv_inv hw s (by omega)
    have hb := cc_b (L := piv M (rot M.length s M.length)) hw M.length (Nat.le_refl _)
    right
    rw [bpv]
    split
    · exact ⟨piv_length ⟨hw, rot_ord (by have := hw.1; omega) hw.1.2 (by omega)⟩, hb.1⟩
    · rename_i h
      rcases ih with rfl | ih
      · simp [bpv] at h
      · exact ih
theorem rot_mod (s k n : Nat) : ((s : Int) + (k : Int)).tmod (n : Int) = (((s + k) % n : Nat) : Int) := by
  rw [← Int.natCast_add]; exact (Int.ofNat_tmod _ _).symm
open Classical in
noncomputable def bp (M : List (List Int)) : List Int × Int := if WM M then bpv M M.length else ([], -1)
theorem bp_t {M : List (List Int)} (h : WM M) : bp M = bpv M M.length := by rw [bp, if_pos h]
theorem bp_f {M : List (List Int)} (h : ¬ WM M) : bp M = ([], -1) := by rw [bp, if_neg h]
abbrev BpR (p : List Int × Int) (r : SV) (H : Heap) : Prop := ∃ r0, r = .tup [r0, .val (.int .i64 p.2)] ∧ FlatRes p.1.length 1 (ints p.1) r0 H

set_option maxHeartbeats 4000000 in
theorem Try.specBP_f (M : List (List Int)) (hM : M.length ≤ 1048576) (hR : ∀ i, i < M.length → (mrow M i).length ≤ 1048576) : FCall Try.prog 45 [rr M] (BpR (bp M)) := by
  have w1 := Try.specIsWM_ok M hM hR
  refine FCall.of_body Try.func45 rfl (by kernel_rfl) (by simp [Try.ntmps45]) ?_
  refine SW_of_vc Try.mixed _ _ _ (by kernel_rfl) ?_
  by_cases hw : WM M
  case neg =>
    rw [isWM_f hw] at w1
    rw [bp_f hw]
    simp (disch := omega) only [Try.ntmps45, Try.results45, go_sem, rr_eq, rep_none]
    refine LoopW.loop (fun _ : Unit => ⟨ofL [(0, rr M), (4, .own 0 0 0 0 1 false), (5, .val (.int .i64 (-1))), (6, .val (.int .i64 0))], hp [(0, ⟨[], false⟩)] 1⟩) (fun _ => True) (fun _ => 0) () trivial (Wk.ofH (by simp only [go_sem, ↓List.forall_mem_cons, List.not_mem_nil, false_implies, implies_true, and_true, true_and, and_self, ri_eq, Int.natCast_add, Int.cast_ofNat_Int, rr_eq]; try simp) (by simp [hp, hmap, rep]) (by simp [hp])) ?_
    rintro _ _
    refine SW_of_vc Try.mixed _ _ _ (by kernel_rfl) ?_
    by_cases hz : 0 < M.length
    · simp (disch := omega) only [Try.ntmps45, Try.results45, go_sem, rr_eq]
      refine w1.callV 0 (viewL_cons_of (view_row) viewL_nil_of) ?_
      simp (disch := omega) only [Try.ntmps45, Try.results45, go_sem, rr_eq]
      exact fin_tup (by simp [ints]) (ints_vals _) (by rw [hp_map, hmap_cons, if_pos rfl]; rfl)
    · simp (disch := omega) only [Try.ntmps45, Try.results45, go_sem, rr_eq]
      exact fin_tup (by simp [ints]) (ints_vals _) (by rw [hp_map, hmap_cons, if_pos rfl]; rfl)
  rw [isWM_t hw] at w1
  rw [bp_t hw]
  have hln := hw.1
  simp (disch := omega) only [Try.ntmps45, Try.results45, go_sem, rr_eq, rep_none]
  refine LoopW.loop (fun p : Nat × Nat × Nat => ⟨ofL [(0, rr M), (4, .own p.2.1 0 (bpv M p.1).1.length (bpv M p.1).1.length 1 false), (5, .val (.int .i64 (bpv M p.1).2)), (6, .val (.int .i64 p.1))], hp [(p.2.1, ⟨ints (bpv M p.1).1, false⟩)] p.2.2⟩)
    (fun p => p.1 ≤ M.length ∧ p.2.1 < p.2.2) (fun p => M.length - p.1) (0, 0, 1) ⟨by simp, by simp⟩ (Wk.ofH (by simp only [go_sem, ↓List.forall_mem_cons, List.not_mem_nil, false_implies, implies_true, and_true, true_and, and_self, ri_eq, Int.natCast_add, Int.cast_ofNat_Int, rr_eq, bpv, List.length_nil]; try simp) (by simp [hp, hmap, rep, bpv, ints]) (by simp [hp])) ?_
  rintro ⟨s, ob, nb⟩ ⟨hs, hob⟩
  simp only at hs hob
  refine SW_of_vc Try.mixed _ _ _ (by kernel_rfl) ?_
  by_cases hlt : s < M.length
  case neg =>
    obtain rfl : s = M.length := by omega
    simp (disch := omega) only [Try.ntmps45, Try.results45, go_sem, rr_eq]
    exact fin_tup (by simp [ints]) (ints_vals _) (by rw [hp_map, hmap_cons, if_pos rfl])
  have hord := rot_ord (n := M.length) (s := s) (by omega) hw.1.2 hlt
  have hb := cc_b (L := piv M (rot M.length s M.length)) hw M.length (Nat.le_refl _)
  have hpl := piv_length ⟨hw, hord⟩
  have wp := (Try.specPiv_f M (rot M.length s M.length) hM hR (by rw [rot_length]; exact hM) ⟨hw, hord⟩).one
  have wc := Try.specCost_ok M (piv M (rot M.length s M.length)) hw hpl
  rw [hpl] at wc
  have hnext : bpv M (s + 1) = if (bpv M s).2 < 0 ∨ cc M (piv M (rot M.length s M.length)) M.length < (bpv M s).2 then (piv M (rot M.length s M.length), cc M (piv M (rot M.length s M.length)) M.length) else bpv M s := rfl
  generalize hb1 : bpv M (s + 1) = t2 at *
  generalize hb0 : bpv M s = t at *
  simp (disch := omega) only [Try.ntmps45, Try.results45, go_sem, rr_eq]
  refine w1.callV 0 (viewL_cons_of (view_row) viewL_nil_of) ?_
  simp (disch := omega) only [Try.ntmps45, Try.results45, go_sem, rr_eq, rep_none]
  refine LoopW.loop (fun p : Nat × Nat × Nat => ⟨ofL [(0, rr M), (4, .own ob 0 t.1.length t.1.length 1 false), (5, .val (.int .i64 t.2)), (6, .val (.int .i64 s)), (7, .own p.2.1 0 p.1 p.1 1 false), (8, .val (.int .i64 p.1))], hp [(p.2.1, ⟨ints (rot M.length s p.1), false⟩), (ob, ⟨ints t.1, false⟩)] p.2.2⟩)
    (fun p => p.1 ≤ M.length ∧ ob < p.2.1 ∧ p.2.1 < p.2.2) (fun p => M.length - p.1) (0, nb, nb + 1) ⟨by simp, hob, by simp⟩ (Wk.ofH (by simp only [go_sem, ↓List.forall_mem_cons, List.not_mem_nil, false_implies, implies_true, and_true, true_and, and_self, ri_eq, Int.natCast_add, Int.cast_ofNat_Int, rr_eq]; try simp) (by
      simp only [List.forall_mem_cons]
      refine ⟨by rw [hp_map, hmap_cons, if_pos rfl]; rfl, by simp (disch := omega) only [hp_map, hmap_cons, if_pos, if_neg, ↓reduceIte], by simp⟩) (Nat.le_refl _)) ?_
  rintro ⟨k, ob2, nb2⟩ ⟨hk, ho1, ho2⟩
  simp only at hk ho1 ho2
  refine SW_of_vc Try.mixed _ _ _ (by kernel_rfl) ?_
  have hrl := rot_length M.length s k
  by_cases hlt2 : k < M.length
  · have hm := rot_mod s k M.length
    have hsn := rot_snoc M.length s k
    have hlt3 : (s + k) % M.length < M.length := Nat.mod_lt _ (by omega)
    have hil : (ints (rot M.length s k)).length = k := by rw [ints_length, hrl]
    have hit : (ints (rot M.length s k)).take k = ints (rot M.length s k) := List.take_of_length_le (by omega)
    simp (disch := omega) only [Try.ntmps45, Try.results45, go_sem, rr_eq, hm, hil, hit, hsn]
    exact ⟨(k + 1, nb2 + 1, nb2 + 1 + 1), ⟨hlt2, by show ob < nb2 + 1; omega, by show nb2 + 1 < nb2 + 1 + 1; omega⟩, by show M.length - (k + 1) < M.length - k; omega, Wk.ofH (by simp only [go_sem, ↓List.forall_mem_cons, List.not_mem_nil, false_implies, implies_true, and_true, true_and, and_self, ri_eq, Int.natCast_add, Int.cast_ofNat_Int, rr_eq]; try simp) (by simp (disch := omega) only [go_sem, ↓List.forall_mem_cons, List.not_mem_nil, false_implies, implies_true, and_true, true_and, and_self, ri_eq, Int.natCast_add, Int.cast_ofNat_Int, if_pos, if_neg, Nat.reduceAdd, List.nil_append]; try simp) (Nat.le_refl _)⟩
  · obtain rfl : k = M.length := by omega
    by_cases hc : t.2 < 0
    · rw [if_pos (.inl hc)] at hnext
      subst hnext
      generalize piv M (rot M.length s M.length) = l at *
      generalize cc M l M.length = c at *
      simp (disch := omega) only [Try.ntmps45, Try.results45, go_sem, rr_eq]
      refine wp.callOne (ints_vals _) 2 (viewL_cons_of view_row (viewL_cons_of (view_own (by rw [hp_map, hmap_cons, if_pos rfl]) (by omega)) viewL_nil_of)) ?_
      simp (disch := omega) only [Try.ntmps45, Try.results45, go_sem, rr_eq]
      refine wc.callV 2 (viewL_cons_of view_row (viewL_cons_of (view_own (by rw [hp_map, hmap_cons, if_pos rfl]) (by omega)) viewL_nil_of)) ?_
      simp (disch := omega) only [Try.ntmps45, Try.results45, go_sem, rr_eq]
      exact ⟨(s + 1, nb2, nb2 + 1), ⟨hlt, by show nb2 < nb2 + 1; omega⟩, by show M.length - (s + 1) < M.length - s; omega, Wk.ofH (by simp only [go_sem, ↓List.forall_mem_cons, List.not_mem_nil, false_implies, implies_true, and_true, true_and, and_self, ri_eq, Int.natCast_add, Int.cast_ofNat_Int, rr_eq, hb1, hpl]; try simp) (by simp (disch := omega) only [go_sem, ↓List.forall_mem_cons, List.not_mem_nil, false_implies, implies_true, and_true, true_and, and_self, ri_eq, Int.natCast_add, Int.cast_ofNat_Int, if_pos, if_neg, Nat.reduceAdd, List.nil_append, hb1]; try simp) (Nat.le_refl _)⟩
    · by_cases hc2 : cc M (piv M (rot M.length s M.length)) M.length < t.2
      · rw [if_pos (.inr hc2)] at hnext
        subst hnext
        generalize piv M (rot M.length s M.length) = l at *
        generalize cc M l M.length = c at *
        simp (disch := omega) only [Try.ntmps45, Try.results45, go_sem, rr_eq]
        refine wp.callOne (ints_vals _) 2 (viewL_cons_of view_row (viewL_cons_of (view_own (by rw [hp_map, hmap_cons, if_pos rfl]) (by omega)) viewL_nil_of)) ?_
        simp (disch := omega) only [Try.ntmps45, Try.results45, go_sem, rr_eq]
        refine wc.callV 2 (viewL_cons_of view_row (viewL_cons_of (view_own (by rw [hp_map, hmap_cons, if_pos rfl]) (by omega)) viewL_nil_of)) ?_
        simp (disch := omega) only [Try.ntmps45, Try.results45, go_sem, rr_eq]
        exact ⟨(s + 1, nb2, nb2 + 1), ⟨hlt, by show nb2 < nb2 + 1; omega⟩, by show M.length - (s + 1) < M.length - s; omega, Wk.ofH (by simp only [go_sem, ↓List.forall_mem_cons, List.not_mem_nil, false_implies, implies_true, and_true, true_and, and_self, ri_eq, Int.natCast_add, Int.cast_ofNat_Int, rr_eq, hb1, hpl]; try simp) (by simp (disch := omega) only [go_sem, ↓List.forall_mem_cons, List.not_mem_nil, false_implies, implies_true, and_true, true_and, and_self, ri_eq, Int.natCast_add, Int.cast_ofNat_Int, if_pos, if_neg, Nat.reduceAdd, List.nil_append, hb1]; try simp) (Nat.le_refl _)⟩
      · rw [if_neg (fun h => h.elim hc hc2)] at hnext
        subst hnext
        generalize piv M (rot M.length s M.length) = l at *
        generalize cc M l M.length = c at *
        simp (disch := omega) only [Try.ntmps45, Try.results45, go_sem, rr_eq]
        refine wp.callOne (ints_vals _) 2 (viewL_cons_of view_row (viewL_cons_of (view_own (by rw [hp_map, hmap_cons, if_pos rfl]) (by omega)) viewL_nil_of)) ?_
        simp (disch := omega) only [Try.ntmps45, Try.results45, go_sem, rr_eq]
        refine wc.callV 2 (viewL_cons_of view_row (viewL_cons_of (view_own (by rw [hp_map, hmap_cons, if_pos rfl]) (by omega)) viewL_nil_of)) ?_
        simp (disch := omega) only [Try.ntmps45, Try.results45, go_sem, rr_eq]
        exact ⟨(s + 1, ob, nb2 + 1), ⟨hlt, by show ob < nb2 + 1; omega⟩, by show M.length - (s + 1) < M.length - s; omega, Wk.ofH (by simp only [go_sem, ↓List.forall_mem_cons, List.not_mem_nil, false_implies, implies_true, and_true, true_and, and_self, ri_eq, Int.natCast_add, Int.cast_ofNat_Int, rr_eq, hb1]; try simp) (by simp (disch := omega) only [go_sem, ↓List.forall_mem_cons, List.not_mem_nil, false_implies, implies_true, and_true, true_and, and_self, ri_eq, Int.natCast_add, Int.cast_ofNat_Int, if_pos, if_neg, Nat.reduceAdd, List.nil_append, hb1]; try simp) (Nat.le_refl _)⟩
end Go.Sh

/-
  The best of the orders that begin with each item: of the program.
-/
namespace Go.Sh
set_option linter.unusedSimpArgs false
set_option linter.unusedVariables false
open Go Go.Proofs

/-- A slice of ints that is nil as long as it is empty. -/
def nlI (b : Nat) (T : List Int) : SV := if T.length = 0 then .val (.slice none 0 0) else .own b 0 T.length T.length 1 false
def nlH (b : Nat) (T : List Int) : List (Nat × Blk) := if T.length = 0 then [] else [(b, ⟨ints T, false⟩)]
theorem nlI_f {b : Nat} {T : List Int} (h : T.length ≠ 0) : nlI b T = .own b 0 T.length T.length 1 false := if_neg h
theorem nlH_f {b : Nat} {T : List Int} (h : T.length ≠ 0) : nlH b T = [(b, ⟨ints T, false⟩)] := if_neg h
theorem nlI_t {b : Nat} {T : List Int} (h : T.length = 0) : nlI b T = .val (.slice none 0 0) := if_pos h
theorem nlH_t {b : Nat} {T : List Int} (h : T.length = 0) : nlH b T = [] := if_pos h
theorem nlH_in {b : Nat} {T : List Int} {H : Heap} (h : T.length ≠ 0 → H.map b = some ⟨ints T, false⟩) : ∀ q ∈ nlH b T, H.map q.1 = some q.2 := by
  intro q hq
  unfold nlH at hq
  split at hq
  · simp at hq
  · rename_i h0
    simp at hq; subst hq
    exact h h0
theorem nlH_map {b : Nat} {T : List Int} (h : T.length ≠ 0) : hmap (nlH b T) b = some ⟨ints T, false⟩ := by rw [nlH_f h, hmap_cons, if_pos rfl]

theorem nlI_nil (b : Nat) : nlI b [] = .val (.slice none 0 0) := rfl
theorem delB_nlH {b x : Nat} {T : List Int} (h : T.length ≠ 0 → b ≠ x) : delB (nlH b T) x = nlH b T := by
  by_cases h0 : T.length = 0
  · rw [nlH_t h0]; rfl
  · rw [nlH_f h0]; have := h h0; simp [delB, this]

set_option maxRecDepth 20000 in
set_option maxHeartbeats 8000000 in
theorem Try.implBP_f (M : List (List Int)) (hM : M.length ≤ 1048576) (hR : ∀ i, i < M.length → (mrow M i).length ≤ 1048576) (hw : WM M) : FCall Try.prog 44 [rr M] (BpR (bp M)) := by
  have w1 := Try.implIsWM_ok M hM hR
  rw [isWM_t hw] at w1
  rw [bp_t hw]
  have hln := hw.1
  refine FCall.of_body Try.func44 rfl (by kernel_rfl) (by simp [Try.ntmps44]) ?_
  refine SW_of_vc Try.mixed _ _ _ (by kernel_rfl) ?_
  simp (disch := omega) only [Try.ntmps44, Try.results44, go_sem, rr_eq]
  refine w1.callV 0 (viewL_cons_of (view_row) viewL_nil_of) ?_
  simp (disch := omega) only [Try.ntmps44, Try.results44, go_sem, rr_eq]
  clear w1
  refine LoopW.loop (fun p : Nat × Nat × Nat => ⟨ofL [(0, rr M), (4, nlI p.2.1 (bpv M p.1).1), (5, .val (.int .i64 (bpv M p.1).2)), (15, .val (.int .i64 M.length)), (16, .val (.int .i64 p.1))], hp (nlH p.2.1 (bpv M p.1).1) p.2.2⟩)
    (fun p => p.1 ≤ M.length ∧ ((bpv M p.1).1.length ≠ 0 → p.2.1 < p.2.2)) (fun p => M.length - p.1) (0, 0, 0) ⟨by simp, fun h => absurd rfl h⟩ (Wk.ofH (by simp only [go_sem, ↓List.forall_mem_cons, List.not_mem_nil, false_implies, implies_true, and_true, true_and, and_self, ri_eq, Int.natCast_add, Int.cast_ofNat_Int, rr_eq, bpv, nlI_nil]; try simp) (by simp [nlH, bpv]) (by simp [hp])) ?_
  rintro ⟨s, ob, nb⟩ ⟨hs, hob⟩
  simp only at hs hob
  refine SW_of_vc Try.mixed _ _ _ (by kernel_rfl) ?_
  by_cases hlt : s < M.length
  case neg =>
    obtain rfl : s = M.length := by omega
    have hl : (bpv M M.length).1.length ≠ 0 := by
      rcases bpv_inv hw M.length (Nat.le_refl _) with h | h
      · omega
      · omega
    have e1 := nlI_f (b := ob) hl
    have e2 := nlH_map (b := ob) hl
    simp (disch := omega) only [Try.ntmps44, Try.results44, go_sem, rr_eq, e1]
    exact fin_tup (by simp [ints]) (ints_vals _) (by rw [hp_map, e2])
  have hord := rot_ord (n := M.length) (s := s) (by omega) hw.1.2 hlt
  have hb := cc_b (L := piv M (rot M.length s M.length)) hw M.length (Nat.le_refl _)
  have hpl := piv_length ⟨hw, hord⟩
  have wp := Try.implPiv_one M (rot M.length s M.length) hM hR (by rw [rot_length]; exact hM) ⟨hw, hord⟩
  have wc := Try.implCost_ok M (piv M (rot M.length s M.length)) hw hpl
  rw [hpl] at wc
  have hnext : bpv M (s + 1) = if (bpv M s).2 < 0 ∨ cc M (piv M (rot M.length s M.length)) M.length < (bpv M s).2 then (piv M (rot M.length s M.length), cc M (piv M (rot M.length s M.length)) M.length) else bpv M s := rfl
  generalize hb1 : bpv M (s + 1) = t2 at *
  generalize hb0 : bpv M s = t at *
  simp (disch := omega) only [Try.ntmps44, Try.results44, go_sem, rr_eq]
  refine LoopW.loop (fun p : Nat × Nat × Nat => ⟨ofL [(0, rr M), (4, nlI ob t.1), (5, .val (.int .i64 t.2)), (6, .val (.int .i64 s)), (7, nlI p.2.1 (rot M.length s p.1)), (15, .val (.int .i64 M.length)), (16, .val (.int .i64 s)), (20, .val (.int .i64 M.length)), (21, .val (.int .i64 p.1))], hp (nlH p.2.1 (rot M.length s p.1) ++ nlH ob t.1) p.2.2⟩)
    (fun p => p.1 ≤ M.length ∧ nb ≤ p.2.2 ∧ (p.1 ≠ 0 → nb ≤ p.2.1 ∧ p.2.1 < p.2.2)) (fun p => M.length - p.1) (0, nb, nb) ⟨by simp, by simp, fun h => absurd rfl h⟩ (Wk.ofH (by simp only [go_sem, ↓List.forall_mem_cons, List.not_mem_nil, false_implies, implies_true, and_true, true_and, and_self, ri_eq, Int.natCast_add, Int.cast_ofNat_Int, rr_eq, nlI_t (T := rot M.length s 0) rfl]; try simp) (by
      rw [nlH_t (T := rot M.length s 0) rfl, List.nil_append]
      exact nlH_in fun h => by rw [hp_map, nlH_map h]) (Nat.le_refl _)) ?_
  rintro ⟨k, ob2, nb2⟩ ⟨hk, hn2, ho2⟩
  simp only at hk hn2 ho2
  refine SW_of_vc Try.mixed _ _ _ (by kernel_rfl) ?_
  have hrl := rot_length M.length s k
  by_cases hlt2 : k < M.length
  · have hm := rot_mod s k M.length
    have hsn := rot_snoc M.length s k
    have hlt3 : (s + k) % M.length < M.length := Nat.mod_lt _ (by omega)
    have hl2 := rot_length M.length s (k + 1)
    have e2 : ∀ b, nlI b (rot M.length s (k + 1)) = .own b 0 (k + 1) (k + 1) 1 false := fun b => by rw [nlI_f (by omega), hl2]
    have e3 : ∀ b, nlH b (rot M.length s (k + 1)) = [(b, ⟨ints (rot M.length s (k + 1)), false⟩)] := fun b => nlH_f (by omega)
    by_cases hz : k = 0
    · have hkl : (rot M.length s k).length = 0 := by omega
      have e0 := nlI_t (b := ob2) hkl
      have h0 := nlH_t (b := ob2) hkl
      have hsn0 : [SV.val (.int .i64 (((s + k) % M.length : Nat) : Int))] = ints (rot M.length s (k + 1)) := by rw [← hsn, List.length_eq_zero_iff.1 hkl]; rfl
      have e2z : ∀ b, nlI b (rot M.length s (k + 1)) = .own b 0 1 1 1 false := fun b => by
        have hk1 : k + 1 = 1 := by omega
        rw [e2, hk1]
      simp (disch := omega) only [Try.ntmps44, Try.results44, go_sem, rr_eq, hm, e0, h0, List.nil_append]
      refine ⟨(k + 1, nb2 + 1, nb2 + 1 + 1), ⟨hlt2, by show nb ≤ nb2 + 1 + 1; omega, fun _ => ⟨by show nb ≤ nb2 + 1; omega, by show nb2 + 1 < nb2 + 1 + 1; omega⟩⟩, by show M.length - (k + 1) < M.length - k; omega, Wk.ofH (by simp only [go_sem, ↓List.forall_mem_cons, List.not_mem_nil, false_implies, implies_true, and_true, true_and, and_self, ri_eq, Int.natCast_add, Int.cast_ofNat_Int, rr_eq, e2z]; try simp) ?_ (Nat.le_refl _)⟩
      show ∀ q ∈ nlH (nb2 + 1) (rot M.length s (k + 1)) ++ nlH ob t.1, _
      rw [e3, List.cons_append, List.nil_append, List.forall_mem_cons]
      refine ⟨?_, nlH_in fun h => ?_⟩
      · rw [← hsn0]; simp (disch := omega) only [hp_map, hmap_cons, if_pos, if_neg, ↓reduceIte]
      · have := hob h
        show hmap _ ob = _
        simp (disch := omega) only [hmap_cons, if_neg]
        exact nlH_map h
    · have hkl : (rot M.length s k).length ≠ 0 := by omega
      obtain ⟨o1, o2⟩ := ho2 hz
      have e0 := nlI_f (b := ob2) hkl
      have h0 := nlH_f (b := ob2) hkl
      rw [hrl] at e0
      have hil : (ints (rot M.length s k)).length = k := by rw [ints_length, hrl]
      have hit : (ints (rot M.length s k)).take k = ints (rot M.length s k) := List.take_of_length_le (by omega)
      have hdel : delB (nlH ob t.1) ob2 = nlH ob t.1 := delB_nlH fun h => by have := hob h; omega
      simp (disch := omega) only [Try.ntmps44, Try.results44, go_sem, rr_eq, hm, e0, h0, List.cons_append, List.nil_append, hil, hit, hsn, hdel]
      refine ⟨(k + 1, nb2 + 1, nb2 + 1 + 1), ⟨hlt2, by show nb ≤ nb2 + 1 + 1; omega, fun _ => ⟨by show nb ≤ nb2 + 1; omega, by show nb2 + 1 < nb2 + 1 + 1; omega⟩⟩, by show M.length - (k + 1) < M.length - k; omega, Wk.ofH (by simp only [go_sem, ↓List.forall_mem_cons, List.not_mem_nil, false_implies, implies_true, and_true, true_and, and_self, ri_eq, Int.natCast_add, Int.cast_ofNat_Int, rr_eq, e2]; try simp) ?_ (Nat.le_refl _)⟩
      show ∀ q ∈ nlH (nb2 + 1) (rot M.length s (k + 1)) ++ nlH ob t.1, _
      rw [e3, List.cons_append, List.nil_append, List.forall_mem_cons]
      refine ⟨?_, nlH_in fun h => ?_⟩
      · simp (disch := omega) only [hp_map, hmap_cons, if_pos, if_neg, ↓reduceIte]
      · have := hob h
        show hmap _ ob = _
        simp (disch := omega) only [hmap_cons, if_neg]
        exact nlH_map h
  · obtain rfl : k = M.length := by omega
    obtain ⟨o1, o2⟩ := ho2 (by omega)
    have hkl : (rot M.length s M.length).length ≠ 0 := by omega
    have e0 := nlI_f (b := ob2) hkl
    have h0 := nlH_f (b := ob2) hkl
    rw [hrl] at e0
    by_cases hc : t.2 < 0 ∨ cc M (piv M (rot M.length s M.length)) M.length < t.2
    · rw [if_pos hc] at hnext
      subst hnext
      generalize piv M (rot M.length s M.length) = l at *
      generalize cc M l M.length = c at *
      have e4 : ∀ b, nlI b l = .own b 0 M.length M.length 1 false := fun b => by rw [nlI_f (by omega), hpl]
      have e5 : ∀ b, nlH b l = [(b, ⟨ints l, false⟩)] := fun b => nlH_f (by omega)
      by_cases hc1 : t.2 < 0
      · simp (disch := omega) only [Try.ntmps44, Try.results44, go_sem, rr_eq, e0, h0, List.cons_append, List.nil_append]
        refine wp.callOne (ints_vals _) 2 (viewL_cons_of view_row (viewL_cons_of (view_own (by rw [hp_map, hmap_cons, if_pos rfl]) (by omega)) viewL_nil_of)) ?_
        simp (disch := omega) only [Try.ntmps44, Try.results44, go_sem, rr_eq]
        refine wc.callV 2 (viewL_cons_of view_row (viewL_cons_of (view_own (by rw [hp_map, hmap_cons, if_pos rfl]) (by omega)) viewL_nil_of)) ?_
        simp (disch := omega) only [Try.ntmps44, Try.results44, go_sem, rr_eq]
        refine ⟨(s + 1, nb2, nb2 + 1), ⟨hlt, fun _ => by show nb2 < nb2 + 1; omega⟩, by show M.length - (s + 1) < M.length - s; omega, Wk.ofH (by simp only [go_sem, ↓List.forall_mem_cons, List.not_mem_nil, false_implies, implies_true, and_true, true_and, and_self, ri_eq, Int.natCast_add, Int.cast_ofNat_Int, rr_eq, hb1, e4]; try simp) ?_ (Nat.le_refl _)⟩
        show ∀ q ∈ nlH nb2 (bpv M (s + 1)).1, _
        rw [hb1]
        exact nlH_in fun _ => by show hmap _ nb2 = _; rw [hmap_cons, if_pos rfl]
      · have hc2 : c < t.2 := hc.resolve_left hc1
        simp (disch := omega) only [Try.ntmps44, Try.results44, go_sem, rr_eq, e0, h0, List.cons_append, List.nil_append]
        refine wp.callOne (ints_vals _) 2 (viewL_cons_of view_row (viewL_cons_of (view_own (by rw [hp_map, hmap_cons, if_pos rfl]) (by omega)) viewL_nil_of)) ?_
        simp (disch := omega) only [Try.ntmps44, Try.results44, go_sem, rr_eq]
        refine wc.callV 2 (viewL_cons_of view_row (viewL_cons_of (view_own (by rw [hp_map, hmap_cons, if_pos rfl]) (by omega)) viewL_nil_of)) ?_
        simp (disch := omega) only [Try.ntmps44, Try.results44, go_sem, rr_eq]
        refine ⟨(s + 1, nb2, nb2 + 1), ⟨hlt, fun _ => by show nb2 < nb2 + 1; omega⟩, by show M.length - (s + 1) < M.length - s; omega, Wk.ofH (by simp only [go_sem, ↓List.forall_mem_cons, List.not_mem_nil, false_implies, implies_true, and_true, true_and, and_self, ri_eq, Int.natCast_add, Int.cast_ofNat_Int, rr_eq, hb1, e4]; try simp) ?_ (Nat.le_refl _)⟩
        show ∀ q ∈ nlH nb2 (bpv M (s + 1)).1, _
        rw [hb1]
        exact nlH_in fun _ => by show hmap _ nb2 = _; rw [hmap_cons, if_pos rfl]
    · rw [if_neg hc] at hnext
      subst hnext
      generalize piv M (rot M.length s M.length) = l at *
      generalize cc M l M.length = c at *
      have hc1 : ¬ t2.2 < 0 := fun h => hc (.inl h)
      have hc2 : ¬ c < t2.2 := fun h => hc (.inr h)
      simp (disch := omega) only [Try.ntmps44, Try.results44, go_sem, rr_eq, e0, h0, List.cons_append, List.nil_append]
      refine wp.callOne (ints_vals _) 2 (viewL_cons_of view_row (viewL_cons_of (view_own (by rw [hp_map, hmap_cons, if_pos rfl]) (by omega)) viewL_nil_of)) ?_
      simp (disch := omega) only [Try.ntmps44, Try.results44, go_sem, rr_eq]
      refine wc.callV 2 (viewL_cons_of view_row (viewL_cons_of (view_own (by rw [hp_map, hmap_cons, if_pos rfl]) (by omega)) viewL_nil_of)) ?_
      simp (disch := omega) only [Try.ntmps44, Try.results44, go_sem, rr_eq]
      refine ⟨(s + 1, ob, nb2 + 1), ⟨hlt, fun h => by
        show ob < nb2 + 1
        have h : (bpv M (s + 1)).1.length ≠ 0 := h
        rw [hb1] at h
        have := hob h; omega⟩, by show M.length - (s + 1) < M.length - s; omega, Wk.ofH (by simp only [go_sem, ↓List.forall_mem_cons, List.not_mem_nil, false_implies, implies_true, and_true, true_and, and_self, ri_eq, Int.natCast_add, Int.cast_ofNat_Int, rr_eq, hb1]; try simp) ?_ (Nat.le_refl _)⟩
      show ∀ q ∈ nlH ob (bpv M (s + 1)).1, _
      rw [hb1]
      refine nlH_in fun h => ?_
      have := hob h
      show hmap _ ob = _
      simp (disch := omega) only [hmap_cons, if_neg]
      exact nlH_map h

theorem Try.implBP_n (M : List (List Int)) (hM : M.length ≤ 1048576) (hR : ∀ i, i < M.length → (mrow M i).length ≤ 1048576) (hw : ¬ WM M) : FCall Try.prog 44 [rr M] (fun r _ => r = .tup ([.slice none 0 0, .int .i64 (-1)].map .val)) := by
  have w1 := Try.implIsWM_ok M hM hR
  rw [isWM_f hw] at w1
  refine FCall.of_body Try.func44 rfl (by kernel_rfl) (by simp [Try.ntmps44]) ?_
  refine SW_of_vc Try.mixed _ _ _ (by kernel_rfl) ?_
  simp (disch := omega) only [Try.ntmps44, Try.results44, go_sem, rr_eq]
  refine w1.callV 0 (viewL_cons_of (view_row) viewL_nil_of) ?_
  simp (disch := omega) only [Try.ntmps44, Try.results44, go_sem, rr_eq]
  exact ⟨⟨fun _ => none, 0⟩, ⟨rfl, fun _ => .inl rfl⟩, by simp [noRow, noRowL], fun b blk hb => by simp at hb, rfl⟩
theorem view_tupJ {L : List Int} {n : Nat} {u : Int} {r r0 : SV} {H : Heap} (h : r = .tup [r0, .val (.int .i64 u)]) (hf : FlatRes n 1 (ints L) r0 H) : view H 3 r = some (.tup [ri L, .val (.int .i64 u)]) := by
  subst h
  have h1 : viewL H 2 [r0, .val (.int .i64 u)] = some [ri L, .val (.int .i64 u)] := viewL_cons_of (flat_view hf) (viewL_cons_of view_int viewL_nil_of)
  simp only [view, h1]
theorem bp_len {M : List (List Int)} (hw : WM M) : (bp M).1.length = M.length := by
  rw [bp_t hw]
  rcases bpv_inv hw M.length (Nat.le_refl _) with h | h
  · have := hw.1; omega
  · exact h.1
theorem Try.specBP_ok (M : List (List Int)) (hM : M.length ≤ 1048576) (hR : ∀ i, i < M.length → (mrow M i).length ≤ 1048576) : PCall Try.prog 45 [rr M] (.tup [ri (bp M).1, .val (.int .i64 (bp M).2)]) :=
  (Try.specBP_f M hM hR).pcall 3 (fun r H ⟨r0, h1, h2⟩ => view_tupJ h1 h2)
theorem Try.implBP_ok (M : List (List Int)) (hM : M.length ≤ 1048576) (hR : ∀ i, i < M.length → (mrow M i).length ≤ 1048576) : PCall Try.prog 44 [rr M] (.tup [ri (bp M).1, .val (.int .i64 (bp M).2)]) := by
  by_cases hw : WM M
  · exact (Try.implBP_f M hM hR hw).pcall 3 (fun r H ⟨r0, h1, h2⟩ => view_tupJ h1 h2)
  · rw [bp_f hw]
    refine (Try.implBP_n M hM hR hw).pcall 3 (by
      rintro r H rfl
      have h1 : viewL H 2 [.val (.slice none 0 0), .val (.int .i64 (-1))] = some [ri [], .val (.int .i64 (-1))] := viewL_cons_of view_nil (viewL_cons_of view_int viewL_nil_of)
      simp only [List.map_cons, List.map_nil, view, h1])
theorem Try.implBP_o (M : List (List Int)) (hM : M.length ≤ 1048576) (hR : ∀ i, i < M.length → (mrow M i).length ≤ 1048576) (hw : WM M) :
    FCall Try.prog 44 [rr M] (fun r H => r = .tup [.own 0 0 M.length M.length 1 false, .val (.int .i64 (bp M).2)] ∧ H = Heap.one ⟨ints (bp M).1, false⟩) := by
  have := (Try.implBP_f M hM hR hw).oneT
  rw [bp_len hw] at this
  exact this
end Go.Sh

/-
  The search for the best partition: of the program.
-/
namespace Go.Sh
set_option linter.unusedSimpArgs false
set_option linter.unusedVariables false
open Go Go.Proofs

theorem hset_map (H : Heap) (b x : Nat) (k : Option Blk) : (H.set b k).map x = if x = b then k else H.map x := rfl
theorem hset_nb (H : Heap) (b : Nat) (k : Option Blk) : (H.set b k).nb = H.nb := rfl
theorem hpush_map (H : Heap) (x : Nat) (k : Blk) : (H.push k).map x = if x = H.nb then some k else H.map x := rfl
theorem hpush_nb (H : Heap) (k : Blk) : (H.push k).nb = H.nb + 1 := rfl

def yClos : SV := .clos (.func 152) [] [.optr 1 0, .optr 0 0, .optr 3 0, .optr 2 0, .optr 4 0]
def fClos : SV := .clos (.func 165) [] [.optr 5 0, .optr 6 0, .optr 8 0, .optr 9 0]
/-- What best and eachPartition hold in memory. -/
structure EH (M : List (List Int)) (C : List Con) (H : Heap) (s : BS) (fb : Nat) (W : List Int) : Prop where
  m0 : H.map 0 = some ⟨[rr M], true⟩
  m1 : H.map 1 = some ⟨[rc C], true⟩
  m2 : H.map 2 = some ⟨[nlI fb s.first], true⟩
  m3 : H.map 3 = some ⟨[.val (.int .i64 s.least)], true⟩
  m4 : H.map 4 = some ⟨[.val (.int .i64 s.count)], true⟩
  m5 : H.map 5 = some ⟨[.val (.int .i64 M.length)], true⟩
  m6 : H.map 6 = some ⟨[yClos], true⟩
  m7 : H.map 7 = some ⟨ints W, true⟩
  m8 : H.map 8 = some ⟨[.own 7 0 M.length M.length 1 true], true⟩
  m9 : H.map 9 = some ⟨[fClos], true⟩
  mf : s.first.length ≠ 0 → H.map fb = some ⟨ints s.first, false⟩
  bf : s.first.length ≠ 0 → 10 ≤ fb ∧ fb < H.nb
  nb : 10 ≤ H.nb
def EQ (M : List (List Int)) (C : List Con) (t : BS) (p : List Int) (n : Nat) (r : SV) (H' : Heap) : Prop := r = .tup [] ∧ ∃ fb', EH M C H' t fb' p ∧ n ≤ H'.nb

set_option maxRecDepth 20000 in
set_option maxHeartbeats 4000000 in
theorem Try.yield_ok {M : List (List Int)} {C : List Con} (hw : WM M) (hC : C.length ≤ 1048576) (s : BS) (p : List Int) (hpl : p.length = M.length) (hcnt : s.count ≤ 1000000000) (fb : Nat) (H : Heap) (h : EH M C H s fb p) :
    CallS Try.prog 152 [.own 7 0 M.length M.length 1 true, .optr 1 0, .optr 0 0, .optr 3 0, .optr 2 0, .optr 4 0] H (EQ M C (updB M C s p) p H.nb) := by
  have hln := hw.1
  have wk := Try.keeps_ok p C (by omega) hC
  have wc := Try.implCost_ok M p hw hpl
  rw [hpl] at wc
  have hc := cc_b (L := p) hw M.length (Nat.le_refl _)
  have hu : updB M C s p = updB M C s p := rfl
  conv at hu => rhs; rw [updB, hpl]
  generalize updB M C s p = t at *
  have hnb := h.nb
  have m0 := h.m0
  have m1 := h.m1
  have m2 := h.m2
  have m3 := h.m3
  have m4 := h.m4
  have m7 := h.m7
  refine CallS.of_body Try.func152 rfl (by kernel_rfl) (by simp [Try.ntmps152]) ?_
  refine SW_of_vc Try.mixed _ _ _ (by kernel_rfl) ?_
  rcases Bool.eq_false_or_eq_true (C.all (kp p)) with hk | hk
  · rw [hk] at wk
    rw [if_pos hk] at hu
    generalize hcc : cc M p M.length = z at *
    have wl := (Try.clone_f p (by omega) (by omega)).one
    by_cases g1 : s.least < 0 ∨ z < s.least
    · rw [if_pos g1] at hu
      have hfin : EQ M C t p H.nb (.tup []) ((((H.push ⟨ints p, false⟩).set 2 (some ⟨[.own H.nb 0 M.length M.length 1 false], true⟩)).set 3 (some ⟨[.val (.int .i64 z)], true⟩)).set 4 (some ⟨[.val (.int .i64 1)], true⟩)) := by
        subst hu
        refine ⟨rfl, H.nb, ⟨?_, ?_, ?_, ?_, ?_, ?_, ?_, ?_, ?_, ?_, ?_, ?_, ?_⟩, by simp only [hset_nb, hpush_nb]; omega⟩
        all_goals simp (disch := omega) only [hset_map, hpush_map, hset_nb, hpush_nb, if_neg, ↓reduceIte, Nat.reduceEqDiff, h.m0, h.m1, h.m5, h.m6, h.m7, h.m8, h.m9]
        · rw [nlI_f (by omega), hpl]
        · rfl
        · exact fun _ => trivial
        · intro _; omega
        · omega
      rw [hpl] at wl
      have p0 : ∀ k, (H.push k).map 2 = some ⟨[nlI fb s.first], true⟩ := fun k => by rw [hpush_map, if_neg (by omega), m2]
      have p1 : ∀ k, (H.push k).map 3 = some ⟨[.val (.int .i64 s.least)], true⟩ := fun k => by rw [hpush_map, if_neg (by omega), m3]
      have p2 : ∀ k, (H.push k).map 4 = some ⟨[.val (.int .i64 s.count)], true⟩ := fun k => by rw [hpush_map, if_neg (by omega), m4]
      simp (disch := omega) only [Try.ntmps152, Try.results152, go_sem, rc, m1]
      refine wk.callV 2 (viewL_cons_of (view_own (L := p) (e2 := true) m7 hpl.symm) (viewL_cons_of view_row viewL_nil_of)) ?_
      simp (disch := omega) only [Try.ntmps152, Try.results152, go_sem, rc, m0]
      refine wc.callV 2 (viewL_cons_of view_row (viewL_cons_of (view_own (L := p) (e2 := true) m7 hpl.symm) viewL_nil_of)) ?_
      have hgd : s.least < 0 ∨ (¬ s.least < 0 ∧ z < s.least) := by omega
      rcases hgd with hg | ⟨hg, hg2⟩
      · simp (disch := omega) only [Try.ntmps152, Try.results152, go_sem, rc, m3]
        refine wl.callOne (ints_vals _) 2 (viewL_cons_of (view_own (L := p) (e2 := true) m7 hpl.symm) viewL_nil_of) ?_
        simp (disch := omega) only [Try.ntmps152, Try.results152, go_sem, rc, p0, p1, p2, hset_map]
        exact hfin
      · simp (disch := omega) only [Try.ntmps152, Try.results152, go_sem, rc, m3]
        refine wl.callOne (ints_vals _) 2 (viewL_cons_of (view_own (L := p) (e2 := true) m7 hpl.symm) viewL_nil_of) ?_
        simp (disch := omega) only [Try.ntmps152, Try.results152, go_sem, rc, p0, p1, p2, hset_map]
        exact hfin
    · rw [if_neg g1] at hu
      by_cases g2 : z = s.least
      · rw [if_pos g2] at hu
        have hfin : EQ M C t p H.nb (.tup []) (H.set 4 (some ⟨[.val (.int .i64 ((s.count : Int) + 1))], true⟩)) := by
          subst hu
          refine ⟨rfl, fb, ⟨?_, ?_, ?_, ?_, ?_, ?_, ?_, ?_, ?_, ?_, fun hf => ?_, h.bf, h.nb⟩, by simp only [hset_nb]; omega⟩
          all_goals simp (disch := omega) only [hset_map, hset_nb, if_neg, ↓reduceIte, Nat.reduceEqDiff, h.m0, h.m1, h.m2, h.m3, h.m5, h.m6, h.m7, h.m8, h.m9]
          · rfl
          · have := h.bf hf
            rw [if_neg (by omega)]; exact h.mf hf
        simp (disch := omega) only [Try.ntmps152, Try.results152, go_sem, rc, m1]
        refine wk.callV 2 (viewL_cons_of (view_own (L := p) (e2 := true) m7 hpl.symm) (viewL_cons_of view_row viewL_nil_of)) ?_
        simp (disch := omega) only [Try.ntmps152, Try.results152, go_sem, rc, m0]
        refine wc.callV 2 (viewL_cons_of view_row (viewL_cons_of (view_own (L := p) (e2 := true) m7 hpl.symm) viewL_nil_of)) ?_
        simp (disch := omega) only [Try.ntmps152, Try.results152, go_sem, rc, m3, m4]
        exact hfin
      · rw [if_neg g2] at hu
        subst hu
        have hfin : EQ M C t p H.nb (.tup []) H := ⟨rfl, fb, h, Nat.le_refl _⟩
        simp (disch := omega) only [Try.ntmps152, Try.results152, go_sem, rc, m1]
        refine wk.callV 2 (viewL_cons_of (view_own (L := p) (e2 := true) m7 hpl.symm) (viewL_cons_of view_row viewL_nil_of)) ?_
        simp (disch := omega) only [Try.ntmps152, Try.results152, go_sem, rc, m0]
        refine wc.callV 2 (viewL_cons_of view_row (viewL_cons_of (view_own (L := p) (e2 := true) m7 hpl.symm) viewL_nil_of)) ?_
        simp (disch := omega) only [Try.ntmps152, Try.results152, go_sem, rc, m3]
        exact hfin
  · rw [hk] at wk
    rw [if_neg (by rw [hk]; simp)] at hu
    subst hu
    have hfin : EQ M C t p H.nb (.tup []) H := ⟨rfl, fb, h, Nat.le_refl _⟩
    simp (disch := omega) only [Try.ntmps152, Try.results152, go_sem, rc, m1]
    refine wk.callV 2 (viewL_cons_of (view_own (L := p) (e2 := true) m7 hpl.symm) (viewL_cons_of view_row viewL_nil_of)) ?_
    simp (disch := omega) only [Try.ntmps152, Try.results152, go_sem, rc]
    exact hfin

def FQ (M : List (List Int)) (C : List Con) (t : BS) (p : List Int) (n : Nat) (r : SV) (H' : Heap) : Prop := r = .tup [] ∧ ∃ fb' W', EH M C H' t fb' W' ∧ n ≤ H'.nb ∧ W'.length = M.length ∧ W'.take p.length = p
theorem EH.put {M : List (List Int)} {C : List Con} {H : Heap} {s : BS} {fb : Nat} {W V : List Int} (h : EH M C H s fb W) : EH M C (H.set 7 (some ⟨ints V, true⟩)) s fb V := by
  refine ⟨?_, ?_, ?_, ?_, ?_, ?_, ?_, ?_, ?_, ?_, fun hf => ?_, h.bf, h.nb⟩
  all_goals simp (disch := omega) only [hset_map, hset_nb, if_neg, ↓reduceIte, Nat.reduceEqDiff, h.m0, h.m1, h.m2, h.m3, h.m4, h.m5, h.m6, h.m8, h.m9]
  have := h.bf hf
  rw [if_neg (by omega)]; exact h.mf hf
theorem take_set {W p : List Int} {x : Int} (hl : p.length < W.length) (h : W.take p.length = p) : (W.set p.length x).take (p.length + 1) = p ++ [x] := by
  rw [List.take_succ_eq_append_getElem (by simpa using hl)]
  simp [List.take_set_of_le, h]
def eachTo (M : List (List Int)) (C : List Con) (k : Nat) (p : List Int) (nx : Nat) (s : BS) (x : Nat) : BS := (List.range x).foldl (fun s (x : Nat) => each (updB M C) k (p ++ [(x : Int)]) (max nx (x + 1)) s) s
theorem eachTo_succ {M : List (List Int)} {C : List Con} {k : Nat} {p : List Int} {nx : Nat} {s : BS} {x : Nat} : eachTo M C k p nx s (x + 1) = each (updB M C) k (p ++ [(x : Int)]) (max nx (x + 1)) (eachTo M C k p nx s x) := by
  rw [eachTo, List.range_succ, List.foldl_append]; rfl
theorem eachTo_count {M : List (List Int)} {C : List Con} {k : Nat} {p : List Int} {nx : Nat} {s : BS} {x : Nat} (hx : x ≤ nx + 1) (h : nx + (k + 1) ≤ 8) : (eachTo M C k p nx s x).count ≤ s.count + x * 9 ^ k :=
  foldl_count (g := fun s (x : Nat) => each (updB M C) k (p ++ [(x : Int)]) (max nx (x + 1)) s) (B := 9 ^ k) x s fun s y hy => each_count k _ _ s (by omega)

set_option maxRecDepth 20000 in
set_option maxHeartbeats 4000000 in
theorem Try.from_ok {M : List (List Int)} {C : List Con} (hw : WM M) (hC : C.length ≤ 1048576) : ∀ (k : Nat) (p W : List Int) (nx : Nat) (s : BS) (fb : Nat) (H : Heap), p.length + k = M.length → W.length = M.length → W.take p.length = p → nx + k ≤ 8 → s.count + 9 ^ k ≤ 1000000000 → EH M C H s fb W →
    CallS Try.prog 165 [.val (.int .i64 p.length), .val (.int .i64 nx), .optr 5 0, .optr 6 0, .optr 8 0, .optr 9 0] H (FQ M C (each (updB M C) k p nx s) p H.nb)
  | 0, p, W, nx, s, fb, H, hl, hWl, hW, hnx, hc, h => by
    have hln := hw.1
    have hWp : W = p := by rw [← hW, List.take_of_length_le (by omega)]
    subst hWp
    have wy := Try.yield_ok hw hC s W hWl (by omega) fb H h
    have m5 := h.m5
    have m6 := h.m6
    have m8 := h.m8
    rw [each]
    generalize updB M C s W = t at *
    rw [hWl]
    refine CallS.of_body Try.func165 rfl (by kernel_rfl) (by simp [Try.ntmps165]) ?_
    refine SW_of_vc Try.mixed _ _ _ (by kernel_rfl) ?_
    simp (disch := omega) only [Try.ntmps165, Try.results165, go_sem, m5, m6, m8, yClos]
    refine wy.callX ?_
    rintro r H' ⟨rfl, fb', h', hnb⟩
    have hfin : FQ M C t W H.nb (.tup []) H' := ⟨rfl, fb', W, h', hnb, hWl, List.take_length⟩
    simp (disch := omega) only [Try.ntmps165, Try.results165, go_sem]
    exact hfin
  | k + 1, p, W, nx, s, fb, H, hl, hWl, hW, hnx, hc, h => by
    have hln := hw.1
    have m5 := h.m5
    have he : each (updB M C) (k + 1) p nx s = eachTo M C k p nx s (nx + 1) := by rw [each]; rfl
    rw [he]
    have h9 : (nx + 1) * 9 ^ k ≤ 9 * 9 ^ k := mul9 (by omega)
    rw [Nat.pow_succ] at hc
    refine CallS.of_body Try.func165 rfl (by kernel_rfl) (by simp [Try.ntmps165]) ?_
    refine SW_of_vc Try.mixed _ _ _ (by kernel_rfl) ?_
    simp (disch := omega) only [Try.ntmps165, Try.results165, go_sem, m5]
    refine LoopW.loop (fun y : Nat × Nat × List Int × Heap => ⟨ofL [(0, .val (.int .i64 p.length)), (1, .val (.int .i64 nx)), (2, .optr 5 0), (3, .optr 6 0), (4, .optr 8 0), (5, .optr 9 0), (8, .val (.int .i64 y.1))], y.2.2.2⟩)
      (fun y => y.1 ≤ nx + 1 ∧ EH M C y.2.2.2 (eachTo M C k p nx s y.1) y.2.1 y.2.2.1 ∧ H.nb ≤ y.2.2.2.nb ∧ y.2.2.1.length = M.length ∧ y.2.2.1.take p.length = p) (fun y => nx + 1 - y.1) (0, fb, W, H) ⟨by simp, h, Nat.le_refl _, hWl, hW⟩ (Wk.of (by simp only [go_sem, ↓List.forall_mem_cons, List.not_mem_nil, false_implies, implies_true, and_true, true_and, and_self, ri_eq, Int.natCast_add, Int.cast_ofNat_Int]; try simp) rfl) ?_
    clear m5 h hWl hW
    rintro ⟨x, fb, W, H1⟩ ⟨hx, h, hnb, hWl, hW⟩
    simp only at hx h hnb hWl hW
    have m7 := h.m7
    have m8 := h.m8
    have m9 := h.m9
    refine SW_of_vc Try.mixed _ _ _ (by kernel_rfl) ?_
    by_cases hlt : x < nx + 1
    · have h2 := h.put (V := W.set p.length (x : Int))
      have hct := eachTo_count (M := M) (C := C) (p := p) (s := s) hx hnx
      have hx9 : (x + 1) * 9 ^ k ≤ (nx + 1) * 9 ^ k := mul9 (by omega)
      rw [Nat.succ_mul] at hx9
      have wf := Try.from_ok hw hC k (p ++ [(x : Int)]) (W.set p.length (x : Int)) (max nx (x + 1)) _ fb _ (by simp; omega) (by simpa using hWl) (by
        rw [List.length_append, List.length_singleton]; exact take_set (by omega) hW) (by omega) (by omega) h2
      rw [← eachTo_succ] at wf
      have hpl : (p ++ [(x : Int)]).length = p.length + 1 := by simp
      rw [hpl] at wf
      have hil : (ints W).length = M.length := by rw [ints_length, hWl]
      have hst : (ints W).set p.length (.val (.int .i64 (x : Int))) = ints (W.set p.length (x : Int)) := by simp [ints]
      simp (disch := omega) only [Try.ntmps165, Try.results165, go_sem, m7, m8, m9, hil, hst, hset_map, fClos]
      have c1 : ((p.length + 1 : Nat) : Int) = (p.length : Int) + 1 := by omega
      have c2 : ((max nx (x + 1) : Nat) : Int) = if (nx : Int) < (x : Int) + 1 then (x : Int) + 1 else (nx : Int) := by split <;> omega
      rw [c1, c2] at wf
      refine wf.callX ?_
      rintro r H2 ⟨rfl, fb2, W2, h3, hnb2, hW2l, hW2⟩
      rw [hpl] at hW2
      have hW3 : W2.take p.length = p := by
        have := congrArg (List.take p.length) hW2
        rw [List.take_take, Nat.min_eq_left (by omega)] at this
        rw [this]; simp
      have hnb3 : H1.nb ≤ H2.nb := hnb2
      simp (disch := omega) only [Try.ntmps165, Try.results165, go_sem]
      exact ⟨(x + 1, fb2, W2, H2), ⟨hlt, h3, Nat.le_trans hnb hnb3, hW2l, hW3⟩, by show nx + 1 - (x + 1) < nx + 1 - x; omega, Wk.of (by simp only [go_sem, ↓List.forall_mem_cons, List.not_mem_nil, false_implies, implies_true, and_true, true_and, and_self, ri_eq, Int.natCast_add, Int.cast_ofNat_Int]; try simp) rfl⟩
    · obtain rfl : x = nx + 1 := by omega
      have hfin : FQ M C (eachTo M C k p nx s (nx + 1)) p H.nb (.tup []) H1 := ⟨rfl, fb, W, h, hnb, hWl, hW⟩
      simp (disch := omega) only [Try.ntmps165, Try.results165, go_sem]
      exact hfin

def bH (M : List (List Int)) (C : List Con) : List (Nat × Blk) := [(4, ⟨[.val (.int .i64 0)], true⟩), (3, ⟨[.val (.int .i64 (-1))], true⟩), (2, ⟨[.val (.slice none 0 0)], true⟩), (1, ⟨[rc C], true⟩), (0, ⟨[rr M], true⟩)]
def BQ (M : List (List Int)) (C : List Con) (t : BS) (r : SV) (H' : Heap) : Prop := r = .tup [] ∧ ∃ fb' W', EH M C H' t fb' W'
set_option maxRecDepth 20000 in
set_option maxHeartbeats 4000000 in
theorem Try.eachPart_ok {M : List (List Int)} {C : List Con} (hw : WM M) (hC : C.length ≤ 1048576) :
    CallS Try.prog 151 [.val (.int .i64 M.length), yClos] (hp (bH M C) 5) (BQ M C (bs M C)) := by
  have hln := hw.1
  refine CallS.of_body Try.func151 rfl (by kernel_rfl) (by simp [Try.ntmps151]) ?_
  refine SW_of_vc Try.mixed _ _ _ (by kernel_rfl) ?_
  have hil : List.replicate M.length (SV.val (.int .i64 0)) = ints (List.replicate M.length 0) := by simp [ints]
  rw [bH]
  simp (disch := omega) only [Try.ntmps151, Try.results151, go_sem, yClos, hil]
  refine (Try.from_ok hw hC M.length [] (List.replicate M.length 0) 0 ⟨[], -1, 0⟩ 0 _ (by simp) (by simp) rfl (by omega) ?_ ⟨rfl, rfl, rfl, rfl, rfl, rfl, rfl, rfl, rfl, rfl, fun h => absurd rfl h, fun h => absurd rfl h, by simp [hp]⟩).callX ?_
  · have h9 : 9 ^ M.length ≤ 9 ^ 8 := Nat.pow_le_pow_right (by omega) hln.2
    show 0 + 9 ^ M.length ≤ 1000000000
    omega
  rintro r H' ⟨rfl, fb', W', h, _, _, _⟩
  have hfin : BQ M C (bs M C) (.tup []) H' := ⟨rfl, fb', W', h⟩
  simp (disch := omega) only [Try.ntmps151, Try.results151, go_sem]
  exact hfin

variable {P : Program}
theorem LRel.valsI {O : Nat → Prop} {w : World} {j : JMap} {us vs : List Value} (h : vs = us) : LRel O w j (us.map SV.val) vs := (LRel.vals us vs).2 h
theorem FCall.oneU {f : FuncId} {args : List SV} {n z : Nat} {cs : List SV} {us : List Value} (h : FCall P f args (fun r H => ∃ r0, r = .tup (r0 :: us.map .val) ∧ FlatRes n z cs r0 H)) :
    FCall P f args (fun r H => r = .tup (.own 0 0 n n z false :: us.map .val) ∧ H = Heap.one ⟨cs, false⟩) := by
  refine ⟨h.1, fun w vs hl => (h.2 w vs hl).mono ?_⟩
  rintro e w' ⟨v, r, j, H, h1, h2, h3, h4, h5, h6, h7, r0, rfl, h8⟩
  simp only [VRel, LRel] at h4
  obtain ⟨vs, rfl, x, rest, rfl, hx, hrest⟩ := h4
  obtain ⟨j', r', v', o'⟩ := one_rel h8 h3 hx
  have hr := (LRel.vals us rest).1 hrest
  refine ⟨_, _, j', _, h1, h2, r', ?_, fun k hk => h5 k (o' k hk), ?_, nr_one h8.vals, rfl, rfl⟩
  · simp only [VRel, LRel]
    exact ⟨_, rfl, _, _, rfl, by simpa only [VRel] using v', LRel.valsI hr⟩
  · simp only [noRow, noRowL, Bool.true_and]
    exact isVal_noRow (by simp [isVal])
theorem shiftL_vals (k : Nat) (us : List Value) : shiftL k (us.map SV.val) = us.map SV.val := isVal_shift (by simp [isVal])
theorem FCall.callOneU {f : FuncId} {args args' : List SV} {n z : Nat} {cs : List SV} {us : List Value} {H : Heap} {K : SV → Heap → Prop} (h : FCall P f args' (fun r H => r = .tup (.own 0 0 n n z false :: us.map .val) ∧ H = Heap.one ⟨cs, false⟩)) (hc : cs.all isVal = true) (fu : Nat) (hv : viewL H fu args = some args')
    (k : K (.tup (.own H.nb 0 n n z false :: us.map .val)) (H.push ⟨cs, false⟩)) : @CallX P f args H ⟨K⟩ := by
  refine ⟨h.1, fun j w vs r hl => ((h.callS fu hv).2 j w vs r hl).mono ?_⟩
  rintro e w' ⟨r1, v, j', H', h1, h2, h3, h4, r0, H0, ⟨rfl, rfl⟩, rfl, rfl⟩
  refine ⟨_, v, j', _, h1, h2, h3, h4, ?_⟩
  rw [merge_one r hc]
  simpa only [shift, shiftL, Nat.zero_add, shiftL_vals] using k
theorem fin_tupU {n z cap b : Nat} {ex e2 : Bool} {cs : List SV} {us : List Value} {H : Heap} (hn : cs.length = n * z) (hv : cs.all isVal = true) (hb : H.map b = some ⟨cs, e2⟩) :
    Fin (fun r H => ∃ r0, r = .tup (r0 :: us.map .val) ∧ FlatRes n z cs r0 H) (.tup (.own b 0 n cap z ex :: us.map .val)) H := by
  obtain ⟨H2, h1, h2, h3, h4⟩ := flat_fin (n := n) (z := z) (cap := cap) (ex := ex) hn hv hb
  refine ⟨H2, h1, ?_, h3, _, rfl, h4⟩
  simp only [noRow, noRowL, Bool.true_and]
  exact isVal_noRow (by simp [isVal])

theorem fin_tupV {R : SV → Heap → Prop} {us : List Value} {H : Heap} (h : R (.tup (us.map .val)) ⟨fun _ => none, H.nb⟩) : Fin R (.tup (us.map .val)) H :=
  ⟨⟨fun _ => none, H.nb⟩, ⟨rfl, fun _ => .inl rfl⟩, by simp only [noRow]; exact isVal_noRow (by simp [isVal]), fun b blk hb => by simp at hb, h⟩

set_option maxRecDepth 20000 in
set_option maxHeartbeats 4000000 in
theorem Try.best_f {M : List (List Int)} {C : List Con} (hw : WM M) (hC : C.length ≤ 1048576) (hcs : isCst M.length C = true) : FCall Try.prog 131 [rr M, rc C]
    (fun r H => ∃ r0, r = .tup (r0 :: [Value.int .i64 (bs M C).least, .int .i64 (bs M C).count].map .val) ∧ FlatRes M.length 1 (ints (bs M C).first) r0 H) := by
  have hln := hw.1
  have hfl := ((bs_best (C := C) hw).ok (bs_ok hw hcs)).1
  have we := Try.eachPart_ok hw hC
  rw [bH, yClos, rr_eq, rc] at we
  refine FCall.of_body Try.func131 rfl (by kernel_rfl) (by simp [Try.ntmps131]) ?_
  refine SW_of_vc Try.mixed _ _ _ (by kernel_rfl) ?_
  simp (disch := omega) only [Try.ntmps131, Try.results131, go_sem, rr_eq, rc]
  refine we.callX ?_
  rintro r H ⟨rfl, fb, W, h⟩
  have m2 := h.m2
  have m3 := h.m3
  have m4 := h.m4
  have mf := h.mf
  generalize bs M C = t at *
  have h0 : t.first.length ≠ 0 := by omega
  rw [nlI_f h0, hfl] at m2
  simp (disch := omega) only [Try.ntmps131, Try.results131, go_sem, rr_eq, rc, m2, m3, m4]
  exact fin_tupU (us := [.int .i64 t.least, .int .i64 t.count]) (by rw [ints_length]; omega) (ints_vals _) (mf h0)
end Go.Sh

/-
  Drawing numbers from bytes: the cursor, a byte, a number below a bound, one of a list.
-/
namespace Go.Sh
set_option linter.unusedSimpArgs false
set_option linter.unusedVariables false
open Go Go.Proofs

def bys (B : List Int) : List SV := B.map fun b => .val (.int .u8 b)
def rby (B : List Int) : SV := .row B.length false (bys B)
theorem bys_length (B : List Int) : (bys B).length = B.length := by simp [bys]
theorem bys_get {B : List Int} {i : Nat} (h : i < B.length) : (bys B)[i]? = some (.val (.int .u8 (B.getD i 0))) := by simp [bys, h]
def curB (B : List Int) (i : Nat) (h : Int) : Blk := ⟨[rby B, .val (.int .i64 i), .val (.int .i64 h)], true⟩
def Cur (B : List Int) (H : Heap) (cb : Nat) : Prop := ∃ (i : Nat) (h : Int), i ≤ B.length ∧ H.map cb = some (curB B i h)
/-- The cursor has moved, nothing else. -/
def CurS (B : List Int) (H : Heap) (cb : Nat) (H' : Heap) : Prop := ∃ (i : Nat) (h : Int), i ≤ B.length ∧ H' = H.set cb (some (curB B i h))
theorem hset_set (H : Heap) (b : Nat) (x y : Option Blk) : (H.set b x).set b y = H.set b y := by
  refine Heap.ext' (fun z => ?_) rfl
  simp only [hset_map]
  split <;> rfl
theorem CurS.cur {B : List Int} {H H' : Heap} {cb : Nat} (h : CurS B H cb H') : Cur B H' cb := by
  obtain ⟨i, x, hi, rfl⟩ := h
  exact ⟨i, x, hi, by rw [hset_map, if_pos rfl]⟩
theorem CurS.trans {B : List Int} {H H' H'' : Heap} {cb : Nat} (h : CurS B H cb H') (g : CurS B H' cb H'') : CurS B H cb H'' := by
  obtain ⟨i, x, hi, rfl⟩ := h
  obtain ⟨k, y, hk, rfl⟩ := g
  exact ⟨k, y, hk, hset_set _ _ _ _⟩
theorem Cur.s {B : List Int} {H : Heap} {cb : Nat} (h : Cur B H cb) : CurS B H cb H := by
  obtain ⟨i, x, hi, e⟩ := h
  exact ⟨i, x, hi, (Heap.set_self e).symm⟩
theorem CurS.nb {B : List Int} {H H' : Heap} {cb : Nat} (h : CurS B H cb H') : H'.nb = H.nb := by obtain ⟨i, x, hi, rfl⟩ := h; rfl
theorem CurS.map {B : List Int} {H H' : Heap} {cb b : Nat} (h : CurS B H cb H') (hb : b ≠ cb) : H'.map b = H.map b := by obtain ⟨i, x, hi, rfl⟩ := h; rw [hset_map, if_neg hb]
theorem kand255 (x : Int) : 0 ≤ kand .i64 x 255 ∧ kand .i64 x 255 ≤ 255 := by
  have h : ((BitVec.ofInt 64 x) &&& (BitVec.ofInt 64 255)).toNat ≤ 255 := by
    rw [BitVec.toNat_and]
    exact Nat.le_trans Nat.and_le_right (by decide)
  generalize hn : ((BitVec.ofInt 64 x) &&& (BitVec.ofInt 64 255)).toNat = n at *
  have e : kand .i64 x 255 = IntKind.i64.wrap (n : Int) := by rw [← hn]; rfl
  rw [e, wrap_id (by omega) (by omega)]; omega

def NewQ (B : List Int) (H : Heap) (r : SV) (H' : Heap) : Prop := ∃ h, r = .optr H.nb 0 ∧ H' = H.push (curB B 0 h)
set_option maxHeartbeats 2000000 in
theorem Try.l1New_ok (B : List Int) (hB : B.length ≤ 1048576) (H : Heap) : CallS Try.prog 60 [rby B] H (NewQ B H) := by
  have hfin : ∀ h : Int, NewQ B H (SV.optr H.nb 0) (H.push ⟨[.row B.length false (bys B), .val (.int .i64 0), .val (.int .i64 h)], true⟩) := fun h => ⟨h, rfl, rfl⟩
  refine CallS.of_body Try.func60 rfl (by kernel_rfl) (by simp [Try.ntmps60]) ?_
  refine SW_of_vc Try.mixed _ _ _ (by kernel_rfl) ?_
  simp (disch := omega) only [Try.ntmps60, Try.results60, go_sem, rby]
  refine LoopW.loop (fun y : Nat × Int => ⟨ofL [(0, rby B), (3, .val (.int .i64 y.2)), (4, .val (.int .i64 y.1))], H⟩) (fun y => y.1 ≤ B.length) (fun y => B.length - y.1) (0, 10101 + B.length) (by simp) (Wk.of (by simp only [go_sem, ↓List.forall_mem_cons, List.not_mem_nil, false_implies, implies_true, and_true, true_and, and_self, ri_eq, Int.natCast_add, Int.cast_ofNat_Int, rby]; try simp) rfl) ?_
  rintro ⟨i, h⟩ hi
  simp only at hi
  refine SW_of_vc Try.mixed _ _ _ (by kernel_rfl) ?_
  by_cases hlt : i < B.length
  · have gb := bys_get hlt
    by_cases h4 : i < 4000
    · simp (disch := omega) only [Try.ntmps60, Try.results60, go_sem, rby, gb]
      exact ⟨(i + 1, kand .i64 (IntKind.i64.wrap (IntKind.i64.wrap (IntKind.i64.wrap (h * 131) + IntKind.i64.wrap (B.getD i 0)) + 7)) 1073741823), hlt, by show B.length - (i + 1) < B.length - i; omega, Wk.of (by simp only [go_sem, ↓List.forall_mem_cons, List.not_mem_nil, false_implies, implies_true, and_true, true_and, and_self, ri_eq, Int.natCast_add, Int.cast_ofNat_Int, rby]; try simp) rfl⟩
    · simp (disch := omega) only [Try.ntmps60, Try.results60, go_sem, rby, gb]
      exact hfin h
  · simp (disch := omega) only [Try.ntmps60, Try.results60, go_sem, rby]
    exact hfin h

def ByteQ (B : List Int) (H : Heap) (cb : Nat) (r : SV) (H' : Heap) : Prop := ∃ v : Int, r = .val (.int .i64 v) ∧ 0 ≤ v ∧ v ≤ 255 ∧ CurS B H cb H'
set_option maxHeartbeats 2000000 in
theorem Try.l1Byte_ok (B : List Int) (hB : B.length ≤ 1048576) (H : Heap) (cb : Nat) (hc : Cur B H cb) : CallS Try.prog 132 [.optr cb 0] H (ByteQ B H cb) := by
  obtain ⟨i, h, hi, hm⟩ := hc
  rw [curB] at hm
  refine CallS.of_body Try.func132 rfl (by kernel_rfl) (by simp [Try.ntmps132]) ?_
  refine SW_of_vc Try.mixed _ _ _ (by kernel_rfl) ?_
  by_cases hlt : i < B.length
  · have gb := bys_get hlt
    simp (disch := omega) only [Try.ntmps132, Try.results132, go_sem, rby, hm, hset_map, gb]
    have hk := kand255
    exact ⟨_, rfl, (hk _).1, (hk _).2, i + 1, _, hlt, hset_set _ _ _ _⟩
  · simp (disch := omega) only [Try.ntmps132, Try.results132, go_sem, rby, hm, hset_map]
    have hk := kand255
    exact ⟨_, rfl, (hk _).1, (hk _).2, i, _, hi, rfl⟩

def BelowQ (B : List Int) (n : Int) (H : Heap) (cb : Nat) (r : SV) (H' : Heap) : Prop := ∃ v : Int, r = .val (.int .i64 v) ∧ 0 ≤ v ∧ (0 < n → v < n) ∧ (n ≤ 0 → v = 0) ∧ CurS B H cb H'
set_option maxHeartbeats 2000000 in
theorem Try.l1Below_ok (B : List Int) (hB : B.length ≤ 1048576) (n : Int) (hn : n ≤ 256) (H : Heap) (cb : Nat) (hc : Cur B H cb) : CallS Try.prog 108 [.optr cb 0, .val (.int .i64 n)] H (BelowQ B n H cb) := by
  have w := Try.l1Byte_ok B hB H cb hc
  refine CallS.of_body Try.func108 rfl (by kernel_rfl) (by simp [Try.ntmps108]) ?_
  refine SW_of_vc Try.mixed _ _ _ (by kernel_rfl) ?_
  by_cases h0 : n ≤ 0
  · have hfin : BelowQ B n H cb (.val (.int .i64 0)) H := ⟨0, rfl, by omega, by omega, fun _ => rfl, hc.s⟩
    simp (disch := omega) only [Try.ntmps108, Try.results108, go_sem]
    exact hfin
  · simp (disch := omega) only [Try.ntmps108, Try.results108, go_sem]
    refine w.callX ?_
    rintro r H' ⟨v, rfl, v0, v1, hs⟩
    have h1 : 0 ≤ v.tmod n := Int.tmod_nonneg n v0
    have h2 : v.tmod n < n := Int.tmod_lt_of_pos v (by omega)
    have hfin : BelowQ B n H cb (.val (.int .i64 (v.tmod n))) H' := ⟨_, rfl, h1, fun _ => h2, fun h => by omega, hs⟩
    have hne : ¬ n = 0 := by omega
    simp (disch := omega) only [Try.ntmps108, Try.results108, go_sem, hne]
    exact hfin
theorem BelowQ.ne {B : List Int} {n : Int} {H : Heap} {cb : Nat} (hc : Cur B H cb) : ∃ r H', BelowQ B n H cb r H' := ⟨_, H, 0, rfl, by omega, fun h => h, fun _ => rfl, hc.s⟩

def OnceQ (B : List Int) (H : Heap) (cb : Nat) (r : SV) (H' : Heap) : Prop := ∃ b : Bool, r = .val (.bool b) ∧ CurS B H cb H'
theorem OnceQ.ne {B : List Int} {H : Heap} {cb : Nat} (hc : Cur B H cb) : ∃ r H', OnceQ B H cb r H' := ⟨_, H, true, rfl, hc.s⟩
theorem Try.l1Once_ok (B : List Int) (hB : B.length ≤ 1048576) (n : Int) (hn : n ≤ 256) (H : Heap) (cb : Nat) (hc : Cur B H cb) : CallS Try.prog 126 [.optr cb 0, .val (.int .i64 n)] H (OnceQ B H cb) := by
  have w := Try.l1Below_ok B hB n hn H cb hc
  refine CallS.of_body Try.func126 rfl (by kernel_rfl) (by simp [Try.ntmps126]) ?_
  refine SW_of_vc Try.mixed _ _ _ (by kernel_rfl) ?_
  simp (disch := omega) only [Try.ntmps126, Try.results126, go_sem]
  refine w.callX ?_
  rintro r H' ⟨v, rfl, v0, v1, v2, hs⟩
  have hfin : ∀ b, OnceQ B H cb (.val (.bool b)) H' := fun b => ⟨b, rfl, hs⟩
  simp (disch := omega) only [Try.ntmps126, Try.results126, go_sem]
  exact hfin _

def PickQ (B : List Int) (L : List Int) (H : Heap) (cb : Nat) (r : SV) (H' : Heap) : Prop := ∃ v : Int, r = .val (.int .i64 v) ∧ v ∈ L ∧ CurS B H cb H'
theorem PickQ.ne {B L : List Int} {H : Heap} {cb : Nat} (hL : L ≠ []) (hc : Cur B H cb) : ∃ r H', PickQ B L H cb r H' := ⟨_, H, L.head hL, rfl, List.head_mem hL, hc.s⟩
theorem Try.l1Pick_ok (B : List Int) (hB : B.length ≤ 1048576) (L : List Int) (hL : L ≠ []) (hl : L.length ≤ 256) (H : Heap) (cb lb : Nat) (ex e2 : Bool) (hc : Cur B H cb) (hb : H.map lb = some ⟨ints L, e2⟩) (hne : lb ≠ cb) :
    CallS Try.prog 109 [.optr cb 0, .own lb 0 L.length L.length 1 ex] H (PickQ B L H cb) := by
  have w := Try.l1Below_ok B hB L.length (by omega) H cb hc
  have hl0 : 0 < L.length := List.length_pos_iff.2 hL
  refine CallS.of_body Try.func109 rfl (by kernel_rfl) (by simp [Try.ntmps109]) ?_
  refine SW_of_vc Try.mixed _ _ _ (by kernel_rfl) ?_
  simp (disch := omega) only [Try.ntmps109, Try.results109, go_sem]
  refine w.callX ?_
  rintro r H' ⟨v, rfl, v0, v1, v2, hs⟩
  have v1 := v1 (by omega)
  obtain ⟨x, rfl⟩ := Int.eq_ofNat_of_zero_le v0
  have hx : x < L.length := by omega
  have hm : H'.map lb = some ⟨ints L, e2⟩ := by rw [hs.map hne, hb]
  have gx : (ints L)[x]? = some (.val (.int .i64 (L.getD x 0))) := ints_get hx
  have hfin : PickQ B L H cb (.val (.int .i64 (L.getD x 0))) H' := ⟨_, rfl, by simp [hx], hs⟩
  simp (disch := omega) only [Try.ntmps109, Try.results109, go_sem, hm, gx]
  exact hfin
end Go.Sh

/-
  Drawing a matrix.
-/
namespace Go.Sh
set_option linter.unusedSimpArgs false
set_option linter.unusedVariables false
open Go Go.Proofs

/-- A list of rows in memory of its own, from the name lo on. -/
structure MatH (H : Heap) (lo ob : Nat) (cs : List SV) (nm : Nat → Nat) (M : List (List Int)) : Prop where
  ln : cs.length = M.length
  o : H.map ob = some ⟨cs, false⟩
  row : ∀ i, i < M.length → ∃ e e2, cs[i]? = some (.own (nm i) 0 (mrow M i).length (mrow M i).length 1 e) ∧ H.map (nm i) = some ⟨ints (mrow M i), e2⟩
  inj : ∀ i j, i < M.length → j < M.length → nm i = nm j → i = j
  lo1 : lo ≤ ob ∧ ob < H.nb
  lo2 : ∀ i, i < M.length → lo ≤ nm i ∧ nm i < H.nb ∧ nm i ≠ ob
theorem MatH.fr {H H' : Heap} {lo ob : Nat} {cs : List SV} {nm : Nat → Nat} {M : List (List Int)} (h : MatH H lo ob cs nm M) (hn : H.nb ≤ H'.nb) (hf : ∀ b, lo ≤ b → b < H.nb → H'.map b = H.map b) : MatH H' lo ob cs nm M := by
  refine ⟨h.ln, by rw [hf _ h.lo1.1 h.lo1.2, h.o], fun i hi => ?_, h.inj, ⟨h.lo1.1, by have := h.lo1.2; omega⟩, fun i hi => ?_⟩
  · obtain ⟨e, e2, h1, h2⟩ := h.row i hi
    obtain ⟨k1, k2, k3⟩ := h.lo2 i hi
    exact ⟨e, e2, h1, by rw [hf _ k1 k2, h2]⟩
  · obtain ⟨k1, k2, k3⟩ := h.lo2 i hi
    exact ⟨k1, by omega, k3⟩
theorem MatH.low {H : Heap} {lo lo2 ob : Nat} {cs : List SV} {nm : Nat → Nat} {M : List (List Int)} (h : MatH H lo ob cs nm M) (hl : lo2 ≤ lo) : MatH H lo2 ob cs nm M :=
  ⟨h.ln, h.o, h.row, h.inj, ⟨by have := h.lo1; omega, h.lo1.2⟩, fun i hi => by have := h.lo2 i hi; exact ⟨by omega, this.2⟩⟩
theorem mrow_lt {M N : List (List Int)} {i : Nat} (h : i < M.length) : mrow (M ++ N) i = mrow M i := by simp [mrow, h, List.getElem?_append_left h]
theorem mrow_at {M : List (List Int)} {L : List Int} : mrow (M ++ [L]) M.length = L := by simp [mrow]
theorem MatH.snoc {H H' : Heap} {lo ob ob' r l : Nat} {cs : List SV} {nm : Nat → Nat} {M : List (List Int)} {L : List Int} {e e2 : Bool} (h : MatH H lo ob cs nm M) (hl : l = L.length) (ho : H'.map ob' = some ⟨cs ++ [.own r 0 l l 1 e], false⟩) (hr : H'.map r = some ⟨ints L, e2⟩)
    (hf : ∀ b, lo ≤ b → b < H.nb → b ≠ ob → H'.map b = H.map b) (hn : H.nb ≤ H'.nb) (h1 : H.nb ≤ ob' ∧ ob' < H'.nb) (h2 : H.nb ≤ r ∧ r < H'.nb) (hne : r ≠ ob') : MatH H' lo ob' (cs ++ [.own r 0 l l 1 e]) (fun i => if i < M.length then nm i else r) (M ++ [L]) := by
  subst hl
  have hlo := h.lo1
  refine ⟨by simp [h.ln], ho, fun i hi => ?_, fun i j hi hj hij => ?_, ⟨by omega, h1.2⟩, fun i hi => ?_⟩
  · by_cases hlt : i < M.length
    · obtain ⟨e, e2, g1, g2⟩ := h.row i hlt
      obtain ⟨k1, k2, k3⟩ := h.lo2 i hlt
      refine ⟨e, e2, ?_, ?_⟩
      · rw [List.getElem?_append_left (by rw [h.ln]; exact hlt), g1, mrow_lt hlt, if_pos hlt]
      · rw [if_pos hlt, mrow_lt hlt, hf _ k1 k2 k3, g2]
    · have : i = M.length := by simp at hi; omega
      subst this
      exact ⟨e, e2, by rw [mrow_at, if_neg (by omega), ← h.ln]; simp, by rw [if_neg (by omega), mrow_at, hr]⟩
  · simp only [List.length_append, List.length_singleton] at hi hj
    by_cases a : i < M.length <;> by_cases b : j < M.length
    · simp only [a, b, if_true] at hij; exact h.inj i j a b hij
    · simp only [a, b, if_true, if_false] at hij
      have := h.lo2 i a; omega
    · simp only [a, b, if_true, if_false] at hij
      have := h.lo2 j b; omega
    · omega
  · simp only [List.length_append, List.length_singleton] at hi
    show lo ≤ (if i < M.length then nm i else r) ∧ (if i < M.length then nm i else r) < H'.nb ∧ (if i < M.length then nm i else r) ≠ ob'
    split
    · rename_i a
      have := h.lo2 i a
      exact ⟨this.1, by omega, by omega⟩
    · exact ⟨by omega, h2.2, hne⟩
theorem mset_row_ne {M : List (List Int)} {i k j : Nat} {x : Int} (h : j ≠ i) : mrow (mset M i k x) j = mrow M j := by
  simp [mrow, mset, List.getElem?_set, Ne.symm h]
theorem mset_row_eq {M : List (List Int)} {i k : Nat} {x : Int} (h : i < M.length) : mrow (mset M i k x) i = (mrow M i).set k x := by
  simp [mrow, mset, List.getElem?_set, h]
theorem MatH.set {H : Heap} {lo ob i k : Nat} {cs : List SV} {nm : Nat → Nat} {M : List (List Int)} {x : Int} {e2 : Bool} (h : MatH H lo ob cs nm M) (hi : i < M.length) : MatH (H.set (nm i) (some ⟨ints ((mrow M i).set k x), e2⟩)) lo ob cs nm (mset M i k x) := by
  have hl : (mset M i k x).length = M.length := mset_length ..
  have hi2 := h.lo2 i hi
  refine ⟨by rw [hl, h.ln], by rw [hset_map, if_neg (by omega), h.o], fun j hj => ?_, fun a b ha hb => h.inj a b (by omega) (by omega), h.lo1, fun j hj => h.lo2 j (by omega)⟩
  rw [hl] at hj
  obtain ⟨e, e3, h1, h2⟩ := h.row j hj
  by_cases hji : j = i
  · subst hji
    rw [mset_row_eq hi, List.length_set]
    exact ⟨e, e2, h1, by rw [hset_map, if_pos rfl]⟩
  · rw [mset_row_ne hji]
    exact ⟨e, e3, h1, by rw [hset_map, if_neg (fun g => hji (h.inj _ _ hj hi g)), h2]⟩
/-- The part of a heap from a name on. -/
def Heap.frm (H : Heap) (n : Nat) : Heap := ⟨fun b => if n ≤ b then H.map b else none, H.nb⟩
theorem frm_map (H : Heap) (n b : Nat) : (H.frm n).map b = if n ≤ b then H.map b else none := rfl
theorem MatH.view {H : Heap} {lo ob : Nat} {cs : List SV} {nm : Nat → Nat} {M : List (List Int)} {f cap : Nat} {e : Bool} (h : MatH H lo ob cs nm M) : view (H.frm lo) (f + 2) (.own ob 0 M.length cap 1 e) = some (rr M) := by
  have ho : (H.frm lo).map ob = some ⟨cs, false⟩ := by rw [frm_map, if_pos h.lo1.1, h.o]
  have hL : viewL (H.frm lo) (f + 1) cs = some (rows M) := by
    have hr : ∀ i, i < M.length → ∃ s, cs[i]? = some s ∧ Sh.view (H.frm lo) (f + 1) s = some (ri (mrow M i)) := fun i hi => by
      obtain ⟨e, e2, h1, h2⟩ := h.row i hi
      have k := h.lo2 i hi
      exact ⟨_, h1, view_own (L := mrow M i) (e2 := e2) (by rw [frm_map, if_pos k.1, h2]) rfl⟩
    have hln := h.ln
    clear h ho
    induction cs generalizing M with
    | nil =>
      have : M = [] := List.length_eq_zero_iff.1 hln.symm
      subst this
      exact viewL_nil_of
    | cons s cs ih =>
      cases M with
      | nil => simp at hln
      | cons L M =>
        refine viewL_cons_of ?_ (ih (M := M) (fun i hi => ?_) (by simpa using hln))
        · obtain ⟨s', h1, h2⟩ := hr 0 (by simp)
          simp at h1; subst h1
          exact h2
        · obtain ⟨s', h1, h2⟩ := hr (i + 1) (by simpa using hi)
          exact ⟨s', by simpa using h1, h2⟩
  simp only [Sh.view, ho, Nat.mul_one, List.drop_zero]
  have hle : M.length ≤ cs.length := by rw [h.ln]; omega
  rw [if_pos (by omega), ← h.ln, List.take_length, hL]
  simp only [rr, h.ln]
/-- What a drawing leaves behind. -/
structure DS (B : List Int) (cb : Nat) (H H' : Heap) : Prop where
  cur : Cur B H' cb
  nb : H.nb ≤ H'.nb
  fr : ∀ b, b < H.nb → b ≠ cb → H'.map b = H.map b
theorem DS.refl {B : List Int} {cb : Nat} {H : Heap} (h : Cur B H cb) : DS B cb H H := ⟨h, Nat.le_refl _, fun _ _ _ => rfl⟩
theorem DS.trans {B : List Int} {cb : Nat} {H H1 H2 : Heap} (h : DS B cb H H1) (g : DS B cb H1 H2) : DS B cb H H2 :=
  ⟨g.cur, Nat.le_trans h.nb g.nb, fun b hb hc => by rw [g.fr b (Nat.lt_of_lt_of_le hb h.nb) hc, h.fr b hb hc]⟩
theorem CurS.ds {B : List Int} {cb : Nat} {H H' : Heap} (h : CurS B H cb H') : DS B cb H H' := ⟨h.cur, by rw [h.nb]; exact Nat.le_refl _, fun b _ hc => h.map hc⟩
theorem DS.push {B : List Int} {cb : Nat} {H : Heap} (h : Cur B H cb) (hc : cb < H.nb) (k : Blk) : DS B cb H (H.push k) := by
  obtain ⟨i, x, hi, e⟩ := h
  exact ⟨⟨i, x, hi, by rw [hpush_map, if_neg (by omega), e]⟩, by rw [hpush_nb]; omega, fun b hb _ => by rw [hpush_map, if_neg (by omega)]⟩
theorem DS.setF {B : List Int} {cb : Nat} {H H1 : Heap} (h : DS B cb H H1) (b : Nat) (hb : H.nb ≤ b) (hc : b ≠ cb) (k : Option Blk) : DS B cb H (H1.set b k) := by
  obtain ⟨i, x, hi, e⟩ := h.cur
  exact ⟨⟨i, x, hi, by rw [hset_map, if_neg (Ne.symm hc), e]⟩, h.nb, fun z hz hzc => by rw [hset_map, if_neg (by omega), h.fr z hz hzc]⟩
theorem repI2 : rep [SV.val (.int .i64 0)] 2 = [SV.val (.int .i64 0), SV.val (.int .i64 0)] := rfl
theorem repI3 : rep [SV.val (.int .i64 0)] 3 = [SV.val (.int .i64 0), SV.val (.int .i64 0), SV.val (.int .i64 0)] := rfl
theorem repI6 : rep [SV.val (.int .i64 0)] 6 = [SV.val (.int .i64 0), SV.val (.int .i64 0), SV.val (.int .i64 0), SV.val (.int .i64 0), SV.val (.int .i64 0), SV.val (.int .i64 0)] := rfl
theorem repI10 : rep [SV.val (.int .i64 0)] 10 = [SV.val (.int .i64 0), SV.val (.int .i64 0), SV.val (.int .i64 0), SV.val (.int .i64 0), SV.val (.int .i64 0), SV.val (.int .i64 0), SV.val (.int .i64 0), SV.val (.int .i64 0), SV.val (.int .i64 0), SV.val (.int .i64 0)] := rfl
attribute [go_sem high] repI2 repI3 repI6 repI10
end Go.Sh

/-
  Drawing a matrix: the walks.
-/
namespace Go.Sh
set_option linter.unusedSimpArgs false
set_option linter.unusedVariables false
open Go Go.Proofs

def Rect (M : List (List Int)) (n : Nat) : Prop := ∀ i, i < M.length → (mrow M i).length = n
theorem Rect.set {M : List (List Int)} {n i k : Nat} {x : Int} (h : Rect M n) : Rect (mset M i k x) n := fun j hj => by
  rw [mset_length] at hj
  rw [mset_row_length]; exact h j hj
theorem Rect.snoc {M : List (List Int)} {n : Nat} {L : List Int} (h : Rect M n) (hL : L.length = n) : Rect (M ++ [L]) n := fun j hj => by
  by_cases hlt : j < M.length
  · rw [mrow_lt hlt]; exact h j hlt
  · have : j = M.length := by simp at hj; omega
    subst this; rw [mrow_at]; exact hL
def MQ (B : List Int) (cb : Nat) (H : Heap) (r : SV) (H' : Heap) : Prop :=
  ∃ ob cs nm M, r = .own ob 0 M.length M.length 1 false ∧ MatH H' H.nb ob cs nm M ∧ DS B cb H H' ∧ 1 ≤ M.length ∧ M.length ≤ 6 ∧ Rect M M.length

set_option maxRecDepth 20000 in
set_option maxHeartbeats 8000000 in
theorem Try.l17Matrix_ok (B : List Int) (hB : B.length ≤ 1048576) (most : Int) (h1 : 1 ≤ most) (h6 : most ≤ 6) (H : Heap) (cb : Nat) (hc : Cur B H cb) (hcb : cb < H.nb) : CallS Try.prog 125 [.optr cb 0, .val (.int .i64 most)] H (MQ B cb H) := by
  have w := Try.l1Below_ok B hB most (by omega) H cb hc
  refine CallS.of_body Try.func125 rfl (by kernel_rfl) (by simp [Try.ntmps125]) ?_
  refine SW_of_vc Try.mixed _ _ _ (by kernel_rfl) ?_
  simp (disch := omega) only [Try.ntmps125, Try.results125, go_sem]
  refine w.callX ?_
  rintro r H0 ⟨v, rfl, v0, v1, v2, hs⟩
  have v1 := v1 (by omega)
  obtain ⟨m, rfl⟩ := Int.eq_ofNat_of_zero_le v0
  obtain ⟨n, hn⟩ : ∃ n : Nat, n = 1 + m := ⟨_, rfl⟩
  have hn2 : (1 : Int) + (m : Int) = (n : Int) := by omega
  have hd0 : DS B cb H H0 := hs.ds
  have hnb0 := hs.nb
  simp (disch := omega) only [Try.ntmps125, Try.results125, go_sem, hn2]
  have hd1 : DS B cb H (H0.push ⟨[], false⟩) := hd0.trans (DS.push hd0.cur (by omega) _)
  refine LoopW.loop (fun y : Nat × Nat × List SV × (Nat → Nat) × List (List Int) × Heap => ⟨ofL [(0, .optr cb 0), (5, .val (.int .i64 n)), (6, .own y.2.1 0 y.1 y.1 1 false), (7, .val (.int .i64 y.1))], y.2.2.2.2.2⟩)
    (fun y => y.1 ≤ n ∧ MatH y.2.2.2.2.2 H.nb y.2.1 y.2.2.1 y.2.2.2.1 y.2.2.2.2.1 ∧ DS B cb H y.2.2.2.2.2 ∧ y.2.2.2.2.1.length = y.1 ∧ Rect y.2.2.2.2.1 n) (fun y => n - y.1) (0, H0.nb, [], fun _ => 0, [], H0.push ⟨[], false⟩)
    ⟨by simp, ⟨rfl, by rw [hpush_map, if_pos rfl], fun i hi => absurd hi (by simp), fun i j hi => absurd hi (by simp), by show H.nb ≤ H0.nb ∧ H0.nb < (H0.push _).nb; rw [hpush_nb]; omega, fun i hi => absurd hi (by simp)⟩, hd1, rfl, fun i hi => absurd hi (by simp)⟩ (Wk.of (by simp only [go_sem, ↓List.forall_mem_cons, List.not_mem_nil, false_implies, implies_true, and_true, true_and, and_self, ri_eq, Int.natCast_add, Int.cast_ofNat_Int]; try simp) rfl) ?_
  clear hd1 hd0 hs hnb0 H0
  rintro ⟨k, ob, cs, nm, M, H1⟩ ⟨hk, hM, hd, hMl, hMr⟩
  simp only at hk hM hd hMl hMr
  refine SW_of_vc Try.mixed _ _ _ (by kernel_rfl) ?_
  by_cases hlt : k < n
  · have hmo := hM.o
    have hcl : cs.length = k := by rw [hM.ln, hMl]
    have htk : List.take k cs = cs := List.take_of_length_le (by omega)
    have hlo := hM.lo1
    have hnb := hd.nb
    have hrep : List.replicate n (SV.val (.int .i64 0)) = ints (List.replicate n 0) := by simp [ints]
    simp (disch := omega) only [Try.ntmps125, Try.results125, go_sem, hmo, hcl, htk, hrep, hset_map, hpush_map, hset_nb, hpush_nb]
    have hl2 : (List.replicate n (0 : Int)).length = n := by simp
    refine ⟨(k + 1, H1.nb + 1 + 1, cs ++ [.own H1.nb 0 n n 1 true], fun i => if i < M.length then nm i else H1.nb, M ++ [List.replicate n 0], _), ⟨hlt, hM.snoc (ob' := H1.nb + 1 + 1) (r := H1.nb) (l := n) (L := List.replicate n 0) (e := true) (e2 := true) hl2.symm ?_ ?_ (fun b b1 b2 b3 => ?_) ?_ ?_ ?_ (by omega), ?_, by show (M ++ [List.replicate n 0]).length = k + 1; simp [hMl], hMr.snoc hl2⟩, by show n - (k + 1) < n - k; omega, Wk.of (by simp only [go_sem, ↓List.forall_mem_cons, List.not_mem_nil, false_implies, implies_true, and_true, true_and, and_self, ri_eq, Int.natCast_add, Int.cast_ofNat_Int]; try simp) rfl⟩
    · simp (disch := omega) only [hset_map, hpush_map, hset_nb, hpush_nb, if_pos, ↓reduceIte]
    · simp (disch := omega) only [hset_map, hpush_map, hset_nb, hpush_nb, if_pos, if_neg, ↓reduceIte]
    · simp (disch := omega) only [hset_map, hpush_map, hset_nb, hpush_nb, if_neg, ↓reduceIte]
    · simp only [hset_nb, hpush_nb]; omega
    · simp only [hset_nb, hpush_nb]; omega
    · simp only [hset_nb, hpush_nb]; omega
    · have e1 : DS B cb H ((H1.push ⟨ints (List.replicate n 0), true⟩).push ⟨[.own H1.nb 0 n n 1 true], false⟩) := (hd.trans (DS.push hd.cur (by omega) _)).trans (DS.push (DS.push hd.cur (by omega) _).cur (by rw [hpush_nb]; omega) _)
      have e2 := e1.setF ob (by omega) (by omega) none
      exact e2.trans (DS.push e2.cur (by simp only [hset_nb, hpush_nb]; omega) _)
  · obtain rfl : k = n := by omega
    have hn1 : 1 ≤ k := by omega
    have hlo := hM.lo1
    have hnb := hd.nb
    simp (disch := omega) only [Try.ntmps125, Try.results125, go_sem]
    refine LoopW.loop (fun y : Nat × List (List Int) × Heap => ⟨ofL [(0, .optr cb 0), (5, .val (.int .i64 k)), (6, .own ob 0 k k 1 false), (8, .val (.int .i64 y.1))], y.2.2⟩)
      (fun y => y.1 ≤ k ∧ MatH y.2.2 H.nb ob cs nm y.2.1 ∧ DS B cb H y.2.2 ∧ y.2.1.length = k ∧ Rect y.2.1 k) (fun y => k - y.1) (0, M, H1) ⟨by simp, hM, hd, hMl, hMr⟩ (Wk.of (by simp only [go_sem, ↓List.forall_mem_cons, List.not_mem_nil, false_implies, implies_true, and_true, true_and, and_self, ri_eq, Int.natCast_add, Int.cast_ofNat_Int]; try simp) rfl) ?_
    clear hM hd hMl hMr hlt hlo hnb M H1
    rintro ⟨i, M, H1⟩ ⟨hi, hM, hd, hMl, hMr⟩
    simp only at hi hM hd hMl hMr
    refine SW_of_vc Try.mixed _ _ _ (by kernel_rfl) ?_
    by_cases hlt : i < k
    · simp (disch := omega) only [Try.ntmps125, Try.results125, go_sem]
      refine LoopW.loop (fun y : Nat × List (List Int) × Heap => ⟨ofL [(0, .optr cb 0), (5, .val (.int .i64 k)), (6, .own ob 0 k k 1 false), (8, .val (.int .i64 i)), (9, .val (.int .i64 y.1))], y.2.2⟩)
        (fun y => i < y.1 ∧ y.1 ≤ k ∧ MatH y.2.2 H.nb ob cs nm y.2.1 ∧ DS B cb H y.2.2 ∧ y.2.1.length = k ∧ Rect y.2.1 k) (fun y => k - y.1) (i + 1, M, H1) ⟨by simp, by show i + 1 ≤ k; omega, hM, hd, hMl, hMr⟩ (Wk.of (by simp only [go_sem, ↓List.forall_mem_cons, List.not_mem_nil, false_implies, implies_true, and_true, true_and, and_self, ri_eq, Int.natCast_add, Int.cast_ofNat_Int]; try simp) rfl) ?_
      clear hM hd hMl hMr
      rintro ⟨j, M, H1⟩ ⟨hij, hj, hM, hd, hMl, hMr⟩
      simp only at hij hj hM hd hMl hMr
      refine SW_of_vc Try.mixed _ _ _ (by kernel_rfl) ?_
      by_cases hltj : j < k
      · have hlo := hM.lo1
        have hnb := hd.nb
        have hcl : cs.length = k := by rw [hM.ln, hMl]
        have wp := Try.l1Pick_ok B hB [5, 3, 1, -1, -2, -4, -6, 2, -1000, 0] (by simp) (by simp) (H1.push ⟨ints [5, 3, 1, -1, -2, -4, -6, 2, -1000, 0], false⟩) cb H1.nb false false (DS.push hd.cur (by omega) _).cur (by rw [hpush_map, if_pos rfl]) (by omega)
        simp (maxSteps := 4000000) (disch := omega) only [Try.ntmps125, Try.results125, go_sem]
        refine wp.callX ?_
        rintro r H2 ⟨v, rfl, hv, hs⟩
        have hds : DS B cb H1 H2 := (DS.push hd.cur (by omega) _).trans hs.ds
        have hnb2 := hds.nb
        have hM2 := hM.fr hnb2 (fun b b1 b2 => hds.fr b b2 (by omega))
        have hd2 := hd.trans hds
        obtain ⟨e, e2, r1, r2⟩ := hM2.row i (by omega)
        rw [hMr i (by omega)] at r1
        have ho := hM2.o
        have hil : ∀ M' : List (List Int), Rect M' k → ∀ z, z < M'.length → (ints (mrow M' z)).length = k := fun M' hr z hz => by rw [ints_length, hr z hz]
        have hset : ∀ (M' : List (List Int)) (z c : Nat), (ints (mrow M' z)).set c (.val (.int .i64 v)) = ints ((mrow M' z).set c v) := fun M' z c => by simp [ints]
        have hM3 := hM2.set (i := i) (k := j) (x := v) (e2 := e2) (by omega)
        obtain ⟨f, f2, q1, q2⟩ := hM3.row j (by rw [mset_length]; omega)
        have hr3 := hMr.set (i := i) (k := j) (x := v)
        rw [hr3 j (by rw [mset_length]; omega)] at q1
        have i1 := hil M hMr i (by omega)
        have i2 := hil (mset M i j v) hr3 j (by rw [mset_length]; omega)
        have ho3 := hM3.o
        have ni := hM2.lo2 i (by omega)
        have nj := hM3.lo2 j (by rw [mset_length]; omega)
        have hs1 := hset M i j
        have hs2 := hset (mset M i j v) j i
        have hM4 := hM3.set (i := j) (k := i) (x := v) (e2 := f2) (by rw [mset_length]; omega)
        have hd3 := hd2.setF (nm i) (by omega) (by omega) (some ⟨ints ((mrow M i).set j v), e2⟩)
        have hd4 := hd3.setF (nm j) (by omega) (by omega) (some ⟨ints ((mrow (mset M i j v) j).set i v), f2⟩)
        simp (disch := omega) only [Try.ntmps125, Try.results125, go_sem, ho, r1, r2, i1, hs1, ho3, q1, q2, i2, hs2, hcl]
        exact ⟨(j + 1, mset (mset M i j v) j i v, _), ⟨by show i < j + 1; omega, hltj, hM4, hd4, by show (mset (mset M i j v) j i v).length = k; rw [mset_length, mset_length, hMl], hr3.set⟩, by show k - (j + 1) < k - j; omega, Wk.of (by simp only [go_sem, ↓List.forall_mem_cons, List.not_mem_nil, false_implies, implies_true, and_true, true_and, and_self, ri_eq, Int.natCast_add, Int.cast_ofNat_Int]; try simp) rfl⟩
      · simp (disch := omega) only [Try.ntmps125, Try.results125, go_sem]
        exact ⟨(i + 1, M, H1), ⟨hlt, hM, hd, hMl, hMr⟩, by show k - (i + 1) < k - i; omega, Wk.of (by simp only [go_sem, ↓List.forall_mem_cons, List.not_mem_nil, false_implies, implies_true, and_true, true_and, and_self, ri_eq, Int.natCast_add, Int.cast_ofNat_Int]; try simp) rfl⟩
    · obtain rfl : i = k := by omega
      have hfin : MQ B cb H (.own ob 0 i i 1 false) H1 := ⟨ob, cs, nm, M, by rw [hMl], hM, hd, by omega, by omega, by rw [hMl]; exact hMr⟩
      simp (disch := omega) only [Try.ntmps125, Try.results125, go_sem]
      exact hfin
end Go.Sh

/-
  Drawing a matrix that may be none.
-/
namespace Go.Sh
set_option linter.unusedSimpArgs false
set_option linter.unusedVariables false
open Go Go.Proofs

def AQ (B : List Int) (cb : Nat) (H : Heap) (r : SV) (H' : Heap) : Prop :=
  ∃ ob cs nm M, r = .own ob 0 M.length M.length 1 false ∧ MatH H' H.nb ob cs nm M ∧ DS B cb H H' ∧ (1 ≤ M.length ∧ M.length ≤ 7) ∧ ∀ i, i < M.length → (mrow M i).length ≤ 6

set_option maxRecDepth 20000 in
set_option maxHeartbeats 8000000 in
theorem Try.l17Any_ok (B : List Int) (hB : B.length ≤ 1048576) (H : Heap) (cb : Nat) (hc : Cur B H cb) (hcb : cb < H.nb) : CallS Try.prog 95 [.optr cb 0] H (AQ B cb H) := by
  refine CallS.of_body Try.func95 rfl (by kernel_rfl) (by simp [Try.ntmps95]) ?_
  refine SW.seqW ⟨ofL [(0, .optr cb 0)], H⟩ ?_ ?_
  · refine SW_of_vc Try.mixed _ _ _ (by kernel_rfl) ?_
    simp (disch := omega) only [Try.ntmps95, Try.results95, go_sem]
    exact Wk.of (by simp only [go_sem, ↓List.forall_mem_cons, List.not_mem_nil, false_implies, implies_true, and_true, true_and, and_self, ri_eq, Int.natCast_add, Int.cast_ofNat_Int]; try simp) rfl
  refine SW.seqI (fun y : Nat × List SV × (Nat → Nat) × List (List Int) × Heap => ⟨ofL [(0, .optr cb 0), (3, .own y.1 0 y.2.2.2.1.length y.2.2.2.1.length 1 false)], y.2.2.2.2⟩)
    (fun y => MatH y.2.2.2.2 H.nb y.1 y.2.1 y.2.2.1 y.2.2.2.1 ∧ DS B cb H y.2.2.2.2 ∧ 1 ≤ y.2.2.2.1.length ∧ y.2.2.2.1.length ≤ 6 ∧ Rect y.2.2.2.1 y.2.2.2.1.length) ?_ ?_
  · have hp := DS.push hc hcb ⟨ints [4, 5, 6], false⟩
    have wp := Try.l1Pick_ok B hB [4, 5, 6] (by simp) (by simp) (H.push ⟨ints [4, 5, 6], false⟩) cb H.nb false false hp.cur (by rw [hpush_map, if_pos rfl]) (by omega)
    refine SW_of_vc Try.mixed _ _ _ (by kernel_rfl) ?_
    simp (disch := omega) only [Try.ntmps95, Try.results95, go_sem]
    refine wp.callX ?_
    rintro r H1 ⟨v, rfl, hv, hs⟩
    have hd := hp.trans hs.ds
    have hv2 : 1 ≤ v ∧ v ≤ 6 := by
      simp at hv; omega
    simp (disch := omega) only [Try.ntmps95, Try.results95, go_sem]
    refine (Try.l17Matrix_ok B hB v hv2.1 hv2.2 H1 cb hd.cur (by have := hd.nb; omega)).callX ?_
    rintro r H2 ⟨ob, cs, nm, M, rfl, hM, hd2, l1, l2, hr⟩
    simp (disch := omega) only [Try.ntmps95, Try.results95, go_sem]
    exact ⟨(ob, cs, nm, M, H2), ⟨hM.low hd.nb, hd.trans hd2, l1, l2, hr⟩, Wk.of (by simp only [go_sem, ↓List.forall_mem_cons, List.not_mem_nil, false_implies, implies_true, and_true, true_and, and_self, ri_eq, Int.natCast_add, Int.cast_ofNat_Int]; try simp) rfl⟩
  rintro ⟨ob, cs, nm, M, H1⟩ ⟨hM, hd, l1, l2, hr⟩
  simp only at hM hd l1 l2 hr
  have hnb := hd.nb
  refine SW.seqI (fun y : Nat × List SV × (Nat → Nat) × List (List Int) × Heap => ⟨ofL [(3, .own y.1 0 y.2.2.2.1.length y.2.2.2.1.length 1 false)], y.2.2.2.2⟩)
    (fun y => MatH y.2.2.2.2 H.nb y.1 y.2.1 y.2.2.1 y.2.2.2.1 ∧ DS B cb H y.2.2.2.2 ∧ (1 ≤ y.2.2.2.1.length ∧ y.2.2.2.1.length ≤ 7) ∧ ∀ i, i < y.2.2.2.1.length → (mrow y.2.2.2.1 i).length ≤ 6) ?_ ?_
  · refine SW_of_vc4 [] 9 (fun H => H.map ob = some ⟨cs, false⟩) [2] Try.mixed _ _ _ (by kernel_rfl) ?_
    have wb := Try.l1Below_ok B hB 16 (by omega) H1 cb hd.cur
    simp (disch := omega) only [Try.ntmps95, Try.results95, go_sem]
    refine wb.callX ?_
    rintro r H2 ⟨v, rfl, v0, v1, v2, hs⟩
    have hd2 := hd.trans hs.ds
    have hM2 := hM.fr (Nat.le_of_eq hs.nb.symm) (fun b b1 b2 => hs.map (by omega))
    clear hM hd hs
    have hlo := hM2.lo1
    have hnb2 := hd2.nb
    have ho := hM2.o
    have hcl : cs.length = M.length := hM2.ln
    have hrl : ∀ i, i < M.length → (mrow M i).length ≤ 6 := fun i hi => by rw [hr i hi]; omega
    rcases (by omega : v = 0 ∨ v = 1 ∨ v = 2 ∨ 3 ≤ v) with rfl | rfl | rfl | h3
    · obtain ⟨e, e2, r1, r2⟩ := hM2.row 0 (by omega)
      have n0 := hM2.lo2 0 (by omega)
      have hl0 := hr 0 (by omega)
      rw [hl0] at r1
      have hil : (ints (mrow M 0)).length = M.length := by rw [ints_length, hl0]
      have hst : (ints (mrow M 0)).set 0 (.val (.int .i64 1)) = ints ((mrow M 0).set 0 1) := by simp [ints]
      have hM3 := hM2.set (i := 0) (k := 0) (x := 1) (e2 := e2) (by omega)
      have hd3 := hd2.setF (nm 0) (by omega) (by omega) (some ⟨ints ((mrow M 0).set 0 1), e2⟩)
      have hml : (mset M 0 0 1).length = M.length := mset_length ..
      simp (disch := omega) only [Try.ntmps95, Try.results95, go_sem, ho, r1, r2, hil, hst, hcl]
      exact ⟨(ob, cs, nm, mset M 0 0 1, _), ⟨hM3, hd3, by show 1 ≤ (mset M 0 0 1).length ∧ (mset M 0 0 1).length ≤ 7; omega, fun i hi => by show (mrow (mset M 0 0 1) i).length ≤ 6; rw [mset_row_length]; exact hrl i (by rw [← hml]; exact hi)⟩, Wk.of (by simp only [go_sem, ↓List.forall_mem_cons, List.not_mem_nil, false_implies, implies_true, and_true, true_and, and_self, ri_eq, Int.natCast_add, Int.cast_ofNat_Int, hml]; try simp) rfl⟩
    · have htk : List.take M.length cs = cs := List.take_of_length_le (by omega)
      have hml : (M ++ [[]]).length = M.length + 1 := by simp
      simp (disch := omega) only [Try.ntmps95, Try.results95, go_sem, ho, hcl, htk, hset_map, hpush_map, hset_nb, hpush_nb]
      have e1 : DS B cb H ((H2.push ⟨[], false⟩).push ⟨[.own H2.nb 0 0 0 1 false], false⟩) := (hd2.trans (DS.push hd2.cur (by omega) _)).trans (DS.push (DS.push hd2.cur (by omega) _).cur (by rw [hpush_nb]; omega) _)
      have e2 := e1.setF ob (by omega) (by omega) none
      refine ⟨(H2.nb + 1 + 1, cs ++ [.own H2.nb 0 0 0 1 false], fun i => if i < M.length then nm i else H2.nb, M ++ [[]], _), ⟨hM2.snoc (ob' := H2.nb + 1 + 1) (r := H2.nb) (l := 0) (L := []) (e := false) (e2 := false) rfl ?_ ?_ (fun b b1 b2 b3 => ?_) ?_ ?_ ?_ (by omega), e2.trans (DS.push e2.cur (by simp only [hset_nb, hpush_nb]; omega) _), by show 1 ≤ (M ++ [[]]).length ∧ (M ++ [[]]).length ≤ 7; omega, fun i hi => ?_⟩, Wk.of (by simp only [go_sem, ↓List.forall_mem_cons, List.not_mem_nil, false_implies, implies_true, and_true, true_and, and_self, ri_eq, Int.natCast_add, Int.cast_ofNat_Int, hml]; try simp) rfl⟩
      · simp (disch := omega) only [hset_map, hpush_map, hset_nb, hpush_nb, if_pos, ↓reduceIte]
      · simp (disch := omega) only [hset_map, hpush_map, hset_nb, hpush_nb, if_pos, if_neg, ↓reduceIte]
        rfl
      · simp (disch := omega) only [hset_map, hpush_map, hset_nb, hpush_nb, if_neg, ↓reduceIte]
      · simp only [hset_nb, hpush_nb]; omega
      · simp only [hset_nb, hpush_nb]; omega
      · simp only [hset_nb, hpush_nb]; omega
      · show (mrow (M ++ [[]]) i).length ≤ 6
        by_cases hlt : i < M.length
        · rw [mrow_lt hlt]; exact hrl i hlt
        · have hi : i < (M ++ [[]]).length := hi
          have : i = M.length := by omega
          rw [this, mrow_at]; simp
    · by_cases hm1 : 1 < M.length
      · have hp := DS.push hd2.cur (by omega) ⟨ints [1001, 7, -1001], false⟩
        have wp := Try.l1Pick_ok B hB [1001, 7, -1001] (by simp) (by simp) (H2.push ⟨ints [1001, 7, -1001], false⟩) cb H2.nb false false hp.cur (by rw [hpush_map, if_pos rfl]) (by omega)
        obtain ⟨e, e2, r1, r2⟩ := hM2.row 0 (by omega)
        have n0 := hM2.lo2 0 (by omega)
        have hl0 := hr 0 (by omega)
        rw [hl0] at r1
        have hil : (ints (mrow M 0)).length = M.length := by rw [ints_length, hl0]
        simp (disch := omega) only [Try.ntmps95, Try.results95, go_sem, ho, hcl]
        refine ⟨.own (nm 0) 0 M.length M.length 1 e, fun H3 h3 => ?_, ?_⟩
        · have h3 : H3.map ob = some ⟨cs, false⟩ := h3
          simp (disch := omega) only [Try.ntmps95, Try.results95, go_sem, h3, r1]
        simp (disch := omega) only [Try.ntmps95, Try.results95, go_sem, ho, hcl, hpush_map]
        refine CallS.callN wp (PickQ.ne (by simp) hp.cur) ?_
        rintro r H3 ⟨v, rfl, hv, hs⟩
        have ho3 : H3.map ob = some ⟨cs, false⟩ := by rw [hs.map (by omega), hpush_map, if_neg (by omega), ho]
        have hnb3 : H3.nb = H2.nb + 1 := hs.nb
        have hM3 := hM2.fr (H' := H3) (by omega) (fun b b1 b2 => by rw [hs.map (by omega), hpush_map, if_neg (by omega)])
        have hd3 := (hd2.trans hp).trans hs.ds
        obtain ⟨f, f2, q1, q2⟩ := hM3.row 0 (by omega)
        have hst : (ints (mrow M 0)).set 1 (.val (.int .i64 v)) = ints ((mrow M 0).set 1 v) := by simp [ints]
        have hM4 := hM3.set (i := 0) (k := 1) (x := v) (e2 := f2) (by omega)
        have hd4 := hd3.setF (nm 0) (by omega) (by omega) (some ⟨ints ((mrow M 0).set 1 v), f2⟩)
        have hml : (mset M 0 1 v).length = M.length := mset_length ..
        have ho4 : (H3.set (nm 0) (some ⟨ints ((mrow M 0).set 1 v), f2⟩)).map ob = some ⟨cs, false⟩ := by rw [hset_map, if_neg (by omega), ho3]
        simp (disch := omega) only [Try.ntmps95, Try.results95, go_sem, ho3, q2, hil, hst, ho4]
        exact ⟨(ob, cs, nm, mset M 0 1 v, _), ⟨hM4, hd4, by show 1 ≤ (mset M 0 1 v).length ∧ (mset M 0 1 v).length ≤ 7; omega, fun i hi => by show (mrow (mset M 0 1 v) i).length ≤ 6; rw [mset_row_length]; exact hrl i (by rw [← hml]; exact hi)⟩, Wk.of (by simp only [go_sem, ↓List.forall_mem_cons, List.not_mem_nil, false_implies, implies_true, and_true, true_and, and_self, ri_eq, Int.natCast_add, Int.cast_ofNat_Int, hml]; try simp) rfl⟩
      · simp (disch := omega) only [Try.ntmps95, Try.results95, go_sem, ho, hcl]
        exact ⟨(ob, cs, nm, M, H2), ⟨hM2, hd2, by show 1 ≤ M.length ∧ M.length ≤ 7; omega, hrl⟩, Wk.of (by simp only [go_sem, ↓List.forall_mem_cons, List.not_mem_nil, false_implies, implies_true, and_true, true_and, and_self, ri_eq, Int.natCast_add, Int.cast_ofNat_Int]; try simp) rfl⟩
    · simp (disch := omega) only [Try.ntmps95, Try.results95, go_sem]
      exact ⟨(ob, cs, nm, M, H2), ⟨hM2, hd2, by show 1 ≤ M.length ∧ M.length ≤ 7; omega, hrl⟩, Wk.of (by simp only [go_sem, ↓List.forall_mem_cons, List.not_mem_nil, false_implies, implies_true, and_true, true_and, and_self, ri_eq, Int.natCast_add, Int.cast_ofNat_Int]; try simp) rfl⟩
  · rintro ⟨ob, cs, nm, M, H1⟩ ⟨hM, hd, l2, hr⟩
    simp only at hM hd l2 hr
    have hfin : AQ B cb H (.own ob 0 M.length M.length 1 false) H1 := ⟨ob, cs, nm, M, rfl, hM, hd, l2, hr⟩
    refine SW_of_vc Try.mixed _ _ _ (by kernel_rfl) ?_
    simp (disch := omega) only [Try.ntmps95, Try.results95, go_sem]
    exact hfin
end Go.Sh

/-
  Contracts: the constraints of some items. Of the reference and of the program.
-/
namespace Go.Sh
set_option linter.unusedSimpArgs false
set_option linter.unusedVariables false
open Go Go.Proofs

def rkeep (S : List Int) (c : Con) : Bool := decide (c.1 ∈ S) && decide (c.2.1 ∈ S)
def rmap (S : List Int) (c : Con) : Con := (idx c.1 S, idx c.2.1 S, c.2.2)
def rs (C : List Con) (S : List Int) : List Con := (C.filter (rkeep S)).map (rmap S)
theorem rs_nil (S : List Int) : rs [] S = [] := rfl
theorem rs_keep {C : List Con} {S : List Int} {k : Nat} {a b : Int} {s : Bool} (h : k < C.length) (hc : cg C k = (a, b, s)) (ha : a ∈ S) (hb : b ∈ S) : rs (C.take (k + 1)) S = rs (C.take k) S ++ [(idx a S, idx b S, s)] := by
  have e : C[k] = (a, b, s) := by rw [← hc]; simp [cg, h]
  rw [rs, List.take_succ_eq_append_getElem h, e, List.filter_append, List.map_append]
  simp [rs, rkeep, rmap, ha, hb]
theorem rs_drop {C : List Con} {S : List Int} {k : Nat} {a b : Int} {s : Bool} (h : k < C.length) (hc : cg C k = (a, b, s)) (hn : ¬ (a ∈ S ∧ b ∈ S)) : rs (C.take (k + 1)) S = rs (C.take k) S := by
  have e : C[k] = (a, b, s) := by rw [← hc]; simp [cg, h]
  rw [rs, List.take_succ_eq_append_getElem h, e, List.filter_append, List.map_append]
  have : rkeep S (a, b, s) = false := by
    rw [rkeep, ← Bool.decide_and]
    exact decide_eq_false hn
  simp [rs, this]
theorem rs_len (C : List Con) (S : List Int) : (rs C S).length ≤ C.length := by
  rw [rs, List.length_map]
  exact List.length_filter_le _ _
theorem cons_snoc (R : List Con) (a b : Int) (s : Bool) : cons R ++ [.val (.int .i64 a), .val (.int .i64 b), .val (.bool s)] = cons (R ++ [(a, b, s)]) := by
  rw [← cons_append]; rfl
theorem cons_take_self (R : List Con) : (cons R).take (R.length * 3) = cons R := by rw [← cons_length R, List.take_length]
theorem cons_nil : cons [] = [] := rfl
def slC (b : Nat) (R : List Con) : SV := if R.length = 0 then .val (.slice none 0 0) else .own b 0 R.length R.length 3 false
def slH (b : Nat) (R : List Con) : List (Nat × Blk) := if R.length = 0 then [] else [(b, ⟨cons R, false⟩)]
theorem slC_snoc (b : Nat) (R : List Con) (x : Con) : slC b (R ++ [x]) = .own b 0 (R.length + 1) (R.length + 1) 3 false := by simp [slC]
theorem slH_snoc (b : Nat) (R : List Con) (x : Con) : slH b (R ++ [x]) = [(b, ⟨cons (R ++ [x]), false⟩)] := by simp [slH]
theorem slC_f {b : Nat} {R : List Con} (h : R.length ≠ 0) : slC b R = .own b 0 R.length R.length 3 false := if_neg h
theorem slH_f {b : Nat} {R : List Con} (h : R.length ≠ 0) : slH b R = [(b, ⟨cons R, false⟩)] := if_neg h
theorem slC_t {b : Nat} {R : List Con} (h : R.length = 0) : slC b R = .val (.slice none 0 0) := if_pos h
theorem slH_t {b : Nat} {R : List Con} (h : R.length = 0) : slH b R = [] := if_pos h

theorem slH_one (b : Nat) (p q : Int) (t : Bool) : slH b [(p, q, t)] = [(b, ⟨[.val (.int .i64 p), .val (.int .i64 q), .val (.bool t)], false⟩)] := rfl
theorem rep3c (a b c : SV) : rep [a, b, c] 3 = [a, b, c] := rfl
def ResC (R : List Con) (r : SV) (H : Heap) : Prop := (R.length = 0 → r = .val (.slice none 0 0)) ∧ (R.length ≠ 0 → FlatRes R.length 3 (cons R) r H)

end Go.Sh

/-
  Drawing constraints and labels.
-/
namespace Go.Sh
set_option linter.unusedSimpArgs false
set_option linter.unusedVariables false
open Go Go.Proofs

theorem cons_snoc1 (C : List Con) (a b : Int) (s : Bool) : cons C ++ [.val (.int .i64 a), .val (.int .i64 b), .val (.bool s)] = cons (C ++ [(a, b, s)]) := by simp [cons, con3]
theorem cons_flat1 (a b : Int) (s : Bool) : [SV.val (.int .i64 a), .val (.int .i64 b), .val (.bool s)].all flat = true := rfl
def ConQ (B : List Int) (q : Nat) (cb : Nat) (H : Heap) (r : SV) (H' : Heap) : Prop :=
  ∃ lb C, r = .own lb 0 C.length C.length 3 false ∧ H'.map lb = some ⟨cons C, false⟩ ∧ H.nb ≤ lb ∧ lb < H'.nb ∧ DS B cb H H' ∧ C.length ≤ q

def LabQ (B : List Int) (n : Nat) (cb : Nat) (H : Heap) (r : SV) (H' : Heap) : Prop :=
  ∃ lb L, r = .own lb 0 L.length L.length 1 false ∧ H'.map lb = some ⟨ints L, false⟩ ∧ H.nb ≤ lb ∧ lb < H'.nb ∧ DS B cb H H' ∧ L.length = n
set_option maxRecDepth 20000 in
set_option maxHeartbeats 8000000 in
theorem Try.l19Labels_ok (B : List Int) (hB : B.length ≤ 1048576) (n : Nat) (h9 : n ≤ 9) (H : Heap) (cb : Nat) (hc : Cur B H cb) (hcb : cb < H.nb) : CallS Try.prog 62 [.optr cb 0, .val (.int .i64 n)] H (LabQ B n cb H) := by
  have hd0 := DS.push hc hcb ⟨[], false⟩
  refine CallS.of_body Try.func62 rfl (by kernel_rfl) (by simp [Try.ntmps62]) ?_
  refine SW_of_vc Try.mixed _ _ _ (by kernel_rfl) ?_
  simp (disch := omega) only [Try.ntmps62, Try.results62, go_sem]
  refine LoopW.loop (fun y : Nat × Int × List Int × Nat × Heap => ⟨ofL [(0, .optr cb 0), (1, .val (.int .i64 n)), (5, .own y.2.2.2.1 0 y.1 y.1 1 false), (6, .val (.int .i64 y.2.1)), (7, .val (.int .i64 y.1))], y.2.2.2.2⟩)
    (fun y => y.1 ≤ n ∧ -1 ≤ y.2.1 ∧ y.2.1 ≤ 3 ∧ y.2.2.1.length = y.1 ∧ y.2.2.2.2.map y.2.2.2.1 = some ⟨ints y.2.2.1, false⟩ ∧ H.nb ≤ y.2.2.2.1 ∧ y.2.2.2.1 < y.2.2.2.2.nb ∧ DS B cb H y.2.2.2.2) (fun y => n - y.1) (0, -1, [], H.nb, H.push ⟨[], false⟩)
    ⟨by simp, by simp, by simp, rfl, by rw [hpush_map, if_pos rfl]; rfl, Nat.le_refl _, by show H.nb < (H.push _).nb; rw [hpush_nb]; omega, hd0⟩ (Wk.of (by simp only [go_sem, ↓List.forall_mem_cons, List.not_mem_nil, false_implies, implies_true, and_true, true_and, and_self, ri_eq, Int.natCast_add, Int.cast_ofNat_Int]; try simp) rfl) ?_
  rintro ⟨k, top, L, lb, H1⟩ ⟨hk, ht1, ht2, hL, hm, hl1, hl2, hd⟩
  simp only at hk ht1 ht2 hL hm hl1 hl2 hd
  refine SW_of_vc Try.mixed _ _ _ (by kernel_rfl) ?_
  by_cases hlt : k < n
  · obtain ⟨q, hq⟩ : ∃ q : Int, q = if 4 < top + 2 then 4 else top + 2 := ⟨_, rfl⟩
    have hq2 : 1 ≤ q ∧ q ≤ 4 := by rw [hq]; split <;> omega
    have w := Try.l1Below_ok B hB q (by omega) H1 cb hd.cur
    have hil : (ints L).length = k := by rw [ints_length, hL]
    have htk : List.take k (ints L) = ints L := List.take_of_length_le (by omega)
    simp (disch := omega) only [Try.ntmps62, Try.results62, go_sem]
    rw [← hq]
    refine w.callX ?_
    rintro r H2 ⟨v, rfl, v0, v1, v2, hs⟩
    have v1 := v1 (by omega)
    have hd2 := hd.trans hs.ds
    have hm2 : H2.map lb = some ⟨ints L, false⟩ := by rw [hs.map (by omega), hm]
    have hnb2 := hs.nb
    have hnb := hd.nb
    have hsn : ints L ++ [.val (.int .i64 v)] = ints (L ++ [v]) := by simp [ints]
    simp (disch := omega) only [Try.ntmps62, Try.results62, go_sem, hm2, hil, htk, hsn, hset_map, hpush_map, hset_nb, hpush_nb]
    have e4 := DS.push hd2.cur (by omega) ⟨[.val (.int .i64 v)], false⟩
    have e5 := (hd2.trans e4).setF lb hl1 (by omega) none
    exact ⟨(k + 1, if top < v then v else top, L ++ [v], H2.nb + 1, _), ⟨hlt, by show -1 ≤ (if top < v then v else top); split <;> omega, by show (if top < v then v else top) ≤ 3; split <;> omega, by show (L ++ [v]).length = k + 1; simp [hL], by simp (disch := omega) only [hset_map, hpush_map, hset_nb, hpush_nb, if_pos, ↓reduceIte], by show H.nb ≤ H2.nb + 1; omega, by simp only [hset_nb, hpush_nb]; omega, e5.trans (DS.push e5.cur (by simp only [hset_nb, hpush_nb]; omega) _)⟩, by show n - (k + 1) < n - k; omega, Wk.of (by simp only [go_sem, ↓List.forall_mem_cons, List.not_mem_nil, false_implies, implies_true, and_true, true_and, and_self, ri_eq, Int.natCast_add, Int.cast_ofNat_Int]; try simp) rfl⟩
  · obtain rfl : k = n := by omega
    have hfin : LabQ B k cb H (.own lb 0 k k 1 false) H1 := ⟨lb, L, by rw [hL], hm, hl1, hl2, hd, hL⟩
    simp (disch := omega) only [Try.ntmps62, Try.results62, go_sem]
    exact hfin

def CaQ (B : List Int) (cb : Nat) (H : Heap) (r : SV) (H' : Heap) : Prop :=
  ∃ n : Int, ∃ r0, r = .tup [.val (.int .i64 n), r0] ∧ 0 ≤ n ∧ n ≤ 9 ∧ ConQ B 5 cb H r0 H'
theorem ConQ.low {B : List Int} {q : Nat} {cb : Nat} {H H1 H' : Heap} {r : SV} (h : ConQ B q cb H1 r H') (hd : DS B cb H H1) : ConQ B q cb H r H' := by
  obtain ⟨lb, C, e, hm, l1, l2, d, hl⟩ := h
  exact ⟨lb, C, e, hm, by have := hd.nb; omega, l2, hd.trans d, hl⟩
end Go.Sh

/-
  The search for the best partition: of the reference.
-/
namespace Go.Sh
set_option linter.unusedSimpArgs false
set_option linter.unusedVariables false
open Go Go.Proofs

/-- One look at a constraint. -/
def badAt (p : List Int) (c : Con) : Bool := decide (c.2.1 = (p.length : Int) - 1) && (decide (p.getD c.1.toNat 0 = p.getD (p.length - 1) 0) != c.2.2)
theorem badK_eq (C : List Con) (p : List Int) : badK C p = C.any (badAt p) := rfl
theorem badC_of {C : List Con} {p : List Int} {i : Nat} (hi : i < C.length) (h : badAt p (cg C i) = true) : badK C p = true := by
  rw [badK_eq, List.any_eq_true]; exact ⟨_, cg_mem hi, h⟩
theorem badC_no {C : List Con} {p : List Int} (h : ∀ i, i < C.length → badAt p (cg C i) = false) : badK C p = false := by
  rw [badK_eq, List.any_eq_false]
  intro c hc
  obtain ⟨i, hi, rfl⟩ := List.getElem_of_mem hc
  have := h i hi
  simp only [cg, List.getD_eq_getElem?_getD, List.getElem?_eq_getElem hi, Option.getD_some] at this
  rw [this]; simp

set_option maxRecDepth 20000 in
set_option maxHeartbeats 4000000 in
theorem Try.l20Bad_ok (n : Nat) (M0 X Y Z : SV) (C : List Con) (p : List Int) (hn : n ≤ 8) (hC : areCons n C = true) (h1 : 1 ≤ p.length) (hpn : p.length ≤ n) :
    PCall Try.prog 135 [.rptr [M0, rc C, X, Y, Z] 0, ri p] (.val (.bool (badK C p))) := by
  obtain ⟨_, hCl, hCc⟩ := areCons_t hC
  have lC := cons_length C
  refine FCall.pcall (R := fun r _ => r = .val (.bool (badK C p))) ?_ 0 (by rintro r H rfl; exact view_bool)
  refine FCall.of_body Try.func135 rfl (by kernel_rfl) (by simp [Try.ntmps135]) ?_
  refine SW_of_vc Try.mixed _ _ _ (by kernel_rfl) ?_
  simp (disch := omega) only [Try.ntmps135, Try.results135, go_sem, rc]
  refine LoopW.loop (fun i : Nat => ⟨ofL [(0, .rptr [M0, rc C, X, Y, Z] 0), (1, ri p), (5, .val (.int .i64 ((p.length : Int) - 1))), (6, .val (.int .i64 i))], hp [] 0⟩)
    (fun i => i ≤ C.length ∧ ∀ k, k < i → badAt p (cg C k) = false) (fun i => C.length - i) 0 ⟨by omega, fun k h => absurd h (by omega)⟩ (Wk.of (by simp only [go_sem, ↓List.forall_mem_cons, List.not_mem_nil, false_implies, implies_true, and_true, true_and, and_self, ri_eq, Int.natCast_add, Int.cast_ofNat_Int, rc]; try simp) rfl) ?_
  rintro i ⟨hi, hno⟩
  refine SW_of_vc Try.mixed _ _ _ (by kernel_rfl) ?_
  by_cases hlt : i < C.length
  · obtain ⟨xa, ya, s, hc⟩ := con_ex C i
    have hm : (xa, ya, s) ∈ C := by rw [← hc]; exact cg_mem hlt
    obtain ⟨x1, x2, x3⟩ := hCc _ hm
    simp only at x1 x2 x3
    obtain ⟨x, rfl⟩ := Int.eq_ofNat_of_zero_le x1
    obtain ⟨y, rfl⟩ := Int.eq_ofNat_of_zero_le (by omega : 0 ≤ ya)
    obtain ⟨q1, q2, q3, _⟩ := cons_of hlt hc
    have hil : (ints p).length = p.length := ints_length p
    have hba : badAt p (cg C i) = (decide ((y : Int) = (p.length : Int) - 1) && (decide (p.getD x 0 = p.getD (p.length - 1) 0) != s)) := by rw [hc]; rfl
    have hnext : badAt p (cg C i) = false → ∀ k, k < i + 1 → badAt p (cg C k) = false := fun h k hk => by
      by_cases e : k = i
      · rw [e]; exact h
      · exact hno k (by omega)
    have hyes := badC_of (p := p) hlt
    by_cases c1 : (y : Int) = (p.length : Int) - 1
    · obtain ⟨m, hm⟩ : ∃ m, p.length = m + 1 := ⟨p.length - 1, by omega⟩
      have hy : y = m := by omega
      subst hy
      have e1 : p.length - 1 = y := by omega
      rw [e1, decide_eq_true c1, Bool.true_and] at hba
      have gx : (ints p)[x]? = some (.val (.int .i64 (p.getD x 0))) := ints_get (by omega)
      have gy : (ints p)[y]? = some (.val (.int .i64 (p.getD y 0))) := ints_get (by omega)
      have e2 : ((p.length : Int) - 1) = (y : Int) := by omega
      have e3 : IntKind.i64.wrap ((p.length : Int) - 1) = (y : Int) := by rw [e2]; exact wrap_id (by omega) (by omega)
      generalize p.getD x 0 = u at *
      generalize p.getD y 0 = v at *
      by_cases c2 : u = v
      · rw [decide_eq_true c2] at hba
        cases s with
        | true =>
          simp (disch := omega) only [Try.ntmps135, Try.results135, go_sem, rc, q1, q2, q3, gx, gy, hil, lC, e2]
          exact ⟨i + 1, ⟨hlt, hnext hba⟩, by omega, Wk.of (by simp only [go_sem, ↓List.forall_mem_cons, List.not_mem_nil, false_implies, implies_true, and_true, true_and, and_self, ri_eq, Int.natCast_add, Int.cast_ofNat_Int, rc, e2]; try simp) rfl⟩
        | false =>
          rw [hyes hba]
          simp (disch := omega) only [Try.ntmps135, Try.results135, go_sem, rc, q1, q2, q3, gx, gy, hil, lC, e2]
          exact Fin.val rfl
      · rw [decide_eq_false c2] at hba
        cases s with
        | false =>
          simp (disch := omega) only [Try.ntmps135, Try.results135, go_sem, rc, q1, q2, q3, gx, gy, hil, lC, e2]
          exact ⟨i + 1, ⟨hlt, hnext hba⟩, by omega, Wk.of (by simp only [go_sem, ↓List.forall_mem_cons, List.not_mem_nil, false_implies, implies_true, and_true, true_and, and_self, ri_eq, Int.natCast_add, Int.cast_ofNat_Int, rc, e2]; try simp) rfl⟩
        | true =>
          rw [hyes hba]
          simp (disch := omega) only [Try.ntmps135, Try.results135, go_sem, rc, q1, q2, q3, gx, gy, hil, lC, e2]
          exact Fin.val rfl
    · rw [decide_eq_false c1, Bool.false_and] at hba
      simp (disch := omega) only [Try.ntmps135, Try.results135, go_sem, rc, q1, q2, q3, lC]
      exact ⟨i + 1, ⟨hlt, hnext hba⟩, by omega, Wk.of (by simp only [go_sem, ↓List.forall_mem_cons, List.not_mem_nil, false_implies, implies_true, and_true, true_and, and_self, ri_eq, Int.natCast_add, Int.cast_ofNat_Int, rc]; try simp) rfl⟩
  · obtain rfl : i = C.length := by omega
    rw [badC_no hno]
    simp (disch := omega) only [Try.ntmps135, Try.results135, go_sem, rc]
    exact Fin.val rfl
end Go.Sh

/-
  The search for the best partition: the reference's walk.
-/
namespace Go.Sh
set_option linter.unusedSimpArgs false
set_option linter.unusedVariables false
open Go Go.Proofs

/-- What the reference's search holds in memory. -/
structure SHp (M : List (List Int)) (C : List Con) (H : Heap) (sb : Nat) (s : BS) (fb : Nat) : Prop where
  m : H.map sb = some ⟨[rr M, rc C, nlI fb s.first, .val (.int .i64 s.least), .val (.int .i64 s.count)], true⟩
  mf : s.first.length ≠ 0 → H.map fb = some ⟨ints s.first, false⟩ ∧ fb ≠ sb ∧ fb < H.nb
  sn : sb < H.nb
def WQ (M : List (List Int)) (C : List Con) (sb : Nat) (t : BS) (H : Heap) (r : SV) (H' : Heap) : Prop :=
  r = .tup [] ∧ H.nb ≤ H'.nb ∧ (∀ b, b < H.nb → b ≠ sb → H'.map b = H.map b) ∧ ∃ fb', SHp M C H' sb t fb'
structure XH (H1 H2 : Heap) (xb : Nat) (L : List Int) : Prop where
  mx : H2.map xb = some ⟨ints L, false⟩
  n1 : xb < H2.nb
  n2 : H1.nb ≤ xb
  fr : ∀ b, b < H1.nb → H2.map b = H1.map b
theorem SHp.xh {M : List (List Int)} {C : List Con} {H1 H2 : Heap} {sb fb xb : Nat} {s : BS} {L : List Int} (h : SHp M C H1 sb s fb) (x : XH H1 H2 xb L) : SHp M C H2 sb s fb := by
  have := x.n1
  have := x.n2
  have hs := h.sn
  exact ⟨by rw [x.fr _ hs]; exact h.m, fun hf => by
    obtain ⟨f1, f2, f3⟩ := h.mf hf
    exact ⟨by rw [x.fr _ f3]; exact f1, f2, by omega⟩, by omega⟩
theorem view_nlI {H : Heap} {f b : Nat} {T : List Int} (h : T.length ≠ 0 → H.map b = some ⟨ints T, false⟩) : view H (f + 1) (nlI b T) = some (ri T) := by
  by_cases h0 : T.length = 0
  · rw [nlI_t h0, List.length_eq_zero_iff.1 h0]; exact view_nil
  · rw [nlI_f h0]; exact view_own (h h0) rfl
def walkTo (M : List (List Int)) (C : List Con) (k : Nat) (p : List Int) (nx : Nat) (cost : Int) (s : BS) (x : Nat) : BS :=
  (List.range x).foldl (fun s (x : Nat) => if badK C (p ++ [(x : Int)]) = true then s else walkB M C k (p ++ [(x : Int)]) (max nx (x + 1)) (cost + wadd M p x p.length) s) s
theorem walkTo_succ {M : List (List Int)} {C : List Con} {k : Nat} {p : List Int} {nx : Nat} {cost : Int} {s : BS} {x : Nat} :
    walkTo M C k p nx cost s (x + 1) = if badK C (p ++ [(x : Int)]) = true then walkTo M C k p nx cost s x else walkB M C k (p ++ [(x : Int)]) (max nx (x + 1)) (cost + wadd M p x p.length) (walkTo M C k p nx cost s x) := by
  rw [walkTo, List.range_succ, List.foldl_append]; rfl
theorem walkTo_count {M : List (List Int)} {C : List Con} {k : Nat} {p : List Int} {nx : Nat} {cost : Int} {s : BS} {x : Nat} (hx : x ≤ nx + 1) (h : nx + (k + 1) ≤ 8) : (walkTo M C k p nx cost s x).count ≤ s.count + x * 9 ^ k :=
  foldl_count (g := fun s (x : Nat) => if badK C (p ++ [(x : Int)]) = true then s else walkB M C k (p ++ [(x : Int)]) (max nx (x + 1)) (cost + wadd M p x p.length) s) (B := 9 ^ k) x s fun s y hy => by
    show (if badK C (p ++ [(y : Int)]) = true then s else walkB M C k (p ++ [(y : Int)]) (max nx (y + 1)) (cost + wadd M p y p.length) s).count ≤ _
    split
    · exact Nat.le_add_right _ _
    · exact walk_count k _ _ _ s (by omega)

set_option maxRecDepth 20000 in
set_option maxHeartbeats 8000000 in
theorem Try.l20Walk_ok {M : List (List Int)} {C : List Con} (hw : WM M) (hC : areCons M.length C = true) (sb : Nat) : ∀ (k : Nat) (p : List Int) (nx : Nat) (cost : Int) (s : BS) (fb lb : Nat) (H : Heap), p.length + k = M.length → nx + k ≤ 8 → s.count + 9 ^ k ≤ 1000000000 → 0 ≤ cost → cost ≤ 8000 * p.length →
    H.map lb = some ⟨ints p, false⟩ → lb ≠ sb → lb < H.nb → SHp M C H sb s fb →
    CallS Try.prog 111 [.optr sb 0, .own lb 0 p.length p.length 1 false, .val (.int .i64 ((nx : Int) - 1)), .val (.int .i64 cost)] H (WQ M C sb (walkB M C k p nx cost s) H)
  | 0, p, nx, cost, s, fb, lb, H, hl, hnx, hct, hc0, hc1, hp, hls, hln, h => by
    have hM := hw.1
    have m := h.m
    have hrl := rows_length M
    by_cases g : 0 ≤ s.least ∧ s.least < cost
    · rw [walkB, if_pos g]
      have hfin : WQ M C sb s H (.tup []) H := ⟨rfl, Nat.le_refl _, fun _ _ _ => rfl, fb, h⟩
      obtain ⟨g1, g2⟩ := g
      refine CallS.of_body Try.func111 rfl (by kernel_rfl) (by simp [Try.ntmps111]) ?_
      refine SW_of_vc Try.mixed _ _ _ (by kernel_rfl) ?_
      simp (disch := omega) only [Try.ntmps111, Try.results111, go_sem, m, rr_eq, rc]
      exact hfin
    · rw [walkB, if_neg g, walkEnd]
      have hpl : p.length = M.length := by omega
      have hip : (ints p).length = p.length := ints_length p
      have htk : List.take p.length (ints p) = ints p := List.take_of_length_le (by omega)
      have hf := ints_flat p
      have hsn := h.sn
      have hp2 : ((H.push ⟨[], false⟩).map lb) = some ⟨ints p, false⟩ := by rw [hpush_map, if_neg (by omega), hp]
      have hp3 : ((H.push ⟨[], false⟩).map H.nb) = some ⟨[], false⟩ := by rw [hpush_map, if_pos rfl]
      by_cases g1 : s.least < 0 ∨ cost < s.least
      · rw [if_pos g1]
        have hgd : s.least < 0 ∨ (¬ s.least < 0 ∧ cost < s.least) := by omega
        rcases hgd with g2 | ⟨g2, g3⟩
        · refine CallS.of_body Try.func111 rfl (by kernel_rfl) (by simp [Try.ntmps111]) ?_
          refine SW_of_vc Try.mixed _ _ _ (by kernel_rfl) ?_
          simp (disch := omega) only [Try.ntmps111, Try.results111, go_sem, m, rr_eq, rc, hp, hip, htk, hf, hset_map, hpush_map, hset_nb, hpush_nb]
          refine ⟨rfl, ?_, fun b hb hbs => ?_, H.nb + 1, ?_, fun _ => ⟨?_, ?_, ?_⟩, ?_⟩
          · simp only [hset_nb, hpush_nb]; omega
          · simp (disch := omega) only [hset_map, hpush_map, hset_nb, hpush_nb, if_neg, ↓reduceIte]
          · rw [hset_map, if_pos rfl, rr_eq, rc, nlI_f (by show p.length ≠ 0; omega)]
            rfl
          · simp (disch := omega) only [hset_map, hpush_map, hset_nb, hpush_nb, if_neg, if_pos, ↓reduceIte]
          · omega
          · simp only [hset_nb, hpush_nb]; omega
          · simp only [hset_nb, hpush_nb]; omega
        · refine CallS.of_body Try.func111 rfl (by kernel_rfl) (by simp [Try.ntmps111]) ?_
          refine SW_of_vc Try.mixed _ _ _ (by kernel_rfl) ?_
          simp (disch := omega) only [Try.ntmps111, Try.results111, go_sem, m, rr_eq, rc, hp, hip, htk, hf, hset_map, hpush_map, hset_nb, hpush_nb]
          refine ⟨rfl, ?_, fun b hb hbs => ?_, H.nb + 1, ?_, fun _ => ⟨?_, ?_, ?_⟩, ?_⟩
          · simp only [hset_nb, hpush_nb]; omega
          · simp (disch := omega) only [hset_map, hpush_map, hset_nb, hpush_nb, if_neg, ↓reduceIte]
          · rw [hset_map, if_pos rfl, rr_eq, rc, nlI_f (by show p.length ≠ 0; omega)]
            rfl
          · simp (disch := omega) only [hset_map, hpush_map, hset_nb, hpush_nb, if_neg, if_pos, ↓reduceIte]
          · omega
          · simp only [hset_nb, hpush_nb]; omega
          · simp only [hset_nb, hpush_nb]; omega
      · rw [if_neg g1]
        refine CallS.of_body Try.func111 rfl (by kernel_rfl) (by simp [Try.ntmps111]) ?_
        refine SW_of_vc Try.mixed _ _ _ (by kernel_rfl) ?_
        simp (disch := omega) only [Try.ntmps111, Try.results111, go_sem, m, rr_eq, rc, hp, hip, htk, hf, hset_map, hpush_map, hset_nb, hpush_nb]
        refine ⟨rfl, Nat.le_refl _, fun b hb hbs => ?_, fb, ?_, fun hf0 => ?_, hsn⟩
        · rw [hset_map, if_neg hbs]
        · rw [hset_map, if_pos rfl, rr_eq, rc]
          rfl
        · obtain ⟨f1, f2, f3⟩ := h.mf hf0
          exact ⟨by rw [hset_map, if_neg f2, f1], f2, f3⟩
  | k + 1, p, nx, cost, s, fb, lb, H, hl, hnx, hct, hc0, hc1, hp, hls, hln, h => by
    have hM := hw.1
    have m := h.m
    have hrl := rows_length M
    by_cases g : 0 ≤ s.least ∧ s.least < cost
    · rw [walkB, if_pos g]
      have hfin : WQ M C sb s H (.tup []) H := ⟨rfl, Nat.le_refl _, fun _ _ _ => rfl, fb, h⟩
      obtain ⟨g1, g2⟩ := g
      refine CallS.of_body Try.func111 rfl (by kernel_rfl) (by simp [Try.ntmps111]) ?_
      refine SW_of_vc Try.mixed _ _ _ (by kernel_rfl) ?_
      simp (disch := omega) only [Try.ntmps111, Try.results111, go_sem, m, rr_eq, rc]
      exact hfin
    · rw [walkB, if_neg g]
      have hip : (ints p).length = p.length := ints_length p
      have htk : List.take p.length (ints p) = ints p := List.take_of_length_le (by omega)
      have hf := ints_flat p
      have hsn := h.sn
      have hwt : (List.range (nx + 1)).foldl (fun s (x : Nat) => if badK C (p ++ [(x : Int)]) = true then s else walkB M C k (p ++ [(x : Int)]) (max nx (x + 1)) (cost + wadd M p x p.length) s) s = walkTo M C k p nx cost s (nx + 1) := rfl
      rw [hwt]
      have h9 : (nx + 1) * 9 ^ k ≤ 9 * 9 ^ k := mul9 (by omega)
      rw [Nat.pow_succ] at hct
      refine CallS.of_body Try.func111 rfl (by kernel_rfl) (by simp [Try.ntmps111]) ?_
      refine SW.seqW ⟨ofL [(0, .optr sb 0), (1, .own lb 0 p.length p.length 1 false), (2, .val (.int .i64 ((nx : Int) - 1))), (3, .val (.int .i64 cost))], H⟩ ?_ ?_
      · refine SW_of_vc Try.mixed _ _ _ (by kernel_rfl) ?_
        have hgd : s.least < 0 ∨ (0 ≤ s.least ∧ cost ≤ s.least) := by omega
        rcases hgd with hg | ⟨hg, hg2⟩
        · simp (disch := omega) only [Try.ntmps111, Try.results111, go_sem, m, rr_eq, rc]
          exact Wk.of (by simp only [go_sem, ↓List.forall_mem_cons, List.not_mem_nil, false_implies, implies_true, and_true, true_and, and_self, ri_eq, Int.natCast_add, Int.cast_ofNat_Int]; try simp) rfl
        · simp (disch := omega) only [Try.ntmps111, Try.results111, go_sem, m, rr_eq, rc]
          exact Wk.of (by simp only [go_sem, ↓List.forall_mem_cons, List.not_mem_nil, false_implies, implies_true, and_true, true_and, and_self, ri_eq, Int.natCast_add, Int.cast_ofNat_Int]; try simp) rfl
      refine SW_of_vc Try.mixed _ _ _ (by kernel_rfl) ?_
      simp (disch := omega) only [Try.ntmps111, Try.results111, go_sem, m, rr_eq, rc, hp, hip, htk, hf, hset_map, hpush_map, hset_nb, hpush_nb]
      refine LoopW.loop (fun y : Nat × Nat × Heap => ⟨ofL [(0, .optr sb 0), (1, .own lb 0 p.length p.length 1 false), (2, .val (.int .i64 ((nx : Int) - 1))), (3, .val (.int .i64 cost)), (8, .val (.int .i64 p.length)), (9, .val (.int .i64 y.1))], y.2.2⟩)
        (fun y => y.1 ≤ nx + 1 ∧ SHp M C y.2.2 sb (walkTo M C k p nx cost s y.1) y.2.1 ∧ H.nb ≤ y.2.2.nb ∧ (∀ b, b < H.nb → b ≠ sb → y.2.2.map b = H.map b)) (fun y => nx + 1 - y.1) (0, fb, H)
        ⟨by simp, h, Nat.le_refl _, fun _ _ _ => rfl⟩ (Wk.of (by simp only [go_sem, ↓List.forall_mem_cons, List.not_mem_nil, false_implies, implies_true, and_true, true_and, and_self, ri_eq, Int.natCast_add, Int.cast_ofNat_Int]; try simp) rfl) ?_
      clear h m g hwt fb
      rintro ⟨x, fb, H1⟩ ⟨hx, h, hnb, hfr⟩
      simp only at hx h hnb hfr
      have m := h.m
      have hp1 : H1.map lb = some ⟨ints p, false⟩ := by rw [hfr lb hln hls, hp]
      by_cases hlt : x < nx + 1
      · have hxi : (x : Int) ≤ 8 := by omega
        have hsucc := walkTo_succ (M := M) (C := C) (k := k) (p := p) (nx := nx) (cost := cost) (s := s) (x := x)
        have hct1 := walkTo_count (M := M) (C := C) (k := k) (p := p) (cost := cost) (s := s) hx hnx
        have hx9 : (x + 1) * 9 ^ k ≤ (nx + 1) * 9 ^ k := mul9 (by omega)
        rw [Nat.succ_mul] at hx9
        generalize walkTo M C k p nx cost s x = t at *
        have wb := Try.l20Bad_ok M.length (rr M) (ri t.first) (.val (.int .i64 t.least)) (.val (.int .i64 t.count)) C (p ++ [(x : Int)]) hM.2 hC (by simp) (by simp; omega)
        have hl1 : (p ++ [(x : Int)]).length = p.length + 1 := by simp
        have hs2 := h.sn
        refine SW.seqW ⟨ofL [(0, .optr sb 0), (1, .own lb 0 p.length p.length 1 false), (2, .val (.int .i64 ((nx : Int) - 1))), (3, .val (.int .i64 cost)), (8, .val (.int .i64 p.length)), (9, .val (.int .i64 x))], H1⟩ ?_ ?_
        · refine SW_of_vc Try.mixed _ _ _ (by kernel_rfl) ?_
          simp (disch := omega) only [Try.ntmps111, Try.results111, go_sem]
          exact Wk.of (by simp only [go_sem, ↓List.forall_mem_cons, List.not_mem_nil, false_implies, implies_true, and_true, true_and, and_self, ri_eq, Int.natCast_add, Int.cast_ofNat_Int]; try simp) rfl
        refine SW.seq (SW.block ?_)
        refine SW.seqI (fun y : Nat × Heap => ⟨ofL [(0, .optr sb 0), (1, .own lb 0 p.length p.length 1 false), (2, .val (.int .i64 ((nx : Int) - 1))), (3, .val (.int .i64 cost)), (8, .val (.int .i64 p.length)), (9, .val (.int .i64 x)), (10, .own y.1 0 (p.length + 1) (p.length + 1) 1 false)], y.2⟩) (fun y => XH H1 y.2 y.1 (p ++ [(x : Int)])) ?_ ?_
        · refine SW_of_vc Try.mixed _ _ _ (by kernel_rfl) ?_
          by_cases h0 : p.length = 0
          · have hi0 : ints p = [] := by rw [List.length_eq_zero_iff.1 h0]; rfl
            have hi1 : [SV.val (.int .i64 (x : Int))] = ints (p ++ [(x : Int)]) := by rw [List.length_eq_zero_iff.1 h0]; rfl
            simp (disch := omega) only [Try.ntmps111, Try.results111, go_sem, m, rr_eq, rc, hp1, hip, htk, hf, hset_map, hpush_map, hset_nb, hpush_nb, hi0, h0]
            refine ⟨(H1.nb + 1 + 1, _), ?_, Wk.of (by simp only [go_sem, ↓List.forall_mem_cons, List.not_mem_nil, false_implies, implies_true, and_true, true_and, and_self, ri_eq, Int.natCast_add, Int.cast_ofNat_Int, h0]; try simp) rfl⟩
            rw [hi1]
            exact ⟨by simp (disch := omega) only [hset_map, hpush_map, hset_nb, hpush_nb, if_neg, if_pos, ↓reduceIte], by simp only [hset_nb, hpush_nb]; omega, by show H1.nb ≤ H1.nb + 1 + 1; omega, fun b hb => by simp (disch := omega) only [hset_map, hpush_map, hset_nb, hpush_nb, if_neg, ↓reduceIte]⟩
          · simp (disch := omega) only [Try.ntmps111, Try.results111, go_sem, m, rr_eq, rc, hp1, hip, htk, hf, hset_map, hpush_map, hset_nb, hpush_nb]
            refine ⟨(H1.nb + 1 + 1 + 1, _), ?_, Wk.of (by simp only [go_sem, ↓List.forall_mem_cons, List.not_mem_nil, false_implies, implies_true, and_true, true_and, and_self, ri_eq, Int.natCast_add, Int.cast_ofNat_Int]; try simp) rfl⟩
            exact ⟨by simp (disch := omega) only [hset_map, hpush_map, hset_nb, hpush_nb, if_neg, if_pos, ↓reduceIte], by simp only [hset_nb, hpush_nb]; omega, by show H1.nb ≤ H1.nb + 1 + 1 + 1; omega, fun b hb => by simp (disch := omega) only [hset_map, hpush_map, hset_nb, hpush_nb, if_neg, ↓reduceIte]⟩
        rintro ⟨xb, H2⟩ hX
        simp only at hX
        have h2 := h.xh hX
        have hn1 := hX.n1
        have hn2' := hX.n2
        have hn2 : H1.nb ≤ H2.nb := by omega
        have hfr2 : ∀ b, b < H.nb → b ≠ sb → H2.map b = H.map b := fun b hb hbs => by rw [hX.fr b (by omega), hfr b hb hbs]
        have m2 := h2.m
        have hp2 : H2.map lb = some ⟨ints p, false⟩ := by rw [hX.fr lb (by omega), hp1]
        refine SW_of_vc Try.mixed _ _ _ (by kernel_rfl) ?_
        rcases Bool.eq_false_or_eq_true (badK C (p ++ [(x : Int)])) with hb | hb
        · rw [hb] at wb
          rw [if_pos hb] at hsucc
          simp (disch := omega) only [Try.ntmps111, Try.results111, go_sem]
          refine wb.callV 4 (viewL_cons_of (view_optr m2 (viewL_cons_of view_row (viewL_cons_of view_row (viewL_cons_of (view_nlI fun hf0 => (h2.mf hf0).1) (viewL_cons_of view_int (viewL_cons_of view_int viewL_nil_of)))))) (viewL_cons_of (view_own hX.mx hl1.symm) viewL_nil_of)) ?_
          simp (disch := omega) only [Try.ntmps111, Try.results111, go_sem]
          refine SW_of_vc Try.mixed _ _ _ (by kernel_rfl) ?_
          simp (disch := omega) only [Try.ntmps111, Try.results111, go_sem]
          exact ⟨(x + 1, fb, H2), ⟨hlt, hsucc ▸ h2, Nat.le_trans hnb hn2, hfr2⟩, by show nx + 1 - (x + 1) < nx + 1 - x; omega, Wk.of (by simp only [go_sem, ↓List.forall_mem_cons, List.not_mem_nil, false_implies, implies_true, and_true, true_and, and_self, ri_eq, Int.natCast_add, Int.cast_ofNat_Int]; try simp) rfl⟩
        · rw [hb] at wb
          rw [if_neg (by rw [hb]; simp)] at hsucc
          simp (disch := omega) only [Try.ntmps111, Try.results111, go_sem]
          refine wb.callV 4 (viewL_cons_of (view_optr m2 (viewL_cons_of view_row (viewL_cons_of view_row (viewL_cons_of (view_nlI fun hf0 => (h2.mf hf0).1) (viewL_cons_of view_int (viewL_cons_of view_int viewL_nil_of)))))) (viewL_cons_of (view_own hX.mx hl1.symm) viewL_nil_of)) ?_
          simp (disch := omega) only [Try.ntmps111, Try.results111, go_sem]
          have hw0 : cost + wadd M p x 0 = cost := by show cost + 0 = cost; omega
          refine LoopW.loop (fun i : Nat => ⟨ofL [(0, .optr sb 0), (1, .own lb 0 p.length p.length 1 false), (2, .val (.int .i64 ((nx : Int) - 1))), (3, .val (.int .i64 cost)), (8, .val (.int .i64 p.length)), (9, .val (.int .i64 x)), (10, .own xb 0 (p.length + 1) (p.length + 1) 1 false), (11, .val (.int .i64 (cost + wadd M p x i))), (12, .val (.int .i64 i))], H2⟩) (fun i => i ≤ p.length) (fun i => p.length - i) 0 (by omega) (Wk.of (by simp only [go_sem, ↓List.forall_mem_cons, List.not_mem_nil, false_implies, implies_true, and_true, true_and, and_self, ri_eq, Int.natCast_add, Int.cast_ofNat_Int, hw0]; try simp) rfl) ?_
          intro i hi
          refine SW_of_vc Try.mixed _ _ _ (by kernel_rfl) ?_
          by_cases hli : i < p.length
          · have hri := hw.2.1 i (by omega)
            have hmb := (hw.2.2.1 i p.length (by omega) (by omega)).1
            have gm : (ints (mrow M i))[p.length]? = some (.val (.int .i64 (mat M i p.length))) := ints_get' hri (by omega)
            have gp : (ints p)[i]? = some (.val (.int .i64 (p.getD i 0))) := ints_get hli
            have hwb := wadd_b hw (p := p) (x := x) (by omega) (t := i) (by omega)
            have hws : wadd M p x (i + 1) = wadd M p x i + (if p.getD i 0 = x then max 0 (-mat M i p.length) else max 0 (mat M i p.length)) := rfl
            generalize hw1 : wadd M p x (i + 1) = w1 at *
            generalize mat M i p.length = v at *
            generalize p.getD i 0 = u at *
            generalize wadd M p x i = wv at *
            rcases (by omega : 0 < v ∨ v = 0 ∨ v < 0) with hv | hv | hv
            · by_cases hu : u = (x : Int)
              · have he : w1 = wv := by rw [hws, if_pos hu]; omega
                simp (disch := omega) only [Try.ntmps111, Try.results111, go_sem, m2, rr_eq, rc, rows_get, hri, gm, gp, hp2, hip, hrl]
                exact ⟨i + 1, by omega, by omega, Wk.of (by simp only [go_sem, ↓List.forall_mem_cons, List.not_mem_nil, false_implies, implies_true, and_true, true_and, and_self, ri_eq, Int.natCast_add, Int.cast_ofNat_Int, hw1, he]; try simp) rfl⟩
              · have he : cost + w1 = cost + wv + v := by rw [hws, if_neg hu]; omega
                simp (disch := omega) only [Try.ntmps111, Try.results111, go_sem, m2, rr_eq, rc, rows_get, hri, gm, gp, hp2, hip, hrl]
                exact ⟨i + 1, by omega, by omega, Wk.of (by simp only [go_sem, ↓List.forall_mem_cons, List.not_mem_nil, false_implies, implies_true, and_true, true_and, and_self, ri_eq, Int.natCast_add, Int.cast_ofNat_Int, hw1, he]; try simp) rfl⟩
            · have he : w1 = wv := by rw [hws, hv]; split <;> omega
              simp (disch := omega) only [Try.ntmps111, Try.results111, go_sem, m2, rr_eq, rc, rows_get, hri, gm, gp, hp2, hip, hrl, hv]
              exact ⟨i + 1, by omega, by omega, Wk.of (by simp only [go_sem, ↓List.forall_mem_cons, List.not_mem_nil, false_implies, implies_true, and_true, true_and, and_self, ri_eq, Int.natCast_add, Int.cast_ofNat_Int, hw1, he]; try simp) rfl⟩
            · by_cases hu : u = (x : Int)
              · have he : cost + w1 = cost + wv - v := by rw [hws, if_pos hu]; omega
                simp (disch := omega) only [Try.ntmps111, Try.results111, go_sem, m2, rr_eq, rc, rows_get, hri, gm, gp, hp2, hip, hrl]
                exact ⟨i + 1, by omega, by omega, Wk.of (by simp only [go_sem, ↓List.forall_mem_cons, List.not_mem_nil, false_implies, implies_true, and_true, true_and, and_self, ri_eq, Int.natCast_add, Int.cast_ofNat_Int, hw1, he]; try simp) rfl⟩
              · have he : w1 = wv := by rw [hws, if_neg hu]; omega
                simp (disch := omega) only [Try.ntmps111, Try.results111, go_sem, m2, rr_eq, rc, rows_get, hri, gm, gp, hp2, hip, hrl]
                exact ⟨i + 1, by omega, by omega, Wk.of (by simp only [go_sem, ↓List.forall_mem_cons, List.not_mem_nil, false_implies, implies_true, and_true, true_and, and_self, ri_eq, Int.natCast_add, Int.cast_ofNat_Int, hw1, he]; try simp) rfl⟩
          · obtain rfl : i = p.length := by omega
            have hwb := wadd_b hw (p := p) (x := x) (by omega) (t := p.length) (Nat.le_refl _)
            have ih := Try.l20Walk_ok hw hC sb k (p ++ [(x : Int)]) (max nx (x + 1)) (cost + wadd M p x p.length) t fb xb H2 (by rw [hl1]; omega) (by omega) (by omega) (by omega) (by rw [hl1]; omega) hX.mx (by omega) hX.n1 h2
            rw [hl1, ← hsucc] at ih
            have c2 : ((max nx (x + 1) : Nat) : Int) - 1 = if (nx : Int) - 1 < (x : Int) then (x : Int) else (nx : Int) - 1 := by split <;> omega
            rw [c2] at ih
            simp (disch := omega) only [Try.ntmps111, Try.results111, go_sem]
            refine ih.callX ?_
            rintro r H3 ⟨rfl, hn3, hfr3, fb3, h3⟩
            simp (disch := omega) only [Try.ntmps111, Try.results111, go_sem]
            refine SW_of_vc Try.mixed _ _ _ (by kernel_rfl) ?_
            simp (disch := omega) only [Try.ntmps111, Try.results111, go_sem]
            exact ⟨(x + 1, fb3, H3), ⟨hlt, h3, by show H.nb ≤ H3.nb; omega, fun b hb hbs => by rw [hfr3 b (by omega) hbs, hfr2 b hb hbs]⟩, by show nx + 1 - (x + 1) < nx + 1 - x; omega, Wk.of (by simp only [go_sem, ↓List.forall_mem_cons, List.not_mem_nil, false_implies, implies_true, and_true, true_and, and_self, ri_eq, Int.natCast_add, Int.cast_ofNat_Int]; try simp) rfl⟩
      · obtain rfl : x = nx + 1 := by omega
        have hfin : WQ M C sb (walkTo M C k p nx cost s (nx + 1)) H (.tup []) H1 := ⟨rfl, hnb, hfr, fb, h⟩
        refine SW_of_vc Try.mixed _ _ _ (by kernel_rfl) ?_
        simp (disch := omega) only [Try.ntmps111, Try.results111, go_sem]
        exact hfin
end Go.Sh

/-
  The best partition: the contracts of the reference.
-/
namespace Go.Sh
set_option linter.unusedSimpArgs false
set_option linter.unusedVariables false
open Go Go.Proofs

def okB (M : List (List Int)) (C : List Con) : Prop := WM M ∧ isCst M.length C = true
def RQ (M : List (List Int)) (C : List Con) (r : SV) (H' : Heap) : Prop :=
  ∃ fb, r = .tup [.agg [rr M, rc C, .own fb 0 M.length M.length 1 false, .val (.int .i64 (bs M C).least), .val (.int .i64 (bs M C).count)], .val (.bool true)] ∧ H'.map fb = some ⟨ints (bs M C).first, false⟩ ∧ fb < H'.nb
set_option maxRecDepth 20000 in
set_option maxHeartbeats 4000000 in
theorem Try.l20Run_ok {M : List (List Int)} {C : List Con} (hM : M.length ≤ 1048576) (hR : ∀ i, i < M.length → (mrow M i).length ≤ 1048576) (hC : C.length ≤ 1048576) (h : okB M C) :
    CallS Try.prog 76 [rr M, rc C] (hp [] 0) (RQ M C) := by
  obtain ⟨hw, hcs⟩ := h
  have hln := hw.1
  have ha := isCst_t hcs
  have w1 := Try.specIsWM_ok M hM hR
  rw [isWM_t hw] at w1
  have w2 := Try.specConsistent_ok M.length C hC (by omega) (by omega)
  rw [hcs] at w2
  have hbl := (bs_best (C := C) hw).ok (bs_ok hw hcs)
  refine CallS.of_body Try.func76 rfl (by kernel_rfl) (by simp [Try.ntmps76]) ?_
  refine SW_of_vc Try.mixed _ _ _ (by kernel_rfl) ?_
  simp (disch := omega) only [Try.ntmps76, Try.results76, go_sem, rr_eq, rc]
  refine w1.callV 0 (viewL_cons_of (view_row) viewL_nil_of) ?_
  simp (disch := omega) only [Try.ntmps76, Try.results76, go_sem, rr_eq, rc]
  refine w2.callV 0 (viewL_cons_of (view_int) (viewL_cons_of (view_row) viewL_nil_of)) ?_
  simp (disch := omega) only [Try.ntmps76, Try.results76, go_sem, rr_eq, rc]
  refine (Try.l20Walk_ok hw ha 1 M.length [] 0 0 ⟨[], -1, 0⟩ 0 2 _ (by simp) (by omega) ?_ (by omega) (by simp) rfl (by omega) (by simp [hp]) ⟨by rw [rr_eq, rc]; rfl, fun hf => absurd rfl hf, by simp [hp]⟩).callX ?_
  · have h9 : 9 ^ M.length ≤ 9 ^ 8 := Nat.pow_le_pow_right (by omega) hln.2
    show 0 + 9 ^ M.length ≤ 1000000000
    omega
  rw [bs_walk hw ha]
  rintro r H' ⟨rfl, hnb, hfr, fb, hs⟩
  have m := hs.m
  have m0 : H'.map 0 = some ⟨[.val (.slice none 0 0), .val (.slice none 0 0), .val (.slice none 0 0), .val (.int .i64 0), .val (.int .i64 0)], true⟩ := by rw [hfr 0 (by simp [hp]) (by omega)]; rfl
  have hf0 : (bs M C).first.length ≠ 0 := by omega
  obtain ⟨mf, f2, f3⟩ := hs.mf hf0
  have hRQ : ∀ H2 : Heap, H2.map fb = some ⟨ints (bs M C).first, false⟩ → fb < H2.nb → RQ M C (.tup [.agg [rr M, rc C, .own fb 0 M.length M.length 1 false, .val (.int .i64 (bs M C).least), .val (.int .i64 (bs M C).count)], .val (.bool true)]) H2 := fun H2 h2 h3 => ⟨fb, rfl, h2, h3⟩
  rw [nlI_f hf0, hbl.1] at m
  generalize bs M C = t at *
  have hfb : fb ≠ 0 := by
    rintro rfl
    rw [m0] at mf
    cases hL : t.first with
    | nil => rw [hL] at hf0; exact hf0 rfl
    | cons a L => rw [hL] at mf; simp [ints] at mf
  simp (disch := omega) only [Try.ntmps76, Try.results76, go_sem, rr_eq, rc, m, m0, hset_map]
  have := hRQ (H'.set 0 (some ⟨[rr M, rc C, .own fb 0 M.length M.length 1 false, .val (.int .i64 t.least), .val (.int .i64 t.count)], true⟩)) (by rw [hset_map, if_neg hfb, mf]) f3
  rw [rr_eq, rc] at this
  exact this
def zS : SV := .agg [.val (.slice none 0 0), .val (.slice none 0 0), .val (.slice none 0 0), .val (.int .i64 0), .val (.int .i64 0)]
theorem Try.l20Run_n {M : List (List Int)} {C : List Con} (hM : M.length ≤ 1048576) (hR : ∀ i, i < M.length → (mrow M i).length ≤ 1048576) (hC : C.length ≤ 1048576) (h : ¬ okB M C) :
    CallS Try.prog 76 [rr M, rc C] (hp [] 0) (fun r _ => r = .tup [zS, .val (.bool false)]) := by
  have w1 := Try.specIsWM_ok M hM hR
  refine CallS.of_body Try.func76 rfl (by kernel_rfl) (by simp [Try.ntmps76]) ?_
  refine SW_of_vc Try.mixed _ _ _ (by kernel_rfl) ?_
  by_cases hw : WM M
  · have hcs : isCst M.length C = false := by
      rcases Bool.eq_false_or_eq_true (isCst M.length C) with g | g
      · exact absurd ⟨hw, g⟩ h
      · exact g
    have hln := hw.1
    have w2 := Try.specConsistent_ok M.length C hC (by omega) (by omega)
    rw [isWM_t hw] at w1
    rw [hcs] at w2
    simp (disch := omega) only [Try.ntmps76, Try.results76, go_sem, rr_eq, rc]
    refine w1.callV 0 (viewL_cons_of (view_row) viewL_nil_of) ?_
    simp (disch := omega) only [Try.ntmps76, Try.results76, go_sem, rr_eq, rc]
    refine w2.callV 0 (viewL_cons_of (view_int) (viewL_cons_of (view_row) viewL_nil_of)) ?_
    simp (disch := omega) only [Try.ntmps76, Try.results76, go_sem, rr_eq, rc]
    rfl
  · rw [isWM_f hw] at w1
    simp (disch := omega) only [Try.ntmps76, Try.results76, go_sem, rr_eq, rc]
    refine w1.callV 0 (viewL_cons_of (view_row) viewL_nil_of) ?_
    simp (disch := omega) only [Try.ntmps76, Try.results76, go_sem, rr_eq, rc]
    rfl

open Classical in
noncomputable def bCost (M : List (List Int)) (C : List Con) : Int := if okB M C then (bs M C).least else -1
open Classical in
noncomputable def bCount (M : List (List Int)) (C : List Con) : Int := if okB M C then ((bs M C).count : Int) else 0
theorem bCost_t {M : List (List Int)} {C : List Con} (h : okB M C) : bCost M C = (bs M C).least := if_pos h
theorem bCost_f {M : List (List Int)} {C : List Con} (h : ¬ okB M C) : bCost M C = -1 := if_neg h
theorem bCount_t {M : List (List Int)} {C : List Con} (h : okB M C) : bCount M C = ((bs M C).count : Int) := if_pos h
theorem bCount_f {M : List (List Int)} {C : List Con} (h : ¬ okB M C) : bCount M C = 0 := if_neg h

theorem Try.specBestCost_ok {M : List (List Int)} {C : List Con} (hM : M.length ≤ 1048576) (hR : ∀ i, i < M.length → (mrow M i).length ≤ 1048576) (hC : C.length ≤ 1048576) : PCall Try.prog 23 [rr M, rc C] (.val (.int .i64 (bCost M C))) := by
  refine FCall.pcall (R := fun r _ => r = .val (.int .i64 (bCost M C))) ?_ 0 (by rintro r H rfl; exact view_int)
  refine FCall.of_body Try.func23 rfl (by kernel_rfl) (by simp [Try.ntmps23]) ?_
  refine SW_of_vc Try.mixed _ _ _ (by kernel_rfl) ?_
  by_cases h : okB M C
  · have wr := Try.l20Run_ok hM hR hC h
    rw [rr_eq, rc] at wr
    rw [bCost_t h]
    simp (disch := omega) only [Try.ntmps23, Try.results23, go_sem, rr_eq, rc]
    refine wr.callX ?_
    rintro r H ⟨fb, rfl, mf, hlt⟩
    simp (disch := omega) only [Try.ntmps23, Try.results23, go_sem, rr_eq, rc, hset_map, hpush_map]
    exact Fin.val rfl
  · have wr := Try.l20Run_n hM hR hC h
    rw [rr_eq, rc] at wr
    rw [bCost_f h]
    simp (disch := omega) only [Try.ntmps23, Try.results23, go_sem, rr_eq, rc]
    refine wr.callX ?_
    rintro r H rfl
    simp (disch := omega) only [Try.ntmps23, Try.results23, go_sem, rr_eq, rc, zS, hset_map, hpush_map]
    exact Fin.val rfl
theorem Try.canCluster_t {M : List (List Int)} {C : List Con} (hM : M.length ≤ 1048576) (hR : ∀ i, i < M.length → (mrow M i).length ≤ 1048576) (hC : C.length ≤ 1048576) (h : okB M C) : PCall Try.prog 130 [rr M, rc C] (.val (.bool true)) := by
  refine FCall.pcall (R := fun r _ => r = .val (.bool true)) ?_ 0 (by rintro r H rfl; exact view_bool)
  have w1 := Try.implIsWM_ok M hM hR
  have w2 := Try.implConsistent_ok M.length C hC
  rw [isWM_t h.1] at w1
  rw [h.2] at w2
  refine FCall.of_body Try.func130 rfl (by kernel_rfl) (by simp [Try.ntmps130]) ?_
  refine SW_of_vc Try.mixed _ _ _ (by kernel_rfl) ?_
  simp (disch := omega) only [Try.ntmps130, Try.results130, go_sem, rr_eq, rc]
  refine w1.callV 0 (viewL_cons_of (view_row) viewL_nil_of) ?_
  simp (disch := omega) only [Try.ntmps130, Try.results130, go_sem, rr_eq, rc]
  refine w2.callV 0 (viewL_cons_of (view_int) (viewL_cons_of (view_row) viewL_nil_of)) ?_
  simp (disch := omega) only [Try.ntmps130, Try.results130, go_sem, rr_eq, rc]
  exact Fin.val rfl
theorem Try.canCluster_f {M : List (List Int)} {C : List Con} (hM : M.length ≤ 1048576) (hR : ∀ i, i < M.length → (mrow M i).length ≤ 1048576) (hC : C.length ≤ 1048576) (h : ¬ okB M C) : PCall Try.prog 130 [rr M, rc C] (.val (.bool false)) := by
  refine FCall.pcall (R := fun r _ => r = .val (.bool false)) ?_ 0 (by rintro r H rfl; exact view_bool)
  have w1 := Try.implIsWM_ok M hM hR
  have w2 := Try.implConsistent_ok M.length C hC
  refine FCall.of_body Try.func130 rfl (by kernel_rfl) (by simp [Try.ntmps130]) ?_
  refine SW_of_vc Try.mixed _ _ _ (by kernel_rfl) ?_
  by_cases hw : WM M
  · have hcs : isCst M.length C = false := by
      rcases Bool.eq_false_or_eq_true (isCst M.length C) with g | g
      · exact absurd ⟨hw, g⟩ h
      · exact g
    rw [isWM_t hw] at w1
    rw [hcs] at w2
    simp (disch := omega) only [Try.ntmps130, Try.results130, go_sem, rr_eq, rc]
    refine w1.callV 0 (viewL_cons_of (view_row) viewL_nil_of) ?_
    simp (disch := omega) only [Try.ntmps130, Try.results130, go_sem, rr_eq, rc]
    refine w2.callV 0 (viewL_cons_of (view_int) (viewL_cons_of (view_row) viewL_nil_of)) ?_
    simp (disch := omega) only [Try.ntmps130, Try.results130, go_sem, rr_eq, rc]
    exact Fin.val rfl
  · rw [isWM_f hw] at w1
    simp (disch := omega) only [Try.ntmps130, Try.results130, go_sem, rr_eq, rc]
    refine w1.callV 0 (viewL_cons_of (view_row) viewL_nil_of) ?_
    simp (disch := omega) only [Try.ntmps130, Try.results130, go_sem, rr_eq, rc]
    exact Fin.val rfl
theorem Try.implBestCost_ok {M : List (List Int)} {C : List Con} (hM : M.length ≤ 1048576) (hR : ∀ i, i < M.length → (mrow M i).length ≤ 1048576) (hC : C.length ≤ 1048576) : PCall Try.prog 106 [rr M, rc C] (.val (.int .i64 (bCost M C))) := by
  refine FCall.pcall (R := fun r _ => r = .val (.int .i64 (bCost M C))) ?_ 0 (by rintro r H rfl; exact view_int)
  refine FCall.of_body Try.func106 rfl (by kernel_rfl) (by simp [Try.ntmps106]) ?_
  refine SW_of_vc Try.mixed _ _ _ (by kernel_rfl) ?_
  by_cases h : okB M C
  · have w1 := Try.canCluster_t hM hR hC h
    have w2 := (Try.best_f h.1 hC h.2).oneU
    rw [bCost_t h]
    simp (disch := omega) only [Try.ntmps106, Try.results106, go_sem, rr_eq, rc]
    refine w1.callV 0 (viewL_cons_of (view_row) (viewL_cons_of (view_row) viewL_nil_of)) ?_
    simp (disch := omega) only [Try.ntmps106, Try.results106, go_sem, rr_eq, rc]
    refine w2.callOneU (ints_vals _) 0 (viewL_cons_of (view_row) (viewL_cons_of (view_row) viewL_nil_of)) ?_
    simp (disch := omega) only [Try.ntmps106, Try.results106, go_sem, rr_eq, rc]
    exact Fin.val rfl
  · have w1 := Try.canCluster_f hM hR hC h
    rw [bCost_f h]
    simp (disch := omega) only [Try.ntmps106, Try.results106, go_sem, rr_eq, rc]
    refine w1.callV 0 (viewL_cons_of (view_row) (viewL_cons_of (view_row) viewL_nil_of)) ?_
    simp (disch := omega) only [Try.ntmps106, Try.results106, go_sem, rr_eq, rc]
    exact Fin.val rfl
end Go.Sh

/-
  The best partition, optimal partitions, the cost of constraints: contracts of both.
-/
namespace Go.Sh
set_option linter.unusedSimpArgs false
set_option linter.unusedVariables false
open Go Go.Proofs

open Classical in
noncomputable def bpt (M : List (List Int)) (C : List Con) : List Int × Int × Bool := if okB M C then ((bs M C).first, (bs M C).least, true) else ([], 0, false)
theorem bpt_t {M : List (List Int)} {C : List Con} (h : okB M C) : bpt M C = ((bs M C).first, (bs M C).least, true) := if_pos h
theorem bpt_f {M : List (List Int)} {C : List Con} (h : ¬ okB M C) : bpt M C = ([], 0, false) := if_neg h
theorem bpt_len {M : List (List Int)} {C : List Con} (h : okB M C) : (bpt M C).1.length = M.length := by
  rw [bpt_t h]; exact ((bs_best (C := C) h.1).ok (bs_ok h.1 h.2)).1
theorem bCost_b (M : List (List Int)) (C : List Con) : -1 ≤ bCost M C ∧ bCost M C ≤ 64000 := by
  by_cases h : okB M C
  · rw [bCost_t h]
    have hb := (bs_best (C := C) h.1).ok (bs_ok h.1 h.2)
    have hc := cc_b (L := (bs M C).first) h.1 M.length (Nat.le_refl _)
    have := h.1.1
    rw [hb.2.2.2.1] at hc
    omega
  · rw [bCost_f h]; omega
theorem view_tupU {L : List Int} {n : Nat} {u : Int} {b : Bool} {r r0 : SV} {H : Heap} (h : r = .tup (r0 :: [Value.int .i64 u, .bool b].map .val)) (hf : FlatRes n 1 (ints L) r0 H) : view H 3 r = some (.tup [ri L, .val (.int .i64 u), .val (.bool b)]) := by
  subst h
  have h1 : viewL H 2 [r0, .val (.int .i64 u), .val (.bool b)] = some [ri L, .val (.int .i64 u), .val (.bool b)] := viewL_cons_of (flat_view hf) (viewL_cons_of view_int (viewL_cons_of view_bool viewL_nil_of))
  simp only [List.map_cons, List.map_nil, view, h1]
open Classical in
noncomputable def isOpt (M : List (List Int)) (C : List Con) (L : List Int) : Bool := decide (okB M C) && ((isPart L && C.all (kp L)) && decide (pcost M L = bCost M C))
theorem isOpt_f {M : List (List Int)} {C : List Con} {L : List Int} (h : ¬ okB M C) : isOpt M C L = false := by simp [isOpt, h]
theorem isOpt_t {M : List (List Int)} {C : List Con} {L : List Int} (h : okB M C) : isOpt M C L = ((isPart L && C.all (kp L)) && decide (pcost M L = (bs M C).least)) := by simp [isOpt, h, bCost_t h]
noncomputable def ccost (M : List (List Int)) (C : List Con) : Int := if bCost M C < 0 then -1 else bCost M C - bCost M []
theorem rc_nil : rc [] = .row 0 false [] := rfl
theorem view_ownC0 {H : Heap} {f b cap : Nat} {ex e2 : Bool} (hb : H.map b = some ⟨[], e2⟩) : view H (f + 1) (.own b 0 0 cap 3 ex) = some (rc []) := by
  simp only [Sh.view, hb, Nat.zero_mul, List.drop_zero, List.take_zero]
  rw [if_pos (by simp)]
  have : viewL H f [] = some [] := viewL_nil_of
  rw [this]; rfl
theorem view_nilC0 {H : Heap} {f : Nat} : view H f (.val (.slice none 0 0)) = some (rc []) := by simp only [view, viewV]; rfl
end Go.Sh

/-
  Contracts: the constraints of some items, of the reference; constraints marked and read back.
-/
namespace Go.Sh
set_option linter.unusedSimpArgs false
set_option linter.unusedVariables false
open Go Go.Proofs

theorem rep0 (zs : List SV) : rep zs 0 = [] := rfl

def mk3 (k : Int) (i : Nat) : Con := (k + 3 * (i : Int), k + 3 * (i : Int) + 1, Int.tmod (k + 3 * (i : Int) + 1 + 1) 3 == 0)
def markC (C : List Con) (k : Int) (i : Nat) : List Con := (List.range i).map (mk3 k) ++ C.drop i
def marksC (n : Nat) (k : Int) : List Con := (List.range n).map (mk3 k)
theorem markC_zero (C : List Con) (k : Int) : markC C k 0 = C := by simp [markC]
theorem markC_length {C : List Con} {k : Int} {i : Nat} (h : i ≤ C.length) : (markC C k i).length = C.length := by simp [markC]; omega
theorem markC_all (C : List Con) (k : Int) : markC C k C.length = marksC C.length k := by simp [markC, marksC]
theorem marksC_length (n : Nat) (k : Int) : (marksC n k).length = n := by simp [marksC]
theorem markC_set {C : List Con} {k : Int} {i : Nat} (h : i < C.length) : (markC C k i).set i (mk3 k i) = markC C k (i + 1) := by
  apply List.ext_getElem?
  intro x
  simp only [markC, List.getElem?_set, List.getElem?_append, List.length_map, List.length_range, List.getElem?_map, List.getElem?_drop, List.length_append, List.length_drop]
  by_cases h1 : i = x
  · subst h1
    have : i < i + (C.length - i) := by omega
    simp [this]
  · by_cases h2 : x < i
    · have h3 : x < i + 1 := by omega
      simp [h1, h2, h3]
    · have h3 : ¬ x < i + 1 := by omega
      simp [h1, h2, h3]
      congr 1
      omega
theorem cons_set3' {C : List Con} {k : Nat} {a b : Int} {s : Bool} (h : k < C.length) : (((cons C).set (k * 3) (.val (.int .i64 a))).set (k * 3 + 1) (.val (.int .i64 b))).set (k * 3 + 2) (.val (.bool s)) = cons (C.set k (a, b, s)) := cons_set3 h

open Classical in
noncomputable def heldC (C : List Con) (k : Int) : Int := if C = marksC C.length k then k + 3 * (C.length : Int) else -1
theorem heldC_marks (n : Nat) (k : Int) : heldC (marksC n k) k = k + 3 * (n : Int) := by rw [heldC, marksC_length, if_pos rfl]

theorem view_nilC {H : Heap} {f : Nat} : view H f (.val (.slice none 0 0)) = some (rc []) := by simp only [view, viewV, rc, cons, List.flatMap_nil, List.length_nil]
theorem Try.toConstraintS_one (C : List Con) (hC : C.length ≤ 1048576) : FCall Try.prog 55 [rc C] (OneRes C.length 3 (cons C)) := (Try.toConstraintS_f C hC).one
theorem view_ownC {H : Heap} {b n f cap : Nat} {ex : Bool} {e2 : Bool} {C : List Con} (hb : H.map b = some ⟨cons C, e2⟩) (hn : n = C.length) : view H (f + 1) (.own b 0 n cap 3 ex) = some (rc C) := by
  subst hn
  have hv : ∀ (C : List Con), viewL H f (cons C) = some (cons C) := by
    intro C
    induction C with
    | nil => exact viewL_nil_of
    | cons c C ih => exact viewL_cons_of view_int (viewL_cons_of view_int (viewL_cons_of view_bool ih))
  have ht : (cons C).take (C.length * 3) = cons C := cons_take_self C
  simp only [Sh.view, hb, List.drop_zero, ht, hv]
  rw [if_pos (by rw [cons_length]; omega), rc]
theorem view_rowC {H : Heap} {f n : Nat} {ex : Bool} {C : List Con} (hn : n = C.length) : view H f (.row n ex (cons C)) = some (rc C) := by subst hn; simp only [view, rc]
end Go.Sh

/-
  Results that are known as contents of some kind alone; drawing a matrix, constraints and labels.
-/
namespace Go.Sh
set_option linter.unusedSimpArgs false
set_option linter.unusedVariables false
open Go Go.RowKit Go.Proofs

section
variable {P : Program}
/-- f writes nothing that came in; its result reads as one of S, in memory of its own. -/
def PCallE (P : Program) (f : FuncId) (args : List SV) (S : SV → Prop) : Prop :=
  Enters P f ∧ ∀ w vs, LRel (fun _ => False) w noj args vs → Calls P f vs.toArray w (fun e w' => ∃ v T, S T ∧ e = .returned v ∧ Below w.heap.size w w' ∧ VRel (fun k => k < w.heap.size) w' noj T v)
theorem FCall.pcallE {f : FuncId} {args : List SV} {R : SV → Heap → Prop} {S : SV → Prop} (h : FCall P f args R) (fu : Nat) (hr : ∀ r H, R r H → ∃ T, view H fu r = some T ∧ S T) : PCallE P f args S := by
  refine ⟨h.1, fun w vs hl => (h.2 w vs hl).mono ?_⟩
  rintro e w' ⟨v, r, j, H, h1, h2, h3, h4, h5, h6, h7, h8⟩
  have hlive : Live (fun k => k < w.heap.size) j H w' := h3.liveN h7 (fun k hk => by have := h5 k hk; omega)
  obtain ⟨T, k1, k2⟩ := hr r H h8
  exact ⟨v, T, k2, h1, h2, view_sound hlive fu r T v k1 (VRel.anyO r v h6 h4)⟩
theorem PCallE.callE {f : FuncId} {args args' : List SV} {S : SV → Prop} {H : Heap} {K : SV → Heap → Prop} (h : PCallE P f args' S) (fu : Nat) (hv : viewL H fu args = some args') (k : ∀ T, S T → K T H) : @CallX P f args H ⟨K⟩ := by
  refine ⟨h.1, fun j w vs r hl => ?_⟩
  have hl' := viewL_sound r.live0 fu args args' vs hv (LRel.tr (Tr.weaken w (fun _ h => h.elim)) (fun _ _ h => h) args vs hl)
  refine (h.2 w vs hl').mono ?_
  rintro e w' ⟨v, T, hS, h1, h2, h3⟩
  obtain ⟨r', nx⟩ := r.below h2
  refine ⟨T, v, j, H, h1, r', ?_, nx, k T hS⟩
  exact VRel.tr (Tr.weaken w' (fun k hk => r.own_lt hk)) (by intro b p h; simp [noj] at h) T v h3
end
theorem MatH.viewH {H : Heap} {lo ob : Nat} {cs : List SV} {nm : Nat → Nat} {M : List (List Int)} {f cap : Nat} {e : Bool} (h : MatH H lo ob cs nm M) : Sh.view H (f + 2) (.own ob 0 M.length cap 1 e) = some (rr M) := by
  have hL : viewL H (f + 1) cs = some (rows M) := by
    have hr : ∀ i, i < M.length → ∃ s, cs[i]? = some s ∧ Sh.view H (f + 1) s = some (ri (mrow M i)) := fun i hi => by
      obtain ⟨e, e2, h1, h2⟩ := h.row i hi
      exact ⟨_, h1, view_own (L := mrow M i) (e2 := e2) h2 rfl⟩
    have hln := h.ln
    clear h
    induction cs generalizing M with
    | nil =>
      have : M = [] := List.length_eq_zero_iff.1 hln.symm
      subst this
      exact viewL_nil_of
    | cons s cs ih =>
      cases M with
      | nil => simp at hln
      | cons L M =>
        refine viewL_cons_of ?_ (ih (M := M) (fun i hi => ?_) (by simpa using hln))
        · obtain ⟨s', h1, h2⟩ := hr 0 (by simp)
          simp at h1; subst h1
          exact h2
        · obtain ⟨s', h1, h2⟩ := hr (i + 1) (by simpa using hi)
          exact ⟨s', by simpa using h1, h2⟩
  simp only [Sh.view, h.o, Nat.mul_one, List.drop_zero]
  have hle : M.length ≤ cs.length := by rw [h.ln]; omega
  rw [if_pos (by omega), ← h.ln, List.take_length, hL]
  simp only [rr, h.ln]
theorem view_ownCC {H : Heap} {b n f cap : Nat} {ex e2 : Bool} {C : List Con} (hb : H.map b = some ⟨cons C, e2⟩) (hn : n = C.length) : view H (f + 1) (.own b 0 n cap 3 ex) = some (rc C) := view_ownC hb hn

/-- A matrix, constraints, labels: what a drawing gives back. -/
def R3 (S : SV → Prop) (r : SV) (H : Heap) : Prop := ∃ T, view H 3 r = some T ∧ S T
def part (H : Heap) (p : Nat → Prop) [DecidablePred p] : Heap := ⟨fun b => if p b then H.map b else none, H.nb⟩
theorem part_sub (H : Heap) (p : Nat → Prop) [DecidablePred p] : Sub (part H p) H := ⟨rfl, fun b => by
  show (if p b then H.map b else none) = none ∨ (if p b then H.map b else none) = H.map b
  split
  · exact .inr rfl
  · exact .inl rfl⟩
theorem part_map {H : Heap} {p : Nat → Prop} [DecidablePred p] {b : Nat} (h : p b) : (part H p).map b = H.map b := if_pos h
theorem noRowL_of {cs : List SV} (h : ∀ s ∈ cs, noRow s = true) : noRowL cs = true := by
  induction cs with
  | nil => rfl
  | cons s cs ih => simp only [noRowL, h s (by simp), ih fun s hs => h s (by simp [hs]), Bool.and_self]
theorem MatH.part {H : Heap} {lo ob : Nat} {cs : List SV} {nm : Nat → Nat} {M : List (List Int)} (h : MatH H lo ob cs nm M) (p : Nat → Prop) [DecidablePred p] (h1 : p ob) (h2 : ∀ i, i < M.length → p (nm i)) : MatH (Sh.part H p) lo ob cs nm M :=
  ⟨h.ln, by rw [part_map h1, h.o], fun i hi => by
    obtain ⟨e, e2, k1, k2⟩ := h.row i hi
    exact ⟨e, e2, k1, by rw [part_map (h2 i hi), k2]⟩, h.inj, h.lo1, h.lo2⟩
theorem MatH.nr {H : Heap} {lo ob : Nat} {cs : List SV} {nm : Nat → Nat} {M : List (List Int)} (h : MatH H lo ob cs nm M) : noRowL cs = true :=
  noRowL_of fun s hs => by
    obtain ⟨i, hi, rfl⟩ := List.getElem_of_mem hs
    obtain ⟨e, e2, h1, h2⟩ := h.row i (by rw [← h.ln]; exact hi)
    rw [List.getElem?_eq_getElem hi] at h1
    simp at h1
    rw [h1]; rfl
theorem cons_vals1 (C : List Con) : (cons C).all isVal = true := cons_vals C
open Classical in
theorem fin_mcl {S : SV → Prop} {H : Heap} {lo ob lb xb : Nat} {cs : List SV} {nm : Nat → Nat} {M : List (List Int)} {C : List Con} {L : List Int} {c1 c2 c3 : Nat} {e1 e2 e3 : Bool} (hM : MatH H lo ob cs nm M) (hc : H.map lb = some ⟨cons C, false⟩) (hx : H.map xb = some ⟨ints L, false⟩) (hS : S (.tup [rr M, rc C, ri L])) :
    Fin (R3 S) (.tup [.own ob 0 M.length c1 1 e1, .own lb 0 C.length c2 3 e2, .own xb 0 L.length c3 1 e3]) H := by
  let p : Nat → Prop := fun b => b = ob ∨ (∃ i, i < M.length ∧ b = nm i) ∨ b = lb ∨ b = xb
  have hM2 := hM.part p (.inl rfl) (fun i hi => .inr (.inl ⟨i, hi, rfl⟩))
  have hc2 : (part H p).map lb = some ⟨cons C, false⟩ := by rw [part_map (.inr (.inr (.inl rfl))), hc]
  have hx2 : (part H p).map xb = some ⟨ints L, false⟩ := by rw [part_map (.inr (.inr (.inr rfl))), hx]
  refine ⟨part H p, part_sub H p, rfl, fun b blk hb => ?_, .tup [rr M, rc C, ri L], ?_, hS⟩
  · have hb' : (if p b then H.map b else none) = some blk := hb
    split at hb'
    · rename_i hp
      rcases hp with rfl | ⟨i, hi, rfl⟩ | rfl | rfl
      · rw [hM.o] at hb'; simp at hb'; subst hb'; exact hM.nr
      · obtain ⟨e, e2, k1, k2⟩ := hM.row i hi
        rw [k2] at hb'; simp at hb'; subst hb'; exact noRowL_ints _
      · rw [hc] at hb'; simp at hb'; subst hb'; exact isVal_noRow (cons_vals1 C)
      · rw [hx] at hb'; simp at hb'; subst hb'; exact noRowL_ints _
    · simp at hb'
  · have h1 : viewL (part H p) 2 [.own ob 0 M.length c1 1 e1, .own lb 0 C.length c2 3 e2, .own xb 0 L.length c3 1 e3] = some [rr M, rc C, ri L] :=
      viewL_cons_of (hM2.viewH (f := 0)) (viewL_cons_of (view_ownCC hc2 rfl) (viewL_cons_of (view_own hx2 rfl) viewL_nil_of))
    simp only [view, h1]
end Go.Sh
