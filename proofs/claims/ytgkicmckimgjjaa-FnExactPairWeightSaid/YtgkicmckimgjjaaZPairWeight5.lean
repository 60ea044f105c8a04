/-
  Texts put together: PW4, EPairWeight, LiftR. What each proves stands at its own head, with its conditions.
-/
import Derived.Test.YtgkicmckimgjjaaZPairWeight4

/-
  Contracts: a test holds, a rule, the first rule; the weight of a pair.
-/
namespace Go.Sh
set_option linter.unusedSimpArgs false
set_option linter.unusedVariables false
open Go Go.Proofs

def th (f : List Int) (t : Con) : Bool := isFV f && (inR t.1 0 5 && (decide (t.2.1 ≤ f.getD t.1.toNat 0) != t.2.2))
def rh (f : List Int) (T : List Con) : Bool := isFV f && T.all (th f)
def fr (R : List (List Con)) (f : List Int) : Int := if isVR R = true then fx (rh f) R else -1
theorem cg_all {T : List Con} {p : Con → Bool} : T.all p = true ↔ ∀ i, i < T.length → p (cg T i) = true := all_getD dc
theorem dec_ge {x y : Int} : (decide (x < y)) = !(decide (y ≤ x)) := by by_cases h : x < y <;> simp [h] <;> omega

set_option maxHeartbeats 2000000 in
theorem Try.specTH_ok (f : List Int) (hf : f.length ≤ 1048576) (a b : Int) (s : Bool) : PCall Try.prog 156 [.agg [.val (.int .i64 a), .val (.int .i64 b), .val (.bool s)], ri f] (.val (.bool (th f (a, b, s)))) := by
  refine FCall.pcall (R := fun r _ => r = .val (.bool (th f (a, b, s)))) ?_ 0 (by rintro r H rfl; exact view_bool)
  refine FCall.of_body Try.func156 rfl (by kernel_rfl) (by simp [Try.ntmps156]) ?_
  have w1 := Try.specFV_ok f hf
  have w2 := Try.l1In_ok a 0 5
  have lf := ints_length f
  unfold th
  simp only
  refine SW_of_vc Try.mixed _ _ _ (by kernel_rfl) ?_
  cases h1 : isFV f with
  | false =>
    rw [h1] at w1
    simp (disch := omega) only [Try.ntmps156, Try.results156, go_sem]
    refine w1.callDV 0 (viewL_cons_of (view_row) viewL_nil_of) ?_
    simp (disch := omega) only [Try.ntmps156, Try.results156, go_sem]
    exact Fin.val rfl
  | true =>
    rw [h1] at w1
    obtain ⟨fl, fr⟩ := isFV_t h1
    cases h2 : inR a 0 5 with
    | false =>
      rw [h2] at w2
      simp (disch := omega) only [Try.ntmps156, Try.results156, go_sem]
      refine w1.callDV 0 (viewL_cons_of (view_row) viewL_nil_of) ?_
      simp (disch := omega) only [Try.ntmps156, Try.results156, go_sem]
      refine w2.callDV 0 (viewL_cons_of (view_int) (viewL_cons_of (view_int) (viewL_cons_of (view_int) viewL_nil_of))) ?_
      simp (disch := omega) only [Try.ntmps156, Try.results156, go_sem]
      exact Fin.val rfl
    | true =>
      rw [h2] at w2
      have ha := inR_of h2
      obtain ⟨x, rfl⟩ := Int.eq_ofNat_of_zero_le ha.1
      have g1 : (ints f)[x]? = some (.val (.int .i64 (f.getD x 0))) := ints_get (by omega)
      rw [Int.toNat_natCast]
      generalize f.getD x 0 = v at *
      by_cases h3 : b ≤ v
      · cases s <;> simp (disch := omega) only [Try.ntmps156, Try.results156, go_sem, g1, lf]
        all_goals
          refine w1.callDV 0 (viewL_cons_of (view_row) viewL_nil_of) ?_
          simp (disch := omega) only [Try.ntmps156, Try.results156, go_sem, g1, lf]
          refine w2.callDV 0 (viewL_cons_of (view_int) (viewL_cons_of (view_int) (viewL_cons_of (view_int) viewL_nil_of))) ?_
          simp (disch := omega) only [Try.ntmps156, Try.results156, go_sem, g1, lf]
          exact Fin.val (by simp [h3])
      · cases s <;> simp (disch := omega) only [Try.ntmps156, Try.results156, go_sem, g1, lf]
        all_goals
          refine w1.callDV 0 (viewL_cons_of (view_row) viewL_nil_of) ?_
          simp (disch := omega) only [Try.ntmps156, Try.results156, go_sem, g1, lf]
          refine w2.callDV 0 (viewL_cons_of (view_int) (viewL_cons_of (view_int) (viewL_cons_of (view_int) viewL_nil_of))) ?_
          simp (disch := omega) only [Try.ntmps156, Try.results156, go_sem, g1, lf]
          exact Fin.val (by simp [h3])

set_option maxHeartbeats 2000000 in
theorem Try.implTH_ok (f : List Int) (hf : f.length ≤ 1048576) (a b : Int) (s : Bool) : PCall Try.prog 160 [.agg [.val (.int .i64 a), .val (.int .i64 b), .val (.bool s)], ri f] (.val (.bool (th f (a, b, s)))) := by
  refine FCall.pcall (R := fun r _ => r = .val (.bool (th f (a, b, s)))) ?_ 0 (by rintro r H rfl; exact view_bool)
  refine FCall.of_body Try.func160 rfl (by kernel_rfl) (by simp [Try.ntmps160]) ?_
  have w1 := Try.implFV_ok f hf
  have w2 := Try.isFeature_ok a
  have lf := ints_length f
  unfold th
  simp only
  refine SW_of_vc Try.mixed _ _ _ (by kernel_rfl) ?_
  cases h1 : isFV f with
  | false =>
    rw [h1] at w1
    simp (disch := omega) only [Try.ntmps160, Try.results160, go_sem]
    refine w1.callDV 0 (viewL_cons_of (view_row) viewL_nil_of) ?_
    simp (disch := omega) only [Try.ntmps160, Try.results160, go_sem]
    exact Fin.val rfl
  | true =>
    rw [h1] at w1
    obtain ⟨fl, fr⟩ := isFV_t h1
    cases h2 : inR a 0 5 with
    | false =>
      rw [h2] at w2
      simp (disch := omega) only [Try.ntmps160, Try.results160, go_sem]
      refine w1.callDV 0 (viewL_cons_of (view_row) viewL_nil_of) ?_
      simp (disch := omega) only [Try.ntmps160, Try.results160, go_sem]
      refine w2.callDV 0 (viewL_cons_of (view_int) viewL_nil_of) ?_
      simp (disch := omega) only [Try.ntmps160, Try.results160, go_sem]
      exact Fin.val rfl
    | true =>
      rw [h2] at w2
      have ha := inR_of h2
      obtain ⟨x, rfl⟩ := Int.eq_ofNat_of_zero_le ha.1
      have g1 : (ints f)[x]? = some (.val (.int .i64 (f.getD x 0))) := ints_get (by omega)
      rw [Int.toNat_natCast]
      generalize f.getD x 0 = v at *
      by_cases h3 : b ≤ v
      · cases s <;> simp (disch := omega) only [Try.ntmps160, Try.results160, go_sem, g1, lf]
        all_goals
          refine w1.callDV 0 (viewL_cons_of (view_row) viewL_nil_of) ?_
          simp (disch := omega) only [Try.ntmps160, Try.results160, go_sem, g1, lf]
          refine w2.callDV 0 (viewL_cons_of (view_int) viewL_nil_of) ?_
          simp (disch := omega) only [Try.ntmps160, Try.results160, go_sem, g1, lf]
          exact Fin.val (by simp [h3])
      · cases s <;> simp (disch := omega) only [Try.ntmps160, Try.results160, go_sem, g1, lf]
        all_goals
          refine w1.callDV 0 (viewL_cons_of (view_row) viewL_nil_of) ?_
          simp (disch := omega) only [Try.ntmps160, Try.results160, go_sem, g1, lf]
          refine w2.callDV 0 (viewL_cons_of (view_int) viewL_nil_of) ?_
          simp (disch := omega) only [Try.ntmps160, Try.results160, go_sem, g1, lf]
          exact Fin.val (by simp [h3])

set_option maxHeartbeats 2000000 in
theorem Try.specRH_ok (f : List Int) (hf : f.length ≤ 1048576) (T : List Con) (hT : T.length ≤ 1048576) : PCall Try.prog 139 [.agg [rc T], ri f] (.val (.bool (rh f T))) := by
  refine FCall.pcall (R := fun r _ => r = .val (.bool (rh f T))) ?_ 0 (by rintro r H rfl; exact view_bool)
  refine FCall.of_body Try.func139 rfl (by kernel_rfl) (by simp [Try.ntmps139]) ?_
  have lC := cons_length T
  have w1 := Try.specFV_ok f hf
  refine SW_of_vc Try.mixed _ _ _ (by kernel_rfl) ?_
  simp (disch := omega) only [Try.ntmps139, Try.results139, go_sem, rc]
  refine LoopW.loop (fun k : Nat => ⟨ofL [(1, ri f), (2, .optr 0 0), (5, .val (.int .i64 k))], hp [(0, ⟨[rc T], true⟩)] 1⟩) (fun k => k ≤ T.length ∧ ∀ i, i < k → th f (cg T i) = true) (fun k => T.length - k) 0 ⟨by omega, by simp⟩ (Wk.of (by simp only [go_sem, ↓List.forall_mem_cons, List.not_mem_nil, false_implies, implies_true, and_true, true_and, and_self, ri_eq, Int.natCast_add, Int.cast_ofNat_Int, rc]; try simp) rfl) ?_
  rintro k ⟨hk, hkk⟩
  refine SW_of_vc Try.mixed _ _ _ (by kernel_rfl) ?_
  by_cases hlt : k < T.length
  · obtain ⟨a, b, s, hc⟩ := con_ex T k
    obtain ⟨q0, q1, q2, q3⟩ := cons_of hlt hc
    have w2 := Try.specTH_ok f hf a b s
    cases he : th f (a, b, s) with
    | true =>
      rw [he] at w2
      simp (disch := omega) only [Try.ntmps139, Try.results139, go_sem, rc, q3, lC]
      refine w2.callV 1 (viewL_cons_of (view_con) (viewL_cons_of (view_row) viewL_nil_of)) ?_
      simp (disch := omega) only [Try.ntmps139, Try.results139, go_sem, rc, q3, lC]
      refine ⟨k + 1, ⟨by omega, fun i hi => ?_⟩, by omega, Wk.of (by simp only [go_sem, ↓List.forall_mem_cons, List.not_mem_nil, false_implies, implies_true, and_true, true_and, and_self, ri_eq, Int.natCast_add, Int.cast_ofNat_Int, rc]; try simp) rfl⟩
      rcases Nat.lt_succ_iff_lt_or_eq.mp hi with h | rfl
      · exact hkk i h
      · rw [hc]; exact he
    | false =>
      rw [he] at w2
      simp (disch := omega) only [Try.ntmps139, Try.results139, go_sem, rc, q3, lC]
      refine w2.callV 1 (viewL_cons_of (view_con) (viewL_cons_of (view_row) viewL_nil_of)) ?_
      simp (disch := omega) only [Try.ntmps139, Try.results139, go_sem, rc, q3, lC]
      exact Fin.val (by rw [rh, all_not dc hlt (by show th f (cg T k) = false; rw [hc]; exact he), Bool.and_false])
  · have hall : T.all (th f) = true := cg_all.2 fun i hi => hkk i (by omega)
    simp (disch := omega) only [Try.ntmps139, Try.results139, go_sem, rc]
    refine w1.callV 0 (viewL_cons_of (view_row) viewL_nil_of) ?_
    simp (disch := omega) only [Try.ntmps139, Try.results139, go_sem, rc]
    exact Fin.val (by rw [rh, hall, Bool.and_true])
set_option maxHeartbeats 1000000 in
theorem Try.indexFuncT_ok (f : FuncId) (cap : List SV) (C : List Con) (pr : Con → Bool) (hC : C.length ≤ 1048576) (hcap : ∀ H fu, viewL H fu cap = some cap)
    (hf : ∀ a b s, PCall Try.prog f (.agg [.val (.int .i64 a), .val (.int .i64 b), .val (.bool s)] :: cap) (.val (.bool (pr (a, b, s))))) :
    PCall Try.prog 169 [rc C, .clos (.func f) [] cap] (.val (.int .i64 (fx pr C))) := by
  refine FCall.pcall (R := fun r _ => r = .val (.int .i64 (fx pr C))) ?_ 0 (by rintro r H rfl; exact view_int)
  refine FCall.of_body Try.func169 rfl (by kernel_rfl) (by simp [Try.ntmps169]) ?_
  refine SW_of_vc Try.mixed _ _ _ (by kernel_rfl) ?_
  have lC := cons_length C
  simp (disch := omega) only [Try.ntmps169, Try.results169, go_sem, rc]
  refine LoopW.loop (fun k : Nat => ⟨ofL [(0, rc C), (1, .clos (.func f) [] cap), (7, .val (.int .i64 C.length)), (8, .val (.int .i64 k))], hp [] 0⟩) (fun k => k ≤ C.length ∧ ∀ i, i < k → pr (C.getD i dc) = false) (fun k => C.length - k) 0 ⟨by omega, by simp⟩ (Wk.of (by simp only [go_sem, ↓List.forall_mem_cons, List.not_mem_nil, false_implies, implies_true, and_true, true_and, and_self, ri_eq, Int.natCast_add, Int.cast_ofNat_Int, rc]; try simp) rfl) ?_
  rintro k ⟨hk, hkk⟩
  refine SW_of_vc Try.mixed _ _ _ (by kernel_rfl) ?_
  by_cases hlt : k < C.length
  · obtain ⟨a, b, s, hc⟩ := con_ex C k
    obtain ⟨_, _, _, q3⟩ := cons_of hlt hc
    have w := hf a b s
    cases he : pr (a, b, s) with
    | true =>
      rw [he] at w
      simp (disch := omega) only [Try.ntmps169, Try.results169, go_sem, rc, q3, lC]
      refine w.callV 1 (viewL_cons_of view_con (hcap _ _)) ?_
      simp (disch := omega) only [Try.ntmps169, Try.results169, go_sem, rc]
      exact Fin.val (by rw [fx_some dc hlt hkk (by show pr (cg C k) = true; rw [hc]; exact he)])
    | false =>
      rw [he] at w
      simp (disch := omega) only [Try.ntmps169, Try.results169, go_sem, rc, q3, lC]
      refine w.callV 1 (viewL_cons_of view_con (hcap _ _)) ?_
      simp (disch := omega) only [Try.ntmps169, Try.results169, go_sem, rc]
      refine ⟨k + 1, ⟨by omega, fun i hi => ?_⟩, by omega, Wk.of (by simp only [go_sem, ↓List.forall_mem_cons, List.not_mem_nil, false_implies, implies_true, and_true, true_and, and_self, ri_eq, Int.natCast_add, Int.cast_ofNat_Int, rc]; try simp) rfl⟩
      rcases Nat.lt_succ_iff_lt_or_eq.mp hi with h | rfl
      · exact hkk i h
      · show pr (cg C i) = false; rw [hc]; exact he
  · simp (disch := omega) only [Try.ntmps169, Try.results169, go_sem, rc]
    exact Fin.val (by rw [fx_none dc (fun i hi => hkk i (by omega))])
theorem Try.containsFuncT_ok (f : FuncId) (cap : List SV) (C : List Con) (pr : Con → Bool) (hC : C.length ≤ 1048576) (hcap : ∀ H fu, viewL H fu cap = some cap)
    (hf : ∀ a b s, PCall Try.prog f (.agg [.val (.int .i64 a), .val (.int .i64 b), .val (.bool s)] :: cap) (.val (.bool (pr (a, b, s))))) :
    PCall Try.prog 158 [rc C, .clos (.func f) [] cap] (.val (.bool (C.any pr))) := by
  refine FCall.pcall (R := fun r _ => r = .val (.bool (C.any pr))) ?_ 0 (by rintro r H rfl; exact view_bool)
  refine FCall.of_body Try.func158 rfl (by kernel_rfl) (by simp [Try.ntmps158]) ?_
  have w := Try.indexFuncT_ok f cap C pr hC hcap hf
  have hg := fx_ge pr C
  generalize fx pr C = q at *
  refine SW_of_vc Try.mixed _ _ _ (by kernel_rfl) ?_
  cases h : C.any pr with
  | true =>
    have := hg.mpr h
    simp (disch := omega) only [Try.ntmps158, Try.results158, go_sem, rc]
    refine w.callV 1 (viewL_cons_of view_row (viewL_cons_of (view_clos (hcap _ _)) viewL_nil_of)) ?_
    simp (disch := omega) only [Try.ntmps158, Try.results158, go_sem, rc]
    exact Fin.val rfl
  | false =>
    have : ¬ 0 ≤ q := fun e => by rw [hg.mp e] at h; cases h
    simp (disch := omega) only [Try.ntmps158, Try.results158, go_sem, rc]
    refine w.callV 1 (viewL_cons_of view_row (viewL_cons_of (view_clos (hcap _ _)) viewL_nil_of)) ?_
    simp (disch := omega) only [Try.ntmps158, Try.results158, go_sem, rc]
    exact Fin.val rfl
theorem Try.implRH1_ok (f : List Int) (hf : f.length ≤ 1048576) (a b : Int) (s : Bool) : PCall Try.prog 159 [.agg [.val (.int .i64 a), .val (.int .i64 b), .val (.bool s)], .rptr [ri f] 0] (.val (.bool (!th f (a, b, s)))) := by
  refine FCall.pcall (R := fun r _ => r = .val (.bool (!th f (a, b, s)))) ?_ 0 (by rintro r H rfl; exact view_bool)
  refine FCall.of_body Try.func159 rfl (by kernel_rfl) (by simp [Try.ntmps159]) ?_
  have w := Try.implTH_ok f hf a b s
  refine SW_of_vc Try.mixed _ _ _ (by kernel_rfl) ?_
  simp (disch := omega) only [Try.ntmps159, Try.results159, go_sem]
  refine w.callV 1 (viewL_cons_of (view_con) (viewL_cons_of (view_row) viewL_nil_of)) ?_
  simp (disch := omega) only [Try.ntmps159, Try.results159, go_sem]
  exact Fin.val rfl
set_option maxHeartbeats 2000000 in
theorem Try.implRH_ok (f : List Int) (hf : f.length ≤ 1048576) (T : List Con) (hT : T.length ≤ 1048576) : PCall Try.prog 144 [.agg [rc T], ri f] (.val (.bool (rh f T))) := by
  refine FCall.pcall (R := fun r _ => r = .val (.bool (rh f T))) ?_ 0 (by rintro r H rfl; exact view_bool)
  refine FCall.of_body Try.func144 rfl (by kernel_rfl) (by simp [Try.ntmps144]) ?_
  have w1 := Try.implFV_ok f hf
  have w := Try.containsFuncT_ok 159 [.rptr [ri f] 0] T (fun c => !th f c) hT (cap_rptr _ _) (fun a b s => Try.implRH1_ok f hf a b s)
  have e := any_not (L := T) (p := th f)
  refine SW_of_vc Try.mixed _ _ _ (by kernel_rfl) ?_
  cases h1 : isFV f with
  | false =>
    rw [h1] at w1
    simp (disch := omega) only [Try.ntmps144, Try.results144, go_sem, rc]
    refine w1.callV 0 (viewL_cons_of (view_row) viewL_nil_of) ?_
    simp (disch := omega) only [Try.ntmps144, Try.results144, go_sem, rc]
    exact Fin.val (by rw [rh, h1, Bool.false_and])
  | true =>
    rw [h1] at w1
    simp (disch := omega) only [Try.ntmps144, Try.results144, go_sem, rc]
    refine w1.callV 0 (viewL_cons_of (view_row) viewL_nil_of) ?_
    simp (disch := omega) only [Try.ntmps144, Try.results144, go_sem, rc]
    refine w.callV 2 (viewL_cons_of view_row (viewL_cons_of (view_clos (viewL_cons_of (view_optr rfl (viewL_cons_of view_row viewL_nil_of)) viewL_nil_of)) viewL_nil_of)) ?_
    simp (disch := omega) only [Try.ntmps144, Try.results144, go_sem, rc]
    exact Fin.val (by rw [e, rh, h1, Bool.true_and])

/-! ### The first rule -/
set_option maxHeartbeats 2000000 in
theorem Try.specFR_ok (R : List (List Con)) (f : List Int) (hR : R.length ≤ 1048576) (hT : ∀ i, i < R.length → (rg R i).length ≤ 1048576) (hf : f.length ≤ 1048576) : PCall Try.prog 116 [.agg [rR R], ri f] (.val (.int .i64 (fr R f))) := by
  refine FCall.pcall (R := fun r _ => r = .val (.int .i64 (fr R f))) ?_ 0 (by rintro r H rfl; exact view_int)
  refine FCall.of_body Try.func116 rfl (by kernel_rfl) (by simp [Try.ntmps116]) ?_
  have hrl := rules_length R
  have w1 := Try.specVR_ok R hR hT
  have e0 : R.length = 0 → fr R f = -1 := fun h => by
    rw [List.length_eq_zero_iff.1 h, fr]; split <;> rfl
  refine SW_of_vc Try.mixed _ _ _ (by kernel_rfl) ?_
  simp (disch := omega) only [Try.ntmps116, Try.results116, go_sem, rR]
  refine LoopW.loop (fun i : Nat => ⟨ofL [(1, ri f), (2, .optr 0 0), (5, .val (.int .i64 i))], hp [(0, ⟨[rR R], true⟩)] 1⟩) (fun i => i ≤ R.length ∧ (0 < i → isVR R = true) ∧ ∀ x, x < i → rh f (R.getD x []) = false) (fun i => R.length - i) 0 ⟨by omega, by simp, by simp⟩ (Wk.of (by simp only [go_sem, ↓List.forall_mem_cons, List.not_mem_nil, false_implies, implies_true, and_true, true_and, and_self, ri_eq, Int.natCast_add, Int.cast_ofNat_Int, rR]; try simp) rfl) ?_
  rintro i ⟨hi, hv, hii⟩
  refine SW_of_vc Try.mixed _ _ _ (by kernel_rfl) ?_
  by_cases hlt : i < R.length
  · cases h1 : isVR R with
    | false =>
      rw [h1] at w1
      simp (disch := omega) only [Try.ntmps116, Try.results116, go_sem, rR]
      refine w1.callV 1 (viewL_cons_of view_rule viewL_nil_of) ?_
      simp (disch := omega) only [Try.ntmps116, Try.results116, go_sem, rR]
      exact Fin.val (by rw [fr, h1]; rfl)
    | true =>
      rw [h1] at w1
      have gk := rules_get hlt
      have gl := rules_load hlt
      have w2 := Try.specRH_ok f hf (rg R i) (hT i hlt)
      cases h2 : rh f (rg R i) with
      | true =>
        rw [h2] at w2
        simp (disch := omega) only [Try.ntmps116, Try.results116, go_sem, rR, gk, gl, hrl]
        refine w1.callV 1 (viewL_cons_of view_rule viewL_nil_of) ?_
        simp (disch := omega) only [Try.ntmps116, Try.results116, go_sem, rR, gk, gl, hrl]
        refine w2.callV 1 (viewL_cons_of view_rule (viewL_cons_of view_row viewL_nil_of)) ?_
        simp (disch := omega) only [Try.ntmps116, Try.results116, go_sem, rR, gk, gl, hrl]
        exact Fin.val (by rw [fr, h1, if_pos rfl, fx_some [] hlt hii h2])
      | false =>
        rw [h2] at w2
        simp (disch := omega) only [Try.ntmps116, Try.results116, go_sem, rR, gk, gl, hrl]
        refine w1.callV 1 (viewL_cons_of view_rule viewL_nil_of) ?_
        simp (disch := omega) only [Try.ntmps116, Try.results116, go_sem, rR, gk, gl, hrl]
        refine w2.callV 1 (viewL_cons_of view_rule (viewL_cons_of view_row viewL_nil_of)) ?_
        simp (disch := omega) only [Try.ntmps116, Try.results116, go_sem, rR, gk, gl, hrl]
        refine ⟨i + 1, ⟨hlt, fun x hx => ?_⟩, by omega, Wk.of (by simp only [go_sem, ↓List.forall_mem_cons, List.not_mem_nil, false_implies, implies_true, and_true, true_and, and_self, ri_eq, Int.natCast_add, Int.cast_ofNat_Int, rR]; try simp) rfl⟩
        rcases Nat.lt_succ_iff_lt_or_eq.mp hx with h | rfl
        · exact hii x h
        · exact h2
  · obtain rfl : i = R.length := by omega
    have e : fr R f = -1 := by
      by_cases h0 : R.length = 0
      · exact e0 h0
      · rw [fr, hv (by omega), if_pos rfl, fx_none [] hii]
    rw [e]
    simp (disch := omega) only [Try.ntmps116, Try.results116, go_sem, rR]
    exact Fin.val rfl
set_option maxHeartbeats 1000000 in
theorem Try.indexFuncR_ok (f : FuncId) (cap : List SV) (R : List (List Con)) (pr : List Con → Bool) (hR : R.length ≤ 1048576) (hcap : ∀ H fu, viewL H fu cap = some cap)
    (hf : ∀ i, i < R.length → PCall Try.prog f (.agg [rc (rg R i)] :: cap) (.val (.bool (pr (rg R i))))) :
    PCall Try.prog 142 [rR R, .clos (.func f) [] cap] (.val (.int .i64 (fx pr R))) := by
  refine FCall.pcall (R := fun r _ => r = .val (.int .i64 (fx pr R))) ?_ 0 (by rintro r H rfl; exact view_int)
  refine FCall.of_body Try.func142 rfl (by kernel_rfl) (by simp [Try.ntmps142]) ?_
  refine SW_of_vc Try.mixed _ _ _ (by kernel_rfl) ?_
  have hrl := rules_length R
  simp (disch := omega) only [Try.ntmps142, Try.results142, go_sem, rR]
  refine LoopW.loop (fun k : Nat => ⟨ofL [(0, rR R), (1, .clos (.func f) [] cap), (7, .val (.int .i64 R.length)), (8, .val (.int .i64 k))], hp [] 0⟩) (fun k => k ≤ R.length ∧ ∀ i, i < k → pr (R.getD i []) = false) (fun k => R.length - k) 0 ⟨by omega, by simp⟩ (Wk.of (by simp only [go_sem, ↓List.forall_mem_cons, List.not_mem_nil, false_implies, implies_true, and_true, true_and, and_self, ri_eq, Int.natCast_add, Int.cast_ofNat_Int, rR]; try simp) rfl) ?_
  rintro k ⟨hk, hkk⟩
  refine SW_of_vc Try.mixed _ _ _ (by kernel_rfl) ?_
  by_cases hlt : k < R.length
  · have gk := rules_get hlt
    have gl := rules_load hlt
    have w := hf k hlt
    cases he : pr (rg R k) with
    | true =>
      rw [he] at w
      simp (disch := omega) only [Try.ntmps142, Try.results142, go_sem, rR, gk, gl, hrl]
      refine w.callV 1 (viewL_cons_of view_rule (hcap _ _)) ?_
      simp (disch := omega) only [Try.ntmps142, Try.results142, go_sem, rR]
      exact Fin.val (by rw [fx_some [] hlt hkk he])
    | false =>
      rw [he] at w
      simp (disch := omega) only [Try.ntmps142, Try.results142, go_sem, rR, gk, gl, hrl]
      refine w.callV 1 (viewL_cons_of view_rule (hcap _ _)) ?_
      simp (disch := omega) only [Try.ntmps142, Try.results142, go_sem, rR]
      refine ⟨k + 1, ⟨by omega, fun i hi => ?_⟩, by omega, Wk.of (by simp only [go_sem, ↓List.forall_mem_cons, List.not_mem_nil, false_implies, implies_true, and_true, true_and, and_self, ri_eq, Int.natCast_add, Int.cast_ofNat_Int, rR]; try simp) rfl⟩
      rcases Nat.lt_succ_iff_lt_or_eq.mp hi with h | rfl
      · exact hkk i h
      · exact he
  · simp (disch := omega) only [Try.ntmps142, Try.results142, go_sem, rR]
    exact Fin.val (by rw [fx_none [] (fun i hi => hkk i (by omega))])
theorem Try.implFR1_ok (f : List Int) (hf : f.length ≤ 1048576) (T : List Con) (hT : T.length ≤ 1048576) : PCall Try.prog 143 [.agg [rc T], .rptr [ri f] 0] (.val (.bool (rh f T))) := by
  refine FCall.pcall (R := fun r _ => r = .val (.bool (rh f T))) ?_ 0 (by rintro r H rfl; exact view_bool)
  refine FCall.of_body Try.func143 rfl (by kernel_rfl) (by simp [Try.ntmps143]) ?_
  have w := Try.implRH_ok f hf T hT
  refine SW_of_vc Try.mixed _ _ _ (by kernel_rfl) ?_
  simp (disch := omega) only [Try.ntmps143, Try.results143, go_sem, rc]
  refine w.callV 1 (viewL_cons_of view_rule (viewL_cons_of view_row viewL_nil_of)) ?_
  simp (disch := omega) only [Try.ntmps143, Try.results143, go_sem]
  exact Fin.val rfl
set_option maxHeartbeats 2000000 in
theorem Try.implFR_ok (R : List (List Con)) (f : List Int) (hR : R.length ≤ 1048576) (hT : ∀ i, i < R.length → (rg R i).length ≤ 1048576) (hf : f.length ≤ 1048576) : PCall Try.prog 123 [.agg [rR R], ri f] (.val (.int .i64 (fr R f))) := by
  refine FCall.pcall (R := fun r _ => r = .val (.int .i64 (fr R f))) ?_ 0 (by rintro r H rfl; exact view_int)
  refine FCall.of_body Try.func123 rfl (by kernel_rfl) (by simp [Try.ntmps123]) ?_
  have w1 := Try.implVR_ok R hR hT
  have w := Try.indexFuncR_ok 143 [.rptr [ri f] 0] R (rh f) hR (cap_rptr _ _) (fun i hi => Try.implFR1_ok f hf (rg R i) (hT i hi))
  refine SW_of_vc Try.mixed _ _ _ (by kernel_rfl) ?_
  cases h1 : isVR R with
  | false =>
    rw [h1] at w1
    simp (disch := omega) only [Try.ntmps123, Try.results123, go_sem, rR]
    refine w1.callV 1 (viewL_cons_of view_rule viewL_nil_of) ?_
    simp (disch := omega) only [Try.ntmps123, Try.results123, go_sem, rR]
    exact Fin.val (by rw [fr, h1]; rfl)
  | true =>
    rw [h1] at w1
    simp (disch := omega) only [Try.ntmps123, Try.results123, go_sem, rR]
    refine w1.callV 1 (viewL_cons_of view_rule viewL_nil_of) ?_
    simp (disch := omega) only [Try.ntmps123, Try.results123, go_sem, rR]
    refine w.callV 2 (viewL_cons_of view_row (viewL_cons_of (view_clos (viewL_cons_of (view_optr rfl (viewL_cons_of view_row viewL_nil_of)) viewL_nil_of)) viewL_nil_of)) ?_
    simp (disch := omega) only [Try.ntmps123, Try.results123, go_sem, rR]
    exact Fin.val (by rw [fr, h1, if_pos rfl])

theorem Try.specRsH_ok (R : List (List Con)) (f : List Int) (hR : R.length ≤ 1048576) (hT : ∀ i, i < R.length → (rg R i).length ≤ 1048576) (hf : f.length ≤ 1048576) : PCall Try.prog 87 [.agg [rR R], ri f] (.val (.bool (decide (0 ≤ fr R f)))) := by
  refine FCall.pcall (R := fun r _ => r = .val (.bool (decide (0 ≤ fr R f)))) ?_ 0 (by rintro r H rfl; exact view_bool)
  refine FCall.of_body Try.func87 rfl (by kernel_rfl) (by simp [Try.ntmps87]) ?_
  have w := Try.specFR_ok R f hR hT hf
  generalize fr R f = q at *
  refine SW_of_vc Try.mixed _ _ _ (by kernel_rfl) ?_
  by_cases h : 0 ≤ q
  · simp (disch := omega) only [Try.ntmps87, Try.results87, go_sem, rR]
    refine w.callV 1 (viewL_cons_of view_rule (viewL_cons_of view_row viewL_nil_of)) ?_
    simp (disch := omega) only [Try.ntmps87, Try.results87, go_sem, rR]
    exact Fin.val (by simp [h])
  · simp (disch := omega) only [Try.ntmps87, Try.results87, go_sem, rR]
    refine w.callV 1 (viewL_cons_of view_rule (viewL_cons_of view_row viewL_nil_of)) ?_
    simp (disch := omega) only [Try.ntmps87, Try.results87, go_sem, rR]
    exact Fin.val (by simp [h])

theorem Try.implRsH_ok (R : List (List Con)) (f : List Int) (hR : R.length ≤ 1048576) (hT : ∀ i, i < R.length → (rg R i).length ≤ 1048576) (hf : f.length ≤ 1048576) : PCall Try.prog 93 [.agg [rR R], ri f] (.val (.bool (decide (0 ≤ fr R f)))) := by
  refine FCall.pcall (R := fun r _ => r = .val (.bool (decide (0 ≤ fr R f)))) ?_ 0 (by rintro r H rfl; exact view_bool)
  refine FCall.of_body Try.func93 rfl (by kernel_rfl) (by simp [Try.ntmps93]) ?_
  have w := Try.implFR_ok R f hR hT hf
  generalize fr R f = q at *
  refine SW_of_vc Try.mixed _ _ _ (by kernel_rfl) ?_
  by_cases h : 0 ≤ q
  · simp (disch := omega) only [Try.ntmps93, Try.results93, go_sem, rR]
    refine w.callV 1 (viewL_cons_of view_rule (viewL_cons_of view_row viewL_nil_of)) ?_
    simp (disch := omega) only [Try.ntmps93, Try.results93, go_sem, rR]
    exact Fin.val (by simp [h])
  · simp (disch := omega) only [Try.ntmps93, Try.results93, go_sem, rR]
    refine w.callV 1 (viewL_cons_of view_rule (viewL_cons_of view_row viewL_nil_of)) ?_
    simp (disch := omega) only [Try.ntmps93, Try.results93, go_sem, rR]
    exact Fin.val (by simp [h])

/-! ### The weight of a pair -/
def pwt (R : List (List Con)) (W : List Int) (b : Int) (f : List Int) : Int :=
  if (isVR R && (isSc W b && isFV f)) = true then (if 0 ≤ fr R f then (if (dot f W 6).tdiv (wsum W 6) - b < 1 then 1 else (dot f W 6).tdiv (wsum W 6) - b) else (if -1 < (dot f W 6).tdiv (wsum W 6) - b then -1 else (dot f W 6).tdiv (wsum W 6) - b)) else 0

set_option maxHeartbeats 4000000 in
theorem Try.specPW_ok (R : List (List Con)) (W : List Int) (b : Int) (f : List Int) (hR : R.length ≤ 1048576) (hT : ∀ i, i < R.length → (rg R i).length ≤ 1048576) (hW : W.length ≤ 1048576) (hf : f.length ≤ 1048576) : PCall Try.prog 35 [.agg [rR R], sS W b, ri f] (.val (.int .i64 (pwt R W b f))) := by
  refine FCall.pcall (R := fun r _ => r = .val (.int .i64 (pwt R W b f))) ?_ 0 (by rintro r H rfl; exact view_int)
  refine FCall.of_body Try.func35 rfl (by kernel_rfl) (by simp [Try.ntmps35]) ?_
  have w1 := Try.specVR_ok R hR hT
  have w2 := Try.specSc_ok W b hW
  have w3 := Try.specFV_ok f hf
  have w4 := Try.specRsH_ok R f hR hT hf
  unfold pwt
  cases h1 : isVR R with
  | false =>
    rw [h1] at w1
    refine SW_of_vc Try.mixed _ _ _ (by kernel_rfl) ?_
    simp (disch := omega) only [Try.ntmps35, Try.results35, go_sem, rR]
    refine w1.callV 1 (viewL_cons_of view_rule viewL_nil_of) ?_
    simp (disch := omega) only [Try.ntmps35, Try.results35, go_sem, rR]
    exact Fin.val rfl
  | true =>
  rw [h1] at w1
  cases h2 : isSc W b with
  | false =>
    rw [h2] at w2
    refine SW_of_vc Try.mixed _ _ _ (by kernel_rfl) ?_
    simp (disch := omega) only [Try.ntmps35, Try.results35, go_sem, rR]
    refine w1.callV 1 (viewL_cons_of view_rule viewL_nil_of) ?_
    simp (disch := omega) only [Try.ntmps35, Try.results35, go_sem, rR]
    refine w2.callV 1 (viewL_cons_of view_sS viewL_nil_of) ?_
    simp (disch := omega) only [Try.ntmps35, Try.results35, go_sem, rR]
    exact Fin.val rfl
  | true =>
  have w5 := fun h => Try.specPS_ok W b f hW hf h2 h
  obtain ⟨g1, g2, g3, g4, g5⟩ := isSc_t h2
  rw [h2] at w2
  cases h3 : isFV f with
  | false =>
    rw [h3] at w3
    refine SW_of_vc Try.mixed _ _ _ (by kernel_rfl) ?_
    simp (disch := omega) only [Try.ntmps35, Try.results35, go_sem, rR]
    refine w1.callV 1 (viewL_cons_of view_rule viewL_nil_of) ?_
    simp (disch := omega) only [Try.ntmps35, Try.results35, go_sem, rR]
    refine w2.callV 1 (viewL_cons_of view_sS viewL_nil_of) ?_
    simp (disch := omega) only [Try.ntmps35, Try.results35, go_sem, rR]
    refine w3.callV 0 (viewL_cons_of (view_row) viewL_nil_of) ?_
    simp (disch := omega) only [Try.ntmps35, Try.results35, go_sem, rR]
    exact Fin.val rfl
  | true =>
  have w5 := w5 h3
  obtain ⟨f1, f2⟩ := isFV_t h3
  have hdb := dot_b f2 g2 6 (by omega)
  have hq : 0 ≤ (dot f W 6).tdiv (wsum W 6) := Int.tdiv_nonneg hdb.1 (by omega)
  have hq2 : (dot f W 6).tdiv (wsum W 6) ≤ dot f W 6 := Int.tdiv_le_self _ hdb.1
  rw [h3] at w3
  generalize (dot f W 6).tdiv (wsum W 6) = d at *
  simp only [Bool.and_self, if_true]
  refine SW_of_vc Try.mixed _ _ _ (by kernel_rfl) ?_
  by_cases h4 : 0 ≤ fr R f
  · rw [decide_eq_true h4] at w4
    rw [if_pos h4]
    by_cases h5 : d - b < 1
    · simp (disch := omega) only [Try.ntmps35, Try.results35, go_sem, rR]
      refine w1.callV 1 (viewL_cons_of view_rule viewL_nil_of) ?_
      simp (disch := omega) only [Try.ntmps35, Try.results35, go_sem, rR]
      refine w2.callV 1 (viewL_cons_of view_sS viewL_nil_of) ?_
      simp (disch := omega) only [Try.ntmps35, Try.results35, go_sem, rR]
      refine w3.callV 0 (viewL_cons_of (view_row) viewL_nil_of) ?_
      simp (disch := omega) only [Try.ntmps35, Try.results35, go_sem, rR]
      refine w5.callDV 1 (viewL_cons_of view_sS (viewL_cons_of view_row viewL_nil_of)) ?_
      simp (disch := omega) only [Try.ntmps35, Try.results35, go_sem, rR]
      refine w4.callV 1 (viewL_cons_of view_rule (viewL_cons_of view_row viewL_nil_of)) ?_
      simp (disch := omega) only [Try.ntmps35, Try.results35, go_sem, rR]
      exact Fin.val (by first | rfl | (rw [if_pos h5]; done))
    · simp (disch := omega) only [Try.ntmps35, Try.results35, go_sem, rR]
      refine w1.callV 1 (viewL_cons_of view_rule viewL_nil_of) ?_
      simp (disch := omega) only [Try.ntmps35, Try.results35, go_sem, rR]
      refine w2.callV 1 (viewL_cons_of view_sS viewL_nil_of) ?_
      simp (disch := omega) only [Try.ntmps35, Try.results35, go_sem, rR]
      refine w3.callV 0 (viewL_cons_of (view_row) viewL_nil_of) ?_
      simp (disch := omega) only [Try.ntmps35, Try.results35, go_sem, rR]
      refine w5.callDV 1 (viewL_cons_of view_sS (viewL_cons_of view_row viewL_nil_of)) ?_
      simp (disch := omega) only [Try.ntmps35, Try.results35, go_sem, rR]
      refine w4.callV 1 (viewL_cons_of view_rule (viewL_cons_of view_row viewL_nil_of)) ?_
      simp (disch := omega) only [Try.ntmps35, Try.results35, go_sem, rR]
      exact Fin.val (by first | rfl | (rw [if_neg h5]; done) | (rw [if_neg h5]; congr 2; omega) | (congr 2; split <;> omega))
  · rw [decide_eq_false h4] at w4
    rw [if_neg h4]
    by_cases h5 : -1 < d - b
    · simp (disch := omega) only [Try.ntmps35, Try.results35, go_sem, rR]
      refine w1.callV 1 (viewL_cons_of view_rule viewL_nil_of) ?_
      simp (disch := omega) only [Try.ntmps35, Try.results35, go_sem, rR]
      refine w2.callV 1 (viewL_cons_of view_sS viewL_nil_of) ?_
      simp (disch := omega) only [Try.ntmps35, Try.results35, go_sem, rR]
      refine w3.callV 0 (viewL_cons_of (view_row) viewL_nil_of) ?_
      simp (disch := omega) only [Try.ntmps35, Try.results35, go_sem, rR]
      refine w5.callDV 1 (viewL_cons_of view_sS (viewL_cons_of view_row viewL_nil_of)) ?_
      simp (disch := omega) only [Try.ntmps35, Try.results35, go_sem, rR]
      refine w4.callV 1 (viewL_cons_of view_rule (viewL_cons_of view_row viewL_nil_of)) ?_
      simp (disch := omega) only [Try.ntmps35, Try.results35, go_sem, rR]
      exact Fin.val (by first | rfl | (rw [if_pos h5]; done))
    · simp (disch := omega) only [Try.ntmps35, Try.results35, go_sem, rR]
      refine w1.callV 1 (viewL_cons_of view_rule viewL_nil_of) ?_
      simp (disch := omega) only [Try.ntmps35, Try.results35, go_sem, rR]
      refine w2.callV 1 (viewL_cons_of view_sS viewL_nil_of) ?_
      simp (disch := omega) only [Try.ntmps35, Try.results35, go_sem, rR]
      refine w3.callV 0 (viewL_cons_of (view_row) viewL_nil_of) ?_
      simp (disch := omega) only [Try.ntmps35, Try.results35, go_sem, rR]
      refine w5.callDV 1 (viewL_cons_of view_sS (viewL_cons_of view_row viewL_nil_of)) ?_
      simp (disch := omega) only [Try.ntmps35, Try.results35, go_sem, rR]
      refine w4.callV 1 (viewL_cons_of view_rule (viewL_cons_of view_row viewL_nil_of)) ?_
      simp (disch := omega) only [Try.ntmps35, Try.results35, go_sem, rR]
      exact Fin.val (by first | rfl | (rw [if_neg h5]; done) | (rw [if_neg h5]; congr 2; omega) | (congr 2; split <;> omega))

set_option maxHeartbeats 4000000 in
theorem Try.implPW_ok (R : List (List Con)) (W : List Int) (b : Int) (f : List Int) (hR : R.length ≤ 1048576) (hT : ∀ i, i < R.length → (rg R i).length ≤ 1048576) (hW : W.length ≤ 1048576) (hf : f.length ≤ 1048576) : PCall Try.prog 39 [.agg [rR R], sS W b, ri f] (.val (.int .i64 (pwt R W b f))) := by
  refine FCall.pcall (R := fun r _ => r = .val (.int .i64 (pwt R W b f))) ?_ 0 (by rintro r H rfl; exact view_int)
  refine FCall.of_body Try.func39 rfl (by kernel_rfl) (by simp [Try.ntmps39]) ?_
  have w1 := Try.implVR_ok R hR hT
  have w2 := Try.implSc_ok W b hW
  have w3 := Try.implFV_ok f hf
  have w4 := Try.implRsH_ok R f hR hT hf
  unfold pwt
  cases h1 : isVR R with
  | false =>
    rw [h1] at w1
    refine SW_of_vc Try.mixed _ _ _ (by kernel_rfl) ?_
    simp (disch := omega) only [Try.ntmps39, Try.results39, go_sem, rR]
    refine w1.callV 1 (viewL_cons_of view_rule viewL_nil_of) ?_
    simp (disch := omega) only [Try.ntmps39, Try.results39, go_sem, rR]
    exact Fin.val rfl
  | true =>
  rw [h1] at w1
  cases h2 : isSc W b with
  | false =>
    rw [h2] at w2
    refine SW_of_vc Try.mixed _ _ _ (by kernel_rfl) ?_
    simp (disch := omega) only [Try.ntmps39, Try.results39, go_sem, rR]
    refine w1.callV 1 (viewL_cons_of view_rule viewL_nil_of) ?_
    simp (disch := omega) only [Try.ntmps39, Try.results39, go_sem, rR]
    refine w2.callV 1 (viewL_cons_of view_sS viewL_nil_of) ?_
    simp (disch := omega) only [Try.ntmps39, Try.results39, go_sem, rR]
    exact Fin.val rfl
  | true =>
  have w5 := fun h => Try.implPS_ok W b f hW hf h2 h
  obtain ⟨g1, g2, g3, g4, g5⟩ := isSc_t h2
  rw [h2] at w2
  cases h3 : isFV f with
  | false =>
    rw [h3] at w3
    refine SW_of_vc Try.mixed _ _ _ (by kernel_rfl) ?_
    simp (disch := omega) only [Try.ntmps39, Try.results39, go_sem, rR]
    refine w1.callV 1 (viewL_cons_of view_rule viewL_nil_of) ?_
    simp (disch := omega) only [Try.ntmps39, Try.results39, go_sem, rR]
    refine w2.callV 1 (viewL_cons_of view_sS viewL_nil_of) ?_
    simp (disch := omega) only [Try.ntmps39, Try.results39, go_sem, rR]
    refine w3.callV 0 (viewL_cons_of (view_row) viewL_nil_of) ?_
    simp (disch := omega) only [Try.ntmps39, Try.results39, go_sem, rR]
    exact Fin.val rfl
  | true =>
  have w5 := w5 h3
  obtain ⟨f1, f2⟩ := isFV_t h3
  have hdb := dot_b f2 g2 6 (by omega)
  have hq : 0 ≤ (dot f W 6).tdiv (wsum W 6) := Int.tdiv_nonneg hdb.1 (by omega)
  have hq2 : (dot f W 6).tdiv (wsum W 6) ≤ dot f W 6 := Int.tdiv_le_self _ hdb.1
  rw [h3] at w3
  generalize (dot f W 6).tdiv (wsum W 6) = d at *
  simp only [Bool.and_self, if_true]
  refine SW_of_vc Try.mixed _ _ _ (by kernel_rfl) ?_
  by_cases h4 : 0 ≤ fr R f
  · rw [decide_eq_true h4] at w4
    rw [if_pos h4]
    by_cases h5 : d - b < 1
    · simp (disch := omega) only [Try.ntmps39, Try.results39, go_sem, rR]
      refine w1.callV 1 (viewL_cons_of view_rule viewL_nil_of) ?_
      simp (disch := omega) only [Try.ntmps39, Try.results39, go_sem, rR]
      refine w2.callV 1 (viewL_cons_of view_sS viewL_nil_of) ?_
      simp (disch := omega) only [Try.ntmps39, Try.results39, go_sem, rR]
      refine w3.callV 0 (viewL_cons_of (view_row) viewL_nil_of) ?_
      simp (disch := omega) only [Try.ntmps39, Try.results39, go_sem, rR]
      refine w5.callDV 1 (viewL_cons_of view_sS (viewL_cons_of view_row viewL_nil_of)) ?_
      simp (disch := omega) only [Try.ntmps39, Try.results39, go_sem, rR]
      refine w4.callV 1 (viewL_cons_of view_rule (viewL_cons_of view_row viewL_nil_of)) ?_
      simp (disch := omega) only [Try.ntmps39, Try.results39, go_sem, rR]
      exact Fin.val (by first | rfl | (rw [if_pos h5]; done))
    · simp (disch := omega) only [Try.ntmps39, Try.results39, go_sem, rR]
      refine w1.callV 1 (viewL_cons_of view_rule viewL_nil_of) ?_
      simp (disch := omega) only [Try.ntmps39, Try.results39, go_sem, rR]
      refine w2.callV 1 (viewL_cons_of view_sS viewL_nil_of) ?_
      simp (disch := omega) only [Try.ntmps39, Try.results39, go_sem, rR]
      refine w3.callV 0 (viewL_cons_of (view_row) viewL_nil_of) ?_
      simp (disch := omega) only [Try.ntmps39, Try.results39, go_sem, rR]
      refine w5.callDV 1 (viewL_cons_of view_sS (viewL_cons_of view_row viewL_nil_of)) ?_
      simp (disch := omega) only [Try.ntmps39, Try.results39, go_sem, rR]
      refine w4.callV 1 (viewL_cons_of view_rule (viewL_cons_of view_row viewL_nil_of)) ?_
      simp (disch := omega) only [Try.ntmps39, Try.results39, go_sem, rR]
      exact Fin.val (by first | rfl | (rw [if_neg h5]; done) | (rw [if_neg h5]; congr 2; omega) | (congr 2; split <;> omega))
  · rw [decide_eq_false h4] at w4
    rw [if_neg h4]
    by_cases h5 : -1 < d - b
    · simp (disch := omega) only [Try.ntmps39, Try.results39, go_sem, rR]
      refine w1.callV 1 (viewL_cons_of view_rule viewL_nil_of) ?_
      simp (disch := omega) only [Try.ntmps39, Try.results39, go_sem, rR]
      refine w2.callV 1 (viewL_cons_of view_sS viewL_nil_of) ?_
      simp (disch := omega) only [Try.ntmps39, Try.results39, go_sem, rR]
      refine w3.callV 0 (viewL_cons_of (view_row) viewL_nil_of) ?_
      simp (disch := omega) only [Try.ntmps39, Try.results39, go_sem, rR]
      refine w5.callDV 1 (viewL_cons_of view_sS (viewL_cons_of view_row viewL_nil_of)) ?_
      simp (disch := omega) only [Try.ntmps39, Try.results39, go_sem, rR]
      refine w4.callV 1 (viewL_cons_of view_rule (viewL_cons_of view_row viewL_nil_of)) ?_
      simp (disch := omega) only [Try.ntmps39, Try.results39, go_sem, rR]
      exact Fin.val (by first | rfl | (rw [if_pos h5]; done))
    · simp (disch := omega) only [Try.ntmps39, Try.results39, go_sem, rR]
      refine w1.callV 1 (viewL_cons_of view_rule viewL_nil_of) ?_
      simp (disch := omega) only [Try.ntmps39, Try.results39, go_sem, rR]
      refine w2.callV 1 (viewL_cons_of view_sS viewL_nil_of) ?_
      simp (disch := omega) only [Try.ntmps39, Try.results39, go_sem, rR]
      refine w3.callV 0 (viewL_cons_of (view_row) viewL_nil_of) ?_
      simp (disch := omega) only [Try.ntmps39, Try.results39, go_sem, rR]
      refine w5.callDV 1 (viewL_cons_of view_sS (viewL_cons_of view_row viewL_nil_of)) ?_
      simp (disch := omega) only [Try.ntmps39, Try.results39, go_sem, rR]
      refine w4.callV 1 (viewL_cons_of view_rule (viewL_cons_of view_row viewL_nil_of)) ?_
      simp (disch := omega) only [Try.ntmps39, Try.results39, go_sem, rR]
      exact Fin.val (by first | rfl | (rw [if_neg h5]; done) | (rw [if_neg h5]; congr 2; omega) | (congr 2; split <;> omega))
end Go.Sh

/-
  The law FnExactPairWeight, walked.
-/
namespace Go.Sh
set_option linter.unusedSimpArgs false
set_option linter.unusedVariables false
open Go Go.Proofs

set_option maxHeartbeats 16000000 in
theorem Try.exactPairWeight_ok (R : List (List Con)) (W : List Int) (b : Int) (f : List Int) (hRw : R.length ≤ 9223372036854775807) (hTw : ∀ i, i < R.length → (rg R i).length ≤ 9223372036854775807) (hWw : W.length ≤ 9223372036854775807) :
    PCall Try.prog 5 [.agg [rR R], sS W b, ri f] (.val (.bool true)) := by
  refine FCall.pcall (R := fun r _ => r = .val (.bool true)) ?_ 0 (by rintro r H rfl; exact view_bool)
  refine FCall.of_body Try.func5 rfl (by kernel_rfl) (by simp [Try.ntmps5]) ?_
  refine SW_of_vc Try.mixed _ _ _ (by kernel_rfl) ?_
  by_cases s0 : 1048576 < f.length
  · simp (disch := omega) only [Try.ntmps5, Try.results5, go_sem, rR]
    exact Fin.val rfl
  have hf : f.length ≤ 1048576 := by omega
  have hrs := rsum_nonneg R R.length
  have zR := Try.szRuleSet_ok R (1048576) hRw hTw (by omega) (by omega)
  by_cases s1 : (1048576 : Int) < R.length + rsum R R.length
  · rw [if_pos s1] at zR
    simp (disch := omega) only [Try.ntmps5, Try.results5, go_sem, rR]
    refine zR.callV 1 (viewL_cons_of view_rule (viewL_cons_of view_int viewL_nil_of)) ?_
    simp (disch := omega) only [Try.ntmps5, Try.results5, go_sem, rR]
    exact Fin.val rfl
  rw [if_neg s1] at zR
  have hR : R.length ≤ 1048576 := by omega
  have hT : ∀ i, i < R.length → (rg R i).length ≤ 1048576 := fun i hi => by have := rg_le hi; omega
  have zS := Try.szScoring_ok W b (1048576 - R.length - rsum R R.length) hWw (by omega) (by omega)
  by_cases s2 : (1048576 - R.length - rsum R R.length : Int) < W.length
  · rw [if_pos s2] at zS
    simp (disch := omega) only [Try.ntmps5, Try.results5, go_sem, rR]
    refine zR.callV 1 (viewL_cons_of view_rule (viewL_cons_of view_int viewL_nil_of)) ?_
    simp (disch := omega) only [Try.ntmps5, Try.results5, go_sem, rR]
    refine zS.callV 1 (viewL_cons_of view_sS (viewL_cons_of view_int viewL_nil_of)) ?_
    simp (disch := omega) only [Try.ntmps5, Try.results5, go_sem, rR]
    exact Fin.val rfl
  rw [if_neg s2] at zS
  have hW : W.length ≤ 1048576 := by omega
  have wS := Try.specPW_ok R W b f hR hT hW hf
  have wI := Try.implPW_ok R W b f hR hT hW hf
  have tR := Try.toRuleSet_ok R hR hT
  have tS := Try.toScoring_ok W b hW
  have tF := Try.toIntS_ok f hf
  have eR := Try.eqRuleSet_ok R hR hT
  have eS := Try.eqScoring_ok W b hW
  have eF := Try.eqIntS_ok f f (by omega) (by omega)
  generalize pwt R W b f = q at *
  simp (disch := omega) only [Try.ntmps5, Try.results5, go_sem, rR]
  refine zR.callV 1 (viewL_cons_of view_rule (viewL_cons_of view_int viewL_nil_of)) ?_
  simp (disch := omega) only [Try.ntmps5, Try.results5, go_sem, rR]
  refine zS.callV 1 (viewL_cons_of view_sS (viewL_cons_of view_int viewL_nil_of)) ?_
  simp (disch := omega) only [Try.ntmps5, Try.results5, go_sem, rR]
  refine tR.callDV 1 (viewL_cons_of view_rule viewL_nil_of) ?_
  simp (disch := omega) only [Try.ntmps5, Try.results5, go_sem, rR]
  refine tS.callDV 1 (viewL_cons_of view_sS viewL_nil_of) ?_
  simp (disch := omega) only [Try.ntmps5, Try.results5, go_sem, rR]
  refine tF.callDV 0 (viewL_cons_of (view_row) viewL_nil_of) ?_
  simp (disch := omega) only [Try.ntmps5, Try.results5, go_sem, rR]
  refine wS.callDV 1 (viewL_cons_of view_rule (viewL_cons_of view_sS (viewL_cons_of view_row viewL_nil_of))) ?_
  simp (disch := omega) only [Try.ntmps5, Try.results5, go_sem, rR]
  refine tR.callV 1 (viewL_cons_of view_rule viewL_nil_of) ?_
  simp (disch := omega) only [Try.ntmps5, Try.results5, go_sem, rR]
  refine tS.callV 1 (viewL_cons_of view_sS viewL_nil_of) ?_
  simp (disch := omega) only [Try.ntmps5, Try.results5, go_sem, rR]
  refine tF.callV 0 (viewL_cons_of (view_row) viewL_nil_of) ?_
  simp (disch := omega) only [Try.ntmps5, Try.results5, go_sem, rR]
  refine wI.callV 1 (viewL_cons_of view_rule (viewL_cons_of view_sS (viewL_cons_of view_row viewL_nil_of))) ?_
  simp (disch := omega) only [Try.ntmps5, Try.results5, go_sem, rR, bne_self_eq_false, beq_self_eq_true]
  refine tR.callDV 1 (viewL_cons_of view_rule viewL_nil_of) ?_
  simp (disch := omega) only [Try.ntmps5, Try.results5, go_sem, rR, bne_self_eq_false, beq_self_eq_true]
  refine eR.callDV 1 (viewL_cons_of view_rule (viewL_cons_of view_rule viewL_nil_of)) ?_
  simp (disch := omega) only [Try.ntmps5, Try.results5, go_sem, rR, bne_self_eq_false, beq_self_eq_true]
  refine tS.callDV 1 (viewL_cons_of view_sS viewL_nil_of) ?_
  simp (disch := omega) only [Try.ntmps5, Try.results5, go_sem, rR, bne_self_eq_false, beq_self_eq_true]
  refine eS.callDV 1 (viewL_cons_of view_sS (viewL_cons_of view_sS viewL_nil_of)) ?_
  simp (disch := omega) only [Try.ntmps5, Try.results5, go_sem, rR, bne_self_eq_false, beq_self_eq_true]
  refine tF.callV 0 (viewL_cons_of (view_row) viewL_nil_of) ?_
  simp (disch := omega) only [Try.ntmps5, Try.results5, go_sem, rR, bne_self_eq_false, beq_self_eq_true]
  refine eF.callV 0 (viewL_cons_of (view_row) (viewL_cons_of (view_row) viewL_nil_of)) ?_
  simp (disch := omega) only [Try.ntmps5, Try.results5, go_sem, rR, bne_self_eq_false, beq_self_eq_true]
  exact Fin.val rfl
end Go.Sh

/-
  From the values that came in to the shadow's: sets of rules, scorings.
-/
namespace Go.Sh
set_option linter.unusedSimpArgs false
set_option linter.unusedVariables false
open Go Go.RowKit
open Go.ChangeShapes Go.WideShapes

section
variable {Hh : Type} {enc : TypeId × Value → Hh} {P : Program} {w : World} {held : Bool}
theorem cell_rules {t e q : TypeId} {g0 f0 f1 f2 : Field} {fuel : Nat} {v : Value} {x : DataW Hh × List MemPlace} (ht : P.underlying t = some (.slice e)) (he : P.underlying e = some (.struct #[g0])) (ce : P.cellsOf e = 1) (og : g0.offset = 0) (ug : P.underlying g0.type = some (.slice q)) (cg : P.cellsOf g0.type = 1)
    (hq : P.underlying q = some (.struct #[f0, f1, f2])) (cq : P.cellsOf q = 3)
    (o0 : f0.offset = 0) (o1 : f1.offset = 1) (o2 : f2.offset = 2) (u0 : P.underlying f0.type = some (.int .i64)) (u1 : P.underlying f1.type = some (.int .i64)) (u2 : P.underlying f2.type = some .bool) (c0 : P.cellsOf f0.type = 1) (c1 : P.cellsOf f1.type = 1) (c2 : P.cellsOf f2.type = 1)
    (h : DataW.trod enc P w 0 (fun _ => true) held fuel t [v] = some x) : ∃ R : List (List Con), VRel (fun _ => False) w noj (rR R) v ∧ (∀ i, i < R.length → (rg R i).length ≤ maxLen) ∧ R.length ≤ maxLen := by
  rcases Deep.open_slice1 ht ce h with ⟨hcs, _⟩ | ⟨a, len, cap, m, n, V, D, Pl, hcs, hb, hl, hm, hmm, _, hx⟩
  · simp at hcs
    subst hcs
    refine ⟨[], ?_, by simp, by simp⟩
    simp only [rR, VRel]
    exact ⟨none, 0, rfl, Nat.le_refl _, by simp, .inl (by simp [rules])⟩
  · simp at hcs
    subst hcs
    simp only [if_true] at hmm
    subst hmm
    obtain ⟨L, hL⟩ := Deep.choose_lt (α := List Con) (p := fun i T => VRel (fun _ => False) w noj (rc T) (V i) ∧ T.length ≤ maxLen) (fun i hi => by
      obtain ⟨xs, k, hk, hxy, _, hxl, hf⟩ := DataW.trod_struct he (hx i hi).2
      match xs, hxl with
      | [y0], _ =>
        have g := hf 0 g0 rfl
        simp [og, cg] at g
        obtain ⟨C, h1, _, h3⟩ := cell_cons ug hq cq o0 o1 o2 u0 u1 u2 c0 c1 c2 g
        exact ⟨C, h1, h3⟩)
    refine ⟨(List.range len).map L, ?_, ?_, by simp; omega⟩
    · simp only [rR, VRel]
      refine ⟨some a, m, by simp, by simpa using hl, by simp, .inr ⟨a, rfl, crel_fn (fun i s hi => ?_)⟩⟩
      simp only [rules, List.map_map, List.getElem?_map, Option.map_eq_some_iff] at hi
      obtain ⟨k, hk, rfl⟩ := hi
      have hi : i < len := by
        have := (List.getElem?_eq_some_iff.1 hk).1
        simpa using this
      obtain rfl : i = k := by simpa [hi] using hk
      exact ⟨V i, (hx i (by omega)).1, (hL i (by omega)).1⟩
    · intro i hi
      simp at hi
      simp [rg, hi]
      exact (hL i (by omega)).2
theorem cell_rset {s e q : TypeId} {r0 g0 f0 f1 f2 : Field} {fuel : Nat} {cs : List Value} {x : DataW Hh × List MemPlace} (hs : P.underlying s = some (.struct #[r0])) (hlen : cs.length = 1) (or : r0.offset = 0) (ht : P.underlying r0.type = some (.slice e)) (cr : P.cellsOf r0.type = 1)
    (he : P.underlying e = some (.struct #[g0])) (ce : P.cellsOf e = 1) (og : g0.offset = 0) (ug : P.underlying g0.type = some (.slice q)) (cg : P.cellsOf g0.type = 1)
    (hq : P.underlying q = some (.struct #[f0, f1, f2])) (cq : P.cellsOf q = 3)
    (o0 : f0.offset = 0) (o1 : f1.offset = 1) (o2 : f2.offset = 2) (u0 : P.underlying f0.type = some (.int .i64)) (u1 : P.underlying f1.type = some (.int .i64)) (u2 : P.underlying f2.type = some .bool) (c0 : P.cellsOf f0.type = 1) (c1 : P.cellsOf f1.type = 1) (c2 : P.cellsOf f2.type = 1)
    (h : DataW.trod enc P w 0 (fun _ => true) held fuel s cs = some x) : ∃ R : List (List Con), LRel (fun _ => False) w noj [rR R] cs ∧ (∀ i, i < R.length → (rg R i).length ≤ maxLen) ∧ R.length ≤ maxLen := by
  obtain ⟨xs, k, hk, hxy, _, hxl, hf⟩ := DataW.trod_struct hs h
  match xs, hxl, cs, hlen with
  | [y0], _, [v0], _ =>
    have g := hf 0 r0 rfl
    simp [or, cr] at g
    obtain ⟨R, h1, h2⟩ := cell_rules ht he ce og ug cg hq cq o0 o1 o2 u0 u1 u2 c0 c1 c2 g
    refine ⟨R, ?_, h2⟩
    simp only [LRel]
    exact ⟨_, _, rfl, h1, rfl⟩
theorem cell_sco {s e : TypeId} {f0 f1 : Field} {fuel : Nat} {cs : List Value} {x : DataW Hh × List MemPlace} (hs : P.underlying s = some (.struct #[f0, f1])) (hlen : cs.length = 2)
    (o0 : f0.offset = 0) (o1 : f1.offset = 1) (u0 : P.underlying f0.type = some (.slice e)) (ue : P.underlying e = some (.int .i64)) (ce : P.cellsOf e = 1) (u1 : P.underlying f1.type = some (.int .i64)) (c0 : P.cellsOf f0.type = 1) (c1 : P.cellsOf f1.type = 1)
    (h : DataW.trod enc P w 0 (fun _ => true) held fuel s cs = some x) : ∃ (W : List Int) (b : Int), LRel (fun _ => False) w noj [ri W, .val (.int .i64 b)] cs ∧ (∀ n ∈ W, i64R n) ∧ W.length ≤ maxLen ∧ i64R b := by
  obtain ⟨xs, k, hk, hxy, _, hxl, hf⟩ := DataW.trod_struct hs h
  match xs, hxl, cs, hlen with
  | [y0, y1], _, [v0, v1], _ =>
    have g0 := hf 0 f0 rfl
    have g1 := hf 1 f1 rfl
    simp [o0, o1, c0, c1] at g0 g1
    obtain ⟨L, hL, hr, hlL⟩ := cell_ints u0 ue ce g0
    obtain ⟨n1, q1, _, w1⟩ := DataW.trod_int u1 g1
    simp at q1
    subst q1
    refine ⟨L, n1, ?_, hr, hlL, wf_i64 w1⟩
    simp only [LRel, VRel]
    exact ⟨_, _, rfl, hL, _, _, rfl, rfl, rfl⟩
end
end Go.Sh
