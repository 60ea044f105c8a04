/-
  Texts put together: G2, G3, BA1, N3, N4, S1, S2, S3, S4, BA2, Z1, D3, J1, J2, C4, Bits, C5, Z2, Z3, M1. What each proves stands at its own head, with its conditions.
-/
import Derived.Test.YtgkicmckimgjjaaZCheckClustering3

/-
  Contracts: are these constraints? Of the reference and of the program.
-/
namespace Go.Sh
set_option linter.unusedSimpArgs false
set_option linter.unusedVariables false
open Go Go.Proofs

def fidx (pr : Con → Bool) (C : List Con) : Int := match C.findIdx? pr with | some i => (i : Int) | none => -1
theorem fidx_none {pr : Con → Bool} {C : List Con} (h : ∀ i, i < C.length → pr (cg C i) = false) : fidx pr C = -1 := by
  have : C.findIdx? pr = none := by
    rw [List.findIdx?_eq_none_iff]
    intro x hx
    obtain ⟨i, hi, e⟩ := List.getElem_of_mem hx
    have := h i hi
    simpa [cg, hi, e] using this
  rw [fidx, this]
theorem fidx_some {pr : Con → Bool} {C : List Con} {k : Nat} (hk : k < C.length) (h : ∀ i, i < k → pr (cg C i) = false) (e : pr (cg C k) = true) : fidx pr C = k := by
  have : C.findIdx? pr = some k := by
    rw [List.findIdx?_eq_some_iff_getElem]
    refine ⟨hk, by simpa [cg, hk] using e, fun j hj => ?_⟩
    have hj' : j < C.length := by omega
    have := h j hj
    simp [cg, hj'] at this
    simp [this]
  rw [fidx, this]
theorem fidx_ge (pr : Con → Bool) (C : List Con) : (0 ≤ fidx pr C) ↔ C.any pr = true := by
  rw [fidx]
  cases h : C.findIdx? pr with
  | none =>
    rw [List.findIdx?_eq_none_iff] at h
    constructor
    · intro e; simp at e
    · intro e
      obtain ⟨x, hx, h1⟩ := List.any_eq_true.1 e
      rw [h x hx] at h1; cases h1
  | some i =>
    rw [List.findIdx?_eq_some_iff_getElem] at h
    obtain ⟨hi, h1, _⟩ := h
    simp only [Int.natCast_nonneg, true_iff, List.any_eq_true]
    exact ⟨C[i], List.getElem_mem hi, h1⟩

set_option maxHeartbeats 1000000 in
theorem Try.indexFuncM_ok (f : FuncId) (cap : List SV) (C : List Con) (pr : Con → Bool) (hC : C.length ≤ 1048576) (hcap : ∀ H fu, viewL H fu cap = some cap)
    (hf : ∀ k, k < C.length → PCall Try.prog f (.agg [.val (.int .i64 (cg C k).1), .val (.int .i64 (cg C k).2.1), .val (.bool (cg C k).2.2)] :: cap) (.val (.bool (pr ((cg C k).1, (cg C k).2.1, (cg C k).2.2))))) :
    PCall Try.prog 162 [rc C, .clos (.func f) [] cap] (.val (.int .i64 (fidx pr C))) := by
  refine FCall.pcall (R := fun r _ => r = .val (.int .i64 (fidx pr C))) ?_ 0 (by rintro r H rfl; exact view_int)
  refine FCall.of_body Try.func162 rfl (by kernel_rfl) (by simp [Try.ntmps162]) ?_
  refine SW_of_vc Try.mixed _ _ _ (by kernel_rfl) ?_
  have lC := cons_length C
  simp (disch := omega) only [Try.ntmps162, Try.results162, go_sem, rc]
  refine LoopW.loop (fun k : Nat => ⟨ofL [(0, rc C), (1, .clos (.func f) [] cap), (7, .val (.int .i64 C.length)), (8, .val (.int .i64 k))], hp [] 0⟩) (fun k => k ≤ C.length ∧ ∀ i, i < k → pr (cg C i) = false) (fun k => C.length - k) 0 ⟨by omega, by simp⟩ (Wk.of (by simp only [go_sem, ↓List.forall_mem_cons, List.not_mem_nil, false_implies, implies_true, and_true, true_and, and_self, ri_eq, Int.natCast_add, Int.cast_ofNat_Int, rc]; try simp) rfl) ?_
  rintro k ⟨hk, hkk⟩
  refine SW_of_vc Try.mixed _ _ _ (by kernel_rfl) ?_
  by_cases hlt : k < C.length
  · simp (disch := omega) only [Try.ntmps162, Try.results162, go_sem, rc, cons_load]
    refine (hf k hlt).callV 1 (viewL_cons_of view_con (hcap _ _)) ?_
    cases he : pr ((cg C k).1, (cg C k).2.1, (cg C k).2.2) with
    | true =>
      simp (disch := omega) only [Try.ntmps162, Try.results162, go_sem, rc]
      exact Fin.val (by rw [fidx_some hlt hkk he])
    | false =>
      simp (disch := omega) only [Try.ntmps162, Try.results162, go_sem, rc]
      refine ⟨k + 1, ⟨by omega, fun i hi => ?_⟩, by omega, Wk.of (by simp only [go_sem, ↓List.forall_mem_cons, List.not_mem_nil, false_implies, implies_true, and_true, true_and, and_self, ri_eq, Int.natCast_add, Int.cast_ofNat_Int, rc]; try simp) rfl⟩
      rcases Nat.lt_succ_iff_lt_or_eq.mp hi with h | rfl
      · exact hkk i h
      · exact he
  · simp (disch := omega) only [Try.ntmps162, Try.results162, go_sem, rc]
    exact Fin.val (by rw [fidx_none (fun i hi => hkk i (by omega))])

theorem Try.containsFuncM_ok (f : FuncId) (cap : List SV) (C : List Con) (pr : Con → Bool) (hC : C.length ≤ 1048576) (hcap : ∀ H fu, viewL H fu cap = some cap)
    (hf : ∀ k, k < C.length → PCall Try.prog f (.agg [.val (.int .i64 (cg C k).1), .val (.int .i64 (cg C k).2.1), .val (.bool (cg C k).2.2)] :: cap) (.val (.bool (pr ((cg C k).1, (cg C k).2.1, (cg C k).2.2))))) :
    PCall Try.prog 148 [rc C, .clos (.func f) [] cap] (.val (.bool (C.any pr))) := by
  refine FCall.pcall (R := fun r _ => r = .val (.bool (C.any pr))) ?_ 0 (by rintro r H rfl; exact view_bool)
  refine FCall.of_body Try.func148 rfl (by kernel_rfl) (by simp [Try.ntmps148]) ?_
  refine SW_of_vc Try.mixed _ _ _ (by kernel_rfl) ?_
  simp (disch := omega) only [Try.ntmps148, Try.results148, go_sem, rc]
  refine (Try.indexFuncM_ok f cap C pr hC hcap hf).callV 1 (viewL_cons_of view_row (viewL_cons_of (view_clos (hcap _ _)) viewL_nil_of)) ?_
  have hg := fidx_ge pr C
  cases h : C.any pr with
  | true =>
    have := hg.mpr h
    simp (disch := omega) only [Try.ntmps148, Try.results148, go_sem, rc]
    exact Fin.val rfl
  | false =>
    have : ¬ 0 ≤ fidx pr C := fun e => by rw [hg.mp e] at h; cases h
    simp (disch := omega) only [Try.ntmps148, Try.results148, go_sem, rc]
    exact Fin.val rfl

theorem Try.indexFunc_ok (f : FuncId) (cap : List SV) (C : List Con) (pr : Con → Bool) (hC : C.length ≤ 1048576) (hcap : ∀ H fu, viewL H fu cap = some cap)
    (hf : ∀ a b s, PCall Try.prog f (.agg [.val (.int .i64 a), .val (.int .i64 b), .val (.bool s)] :: cap) (.val (.bool (pr (a, b, s))))) :
    PCall Try.prog 162 [rc C, .clos (.func f) [] cap] (.val (.int .i64 (fidx pr C))) := Try.indexFuncM_ok f cap C pr hC hcap fun _ _ => hf _ _ _
theorem Try.containsFunc_ok (f : FuncId) (cap : List SV) (C : List Con) (pr : Con → Bool) (hC : C.length ≤ 1048576) (hcap : ∀ H fu, viewL H fu cap = some cap)
    (hf : ∀ a b s, PCall Try.prog f (.agg [.val (.int .i64 a), .val (.int .i64 b), .val (.bool s)] :: cap) (.val (.bool (pr (a, b, s))))) :
    PCall Try.prog 148 [rc C, .clos (.func f) [] cap] (.val (.bool (C.any pr))) := Try.containsFuncM_ok f cap C pr hC hcap fun _ _ => hf _ _ _

def goodCon (n : Int) (c : Con) : Bool := inR c.1 0 (n - 1) && (inR c.2.1 0 (n - 1) && decide (c.1 < c.2.1))
def areCons (n : Int) (C : List Con) : Bool := inR n 1 8 && (decide (C.length ≤ 10) && C.all (goodCon n))

theorem Try.areConsFn_ok (n a b : Int) (s : Bool) (h1 : -9223372036854775807 ≤ n) (h2 : n ≤ 9223372036854775807) :
    PCall Try.prog 170 [.agg [.val (.int .i64 a), .val (.int .i64 b), .val (.bool s)], .rptr [.val (.int .i64 n)] 0] (.val (.bool (!goodCon n (a, b, s)))) := by
  refine FCall.pcall (R := fun r _ => r = .val (.bool (!goodCon n (a, b, s)))) ?_ 0 (by rintro r H rfl; exact view_bool)
  refine FCall.of_body Try.func170 rfl (by kernel_rfl) (by simp [Try.ntmps170]) ?_
  refine SW_of_vc Try.mixed _ _ _ (by kernel_rfl) ?_
  simp (disch := omega) only [Try.ntmps170, Try.results170, go_sem]
  refine (Try.isItem_ok a n h1 h2).callV 0 (viewL_cons_of (view_int) (viewL_cons_of (view_int) viewL_nil_of)) ?_
  cases ha : inR a 0 (n - 1) with
  | false =>
    simp (disch := omega) only [Try.ntmps170, Try.results170, go_sem]
    exact Fin.val (by simp [goodCon, ha])
  | true =>
    simp (disch := omega) only [Try.ntmps170, Try.results170, go_sem]
    refine (Try.isItem_ok b n h1 h2).callV 0 (viewL_cons_of (view_int) (viewL_cons_of (view_int) viewL_nil_of)) ?_
    cases hb : inR b 0 (n - 1) with
    | false =>
      simp (disch := omega) only [Try.ntmps170, Try.results170, go_sem]
      exact Fin.val (by simp [goodCon, hb])
    | true =>
      by_cases hab : a < b
      · simp (disch := omega) only [Try.ntmps170, Try.results170, go_sem]
        exact Fin.val (by simp [goodCon, ha, hb, hab])
      · simp (disch := omega) only [Try.ntmps170, Try.results170, go_sem]
        exact Fin.val (by simp [goodCon, hab])

theorem cap_rptr (cs : List SV) (off : Nat) : ∀ H fu, viewL H fu [.rptr cs off] = some [.rptr cs off] := fun _ _ => viewL_cons_of view_rptr viewL_nil_of

theorem not_any_not {C : List Con} {p : Con → Bool} : (!C.any fun c => !p c) = C.all p := by
  induction C with
  | nil => rfl
  | cons c C ih => simp only [List.any_cons, List.all_cons, ← ih]; cases p c <;> simp

set_option maxHeartbeats 1000000 in
theorem Try.implAreConstraints_ok (n : Int) (C : List Con) (hC : C.length ≤ 1048576) : PCall Try.prog 163 [.val (.int .i64 n), rc C] (.val (.bool (areCons n C))) := by
  refine FCall.pcall (R := fun r _ => r = .val (.bool (areCons n C))) ?_ 0 (by rintro r H rfl; exact view_bool)
  refine FCall.of_body Try.func163 rfl (by kernel_rfl) (by simp [Try.ntmps163]) ?_
  refine SW_of_vc Try.mixed _ _ _ (by kernel_rfl) ?_
  simp (disch := omega) only [Try.ntmps163, Try.results163, go_sem, rc]
  refine (Try.within_ok _ _ _).callV 0 (viewL_cons_of (view_int) (viewL_cons_of (view_int) (viewL_cons_of (view_int) viewL_nil_of))) ?_
  cases hin : inR n 1 8 with
  | false =>
    simp (disch := omega) only [Try.ntmps163, Try.results163, go_sem, rc]
    exact Fin.val (by simp [areCons, hin])
  | true =>
    obtain ⟨n1, n2⟩ := inR_of hin
    by_cases hl : C.length ≤ 10
    · simp (disch := omega) only [Try.ntmps163, Try.results163, go_sem, rc]
      refine (Try.containsFunc_ok 170 [.rptr [.val (.int .i64 n)] 0] C (fun c => !goodCon n c) hC (cap_rptr _ _) (fun a b s => Try.areConsFn_ok n a b s (by omega) (by omega))).callV 2
        (viewL_cons_of view_row (viewL_cons_of (view_clos (viewL_cons_of (view_optr rfl (viewL_cons_of view_int viewL_nil_of)) viewL_nil_of)) viewL_nil_of)) ?_
      simp (disch := omega) only [Try.ntmps163, Try.results163, go_sem, rc]
      exact Fin.val (by rw [not_any_not]; simp [areCons, hin, hl])
    · simp (disch := omega) only [Try.ntmps163, Try.results163, go_sem, rc]
      exact Fin.val (by simp [areCons, hl])

set_option maxHeartbeats 2000000 in
theorem Try.specAreConstraints_ok (n : Int) (C : List Con) (hC : C.length ≤ 1048576) (g1 : -9223372036854775808 ≤ n) (g2 : n ≤ 9223372036854775807) : PCall Try.prog 133 [.val (.int .i64 n), rc C] (.val (.bool (areCons n C))) := by
  refine FCall.pcall (R := fun r _ => r = .val (.bool (areCons n C))) ?_ 0 (by rintro r H rfl; exact view_bool)
  refine FCall.of_body Try.func133 rfl (by kernel_rfl) (by simp [Try.ntmps133]) ?_
  refine SW_of_vc Try.mixed _ _ _ (by kernel_rfl) ?_
  have lC := cons_length C
  simp (disch := omega) only [Try.ntmps133, Try.results133, go_sem, rc]
  have hgood : ∀ k, k < C.length → goodCon n (cg C k) = false → areCons n C = false := by
    intro k hk hg
    have : C.all (goodCon n) = false := by
      rw [List.all_eq_false]
      exact ⟨C[k], List.getElem_mem hk, by simpa [cg, hk] using hg⟩
    simp [areCons, this]
  refine LoopW.loop (fun k : Nat => ⟨ofL [(0, .val (.int .i64 n)), (1, rc C), (5, .val (.int .i64 k))], hp [] 0⟩) (fun k => k ≤ C.length ∧ (inR n 1 8 = true → ∀ i, i < k → goodCon n (cg C i) = true)) (fun k => C.length - k) 0 ⟨by omega, by simp⟩ (Wk.of (by simp only [go_sem, ↓List.forall_mem_cons, List.not_mem_nil, false_implies, implies_true, and_true, true_and, and_self, ri_eq, Int.natCast_add, Int.cast_ofNat_Int, rc]; try simp) rfl) ?_
  rintro k ⟨hk, hkk⟩
  refine SW_of_vc Try.mixed _ _ _ (by kernel_rfl) ?_
  by_cases hlt : k < C.length
  · obtain ⟨a, b, t, hc⟩ := con_ex C k
    obtain ⟨q0, q1, _, _⟩ := cons_of hlt hc
    by_cases hn : n = -9223372036854775808
    · have hin : inR n 1 8 = false := inR_f1 (by omega)
      have hr : areCons n C = false := by simp [areCons, hin]
      obtain ⟨z, hz⟩ : ∃ z, IntKind.i64.wrap (n - 1) = z := ⟨_, rfl⟩
      rcases Bool.eq_false_or_eq_true (inR a 0 z) with ha | ha
      · rcases Bool.eq_false_or_eq_true (inR b 0 z) with hb | hb
        · by_cases hab : a < b
          · simp (disch := omega) only [Try.ntmps133, Try.results133, go_sem, hz, rc, q0, q1]
            refine (Try.l1In_ok _ _ _).callDV 0 (viewL_cons_of (view_int) (viewL_cons_of (view_int) (viewL_cons_of (view_int) viewL_nil_of))) ?_
            simp (disch := omega) only [Try.ntmps133, Try.results133, go_sem, ha, hz, rc, q0, q1]
            refine (Try.l1In_ok _ _ _).callDV 0 (viewL_cons_of (view_int) (viewL_cons_of (view_int) (viewL_cons_of (view_int) viewL_nil_of))) ?_
            simp (disch := omega) only [Try.ntmps133, Try.results133, go_sem, hb, ha, hz, rc, q0, q1]
            exact ⟨k + 1, ⟨by omega, fun h => by rw [hin] at h; cases h⟩, by omega, Wk.of (by simp only [go_sem, ↓List.forall_mem_cons, List.not_mem_nil, false_implies, implies_true, and_true, true_and, and_self, ri_eq, Int.natCast_add, Int.cast_ofNat_Int, rc]; try simp) rfl⟩
          · simp (disch := omega) only [Try.ntmps133, Try.results133, go_sem, hz, rc, q0, q1]
            refine (Try.l1In_ok _ _ _).callDV 0 (viewL_cons_of (view_int) (viewL_cons_of (view_int) (viewL_cons_of (view_int) viewL_nil_of))) ?_
            simp (disch := omega) only [Try.ntmps133, Try.results133, go_sem, ha, hz, rc, q0, q1]
            refine (Try.l1In_ok _ _ _).callDV 0 (viewL_cons_of (view_int) (viewL_cons_of (view_int) (viewL_cons_of (view_int) viewL_nil_of))) ?_
            simp (disch := omega) only [Try.ntmps133, Try.results133, go_sem, hb, ha, hz, rc, q0, q1]
            exact Fin.val (by rw [hr])
        · simp (disch := omega) only [Try.ntmps133, Try.results133, go_sem, hz, rc, q0, q1]
          refine (Try.l1In_ok _ _ _).callDV 0 (viewL_cons_of (view_int) (viewL_cons_of (view_int) (viewL_cons_of (view_int) viewL_nil_of))) ?_
          simp (disch := omega) only [Try.ntmps133, Try.results133, go_sem, ha, hz, rc, q0, q1]
          refine (Try.l1In_ok _ _ _).callDV 0 (viewL_cons_of (view_int) (viewL_cons_of (view_int) (viewL_cons_of (view_int) viewL_nil_of))) ?_
          simp (disch := omega) only [Try.ntmps133, Try.results133, go_sem, hb, ha, hz, rc, q0, q1]
          exact Fin.val (by rw [hr])
      · simp (disch := omega) only [Try.ntmps133, Try.results133, go_sem, hz, rc, q0, q1]
        refine (Try.l1In_ok _ _ _).callDV 0 (viewL_cons_of (view_int) (viewL_cons_of (view_int) (viewL_cons_of (view_int) viewL_nil_of))) ?_
        simp (disch := omega) only [Try.ntmps133, Try.results133, go_sem, ha, hz, rc, q0, q1]
        exact Fin.val (by rw [hr])
    · rcases Bool.eq_false_or_eq_true (inR a 0 (n - 1)) with ha | ha
      · rcases Bool.eq_false_or_eq_true (inR b 0 (n - 1)) with hb | hb
        · by_cases hab : a < b
          · simp (disch := omega) only [Try.ntmps133, Try.results133, go_sem, rc, q0, q1]
            refine (Try.l1In_ok _ _ _).callDV 0 (viewL_cons_of (view_int) (viewL_cons_of (view_int) (viewL_cons_of (view_int) viewL_nil_of))) ?_
            simp (disch := omega) only [Try.ntmps133, Try.results133, go_sem, ha, rc, q0, q1]
            refine (Try.l1In_ok _ _ _).callDV 0 (viewL_cons_of (view_int) (viewL_cons_of (view_int) (viewL_cons_of (view_int) viewL_nil_of))) ?_
            simp (disch := omega) only [Try.ntmps133, Try.results133, go_sem, hb, ha, rc, q0, q1]
            refine ⟨k + 1, ⟨by omega, fun h i hi => ?_⟩, by omega, Wk.of (by simp only [go_sem, ↓List.forall_mem_cons, List.not_mem_nil, false_implies, implies_true, and_true, true_and, and_self, ri_eq, Int.natCast_add, Int.cast_ofNat_Int, rc]; try simp) rfl⟩
            rcases Nat.lt_succ_iff_lt_or_eq.mp hi with h' | rfl
            · exact hkk h i h'
            · simp [hc, goodCon, ha, hb, hab]
          · simp (disch := omega) only [Try.ntmps133, Try.results133, go_sem, rc, q0, q1]
            refine (Try.l1In_ok _ _ _).callDV 0 (viewL_cons_of (view_int) (viewL_cons_of (view_int) (viewL_cons_of (view_int) viewL_nil_of))) ?_
            simp (disch := omega) only [Try.ntmps133, Try.results133, go_sem, ha, rc, q0, q1]
            refine (Try.l1In_ok _ _ _).callDV 0 (viewL_cons_of (view_int) (viewL_cons_of (view_int) (viewL_cons_of (view_int) viewL_nil_of))) ?_
            simp (disch := omega) only [Try.ntmps133, Try.results133, go_sem, hb, ha, rc, q0, q1]
            exact Fin.val (by rw [hgood k hlt (by simp [hc, goodCon, hab])])
        · simp (disch := omega) only [Try.ntmps133, Try.results133, go_sem, rc, q0, q1]
          refine (Try.l1In_ok _ _ _).callDV 0 (viewL_cons_of (view_int) (viewL_cons_of (view_int) (viewL_cons_of (view_int) viewL_nil_of))) ?_
          simp (disch := omega) only [Try.ntmps133, Try.results133, go_sem, ha, rc, q0, q1]
          refine (Try.l1In_ok _ _ _).callDV 0 (viewL_cons_of (view_int) (viewL_cons_of (view_int) (viewL_cons_of (view_int) viewL_nil_of))) ?_
          simp (disch := omega) only [Try.ntmps133, Try.results133, go_sem, hb, ha, rc, q0, q1]
          exact Fin.val (by rw [hgood k hlt (by simp [hc, goodCon, hb])])
      · simp (disch := omega) only [Try.ntmps133, Try.results133, go_sem, rc, q0, q1]
        refine (Try.l1In_ok _ _ _).callDV 0 (viewL_cons_of (view_int) (viewL_cons_of (view_int) (viewL_cons_of (view_int) viewL_nil_of))) ?_
        simp (disch := omega) only [Try.ntmps133, Try.results133, go_sem, ha, rc, q0, q1]
        exact Fin.val (by rw [hgood k hlt (by simp [hc, goodCon, ha])])
  · obtain rfl : k = C.length := by omega
    simp (disch := omega) only [Try.ntmps133, Try.results133, go_sem, rc]
    refine (Try.l1In_ok _ _ _).callV 0 (viewL_cons_of (view_int) (viewL_cons_of (view_int) (viewL_cons_of (view_int) viewL_nil_of))) ?_
    rcases Bool.eq_false_or_eq_true (inR n 1 8) with hin | hin
    · have hall : C.all (goodCon n) = true := by
        rw [List.all_eq_true]
        intro c hc
        obtain ⟨i, hi, e⟩ := List.getElem_of_mem hc
        have := hkk hin i hi
        simpa [cg, hi, e] using this
      by_cases hl : C.length ≤ 10
      · simp (disch := omega) only [Try.ntmps133, Try.results133, go_sem, hin, rc]
        exact Fin.val (by rw [areCons, hin, hall]; simp [hl])
      · simp (disch := omega) only [Try.ntmps133, Try.results133, go_sem, hin, rc]
        exact Fin.val (by rw [areCons, hin, hall]; simp [hl])
    · simp (disch := omega) only [Try.ntmps133, Try.results133, go_sem, hin, rc]
      exact Fin.val (by simp [areCons, hin])
end Go.Sh

/-
  Contracts: does a partition keep constraints? Of the reference and of the program.
-/
namespace Go.Sh
set_option linter.unusedSimpArgs false
set_option linter.unusedVariables false
open Go Go.Proofs

def kp (L : List Int) (c : Con) : Bool := inR c.1 0 ((L.length : Int) - 1) && (inR c.2.1 0 ((L.length : Int) - 1) && (decide (L.getD c.1.toNat 0 = L.getD c.2.1.toNat 0) == c.2.2))

set_option maxHeartbeats 1000000 in
theorem Try.keepsFn_ok (L : List Int) (a b : Int) (s : Bool) (hL : L.length ≤ 1048576) :
    PCall Try.prog 149 [.agg [.val (.int .i64 a), .val (.int .i64 b), .val (.bool s)], .rptr [ri L] 0] (.val (.bool (!kp L (a, b, s)))) := by
  refine FCall.pcall (R := fun r _ => r = .val (.bool (!kp L (a, b, s)))) ?_ 0 (by rintro r H rfl; exact view_bool)
  refine FCall.of_body Try.func149 rfl (by kernel_rfl) (by simp [Try.ntmps149]) ?_
  refine SW_of_vc Try.mixed _ _ _ (by kernel_rfl) ?_
  have w1 := Try.isItem_ok a (L.length : Int) (by omega) (by omega)
  have w2 := Try.isItem_ok b (L.length : Int) (by omega) (by omega)
  rcases Bool.eq_false_or_eq_true (inR a 0 ((L.length : Int) - 1)) with ha | ha
  · obtain ⟨a1, a2⟩ := inR_of ha
    rcases Bool.eq_false_or_eq_true (inR b 0 ((L.length : Int) - 1)) with hb | hb
    · obtain ⟨b1, b2⟩ := inR_of hb
      rw [ha] at w1
      rw [hb] at w2
      by_cases he : L.getD a.toNat 0 = L.getD b.toNat 0
      · cases s <;> (simp (disch := omega) only [Try.ntmps149, Try.results149, go_sem]; refine w1.callDV 0 (viewL_cons_of (view_int) (viewL_cons_of (view_int) viewL_nil_of)) ?_; simp (disch := omega) only [Try.ntmps149, Try.results149, go_sem]; refine w2.callDV 0 (viewL_cons_of (view_int) (viewL_cons_of (view_int) viewL_nil_of)) ?_; simp (disch := omega) only [Try.ntmps149, Try.results149, go_sem, he]; exact Fin.val (by rw [kp]; simp only [ha, hb, he]; simp))
      · cases s <;> (simp (disch := omega) only [Try.ntmps149, Try.results149, go_sem]; refine w1.callDV 0 (viewL_cons_of (view_int) (viewL_cons_of (view_int) viewL_nil_of)) ?_; simp (disch := omega) only [Try.ntmps149, Try.results149, go_sem]; refine w2.callDV 0 (viewL_cons_of (view_int) (viewL_cons_of (view_int) viewL_nil_of)) ?_; simp (disch := omega) only [Try.ntmps149, Try.results149, go_sem]; exact Fin.val (by rw [kp]; simp only [ha, hb, he]; simp))
    · rw [ha] at w1
      rw [hb] at w2
      simp (disch := omega) only [Try.ntmps149, Try.results149, go_sem]
      refine w1.callDV 0 (viewL_cons_of (view_int) (viewL_cons_of (view_int) viewL_nil_of)) ?_
      simp (disch := omega) only [Try.ntmps149, Try.results149, go_sem]
      refine w2.callDV 0 (viewL_cons_of (view_int) (viewL_cons_of (view_int) viewL_nil_of)) ?_
      simp (disch := omega) only [Try.ntmps149, Try.results149, go_sem]
      exact Fin.val (by simp [kp, hb])
  · rw [ha] at w1
    simp (disch := omega) only [Try.ntmps149, Try.results149, go_sem]
    refine w1.callDV 0 (viewL_cons_of (view_int) (viewL_cons_of (view_int) viewL_nil_of)) ?_
    simp (disch := omega) only [Try.ntmps149, Try.results149, go_sem]
    exact Fin.val (by simp [kp, ha])

theorem Try.keeps_ok (L : List Int) (C : List Con) (hL : L.length ≤ 1048576) (hC : C.length ≤ 1048576) : PCall Try.prog 129 [ri L, rc C] (.val (.bool (C.all (kp L)))) := by
  refine FCall.pcall (R := fun r _ => r = .val (.bool (C.all (kp L)))) ?_ 0 (by rintro r H rfl; exact view_bool)
  refine FCall.of_body Try.func129 rfl (by kernel_rfl) (by simp [Try.ntmps129]) ?_
  refine SW_of_vc Try.mixed _ _ _ (by kernel_rfl) ?_
  simp (disch := omega) only [Try.ntmps129, Try.results129, go_sem, rc]
  refine (Try.containsFunc_ok 149 [.rptr [ri L] 0] C (fun c => !kp L c) hC (cap_rptr _ _) (fun a b s => Try.keepsFn_ok L a b s hL)).callV 2
    (viewL_cons_of view_row (viewL_cons_of (view_clos (viewL_cons_of (view_optr rfl (viewL_cons_of (view_rowL rfl) viewL_nil_of)) viewL_nil_of)) viewL_nil_of)) ?_
  simp (disch := omega) only [Try.ntmps129, Try.results129, go_sem]
  exact Fin.val (by rw [not_any_not])

theorem Try.implKeepsConstraints_ok (L : List Int) (C : List Con) (hL : L.length ≤ 1048576) (hC : C.length ≤ 1048576) : PCall Try.prog 105 [ri L, rc C] (.val (.bool (isPart L && C.all (kp L)))) := by
  refine FCall.pcall (R := fun r _ => r = .val (.bool (isPart L && C.all (kp L)))) ?_ 0 (by rintro r H rfl; exact view_bool)
  refine FCall.of_body Try.func105 rfl (by kernel_rfl) (by simp [Try.ntmps105]) ?_
  refine SW_of_vc Try.mixed _ _ _ (by kernel_rfl) ?_
  have w1 := Try.implIsPartition_ok L hL
  rcases Bool.eq_false_or_eq_true (isPart L) with hp | hp
  · rw [hp] at w1
    simp (disch := omega) only [Try.ntmps105, Try.results105, go_sem, rc]
    refine w1.callV 0 (viewL_cons_of (view_rowL (by first | rfl | simp [marks_length, canon_length] | omega)) viewL_nil_of) ?_
    simp (disch := omega) only [Try.ntmps105, Try.results105, go_sem, rc]
    refine (Try.keeps_ok L C hL hC).callV 0 (viewL_cons_of (view_rowL (by first | rfl | simp [marks_length, canon_length] | omega)) (viewL_cons_of (view_row) viewL_nil_of)) ?_
    simp (disch := omega) only [Try.ntmps105, Try.results105, go_sem, rc]
    exact Fin.val (by simp [hp])
  · rw [hp] at w1
    simp (disch := omega) only [Try.ntmps105, Try.results105, go_sem, rc]
    refine w1.callV 0 (viewL_cons_of (view_rowL (by first | rfl | simp [marks_length, canon_length] | omega)) viewL_nil_of) ?_
    simp (disch := omega) only [Try.ntmps105, Try.results105, go_sem, rc]
    exact Fin.val (by simp [hp])

set_option maxHeartbeats 4000000 in
theorem Try.specKeepsConstraints_ok (L : List Int) (C : List Con) (hL : L.length ≤ 1048576) (hC : C.length ≤ 1048576) : PCall Try.prog 103 [ri L, rc C] (.val (.bool (isPart L && C.all (kp L)))) := by
  refine FCall.pcall (R := fun r _ => r = .val (.bool (isPart L && C.all (kp L)))) ?_ 0 (by rintro r H rfl; exact view_bool)
  refine FCall.of_body Try.func103 rfl (by kernel_rfl) (by simp [Try.ntmps103]) ?_
  refine SW_of_vc Try.mixed _ _ _ (by kernel_rfl) ?_
  have lC := cons_length C
  simp (disch := omega) only [Try.ntmps103, Try.results103, go_sem, rc]
  have hbad : ∀ k, k < C.length → kp L (cg C k) = false → (isPart L && C.all (kp L)) = false := by
    intro k hk hg
    have : C.all (kp L) = false := by
      rw [List.all_eq_false]
      exact ⟨C[k], List.getElem_mem hk, by simpa [cg, hk] using hg⟩
    simp [this]
  refine LoopW.loop (fun k : Nat => ⟨ofL [(0, ri L), (1, rc C), (5, .val (.int .i64 k))], hp [] 0⟩) (fun k => k ≤ C.length ∧ (∀ i, i < k → kp L (cg C i) = true)) (fun k => C.length - k) 0 ⟨by omega, by simp⟩ (Wk.of (by simp only [go_sem, ↓List.forall_mem_cons, List.not_mem_nil, false_implies, implies_true, and_true, true_and, and_self, ri_eq, Int.natCast_add, Int.cast_ofNat_Int, rc]; try simp) rfl) ?_
  rintro k ⟨hk, hkk⟩
  refine SW_of_vc Try.mixed _ _ _ (by kernel_rfl) ?_
  by_cases hlt : k < C.length
  · obtain ⟨a, b, s, hc⟩ := con_ex C k
    obtain ⟨q0, q1, q2, _⟩ := cons_of hlt hc
    have w1 := Try.l1In_ok a 0 ((L.length : Int) - 1)
    have w2 := Try.l1In_ok b 0 ((L.length : Int) - 1)
    have hb0 := hbad k hlt
    rw [hc] at hb0
    rcases Bool.eq_false_or_eq_true (inR a 0 ((L.length : Int) - 1)) with ha | ha
    · obtain ⟨a1, a2⟩ := inR_of ha
      rcases Bool.eq_false_or_eq_true (inR b 0 ((L.length : Int) - 1)) with hb | hb
      · obtain ⟨b1, b2⟩ := inR_of hb
        rw [ha] at w1
        rw [hb] at w2
        by_cases hs : (decide (L.getD a.toNat 0 = L.getD b.toNat 0) == s) = true
        · have hkp : kp L (a, b, s) = true := by rw [kp]; simp only [ha, hb, hs]; rfl
          have hnew : ∀ i, i < k + 1 → kp L (cg C i) = true := by
            intro i hi
            rcases Nat.lt_succ_iff_lt_or_eq.mp hi with h' | rfl
            · exact hkk i h'
            · rw [hc]; exact hkp
          by_cases he : L.getD a.toNat 0 = L.getD b.toNat 0
          · obtain rfl : s = true := by
              rw [decide_eq_true he] at hs
              cases s with
              | false => cases hs
              | true => rfl
            simp (disch := omega) only [Try.ntmps103, Try.results103, go_sem, rc, q0, q1, q2]
            refine w1.callDV 0 (viewL_cons_of (view_int) (viewL_cons_of (view_int) (viewL_cons_of (view_int) viewL_nil_of))) ?_
            simp (disch := omega) only [Try.ntmps103, Try.results103, go_sem, rc, q0, q1, q2]
            refine w2.callDV 0 (viewL_cons_of (view_int) (viewL_cons_of (view_int) (viewL_cons_of (view_int) viewL_nil_of))) ?_
            simp (disch := omega) only [Try.ntmps103, Try.results103, go_sem, rc, q0, q1, q2, he]
            exact ⟨k + 1, ⟨by omega, hnew⟩, by omega, Wk.of (by simp only [go_sem, ↓List.forall_mem_cons, List.not_mem_nil, false_implies, implies_true, and_true, true_and, and_self, ri_eq, Int.natCast_add, Int.cast_ofNat_Int, rc]; try simp) rfl⟩
          · obtain rfl : s = false := by
              rw [decide_eq_false he] at hs
              cases s with
              | false => rfl
              | true => cases hs
            simp (disch := omega) only [Try.ntmps103, Try.results103, go_sem, rc, q0, q1, q2]
            refine w1.callDV 0 (viewL_cons_of (view_int) (viewL_cons_of (view_int) (viewL_cons_of (view_int) viewL_nil_of))) ?_
            simp (disch := omega) only [Try.ntmps103, Try.results103, go_sem, rc, q0, q1, q2]
            refine w2.callDV 0 (viewL_cons_of (view_int) (viewL_cons_of (view_int) (viewL_cons_of (view_int) viewL_nil_of))) ?_
            simp (disch := omega) only [Try.ntmps103, Try.results103, go_sem, rc, q0, q1, q2]
            exact ⟨k + 1, ⟨by omega, hnew⟩, by omega, Wk.of (by simp only [go_sem, ↓List.forall_mem_cons, List.not_mem_nil, false_implies, implies_true, and_true, true_and, and_self, ri_eq, Int.natCast_add, Int.cast_ofNat_Int, rc]; try simp) rfl⟩
        · have hs : (decide (L.getD a.toNat 0 = L.getD b.toNat 0) == s) = false := by simpa using hs
          have hkp : kp L (a, b, s) = false := by rw [kp]; simp only [hs, Bool.and_false]
          by_cases he : L.getD a.toNat 0 = L.getD b.toNat 0
          · obtain rfl : s = false := by
              rw [decide_eq_true he] at hs
              cases s with
              | false => rfl
              | true => cases hs
            simp (disch := omega) only [Try.ntmps103, Try.results103, go_sem, rc, q0, q1, q2]
            refine w1.callDV 0 (viewL_cons_of (view_int) (viewL_cons_of (view_int) (viewL_cons_of (view_int) viewL_nil_of))) ?_
            simp (disch := omega) only [Try.ntmps103, Try.results103, go_sem, rc, q0, q1, q2]
            refine w2.callDV 0 (viewL_cons_of (view_int) (viewL_cons_of (view_int) (viewL_cons_of (view_int) viewL_nil_of))) ?_
            simp (disch := omega) only [Try.ntmps103, Try.results103, go_sem, rc, q0, q1, q2, he]
            exact Fin.val (by rw [hb0 hkp])
          · obtain rfl : s = true := by
              rw [decide_eq_false he] at hs
              cases s with
              | false => cases hs
              | true => rfl
            simp (disch := omega) only [Try.ntmps103, Try.results103, go_sem, rc, q0, q1, q2]
            refine w1.callDV 0 (viewL_cons_of (view_int) (viewL_cons_of (view_int) (viewL_cons_of (view_int) viewL_nil_of))) ?_
            simp (disch := omega) only [Try.ntmps103, Try.results103, go_sem, rc, q0, q1, q2]
            refine w2.callDV 0 (viewL_cons_of (view_int) (viewL_cons_of (view_int) (viewL_cons_of (view_int) viewL_nil_of))) ?_
            simp (disch := omega) only [Try.ntmps103, Try.results103, go_sem, rc, q0, q1, q2]
            exact Fin.val (by rw [hb0 hkp])
      · have hkp : kp L (a, b, s) = false := by rw [kp]; simp only [hb, Bool.false_and, Bool.and_false]
        rw [ha] at w1
        rw [hb] at w2
        simp (disch := omega) only [Try.ntmps103, Try.results103, go_sem, rc, q0, q1, q2]
        refine w1.callDV 0 (viewL_cons_of (view_int) (viewL_cons_of (view_int) (viewL_cons_of (view_int) viewL_nil_of))) ?_
        simp (disch := omega) only [Try.ntmps103, Try.results103, go_sem, rc, q0, q1, q2]
        refine w2.callDV 0 (viewL_cons_of (view_int) (viewL_cons_of (view_int) (viewL_cons_of (view_int) viewL_nil_of))) ?_
        simp (disch := omega) only [Try.ntmps103, Try.results103, go_sem, rc]
        exact Fin.val (by rw [hb0 hkp])
    · have hkp : kp L (a, b, s) = false := by rw [kp]; simp only [ha, Bool.false_and]
      rw [ha] at w1
      simp (disch := omega) only [Try.ntmps103, Try.results103, go_sem, rc, q0, q1, q2]
      refine w1.callDV 0 (viewL_cons_of (view_int) (viewL_cons_of (view_int) (viewL_cons_of (view_int) viewL_nil_of))) ?_
      simp (disch := omega) only [Try.ntmps103, Try.results103, go_sem, rc]
      exact Fin.val (by rw [hb0 hkp])
  · obtain rfl : k = C.length := by omega
    simp (disch := omega) only [Try.ntmps103, Try.results103, go_sem, rc]
    refine (Try.specIsPartition_ok L hL).callV 0 (viewL_cons_of (view_rowL (by first | rfl | simp [marks_length, canon_length] | omega)) viewL_nil_of) ?_
    simp (disch := omega) only [Try.ntmps103, Try.results103, go_sem, rc]
    have hall : C.all (kp L) = true := by
      rw [List.all_eq_true]
      intro c hc
      obtain ⟨i, hi, e⟩ := List.getElem_of_mem hc
      have := hkk i hi
      simpa [cg, hi, e] using this
    exact Fin.val (by rw [hall]; simp)
end Go.Sh

/-
  The search for the best partition: plain. The program looks at every partition, the reference leaves out what cannot be the best.
-/
namespace Go.Sh
set_option linter.unusedSimpArgs false
set_option linter.unusedVariables false
open Go Go.Proofs

structure BS where
  first : List Int
  least : Int
  count : Nat
def updB (M : List (List Int)) (C : List Con) (s : BS) (p : List Int) : BS :=
  if C.all (kp p) = true then
    (if s.least < 0 ∨ cc M p p.length < s.least then ⟨p, cc M p p.length, 1⟩
     else if cc M p p.length = s.least then ⟨s.first, s.least, s.count + 1⟩ else s)
  else s
def each (f : BS → List Int → BS) : Nat → List Int → Nat → BS → BS
  | 0, p, _, s => f s p
  | k + 1, p, nx, s => (List.range (nx + 1)).foldl (fun s (x : Nat) => each f k (p ++ [(x : Int)]) (max nx (x + 1)) s) s
def badK (C : List Con) (p : List Int) : Bool := C.any fun c => decide (c.2.1 = (p.length : Int) - 1) && (decide (p.getD c.1.toNat 0 = p.getD (p.length - 1) 0) != c.2.2)
def wadd (M : List (List Int)) (l : List Int) (k : Int) : Nat → Int
  | 0 => 0
  | t + 1 => wadd M l k t + (if l.getD t 0 = k then max 0 (-mat M t l.length) else max 0 (mat M t l.length))
def walkEnd (p : List Int) (cost : Int) (s : BS) : BS := if s.least < 0 ∨ cost < s.least then ⟨p, cost, 1⟩ else ⟨s.first, s.least, s.count + 1⟩
def walkB (M : List (List Int)) (C : List Con) : Nat → List Int → Nat → Int → BS → BS
  | 0, p, _, cost, s => if 0 ≤ s.least ∧ s.least < cost then s else walkEnd p cost s
  | k + 1, p, nx, cost, s => if 0 ≤ s.least ∧ s.least < cost then s else
      (List.range (nx + 1)).foldl (fun s (x : Nat) => if badK C (p ++ [(x : Int)]) = true then s else walkB M C k (p ++ [(x : Int)]) (max nx (x + 1)) (cost + wadd M p x p.length) s) s

theorem foldl_fix {α β : Type} {g : α → β → α} {s : α} : ∀ (l : List β), (∀ x ∈ l, g s x = s) → l.foldl g s = s
  | [], _ => rfl
  | x :: l, h => by rw [List.foldl_cons, h x (by simp)]; exact foldl_fix l fun y hy => h y (by simp [hy])
theorem foldl_same {α β : Type} {g h : α → β → α} : ∀ (l : List β) (s : α), (∀ s x, x ∈ l → g s x = h s x) → l.foldl g s = l.foldl h s
  | [], _, _ => rfl
  | x :: l, s, e => by rw [List.foldl_cons, List.foldl_cons, e s x (by simp)]; exact foldl_same l _ fun s y hy => e s y (by simp [hy])
theorem snoc_lt {p : List Int} {x : Int} {i : Nat} (h : i < p.length) : (p ++ [x]).getD i 0 = p.getD i 0 := by
  simp [List.getD_eq_getElem?_getD, List.getElem?_append_left h]
theorem snoc_at {p : List Int} {x : Int} : (p ++ [x]).getD p.length 0 = x := by simp
theorem ct_snoc {M : List (List Int)} {p : List Int} {x : Int} {i k : Nat} (hi : i < p.length) (hk : k < p.length) : ct M (p ++ [x]) i k = ct M p i k := by
  rw [ct, ct, snoc_lt hi, snoc_lt hk]
theorem cr_snoc {M : List (List Int)} {p : List Int} {x : Int} {i : Nat} (hi : i < p.length) : ∀ k, k ≤ p.length → cr M (p ++ [x]) i k = cr M p i k
  | 0, _ => rfl
  | k + 1, hk => by rw [cr, cr, cr_snoc hi k (by omega), ct_snoc hi (by omega)]
theorem cc_snoc0 {M : List (List Int)} {p : List Int} {x : Int} : ∀ i, i ≤ p.length → cc M (p ++ [x]) i = cc M p i
  | 0, _ => rfl
  | i + 1, hi => by rw [cc, cc, cc_snoc0 i (by omega), cr_snoc (by omega) i (by omega)]
theorem cr_wadd {M : List (List Int)} (hw : WM M) {p : List Int} {x : Int} (hp : p.length < M.length) : ∀ t, t ≤ p.length → cr M (p ++ [x]) p.length t = wadd M p x t
  | 0, _ => rfl
  | t + 1, ht => by
    rw [cr, wadd, cr_wadd hw hp t (by omega), ct, snoc_at, snoc_lt (by omega)]
    have e := (hw.2.2.1 t p.length (by omega) hp).2
    rw [e]
    by_cases h : p.getD t 0 = x
    · rw [if_pos h, if_pos h.symm]
    · rw [if_neg h, if_neg (Ne.symm h)]
theorem cc_snoc {M : List (List Int)} (hw : WM M) {p : List Int} {x : Int} (hp : p.length < M.length) : cc M (p ++ [x]) (p ++ [x]).length = cc M p p.length + wadd M p x p.length := by
  rw [List.length_append, List.length_singleton, cc, cc_snoc0 _ (Nat.le_refl _), cr_wadd hw hp _ (Nat.le_refl _)]
theorem wadd_b {M : List (List Int)} (hw : WM M) {p : List Int} {x : Int} (hp : p.length < M.length) {t : Nat} (ht : t ≤ p.length) : 0 ≤ wadd M p x t ∧ wadd M p x t ≤ 1000 * t := by
  rw [← cr_wadd hw hp t ht]
  exact cr_b hw hp t (by omega)
theorem each_cut {M : List (List Int)} {C : List Con} (hw : WM M) {s : BS} (h0 : 0 ≤ s.least) : ∀ (k : Nat) (p : List Int) (nx : Nat), p.length + k = M.length → s.least < cc M p p.length → each (updB M C) k p nx s = s
  | 0, p, nx, hl, hc => by
    rw [each, updB]
    have h1 : ¬ (s.least < 0 ∨ cc M p p.length < s.least) := by omega
    have h2 : ¬ cc M p p.length = s.least := by omega
    rw [if_neg h1, if_neg h2]
    simp
  | k + 1, p, nx, hl, hc => by
    rw [each]
    refine foldl_fix _ fun x _ => each_cut hw h0 k _ _ (by simp; omega) ?_
    have := wadd_b hw (p := p) (x := x) (by omega) (Nat.le_refl _)
    rw [cc_snoc hw (by omega)]; omega
def Viol (C : List Con) (p : List Int) : Prop := ∃ c ∈ C, 0 ≤ c.1 ∧ c.1 < c.2.1 ∧ c.2.1 < (p.length : Int) ∧ decide (p.getD c.1.toNat 0 = p.getD c.2.1.toNat 0) ≠ c.2.2
theorem Viol.snoc {C : List Con} {p : List Int} {x : Int} (h : Viol C p) : Viol C (p ++ [x]) := by
  obtain ⟨c, hc, h1, h2, h3, h4⟩ := h
  refine ⟨c, hc, h1, h2, by simp; omega, ?_⟩
  rw [snoc_lt (by omega), snoc_lt (by omega)]
  exact h4
theorem Viol.all {C : List Con} {p : List Int} (h : Viol C p) : C.all (kp p) = false := by
  obtain ⟨c, hc, h1, h2, h3, h4⟩ := h
  rw [List.all_eq_false]
  refine ⟨c, hc, fun g => h4 ?_⟩
  rw [kp] at g
  simp only [Bool.and_eq_true] at g
  exact eq_of_beq g.2.2
theorem each_viol {M : List (List Int)} {C : List Con} {s : BS} : ∀ (k : Nat) (p : List Int) (nx : Nat), Viol C p → each (updB M C) k p nx s = s
  | 0, p, nx, h => by rw [each, updB, if_neg (by rw [h.all]; simp)]
  | k + 1, p, nx, h => by
    rw [each]
    exact foldl_fix _ fun x _ => each_viol k _ _ h.snoc
theorem bad_viol {n : Nat} {C : List Con} (hC : C.all (goodCon n) = true) {p : List Int} (h : badK C p = true) : Viol C p := by
  rw [badK, List.any_eq_true] at h
  obtain ⟨c, hc, h⟩ := h
  simp only [Bool.and_eq_true, decide_eq_true_eq, bne_iff_ne] at h
  have g := List.all_eq_true.1 hC c hc
  simp only [goodCon, Bool.and_eq_true, decide_eq_true_eq] at g
  obtain ⟨a1, a2⟩ := inR_of g.1
  refine ⟨c, hc, a1, g.2.2, by omega, ?_⟩
  have e : c.2.1.toNat = p.length - 1 := by omega
  rw [e]
  exact h.2
def Kept (C : List Con) (p : List Int) : Prop := ∀ c ∈ C, c.2.1 < (p.length : Int) → decide (p.getD c.1.toNat 0 = p.getD c.2.1.toNat 0) = c.2.2
theorem Kept.snoc {n : Nat} {C : List Con} (hC : C.all (goodCon n) = true) {p : List Int} {x : Int} (h : Kept C p) (hb : badK C (p ++ [x]) = false) : Kept C (p ++ [x]) := by
  intro c hc hlt
  have g := List.all_eq_true.1 hC c hc
  simp only [goodCon, Bool.and_eq_true, decide_eq_true_eq] at g
  obtain ⟨a1, a2⟩ := inR_of g.1
  obtain ⟨b1, b2⟩ := inR_of g.2.1
  have hs := g.2.2
  by_cases hl : c.2.1 < (p.length : Int)
  · rw [snoc_lt (by omega), snoc_lt (by omega)]
    exact h c hc hl
  · rw [badK, List.any_eq_false] at hb
    have hb := hb c hc
    have e1 : c.2.1 = ((p ++ [x]).length : Int) - 1 := by simp at hlt ⊢; omega
    have e2 : c.2.1.toNat = (p ++ [x]).length - 1 := by omega
    rw [e2]
    simpa [e1] using hb
theorem Kept.all {n : Nat} {C : List Con} (hC : C.all (goodCon n) = true) {p : List Int} (hn : p.length = n) (h : Kept C p) : C.all (kp p) = true := by
  rw [List.all_eq_true]
  intro c hc
  have g := List.all_eq_true.1 hC c hc
  simp only [goodCon, Bool.and_eq_true, decide_eq_true_eq] at g
  obtain ⟨b1, b2⟩ := inR_of g.2.1
  rw [kp, hn, g.1, g.2.1, h c hc (by omega)]
  simp
theorem walk_each {M : List (List Int)} {C : List Con} (hw : WM M) (hC : C.all (goodCon M.length) = true) : ∀ (k : Nat) (p : List Int) (nx : Nat) (s : BS), p.length + k = M.length → Kept C p →
    walkB M C k p nx (cc M p p.length) s = each (updB M C) k p nx s
  | 0, p, nx, s, hl, hk => by
    rw [walkB]
    by_cases h : 0 ≤ s.least ∧ s.least < cc M p p.length
    · rw [if_pos h, each_cut hw h.1 0 p nx hl h.2]
    · rw [if_neg h, each, updB, if_pos (hk.all hC (by omega)), walkEnd]
      by_cases g : s.least < 0 ∨ cc M p p.length < s.least
      · rw [if_pos g, if_pos g]
      · rw [if_neg g, if_neg g, if_pos (by omega)]
  | k + 1, p, nx, s, hl, hk => by
    rw [walkB]
    by_cases h : 0 ≤ s.least ∧ s.least < cc M p p.length
    · rw [if_pos h, each_cut hw h.1 (k + 1) p nx hl h.2]
    · rw [if_neg h, each]
      refine foldl_same _ _ fun s x _ => ?_
      rcases Bool.eq_false_or_eq_true (badK C (p ++ [(x : Int)])) with b | b
      · rw [if_pos b, each_viol k _ _ (bad_viol hC b)]
      · rw [if_neg (by rw [b]; simp), ← cc_snoc hw (by omega)]
        exact walk_each hw hC k _ _ s (by simp; omega) (hk.snoc hC b)
theorem foldl_count {g : BS → Nat → BS} {B : Nat} : ∀ (m : Nat) (s : BS), (∀ s x, x < m → (g s x).count ≤ s.count + B) → ((List.range m).foldl g s).count ≤ s.count + m * B
  | 0, s, _ => by simp
  | m + 1, s, h => by
    rw [List.range_succ, List.foldl_append]
    have h1 := foldl_count m s fun s x hx => h s x (by omega)
    have h2 := h ((List.range m).foldl g s) m (by omega)
    simp only [List.foldl_cons, List.foldl_nil]
    rw [Nat.succ_mul]; omega
theorem upd_count {M : List (List Int)} {C : List Con} {s : BS} {p : List Int} : (updB M C s p).count ≤ s.count + 1 := by
  unfold updB
  split
  · split
    · show 1 ≤ _; omega
    · split
      · exact Nat.le_refl _
      · omega
  · omega
theorem mul9 {a b B : Nat} (h : a ≤ b) : a * B ≤ b * B := Nat.mul_le_mul_right B h
theorem each_count {M : List (List Int)} {C : List Con} : ∀ (k : Nat) (p : List Int) (nx : Nat) (s : BS), nx + k ≤ 8 → (each (updB M C) k p nx s).count ≤ s.count + 9 ^ k
  | 0, p, nx, s, _ => upd_count
  | k + 1, p, nx, s, h => by
    rw [each]
    have h1 := foldl_count (g := fun s (x : Nat) => each (updB M C) k (p ++ [(x : Int)]) (max nx (x + 1)) s) (B := 9 ^ k) (nx + 1) s fun s x hx => each_count k _ _ s (by omega)
    have h2 : (nx + 1) * 9 ^ k ≤ 9 * 9 ^ k := mul9 (by omega)
    rw [Nat.pow_succ]; omega
theorem walk_count {M : List (List Int)} {C : List Con} : ∀ (k : Nat) (p : List Int) (nx : Nat) (cost : Int) (s : BS), nx + k ≤ 8 → (walkB M C k p nx cost s).count ≤ s.count + 9 ^ k
  | 0, p, nx, cost, s, _ => by
    rw [walkB]
    split
    · exact Nat.le_add_right _ _
    · unfold walkEnd
      split
      · show 1 ≤ _; omega
      · exact Nat.le_refl _
  | k + 1, p, nx, cost, s, h => by
    rw [walkB]
    split
    · exact Nat.le_add_right _ _
    · have h1 := foldl_count (g := fun s (x : Nat) => if badK C (p ++ [(x : Int)]) = true then s else walkB M C k (p ++ [(x : Int)]) (max nx (x + 1)) (cost + wadd M p x p.length) s) (B := 9 ^ k) (nx + 1) s fun s x hx => by
        show (if badK C (p ++ [(x : Int)]) = true then s else walkB M C k (p ++ [(x : Int)]) (max nx (x + 1)) (cost + wadd M p x p.length) s).count ≤ _
        split
        · exact Nat.le_add_right _ _
        · exact walk_count k _ _ _ s (by omega)
      have h2 : (nx + 1) * 9 ^ k ≤ 9 * 9 ^ k := mul9 (by omega)
      rw [Nat.pow_succ]; omega
end Go.Sh

/-
  Contracts: links, labels by rounds, the components of a graph of positive weights. Of the reference.
-/
namespace Go.Sh
set_option linter.unusedSimpArgs false
set_option linter.unusedVariables false
open Go Go.Proofs

def nrF (n : Nat) (l : List Nat) : List (Nat × List SV) := l.map fun x => (x, bools (List.replicate n false))
def bz (n : Nat) : List (List Bool) := List.replicate n (List.replicate n false)
theorem bz_length (n : Nat) : (bz n).length = n := by simp [bz]
theorem bz_row {n i : Nat} (h : i < n) : brow (bz n) i = List.replicate n false := by simp [bz, brow, h]
theorem bz_at {n i k : Nat} : bmat (bz n) i k = false := by
  simp only [bz, bmat, brow, List.getD_eq_getElem?_getD, List.getElem?_replicate]
  by_cases h : i < n
  · by_cases h2 : k < n <;> simp [h, h2]
  · simp [h]
theorem nrF_length (n : Nat) (l : List Nat) : (nrF n l).length = l.length := by simp [nrF]
theorem nrF_snd (n : Nat) : ∀ l : List Nat, (nrF n l).map (·.2) = List.replicate l.length (bools (List.replicate n false))
  | [] => rfl
  | x :: l => by
    have := nrF_snd n l
    simp only [nrF, List.map_cons, List.length_cons, List.replicate_succ] at this ⊢
    rw [this]
theorem nrF_snoc (n : Nat) (l : List Nat) (x : Nat) : nrF n (l ++ [x]) = nrF n l ++ [(x, bools (List.replicate n false))] := by simp [nrF]

set_option maxHeartbeats 1000000 in
theorem Try.l17Links_f (n : Nat) (hn : n ≤ 1048576) : FCall Try.prog 166 [.val (.int .i64 n)] (MatRes (mb (bz n))) := by
  refine FCall.of_body Try.func166 rfl (by kernel_rfl) (by simp [Try.ntmps166]) ?_
  refine SW_of_vc Try.mixed _ _ _ (by kernel_rfl) ?_
  simp (disch := omega) only [Try.ntmps166, Try.results166, go_sem]
  refine LoopW.loop (fun p : List Nat × Nat × Nat => ⟨ofL [(0, .val (.int .i64 n)), (3, .own p.2.1 0 p.1.length p.1.length 1 false), (4, .val (.int .i64 p.1.length))], hx [.blk p.2.1 ⟨outerN true (nrF n p.1), false⟩, .rows true (nrF n p.1)] p.2.2⟩)
    (fun p => p.1.length ≤ n ∧ NrOk p.2.1 p.2.2 (nrF n p.1)) (fun p => n - p.1.length) ([], 0, 1) ⟨by simp, .nil (by simp)⟩ (Wk.ofX (by simp only [go_sem, ↓List.forall_mem_cons, List.not_mem_nil, false_implies, implies_true, and_true, true_and, and_self, ri_eq, Int.natCast_add, Int.cast_ofNat_Int]; try simp) (by simp [EntIn, nrF, outerN, hp, hmap]) (by simp [hp])) ?_
  rintro ⟨l, ob, nb⟩ ⟨hk, ho⟩
  simp only at hk ho
  have hob := ho.1
  refine SW_of_vc Try.mixed _ _ _ (by kernel_rfl) ?_
  have hl1 := outerN_length true (nrF n l)
  have hl2 := nrF_length n l
  have hl3 : (outerN true (nrF n l)).take l.length = outerN true (nrF n l) := List.take_of_length_le (by omega)
  by_cases hlt : l.length < n
  · simp (disch := omega) only [Try.ntmps166, Try.results166, go_sem, hl1, hl2, hl3]
    have hlt' : ∀ p ∈ nrF n l, p.1 < nb := fun p hp => (ho.2.1 p hp).1
    have hne : ∀ p ∈ nrF n l, p.1 ≠ ob := fun p hp => (ho.2.1 p hp).2
    refine ⟨(l ++ [nb], nb + 1 + 1, nb + 1 + 1 + 1), ⟨by simp; omega, ?_⟩, by simp; omega, Wk.ofX (by simp only [go_sem, ↓List.forall_mem_cons, List.not_mem_nil, false_implies, implies_true, and_true, true_and, and_self, ri_eq, Int.natCast_add, Int.cast_ofNat_Int, List.length_append, List.length_singleton]; try simp) ?_ (by simp [hx])⟩
    · rw [nrF_snoc]
      exact ho.snoc (Nat.le_refl _) (by show nb ≤ nb + 1 + 1; omega) (by show nb ≠ nb + 1 + 1; omega) (by show nb < nb + 1 + 1 + 1; omega) (by show nb + 1 + 1 < nb + 1 + 1 + 1; omega)
    · simp only [List.forall_mem_cons]
      refine ⟨?_, ?_, by simp⟩
      · simp only [EntIn, hx_map, xmap_blk, if_pos, nrF_snoc, outerN_snoc, bools_length, List.length_replicate]
      · simp only [nrF_snoc]
        refine EntIn.snoc (((EntIn.skipC (EntIn.selfR ho.2.2) hne).skipR ?_).skipR ?_ |>.skipR ?_) ?_
        · intro p hp; have := hlt' p hp; omega
        · intro p hp; have := hlt' p hp; omega
        · intro p hp; have := hlt' p hp; omega
        · simp only [hx_map, xmap_blk]; rw [if_neg (by omega), if_neg (by omega), if_pos trivial, bools_replicate]
  · simp (disch := omega) only [Try.ntmps166, Try.results166, go_sem, hl1, hl2, hl3]
    have hk : l.length = n := by omega
    have := fin_rows (H := hx [Ent.blk ob { cells := outerN true (nrF n l), ex := false }, Ent.rows true (nrF n l)] nb) (R := mb (bz n)) ho
      (fun p hp => by obtain ⟨x, _, rfl⟩ := List.mem_map.1 hp; exact bools_vals _) (by simp [hx, xmap])
      (EntIn.skipR (EntIn.selfR ho.2.2) (fun p hp => (ho.2.1 p hp).2)) (by rw [nrF_snd, hk]; simp [mb, bz])
    rw [nrF_length] at this
    exact this
theorem Try.l17Links_one (n : Nat) (hn : n ≤ 1048576) : FCall Try.prog 166 [.val (.int .i64 n)] (MatOne (mb (bz n))) := (Try.l17Links_f n hn).mat

theorem rep_snoc (k : Nat) (a : Int) : List.replicate k a ++ [a] = List.replicate (k + 1) a := by
  rw [List.replicate_succ']
set_option maxHeartbeats 4000000 in
theorem Try.l17Labels_f (n : Nat) (X : List (List Bool)) (hn : n ≤ 1048576) (hX : X.length = n) (hR : ∀ i, i < n → (brow X i).length = n) (hs : ∀ x y, x < n → y < n → bmat X x y = true → bmat X y x = true) :
    FCall Try.prog 167 [.val (.int .i64 n), rb X] (fun r H => CompL n (bmat X) (comp n (bmat X)) ∧ FlatRes n 1 (ints (comp n (bmat X))) r H) := by
  refine FCall.of_body Try.func167 rfl (by kernel_rfl) (by simp [Try.ntmps167]) ?_
  refine SW_of_vc Try.mixed _ _ _ (by kernel_rfl) ?_
  simp (disch := omega) only [Try.ntmps167, Try.results167, go_sem, rb_eq]
  refine LoopW.loop (fun p : Nat × Nat × Nat => ⟨ofL [(0, .val (.int .i64 n)), (1, rb X), (5, .own p.2.1 0 p.1 p.1 1 false), (6, .val (.int .i64 p.1))], hp [(p.2.1, ⟨ints (List.replicate p.1 (-1)), false⟩)] p.2.2⟩) (fun p => p.1 ≤ n ∧ p.2.1 < p.2.2) (fun p => n - p.1) (0, 0, 1) ⟨by simp, by simp⟩
    (Wk.ofH (by simp only [go_sem, ↓List.forall_mem_cons, List.not_mem_nil, false_implies, implies_true, and_true, true_and, and_self, ri_eq, Int.natCast_add, Int.cast_ofNat_Int, rb_eq]; try simp) (by simp (disch := omega) only [go_sem, ↓List.forall_mem_cons, List.not_mem_nil, false_implies, implies_true, and_true, true_and, and_self, ri_eq, Int.natCast_add, Int.cast_ofNat_Int, if_pos, if_neg, Nat.reduceAdd, List.nil_append, List.replicate_zero, ints_nil]; try simp) (by simp [hp])) ?_
  rintro ⟨k, b, nb⟩ ⟨hk, hb⟩
  simp only at hk hb
  refine SW_of_vc Try.mixed _ _ _ (by kernel_rfl) ?_
  by_cases hlt : k < n
  · have hl := rep_snoc k (-1)
    have ht : (ints (List.replicate k (-1))).take k = ints (List.replicate k (-1)) := ints_take_of (by simp)
    simp (disch := omega) only [Try.ntmps167, Try.results167, go_sem, rb_eq, List.length_replicate, ht]
    refine ⟨(k + 1, nb + 1, nb + 1 + 1), ⟨hlt, by simp⟩, by show n - (k + 1) < n - k; omega, ?_⟩
    exact Wk.ofH (by simp only [go_sem, ↓List.forall_mem_cons, List.not_mem_nil, false_implies, implies_true, and_true, true_and, and_self, ri_eq, Int.natCast_add, Int.cast_ofNat_Int, rb_eq]; try simp) (by simp (disch := omega) only [go_sem, ↓List.forall_mem_cons, List.not_mem_nil, false_implies, implies_true, and_true, true_and, and_self, ri_eq, Int.natCast_add, Int.cast_ofNat_Int, if_pos, if_neg, Nat.reduceAdd, List.nil_append, hl]; try simp) (by simp [hp])
  obtain rfl : k = n := by omega
  simp (disch := omega) only [Try.ntmps167, Try.results167, go_sem, rb_eq]
  refine LoopW.loop (fun p : Nat × List Int × Int => ⟨ofL [(0, .val (.int .i64 k)), (1, rb X), (5, .own b 0 k k 1 false), (7, .val (.int .i64 p.2.2)), (8, .val (.int .i64 p.1))], hp [(b, ⟨ints p.2.1, false⟩)] nb⟩)
    (fun p => p.1 ≤ k ∧ PartL k (bmat X) p.1 p.2.2 p.2.1) (fun p => k - p.1) (0, List.replicate k (-1), 0) ⟨by simp, .zero _ _⟩ (Wk.ofH (by simp only [go_sem, ↓List.forall_mem_cons, List.not_mem_nil, false_implies, implies_true, and_true, true_and, and_self, ri_eq, Int.natCast_add, Int.cast_ofNat_Int, rb_eq]; try simp) (by simp (disch := omega) only [go_sem, ↓List.forall_mem_cons, List.not_mem_nil, false_implies, implies_true, and_true, true_and, and_self, ri_eq, Int.natCast_add, Int.cast_ofNat_Int, if_pos, if_neg, Nat.reduceAdd, List.nil_append]; try simp) (by simp [hp])) ?_
  rintro ⟨i, O, c⟩ ⟨hi, hpl⟩
  simp only at hi hpl
  have hl := hpl.len
  have hc0 := hpl.c0
  have hci := hpl.ci
  refine SW_of_vc Try.mixed _ _ _ (by kernel_rfl) ?_
  by_cases hlt2 : i < k
  · have g2 : (ints O)[i]? = some (.val (.int .i64 (O.getD i 0))) := ints_get' hl hlt2
    obtain ⟨v, hv⟩ : ∃ v, O.getD i 0 = v := ⟨_, rfl⟩
    rw [hv] at g2
    by_cases h0 : 0 ≤ v
    · simp (disch := omega) only [Try.ntmps167, Try.results167, go_sem, rb_eq, hl, g2]
      exact ⟨(i + 1, O, c), ⟨hlt2, hpl.skip (by omega)⟩, by show k - (i + 1) < k - i; omega, Wk.ofH (by simp only [go_sem, ↓List.forall_mem_cons, List.not_mem_nil, false_implies, implies_true, and_true, true_and, and_self, ri_eq, Int.natCast_add, Int.cast_ofNat_Int, rb_eq]; try simp) (by simp (disch := omega) only [go_sem, ↓List.forall_mem_cons, List.not_mem_nil, false_implies, implies_true, and_true, true_and, and_self, ri_eq, Int.natCast_add, Int.cast_ofNat_Int, if_pos, if_neg, Nat.reduceAdd, List.nil_append]; try simp) (by simp [hp])⟩
    · simp (disch := omega) only [Try.ntmps167, Try.results167, go_sem, rb_eq, hl, g2]
      refine LoopW.loop (fun p : Nat × List Int => ⟨ofL [(0, .val (.int .i64 k)), (1, rb X), (5, .own b 0 k k 1 false), (7, .val (.int .i64 c)), (8, .val (.int .i64 i)), (9, .val (.int .i64 p.1))], hp [(b, ⟨ints p.2, false⟩)] nb⟩)
        (fun p => p.1 ≤ k ∧ SpI k (bmat X) c i O p.1 0 0 p.2) (fun p => k - p.1) (0, O.set i c) ⟨by simp, .start hl hlt2⟩ (Wk.ofH (by simp only [go_sem, ↓List.forall_mem_cons, List.not_mem_nil, false_implies, implies_true, and_true, true_and, and_self, ri_eq, Int.natCast_add, Int.cast_ofNat_Int, rb_eq]; try simp) (by simp (disch := omega) only [go_sem, ↓List.forall_mem_cons, List.not_mem_nil, false_implies, implies_true, and_true, true_and, and_self, ri_eq, Int.natCast_add, Int.cast_ofNat_Int, if_pos, if_neg, Nat.reduceAdd, List.nil_append]; try simp) (by simp [hp])) ?_
      rintro ⟨s, O1⟩ ⟨hs1, hq1⟩
      simp only at hs1 hq1
      refine SW_of_vc Try.mixed _ _ _ (by kernel_rfl) ?_
      by_cases hlt3 : s < k
      · simp (disch := omega) only [Try.ntmps167, Try.results167, go_sem, rb_eq]
        refine LoopW.loop (fun p : Nat × List Int => ⟨ofL [(0, .val (.int .i64 k)), (1, rb X), (5, .own b 0 k k 1 false), (7, .val (.int .i64 c)), (8, .val (.int .i64 i)), (9, .val (.int .i64 s)), (10, .val (.int .i64 p.1))], hp [(b, ⟨ints p.2, false⟩)] nb⟩)
          (fun p => p.1 ≤ k ∧ SpI k (bmat X) c i O s p.1 0 p.2) (fun p => k - p.1) (0, O1) ⟨by simp, hq1⟩ (Wk.ofH (by simp only [go_sem, ↓List.forall_mem_cons, List.not_mem_nil, false_implies, implies_true, and_true, true_and, and_self, ri_eq, Int.natCast_add, Int.cast_ofNat_Int, rb_eq]; try simp) (by simp (disch := omega) only [go_sem, ↓List.forall_mem_cons, List.not_mem_nil, false_implies, implies_true, and_true, true_and, and_self, ri_eq, Int.natCast_add, Int.cast_ofNat_Int, if_pos, if_neg, Nat.reduceAdd, List.nil_append]; try simp) (by simp [hp])) ?_
        rintro ⟨a, O2⟩ ⟨ha1, hq2⟩
        simp only at ha1 hq2
        refine SW_of_vc Try.mixed _ _ _ (by kernel_rfl) ?_
        by_cases hlt4 : a < k
        · simp (disch := omega) only [Try.ntmps167, Try.results167, go_sem, rb_eq]
          refine LoopW.loop (fun p : Nat × List Int => ⟨ofL [(0, .val (.int .i64 k)), (1, rb X), (5, .own b 0 k k 1 false), (7, .val (.int .i64 c)), (8, .val (.int .i64 i)), (9, .val (.int .i64 s)), (10, .val (.int .i64 a)), (11, .val (.int .i64 p.1))], hp [(b, ⟨ints p.2, false⟩)] nb⟩)
            (fun p => p.1 ≤ k ∧ SpI k (bmat X) c i O s a p.1 p.2) (fun p => k - p.1) (0, O2) ⟨by simp, hq2⟩ (Wk.ofH (by simp only [go_sem, ↓List.forall_mem_cons, List.not_mem_nil, false_implies, implies_true, and_true, true_and, and_self, ri_eq, Int.natCast_add, Int.cast_ofNat_Int, rb_eq]; try simp) (by simp (disch := omega) only [go_sem, ↓List.forall_mem_cons, List.not_mem_nil, false_implies, implies_true, and_true, true_and, and_self, ri_eq, Int.natCast_add, Int.cast_ofNat_Int, if_pos, if_neg, Nat.reduceAdd, List.nil_append]; try simp) (by simp [hp])) ?_
          rintro ⟨z, O3⟩ ⟨hz1, hq3⟩
          simp only at hz1 hq3
          have hl3 := hq3.len
          have hXa := hR a hlt4
          refine SW_of_vc Try.mixed _ _ _ (by kernel_rfl) ?_
          by_cases hlt5 : z < k
          · have g3 : (ints O3)[a]? = some (.val (.int .i64 (O3.getD a 0))) := ints_get' hl3 hlt4
            have g4 : (bools (brow X a))[z]? = some (.val (.bool (bmat X a z))) := bools_get (by omega)
            obtain ⟨v3, hv3⟩ : ∃ v, O3.getD a 0 = v := ⟨_, rfl⟩
            rw [hv3] at g3
            by_cases h5 : v3 = c
            · rcases Bool.eq_false_or_eq_true (bmat X a z) with h6 | h6
              · rw [h6] at g4
                simp (disch := omega) only [Try.ntmps167, Try.results167, go_sem, rb_eq, hl3, g3, g4, hX, hXa, rowsB_get, rowsB_length]
                exact ⟨(z + 1, O3.set z c), ⟨hlt5, hq3.put hpl.rng hlt4 hlt5 (by omega) h6⟩, by show k - (z + 1) < k - z; omega, Wk.ofH (by simp only [go_sem, ↓List.forall_mem_cons, List.not_mem_nil, false_implies, implies_true, and_true, true_and, and_self, ri_eq, Int.natCast_add, Int.cast_ofNat_Int, rb_eq]; try simp) (by simp (disch := omega) only [go_sem, ↓List.forall_mem_cons, List.not_mem_nil, false_implies, implies_true, and_true, true_and, and_self, ri_eq, Int.natCast_add, Int.cast_ofNat_Int, if_pos, if_neg, Nat.reduceAdd, List.nil_append]; try simp) (by simp [hp])⟩
              · rw [h6] at g4
                simp (disch := omega) only [Try.ntmps167, Try.results167, go_sem, rb_eq, hl3, g3, g4, hX, hXa, rowsB_get, rowsB_length]
                exact ⟨(z + 1, O3), ⟨hlt5, hq3.skip hlt4 (by simp [h6])⟩, by show k - (z + 1) < k - z; omega, Wk.ofH (by simp only [go_sem, ↓List.forall_mem_cons, List.not_mem_nil, false_implies, implies_true, and_true, true_and, and_self, ri_eq, Int.natCast_add, Int.cast_ofNat_Int, rb_eq]; try simp) (by simp (disch := omega) only [go_sem, ↓List.forall_mem_cons, List.not_mem_nil, false_implies, implies_true, and_true, true_and, and_self, ri_eq, Int.natCast_add, Int.cast_ofNat_Int, if_pos, if_neg, Nat.reduceAdd, List.nil_append]; try simp) (by simp [hp])⟩
            · simp (disch := omega) only [Try.ntmps167, Try.results167, go_sem, rb_eq, hl3, g3, hX, hXa, rowsB_get, rowsB_length]
              exact ⟨(z + 1, O3), ⟨hlt5, hq3.skip hlt4 (by intro h; omega)⟩, by show k - (z + 1) < k - z; omega, Wk.ofH (by simp only [go_sem, ↓List.forall_mem_cons, List.not_mem_nil, false_implies, implies_true, and_true, true_and, and_self, ri_eq, Int.natCast_add, Int.cast_ofNat_Int, rb_eq]; try simp) (by simp (disch := omega) only [go_sem, ↓List.forall_mem_cons, List.not_mem_nil, false_implies, implies_true, and_true, true_and, and_self, ri_eq, Int.natCast_add, Int.cast_ofNat_Int, if_pos, if_neg, Nat.reduceAdd, List.nil_append]; try simp) (by simp [hp])⟩
          · simp (disch := omega) only [Try.ntmps167, Try.results167, go_sem, rb_eq]
            exact ⟨(a + 1, O3), ⟨hlt4, hq3.next (by omega)⟩, by show k - (a + 1) < k - a; omega, Wk.ofH (by simp only [go_sem, ↓List.forall_mem_cons, List.not_mem_nil, false_implies, implies_true, and_true, true_and, and_self, ri_eq, Int.natCast_add, Int.cast_ofNat_Int, rb_eq]; try simp) (by simp (disch := omega) only [go_sem, ↓List.forall_mem_cons, List.not_mem_nil, false_implies, implies_true, and_true, true_and, and_self, ri_eq, Int.natCast_add, Int.cast_ofNat_Int, if_pos, if_neg, Nat.reduceAdd, List.nil_append]; try simp) (by simp [hp])⟩
        · simp (disch := omega) only [Try.ntmps167, Try.results167, go_sem, rb_eq]
          exact ⟨(s + 1, O2), ⟨hlt3, hq2.round (by omega)⟩, by show k - (s + 1) < k - s; omega, Wk.ofH (by simp only [go_sem, ↓List.forall_mem_cons, List.not_mem_nil, false_implies, implies_true, and_true, true_and, and_self, ri_eq, Int.natCast_add, Int.cast_ofNat_Int, rb_eq]; try simp) (by simp (disch := omega) only [go_sem, ↓List.forall_mem_cons, List.not_mem_nil, false_implies, implies_true, and_true, true_and, and_self, ri_eq, Int.natCast_add, Int.cast_ofNat_Int, if_pos, if_neg, Nat.reduceAdd, List.nil_append]; try simp) (by simp [hp])⟩
      · obtain rfl : s = k := by omega
        simp (disch := omega) only [Try.ntmps167, Try.results167, go_sem, rb_eq]
        exact ⟨(i + 1, O1, c + 1), ⟨hlt2, hpl.step hs hlt2 (by omega) (hq1.newL hlt2)⟩, by show s - (i + 1) < s - i; omega, Wk.ofH (by simp only [go_sem, ↓List.forall_mem_cons, List.not_mem_nil, false_implies, implies_true, and_true, true_and, and_self, ri_eq, Int.natCast_add, Int.cast_ofNat_Int, rb_eq]; try simp) (by simp (disch := omega) only [go_sem, ↓List.forall_mem_cons, List.not_mem_nil, false_implies, implies_true, and_true, true_and, and_self, ri_eq, Int.natCast_add, Int.cast_ofNat_Int, if_pos, if_neg, Nat.reduceAdd, List.nil_append]; try simp) (by simp [hp])⟩
  · have hC := hpl.final (by omega)
    have hc2 := hC.comp
    rw [← hC.eq] at hc2 ⊢
    simp (disch := omega) only [Try.ntmps167, Try.results167, go_sem, rb_eq]
    exact Fin.imp (fun _ _ h => ⟨hc2, h⟩) (fin_ints hl.symm (by rw [hp_map]; simp only [hmap_cons]; rfl))
end Go.Sh

/-
  Contracts: the components of a graph of positive weights, of the reference; both as one.
-/
namespace Go.Sh
set_option linter.unusedSimpArgs false
set_option linter.unusedVariables false
open Go Go.Proofs

theorem CompL.congr {n : Nat} {B B' : Nat → Nat → Bool} {L : List Int} (h : CompL n B L) (hb : ∀ x y, x < n → y < n → B x y = B' x y) : CompL n B' L := by
  have hr : ∀ x y, Rch n B x y ↔ Rch n B' x y := fun x y => ⟨fun r => r.mono fun x y hx hy h => .one hx hy (by rw [← hb x y hx hy]; exact h), fun r => r.mono fun x y hx hy h => .one hx hy (by rw [hb x y hx hy]; exact h)⟩
  exact ⟨h.len, h.nn, h.can, fun x y hx hy => (h.iff x y hx hy).trans (hr x y)⟩
/-- A square of bools. -/
def Sq (n : Nat) (X : List (List Bool)) : Prop := X.length = n ∧ ∀ i, i < n → (brow X i).length = n
theorem Sq.bz (n : Nat) : Sq n (bz n) := ⟨bz_length n, fun i h => by rw [bz_row h]; simp⟩
theorem Sq.set {n : Nat} {X : List (List Bool)} (h : Sq n X) (i c : Nat) (x : Bool) : Sq n (bset X i c x) := ⟨by rw [bset_length, h.1], fun k hk => by rw [bset_row_length]; exact h.2 k hk⟩

noncomputable def pcomp (M : List (List Int)) : List Int := if isWM M = true then comp M.length (pB M) else []
theorem pcomp_t {M : List (List Int)} (h : WM M) : pcomp M = comp M.length (pB M) := by rw [pcomp, if_pos (isWM_t h)]
theorem pcomp_f {M : List (List Int)} (h : ¬ WM M) : pcomp M = [] := by rw [pcomp, if_neg (by rw [isWM_f h]; simp)]
theorem pcomp_length {M : List (List Int)} (h : WM M) : (pcomp M).length = M.length := by rw [pcomp_t h]; exact (comp_ok h.sym).len
theorem Try.implPC_one (M : List (List Int)) (hM : M.length ≤ 1048576) (hR : ∀ i, i < M.length → (mrow M i).length ≤ 1048576) (h : WM M) : FCall Try.prog 173 [rr M] (OneRes M.length 1 (ints (pcomp M))) := by
  rw [pcomp_t h]
  exact ((Try.implPC_f M hM hR h).mono fun _ _ h => h.2).one
theorem Try.implPC_ok (M : List (List Int)) (hM : M.length ≤ 1048576) (hR : ∀ i, i < M.length → (mrow M i).length ≤ 1048576) : PCall Try.prog 173 [rr M] (ri (pcomp M)) := by
  by_cases h : WM M
  · exact (Try.implPC_one M hM hR h).pcall 2 (fun _ _ g => one_view g (pcomp_length h).symm)
  · rw [pcomp_f h]; exact (Try.implPC_nil M hM hR h).pcall 0 (by rintro r H rfl; exact view_nil)
end Go.Sh

/-
  Contracts: the graph of the must-link constraints, its components. Of the reference and of the program.
-/
namespace Go.Sh
set_option linter.unusedSimpArgs false
set_option linter.unusedVariables false
open Go Go.Proofs

def linkB (c : Con) (x y : Nat) : Bool := c.2.2 && (decide (c.1 = x ∧ c.2.1 = y) || decide (c.1 = y ∧ c.2.1 = x))
def mustB (C : List Con) (x y : Nat) : Bool := C.any fun c => linkB c x y
theorem linkB_sym (c : Con) (x y : Nat) : linkB c x y = linkB c y x := by simp only [linkB]; rw [Bool.or_comm]
theorem mustB_sym (C : List Con) (x y : Nat) : mustB C x y = mustB C y x := by
  simp only [mustB]; congr 1; funext c; exact linkB_sym c x y
theorem mustB_succ {C : List Con} {k : Nat} (h : k < C.length) (x y : Nat) : mustB (C.take (k + 1)) x y = (mustB (C.take k) x y || linkB (cg C k) x y) := by
  have e : cg C k = C[k] := by simp [cg, h]
  rw [mustB, List.take_succ_eq_append_getElem h, List.any_append, e]
  simp [mustB]
theorem areCons_t {n : Int} {C : List Con} (h : areCons n C = true) : (1 ≤ n ∧ n ≤ 8) ∧ C.length ≤ 10 ∧ ∀ c ∈ C, 0 ≤ c.1 ∧ c.1 < c.2.1 ∧ c.2.1 < n := by
  simp only [areCons, Bool.and_eq_true] at h
  refine ⟨inR_of h.1, of_decide_eq_true h.2.1, fun c hc => ?_⟩
  have := List.all_eq_true.1 h.2.2 c hc
  simp only [goodCon, Bool.and_eq_true] at this
  have h1 := inR_of this.1
  have h2 := inR_of this.2.1
  have h3 := of_decide_eq_true this.2.2
  omega
theorem cg_mem {C : List Con} {k : Nat} (h : k < C.length) : cg C k ∈ C := by simp [cg, h]
theorem con_nat {n : Int} {C : List Con} (h : areCons n C = true) {k : Nat} (hk : k < C.length) : ∃ (x y : Nat) (s : Bool), cg C k = ((x : Int), (y : Int), s) ∧ x < y ∧ (y : Int) < n := by
  obtain ⟨a, b, s, hc⟩ := con_ex C k
  have := (areCons_t h).2.2 _ (cg_mem hk)
  rw [hc] at this
  simp only at this
  refine ⟨a.toNat, b.toNat, s, ?_, by omega, by omega⟩
  rw [hc]
  congr 1
  · omega
  · congr 1; omega
theorem linkB_at (x y : Nat) (s : Bool) (a b : Nat) : linkB ((x : Int), (y : Int), s) a b = (s && (decide (x = a ∧ y = b) || decide (x = b ∧ y = a))) := by
  simp only [linkB]
  congr 1
  have e1 : ((x : Int) = a ∧ (y : Int) = b) ↔ (x = a ∧ y = b) := by omega
  have e2 : ((x : Int) = b ∧ (y : Int) = a) ↔ (x = b ∧ y = a) := by omega
  rw [decide_eq_decide.2 e1, decide_eq_decide.2 e2]
def mustM (n : Nat) (C : List Con) : List (List Int) := genM n fun x y => bint (mustB C x y)

set_option maxHeartbeats 4000000 in
theorem Try.mustMatrix_f (n : Nat) (C : List Con) (h : areCons n C = true) : FCall Try.prog 174 [.val (.int .i64 n), rc C] (MatRes (mi (mustM n C))) := by
  obtain ⟨hn, hC, hg⟩ := areCons_t h
  have hn8 : n ≤ 8 := by omega
  have lC := cons_length C
  refine FCall.of_body Try.func174 rfl (by kernel_rfl) (by simp [Try.ntmps174]) ?_
  refine SW_of_vc2 (onD 6 [(30, 32)] []) Try.mixed _ _ _ (by kernel_rfl) ?_
  simp (disch := omega) only [Try.ntmps174, Try.results174, go_sem, rc]
  refine (Try.square_one n (by omega)).callMat (mi_vals _) 0 (viewL_cons_of (view_int) viewL_nil_of) ?_
  simp (disch := omega) only [Try.ntmps174, Try.results174, go_sem, rc, zs_length]
  refine LoopW.loop (fun p : Nat × List (List Int) × Nat => ⟨ofL [(5, .own 0 0 n n 1 false), (10, rc C), (11, .val (.int .i64 C.length)), (12, .val (.int .i64 p.1))], hx [.mat 0 (mi p.2.1)] p.2.2⟩)
    (fun p => p.1 ≤ C.length ∧ SqI n p.2.1 ∧ n < p.2.2 ∧ ∀ x y, x < n → y < n → mat p.2.1 x y = bint (mustB (C.take p.1) x y)) (fun p => C.length - p.1) (0, zs n, n + 1) ⟨by simp, .zs n, by simp, fun x y _ _ => zs_at⟩
    (Wk.ofX (by simp only [go_sem, ↓List.forall_mem_cons, List.not_mem_nil, false_implies, implies_true, and_true, true_and, and_self, ri_eq, Int.natCast_add, Int.cast_ofNat_Int, rc]; try simp) (by simp only [List.forall_mem_cons]; exact ⟨.self, by simp⟩) (Nat.le_refl _)) ?_
  rintro ⟨k, M, nb⟩ ⟨hk, hM, hnb, hMM⟩
  simp only at hk hM hnb hMM
  have hM1 := hM.1
  refine SW_of_vc2 (onD 6 [(30, 32)] []) Try.mixed _ _ _ (by kernel_rfl) ?_
  by_cases hlt : k < C.length
  · obtain ⟨x, y, s, hc, hxy, hyn⟩ := con_nat h hlt
    have hy : y < n := by omega
    have hx : x < n := by omega
    obtain ⟨q0, q1, q2, q3⟩ := cons_of hlt hc
    have hsucc := mustB_succ hlt
    rw [hc] at hsucc
    have r1 := hM.2 x hx
    have r2 := hM.2 y hy
    have l2 : (mset M x y 1).length = n := by rw [mset_length, hM1]
    have r3 : (mrow (mset M x y 1) y).length = n := by rw [mset_row_length, r2]
    cases s with
    | true =>
      have hnew : ∀ a b, a < n → b < n → mat (mset (mset M x y 1) y x 1) a b = bint (mustB (C.take (k + 1)) a b) := by
        intro a b ha hb
        rw [mset_at _ _ _ _ (by omega) (by omega), mset_at _ _ _ _ (by omega) (by omega), hMM a b ha hb, hsucc, linkB_at]
        by_cases e1 : a = y ∧ b = x
        · have : (decide (x = a ∧ y = b) || decide (x = b ∧ y = a)) = true := by simp; omega
          rw [if_pos e1, this]; simp [bint]
        · rw [if_neg e1]
          by_cases e2 : a = x ∧ b = y
          · have : (decide (x = a ∧ y = b) || decide (x = b ∧ y = a)) = true := by simp; omega
            rw [if_pos e2, this]; simp [bint]
          · have : (decide (x = a ∧ y = b) || decide (x = b ∧ y = a)) = false := by simp; omega
            rw [if_neg e2, this]; simp
      simp (disch := omega) only [Try.ntmps174, Try.results174, go_sem, rc, q3, lC, outerB_getI, xmap_skipI, xmap_rowI, xset_rowI, xset_skipI, r1, r2, r3]
      refine ⟨(k + 1, mset (mset M x y 1) y x 1, nb + 1), ⟨hlt, (hM.set _ _ _).set _ _ _, by show n < nb + 1; omega, hnew⟩, by show C.length - (k + 1) < C.length - k; omega, ?_⟩
      exact Wk.ofX (by simp only [go_sem, ↓List.forall_mem_cons, List.not_mem_nil, false_implies, implies_true, and_true, true_and, and_self, ri_eq, Int.natCast_add, Int.cast_ofNat_Int, rc]; try simp) (by simp only [List.forall_mem_cons]; exact ⟨EntIn.self.skipM (by simp only [mi_length, mset_length]; omega), by simp⟩) (Nat.le_refl _)
    | false =>
      have hnew : ∀ a b, a < n → b < n → mat M a b = bint (mustB (C.take (k + 1)) a b) := by
        intro a b ha hb
        rw [hMM a b ha hb, hsucc, linkB_at]; simp
      simp (disch := omega) only [Try.ntmps174, Try.results174, go_sem, rc, q3, lC]
      refine ⟨(k + 1, M, nb + 1), ⟨hlt, hM, by show n < nb + 1; omega, hnew⟩, by show C.length - (k + 1) < C.length - k; omega, ?_⟩
      exact Wk.ofX (by simp only [go_sem, ↓List.forall_mem_cons, List.not_mem_nil, false_implies, implies_true, and_true, true_and, and_self, ri_eq, Int.natCast_add, Int.cast_ofNat_Int, rc]; try simp) (by simp only [List.forall_mem_cons]; exact ⟨EntIn.self.skipM (by simp only [mi_length]; omega), by simp⟩) (Nat.le_refl _)
  · obtain rfl : k = C.length := by omega
    rw [List.take_length] at hMM
    have he : M = mustM n C := hM.ext (genM_sq n _) fun x y hx hy => by rw [hMM x y hx hy, mustM, genM_at hx hy]
    simp (disch := omega) only [Try.ntmps174, Try.results174, go_sem, rc]
    rw [← he]
    exact fin_mat .self (mi_vals _) (by rw [mi_length, hM1])
theorem mustM_wm {n : Nat} {C : List Con} (h : areCons n C = true) : WM (mustM n C) := by
  obtain ⟨hn, hC, hg⟩ := areCons_t h
  have hs := genM_sq n fun x y => bint (mustB C x y)
  have hb : ∀ b, 0 ≤ bint b ∧ bint b ≤ 1 := fun b => by cases b <;> simp [bint]
  have e1 : (mustM n C).length = n := hs.1
  refine ⟨by rw [e1]; omega, fun i hi => by rw [e1] at hi ⊢; exact hs.2 i hi, fun i k hi hk => ?_, fun i hi => ?_⟩
  · rw [e1] at hi hk
    rw [mustM, genM_at hi hk, genM_at hk hi, mustB_sym]
    have := hb (mustB C k i)
    exact ⟨by omega, rfl⟩
  · rw [e1] at hi
    rw [mustM, genM_at hi hi]
    have : mustB C i i = false := by
      rw [mustB, List.any_eq_false]
      intro c hc
      have := hg c hc
      simp only [linkB]
      simp
      omega
    rw [this]; rfl
theorem mustM_pB {n : Nat} {C : List Con} {x y : Nat} (hx : x < n) (hy : y < n) : pB (mustM n C) x y = mustB C x y := by
  rw [pB, mustM, genM_at hx hy]
  cases mustB C x y <;> simp [bint]
theorem mustM_length (n : Nat) (C : List Con) : (mustM n C).length = n := (genM_sq n _).1
/-- The component of each item in the graph of the must-link constraints. -/
noncomputable def must (n : Int) (C : List Con) : List Int := if areCons n C = true then comp n.toNat (mustB C) else []
theorem must_t {n : Int} {C : List Con} (h : areCons n C = true) : must n C = comp n.toNat (mustB C) := by rw [must, if_pos h]
theorem must_f {n : Int} {C : List Con} (h : areCons n C = false) : must n C = [] := by rw [must, if_neg (by rw [h]; simp)]
theorem must_ok {n : Nat} {C : List Con} : CompL n (mustB C) (comp n (mustB C)) := comp_ok fun x y _ _ h => by rw [mustB_sym]; exact h
theorem must_length {n : Int} {C : List Con} (h : areCons n C = true) : (must n C).length = n.toNat := by rw [must_t h]; exact must_ok.len
theorem must_pcomp {n : Nat} {C : List Con} (h : areCons n C = true) : pcomp (mustM n C) = comp n (mustB C) := by
  have hw := mustM_wm h
  rw [pcomp_t hw, mustM_length]
  have hc := comp_ok (n := n) (B := pB (mustM n C)) (by have := hw.sym; rwa [mustM_length] at this)
  exact (hc.congr fun x y hx hy => mustM_pB hx hy).eq.symm ▸ rfl

set_option maxHeartbeats 1000000 in
theorem Try.implMust_f (n : Int) (C : List Con) (hC : C.length ≤ 1048576) (h : areCons n C = true) : FCall Try.prog 171 [.val (.int .i64 n), rc C] (FlatRes n.toNat 1 (ints (must n C))) := by
  obtain ⟨⟨n1, n2⟩, _, _⟩ := areCons_t h
  obtain ⟨m, rfl⟩ := Int.eq_ofNat_of_zero_le (by omega : 0 ≤ n)
  have w1 := Try.implAreConstraints_ok m C hC
  rw [h] at w1
  have hw := mustM_wm h
  have hl := mustM_length m C
  have w3 := Try.implPC_one (mustM m C) (by rw [hl]; omega) (fun i hi => by rw [hw.2.1 i hi, hl]; omega) hw
  have hp := must_pcomp h
  rw [must_t h, Int.toNat_natCast]
  rw [hp, hl] at w3
  refine FCall.of_body Try.func171 rfl (by kernel_rfl) (by simp [Try.ntmps171]) ?_
  refine SW_of_vc Try.mixed _ _ _ (by kernel_rfl) ?_
  simp (disch := omega) only [Try.ntmps171, Try.results171, go_sem, rc]
  refine w1.callV 0 (viewL_cons_of (view_int) (viewL_cons_of (view_row) viewL_nil_of)) ?_
  simp (disch := omega) only [Try.ntmps171, Try.results171, go_sem, rc]
  refine (Try.mustMatrix_f m C h).mat.callMat (mi_vals _) 0 (viewL_cons_of (view_int) (viewL_cons_of (view_row) viewL_nil_of)) ?_
  simp (disch := omega) only [Try.ntmps171, Try.results171, go_sem, rc, hl]
  refine w3.callOne (ints_vals _) 2 (viewL_cons_of (view_mi .self hl.symm) viewL_nil_of) ?_
  simp (disch := omega) only [Try.ntmps171, Try.results171, go_sem, rc]
  exact fin_ints must_ok.len.symm (by rw [hx_map, xmap_blk, if_pos rfl])
theorem Try.implMust_nil (n : Int) (C : List Con) (hC : C.length ≤ 1048576) (h : areCons n C = false) : FCall Try.prog 171 [.val (.int .i64 n), rc C] (fun r _ => r = .val (.slice none 0 0)) := by
  have w1 := Try.implAreConstraints_ok n C hC
  rw [h] at w1
  refine FCall.of_body Try.func171 rfl (by kernel_rfl) (by simp [Try.ntmps171]) ?_
  refine SW_of_vc Try.mixed _ _ _ (by kernel_rfl) ?_
  simp (disch := omega) only [Try.ntmps171, Try.results171, go_sem, rc]
  refine w1.callV 0 (viewL_cons_of (view_int) (viewL_cons_of (view_row) viewL_nil_of)) ?_
  simp (disch := omega) only [Try.ntmps171, Try.results171, go_sem, rc]
  exact Fin.val rfl
theorem Try.implMust_one (n : Int) (C : List Con) (hC : C.length ≤ 1048576) (h : areCons n C = true) : FCall Try.prog 171 [.val (.int .i64 n), rc C] (OneRes n.toNat 1 (ints (must n C))) := (Try.implMust_f n C hC h).one
theorem Try.implMust_ok (n : Int) (C : List Con) (hC : C.length ≤ 1048576) : PCall Try.prog 171 [.val (.int .i64 n), rc C] (ri (must n C)) := by
  rcases Bool.eq_false_or_eq_true (areCons n C) with h | h
  · exact (Try.implMust_f n C hC h).pcall 2 (fun _ _ h => flat_view h)
  · rw [must_f h]; exact (Try.implMust_nil n C hC h).pcall 0 (by rintro r H rfl; exact view_nil)
end Go.Sh

/-
  Contracts: the components of the must-link constraints, of the reference.
-/
namespace Go.Sh
set_option linter.unusedSimpArgs false
set_option linter.unusedVariables false
open Go Go.Proofs

set_option maxHeartbeats 4000000 in
theorem Try.specMust_f (n : Int) (C : List Con) (hC : C.length ≤ 1048576) (h : areCons n C = true) : FCall Try.prog 154 [.val (.int .i64 n), rc C] (FlatRes n.toNat 1 (ints (must n C))) := by
  obtain ⟨⟨n1, n2⟩, hC10, hg⟩ := areCons_t h
  obtain ⟨m, rfl⟩ := Int.eq_ofNat_of_zero_le (by omega : 0 ≤ n)
  have w1 := Try.specAreConstraints_ok m C hC (by omega) (by omega)
  rw [h] at w1
  have lC := cons_length C
  rw [must_t h, Int.toNat_natCast]
  refine FCall.of_body Try.func154 rfl (by kernel_rfl) (by simp [Try.ntmps154]) ?_
  refine SW_of_vc Try.mixed _ _ _ (by kernel_rfl) ?_
  simp (disch := omega) only [Try.ntmps154, Try.results154, go_sem, rc]
  refine w1.callV 0 (viewL_cons_of (view_int) (viewL_cons_of (view_row) viewL_nil_of)) ?_
  simp (disch := omega) only [Try.ntmps154, Try.results154, go_sem, rc]
  refine (Try.l17Links_one m (by omega)).callMat (mb_vals _) 0 (viewL_cons_of (view_int) viewL_nil_of) ?_
  simp (disch := omega) only [Try.ntmps154, Try.results154, go_sem, rc, bz_length]
  refine LoopW.loop (fun p : Nat × List (List Bool) => ⟨ofL [(0, .val (.int .i64 m)), (1, rc C), (5, .own 0 0 m m 1 false), (6, .val (.int .i64 p.1))], hx [.mat 0 (mb p.2)] (m + 1)⟩)
    (fun p => p.1 ≤ C.length ∧ Sq m p.2 ∧ ∀ x y, x < m → y < m → bmat p.2 x y = mustB (C.take p.1) x y) (fun p => C.length - p.1) (0, bz m) ⟨by simp, .bz _, fun x y _ _ => by simpa [mustB] using bz_at⟩
    (Wk.ofX (by simp only [go_sem, ↓List.forall_mem_cons, List.not_mem_nil, false_implies, implies_true, and_true, true_and, and_self, ri_eq, Int.natCast_add, Int.cast_ofNat_Int, rc]; try simp) (by simp only [List.forall_mem_cons]; exact ⟨.self, by simp⟩) (Nat.le_refl _)) ?_
  rintro ⟨k, X⟩ ⟨hk, hX, hXX⟩
  simp only at hk hX hXX
  have hX1 := hX.1
  refine SW_of_vc Try.mixed _ _ _ (by kernel_rfl) ?_
  by_cases hlt : k < C.length
  · obtain ⟨x, y, s, hc, hxy, hyn⟩ := con_nat h hlt
    have hy : y < m := by omega
    have hx : x < m := by omega
    obtain ⟨q0, q1, q2, q3⟩ := cons_of hlt hc
    have hsucc := mustB_succ hlt
    rw [hc] at hsucc
    have r1 := hX.2 x hx
    have r2 := hX.2 y hy
    have l2 : (bset X x y true).length = m := by rw [bset_length, hX1]
    have r3 : (brow (bset X x y true) y).length = m := by rw [bset_row_length, r2]
    cases s with
    | true =>
      have hnew : ∀ a b, a < m → b < m → bmat (bset (bset X x y true) y x true) a b = mustB (C.take (k + 1)) a b := by
        intro a b ha hb
        rw [bset_at _ _ _ _ (by omega) (by omega), bset_at _ _ _ _ (by omega) (by omega), hXX a b ha hb, hsucc, linkB_at]
        by_cases e1 : a = y ∧ b = x
        · have : (decide (x = a ∧ y = b) || decide (x = b ∧ y = a)) = true := by simp; omega
          rw [if_pos e1, this]; simp
        · rw [if_neg e1]
          by_cases e2 : a = x ∧ b = y
          · have : (decide (x = a ∧ y = b) || decide (x = b ∧ y = a)) = true := by simp; omega
            rw [if_pos e2, this]; simp
          · have : (decide (x = a ∧ y = b) || decide (x = b ∧ y = a)) = false := by simp; omega
            rw [if_neg e2, this]; simp
      simp (disch := omega) only [Try.ntmps154, Try.results154, go_sem, rc, q0, q1, q2, lC, outerB_getB, xmap_skipB, xmap_rowB, xset_rowB, xset_skipB, r1, r2, r3, bools_set]
      refine ⟨(k + 1, bset (bset X x y true) y x true), ⟨hlt, (hX.set _ _ _).set _ _ _, hnew⟩, by show C.length - (k + 1) < C.length - k; omega, ?_⟩
      exact Wk.ofX (by simp only [go_sem, ↓List.forall_mem_cons, List.not_mem_nil, false_implies, implies_true, and_true, true_and, and_self, ri_eq, Int.natCast_add, Int.cast_ofNat_Int, rc]; try simp) (by simp only [List.forall_mem_cons]; exact ⟨.self, by simp⟩) (Nat.le_refl _)
    | false =>
      have hnew : ∀ a b, a < m → b < m → bmat X a b = mustB (C.take (k + 1)) a b := by
        intro a b ha hb
        rw [hXX a b ha hb, hsucc, linkB_at]; simp
      simp (disch := omega) only [Try.ntmps154, Try.results154, go_sem, rc, q0, q1, q2, lC]
      refine ⟨(k + 1, X), ⟨hlt, hX, hnew⟩, by show C.length - (k + 1) < C.length - k; omega, ?_⟩
      exact Wk.ofX (by simp only [go_sem, ↓List.forall_mem_cons, List.not_mem_nil, false_implies, implies_true, and_true, true_and, and_self, ri_eq, Int.natCast_add, Int.cast_ofNat_Int, rc]; try simp) (by simp only [List.forall_mem_cons]; exact ⟨.self, by simp⟩) (Nat.le_refl _)
  · obtain rfl : k = C.length := by omega
    rw [List.take_length] at hXX
    have w := Try.l17Labels_f m X (by omega) hX.1 hX.2 (fun x y hx hy h => by rw [hXX y x hy hx, mustB_sym]; rw [hXX x y hx hy] at h; exact h)
    have w2 : FCall Try.prog 167 [.val (.int .i64 m), rb X] (FlatRes m 1 (ints (comp m (mustB C)))) := w.mono fun r H ⟨h1, h2⟩ => by
      rw [(h1.congr hXX).eq] at h2; exact h2
    simp (disch := omega) only [Try.ntmps154, Try.results154, go_sem, rc]
    refine w2.one.callOne (ints_vals _) 2 (viewL_cons_of view_int (viewL_cons_of (view_mb .self hX.1.symm) viewL_nil_of)) ?_
    simp (disch := omega) only [Try.ntmps154, Try.results154, go_sem, rc]
    exact fin_ints must_ok.len.symm (by rw [hx_map, xmap_blk, if_pos rfl])
theorem Try.specMust_not (n : Int) (C : List Con) (hC : C.length ≤ 1048576) (g1 : -9223372036854775808 ≤ n) (g2 : n ≤ 9223372036854775807) (h : areCons n C = false) : FCall Try.prog 154 [.val (.int .i64 n), rc C] (FlatRes 0 1 (ints [])) := by
  have w1 := Try.specAreConstraints_ok n C hC g1 g2
  rw [h] at w1
  refine FCall.of_body Try.func154 rfl (by kernel_rfl) (by simp [Try.ntmps154]) ?_
  refine SW_of_vc Try.mixed _ _ _ (by kernel_rfl) ?_
  simp (disch := omega) only [Try.ntmps154, Try.results154, go_sem, rc]
  refine w1.callV 0 (viewL_cons_of (view_int) (viewL_cons_of (view_row) viewL_nil_of)) ?_
  simp (disch := omega) only [Try.ntmps154, Try.results154, go_sem, rc]
  exact fin_ints (L := []) (b := 0) (e2 := false) rfl rfl
theorem Try.specMust_ok (n : Int) (C : List Con) (hC : C.length ≤ 1048576) (g1 : -9223372036854775808 ≤ n) (g2 : n ≤ 9223372036854775807) : PCall Try.prog 154 [.val (.int .i64 n), rc C] (ri (must n C)) := by
  rcases Bool.eq_false_or_eq_true (areCons n C) with h | h
  · exact (Try.specMust_f n C hC h).pcall 2 (fun _ _ h => flat_view h)
  · rw [must_f h]; exact (Try.specMust_not n C hC g1 g2 h).pcall 2 (fun _ _ h => flat_view h)
end Go.Sh

/-
  Contracts: conflicts of constraints. Of the reference and of the program.
-/
namespace Go.Sh
set_option linter.unusedSimpArgs false
set_option linter.unusedVariables false
open Go Go.Proofs

def cfl (L : List Int) (c : Con) : Bool := !c.2.2 && decide (L.getD c.1.toNat 0 = L.getD c.2.1.toNat 0)
noncomputable def conflict (n : Int) (C : List Con) : Int := if areCons n C = true then fidx (cfl (must n C)) C else -1
theorem conflict_t {n : Int} {C : List Con} (h : areCons n C = true) : conflict n C = fidx (cfl (must n C)) C := by rw [conflict, if_pos h]
theorem conflict_f {n : Int} {C : List Con} (h : areCons n C = false) : conflict n C = -1 := by rw [conflict, if_neg (by rw [h]; simp)]
theorem cfl_at (L : List Int) (x y : Nat) (s : Bool) : cfl L ((x : Int), (y : Int), s) = (!s && decide (L.getD x 0 = L.getD y 0)) := rfl

set_option maxHeartbeats 2000000 in
theorem Try.findFn_ok (L : List Int) (x y : Nat) (s : Bool) (hx : x < L.length) (hy : y < L.length) (hL : L.length ≤ 1048576) :
    PCall Try.prog 172 [.agg [.val (.int .i64 x), .val (.int .i64 y), .val (.bool s)], .rptr [ri L] 0] (.val (.bool (!s && decide (L.getD x 0 = L.getD y 0)))) := by
  refine FCall.pcall (R := fun r _ => r = .val (.bool (!s && decide (L.getD x 0 = L.getD y 0)))) ?_ 0 (by rintro r H rfl; exact view_bool)
  refine FCall.of_body Try.func172 rfl (by kernel_rfl) (by simp [Try.ntmps172]) ?_
  refine SW_of_vc Try.mixed _ _ _ (by kernel_rfl) ?_
  cases s with
  | true =>
    simp (disch := omega) only [Try.ntmps172, Try.results172, go_sem]
    exact Fin.val rfl
  | false =>
    have g1 := ints_get hx
    have g2 := ints_get hy
    generalize L.getD x 0 = a at *
    generalize L.getD y 0 = b at *
    by_cases h : a = b
    · simp (disch := omega) only [Try.ntmps172, Try.results172, go_sem, g1, g2]
      exact Fin.val (by simp [h])
    · simp (disch := omega) only [Try.ntmps172, Try.results172, go_sem, g1, g2]
      exact Fin.val (by simp [h])

theorem Try.implFind_ok (n : Int) (C : List Con) (hC : C.length ≤ 1048576) : PCall Try.prog 164 [.val (.int .i64 n), rc C] (.val (.int .i64 (conflict n C))) := by
  refine FCall.pcall (R := fun r _ => r = .val (.int .i64 (conflict n C))) ?_ 0 (by rintro r H rfl; exact view_int)
  refine FCall.of_body Try.func164 rfl (by kernel_rfl) (by simp [Try.ntmps164]) ?_
  refine SW_of_vc Try.mixed _ _ _ (by kernel_rfl) ?_
  rcases Bool.eq_false_or_eq_true (areCons n C) with h | h
  · have hl := must_length h
    obtain ⟨⟨n1, n2⟩, _, hg⟩ := areCons_t h
    rw [conflict_t h]
    simp (disch := omega) only [Try.ntmps164, Try.results164, go_sem, rc]
    refine (Try.implMust_one n C hC h).callOne (ints_vals _) 0 (viewL_cons_of (view_int) (viewL_cons_of (view_row) viewL_nil_of)) ?_
    simp (disch := omega) only [Try.ntmps164, Try.results164, go_sem, rc]
    refine (Try.indexFuncM_ok 172 [.rptr [ri (must n C)] 0] C (cfl (must n C)) hC (cap_rptr _ _) (fun k hk => ?_)).callV 3
      (viewL_cons_of view_row (viewL_cons_of (view_clos (viewL_cons_of (view_optr rfl (viewL_cons_of (view_own rfl hl.symm) viewL_nil_of)) viewL_nil_of)) viewL_nil_of)) ?_
    · obtain ⟨x, y, s, hc, hxy, hyn⟩ := con_nat h hk
      rw [hc]
      exact Try.findFn_ok (must n C) x y s (by omega) (by omega) (by omega)
    simp (disch := omega) only [Try.ntmps164, Try.results164, go_sem, rc]
    exact Fin.val rfl
  · rw [conflict_f h]
    simp (disch := omega) only [Try.ntmps164, Try.results164, go_sem, rc]
    refine (Try.implMust_nil n C hC h).callVal 0 (viewL_cons_of (view_int) (viewL_cons_of (view_row) viewL_nil_of)) ?_
    simp (disch := omega) only [Try.ntmps164, Try.results164, go_sem, rc]
    exact Fin.val rfl

set_option maxHeartbeats 2000000 in
theorem Try.specFind_ok (n : Int) (C : List Con) (hC : C.length ≤ 1048576) (z1 : -9223372036854775808 ≤ n) (z2 : n ≤ 9223372036854775807) : PCall Try.prog 134 [.val (.int .i64 n), rc C] (.val (.int .i64 (conflict n C))) := by
  refine FCall.pcall (R := fun r _ => r = .val (.int .i64 (conflict n C))) ?_ 0 (by rintro r H rfl; exact view_int)
  refine FCall.of_body Try.func134 rfl (by kernel_rfl) (by simp [Try.ntmps134]) ?_
  refine SW_of_vc Try.mixed _ _ _ (by kernel_rfl) ?_
  have lC := cons_length C
  have w := Try.specMust_ok n C hC z1 z2
  simp (disch := omega) only [Try.ntmps134, Try.results134, go_sem, rc]
  refine w.callV 0 (viewL_cons_of (view_int) (viewL_cons_of (view_row) viewL_nil_of)) ?_
  simp (disch := omega) only [Try.ntmps134, Try.results134, go_sem, rc]
  refine LoopW.loop (fun k : Nat => ⟨ofL [(1, rc C), (5, ri (must n C)), (6, .val (.int .i64 k))], hp [] 0⟩) (fun k => k ≤ C.length ∧ (areCons n C = true → ∀ i, i < k → cfl (must n C) (cg C i) = false) ∧ (areCons n C = false → k = 0)) (fun k => C.length - k) 0 ⟨by omega, by simp, by simp⟩ (Wk.of (by simp only [go_sem, ↓List.forall_mem_cons, List.not_mem_nil, false_implies, implies_true, and_true, true_and, and_self, ri_eq, Int.natCast_add, Int.cast_ofNat_Int, rc]; try simp) rfl) ?_
  rintro k ⟨hk, hkk, hk0⟩
  refine SW_of_vc Try.mixed _ _ _ (by kernel_rfl) ?_
  rcases Bool.eq_false_or_eq_true (areCons n C) with h | h
  · have hl := must_length h
    obtain ⟨⟨n1, n2⟩, _, hg⟩ := areCons_t h
    have hkk := hkk h
    rw [conflict_t h]
    generalize must n C = L at *
    by_cases hlt : k < C.length
    · obtain ⟨x, y, s, hc, hxy, hyn⟩ := con_nat h hlt
      obtain ⟨q0, q1, q2, q3⟩ := cons_of hlt hc
      have hcf := cfl_at L x y s
      cases s with
      | true =>
        simp (disch := omega) only [Try.ntmps134, Try.results134, go_sem, rc, q0, q1, q2, lC]
        refine ⟨k + 1, ⟨by omega, fun _ i hi => ?_, fun e => by rw [h] at e; cases e⟩, by omega, Wk.of (by simp only [go_sem, ↓List.forall_mem_cons, List.not_mem_nil, false_implies, implies_true, and_true, true_and, and_self, ri_eq, Int.natCast_add, Int.cast_ofNat_Int, rc]; try simp) rfl⟩
        rcases Nat.lt_succ_iff_lt_or_eq.mp hi with g | rfl
        · exact hkk i g
        · rw [hc, hcf]; rfl
      | false =>
        have g1 := ints_get (L := L) (k := x) (by omega)
        have g2 := ints_get (L := L) (k := y) (by omega)
        generalize hva : L.getD x 0 = a at *
        generalize hvb : L.getD y 0 = b at *
        by_cases hab : a = b
        · simp (disch := omega) only [Try.ntmps134, Try.results134, go_sem, rc, q0, q1, q2, lC, g1, g2]
          exact Fin.val (by rw [fidx_some hlt hkk (by rw [hc, hcf]; simp [hab])])
        · simp (disch := omega) only [Try.ntmps134, Try.results134, go_sem, rc, q0, q1, q2, lC, g1, g2]
          refine ⟨k + 1, ⟨by omega, fun _ i hi => ?_, fun e => by rw [h] at e; cases e⟩, by omega, Wk.of (by simp only [go_sem, ↓List.forall_mem_cons, List.not_mem_nil, false_implies, implies_true, and_true, true_and, and_self, ri_eq, Int.natCast_add, Int.cast_ofNat_Int, rc]; try simp) rfl⟩
          rcases Nat.lt_succ_iff_lt_or_eq.mp hi with g | rfl
          · exact hkk i g
          · rw [hc, hcf]; simp [hab]
    · simp (disch := omega) only [Try.ntmps134, Try.results134, go_sem, rc, lC]
      exact Fin.val (by rw [fidx_none (fun i hi => hkk i (by omega))])
  · have hm := must_f h
    rw [conflict_f h]
    by_cases hlt : k < C.length
    · simp (disch := omega) only [Try.ntmps134, Try.results134, go_sem, rc, lC, hm]
      exact Fin.val rfl
    · simp (disch := omega) only [Try.ntmps134, Try.results134, go_sem, rc, lC, hm]
      exact Fin.val rfl

def consistent (n : Int) (C : List Con) : Prop := areCons n C = true ∧ conflict n C < 0
open Classical in
noncomputable def isCst (n : Int) (C : List Con) : Bool := areCons n C && decide (conflict n C < 0)
theorem Try.implConsistent_ok (n : Int) (C : List Con) (hC : C.length ≤ 1048576) : PCall Try.prog 150 [.val (.int .i64 n), rc C] (.val (.bool (isCst n C))) := by
  refine FCall.pcall (R := fun r _ => r = .val (.bool (isCst n C))) ?_ 0 (by rintro r H rfl; exact view_bool)
  refine FCall.of_body Try.func150 rfl (by kernel_rfl) (by simp [Try.ntmps150]) ?_
  refine SW_of_vc Try.mixed _ _ _ (by kernel_rfl) ?_
  have w1 := Try.implAreConstraints_ok n C hC
  have w2 := Try.implFind_ok n C hC
  rcases Bool.eq_false_or_eq_true (areCons n C) with h | h
  · rw [h] at w1
    by_cases hc : conflict n C < 0
    · simp (disch := omega) only [Try.ntmps150, Try.results150, go_sem, rc]
      refine w1.callV 0 (viewL_cons_of (view_int) (viewL_cons_of (view_row) viewL_nil_of)) ?_
      simp (disch := omega) only [Try.ntmps150, Try.results150, go_sem, rc]
      refine w2.callV 0 (viewL_cons_of (view_int) (viewL_cons_of (view_row) viewL_nil_of)) ?_
      simp (disch := omega) only [Try.ntmps150, Try.results150, go_sem, rc]
      exact Fin.val (by simp [isCst, h, hc])
    · simp (disch := omega) only [Try.ntmps150, Try.results150, go_sem, rc]
      refine w1.callV 0 (viewL_cons_of (view_int) (viewL_cons_of (view_row) viewL_nil_of)) ?_
      simp (disch := omega) only [Try.ntmps150, Try.results150, go_sem, rc]
      refine w2.callV 0 (viewL_cons_of (view_int) (viewL_cons_of (view_row) viewL_nil_of)) ?_
      simp (disch := omega) only [Try.ntmps150, Try.results150, go_sem, rc]
      exact Fin.val (by simp [isCst, hc])
  · rw [h] at w1
    simp (disch := omega) only [Try.ntmps150, Try.results150, go_sem, rc]
    refine w1.callV 0 (viewL_cons_of (view_int) (viewL_cons_of (view_row) viewL_nil_of)) ?_
    simp (disch := omega) only [Try.ntmps150, Try.results150, go_sem, rc]
    exact Fin.val (by simp [isCst, h])
theorem Try.specConsistent_ok (n : Int) (C : List Con) (hC : C.length ≤ 1048576) (z1 : -9223372036854775808 ≤ n) (z2 : n ≤ 9223372036854775807) : PCall Try.prog 110 [.val (.int .i64 n), rc C] (.val (.bool (isCst n C))) := by
  refine FCall.pcall (R := fun r _ => r = .val (.bool (isCst n C))) ?_ 0 (by rintro r H rfl; exact view_bool)
  refine FCall.of_body Try.func110 rfl (by kernel_rfl) (by simp [Try.ntmps110]) ?_
  refine SW_of_vc Try.mixed _ _ _ (by kernel_rfl) ?_
  have w1 := Try.specAreConstraints_ok n C hC z1 z2
  have w2 := Try.specFind_ok n C hC z1 z2
  rcases Bool.eq_false_or_eq_true (areCons n C) with h | h
  · rw [h] at w1
    by_cases hc : conflict n C < 0
    · simp (disch := omega) only [Try.ntmps110, Try.results110, go_sem, rc]
      refine w1.callV 0 (viewL_cons_of (view_int) (viewL_cons_of (view_row) viewL_nil_of)) ?_
      simp (disch := omega) only [Try.ntmps110, Try.results110, go_sem, rc]
      refine w2.callV 0 (viewL_cons_of (view_int) (viewL_cons_of (view_row) viewL_nil_of)) ?_
      simp (disch := omega) only [Try.ntmps110, Try.results110, go_sem, rc]
      exact Fin.val (by simp [isCst, h, hc])
    · simp (disch := omega) only [Try.ntmps110, Try.results110, go_sem, rc]
      refine w1.callV 0 (viewL_cons_of (view_int) (viewL_cons_of (view_row) viewL_nil_of)) ?_
      simp (disch := omega) only [Try.ntmps110, Try.results110, go_sem, rc]
      refine w2.callV 0 (viewL_cons_of (view_int) (viewL_cons_of (view_row) viewL_nil_of)) ?_
      simp (disch := omega) only [Try.ntmps110, Try.results110, go_sem, rc]
      exact Fin.val (by simp [isCst, hc])
  · rw [h] at w1
    simp (disch := omega) only [Try.ntmps110, Try.results110, go_sem, rc]
    refine w1.callV 0 (viewL_cons_of (view_int) (viewL_cons_of (view_row) viewL_nil_of)) ?_
    simp (disch := omega) only [Try.ntmps110, Try.results110, go_sem, rc]
    exact Fin.val (by simp [isCst, h])
end Go.Sh

/-
  Contracts: how constraints relate two items. Of the reference and of the program.
-/
namespace Go.Sh
set_option linter.unusedSimpArgs false
set_option linter.unusedVariables false
open Go Go.Proofs

def apF (L : List Int) (p q : Int) (c : Con) : Bool := !c.2.2 && ((decide (L.getD c.1.toNat 0 = p) && decide (L.getD c.2.1.toNat 0 = q)) || (decide (L.getD c.1.toNat 0 = q) && decide (L.getD c.2.1.toNat 0 = p)))
theorem apF_at (L : List Int) (p q : Int) (x y : Nat) (s : Bool) : apF L p q ((x : Int), (y : Int), s) = (!s && ((decide (L.getD x 0 = p) && decide (L.getD y 0 = q)) || (decide (L.getD x 0 = q) && decide (L.getD y 0 = p)))) := rfl
noncomputable def relOf (n : Int) (C : List Con) (a b : Int) : Int :=
  if isCst n C = true ∧ inR a 0 (n - 1) = true ∧ inR b 0 (n - 1) = true then
    (if (must n C).getD a.toNat 0 = (must n C).getD b.toNat 0 then 1 else if C.any (apF (must n C) ((must n C).getD a.toNat 0) ((must n C).getD b.toNat 0)) = true then -1 else 0)
  else 0
theorem isCst_t {n : Int} {C : List Con} (h : isCst n C = true) : areCons n C = true := by
  simp only [isCst, Bool.and_eq_true] at h; exact h.1

end Go.Sh

/-
  What the search for the best partition finds: plain.
-/
namespace Go.Sh
set_option linter.unusedSimpArgs false
set_option linter.unusedVariables false
open Go Go.Proofs

def topP (nx : Int) (L : List Int) : Int := L.foldl (fun m x => max m (x + 1)) nx
theorem topP_append (nx : Int) (L K : List Int) : topP nx (L ++ K) = topP (topP nx L) K := by simp [topP, List.foldl_append]
theorem okP_append2 : ∀ (L K : List Int) (nx : Int), okP nx (L ++ K) = (okP nx L && okP (topP nx L) K)
  | [], K, nx => by simp [okP, topP]
  | x :: L, K, nx => by
    rw [List.cons_append, okP, okP_append2 L K, okP, Bool.and_assoc]
    rfl
theorem take_snocB {L : List Int} {k : Nat} (h : k < L.length) : L.take (k + 1) = L.take k ++ [L.getD k 0] := by
  rw [List.take_succ_eq_append_getElem h]; simp [h]
theorem okP_take {L : List Int} (h0 : ∀ x, x < L.length → 0 ≤ L.getD x 0) (hc : ∀ x v, x < L.length → 0 ≤ v → v < L.getD x 0 → ∃ y, y < x ∧ L.getD y 0 = v) : ∀ k, k ≤ L.length →
    okP 0 (L.take k) = true ∧ 0 ≤ topP 0 (L.take k) ∧ ∀ y, y < k → L.getD y 0 + 1 ≤ topP 0 (L.take k)
  | 0, _ => by simp [okP, topP]
  | k + 1, hk => by
    obtain ⟨h1, h2, h3⟩ := okP_take h0 hc k (by omega)
    rw [take_snocB (by omega), okP_append2, topP_append]
    have e : topP (topP 0 (L.take k)) [L.getD k 0] = max (topP 0 (L.take k)) (L.getD k 0 + 1) := rfl
    have hk0 := h0 k (by omega)
    have hle : L.getD k 0 ≤ topP 0 (L.take k) := by
      by_cases hz : L.getD k 0 = 0
      · omega
      · obtain ⟨y, g1, g2⟩ := hc k (L.getD k 0 - 1) (by omega) (by omega) (by omega)
        have := h3 y g1
        omega
    rw [e]
    refine ⟨?_, by omega, fun y hy => ?_⟩
    · simp only [okP, h1, Bool.and_true, Bool.true_and, inR, Bool.and_eq_true, decide_eq_true_eq]
      exact ⟨hk0, hle⟩
    · rcases Nat.lt_succ_iff_lt_or_eq.mp hy with h | rfl
      · have := h3 y h; omega
      · omega
theorem CompL.okP {n : Nat} {B : Nat → Nat → Bool} {L : List Int} (h : CompL n B L) : okP 0 L = true := by
  have hl := h.len
  have := (okP_take (L := L) (fun x hx => h.nn x (by omega)) (fun x v hx => h.can x v (by omega)) L.length (Nat.le_refl _)).1
  rwa [List.take_length] at this
theorem CompL.part {n : Nat} {B : Nat → Nat → Bool} {L : List Int} (h : CompL n B L) (h1 : 1 ≤ n) (h8 : n ≤ 8) : isPart L = true := by
  have hl := h.len
  rw [isPart, h.okP, hl]
  simp [inR]; omega
theorem must_part {n : Nat} {C : List Con} (h : areCons n C = true) : isPart (must n C) = true := by
  obtain ⟨⟨h1, h2⟩, _⟩ := areCons_t h
  rw [must_t h]
  exact must_ok.part (by omega) (by omega)
theorem isCst_neg {n : Int} {C : List Con} (h : isCst n C = true) : conflict n C < 0 := by
  rw [isCst, Bool.and_eq_true] at h
  simpa using h.2
/-- The closure of consistent constraints keeps them. -/
theorem must_keeps {n : Nat} {C : List Con} (h : isCst n C = true) : C.all (kp (must n C)) = true := by
  have ha := isCst_t h
  have hn := isCst_neg h
  rw [conflict_t ha] at hn
  have hno : C.any (cfl (must n C)) = false := by
    rw [← Bool.not_eq_true, ← fidx_ge]; omega
  have hl := must_length ha
  rw [List.all_eq_true]
  intro c hc
  obtain ⟨⟨h1, h2⟩, _, hg⟩ := areCons_t ha
  obtain ⟨g1, g2, g3⟩ := hg c hc
  rw [List.any_eq_false] at hno
  have hcf := hno c hc
  obtain ⟨a, b, s⟩ := c
  simp only at g1 g2 g3
  obtain ⟨x, rfl⟩ := Int.eq_ofNat_of_zero_le g1
  obtain ⟨y, rfl⟩ := Int.eq_ofNat_of_zero_le (by omega : 0 ≤ b)
  have r1 : inR (x : Int) 0 (((must n C).length : Int) - 1) = true := by rw [hl]; simp [inR]; omega
  have r2 : inR (y : Int) 0 (((must n C).length : Int) - 1) = true := by rw [hl]; simp [inR]; omega
  rw [kp]
  simp only [r1, r2, Bool.true_and]
  cases s with
  | false =>
    simp only [cfl, Bool.not_false, Bool.true_and, decide_eq_true_eq] at hcf
    rw [decide_eq_false hcf]; rfl
  | true =>
    have : mustB C x y = true := by
      rw [mustB, List.any_eq_true]
      exact ⟨_, hc, by simp [linkB]⟩
    have e : (must n C).getD x 0 = (must n C).getD y 0 := by
      rw [must_t ha]
      have hx : x < ((n : Int)).toNat := by omega
      have hy : y < ((n : Int)).toNat := by omega
      exact (must_ok.iff x y hx hy).2 (.one hx hy this)
    have e2 : (must n C).getD ((x : Int)).toNat 0 = (must n C).getD ((y : Int)).toNat 0 := e
    rw [decide_eq_true e2]; rfl

/-- What a search of all partitions keeps true. -/
theorem foldl_inv {α β : Type} {g : α → β → α} {I : α → Prop} : ∀ (l : List β) (s : α), I s → (∀ s x, x ∈ l → I s → I (g s x)) → I (l.foldl g s)
  | [], _, h, _ => h
  | x :: l, s, h, hg => by rw [List.foldl_cons]; exact foldl_inv l _ (hg s x (by simp) h) fun s y hy => hg s y (by simp [hy])
theorem each_inv {f : BS → List Int → BS} {I : BS → Prop} {n : Nat} (hf : ∀ s q, q.length = n → okP 0 q = true → I s → I (f s q)) : ∀ (k : Nat) (p : List Int) (nx : Nat) (s : BS), p.length + k = n → okP 0 p = true → topP 0 p = nx → I s → I (each f k p nx s)
  | 0, p, nx, s, hl, hp, _, hs => hf s p (by omega) hp hs
  | k + 1, p, nx, s, hl, hp, ht, hs => by
    rw [each]
    refine foldl_inv _ s hs fun s x hx hs => each_inv hf k _ _ s (by simp; omega) ?_ ?_ hs
    · have hx := List.mem_range.1 hx
      rw [okP_append2, hp, ht]
      simp [okP, inR]; omega
    · rw [topP_append, ht]
      simp [topP]; omega
theorem foldl_rel {α : Type} {g : α → Nat → α} {R : α → α → Prop} (hr : ∀ a, R a a) (ht : ∀ a b c, R a b → R b c → R a c) (hg : ∀ s x, R s (g s x)) : ∀ (l : List Nat) (s : α), R s (l.foldl g s)
  | [], s => hr s
  | x :: l, s => by rw [List.foldl_cons]; exact ht _ _ _ (hg s x) (foldl_rel hr ht hg l _)
theorem each_rel {f : BS → List Int → BS} {R : BS → BS → Prop} (hr : ∀ a, R a a) (ht : ∀ a b c, R a b → R b c → R a c) (hf : ∀ s q, R s (f s q)) : ∀ (k : Nat) (p : List Int) (nx : Nat) (s : BS), R s (each f k p nx s)
  | 0, p, nx, s => hf s p
  | k + 1, p, nx, s => by
    rw [each]
    exact foldl_rel hr ht (fun s x => each_rel hr ht hf k _ _ s) _ s
/-- Every partition is looked at. -/
theorem foldl_visit {α : Type} {g : α → Nat → α} {R : α → α → Prop} (ht : ∀ a b c, R a b → R b c → R a c) (hr : ∀ a, R a a) (hg : ∀ s x, R s (g s x)) {y : Nat} : ∀ (l : List Nat) (s : α), y ∈ l → ∃ s1, R s s1 ∧ R (g s1 y) (l.foldl g s)
  | x :: l, s, h => by
    rw [List.foldl_cons]
    by_cases e : y = x
    · subst e
      exact ⟨s, hr s, foldl_rel hr ht hg l _⟩
    · obtain ⟨s1, h1, h2⟩ := foldl_visit ht hr hg l (g s x) (by simpa [e] using h)
      exact ⟨s1, ht _ _ _ (hg s x) h1, h2⟩
theorem each_visit {f : BS → List Int → BS} {R : BS → BS → Prop} (hr : ∀ a, R a a) (ht : ∀ a b c, R a b → R b c → R a c) (hf : ∀ s q, R s (f s q)) : ∀ (k : Nat) (p r : List Int) (nx : Nat) (s : BS), r.length = k → okP nx r = true → ∃ s1, R s s1 ∧ R (f s1 (p ++ r)) (each f k p nx s)
  | 0, p, r, nx, s, hl, hp => by
    obtain rfl := List.length_eq_zero_iff.1 hl
    exact ⟨s, hr s, by rw [List.append_nil]; exact hr _⟩
  | k + 1, p, [], nx, s, hl, hp => by simp at hl
  | k + 1, p, y :: r, nx, s, hl, hp => by
    rw [okP, Bool.and_eq_true] at hp
    obtain ⟨y0, y1⟩ := inR_of hp.1
    obtain ⟨x, rfl⟩ := Int.eq_ofNat_of_zero_le y0
    rw [each]
    obtain ⟨s1, h1, h2⟩ := foldl_visit (g := fun s (x : Nat) => each f k (p ++ [(x : Int)]) (max nx (x + 1)) s) ht hr (fun s x => each_rel hr ht hf k _ _ s) (y := x) (List.range (nx + 1)) s (List.mem_range.2 (by omega))
    obtain ⟨s2, g1, g2⟩ := each_visit hr ht hf k (p ++ [(x : Int)]) r (max nx (x + 1)) s1 (by simpa using hl) (by
      have e : (((max nx (x + 1) : Nat)) : Int) = max (nx : Int) ((x : Int) + 1) := by omega
      rw [e]; exact hp.2)
    refine ⟨s2, ht _ _ _ h1 g1, ht _ _ _ ?_ h2⟩
    rw [List.append_assoc] at g2
    exact g2

def bs (M : List (List Int)) (C : List Con) : BS := each (updB M C) M.length [] 0 ⟨[], -1, 0⟩
structure Best (M : List (List Int)) (C : List Con) (s : BS) : Prop where
  nn : s.least < 0 → s.least = -1 ∧ s.first = [] ∧ s.count = 0
  ok : 0 ≤ s.least → s.first.length = M.length ∧ okP 0 s.first = true ∧ C.all (kp s.first) = true ∧ cc M s.first M.length = s.least ∧ 0 < s.count
theorem Best.updB {M : List (List Int)} {C : List Con} (hw : WM M) {s : BS} {q : List Int} (hl : q.length = M.length) (hq : okP 0 q = true) (h : Best M C s) : Best M C (updB M C s q) := by
  unfold Go.Sh.updB
  have hc := cc_b (L := q) hw M.length (Nat.le_refl _)
  split
  · rename_i hk
    rw [hl]
    split
    · exact ⟨fun g => by simp only at g; omega, fun _ => ⟨hl, hq, hk, rfl, by simp⟩⟩
    · split
      · rename_i g1 g2
        refine ⟨fun g => by simp only at g; omega, fun g => ?_⟩
        obtain ⟨a1, a2, a3, a4, a5⟩ := h.ok (by omega)
        exact ⟨a1, a2, a3, a4, by simp⟩
      · exact h
  · exact h
theorem bs_best {M : List (List Int)} {C : List Con} (hw : WM M) : Best M C (bs M C) :=
  each_inv (n := M.length) (fun s q h1 h2 h3 => h3.updB hw h1 h2) M.length [] 0 _ (by simp) rfl rfl ⟨fun _ => ⟨rfl, rfl, rfl⟩, fun h => by simp at h⟩
def Dn (s t : BS) : Prop := 0 ≤ s.least → 0 ≤ t.least ∧ t.least ≤ s.least
theorem upd_dn {M : List (List Int)} {C : List Con} (hw : WM M) (s : BS) (q : List Int) : q.length = M.length → Dn s (updB M C s q) := by
  intro hl h
  have hc := cc_b (L := q) hw M.length (Nat.le_refl _)
  unfold updB
  rw [hl]
  split
  · split
    · exact ⟨hc.1, by show cc M q M.length ≤ _; omega⟩
    · split
      · exact ⟨h, Int.le_refl _⟩
      · exact ⟨h, Int.le_refl _⟩
  · exact ⟨h, Int.le_refl _⟩
/-- No partition that keeps the constraints costs less. -/
theorem bs_least {M : List (List Int)} {C : List Con} (hw : WM M) {q : List Int} (hl : q.length = M.length) (hq : okP 0 q = true) (hk : C.all (kp q) = true) : 0 ≤ (bs M C).least ∧ (bs M C).least ≤ cc M q M.length := by
  have hc := cc_b (L := q) hw M.length (Nat.le_refl _)
  let f : BS → List Int → BS := fun s p => if p.length = M.length then updB M C s p else s
  have hfe : ∀ (k : Nat) (p : List Int) (nx : Nat) (s : BS), p.length + k = M.length → each f k p nx s = each (updB M C) k p nx s := by
    intro k
    induction k with
    | zero => intro p nx s h; exact if_pos (by omega)
    | succ k ih =>
      intro p nx s h
      rw [each, each]
      exact foldl_same _ _ fun s x _ => ih _ _ _ (by simp; omega)
  obtain ⟨s1, _, h2⟩ := each_visit (f := f) (R := Dn) (fun a h => ⟨h, Int.le_refl _⟩) (fun a b c h1 h2 h => by
    obtain ⟨a1, a2⟩ := h1 h
    obtain ⟨b1, b2⟩ := h2 a1
    exact ⟨b1, by omega⟩) (fun s p => by
      show Dn s (if p.length = M.length then updB M C s p else s)
      split
      · rename_i h; exact upd_dn hw s p h
      · exact fun h => ⟨h, Int.le_refl _⟩) M.length [] q 0 ⟨[], -1, 0⟩ hl hq
  rw [hfe _ _ _ _ (by simp), List.nil_append] at h2
  have e : f s1 q = updB M C s1 q := if_pos hl
  have h3 : 0 ≤ (updB M C s1 q).least ∧ (updB M C s1 q).least ≤ cc M q M.length := by
    unfold updB
    rw [if_pos hk, hl]
    split
    · exact ⟨hc.1, Int.le_refl _⟩
    · split
      · rename_i g1 g2
        exact ⟨by show 0 ≤ s1.least; omega, by show s1.least ≤ _; omega⟩
      · exact ⟨by omega, by omega⟩
  rw [e] at h2
  obtain ⟨a1, a2⟩ := h2 h3.1
  exact ⟨a1, by have : (each (updB M C) M.length [] 0 ⟨[], -1, 0⟩) = bs M C := rfl
                rw [this] at a2; omega⟩
/-- Consistent constraints are kept by a partition. -/
theorem bs_ok {M : List (List Int)} {C : List Con} (hw : WM M) (h : isCst M.length C = true) : 0 ≤ (bs M C).least := by
  have hp := must_part (isCst_t h)
  have hl := must_length (isCst_t h)
  rw [isPart, Bool.and_eq_true] at hp
  exact (bs_least hw (q := must M.length C) (by omega) hp.1 (must_keeps h)).1
theorem bs_walk {M : List (List Int)} {C : List Con} (hw : WM M) (h : areCons M.length C = true) : walkB M C M.length [] 0 0 ⟨[], -1, 0⟩ = bs M C := by
  have hg : C.all (goodCon M.length) = true := by
    rw [areCons] at h
    simp only [Bool.and_eq_true] at h
    exact h.2.2
  exact walk_each hw hg M.length [] 0 _ (by simp) (fun c hc hlt => by
    have g := List.all_eq_true.1 hg c hc
    simp only [goodCon, Bool.and_eq_true] at g
    have := inR_of g.2.1
    simp at hlt; omega)
end Go.Sh

/-
  Contracts: a number repeated.
-/
namespace Go.Sh
set_option linter.unusedSimpArgs false
set_option linter.unusedVariables false
open Go Go.Proofs

theorem fin_tup2 {R : SV → Heap → Prop} {a b : Value} {H : Heap} (h : R (.tup [.val a, .val b]) ⟨fun _ => none, H.nb⟩) : Fin R (.tup [.val a, .val b]) H :=
  ⟨⟨fun _ => none, H.nb⟩, ⟨rfl, fun _ => .inl rfl⟩, by simp [noRow, noRowL], fun b blk hb => by simp at hb, h⟩
theorem view_tup2 {H : Heap} {f : Nat} {j k : IntKind} {a b : Int} : view H (f + 1) (.tup [.val (.int j a), .val (.int k b)]) = some (.tup [.val (.int j a), .val (.int k b)]) := by
  simp only [view, viewL, viewV]

set_option maxHeartbeats 4000000 in
theorem Try.mul64_ok (n : Nat) (h : n ≤ 8) : PCall Try.prog 147 [.val (.int .u64 1), .val (.int .u64 n)] (.tup [.val (.int .u64 0), .val (.int .u64 n)]) := by
  refine FCall.pcall (R := fun r _ => r = .tup [.val (.int .u64 0), .val (.int .u64 n)]) ?_ 1 (by rintro r H rfl; exact view_tup2)
  refine FCall.of_body Try.func147 rfl (by kernel_rfl) (by simp [Try.ntmps147]) ?_
  refine SW_of_vc Try.mixed _ _ _ (by kernel_rfl) ?_
  simp (disch := omega) only [Try.ntmps147, Try.results147, go_sem]
  refine fin_tup2 ?_
  rcases (by omega : n = 0 ∨ n = 1 ∨ n = 2 ∨ n = 3 ∨ n = 4 ∨ n = 5 ∨ n = 6 ∨ n = 7 ∨ n = 8) with rfl | rfl | rfl | rfl | rfl | rfl | rfl | rfl | rfl
  all_goals kernel_rfl
set_option maxHeartbeats 4000000 in
theorem Try.bitsMul_ok (n : Nat) (h : n ≤ 8) : PCall Try.prog 127 [.val (.int .u64 1), .val (.int .u64 n)] (.tup [.val (.int .u64 0), .val (.int .u64 n)]) := by
  refine FCall.pcall (R := fun r _ => r = .tup [.val (.int .u64 0), .val (.int .u64 n)]) ?_ 1 (by rintro r H rfl; exact view_tup2)
  refine FCall.of_body Try.func127 rfl (by kernel_rfl) (by simp [Try.ntmps127]) ?_
  refine SW_of_vc Try.mixed _ _ _ (by kernel_rfl) ?_
  simp (disch := omega) only [Try.ntmps127, Try.results127, go_sem]
  refine (Try.mul64_ok n h).callV 0 (viewL_cons_of (view_int) (viewL_cons_of (view_int) viewL_nil_of)) ?_
  simp (disch := omega) only [Try.ntmps127, Try.results127, go_sem]
  exact fin_tup2 rfl

def repL (n c : Nat) (a : Int) : List Int := List.replicate c a ++ List.replicate (n - c) 0
theorem repL_length {n c : Nat} {a : Int} (h : c ≤ n) : (repL n c a).length = n := by simp [repL]; omega
theorem repL_zero (n : Nat) (a : Int) : repL n 0 a = List.replicate n 0 := by simp [repL]
theorem repL_all (n : Nat) (a : Int) : repL n n a = List.replicate n a := by simp [repL]
theorem repL_splice {n c m : Nat} {a : Int} (h : c + m ≤ n) : splice (ints (repL n c a)) c (ints (List.replicate m a)) = ints (repL n (c + m) a) := by
  have e1 : ints (repL n c a) = ints (List.replicate c a) ++ (ints (List.replicate m 0) ++ ints (List.replicate (n - c - m) 0)) := by
    rw [repL, ints_append, ints_append]
    congr 2
    have : n - c = m + (n - c - m) := by omega
    conv => lhs; rw [this]
    rw [← List.replicate_append_replicate]
  have e2 : c = (ints (List.replicate c a)).length + 0 := by simp [ints]
  rw [e1]
  conv => lhs; arg 2; rw [e2]
  rw [splice_app, splice_front _ _ _ (by simp [ints]), repL, ints_append, ints_append]
  congr 1
  rw [← List.replicate_append_replicate, List.append_assoc]
  congr 3; omega
theorem repL_take {n c m : Nat} {a : Int} (h : m ≤ c) : (repL n c a).take m = List.replicate m a := by
  rw [repL, List.take_append_of_le_length (by simpa using h), List.take_replicate]
  congr 1; omega

set_option maxHeartbeats 4000000 in
theorem Try.repeat_f (n : Nat) (a : Int) (h1 : 1 ≤ n) (h : n ≤ 8) : FCall Try.prog 97 [ri [a], .val (.int .i64 n)] (FlatRes n 1 (ints (List.replicate n a))) := by
  refine FCall.of_body Try.func97 rfl (by kernel_rfl) (by simp [Try.ntmps97]) ?_
  refine SW_of_vc Try.mixed _ _ _ (by kernel_rfl) ?_
  have hz := repL_zero n a
  have e1 : IntKind.u64.wrap ((1 : Nat) : Int) = 1 := by kernel_rfl
  have e2 : IntKind.u64.wrap (n : Int) = n := by
    rcases (by omega : n = 1 ∨ n = 2 ∨ n = 3 ∨ n = 4 ∨ n = 5 ∨ n = 6 ∨ n = 7 ∨ n = 8) with rfl | rfl | rfl | rfl | rfl | rfl | rfl | rfl
    all_goals kernel_rfl
  simp (disch := omega) only [Try.ntmps97, Try.results97, go_sem, e1, e2]
  have hmin : min 1 n = 1 := by omega
  have hlr : (List.replicate n (0 : Int)).length = n := by simp
  have ht1 : (ints (List.replicate n 0)).take n = ints (List.replicate n 0) := ints_take_of hlr
  have ht2 : (ints [a]).take 1 = ints [a] := rfl
  have hs0 : splice (ints (List.replicate n 0)) 0 (ints [a]) = ints (repL n 1 a) := by
    have := repL_splice (n := n) (c := 0) (m := 1) (a := a) (by omega)
    rwa [hz] at this
  refine (Try.bitsMul_ok n h).callV 0 (viewL_cons_of (view_int) (viewL_cons_of (view_int) viewL_nil_of)) ?_
  simp (disch := omega) only [Try.ntmps97, Try.results97, go_sem, e1, e2, hlr, ht1, ints_flat, hmin, ht2, hs0]
  refine LoopW.loop (fun c : Nat => ⟨ofL [(7, .own 0 0 n n 1 true), (8, .val (.int .i64 c))], hp [(0, ⟨ints (repL n c a), true⟩)] 1⟩) (fun c => 1 ≤ c ∧ c ≤ n) (fun c => n - c) 1 ⟨by omega, h1⟩ (Wk.of (by simp only [go_sem, ↓List.forall_mem_cons, List.not_mem_nil, false_implies, implies_true, and_true, true_and, and_self, ri_eq, Int.natCast_add, Int.cast_ofNat_Int]; try simp) rfl) ?_
  rintro c ⟨hc1, hc⟩
  have hl := repL_length (a := a) hc
  refine SW_of_vc Try.mixed _ _ _ (by kernel_rfl) ?_
  by_cases hlt : c < n
  · obtain ⟨m, hm⟩ : ∃ m, min c (n - c) = m := ⟨_, rfl⟩
    have hm1 : c + m ≤ n := by omega
    have hm2 : m ≤ c := by omega
    have hm3 : 1 ≤ m := by omega
    have hsp := repL_splice (n := n) (c := c) (m := m) (a := a) hm1
    have htk := repL_take (n := n) (c := c) (m := m) (a := a) hm2
    have htc : ((ints (repL n c a)).take c).take m = ints (List.replicate m a) := by rw [List.take_take, Nat.min_eq_left hm2, ints_take, htk]
    have hfl : ((ints (repL n c a)).take c).all flat = true := by rw [ints_take]; exact ints_flat _
    simp (disch := omega) only [Try.ntmps97, Try.results97, go_sem, hl, hfl, hm, htc, hsp]
    exact ⟨c + m, ⟨by omega, hm1⟩, by omega, Wk.of (by simp only [go_sem, ↓List.forall_mem_cons, List.not_mem_nil, false_implies, implies_true, and_true, true_and, and_self, ri_eq, Int.natCast_add, Int.cast_ofNat_Int]; try simp) rfl⟩
  · obtain rfl : c = n := by omega
    rw [repL_all]
    simp (disch := omega) only [Try.ntmps97, Try.results97, go_sem]
    exact fin_ints (by simp) (by rw [hp_map, hmap_cons, if_pos rfl])
theorem Try.repeat_one (n : Nat) (a : Int) (h1 : 1 ≤ n) (h : n ≤ 8) : FCall Try.prog 97 [ri [a], .val (.int .i64 n)] (OneRes n 1 (ints (List.replicate n a))) := (Try.repeat_f n a h1 h).one
end Go.Sh

/-
  Contracts: labels by first occurrence. Of the reference.
-/
namespace Go.Sh
set_option linter.unusedSimpArgs false
set_option linter.unusedVariables false
open Go Go.Proofs

theorem cstep_nodup {s : List Int × List Int} {x : Int} (h : s.1.Nodup) : (cstep s x).1.Nodup := by
  unfold cstep
  split
  · exact h
  · rename_i hx
    show (s.1 ++ [x]).Nodup
    rw [List.nodup_append]
    refine ⟨h, by simp, ?_⟩
    intro a ha b hb
    simp at hb
    subst hb
    exact fun e => hx (e ▸ ha)
theorem cst_nodup : ∀ (L : List Int) (s : List Int × List Int), s.1.Nodup → (L.foldl cstep s).1.Nodup
  | [], s, h => h
  | x :: L, s, h => cst_nodup L (cstep s x) (cstep_nodup h)
theorem idx_eq {x : Int} {L : List Int} {k : Nat} (hk : k < L.length) (hd : L.Nodup) (e : L.getD k 0 = x) : idx x (L.take (k + 1)) = k := by
  refine idx_some (by simp; omega) (fun i hi => ?_) ?_
  · intro h
    have hi' : i < L.length := by omega
    have h1 : L[i] = L[k] := by
      have h2 : (L.take (k + 1)).getD i 0 = L[i] := by simp [hi', show i < k + 1 by omega]
      have h3 : L.getD k 0 = L[k] := by simp [hk]
      rw [← h2, h, ← h3, e]
    exact List.pairwise_iff_getElem.1 hd i k hi' hk hi h1
  · rw [← e]; simp [hk]
theorem idx_ne {x : Int} {L : List Int} {k : Nat} (hk : k < L.length) (e : L.getD k 0 ≠ x) : idx x (L.take (k + 1)) = idx x (L.take k) := by
  have h3 : L.getD k 0 = L[k] := by simp [hk]
  rw [h3] at e
  rw [List.take_succ_eq_append_getElem hk]
  unfold idx
  by_cases h : x ∈ L.take k
  · rw [if_pos h, if_pos (List.mem_append.2 (.inl h)), List.idxOf_append, if_pos h]
  · rw [if_neg h, if_neg]
    simp only [List.mem_append, List.mem_singleton, not_or]
    exact ⟨h, fun h => e h.symm⟩
theorem idx_nil (x : Int) : idx x [] = -1 := by simp [idx]

set_option maxHeartbeats 2000000 in
theorem Try.specCanon_f (L : List Int) (hL : L.length ≤ 1048576) : FCall Try.prog 100 [ri L] (FlatRes L.length 1 (ints (canon L))) := by
  refine FCall.of_body Try.func100 rfl (by kernel_rfl) (by simp [Try.ntmps100]) ?_
  refine SW_of_vc Try.mixed _ _ _ (by kernel_rfl) ?_
  simp (disch := omega) only [Try.ntmps100, Try.results100, go_sem]
  refine LoopW.loop (fun p : Nat × Nat × Nat × Nat => ⟨ofL [(0, ri L), (3, .own p.2.1 0 (cst (L.take p.1)).2.length (cst (L.take p.1)).2.length 1 false), (4, .own p.2.2.1 0 (cst (L.take p.1)).1.length (cst (L.take p.1)).1.length 1 false), (5, .val (.int .i64 p.1))],
      hp [(p.2.1, ⟨ints (cst (L.take p.1)).2, false⟩), (p.2.2.1, ⟨ints (cst (L.take p.1)).1, false⟩)] p.2.2.2⟩)
    (fun p => p.1 ≤ L.length ∧ p.2.1 < p.2.2.2 ∧ p.2.2.1 < p.2.2.2 ∧ p.2.1 ≠ p.2.2.1) (fun p => L.length - p.1) (0, 0, 1, 2) ⟨by simp, by simp, by simp, by simp⟩
    (Wk.ofH (by simp only [go_sem, ↓List.forall_mem_cons, List.not_mem_nil, false_implies, implies_true, and_true, true_and, and_self, ri_eq, Int.natCast_add, Int.cast_ofNat_Int, List.take_zero, cst_zero, List.length_nil]; try simp) (by simp (disch := omega) only [go_sem, ↓List.forall_mem_cons, List.not_mem_nil, false_implies, implies_true, and_true, true_and, and_self, ri_eq, Int.natCast_add, Int.cast_ofNat_Int, if_pos, if_neg, Nat.reduceAdd, List.nil_append, List.take_zero, cst_zero, ints_nil]; try simp) (by simp [hp])) ?_
  rintro ⟨k, b1, b2, nb⟩ ⟨hk, hb1, hb2, hb3⟩
  simp only at hk hb1 hb2 hb3
  have l1 := cst_len1 (L.take k)
  have l2 := cst_len2 (L.take k)
  have l3 : (L.take k).length = k := by simp; omega
  have e1 := fun h => cst_succ (L := L) (k := k) h
  have hd : (cst (L.take k)).1.Nodup := cst_nodup _ _ (by simp)
  generalize he : cst (L.take k) = st at *
  obtain ⟨seen, out⟩ := st
  simp only at l1 l2 e1 hd ⊢
  refine SW_of_vc Try.mixed _ _ _ (by kernel_rfl) ?_
  by_cases hlt : k < L.length
  · have e1 := e1 hlt
    simp (disch := omega) only [Try.ntmps100, Try.results100, go_sem]
    refine LoopW.loop (fun i : Nat => ⟨ofL [(0, ri L), (3, .own b1 0 out.length out.length 1 false), (4, .own b2 0 seen.length seen.length 1 false), (5, .val (.int .i64 k)), (6, .val (.int .i64 (idx (L.getD k 0) (seen.take i)))), (7, .val (.int .i64 i))],
        hp [(b1, ⟨ints out, false⟩), (b2, ⟨ints seen, false⟩)] nb⟩) (fun i => i ≤ seen.length) (fun i => seen.length - i) 0 (by omega) (Wk.of (by simp only [go_sem, ↓List.forall_mem_cons, List.not_mem_nil, false_implies, implies_true, and_true, true_and, and_self, ri_eq, Int.natCast_add, Int.cast_ofNat_Int, List.take_zero, idx_nil]; try simp) rfl) ?_
    intro i hi
    refine SW_of_vc Try.mixed _ _ _ (by kernel_rfl) ?_
    by_cases hil : i < seen.length
    · by_cases hx : seen.getD i 0 = L.getD k 0
      · have ei := idx_eq hil hd hx
        simp (disch := omega) only [Try.ntmps100, Try.results100, go_sem]
        exact ⟨i + 1, by omega, by omega, Wk.of (by simp only [go_sem, ↓List.forall_mem_cons, List.not_mem_nil, false_implies, implies_true, and_true, true_and, and_self, ri_eq, Int.natCast_add, Int.cast_ofNat_Int, ei]; try simp) rfl⟩
      · have ei := idx_ne hil hx
        simp (disch := omega) only [Try.ntmps100, Try.results100, go_sem]
        exact ⟨i + 1, by omega, by omega, Wk.of (by simp only [go_sem, ↓List.forall_mem_cons, List.not_mem_nil, false_implies, implies_true, and_true, true_and, and_self, ri_eq, Int.natCast_add, Int.cast_ofNat_Int, ei]; try simp) rfl⟩
    · obtain rfl : i = seen.length := by omega
      rw [List.take_length]
      by_cases hm : L.getD k 0 ∈ seen
      · have hi := idx_nonneg hm
        simp (disch := omega) only [Try.ntmps100, Try.results100, go_sem]
        simp only [cstep, if_pos hm] at e1
        refine ⟨(k + 1, nb + 1, b2, nb + 1 + 1), ⟨hlt, by show nb + 1 < nb + 1 + 1; omega, by show b2 < nb + 1 + 1; omega, by show nb + 1 ≠ b2; omega⟩, by show L.length - (k + 1) < L.length - k; omega, ?_⟩
        exact Wk.ofH (by simp only [go_sem, ↓List.forall_mem_cons, List.not_mem_nil, false_implies, implies_true, and_true, true_and, and_self, ri_eq, Int.natCast_add, Int.cast_ofNat_Int, e1, List.length_append, List.length_cons, List.length_nil, Nat.zero_add]; try simp) (by simp (disch := omega) only [go_sem, ↓List.forall_mem_cons, List.not_mem_nil, false_implies, implies_true, and_true, true_and, and_self, ri_eq, Int.natCast_add, Int.cast_ofNat_Int, if_pos, if_neg, Nat.reduceAdd, List.nil_append, e1]; try simp) (by simp [hp])
      · rw [idx_neg hm]
        simp (disch := omega) only [Try.ntmps100, Try.results100, go_sem]
        simp only [cstep, if_neg hm] at e1
        refine ⟨(k + 1, nb + 1 + 1 + 1, nb + 1, nb + 1 + 1 + 1 + 1), ⟨hlt, by show nb + 1 + 1 + 1 < nb + 1 + 1 + 1 + 1; omega, by show nb + 1 < nb + 1 + 1 + 1 + 1; omega, by show nb + 1 + 1 + 1 ≠ nb + 1; omega⟩, by show L.length - (k + 1) < L.length - k; omega, ?_⟩
        exact Wk.ofH (by simp only [go_sem, ↓List.forall_mem_cons, List.not_mem_nil, false_implies, implies_true, and_true, true_and, and_self, ri_eq, Int.natCast_add, Int.cast_ofNat_Int, e1, List.length_append, List.length_cons, List.length_nil, Nat.zero_add]; try simp) (by simp (disch := omega) only [go_sem, ↓List.forall_mem_cons, List.not_mem_nil, false_implies, implies_true, and_true, true_and, and_self, ri_eq, Int.natCast_add, Int.cast_ofNat_Int, if_pos, if_neg, Nat.reduceAdd, List.nil_append, e1]; try simp) (by simp [hp])
  · simp (disch := omega) only [Try.ntmps100, Try.results100, go_sem]
    have e2 : canon L = out := by
      have : L.take k = L := List.take_of_length_le (by omega)
      rw [canon, ← this, he]
    have e3 : out.length = L.length := by rw [l2, l3]; omega
    rw [e2, e3]
    exact fin_ints e3.symm (by rw [hp_map, hmap_cons, if_pos rfl])
theorem Try.specCanon_ok (L : List Int) (hL : L.length ≤ 1048576) : PCall Try.prog 100 [ri L] (ri (canon L)) :=
  (Try.specCanon_f L hL).pcall 2 (fun _ _ h => flat_view h)
end Go.Sh

/-
  Contracts: pairs of partitions and their meet. Of the reference and of the program.
-/
namespace Go.Sh
set_option linter.unusedSimpArgs false
set_option linter.unusedVariables false
open Go Go.Proofs

def pairB (A B : List Int) : Bool := isPart A && (isPart B && decide (A.length = B.length))
theorem pairB_t {A B : List Int} (h : pairB A B = true) : isPart A = true ∧ isPart B = true ∧ A.length = B.length := by
  simpa [pairB] using h

theorem okP_bound : ∀ (L : List Int) (nx : Int), okP nx L = true → ∀ i, i < L.length → 0 ≤ L.getD i 0 ∧ L.getD i 0 ≤ nx + i
  | [], nx, _, i, hi => by simp at hi
  | x :: L, nx, h, i, hi => by
    rw [okP, Bool.and_eq_true] at h
    obtain ⟨h1, h2⟩ := inR_of h.1
    match i with
    | 0 => simp; omega
    | i + 1 =>
      have := okP_bound L (max nx (x + 1)) h.2 i (by simpa using hi)
      have e : (x :: L).getD (i + 1) 0 = L.getD i 0 := by simp
      rw [e]
      omega
theorem isPart_len {L : List Int} (h : isPart L = true) : 1 ≤ L.length ∧ L.length ≤ 8 := by
  rw [isPart, Bool.and_eq_true] at h
  have := inR_of h.2
  omega
theorem isPart_bound {L : List Int} (h : isPart L = true) {i : Nat} (hi : i < L.length) : 0 ≤ L.getD i 0 ∧ L.getD i 0 ≤ 7 := by
  have hl := isPart_len h
  rw [isPart, Bool.and_eq_true] at h
  have := okP_bound L 0 h.1 i hi
  omega

def both (A B : List Int) : List Int := List.zipWith (fun x y => x * 8 + y) A B
theorem both_length {A B : List Int} (h : A.length = B.length) : (both A B).length = A.length := by simp [both, h]
theorem both_take {A B : List Int} {k : Nat} (h : A.length = B.length) (hk : k < A.length) : (both A B).take (k + 1) = (both A B).take k ++ [A.getD k 0 * 8 + B.getD k 0] := by
  have hb : k < (both A B).length := by rw [both_length h]; exact hk
  rw [List.take_succ_eq_append_getElem hb]
  congr 2
  have hk2 : k < B.length := by omega
  simp [both, hk, hk2]
theorem both_take_len {A B : List Int} {k : Nat} (h : A.length = B.length) (hk : k ≤ A.length) : ((both A B).take k).length = k := by
  rw [List.length_take, both_length h]; omega
def meet (A B : List Int) : List Int := canon (if pairB A B = true then both A B else [])

def meetF (A B : List Int) : Nat × Nat × Nat → St
  | (0, _, nb) => ⟨ofL [(0, ri A), (1, ri B), (5, .val (.slice none 0 0)), (12, .val (.int .i64 A.length)), (13, .val (.int .i64 0))], hp [] nb⟩
  | (k + 1, b, nb) => ⟨ofL [(0, ri A), (1, ri B), (5, .own b 0 (k + 1) (k + 1) 1 false), (12, .val (.int .i64 A.length)), (13, .val (.int .i64 ((k + 1 : Nat) : Int)))], hp [(b, ⟨ints ((both A B).take (k + 1)), false⟩)] nb⟩

theorem meet_f {A B : List Int} (h : pairB A B = false) : meet A B = [] := by rw [meet, if_neg (by simp [h])]; rfl
theorem meet_length {A B : List Int} (h : pairB A B = true) : (meet A B).length = A.length := by
  rw [meet, if_pos h, canon_length, both_length (pairB_t h).2.2]

end Go.Sh

/-
  Labels by first occurrence: what they tell of the list; refinement as equality of the meet.
-/
namespace Go.Sh
set_option linter.unusedSimpArgs false
set_option linter.unusedVariables false
open Go Go.Proofs

theorem idx_append {x y : Int} {S : List Int} (h : x ∈ S) : idx x (S ++ [y]) = idx x S := by
  unfold idx
  rw [if_pos h, if_pos (List.mem_append.2 (.inl h)), List.idxOf_append, if_pos h]
theorem idx_last {x : Int} {S : List Int} (h : ¬ x ∈ S) : idx x (S ++ [x]) = S.length := by
  unfold idx
  rw [if_pos (by simp), List.idxOf_append, if_neg h]
  simp
theorem idx_inj {x y : Int} {S : List Int} (hx : x ∈ S) (hy : y ∈ S) (h : idx x S = idx y S) : x = y := by
  unfold idx at h
  rw [if_pos hx, if_pos hy] at h
  have h' : S.idxOf x = S.idxOf y := by omega
  have h1 := List.getElem_idxOf (List.idxOf_lt_length_of_mem hx)
  have h2 := List.getElem_idxOf (List.idxOf_lt_length_of_mem hy)
  rw [← h1, ← h2]
  simp only [h']

theorem cst_spec (X : List Int) : ∀ k, k ≤ X.length → (∀ i, i < k → X.getD i 0 ∈ (cst (X.take k)).1 ∧ (cst (X.take k)).2.getD i 0 = idx (X.getD i 0) (cst (X.take k)).1) ∧ ∀ z, z ∈ (cst (X.take k)).1 → ∃ i, i < k ∧ X.getD i 0 = z
  | 0, _ => by
    refine ⟨fun i hi => by omega, fun z hz => ?_⟩
    rw [List.take_zero, cst_zero] at hz
    simp at hz
  | k + 1, hk => by
    obtain ⟨h1, h2⟩ := cst_spec X k (by omega)
    have e := cst_succ (L := X) (k := k) (by omega)
    have hlen : (cst (X.take k)).2.length = k := by rw [cst_len2]; simp; omega
    rw [e]
    generalize hs : cst (X.take k) = st at *
    obtain ⟨S, O⟩ := st
    simp only at h1 h2 hlen ⊢
    unfold cstep
    simp only
    by_cases hx : X.getD k 0 ∈ S
    · rw [if_pos hx]
      refine ⟨fun i hi => ?_, fun z hz => ?_⟩
      · rcases Nat.lt_succ_iff_lt_or_eq.mp hi with h | rfl
        · obtain ⟨g1, g2⟩ := h1 i h
          refine ⟨g1, ?_⟩
          rw [← g2]
          simp [List.getD, List.getElem?_append_left (show i < O.length by omega)]
        · refine ⟨hx, ?_⟩
          simp [List.getD, List.getElem?_append_right (show O.length ≤ i by omega), hlen]
      · obtain ⟨i, g1, g2⟩ := h2 z hz
        exact ⟨i, by omega, g2⟩
    · rw [if_neg hx]
      refine ⟨fun i hi => ?_, fun z hz => ?_⟩
      · rcases Nat.lt_succ_iff_lt_or_eq.mp hi with h | rfl
        · obtain ⟨g1, g2⟩ := h1 i h
          refine ⟨List.mem_append.2 (.inl g1), ?_⟩
          show (O ++ [(S.length : Int)]).getD i 0 = idx (X.getD i 0) (S ++ [X.getD k 0])
          rw [idx_append g1, ← g2]
          simp [List.getD, List.getElem?_append_left (show i < O.length by omega)]
        · refine ⟨by simp, ?_⟩
          show (O ++ [(S.length : Int)]).getD i 0 = idx (X.getD i 0) (S ++ [X.getD i 0])
          rw [idx_last hx]
          simp [List.getD, List.getElem?_append_right (show O.length ≤ i by omega), hlen]
      · rcases List.mem_append.1 hz with h | h
        · obtain ⟨i, g1, g2⟩ := h2 z h
          exact ⟨i, by omega, g2⟩
        · simp at h
          exact ⟨k, by omega, by simpa using h.symm⟩

theorem canon_inj {X : List Int} {i k : Nat} (hi : i < X.length) (hk : k < X.length) (h : (canon X).getD i 0 = (canon X).getD k 0) : X.getD i 0 = X.getD k 0 := by
  have := (cst_spec X X.length (Nat.le_refl _)).1
  rw [List.take_length] at this
  obtain ⟨g1, g2⟩ := this i hi
  obtain ⟨q1, q2⟩ := this k hk
  refine idx_inj g1 q1 ?_
  rw [← g2, ← q2]
  exact h

theorem canon_congr {X Y : List Int} (hl : X.length = Y.length) (h : ∀ i k, i < X.length → k < X.length → (X.getD i 0 = X.getD k 0 ↔ Y.getD i 0 = Y.getD k 0)) : canon X = canon Y := by
  have key : ∀ k, k ≤ X.length → (cst (X.take k)).2 = (cst (Y.take k)).2 ∧ (cst (X.take k)).1.length = (cst (Y.take k)).1.length := by
    intro k
    induction k with
    | zero => intro _; simp
    | succ k ih =>
      intro hk
      obtain ⟨i1, i2⟩ := ih (by omega)
      obtain ⟨x1, x2⟩ := cst_spec X k (by omega)
      obtain ⟨y1, y2⟩ := cst_spec Y k (by omega)
      rw [cst_succ (L := X) (by omega), cst_succ (L := Y) (by omega)]
      generalize hs : cst (X.take k) = sx at *
      generalize ht : cst (Y.take k) = sy at *
      obtain ⟨SX, OX⟩ := sx
      obtain ⟨SY, OY⟩ := sy
      simp only at i1 i2 x1 x2 y1 y2
      subst i1
      unfold cstep
      simp only
      by_cases hx : X.getD k 0 ∈ SX
      · obtain ⟨i, g1, g2⟩ := x2 _ hx
        have hy' := (h i k (by omega) (by omega)).1 g2
        have hy : Y.getD k 0 ∈ SY := by rw [← hy']; exact (y1 i g1).1
        rw [if_pos hx, if_pos hy]
        refine ⟨?_, i2⟩
        show OX ++ [idx (X.getD k 0) SX] = OX ++ [idx (Y.getD k 0) SY]
        rw [← g2, ← hy', ← (x1 i g1).2, ← (y1 i g1).2]
      · have hy : ¬ Y.getD k 0 ∈ SY := by
          intro hy
          obtain ⟨i, g1, g2⟩ := y2 _ hy
          have hx' := (h i k (by omega) (by omega)).2 g2
          exact hx (by rw [← hx']; exact (x1 i g1).1)
        rw [if_neg hx, if_neg hy]
        refine ⟨?_, ?_⟩
        · show OX ++ [(SX.length : Int)] = OX ++ [(SY.length : Int)]
          rw [i2]
        · simp [i2]
  have := (key X.length (Nat.le_refl _)).1
  rw [List.take_length] at this
  rw [canon, this, hl, List.take_length]; rfl

def rng (n : Nat) : List Int := (List.range n).map fun x : Nat => (x : Int)
theorem rng_succ (n : Nat) : rng (n + 1) = rng n ++ [(n : Int)] := by simp [rng, List.range_succ]
theorem rng_len (n : Nat) : (rng n).length = n := by simp [rng]
theorem rng_mem {n : Nat} {x : Int} : x ∈ rng n ↔ 0 ≤ x ∧ x < n := by
  simp only [rng, List.mem_map, List.mem_range]
  constructor
  · rintro ⟨a, h, rfl⟩; omega
  · rintro ⟨h1, h2⟩; exact ⟨x.toNat, by omega, by omega⟩
theorem rng_get {n i : Nat} (h : i < n) : (rng n).getD i 0 = i := by simp [rng, h]
theorem rng_idx {n : Nat} {x : Int} (h1 : 0 ≤ x) (h2 : x < n) : idx x (rng n) = x := by
  have hk : x.toNat < (rng n).length := by rw [rng_len]; omega
  have := idx_some (x := x) hk (fun i hi => by rw [rng_get (by omega)]; omega) (by rw [rng_get (by omega)]; omega)
  rw [this]; omega
theorem fold_part : ∀ (L : List Int) (n : Nat) (out : List Int), okP n L = true → ∃ m, L.foldl cstep (rng n, out) = (rng m, out ++ L)
  | [], n, out, _ => ⟨n, by simp⟩
  | x :: L, n, out, h => by
    rw [okP, Bool.and_eq_true] at h
    obtain ⟨h1, h2⟩ := inR_of h.1
    rw [List.foldl_cons]
    by_cases hx : x < n
    · have hm : x ∈ rng n := rng_mem.2 ⟨h1, hx⟩
      have e : max (n : Int) (x + 1) = n := by omega
      have h3 := h.2
      rw [e] at h3
      obtain ⟨m, hm'⟩ := fold_part L n (out ++ [x]) h3
      refine ⟨m, ?_⟩
      have : cstep (rng n, out) x = (rng n, out ++ [x]) := by
        unfold cstep
        rw [if_pos hm, rng_idx h1 hx]
      rw [this, hm']
      simp
    · have hm : ¬ x ∈ rng n := fun h => hx (rng_mem.1 h).2
      have ex : x = n := by omega
      have e : max (n : Int) (x + 1) = ((n + 1 : Nat) : Int) := by omega
      have h3 := h.2
      rw [e] at h3
      obtain ⟨m, hm'⟩ := fold_part L (n + 1) (out ++ [x]) h3
      refine ⟨m, ?_⟩
      have : cstep (rng n, out) x = (rng (n + 1), out ++ [x]) := by
        unfold cstep
        rw [if_neg hm, rng_succ]
        simp only [rng_len, ex]
      rw [this, hm']
      simp
theorem canon_part {A : List Int} (h : isPart A = true) : canon A = A := by
  rw [isPart, Bool.and_eq_true] at h
  obtain ⟨m, hm⟩ := fold_part A 0 [] h.1
  have : rng 0 = [] := rfl
  rw [this] at hm
  rw [canon, cst, hm]
  simp

def Ref (A B : List Int) : Prop := ∀ i k, k < i → i < A.length → A.getD i 0 = A.getD k 0 → B.getD i 0 = B.getD k 0
theorem both_get {A B : List Int} {k : Nat} (hl : A.length = B.length) (hk : k < A.length) : (both A B).getD k 0 = A.getD k 0 * 8 + B.getD k 0 := by
  have hk2 : k < B.length := by omega
  simp [both, List.getElem?_zipWith, hk, hk2]
theorem meet_iff {A B : List Int} (h : pairB A B = true) : meet A B = A ↔ Ref A B := by
  obtain ⟨pa, pb, hl⟩ := pairB_t h
  have hbl := both_length hl
  rw [meet, if_pos h]
  have hpat : ∀ i k, i < A.length → k < A.length → ((both A B).getD i 0 = (both A B).getD k 0 ↔ (A.getD i 0 = A.getD k 0 ∧ B.getD i 0 = B.getD k 0)) := by
    intro i k hi hk
    rw [both_get hl hi, both_get hl hk]
    have b1 := isPart_bound pb (i := i) (by omega)
    have b2 := isPart_bound pb (i := k) (by omega)
    constructor
    · intro e; omega
    · rintro ⟨e1, e2⟩; rw [e1, e2]
  constructor
  · intro e i k hki hi ha
    have h1 : (canon (both A B)).getD i 0 = (canon (both A B)).getD k 0 := by rw [e]; exact ha
    have h2 := canon_inj (by omega) (by omega) h1
    exact ((hpat i k hi (by omega)).1 h2).2
  · intro hr
    have hr' : ∀ i k, i < A.length → k < A.length → A.getD i 0 = A.getD k 0 → B.getD i 0 = B.getD k 0 := by
      intro i k hi hk e
      rcases Nat.lt_trichotomy k i with h | h | h
      · exact hr i k h hi e
      · rw [h]
      · exact (hr k i h hk e.symm).symm
    rw [canon_congr (Y := A) (by omega) (fun i k hi hk => ?_), canon_part pa]
    rw [hpat i k (by omega) (by omega)]
    exact ⟨fun e => e.1, fun e => ⟨e, hr' i k (by omega) (by omega) e⟩⟩
end Go.Sh

/-
  Contracts: is a list of numbers an order? Of the reference and of the program.
-/
namespace Go.Sh
set_option linter.unusedSimpArgs false
set_option linter.unusedVariables false
open Go Go.Proofs

theorem row_take {L : List Int} {k : Nat} (h : k ≤ L.length) : SV.row k false ((ints L).take k) = ri (L.take k) := by
  rw [ri]; simp [ints, Nat.min_eq_left h]

set_option maxHeartbeats 2000000 in
theorem Try.implIsOrder_ok (n : Int) (L : List Int) (hL : L.length ≤ 1048576) : PCall Try.prog 48 [.val (.int .i64 n), ri L] (.val (.bool (isOrd n L))) := by
  refine FCall.pcall (R := fun r _ => r = .val (.bool (isOrd n L))) ?_ 0 (by rintro r H rfl; simp [view, viewV])
  refine FCall.of_body Try.func48 rfl (by kernel_rfl) (by simp [Try.ntmps48]) ?_
  refine SW_of_vc Try.mixed _ _ _ (by kernel_rfl) ?_
  simp (disch := omega) only [Try.ntmps48, Try.results48, go_sem]
  refine (Try.within_ok _ _ _).call (by simp [viewL, view, viewV]) ?_
  cases hin : inR n 1 8 with
  | false =>
    simp (disch := omega) only [Try.ntmps48, Try.results48, go_sem, hin]
    exact Fin.val (by rw [isOrd, hin]; rfl)
  | true =>
    obtain ⟨n1, n2⟩ := inR_of hin
    by_cases hl : (L.length : Int) = n
    · simp (disch := omega) only [Try.ntmps48, Try.results48, go_sem, hin, hl]
      refine LoopW.loop (fun k : Nat => ⟨ofL [(0, .val (.int .i64 n)), (1, ri L), (16, ri L), (17, .val (.int .i64 n)), (18, .val (.int .i64 k))], hp [] 0⟩) (fun k => k ≤ L.length ∧ okO n [] L = okO n (L.take k) (L.drop k)) (fun k => L.length - k) 0 ⟨by omega, by simp⟩ (Wk.of (by simp only [go_sem, ↓List.forall_mem_cons, List.not_mem_nil, false_implies, implies_true, and_true, true_and, and_self, ri_eq, Int.natCast_add, Int.cast_ofNat_Int, hl]; try simp) rfl) ?_
      rintro k ⟨hk, hkk⟩
      refine SW_of_vc Try.mixed _ _ _ (by kernel_rfl) ?_
      by_cases hlt : k < L.length
      · simp (disch := omega) only [Try.ntmps48, Try.results48, go_sem]
        refine (Try.isItem_ok _ _ (by omega) (by omega)).call (by simp [viewL, view, viewV]) ?_
        cases hi : inR (L.getD k 0) 0 (n - 1) with
        | false =>
          simp (disch := omega) only [Try.ntmps48, Try.results48, go_sem, hi]
          refine Fin.val ?_
          rw [isOrd, hin, hkk, okO_step hlt, hi]; simp
        | true =>
          simp (disch := omega) only [Try.ntmps48, Try.results48, go_sem, hi, row_take hk]
          refine (Try.slicesContains_ok (L.take k) _ (by simp; omega)).call (by simp [viewL, view, viewV, ri]) ?_
          cases hc : (L.take k).contains (L.getD k 0) with
          | true =>
            simp (disch := omega) only [Try.ntmps48, Try.results48, go_sem, hc]
            refine Fin.val ?_
            rw [isOrd, hin, hkk, okO_step hlt, hi, hc]; simp
          | false =>
            simp (disch := omega) only [Try.ntmps48, Try.results48, go_sem, hc]
            refine ⟨k + 1, ⟨by omega, ?_⟩, by omega, Wk.of (by simp only [go_sem, ↓List.forall_mem_cons, List.not_mem_nil, false_implies, implies_true, and_true, true_and, and_self, ri_eq, Int.natCast_add, Int.cast_ofNat_Int]; try simp) rfl⟩
            rw [hkk, okO_step hlt, hi, hc]; simp
      · simp (disch := omega) only [Try.ntmps48, Try.results48, go_sem]
        refine Fin.val ?_
        rw [isOrd, hin, hkk, List.drop_eq_nil_of_le (by omega)]; simp [okO, hl]
    · simp (disch := omega) only [Try.ntmps48, Try.results48, go_sem, hin, hl]
      exact Fin.val (by rw [isOrd, hin]; simp [hl])
end Go.Sh

/-
  Sets of items as bits.
-/
namespace Go.Sh
set_option linter.unusedSimpArgs false
set_option linter.unusedVariables false
open Go

theorem bit_step : ∀ m : _root_.Fin 256, ∀ x y : _root_.Fin 8, 0 ≤ kor .i64 (m.val : Int) (kshl .i64 1 (x.val : Int)) ∧ kor .i64 (m.val : Int) (kshl .i64 1 (x.val : Int)) < 256 ∧
    (kand .i64 (kshr .i64 (kor .i64 (m.val : Int) (kshl .i64 1 (x.val : Int))) (y.val : Int)) 1 = 1 ↔ (kand .i64 (kshr .i64 (m.val : Int) (y.val : Int)) 1 = 1 ∨ y = x)) := by decide +kernel

def bits (m : Int) (L : List Int) : Prop := 0 ≤ m ∧ m < 256 ∧ ∀ y : Int, 0 ≤ y → y < 8 → (kand .i64 (kshr .i64 m y) 1 = 1 ↔ y ∈ L)
theorem bits_nil : bits 0 [] := by
  refine ⟨by omega, by omega, ?_⟩
  have h : ∀ y : _root_.Fin 8, ¬ kand .i64 (kshr .i64 0 (y.val : Int)) 1 = 1 := by decide +kernel
  intro y h1 h2
  have := h ⟨y.toNat, by omega⟩
  simp only [Int.toNat_of_nonneg h1] at this
  simp [this]
theorem bits_step {m x : Int} {L : List Int} (h : bits m L) (h1 : 0 ≤ x) (h2 : x < 8) : bits (kor .i64 m (kshl .i64 1 x)) (L ++ [x]) := by
  obtain ⟨a, b, c⟩ := h
  have e (y : Int) (h3 : 0 ≤ y) (h4 : y < 8) := bit_step ⟨m.toNat, by omega⟩ ⟨x.toNat, by omega⟩ ⟨y.toNat, by omega⟩
  simp only [Int.toNat_of_nonneg a, Int.toNat_of_nonneg h1] at e
  refine ⟨(e 0 (by omega) (by omega)).1, (e 0 (by omega) (by omega)).2.1, fun y h3 h4 => ?_⟩
  have e2 := (e y h3 h4).2.2
  simp only [Int.toNat_of_nonneg h3] at e2
  rw [e2, List.mem_append, c y h3 h4, List.mem_singleton]
  have : ((⟨y.toNat, by omega⟩ : _root_.Fin 8) = ⟨x.toNat, by omega⟩) ↔ y = x := by
    rw [_root_.Fin.mk.injEq]; omega
  rw [this]
end Go.Sh

/-
  Contracts: is a list of numbers an order? Of the reference.
-/
namespace Go.Sh
set_option linter.unusedSimpArgs false
set_option linter.unusedVariables false
open Go Go.Proofs

set_option maxHeartbeats 2000000 in
theorem Try.specIsOrder_ok (n : Int) (L : List Int) (hL : L.length ≤ 1048576) (g1 : -9223372036854775808 ≤ n) (g2 : n ≤ 9223372036854775807) : PCall Try.prog 49 [.val (.int .i64 n), ri L] (.val (.bool (isOrd n L))) := by
  refine FCall.pcall (R := fun r _ => r = .val (.bool (isOrd n L))) ?_ 0 (by rintro r H rfl; simp [view, viewV])
  refine FCall.of_body Try.func49 rfl (by kernel_rfl) (by simp [Try.ntmps49]) ?_
  refine SW_of_vc Try.mixed _ _ _ (by kernel_rfl) ?_
  simp (disch := omega) only [Try.ntmps49, Try.results49, go_sem]
  cases hin : inR n 1 8 with
  | true =>
    obtain ⟨n1, n2⟩ := inR_of hin
    refine LoopW.loop (fun p : Nat × Int => ⟨ofL [(0, .val (.int .i64 n)), (1, ri L), (5, .val (.int .i64 p.2)), (6, .val (.int .i64 p.1))], hp [] 0⟩) (fun p => p.1 ≤ L.length ∧ bits p.2 (L.take p.1) ∧ okO n [] L = okO n (L.take p.1) (L.drop p.1)) (fun p => L.length - p.1) (0, 0) ⟨by simp, by simpa using bits_nil, by simp⟩ (Wk.of (by simp only [go_sem, ↓List.forall_mem_cons, List.not_mem_nil, false_implies, implies_true, and_true, true_and, and_self, ri_eq, Int.natCast_add, Int.cast_ofNat_Int]; try simp) rfl) ?_
    rintro ⟨k, m⟩ ⟨hk, hb, hkk⟩
    simp only at hk hb hkk
    refine SW_of_vc Try.mixed _ _ _ (by kernel_rfl) ?_
    by_cases hlt : k < L.length
    · simp (disch := omega) only [Try.ntmps49, Try.results49, go_sem]
      refine (Try.l1In_ok _ _ _).call (by simp [viewL, view, viewV]) ?_
      cases hi : inR (L.getD k 0) 0 (n - 1) with
      | false =>
        simp (disch := omega) only [Try.ntmps49, Try.results49, go_sem, hi]
        refine Fin.val ?_
        rw [isOrd, hin, hkk, okO_step hlt, hi]; simp
      | true =>
        obtain ⟨i1, i2⟩ := inR_of hi
        have hb' := hb.2.2 (L.getD k 0) i1 (by omega)
        by_cases hc : L.getD k 0 ∈ L.take k
        · have e1 := hb'.mpr hc
          have hc' : (L.take k).contains (L.getD k 0) = true := by simpa using hc
          simp (disch := omega) only [Try.ntmps49, Try.results49, go_sem, hi, e1]
          refine Fin.val ?_
          rw [isOrd, hin, hkk, okO_step hlt, hi, hc']; simp
        · have hc' : (L.take k).contains (L.getD k 0) = false := by simpa using hc
          have e1 : ¬ kand .i64 (kshr .i64 m (L.getD k 0)) 1 = 1 := fun e => hc (hb'.mp e)
          simp (disch := omega) only [Try.ntmps49, Try.results49, go_sem, hi]
          refine ⟨(k + 1, kor .i64 m (kshl .i64 1 (L.getD k 0))), ⟨by show k + 1 ≤ _; omega, ?_, ?_⟩, by show L.length - (k + 1) < L.length - k; omega, Wk.of (by simp only [go_sem, ↓List.forall_mem_cons, List.not_mem_nil, false_implies, implies_true, and_true, true_and, and_self, ri_eq, Int.natCast_add, Int.cast_ofNat_Int]; try simp) rfl⟩
          · have := bits_step hb i1 (by omega)
            show bits _ (L.take (k + 1))
            rw [List.take_succ_eq_append_getElem hlt]
            simpa [hlt] using this
          · show _ = okO n (L.take (k + 1)) (L.drop (k + 1))
            rw [hkk, okO_step hlt, hi, hc']; simp
    · simp (disch := omega) only [Try.ntmps49, Try.results49, go_sem]
      refine (Try.l1In_ok _ _ _).call (by simp [viewL, view, viewV]) ?_
      by_cases hl : (L.length : Int) = n
      · simp (disch := omega) only [Try.ntmps49, Try.results49, go_sem, hin]
        refine Fin.val ?_
        rw [isOrd, hin, hkk, List.drop_eq_nil_of_le (by omega)]; simp [okO, hl]
      · simp (disch := omega) only [Try.ntmps49, Try.results49, go_sem, hin]
        refine Fin.val ?_
        rw [isOrd, hin]; simp [hl]
  | false =>
    have hr : isOrd n L = false := by rw [isOrd, hin]; rfl
    rw [hr]
    refine LoopW.loop (fun p : Nat × Int => ⟨ofL [(0, .val (.int .i64 n)), (1, ri L), (5, .val (.int .i64 p.2)), (6, .val (.int .i64 p.1))], hp [] 0⟩) (fun p => p.1 ≤ L.length) (fun p => L.length - p.1) (0, 0) (by simp) (Wk.of (by simp only [go_sem, ↓List.forall_mem_cons, List.not_mem_nil, false_implies, implies_true, and_true, true_and, and_self, ri_eq, Int.natCast_add, Int.cast_ofNat_Int]; try simp) rfl) ?_
    rintro ⟨k, m⟩ hk
    simp only at hk
    refine SW_of_vc Try.mixed _ _ _ (by kernel_rfl) ?_
    by_cases hlt : k < L.length
    · simp (disch := omega) only [Try.ntmps49, Try.results49, go_sem]
      refine (Try.l1In_ok _ _ _).call (by simp [viewL, view, viewV]) ?_
      cases hi : inR (L.getD k 0) 0 (IntKind.i64.wrap (n - 1)) with
      | false =>
        simp (disch := omega) only [Try.ntmps49, Try.results49, go_sem, hi]
        exact Fin.val rfl
      | true =>
        obtain ⟨i1, _⟩ := inR_of hi
        by_cases h8 : 8 < n
        · simp (disch := omega) only [Try.ntmps49, Try.results49, go_sem, hi]
          exact Fin.val rfl
        · by_cases e1 : kand .i64 (kshr .i64 m (L.getD k 0)) 1 = 1
          · simp (disch := omega) only [Try.ntmps49, Try.results49, go_sem, hi, e1]
            exact Fin.val rfl
          · simp (disch := omega) only [Try.ntmps49, Try.results49, go_sem, hi]
            exact ⟨(k + 1, kor .i64 m (kshl .i64 1 (L.getD k 0))), by show k + 1 ≤ _; omega, by show L.length - (k + 1) < L.length - k; omega, Wk.of (by simp only [go_sem, ↓List.forall_mem_cons, List.not_mem_nil, false_implies, implies_true, and_true, true_and, and_self, ri_eq, Int.natCast_add, Int.cast_ofNat_Int]; try simp) rfl⟩
    · simp (disch := omega) only [Try.ntmps49, Try.results49, go_sem]
      refine (Try.l1In_ok _ _ _).call (by simp [viewL, view, viewV]) ?_
      simp (disch := omega) only [Try.ntmps49, Try.results49, go_sem, hin]
      exact Fin.val rfl
end Go.Sh

/-
  Pivots. Plain; and of the program and the reference.
-/
namespace Go.Sh
set_option linter.unusedSimpArgs false
set_option linter.unusedVariables false
open Go Go.Proofs

theorem ord_t {n : Int} {L : List Int} (h : isOrd n L = true) : (1 ≤ n ∧ n ≤ 8) ∧ (L.length : Int) = n ∧ (∀ k, k < L.length → 0 ≤ L.getD k 0 ∧ L.getD k 0 ≤ n - 1) ∧ ∀ i k, i < k → k < L.length → L.getD i 0 ≠ L.getD k 0 := by
  simp only [isOrd, Bool.and_eq_true] at h
  have hl := of_decide_eq_true h.2.1
  have hs : ∀ k, k ≤ L.length → okO n (L.take k) (L.drop k) = true := by
    intro k
    induction k with
    | zero => intro _; simpa using h.2.2
    | succ k ih =>
      intro hk
      have := ih (by omega)
      rw [okO_step (by omega), Bool.and_eq_true, Bool.and_eq_true] at this
      exact this.2.2
  have hk : ∀ k, k < L.length → inR (L.getD k 0) 0 (n - 1) = true ∧ (L.take k).contains (L.getD k 0) = false := fun k hk => by
    have := hs k (by omega)
    rw [okO_step hk, Bool.and_eq_true, Bool.and_eq_true] at this
    exact ⟨this.1, by simpa using this.2.1⟩
  refine ⟨inR_of h.1, hl, fun k h => inR_of (hk k h).1, fun i k hik hkl e => ?_⟩
  have h2 := (hk k hkl).2
  have : L.getD k 0 ∈ L.take k := by
    rw [← e]
    have hi : i < (L.take k).length := by rw [List.length_take]; omega
    have e2 : L.getD i 0 = (L.take k)[i] := by simp [show i < L.length by omega]
    rw [e2]; exact List.getElem_mem hi
  rw [List.contains_iff_mem.2 this] at h2
  cases h2

def gen (n : Nat) (f : Nat → Int) : List Int := (List.range n).map f
theorem gen_length (n : Nat) (f : Nat → Int) : (gen n f).length = n := by simp [gen]
theorem gen_at {n : Nat} {f : Nat → Int} {x : Nat} (h : x < n) : (gen n f).getD x 0 = f x := by simp [gen, h]
theorem gen_congr {n : Nat} {f g : Nat → Int} (h : ∀ x, x < n → f x = g x) : gen n f = gen n g := List.map_congr_left fun x hx => h x (by simpa using hx)
theorem gen_set {n k : Nat} {f : Nat → Int} {a : Int} (h : k < n) : (gen n f).set k a = gen n fun x => if x = k then a else f x := by
  refine list_ext (by simp [gen]) fun x hx => ?_
  rw [List.length_set, gen_length] at hx
  rw [getD_set (by rw [gen_length]; exact h), gen_at hx, gen_at hx]
theorem gen_self {n : Nat} {L : List Int} (h : L.length = n) : L = gen n fun x => L.getD x 0 := list_ext (by rw [gen_length, h]) fun x hx => by rw [gen_at (by omega)]
/-- The labels after i items of the order: the number of the pivot. -/
def pv (M : List (List Int)) (O : List Int) : Nat → List Int
  | 0 => List.replicate M.length (-1)
  | i + 1 => if 0 ≤ (pv M O i).getD (O.getD i 0).toNat 0 then pv M O i else gen M.length fun x => if (pv M O i).getD x 0 < 0 ∧ (x = (O.getD i 0).toNat ∨ 0 < mat M (O.getD i 0).toNat x) then (i : Int) else (pv M O i).getD x 0
theorem pv_length (M : List (List Int)) (O : List Int) : ∀ i, (pv M O i).length = M.length
  | 0 => by simp [pv]
  | i + 1 => by
    rw [pv]
    split
    · exact pv_length M O i
    · exact gen_length _ _
theorem pv_skip {M : List (List Int)} {O : List Int} {i p : Nat} (hp : O.getD i 0 = p) (h : 0 ≤ (pv M O i).getD p 0) : pv M O (i + 1) = pv M O i := by rw [pv, hp, Int.toNat_natCast, if_pos h]
theorem pv_step {M : List (List Int)} {O : List Int} {i p : Nat} (hp : O.getD i 0 = p) (h : (pv M O i).getD p 0 < 0) : pv M O (i + 1) = gen M.length fun x => if (pv M O i).getD x 0 < 0 ∧ (x = p ∨ 0 < mat M p x) then (i : Int) else (pv M O i).getD x 0 := by rw [pv, hp, Int.toNat_natCast, if_neg (by omega)]
theorem pv_r (M : List (List Int)) (O : List Int) : ∀ i x, x < M.length → -1 ≤ (pv M O i).getD x 0 ∧ (pv M O i).getD x 0 < i
  | 0, x, h => by rw [pv, getD_rep h]; simp
  | i + 1, x, h => by
    have ih := pv_r M O i x h
    rw [pv]
    split
    · omega
    · rw [gen_at h]
      split <;> omega
def fO (O : List Int) (q : Int) : Int := if q < 0 then -1 else O.getD q.toNat 0
/-- .. and the pivot itself. -/
def pw (M : List (List Int)) (O : List Int) (i : Nat) : List Int := gen M.length fun x => fO O ((pv M O i).getD x 0)
theorem pw_zero (M : List (List Int)) (O : List Int) : pw M O 0 = List.replicate M.length (-1) := by
  refine list_ext (by rw [pw, gen_length]; simp) fun x hx => ?_
  rw [pw, gen_length] at hx
  rw [pw, gen_at hx, pv, getD_rep hx]; rfl
theorem pw_at {M : List (List Int)} {O : List Int} {i x : Nat} (h : x < M.length) : (pw M O i).getD x 0 = fO O ((pv M O i).getD x 0) := gen_at h
theorem fO_neg {O : List Int} (h : ∀ k, k < O.length → 0 ≤ O.getD k 0) {q : Int} (hq : q < O.length) : fO O q < 0 ↔ q < 0 := by
  unfold fO
  split
  · simp_all
  · have := h q.toNat (by omega); omega
theorem pw_step {M : List (List Int)} {O : List Int} {i p : Nat} (ho : ∀ k, k < O.length → 0 ≤ O.getD k 0) (hi : i < O.length) (hp : O.getD i 0 = p) (h : (pv M O i).getD p 0 < 0) :
    pw M O (i + 1) = gen M.length fun x => if (pw M O i).getD x 0 < 0 ∧ (x = p ∨ 0 < mat M p x) then (p : Int) else (pw M O i).getD x 0 := by
  rw [pw, pv_step hp h]
  refine gen_congr fun x hx => ?_
  rw [gen_at hx, pw_at hx]
  have hr := pv_r M O i x hx
  have hn := fO_neg ho (q := (pv M O i).getD x 0) (by omega)
  by_cases hc : (pv M O i).getD x 0 < 0 ∧ (x = p ∨ 0 < mat M p x)
  · rw [if_pos hc, if_pos ⟨hn.2 hc.1, hc.2⟩, fO, if_neg (by omega), Int.toNat_natCast, hp]
  · rw [if_neg hc, if_neg (fun g => hc ⟨hn.1 g.1, g.2⟩)]
theorem pw_canon {M : List (List Int)} {O : List Int} (h : isOrd M.length O = true) : canon (pw M O O.length) = canon (pv M O O.length) := by
  obtain ⟨h1, h2, h3, h4⟩ := ord_t h
  have ho : ∀ k, k < O.length → 0 ≤ O.getD k 0 := fun k hk => (h3 k hk).1
  refine canon_congr (by rw [pw, gen_length, pv_length]) fun i k hi hk => ?_
  rw [pw, gen_length] at hi hk
  rw [pw_at hi, pw_at hk]
  have r1 := pv_r M O O.length i hi
  have r2 := pv_r M O O.length k hk
  have n1 := fO_neg ho (q := (pv M O O.length).getD i 0) (by omega)
  have n2 := fO_neg ho (q := (pv M O O.length).getD k 0) (by omega)
  generalize (pv M O O.length).getD i 0 = a at *
  generalize (pv M O O.length).getD k 0 = b at *
  refine ⟨fun e => ?_, fun e => by rw [e]⟩
  by_cases ha : a < 0
  · have := n1.2 ha
    have := n2.1 (by omega)
    omega
  · have hb : ¬ b < 0 := fun g => by have := n2.2 g; have := n1.1 (by omega); omega
    rw [fO, fO, if_neg ha, if_neg hb] at e
    rcases Nat.lt_trichotomy a.toNat b.toNat with g | g | g
    · exact absurd e (h4 _ _ g (by omega))
    · omega
    · exact absurd e.symm (h4 _ _ g (by omega))
open Classical in
noncomputable def piv (M : List (List Int)) (O : List Int) : List Int := if WM M ∧ isOrd M.length O = true then canon (pv M O O.length) else []
theorem piv_t {M : List (List Int)} {O : List Int} (h : WM M ∧ isOrd M.length O = true) : piv M O = canon (pv M O O.length) := by rw [piv, if_pos h]
theorem piv_f {M : List (List Int)} {O : List Int} (h : ¬ (WM M ∧ isOrd M.length O = true)) : piv M O = [] := by rw [piv, if_neg h]
theorem piv_length {M : List (List Int)} {O : List Int} (h : WM M ∧ isOrd M.length O = true) : (piv M O).length = M.length := by rw [piv_t h, canon_length, pv_length]

/-- Inside a step of the program: the first k items looked at. -/
def pwk (M : List (List Int)) (P : List Int) (p k : Nat) : List Int := gen M.length fun x => if P.getD x 0 < 0 ∧ (x = p ∨ (x < k ∧ 0 < mat M p x)) then (p : Int) else P.getD x 0
theorem pwk_zero {M : List (List Int)} {P : List Int} {p : Nat} (hl : P.length = M.length) (hp : p < M.length) (h : P.getD p 0 < 0) : P.set p p = pwk M P p 0 := by
  refine list_ext (by rw [List.length_set, pwk, gen_length, hl]) fun x hx => ?_
  rw [List.length_set] at hx
  rw [getD_set (by omega), pwk, gen_at (by omega)]
  by_cases e : x = p
  · rw [if_pos e, if_pos ⟨by rw [e]; exact h, .inl e⟩]
  · rw [if_neg e, if_neg (by rintro ⟨_, g | g⟩ <;> omega)]
theorem pwk_at {M : List (List Int)} {P : List Int} {p k x : Nat} (h : x < M.length) : (pwk M P p k).getD x 0 = if P.getD x 0 < 0 ∧ (x = p ∨ (x < k ∧ 0 < mat M p x)) then (p : Int) else P.getD x 0 := gen_at h
theorem pwk_put {M : List (List Int)} {P : List Int} {p k : Nat} (hk : k < M.length) (hw : 0 < mat M p k) (h : (pwk M P p k).getD k 0 < 0) : (pwk M P p k).set k p = pwk M P p (k + 1) := by
  rw [pwk, gen_set hk, pwk]
  refine gen_congr fun x hx => ?_
  have hkk := pwk_at (P := P) (p := p) (k := k) hk
  rw [hkk] at h
  by_cases e : x = k
  · subst e
    have hP : P.getD x 0 < 0 := by
      split at h
      · omega
      · exact h
    rw [if_pos rfl, if_pos ⟨hP, .inr ⟨by omega, hw⟩⟩]
  · rw [if_neg e]
    by_cases hc : P.getD x 0 < 0 ∧ (x = p ∨ (x < k ∧ 0 < mat M p x))
    · rw [if_pos hc, if_pos ⟨hc.1, hc.2.imp id fun g => ⟨by omega, g.2⟩⟩]
    · rw [if_neg hc, if_neg (fun g => hc ⟨g.1, g.2.imp id fun q => ⟨by omega, q.2⟩⟩)]
theorem pwk_skip {M : List (List Int)} {P : List Int} {p k : Nat} (h : ¬ (0 < mat M p k ∧ (pwk M P p k).getD k 0 < 0)) (hk : k < M.length) : pwk M P p k = pwk M P p (k + 1) := by
  refine gen_congr fun x hx => ?_
  by_cases e : x = k
  · subst e
    by_cases hc : P.getD x 0 < 0 ∧ (x = p ∨ (x < x ∧ 0 < mat M p x))
    · rw [if_pos hc, if_pos ⟨hc.1, hc.2.imp id fun g => ⟨by omega, g.2⟩⟩]
    · rw [if_neg hc]
      rw [pwk_at hx, if_neg hc] at h
      rw [if_neg (fun g => ?_)]
      rcases g.2 with g2 | g2
      · exact hc ⟨g.1, .inl g2⟩
      · exact h ⟨g2.2, g.1⟩
  · by_cases hc : P.getD x 0 < 0 ∧ (x = p ∨ (x < k ∧ 0 < mat M p x))
    · rw [if_pos hc, if_pos ⟨hc.1, hc.2.imp id fun g => ⟨by omega, g.2⟩⟩]
    · rw [if_neg hc, if_neg (fun g => hc ⟨g.1, g.2.imp id fun q => ⟨by omega, q.2⟩⟩)]
theorem pwk_all {M : List (List Int)} {P : List Int} {p : Nat} : pwk M P p M.length = gen M.length fun x => if P.getD x 0 < 0 ∧ (x = p ∨ 0 < mat M p x) then (p : Int) else P.getD x 0 := by
  refine gen_congr fun x hx => ?_
  by_cases hc : P.getD x 0 < 0 ∧ (x = p ∨ 0 < mat M p x)
  · rw [if_pos hc, if_pos ⟨hc.1, hc.2.imp id fun g => ⟨hx, g⟩⟩]
  · rw [if_neg hc, if_neg (fun g => hc ⟨g.1, g.2.imp id fun q => q.2⟩)]

set_option maxHeartbeats 8000000 in
theorem Try.implPiv_f (M : List (List Int)) (O : List Int) (hM : M.length ≤ 1048576) (hR : ∀ i, i < M.length → (mrow M i).length ≤ 1048576) (hO : O.length ≤ 1048576) (h : WM M ∧ isOrd M.length O = true) : FCall Try.prog 43 [rr M, ri O] (FlatRes M.length 1 (ints (piv M O))) := by
  obtain ⟨hw, hord⟩ := h
  obtain ⟨h1, h2, h3, h4⟩ := ord_t hord
  have ho : ∀ k, k < O.length → 0 ≤ O.getD k 0 := fun k hk => (h3 k hk).1
  have w1 := Try.implIsWM_ok M hM hR
  rw [isWM_t hw] at w1
  have w2 := Try.implIsOrder_ok M.length O hO
  rw [hord] at w2
  have hpl : ∀ i, (pw M O i).length = M.length := fun i => gen_length _ _
  have w4 := (Try.implCanon_f (pw M O O.length) (by rw [hpl]; omega) (fun e => by have := hpl O.length; rw [e] at this; simp at this; omega)).one
  rw [hpl, pw_canon hord, ← piv_t ⟨hw, hord⟩] at w4
  refine FCall.of_body Try.func43 rfl (by kernel_rfl) (by simp [Try.ntmps43]) ?_
  refine SW_of_vc Try.mixed _ _ _ (by kernel_rfl) ?_
  simp (disch := omega) only [Try.ntmps43, Try.results43, go_sem, rr_eq]
  refine w1.callV 0 (viewL_cons_of (view_row) viewL_nil_of) ?_
  simp (disch := omega) only [Try.ntmps43, Try.results43, go_sem, rr_eq]
  refine w2.callV 0 (viewL_cons_of (view_int) (viewL_cons_of (view_rowL (by first | rfl | simp [marks_length, canon_length] | omega)) viewL_nil_of)) ?_
  simp (disch := omega) only [Try.ntmps43, Try.results43, go_sem, rr_eq]
  refine (Try.repeat_one M.length (-1) (by omega) (by omega)).callOne (ints_vals _) 1 (viewL_cons_of (view_own (L := [-1]) (e2 := false) rfl rfl) (viewL_cons_of view_int viewL_nil_of)) ?_
  simp (disch := omega) only [Try.ntmps43, Try.results43, go_sem, rr_eq]
  refine LoopW.loop (fun i : Nat => ⟨ofL [(0, rr M), (5, .own 1 0 M.length M.length 1 false), (24, ri O), (25, .val (.int .i64 O.length)), (26, .val (.int .i64 i))], hp [(1, ⟨ints (pw M O i), false⟩)] 2⟩) (fun i => i ≤ O.length) (fun i => O.length - i) 0 (by omega)
    (Wk.ofH (by simp only [go_sem, ↓List.forall_mem_cons, List.not_mem_nil, false_implies, implies_true, and_true, true_and, and_self, ri_eq, Int.natCast_add, Int.cast_ofNat_Int, rr_eq]; try simp) (by intro q hq; simp at hq; subst hq; rw [pw_zero]; rfl) (Nat.le_refl _)) ?_
  intro i hi
  have hl := hpl i
  refine SW_of_vc Try.mixed _ _ _ (by kernel_rfl) ?_
  by_cases hlt : i < O.length
  case neg =>
    obtain rfl : i = O.length := by omega
    simp (disch := omega) only [Try.ntmps43, Try.results43, go_sem, rr_eq]
    refine w4.callOne (ints_vals _) 1 (viewL_cons_of (view_own (e2 := false) rfl hl.symm) viewL_nil_of) ?_
    simp (disch := omega) only [Try.ntmps43, Try.results43, go_sem, rr_eq]
    exact fin_ints (piv_length ⟨hw, hord⟩).symm (by rw [hp_map, hmap_cons, if_pos rfl])
  obtain ⟨p, hpp⟩ := Int.eq_ofNat_of_zero_le (h3 i hlt).1
  have hpM : p < M.length := by have := (h3 i hlt).2; omega
  have g1 := ints_get hlt
  rw [hpp] at g1
  have g2 : (ints (pw M O i))[p]? = some (.val (.int .i64 ((pw M O i).getD p 0))) := ints_get' hl hpM
  have hneg := fO_neg ho (q := (pv M O i).getD p 0) (by have := (pv_r M O i p hpM).2; omega)
  rw [← pw_at hpM] at hneg
  by_cases hs : 0 ≤ (pw M O i).getD p 0
  · have hskip : pw M O (i + 1) = pw M O i := by rw [pw, pw, pv_skip hpp (by omega)]
    generalize (pw M O i).getD p 0 = v at *
    simp (disch := omega) only [Try.ntmps43, Try.results43, go_sem, rr_eq, g1, g2, hl]
    exact ⟨i + 1, hlt, by omega, Wk.ofH (by simp only [go_sem, ↓List.forall_mem_cons, List.not_mem_nil, false_implies, implies_true, and_true, true_and, and_self, ri_eq, Int.natCast_add, Int.cast_ofNat_Int, rr_eq]; try simp) (by simp (disch := omega) only [go_sem, ↓List.forall_mem_cons, List.not_mem_nil, false_implies, implies_true, and_true, true_and, and_self, ri_eq, Int.natCast_add, Int.cast_ofNat_Int, if_pos, if_neg, Nat.reduceAdd, List.nil_append, hskip]; try simp) (Nat.le_refl _)⟩
  · have hz := pwk_zero (M := M) hl hpM (by omega : (pw M O i).getD p 0 < 0)
    have hend := pwk_all (M := M) (P := pw M O i) (p := p)
    rw [← pw_step ho hlt hpp (hneg.1 (by omega))] at hend
    have hrp := hw.2.1 p hpM
    have hkl : ∀ k, (pwk M (pw M O i) p k).length = M.length := fun k => gen_length _ _
    generalize (pw M O i).getD p 0 = v at *
    simp (disch := omega) only [Try.ntmps43, Try.results43, go_sem, rr_eq, g1, g2, hl, hz, rows_get, hrp]
    clear hz g2 hl
    refine LoopW.loop (fun k : Nat => ⟨ofL [(0, rr M), (5, .own 1 0 M.length M.length 1 false), (7, .val (.int .i64 p)), (24, ri O), (25, .val (.int .i64 O.length)), (26, .val (.int .i64 i)), (42, .row M.length false (ints (mrow M p))), (43, .val (.int .i64 M.length)), (44, .val (.int .i64 k))], hp [(1, ⟨ints (pwk M (pw M O i) p k), false⟩)] 2⟩) (fun k => k ≤ M.length) (fun k => M.length - k) 0 (by omega)
      (Wk.ofH (by simp only [go_sem, ↓List.forall_mem_cons, List.not_mem_nil, false_implies, implies_true, and_true, true_and, and_self, ri_eq, Int.natCast_add, Int.cast_ofNat_Int, rr_eq, hrp]; try simp) (by simp (disch := omega) only [go_sem, ↓List.forall_mem_cons, List.not_mem_nil, false_implies, implies_true, and_true, true_and, and_self, ri_eq, Int.natCast_add, Int.cast_ofNat_Int, if_pos, if_neg, Nat.reduceAdd, List.nil_append]; try simp) (Nat.le_refl _)) ?_
    intro k hk
    have hl := hkl k
    refine SW_of_vc Try.mixed _ _ _ (by kernel_rfl) ?_
    by_cases hlk : k < M.length
    · have g3 : (ints (mrow M p))[k]? = some (.val (.int .i64 (mat M p k))) := ints_get' hrp hlk
      have g4 : (ints (pwk M (pw M O i) p k))[k]? = some (.val (.int .i64 ((pwk M (pw M O i) p k).getD k 0))) := ints_get' hl hlk
      by_cases e1 : 0 < mat M p k
      · by_cases e2 : (pwk M (pw M O i) p k).getD k 0 < 0
        · have hput := pwk_put hlk e1 e2
          generalize (pwk M (pw M O i) p k).getD k 0 = u at *
          generalize mat M p k = mm at *
          simp (disch := omega) only [Try.ntmps43, Try.results43, go_sem, g3, g4, hl, hput]
          exact ⟨k + 1, hlk, by omega, Wk.ofH (by simp only [go_sem, ↓List.forall_mem_cons, List.not_mem_nil, false_implies, implies_true, and_true, true_and, and_self, ri_eq, Int.natCast_add, Int.cast_ofNat_Int, rr_eq]; try simp) (by simp (disch := omega) only [go_sem, ↓List.forall_mem_cons, List.not_mem_nil, false_implies, implies_true, and_true, true_and, and_self, ri_eq, Int.natCast_add, Int.cast_ofNat_Int, if_pos, if_neg, Nat.reduceAdd, List.nil_append]; try simp) (Nat.le_refl _)⟩
        · have hsk := pwk_skip (fun g => e2 g.2) hlk
          generalize (pwk M (pw M O i) p k).getD k 0 = u at *
          generalize mat M p k = mm at *
          simp (disch := omega) only [Try.ntmps43, Try.results43, go_sem, g3, g4, hl]
          exact ⟨k + 1, hlk, by omega, Wk.ofH (by simp only [go_sem, ↓List.forall_mem_cons, List.not_mem_nil, false_implies, implies_true, and_true, true_and, and_self, ri_eq, Int.natCast_add, Int.cast_ofNat_Int, rr_eq]; try simp) (by simp (disch := omega) only [go_sem, ↓List.forall_mem_cons, List.not_mem_nil, false_implies, implies_true, and_true, true_and, and_self, ri_eq, Int.natCast_add, Int.cast_ofNat_Int, if_pos, if_neg, Nat.reduceAdd, List.nil_append, ← hsk]; try simp) (Nat.le_refl _)⟩
      · have hsk := pwk_skip (P := pw M O i) (fun g => e1 g.1) hlk
        generalize mat M p k = mm at *
        simp (disch := omega) only [Try.ntmps43, Try.results43, go_sem, g3, hl]
        exact ⟨k + 1, hlk, by omega, Wk.ofH (by simp only [go_sem, ↓List.forall_mem_cons, List.not_mem_nil, false_implies, implies_true, and_true, true_and, and_self, ri_eq, Int.natCast_add, Int.cast_ofNat_Int, rr_eq]; try simp) (by simp (disch := omega) only [go_sem, ↓List.forall_mem_cons, List.not_mem_nil, false_implies, implies_true, and_true, true_and, and_self, ri_eq, Int.natCast_add, Int.cast_ofNat_Int, if_pos, if_neg, Nat.reduceAdd, List.nil_append, ← hsk]; try simp) (Nat.le_refl _)⟩
    · obtain rfl : k = M.length := by omega
      rw [hend]
      simp (disch := omega) only [Try.ntmps43, Try.results43, go_sem]
      exact ⟨i + 1, hlt, by omega, Wk.ofH (by simp only [go_sem, ↓List.forall_mem_cons, List.not_mem_nil, false_implies, implies_true, and_true, true_and, and_self, ri_eq, Int.natCast_add, Int.cast_ofNat_Int, rr_eq]; try simp) (by simp (disch := omega) only [go_sem, ↓List.forall_mem_cons, List.not_mem_nil, false_implies, implies_true, and_true, true_and, and_self, ri_eq, Int.natCast_add, Int.cast_ofNat_Int, if_pos, if_neg, Nat.reduceAdd, List.nil_append]; try simp) (Nat.le_refl _)⟩
end Go.Sh

/-
  Contracts: pivots, of the reference; both as one.
-/
namespace Go.Sh
set_option linter.unusedSimpArgs false
set_option linter.unusedVariables false
open Go Go.Proofs

def pvk (M : List (List Int)) (Q : List Int) (p i k : Nat) : List Int := gen M.length fun x => if x < k ∧ Q.getD x 0 < 0 ∧ (x = p ∨ 0 < mat M p x) then (i : Int) else Q.getD x 0
theorem pvk_zero {M : List (List Int)} {Q : List Int} {p i : Nat} (hl : Q.length = M.length) : pvk M Q p i 0 = Q := by
  rw [pvk, gen_self hl]
  refine gen_congr fun x hx => ?_
  rw [if_neg (by omega), gen_at hx]
theorem pvk_self {M : List (List Int)} {Q : List Int} {p i k : Nat} (h : k < M.length) : (pvk M Q p i k).getD k 0 = Q.getD k 0 := by rw [pvk, gen_at h, if_neg (by omega)]
theorem pvk_put {M : List (List Int)} {Q : List Int} {p i k : Nat} (hk : k < M.length) (h : Q.getD k 0 < 0 ∧ (k = p ∨ 0 < mat M p k)) : (pvk M Q p i k).set k i = pvk M Q p i (k + 1) := by
  rw [pvk, gen_set hk, pvk]
  refine gen_congr fun x hx => ?_
  by_cases e : x = k
  · subst e; rw [if_pos rfl, if_pos ⟨by omega, h⟩]
  · rw [if_neg e]
    by_cases hc : x < k ∧ Q.getD x 0 < 0 ∧ (x = p ∨ 0 < mat M p x)
    · rw [if_pos hc, if_pos ⟨by omega, hc.2⟩]
    · rw [if_neg hc, if_neg (fun g => hc ⟨by omega, g.2⟩)]
theorem pvk_skip {M : List (List Int)} {Q : List Int} {p i k : Nat} (h : ¬ (Q.getD k 0 < 0 ∧ (k = p ∨ 0 < mat M p k))) : pvk M Q p i k = pvk M Q p i (k + 1) := by
  refine gen_congr fun x hx => ?_
  by_cases e : x = k
  · subst e; rw [if_neg (by omega), if_neg (fun g => h g.2)]
  · by_cases hc : x < k ∧ Q.getD x 0 < 0 ∧ (x = p ∨ 0 < mat M p x)
    · rw [if_pos hc, if_pos ⟨by omega, hc.2⟩]
    · rw [if_neg hc, if_neg (fun g => hc ⟨by omega, g.2⟩)]
theorem pvk_all {M : List (List Int)} {Q : List Int} {p i : Nat} : pvk M Q p i M.length = gen M.length fun x => if Q.getD x 0 < 0 ∧ (x = p ∨ 0 < mat M p x) then (i : Int) else Q.getD x 0 := by
  refine gen_congr fun x hx => ?_
  by_cases hc : Q.getD x 0 < 0 ∧ (x = p ∨ 0 < mat M p x)
  · rw [if_pos hc, if_pos ⟨hx, hc⟩]
  · rw [if_neg hc, if_neg (fun g => hc g.2)]

set_option maxRecDepth 20000 in
set_option maxHeartbeats 8000000 in
theorem Try.specPiv_f (M : List (List Int)) (O : List Int) (hM : M.length ≤ 1048576) (hR : ∀ i, i < M.length → (mrow M i).length ≤ 1048576) (hO : O.length ≤ 1048576) (h : WM M ∧ isOrd M.length O = true) : FCall Try.prog 47 [rr M, ri O] (FlatRes M.length 1 (ints (piv M O))) := by
  obtain ⟨hw, hord⟩ := h
  obtain ⟨h1, h2, h3, h4⟩ := ord_t hord
  have w1 := Try.specIsWM_ok M hM hR
  rw [isWM_t hw] at w1
  have w2 := Try.specIsOrder_ok M.length O hO (by omega) (by omega)
  rw [hord] at w2
  have hpl : ∀ i, (pv M O i).length = M.length := pv_length M O
  have w4 := (Try.specCanon_f (pv M O O.length) (by rw [hpl]; omega)).one
  rw [hpl, ← piv_t ⟨hw, hord⟩] at w4
  refine FCall.of_body Try.func47 rfl (by kernel_rfl) (by simp [Try.ntmps47]) ?_
  refine SW_of_vc Try.mixed _ _ _ (by kernel_rfl) ?_
  simp (disch := omega) only [Try.ntmps47, Try.results47, go_sem, rr_eq]
  refine w1.callV 0 (viewL_cons_of (view_row) viewL_nil_of) ?_
  simp (disch := omega) only [Try.ntmps47, Try.results47, go_sem, rr_eq]
  refine w2.callV 0 (viewL_cons_of (view_int) (viewL_cons_of (view_rowL (by first | rfl | simp [marks_length, canon_length] | omega)) viewL_nil_of)) ?_
  simp (disch := omega) only [Try.ntmps47, Try.results47, go_sem, rr_eq]
  refine LoopW.loop (fun p : Nat × Nat × Nat => ⟨ofL [(0, rr M), (1, ri O), (5, .own p.2.1 0 p.1 p.1 1 false), (6, .val (.int .i64 p.1))], hp [(p.2.1, ⟨ints (List.replicate p.1 (-1)), false⟩)] p.2.2⟩) (fun p => p.1 ≤ M.length ∧ p.2.1 < p.2.2) (fun p => M.length - p.1) (0, 0, 1) ⟨by simp, by simp⟩
    (Wk.ofH (by simp only [go_sem, ↓List.forall_mem_cons, List.not_mem_nil, false_implies, implies_true, and_true, true_and, and_self, ri_eq, Int.natCast_add, Int.cast_ofNat_Int, rr_eq]; try simp) (by simp (disch := omega) only [go_sem, ↓List.forall_mem_cons, List.not_mem_nil, false_implies, implies_true, and_true, true_and, and_self, ri_eq, Int.natCast_add, Int.cast_ofNat_Int, if_pos, if_neg, Nat.reduceAdd, List.nil_append, List.replicate_zero, ints_nil]; try simp) (by simp [hp])) ?_
  rintro ⟨k, b, nb⟩ ⟨hk, hb⟩
  simp only at hk hb
  refine SW_of_vc Try.mixed _ _ _ (by kernel_rfl) ?_
  by_cases hlt : k < M.length
  · have hl := rep_snoc k (-1)
    have ht : (ints (List.replicate k (-1))).take k = ints (List.replicate k (-1)) := ints_take_of (by simp)
    simp (disch := omega) only [Try.ntmps47, Try.results47, go_sem, rr_eq, List.length_replicate, ht]
    refine ⟨(k + 1, nb + 1, nb + 1 + 1), ⟨hlt, by simp⟩, by show M.length - (k + 1) < M.length - k; omega, ?_⟩
    exact Wk.ofH (by simp only [go_sem, ↓List.forall_mem_cons, List.not_mem_nil, false_implies, implies_true, and_true, true_and, and_self, ri_eq, Int.natCast_add, Int.cast_ofNat_Int, rr_eq]; try simp) (by simp (disch := omega) only [go_sem, ↓List.forall_mem_cons, List.not_mem_nil, false_implies, implies_true, and_true, true_and, and_self, ri_eq, Int.natCast_add, Int.cast_ofNat_Int, if_pos, if_neg, Nat.reduceAdd, List.nil_append, hl]; try simp) (by simp [hp])
  obtain rfl : k = M.length := by omega
  simp (disch := omega) only [Try.ntmps47, Try.results47, go_sem, rr_eq]
  refine LoopW.loop (fun i : Nat => ⟨ofL [(0, rr M), (1, ri O), (5, .own b 0 M.length M.length 1 false), (7, .val (.int .i64 i))], hp [(b, ⟨ints (pv M O i), false⟩)] nb⟩) (fun i => i ≤ O.length) (fun i => O.length - i) 0 (by omega)
    (Wk.ofH (by simp only [go_sem, ↓List.forall_mem_cons, List.not_mem_nil, false_implies, implies_true, and_true, true_and, and_self, ri_eq, Int.natCast_add, Int.cast_ofNat_Int, rr_eq]; try simp) (by simp (disch := omega) only [go_sem, ↓List.forall_mem_cons, List.not_mem_nil, false_implies, implies_true, and_true, true_and, and_self, ri_eq, Int.natCast_add, Int.cast_ofNat_Int, if_pos, if_neg, Nat.reduceAdd, List.nil_append, pv]; try simp) (Nat.le_refl _)) ?_
  intro i hi
  have hl := hpl i
  refine SW_of_vc Try.mixed _ _ _ (by kernel_rfl) ?_
  by_cases hlti : i < O.length
  case neg =>
    obtain rfl : i = O.length := by omega
    simp (disch := omega) only [Try.ntmps47, Try.results47, go_sem, rr_eq]
    refine w4.callOne (ints_vals _) 1 (viewL_cons_of (view_own (e2 := false) (by rw [hp_map, hmap_cons, if_pos rfl]) hl.symm) viewL_nil_of) ?_
    simp (disch := omega) only [Try.ntmps47, Try.results47, go_sem, rr_eq]
    exact fin_ints (piv_length ⟨hw, hord⟩).symm (by rw [hp_map, hmap_cons, if_pos rfl])
  obtain ⟨p, hpp⟩ := Int.eq_ofNat_of_zero_le (h3 i hlti).1
  have hpM : p < M.length := by have := (h3 i hlti).2; omega
  have g1 := ints_get hlti
  rw [hpp] at g1
  have g2 : (ints (pv M O i))[p]? = some (.val (.int .i64 ((pv M O i).getD p 0))) := ints_get' hl hpM
  by_cases hs : 0 ≤ (pv M O i).getD p 0
  · have hskip := pv_skip (M := M) hpp hs
    generalize (pv M O i).getD p 0 = v at *
    simp (disch := omega) only [Try.ntmps47, Try.results47, go_sem, rr_eq, g1, g2, hl]
    exact ⟨i + 1, hlti, by omega, Wk.ofH (by simp only [go_sem, ↓List.forall_mem_cons, List.not_mem_nil, false_implies, implies_true, and_true, true_and, and_self, ri_eq, Int.natCast_add, Int.cast_ofNat_Int, rr_eq]; try simp) (by simp (disch := omega) only [go_sem, ↓List.forall_mem_cons, List.not_mem_nil, false_implies, implies_true, and_true, true_and, and_self, ri_eq, Int.natCast_add, Int.cast_ofNat_Int, if_pos, if_neg, Nat.reduceAdd, List.nil_append, hskip]; try simp) (Nat.le_refl _)⟩
  · have hend := pvk_all (M := M) (Q := pv M O i) (p := p) (i := i)
    rw [← pv_step hpp (by omega)] at hend
    have hz := pvk_zero (p := p) (i := i) hl
    have hrp := hw.2.1 p hpM
    have hkl : ∀ k, (pvk M (pv M O i) p i k).length = M.length := fun k => gen_length _ _
    have hks := fun k hk => pvk_self (Q := pv M O i) (p := p) (i := i) (k := k) (M := M) hk
    generalize hv : (pv M O i).getD p 0 = v at *
    simp (disch := omega) only [Try.ntmps47, Try.results47, go_sem, rr_eq, g1, g2, hl]
    refine LoopW.loop (fun k : Nat => ⟨ofL [(0, rr M), (1, ri O), (5, .own b 0 M.length M.length 1 false), (7, .val (.int .i64 i)), (8, .val (.int .i64 p)), (9, .val (.int .i64 k))], hp [(b, ⟨ints (pvk M (pv M O i) p i k), false⟩)] nb⟩) (fun k => k ≤ M.length) (fun k => M.length - k) 0 (by omega)
      (Wk.ofH (by simp only [go_sem, ↓List.forall_mem_cons, List.not_mem_nil, false_implies, implies_true, and_true, true_and, and_self, ri_eq, Int.natCast_add, Int.cast_ofNat_Int, rr_eq]; try simp) (by simp (disch := omega) only [go_sem, ↓List.forall_mem_cons, List.not_mem_nil, false_implies, implies_true, and_true, true_and, and_self, ri_eq, Int.natCast_add, Int.cast_ofNat_Int, if_pos, if_neg, Nat.reduceAdd, List.nil_append, hz]; try simp) (Nat.le_refl _)) ?_
    clear g2 hl hv
    intro k hk
    have hl := hkl k
    refine SW_of_vc Try.mixed _ _ _ (by kernel_rfl) ?_
    by_cases hlk : k < M.length
    · have g3 : (ints (mrow M p))[k]? = some (.val (.int .i64 (mat M p k))) := ints_get' hrp hlk
      have g4 : (ints (pvk M (pv M O i) p i k))[k]? = some (.val (.int .i64 ((pvk M (pv M O i) p i k).getD k 0))) := ints_get' hl hlk
      rw [hks k hlk] at g4
      have hput := pvk_put (Q := pv M O i) (p := p) (i := i) hlk
      have hsk := pvk_skip (M := M) (Q := pv M O i) (p := p) (i := i) (k := k)
      clear hks hkl hend hz
      generalize (pv M O i).getD k 0 = u at *
      by_cases e1 : u < 0
      · by_cases e2 : k = p
        · have hput := hput ⟨e1, .inl e2⟩
          simp (disch := omega) only [Try.ntmps47, Try.results47, go_sem, rr_eq, g4, hl, hput]
          exact ⟨k + 1, hlk, by omega, Wk.ofH (by simp only [go_sem, ↓List.forall_mem_cons, List.not_mem_nil, false_implies, implies_true, and_true, true_and, and_self, ri_eq, Int.natCast_add, Int.cast_ofNat_Int, rr_eq]; try simp) (by simp (disch := omega) only [go_sem, ↓List.forall_mem_cons, List.not_mem_nil, false_implies, implies_true, and_true, true_and, and_self, ri_eq, Int.natCast_add, Int.cast_ofNat_Int, if_pos, if_neg, Nat.reduceAdd, List.nil_append]; try simp) (Nat.le_refl _)⟩
        · by_cases e3 : 0 < mat M p k
          · have hput := hput ⟨e1, .inr e3⟩
            generalize mat M p k = mm at *
            simp (disch := omega) only [Try.ntmps47, Try.results47, go_sem, rr_eq, g3, g4, hl, hput, rows_get, hrp]
            exact ⟨k + 1, hlk, by omega, Wk.ofH (by simp only [go_sem, ↓List.forall_mem_cons, List.not_mem_nil, false_implies, implies_true, and_true, true_and, and_self, ri_eq, Int.natCast_add, Int.cast_ofNat_Int, rr_eq]; try simp) (by simp (disch := omega) only [go_sem, ↓List.forall_mem_cons, List.not_mem_nil, false_implies, implies_true, and_true, true_and, and_self, ri_eq, Int.natCast_add, Int.cast_ofNat_Int, if_pos, if_neg, Nat.reduceAdd, List.nil_append]; try simp) (Nat.le_refl _)⟩
          · have hsk := hsk (fun g => g.2.elim e2 e3)
            generalize mat M p k = mm at *
            simp (disch := omega) only [Try.ntmps47, Try.results47, go_sem, rr_eq, g3, g4, hl, rows_get, hrp]
            exact ⟨k + 1, hlk, by omega, Wk.ofH (by simp only [go_sem, ↓List.forall_mem_cons, List.not_mem_nil, false_implies, implies_true, and_true, true_and, and_self, ri_eq, Int.natCast_add, Int.cast_ofNat_Int, rr_eq]; try simp) (by simp (disch := omega) only [go_sem, ↓List.forall_mem_cons, List.not_mem_nil, false_implies, implies_true, and_true, true_and, and_self, ri_eq, Int.natCast_add, Int.cast_ofNat_Int, if_pos, if_neg, Nat.reduceAdd, List.nil_append, ← hsk]; try simp) (Nat.le_refl _)⟩
      · have hsk := hsk (fun g => e1 g.1)
        simp (disch := omega) only [Try.ntmps47, Try.results47, go_sem, rr_eq, g4, hl]
        exact ⟨k + 1, hlk, by omega, Wk.ofH (by simp only [go_sem, ↓List.forall_mem_cons, List.not_mem_nil, false_implies, implies_true, and_true, true_and, and_self, ri_eq, Int.natCast_add, Int.cast_ofNat_Int, rr_eq]; try simp) (by simp (disch := omega) only [go_sem, ↓List.forall_mem_cons, List.not_mem_nil, false_implies, implies_true, and_true, true_and, and_self, ri_eq, Int.natCast_add, Int.cast_ofNat_Int, if_pos, if_neg, Nat.reduceAdd, List.nil_append, ← hsk]; try simp) (Nat.le_refl _)⟩
    · obtain rfl : k = M.length := by omega
      rw [hend]
      simp (disch := omega) only [Try.ntmps47, Try.results47, go_sem, rr_eq]
      exact ⟨i + 1, hlti, by omega, Wk.ofH (by simp only [go_sem, ↓List.forall_mem_cons, List.not_mem_nil, false_implies, implies_true, and_true, true_and, and_self, ri_eq, Int.natCast_add, Int.cast_ofNat_Int, rr_eq]; try simp) (by simp (disch := omega) only [go_sem, ↓List.forall_mem_cons, List.not_mem_nil, false_implies, implies_true, and_true, true_and, and_self, ri_eq, Int.natCast_add, Int.cast_ofNat_Int, if_pos, if_neg, Nat.reduceAdd, List.nil_append]; try simp) (Nat.le_refl _)⟩
theorem Try.specPiv_not (M : List (List Int)) (O : List Int) (hM : M.length ≤ 1048576) (hR : ∀ i, i < M.length → (mrow M i).length ≤ 1048576) (hO : O.length ≤ 1048576) (h : ¬ (WM M ∧ isOrd M.length O = true)) : FCall Try.prog 47 [rr M, ri O] (FlatRes 0 1 (ints [])) := by
  have w1 := Try.specIsWM_ok M hM hR
  refine FCall.of_body Try.func47 rfl (by kernel_rfl) (by simp [Try.ntmps47]) ?_
  refine SW_of_vc Try.mixed _ _ _ (by kernel_rfl) ?_
  by_cases hw : WM M
  · have w2 := Try.specIsOrder_ok M.length O hO (by omega) (by omega)
    have hn : isOrd M.length O = false := by
      rcases Bool.eq_false_or_eq_true (isOrd M.length O) with g | g
      · exact absurd ⟨hw, g⟩ h
      · exact g
    rw [hn] at w2
    rw [isWM_t hw] at w1
    simp (disch := omega) only [Try.ntmps47, Try.results47, go_sem, rr_eq]
    refine w1.callV 0 (viewL_cons_of (view_row) viewL_nil_of) ?_
    simp (disch := omega) only [Try.ntmps47, Try.results47, go_sem, rr_eq]
    refine w2.callV 0 (viewL_cons_of (view_int) (viewL_cons_of (view_rowL (by first | rfl | simp [marks_length, canon_length] | omega)) viewL_nil_of)) ?_
    simp (disch := omega) only [Try.ntmps47, Try.results47, go_sem, rr_eq]
    exact fin_ints (L := []) (b := 0) (e2 := false) rfl rfl
  · rw [isWM_f hw] at w1
    simp (disch := omega) only [Try.ntmps47, Try.results47, go_sem, rr_eq]
    refine w1.callV 0 (viewL_cons_of (view_row) viewL_nil_of) ?_
    simp (disch := omega) only [Try.ntmps47, Try.results47, go_sem, rr_eq]
    exact fin_ints (L := []) (b := 0) (e2 := false) rfl rfl
theorem Try.implPiv_nil (M : List (List Int)) (O : List Int) (hM : M.length ≤ 1048576) (hR : ∀ i, i < M.length → (mrow M i).length ≤ 1048576) (hO : O.length ≤ 1048576) (h : ¬ (WM M ∧ isOrd M.length O = true)) : FCall Try.prog 43 [rr M, ri O] (fun r _ => r = .val (.slice none 0 0)) := by
  have w1 := Try.implIsWM_ok M hM hR
  refine FCall.of_body Try.func43 rfl (by kernel_rfl) (by simp [Try.ntmps43]) ?_
  refine SW_of_vc Try.mixed _ _ _ (by kernel_rfl) ?_
  by_cases hw : WM M
  · have w2 := Try.implIsOrder_ok M.length O hO
    have hn : isOrd M.length O = false := by
      rcases Bool.eq_false_or_eq_true (isOrd M.length O) with g | g
      · exact absurd ⟨hw, g⟩ h
      · exact g
    rw [hn] at w2
    rw [isWM_t hw] at w1
    simp (disch := omega) only [Try.ntmps43, Try.results43, go_sem, rr_eq]
    refine w1.callV 0 (viewL_cons_of (view_row) viewL_nil_of) ?_
    simp (disch := omega) only [Try.ntmps43, Try.results43, go_sem, rr_eq]
    refine w2.callV 0 (viewL_cons_of (view_int) (viewL_cons_of (view_rowL (by first | rfl | simp [marks_length, canon_length] | omega)) viewL_nil_of)) ?_
    simp (disch := omega) only [Try.ntmps43, Try.results43, go_sem, rr_eq]
    exact Fin.val rfl
  · rw [isWM_f hw] at w1
    simp (disch := omega) only [Try.ntmps43, Try.results43, go_sem, rr_eq]
    refine w1.callV 0 (viewL_cons_of (view_row) viewL_nil_of) ?_
    simp (disch := omega) only [Try.ntmps43, Try.results43, go_sem, rr_eq]
    exact Fin.val rfl
theorem Try.specPiv_ok (M : List (List Int)) (O : List Int) (hM : M.length ≤ 1048576) (hR : ∀ i, i < M.length → (mrow M i).length ≤ 1048576) (hO : O.length ≤ 1048576) : PCall Try.prog 47 [rr M, ri O] (ri (piv M O)) := by
  by_cases h : WM M ∧ isOrd M.length O = true
  · exact (Try.specPiv_f M O hM hR hO h).pcall 2 (fun _ _ h => flat_view h)
  · rw [piv_f h]; exact (Try.specPiv_not M O hM hR hO h).pcall 2 (fun _ _ h => flat_view h)
theorem Try.implPiv_one (M : List (List Int)) (O : List Int) (hM : M.length ≤ 1048576) (hR : ∀ i, i < M.length → (mrow M i).length ≤ 1048576) (hO : O.length ≤ 1048576) (h : WM M ∧ isOrd M.length O = true) : FCall Try.prog 43 [rr M, ri O] (OneRes M.length 1 (ints (piv M O))) := (Try.implPiv_f M O hM hR hO h).one
theorem Try.implPiv_ok (M : List (List Int)) (O : List Int) (hM : M.length ≤ 1048576) (hR : ∀ i, i < M.length → (mrow M i).length ≤ 1048576) (hO : O.length ≤ 1048576) : PCall Try.prog 43 [rr M, ri O] (ri (piv M O)) := by
  by_cases h : WM M ∧ isOrd M.length O = true
  · exact (Try.implPiv_f M O hM hR hO h).pcall 2 (fun _ _ h => flat_view h)
  · rw [piv_f h]; exact (Try.implPiv_nil M O hM hR hO h).pcall 0 (by rintro r H rfl; exact view_nil)
end Go.Sh

/-
  Contracts: an item moved to another block. Of the program.
-/
namespace Go.Sh
set_option linter.unusedSimpArgs false
set_option linter.unusedVariables false
open Go Go.Proofs

def top (L : List Int) (k : Nat) : Int := (L.take k).foldl max (-1)
theorem top_zero (L : List Int) : top L 0 = -1 := rfl
theorem top_succ {L : List Int} {k : Nat} (h : k < L.length) : top L (k + 1) = max (top L k) (L.getD k 0) := by
  rw [top, List.take_succ_eq_append_getElem h, List.foldl_append]
  simp [top, h]
theorem top_ge (L : List Int) : ∀ k, k ≤ L.length → -1 ≤ top L k
  | 0, _ => by rw [top_zero]; omega
  | k + 1, h => by
    have := top_ge L k (by omega)
    rw [top_succ (by omega)]; omega
theorem top_part {L : List Int} (h : isPart L = true) : ∀ k, k ≤ L.length → top L k ≤ 7
  | 0, _ => by rw [top_zero]; omega
  | k + 1, hk => by
    have := top_part h k (by omega)
    have := (isPart_bound h (i := k) (by omega)).2
    rw [top_succ (by omega)]; omega
def moveOk (L : List Int) (it bl : Int) : Bool := isPart L && (inR it 0 ((L.length : Int) - 1) && inR bl 0 (top L L.length + 1))
def moveTo (L : List Int) (it bl : Int) : List Int := if moveOk L it bl = true then canon (L.set it.toNat bl) else L
theorem moveTo_length (L : List Int) (it bl : Int) : (moveTo L it bl).length = L.length := by
  unfold moveTo
  split
  · rw [canon_length]; simp
  · rfl

theorem Try.clone_f (L : List Int) (hL : L.length ≤ 1048576) (h0 : 0 < L.length) : FCall Try.prog 153 [ri L] (FlatRes L.length 1 (ints L)) := by
  have hf := ints_flat L
  refine FCall.of_body Try.func153 rfl (by kernel_rfl) (by simp [Try.ntmps153]) ?_
  refine SW_of_vc Try.mixed _ _ _ (by kernel_rfl) ?_
  simp (disch := omega) only [Try.ntmps153, Try.results153, go_sem, hf]
  exact fin_ints rfl (by rw [hp_map, hmap_cons, if_pos rfl])

/-- Of an empty slice that is not nil. -/
theorem Try.clone_0 (H : Heap) (b cap : Nat) (ex e2 : Bool) (hb : H.map b = some ⟨ints [], e2⟩) (hbn : b ≠ H.nb) : CallS Try.prog 153 [.own b 0 0 cap 1 ex] H (fun r H' => r = .own H.nb 0 0 0 1 false ∧ H' = H.push ⟨[], false⟩) := by
  refine CallS.of_body Try.func153 rfl (by kernel_rfl) (by simp [Try.ntmps153]) ?_
  refine SW_of_vc Try.mixed _ _ _ (by kernel_rfl) ?_
  have p1 : (H.push ⟨[], false⟩).map H.nb = some ⟨[], false⟩ := by simp [Heap.push]
  have p2 : (H.push ⟨[], false⟩).map b = some ⟨ints [], e2⟩ := by simp [Heap.push, hbn, hb]
  simp (disch := omega) only [Try.ntmps153, Try.results153, go_sem, hb, p1, p2]

theorem fin_tup {n z cap b : Nat} {ex e2 : Bool} {cs : List SV} {u : Value} {H : Heap} (hn : cs.length = n * z) (hv : cs.all isVal = true) (hb : H.map b = some ⟨cs, e2⟩) :
    Fin (fun r H => ∃ r0, r = .tup [r0, .val u] ∧ FlatRes n z cs r0 H) (.tup [.own b 0 n cap z ex, .val u]) H := by
  obtain ⟨H2, h1, _, h3, h4⟩ := flat_fin (ex := ex) (cap := cap) hn hv hb
  exact ⟨H2, h1, by simp [noRow, noRowL], h3, _, rfl, h4⟩

end Go.Sh
