/-
  Texts put together: PW2, PW3, PW4, ST1. What each proves stands at its own head, with its conditions.
-/
import Derived.Test.YtkmckbjgffaieaaGreatDoorZFnRuleFormat1
import Derived.Lib.ItoaNum
import Derived.Lib.Join
import Derived.Laws.Strings2

/-
  Contracts: vectors of features, scorings, the score of a pair.
-/
namespace Go.Sh
set_option linter.unusedSimpArgs false
set_option linter.unusedVariables false
open Go Go.Proofs

/-- Where the first element is that meets a test. -/
def fx {α : Type} (pr : α → Bool) (L : List α) : Int := match L.findIdx? pr with | some i => (i : Int) | none => -1
theorem fx_none {α : Type} {pr : α → Bool} {L : List α} (d : α) (h : ∀ i, i < L.length → pr (L.getD i d) = false) : fx pr L = -1 := by
  have : L.findIdx? pr = none := by
    rw [List.findIdx?_eq_none_iff]
    intro x hx
    obtain ⟨i, hi, e⟩ := List.getElem_of_mem hx
    have := h i hi
    simpa [hi, e] using this
  rw [fx, this]
theorem fx_some {α : Type} {pr : α → Bool} {L : List α} (d : α) {k : Nat} (hk : k < L.length) (h : ∀ i, i < k → pr (L.getD i d) = false) (e : pr (L.getD k d) = true) : fx pr L = k := by
  have : L.findIdx? pr = some k := by
    rw [List.findIdx?_eq_some_iff_getElem]
    refine ⟨hk, by simpa [hk] using e, fun j hj => ?_⟩
    have hj' : j < L.length := by omega
    have := h j hj
    simp [hj'] at this
    simp [this]
  rw [fx, this]
theorem fx_ge {α : Type} (pr : α → Bool) (L : List α) : (0 ≤ fx pr L) ↔ L.any pr = true := by
  rw [fx]
  cases h : L.findIdx? pr with
  | none =>
    rw [List.findIdx?_eq_none_iff] at h
    constructor
    · intro e; simp at e
    · intro e
      obtain ⟨x, hx, h1⟩ := List.any_eq_true.1 e
      rw [h x hx] at h1; cases h1
  | some i =>
    rw [List.findIdx?_eq_some_iff_getElem] at h
    obtain ⟨hi, h1, _⟩ := h
    simp only [Int.natCast_nonneg, true_iff, List.any_eq_true]
    exact ⟨L[i], List.getElem_mem hi, h1⟩
theorem any_not {α : Type} {L : List α} {p : α → Bool} : (!L.any fun c => !p c) = L.all p := by
  induction L with
  | nil => rfl
  | cons c C ih => simp only [List.any_cons, List.all_cons, ← ih]; cases p c <;> simp
theorem all_getD {α : Type} {L : List α} {p : α → Bool} (d : α) : L.all p = true ↔ ∀ i, i < L.length → p (L.getD i d) = true := by
  rw [List.all_eq_true]
  constructor
  · intro h i hi
    have := h L[i] (List.getElem_mem hi)
    simpa [hi] using this
  · intro h x hx
    obtain ⟨i, hi, e⟩ := List.getElem_of_mem hx
    have := h i hi
    simpa [hi, e] using this
theorem all_not {α : Type} {L : List α} {p : α → Bool} (d : α) {i : Nat} (hi : i < L.length) (h : p (L.getD i d) = false) : L.all p = false := by
  cases hc : L.all p with
  | false => rfl
  | true => rw [(all_getD d).1 hc i hi] at h; cases h

set_option maxHeartbeats 1000000 in
theorem Tryz.indexFuncI_ok (f : FuncId) (cap : List SV) (L : List Int) (pr : Int → Bool) (hL : L.length ≤ 1048576) (hcap : ∀ H fu, viewL H fu cap = some cap)
    (hf : ∀ x, PCall Tryz.prog f (.val (.int .i64 x) :: cap) (.val (.bool (pr x)))) :
    PCall Tryz.prog 64 [ri L, .clos (.func f) [] cap] (.val (.int .i64 (fx pr L))) := by
  refine FCall.pcall (R := fun r _ => r = .val (.int .i64 (fx pr L))) ?_ 0 (by rintro r H rfl; exact view_int)
  refine FCall.of_body Tryz.func64 rfl (by kernel_rfl) (by simp [Tryz.ntmps64]) ?_
  refine SW_of_vc Tryz.mixed _ _ _ (by kernel_rfl) ?_
  have lC := ints_length L
  simp (disch := omega) only [Tryz.ntmps64, Tryz.results64, go_sem]
  refine LoopW.loop (fun k : Nat => ⟨ofL [(0, ri L), (1, .clos (.func f) [] cap), (7, .val (.int .i64 L.length)), (8, .val (.int .i64 k))], hp [] 0⟩) (fun k => k ≤ L.length ∧ ∀ i, i < k → pr (L.getD i 0) = false) (fun k => L.length - k) 0 ⟨by omega, by simp⟩ (Wk.of (by simp only [go_sem, ↓List.forall_mem_cons, List.not_mem_nil, false_implies, implies_true, and_true, true_and, and_self, ri_eq, Int.natCast_add, Int.cast_ofNat_Int]; try simp) rfl) ?_
  rintro k ⟨hk, hkk⟩
  refine SW_of_vc Tryz.mixed _ _ _ (by kernel_rfl) ?_
  by_cases hlt : k < L.length
  · have gk : (ints L)[k]? = some (.val (.int .i64 (L.getD k 0))) := ints_get hlt
    simp (disch := omega) only [Tryz.ntmps64, Tryz.results64, go_sem, gk, lC]
    refine (hf _).callV 1 (viewL_cons_of view_int (hcap _ _)) ?_
    cases he : pr (L.getD k 0) with
    | true =>
      simp (disch := omega) only [Tryz.ntmps64, Tryz.results64, go_sem]
      exact Fin.val (by rw [fx_some 0 hlt hkk he])
    | false =>
      simp (disch := omega) only [Tryz.ntmps64, Tryz.results64, go_sem]
      refine ⟨k + 1, ⟨by omega, fun i hi => ?_⟩, by omega, Wk.of (by simp only [go_sem, ↓List.forall_mem_cons, List.not_mem_nil, false_implies, implies_true, and_true, true_and, and_self, ri_eq, Int.natCast_add, Int.cast_ofNat_Int]; try simp) rfl⟩
      rcases Nat.lt_succ_iff_lt_or_eq.mp hi with h | rfl
      · exact hkk i h
      · exact he
  · simp (disch := omega) only [Tryz.ntmps64, Tryz.results64, go_sem]
    exact Fin.val (by rw [fx_none 0 (fun i hi => hkk i (by omega))])
theorem Tryz.containsFuncI_ok (f : FuncId) (cap : List SV) (L : List Int) (pr : Int → Bool) (hL : L.length ≤ 1048576) (hcap : ∀ H fu, viewL H fu cap = some cap)
    (hf : ∀ x, PCall Tryz.prog f (.val (.int .i64 x) :: cap) (.val (.bool (pr x)))) :
    PCall Tryz.prog 49 [ri L, .clos (.func f) [] cap] (.val (.bool (L.any pr))) := by
  refine FCall.pcall (R := fun r _ => r = .val (.bool (L.any pr))) ?_ 0 (by rintro r H rfl; exact view_bool)
  refine FCall.of_body Tryz.func49 rfl (by kernel_rfl) (by simp [Tryz.ntmps49]) ?_
  have w := Tryz.indexFuncI_ok f cap L pr hL hcap hf
  have hg := fx_ge pr L
  generalize fx pr L = q at *
  refine SW_of_vc Tryz.mixed _ _ _ (by kernel_rfl) ?_
  cases h : L.any pr with
  | true =>
    have := hg.mpr h
    simp (disch := omega) only [Tryz.ntmps49, Tryz.results49, go_sem]
    refine w.callV 1 (viewL_cons_of view_row (viewL_cons_of (view_clos (hcap _ _)) viewL_nil_of)) ?_
    simp (disch := omega) only [Tryz.ntmps49, Tryz.results49, go_sem]
    exact Fin.val rfl
  | false =>
    have : ¬ 0 ≤ q := fun e => by rw [hg.mp e] at h; cases h
    simp (disch := omega) only [Tryz.ntmps49, Tryz.results49, go_sem]
    refine w.callV 1 (viewL_cons_of view_row (viewL_cons_of (view_clos (hcap _ _)) viewL_nil_of)) ?_
    simp (disch := omega) only [Tryz.ntmps49, Tryz.results49, go_sem]
    exact Fin.val rfl

/-! ### Vectors of features -/
def isFV (f : List Int) : Bool := decide (f.length = 6) && f.all fun x => inR x 0 1000
theorem isFV_t {f : List Int} (h : isFV f = true) : f.length = 6 ∧ ∀ i, i < 6 → 0 ≤ f.getD i 0 ∧ f.getD i 0 ≤ 1000 := by
  rw [isFV, Bool.and_eq_true] at h
  have hl := of_decide_eq_true h.1
  exact ⟨hl, fun i hi => inR_of ((all_getD 0).1 h.2 i (by omega))⟩
theorem Tryz.implFV1_ok (x : Int) : PCall Tryz.prog 50 [.val (.int .i64 x)] (.val (.bool (!inR x 0 1000))) := by
  refine FCall.pcall (R := fun r _ => r = .val (.bool (!inR x 0 1000))) ?_ 0 (by rintro r H rfl; exact view_bool)
  refine FCall.of_body Tryz.func50 rfl (by kernel_rfl) (by simp [Tryz.ntmps50]) ?_
  have w := Tryz.within_ok x 0 1000
  refine SW_of_vc Tryz.mixed _ _ _ (by kernel_rfl) ?_
  simp (disch := omega) only [Tryz.ntmps50, Tryz.results50, go_sem]
  refine w.callV 0 (viewL_cons_of (view_int) (viewL_cons_of (view_int) (viewL_cons_of (view_int) viewL_nil_of))) ?_
  simp (disch := omega) only [Tryz.ntmps50, Tryz.results50, go_sem]
  exact Fin.val rfl
theorem Tryz.implFV_ok (f : List Int) (hf : f.length ≤ 1048576) : PCall Tryz.prog 27 [ri f] (.val (.bool (isFV f))) := by
  refine FCall.pcall (R := fun r _ => r = .val (.bool (isFV f))) ?_ 0 (by rintro r H rfl; exact view_bool)
  refine FCall.of_body Tryz.func27 rfl (by kernel_rfl) (by simp [Tryz.ntmps27]) ?_
  have w := Tryz.containsFuncI_ok 50 [] f (fun x => !inR x 0 1000) hf (fun _ _ => viewL_nil_of) (fun x => Tryz.implFV1_ok x)
  have e := any_not (L := f) (p := fun x => inR x 0 1000)
  refine SW_of_vc Tryz.mixed _ _ _ (by kernel_rfl) ?_
  by_cases h6 : f.length = 6
  · simp (disch := omega) only [Tryz.ntmps27, Tryz.results27, go_sem, h6]
    refine w.callV 1 (viewL_cons_of (view_rowL h6.symm) (viewL_cons_of (view_clos viewL_nil_of) viewL_nil_of)) ?_
    simp (disch := omega) only [Tryz.ntmps27, Tryz.results27, go_sem]
    exact Fin.val (by rw [e, isFV, decide_eq_true h6, Bool.true_and])
  · simp (disch := omega) only [Tryz.ntmps27, Tryz.results27, go_sem]
    exact Fin.val (by rw [isFV, decide_eq_false h6, Bool.false_and])
set_option maxHeartbeats 1000000 in
theorem Tryz.specFV_ok (f : List Int) (hf : f.length ≤ 1048576) : PCall Tryz.prog 12 [ri f] (.val (.bool (isFV f))) := by
  refine FCall.pcall (R := fun r _ => r = .val (.bool (isFV f))) ?_ 0 (by rintro r H rfl; exact view_bool)
  refine FCall.of_body Tryz.func12 rfl (by kernel_rfl) (by simp [Tryz.ntmps12]) ?_
  have lC := ints_length f
  refine SW_of_vc Tryz.mixed _ _ _ (by kernel_rfl) ?_
  simp (disch := omega) only [Tryz.ntmps12, Tryz.results12, go_sem]
  refine LoopW.loop (fun k : Nat => ⟨ofL [(0, ri f), (3, .val (.int .i64 k))], hp [] 0⟩) (fun k => k ≤ f.length ∧ ∀ i, i < k → inR (f.getD i 0) 0 1000 = true) (fun k => f.length - k) 0 ⟨by omega, by simp⟩ (Wk.of (by simp only [go_sem, ↓List.forall_mem_cons, List.not_mem_nil, false_implies, implies_true, and_true, true_and, and_self, ri_eq, Int.natCast_add, Int.cast_ofNat_Int]; try simp) rfl) ?_
  rintro k ⟨hk, hkk⟩
  refine SW_of_vc Tryz.mixed _ _ _ (by kernel_rfl) ?_
  by_cases hlt : k < f.length
  · have gk : (ints f)[k]? = some (.val (.int .i64 (f.getD k 0))) := ints_get hlt
    have w := Tryz.l1In_ok (f.getD k 0) 0 1000
    cases he : inR (f.getD k 0) 0 1000 with
    | true =>
      rw [he] at w
      simp (disch := omega) only [Tryz.ntmps12, Tryz.results12, go_sem, gk, lC]
      refine w.callV 0 (viewL_cons_of (view_int) (viewL_cons_of (view_int) (viewL_cons_of (view_int) viewL_nil_of))) ?_
      simp (disch := omega) only [Tryz.ntmps12, Tryz.results12, go_sem, gk, lC]
      refine ⟨k + 1, ⟨by omega, fun i hi => ?_⟩, by omega, Wk.of (by simp only [go_sem, ↓List.forall_mem_cons, List.not_mem_nil, false_implies, implies_true, and_true, true_and, and_self, ri_eq, Int.natCast_add, Int.cast_ofNat_Int]; try simp) rfl⟩
      rcases Nat.lt_succ_iff_lt_or_eq.mp hi with h | rfl
      · exact hkk i h
      · exact he
    | false =>
      rw [he] at w
      simp (disch := omega) only [Tryz.ntmps12, Tryz.results12, go_sem, gk, lC]
      refine w.callV 0 (viewL_cons_of (view_int) (viewL_cons_of (view_int) (viewL_cons_of (view_int) viewL_nil_of))) ?_
      simp (disch := omega) only [Tryz.ntmps12, Tryz.results12, go_sem, gk, lC]
      exact Fin.val (by rw [isFV, all_not 0 hlt he, Bool.and_false])
  · have hall : (f.all fun x => inR x 0 1000) = true := (all_getD 0).2 fun i hi => hkk i (by omega)
    by_cases h6 : f.length = 6
    · simp (disch := omega) only [Tryz.ntmps12, Tryz.results12, go_sem, h6]
      exact Fin.val (by rw [isFV, decide_eq_true h6, hall]; rfl)
    · simp (disch := omega) only [Tryz.ntmps12, Tryz.results12, go_sem]
      exact Fin.val (by rw [isFV, decide_eq_false h6, Bool.false_and])

/-! ### Scorings -/
def wsum (W : List Int) (k : Nat) : Int := (W.take k).sum
theorem wsum_succ {W : List Int} {k : Nat} (h : k < W.length) : wsum W (k + 1) = wsum W k + W.getD k 0 := by
  rw [wsum, List.take_succ_eq_append_getElem h, List.sum_append, wsum]; simp [h]
def isSc (W : List Int) (b : Int) : Bool := (W.all fun x => inR x 0 9) && (decide (W.length = 6) && (decide (0 < wsum W W.length) && inR b 0 1000))
theorem wsum_b {W : List Int} (h : ∀ i, i < W.length → 0 ≤ W.getD i 0 ∧ W.getD i 0 ≤ 9) : ∀ k, k ≤ W.length → 0 ≤ wsum W k ∧ wsum W k ≤ 9 * k
  | 0, _ => by simp [wsum]
  | k + 1, hk => by
    have ih := wsum_b h k (by omega)
    have := h k (by omega)
    rw [wsum_succ (by omega)]
    omega

set_option maxHeartbeats 2000000 in
theorem Tryz.specSc_ok (W : List Int) (b : Int) (hW : W.length ≤ 1048576) : PCall Tryz.prog 11 [sS W b] (.val (.bool (isSc W b))) := by
  refine FCall.pcall (R := fun r _ => r = .val (.bool (isSc W b))) ?_ 0 (by rintro r H rfl; exact view_bool)
  refine FCall.of_body Tryz.func11 rfl (by kernel_rfl) (by simp [Tryz.ntmps11]) ?_
  have lC := ints_length W
  have ws0 : wsum W 0 = 0 := by simp [wsum]
  refine SW_of_vc Tryz.mixed _ _ _ (by kernel_rfl) ?_
  simp (disch := omega) only [Tryz.ntmps11, Tryz.results11, go_sem]
  refine LoopW.loop (fun k : Nat => ⟨ofL [(1, .optr 0 0), (3, .val (.int .i64 (wsum W k))), (4, .val (.int .i64 k))], hp [(0, ⟨[ri W, .val (.int .i64 b)], true⟩)] 1⟩) (fun k => k ≤ W.length ∧ ∀ i, i < k → inR (W.getD i 0) 0 9 = true) (fun k => W.length - k) 0 ⟨by omega, by simp⟩ (Wk.of (by simp only [go_sem, ↓List.forall_mem_cons, List.not_mem_nil, false_implies, implies_true, and_true, true_and, and_self, ri_eq, Int.natCast_add, Int.cast_ofNat_Int, ws0]; try simp) (by first | rfl | (simp only [ri]; done))) ?_
  rintro k ⟨hk, hkk⟩
  have hws : 0 ≤ wsum W k ∧ wsum W k ≤ 9 * k := by
    have h1 : ∀ k, (∀ i, i < k → inR (W.getD i 0) 0 9 = true) → k ≤ W.length → 0 ≤ wsum W k ∧ wsum W k ≤ 9 * k := by
      intro k
      induction k with
      | zero => intro _ _; simp [wsum]
      | succ k ih =>
        intro h1 h2
        have := ih (fun i hi => h1 i (by omega)) (by omega)
        have h3 := inR_of (h1 k (by omega))
        rw [wsum_succ (by omega)]; omega
    exact h1 k hkk hk
  refine SW_of_vc Tryz.mixed _ _ _ (by kernel_rfl) ?_
  by_cases hlt : k < W.length
  · have gk : (ints W)[k]? = some (.val (.int .i64 (W.getD k 0))) := ints_get hlt
    have w := Tryz.l1In_ok (W.getD k 0) 0 9
    have hsu := wsum_succ hlt
    cases he : inR (W.getD k 0) 0 9 with
    | true =>
      have hr := inR_of he
      have hnx : ∀ i, i < k + 1 → inR (W.getD i 0) 0 9 = true := fun i hi => by
        rcases Nat.lt_succ_iff_lt_or_eq.mp hi with h | rfl
        · exact hkk i h
        · exact he
      rw [he] at w
      generalize W.getD k 0 = x at *
      simp (disch := omega) only [Tryz.ntmps11, Tryz.results11, go_sem, gk, lC]
      refine w.callV 0 (viewL_cons_of (view_int) (viewL_cons_of (view_int) (viewL_cons_of (view_int) viewL_nil_of))) ?_
      simp (disch := omega) only [Tryz.ntmps11, Tryz.results11, go_sem, gk, lC]
      exact ⟨k + 1, ⟨by omega, hnx⟩, by omega, Wk.of (by simp only [go_sem, ↓List.forall_mem_cons, List.not_mem_nil, false_implies, implies_true, and_true, true_and, and_self, ri_eq, Int.natCast_add, Int.cast_ofNat_Int, hsu]; try simp) (by first | rfl | (simp only [ri]; done))⟩
    | false =>
      rw [he] at w
      simp (disch := omega) only [Tryz.ntmps11, Tryz.results11, go_sem, gk, lC]
      refine w.callV 0 (viewL_cons_of (view_int) (viewL_cons_of (view_int) (viewL_cons_of (view_int) viewL_nil_of))) ?_
      simp (disch := omega) only [Tryz.ntmps11, Tryz.results11, go_sem, gk, lC]
      exact Fin.val (by rw [isSc, all_not 0 hlt he, Bool.false_and])
  · obtain rfl : k = W.length := by omega
    have hall : (W.all fun x => inR x 0 9) = true := (all_getD 0).2 fun i hi => hkk i (by omega)
    by_cases h6 : W.length = 6
    · by_cases hs : 0 < wsum W W.length
      · have w := Tryz.l1In_ok b 0 1000
        have ef : isSc W b = inR b 0 1000 := by rw [isSc, hall, decide_eq_true h6, decide_eq_true hs]; rfl
        rw [ef]
        clear ef hall hkk
        generalize wsum W W.length = z at *
        simp (disch := omega) only [Tryz.ntmps11, Tryz.results11, go_sem]
        refine w.callV 0 (viewL_cons_of (view_int) (viewL_cons_of (view_int) (viewL_cons_of (view_int) viewL_nil_of))) ?_
        simp (disch := omega) only [Tryz.ntmps11, Tryz.results11, go_sem]
        exact Fin.val rfl
      · have ef : isSc W b = false := by rw [isSc, decide_eq_false hs]; simp
        rw [ef]
        clear ef hall hkk
        generalize wsum W W.length = z at *
        simp (disch := omega) only [Tryz.ntmps11, Tryz.results11, go_sem]
        exact Fin.val rfl
    · have ef : isSc W b = false := by rw [isSc, decide_eq_false h6]; simp
      rw [ef]
      clear ef
      simp (disch := omega) only [Tryz.ntmps11, Tryz.results11, go_sem]
      exact Fin.val rfl

set_option maxHeartbeats 2000000 in
theorem Tryz.implSc_ok (W : List Int) (b : Int) (hW : W.length ≤ 1048576) : PCall Tryz.prog 26 [sS W b] (.val (.bool (isSc W b))) := by
  refine FCall.pcall (R := fun r _ => r = .val (.bool (isSc W b))) ?_ 0 (by rintro r H rfl; exact view_bool)
  refine FCall.of_body Tryz.func26 rfl (by kernel_rfl) (by simp [Tryz.ntmps26]) ?_
  have lC := ints_length W
  have ws0 : wsum W 0 = 0 := by simp [wsum]
  refine SW_of_vc Tryz.mixed _ _ _ (by kernel_rfl) ?_
  simp (disch := omega) only [Tryz.ntmps26, Tryz.results26, go_sem]
  refine LoopW.loop (fun k : Nat => ⟨ofL [(1, .optr 0 0), (3, .val (.int .i64 (wsum W k))), (7, ri W), (8, .val (.int .i64 W.length)), (9, .val (.int .i64 k))], hp [(0, ⟨[ri W, .val (.int .i64 b)], true⟩)] 1⟩) (fun k => k ≤ W.length ∧ ∀ i, i < k → inR (W.getD i 0) 0 9 = true) (fun k => W.length - k) 0 ⟨by omega, by simp⟩ (Wk.of (by simp only [go_sem, ↓List.forall_mem_cons, List.not_mem_nil, false_implies, implies_true, and_true, true_and, and_self, ri_eq, Int.natCast_add, Int.cast_ofNat_Int, ws0]; try simp) (by first | rfl | (simp only [ri]; done))) ?_
  rintro k ⟨hk, hkk⟩
  have hws : 0 ≤ wsum W k ∧ wsum W k ≤ 9 * k := by
    have h1 : ∀ k, (∀ i, i < k → inR (W.getD i 0) 0 9 = true) → k ≤ W.length → 0 ≤ wsum W k ∧ wsum W k ≤ 9 * k := by
      intro k
      induction k with
      | zero => intro _ _; simp [wsum]
      | succ k ih =>
        intro h1 h2
        have := ih (fun i hi => h1 i (by omega)) (by omega)
        have h3 := inR_of (h1 k (by omega))
        rw [wsum_succ (by omega)]; omega
    exact h1 k hkk hk
  refine SW_of_vc Tryz.mixed _ _ _ (by kernel_rfl) ?_
  by_cases hlt : k < W.length
  · have gk : (ints W)[k]? = some (.val (.int .i64 (W.getD k 0))) := ints_get hlt
    have w := Tryz.within_ok (W.getD k 0) 0 9
    have hsu := wsum_succ hlt
    cases he : inR (W.getD k 0) 0 9 with
    | true =>
      have hr := inR_of he
      have hnx : ∀ i, i < k + 1 → inR (W.getD i 0) 0 9 = true := fun i hi => by
        rcases Nat.lt_succ_iff_lt_or_eq.mp hi with h | rfl
        · exact hkk i h
        · exact he
      rw [he] at w
      generalize W.getD k 0 = x at *
      simp (disch := omega) only [Tryz.ntmps26, Tryz.results26, go_sem, gk, lC]
      refine w.callV 0 (viewL_cons_of (view_int) (viewL_cons_of (view_int) (viewL_cons_of (view_int) viewL_nil_of))) ?_
      simp (disch := omega) only [Tryz.ntmps26, Tryz.results26, go_sem, gk, lC]
      exact ⟨k + 1, ⟨by omega, hnx⟩, by omega, Wk.of (by simp only [go_sem, ↓List.forall_mem_cons, List.not_mem_nil, false_implies, implies_true, and_true, true_and, and_self, ri_eq, Int.natCast_add, Int.cast_ofNat_Int, hsu]; try simp) (by first | rfl | (simp only [ri]; done))⟩
    | false =>
      rw [he] at w
      simp (disch := omega) only [Tryz.ntmps26, Tryz.results26, go_sem, gk, lC]
      refine w.callV 0 (viewL_cons_of (view_int) (viewL_cons_of (view_int) (viewL_cons_of (view_int) viewL_nil_of))) ?_
      simp (disch := omega) only [Tryz.ntmps26, Tryz.results26, go_sem, gk, lC]
      exact Fin.val (by rw [isSc, all_not 0 hlt he, Bool.false_and])
  · obtain rfl : k = W.length := by omega
    have hall : (W.all fun x => inR x 0 9) = true := (all_getD 0).2 fun i hi => hkk i (by omega)
    by_cases h6 : W.length = 6
    · by_cases hs : 0 < wsum W W.length
      · have w := Tryz.within_ok b 0 1000
        have ef : isSc W b = inR b 0 1000 := by rw [isSc, hall, decide_eq_true h6, decide_eq_true hs]; rfl
        rw [ef]
        clear ef hall hkk
        generalize wsum W W.length = z at *
        simp (disch := omega) only [Tryz.ntmps26, Tryz.results26, go_sem]
        refine w.callV 0 (viewL_cons_of (view_int) (viewL_cons_of (view_int) (viewL_cons_of (view_int) viewL_nil_of))) ?_
        simp (disch := omega) only [Tryz.ntmps26, Tryz.results26, go_sem]
        exact Fin.val rfl
      · have ef : isSc W b = false := by rw [isSc, decide_eq_false hs]; simp
        rw [ef]
        clear ef hall hkk
        generalize wsum W W.length = z at *
        simp (disch := omega) only [Tryz.ntmps26, Tryz.results26, go_sem]
        exact Fin.val rfl
    · have ef : isSc W b = false := by rw [isSc, decide_eq_false h6]; simp
      rw [ef]
      clear ef
      simp (disch := omega) only [Tryz.ntmps26, Tryz.results26, go_sem]
      exact Fin.val rfl

/-! ### The score of a pair -/
def dot (f W : List Int) : Nat → Int
  | 0 => 0
  | k + 1 => dot f W k + f.getD k 0 * W.getD k 0
theorem mul_b {x y : Int} (h1 : 0 ≤ x ∧ x ≤ 1000) (h2 : 0 ≤ y ∧ y ≤ 9) : 0 ≤ x * y ∧ x * y ≤ 9000 := by
  constructor
  · exact Int.mul_nonneg h1.1 h2.1
  · have : x * y ≤ 1000 * 9 := Int.mul_le_mul h1.2 h2.2 h2.1 (by omega)
    omega
theorem dot_b {f W : List Int} (hf : ∀ i, i < 6 → 0 ≤ f.getD i 0 ∧ f.getD i 0 ≤ 1000) (hW : ∀ i, i < 6 → 0 ≤ W.getD i 0 ∧ W.getD i 0 ≤ 9) : ∀ k, k ≤ 6 → 0 ≤ dot f W k ∧ dot f W k ≤ 9000 * k
  | 0, _ => by simp [dot]
  | k + 1, hk => by
    have ih := dot_b hf hW k (by omega)
    have := mul_b (hf k (by omega)) (hW k (by omega))
    rw [dot]; omega
theorem isSc_t {W : List Int} {b : Int} (h : isSc W b = true) : W.length = 6 ∧ (∀ i, i < 6 → 0 ≤ W.getD i 0 ∧ W.getD i 0 ≤ 9) ∧ 0 < wsum W 6 ∧ 0 ≤ b ∧ b ≤ 1000 := by
  simp only [isSc, Bool.and_eq_true] at h
  obtain ⟨h1, h2, h3, h4⟩ := h
  have hl := of_decide_eq_true h2
  have hs := of_decide_eq_true h3
  rw [hl] at hs
  exact ⟨hl, fun i hi => inR_of ((all_getD 0).1 h1 i (by omega)), hs, inR_of h4⟩

set_option maxHeartbeats 2000000 in
theorem Tryz.specComb_ok (f W : List Int) (hf : isFV f = true) (hl : W.length = 6) (hW : ∀ i, i < 6 → 0 ≤ W.getD i 0 ∧ W.getD i 0 ≤ 9) (hs : 0 < wsum W 6) : PCall Tryz.prog 30 [ri f, ri W] (.val (.int .i64 ((dot f W 6).tdiv (wsum W 6)))) := by
  obtain ⟨fl, fr⟩ := isFV_t hf
  refine FCall.pcall (R := fun r _ => r = .val (.int .i64 ((dot f W 6).tdiv (wsum W 6)))) ?_ 0 (by rintro r H rfl; exact view_int)
  refine FCall.of_body Tryz.func30 rfl (by kernel_rfl) (by simp [Tryz.ntmps30]) ?_
  have l1 : (ints f).length = 6 := by rw [ints_length, fl]
  have l2 : (ints W).length = 6 := by rw [ints_length, hl]
  have ws0 : wsum W 0 = 0 := by simp [wsum]
  have d0 : dot f W 0 = 0 := rfl
  refine SW_of_vc Tryz.mixed _ _ _ (by kernel_rfl) ?_
  simp (disch := omega) only [Tryz.ntmps30, Tryz.results30, go_sem, fl, hl, bne_self_eq_false]
  refine LoopW.loop (fun k : Nat => ⟨ofL [(0, ri f), (1, ri W), (5, .val (.int .i64 (dot f W k))), (6, .val (.int .i64 (wsum W k))), (7, .val (.int .i64 k))], hp [] 0⟩) (fun k => k ≤ 6) (fun k => 6 - k) 0 (by omega) (Wk.of (by simp only [go_sem, ↓List.forall_mem_cons, List.not_mem_nil, false_implies, implies_true, and_true, true_and, and_self, ri_eq, Int.natCast_add, Int.cast_ofNat_Int, ws0, d0, fl, hl]; try simp) rfl) ?_
  intro k hk
  have hwb := wsum_b (W := W) (fun i hi => hW i (by omega)) k (by omega)
  have hdb := dot_b fr hW k hk
  have hwb6 := wsum_b (W := W) (fun i hi => hW i (by omega)) 6 (by omega)
  have hdb6 := dot_b fr hW 6 (by omega)
  refine SW_of_vc Tryz.mixed _ _ _ (by kernel_rfl) ?_
  by_cases hlt : k < 6
  · have g1 : (ints f)[k]? = some (.val (.int .i64 (f.getD k 0))) := ints_get (by omega)
    have g2 : (ints W)[k]? = some (.val (.int .i64 (W.getD k 0))) := ints_get (by omega)
    have b1 := fr k hlt
    have b2 := hW k hlt
    have w1 := Tryz.l1In_ok (f.getD k 0) 0 1000
    have w2 := Tryz.l1In_ok (W.getD k 0) 0 1000
    rw [inR_tt (by omega) (by omega)] at w1 w2
    have hsu := wsum_succ (W := W) (k := k) (by omega)
    have hdu : dot f W (k + 1) = dot f W k + f.getD k 0 * W.getD k 0 := rfl
    have hmul : 0 ≤ f.getD k 0 * W.getD k 0 ∧ f.getD k 0 * W.getD k 0 ≤ 9000 := mul_b b1 b2
    generalize f.getD k 0 = x at *
    generalize W.getD k 0 = y at *
    simp (disch := omega) only [Tryz.ntmps30, Tryz.results30, go_sem, g1, g2, l1, l2, fl, hl]
    refine w1.callV 0 (viewL_cons_of (view_int) (viewL_cons_of (view_int) (viewL_cons_of (view_int) viewL_nil_of))) ?_
    simp (disch := omega) only [Tryz.ntmps30, Tryz.results30, go_sem, g1, g2, l1, l2, fl, hl]
    refine w2.callV 0 (viewL_cons_of (view_int) (viewL_cons_of (view_int) (viewL_cons_of (view_int) viewL_nil_of))) ?_
    simp (disch := omega) only [Tryz.ntmps30, Tryz.results30, go_sem, g1, g2, l1, l2, fl, hl]
    exact ⟨k + 1, by omega, by omega, Wk.of (by simp only [go_sem, ↓List.forall_mem_cons, List.not_mem_nil, false_implies, implies_true, and_true, true_and, and_self, ri_eq, Int.natCast_add, Int.cast_ofNat_Int, hsu, hdu, fl, hl]; try simp) rfl⟩
  · obtain rfl : k = 6 := by omega
    have hq : 0 ≤ (dot f W 6).tdiv (wsum W 6) := Int.tdiv_nonneg hdb6.1 hwb6.1
    have hq2 : (dot f W 6).tdiv (wsum W 6) ≤ dot f W 6 := Int.tdiv_le_self _ hdb6.1
    have hne : ¬ wsum W 6 = 0 := by omega
    generalize wsum W 6 = s at *
    generalize dot f W 6 = d at *
    have hne2 : (s == 0) = false := by simpa using hne
    simp (disch := omega) only [Tryz.ntmps30, Tryz.results30, go_sem, l1, l2, fl, hl, hne, hne2]
    exact Fin.val rfl

set_option maxHeartbeats 2000000 in
theorem Tryz.implComb_ok (f W : List Int) (hf : isFV f = true) (hl : W.length = 6) (hW : ∀ i, i < 6 → 0 ≤ W.getD i 0 ∧ W.getD i 0 ≤ 9) (hs : 0 < wsum W 6) : PCall Tryz.prog 29 [ri f, ri W] (.val (.int .i64 ((dot f W 6).tdiv (wsum W 6)))) := by
  obtain ⟨fl, fr⟩ := isFV_t hf
  refine FCall.pcall (R := fun r _ => r = .val (.int .i64 ((dot f W 6).tdiv (wsum W 6)))) ?_ 0 (by rintro r H rfl; exact view_int)
  refine FCall.of_body Tryz.func29 rfl (by kernel_rfl) (by simp [Tryz.ntmps29]) ?_
  have l1 : (ints f).length = 6 := by rw [ints_length, fl]
  have l2 : (ints W).length = 6 := by rw [ints_length, hl]
  have ws0 : wsum W 0 = 0 := by simp [wsum]
  have d0 : dot f W 0 = 0 := rfl
  refine SW_of_vc Tryz.mixed _ _ _ (by kernel_rfl) ?_
  simp (disch := omega) only [Tryz.ntmps29, Tryz.results29, go_sem, fl, hl, bne_self_eq_false]
  refine LoopW.loop (fun k : Nat => ⟨ofL [(0, ri f), (1, ri W), (5, .val (.int .i64 (dot f W k))), (6, .val (.int .i64 (wsum W k))), (14, ri f), (15, .val (.int .i64 6)), (16, .val (.int .i64 k))], hp [] 0⟩) (fun k => k ≤ 6) (fun k => 6 - k) 0 (by omega) (Wk.of (by simp only [go_sem, ↓List.forall_mem_cons, List.not_mem_nil, false_implies, implies_true, and_true, true_and, and_self, ri_eq, Int.natCast_add, Int.cast_ofNat_Int, ws0, d0, fl, hl]; try simp) rfl) ?_
  intro k hk
  have hwb := wsum_b (W := W) (fun i hi => hW i (by omega)) k (by omega)
  have hdb := dot_b fr hW k hk
  have hwb6 := wsum_b (W := W) (fun i hi => hW i (by omega)) 6 (by omega)
  have hdb6 := dot_b fr hW 6 (by omega)
  refine SW_of_vc Tryz.mixed _ _ _ (by kernel_rfl) ?_
  by_cases hlt : k < 6
  · have g1 : (ints f)[k]? = some (.val (.int .i64 (f.getD k 0))) := ints_get (by omega)
    have g2 : (ints W)[k]? = some (.val (.int .i64 (W.getD k 0))) := ints_get (by omega)
    have b1 := fr k hlt
    have b2 := hW k hlt
    have w1 := Tryz.within_ok (f.getD k 0) 0 1000
    have w2 := Tryz.within_ok (W.getD k 0) 0 1000
    rw [inR_tt (by omega) (by omega)] at w1 w2
    have hsu := wsum_succ (W := W) (k := k) (by omega)
    have hdu : dot f W (k + 1) = dot f W k + f.getD k 0 * W.getD k 0 := rfl
    have hmul : 0 ≤ f.getD k 0 * W.getD k 0 ∧ f.getD k 0 * W.getD k 0 ≤ 9000 := mul_b b1 b2
    generalize f.getD k 0 = x at *
    generalize W.getD k 0 = y at *
    simp (disch := omega) only [Tryz.ntmps29, Tryz.results29, go_sem, g1, g2, l1, l2, fl, hl]
    refine w1.callV 0 (viewL_cons_of (view_int) (viewL_cons_of (view_int) (viewL_cons_of (view_int) viewL_nil_of))) ?_
    simp (disch := omega) only [Tryz.ntmps29, Tryz.results29, go_sem, g1, g2, l1, l2, fl, hl]
    refine w2.callV 0 (viewL_cons_of (view_int) (viewL_cons_of (view_int) (viewL_cons_of (view_int) viewL_nil_of))) ?_
    simp (disch := omega) only [Tryz.ntmps29, Tryz.results29, go_sem, g1, g2, l1, l2, fl, hl]
    exact ⟨k + 1, by omega, by omega, Wk.of (by simp only [go_sem, ↓List.forall_mem_cons, List.not_mem_nil, false_implies, implies_true, and_true, true_and, and_self, ri_eq, Int.natCast_add, Int.cast_ofNat_Int, hsu, hdu, fl, hl]; try simp) rfl⟩
  · obtain rfl : k = 6 := by omega
    have hq : 0 ≤ (dot f W 6).tdiv (wsum W 6) := Int.tdiv_nonneg hdb6.1 hwb6.1
    have hq2 : (dot f W 6).tdiv (wsum W 6) ≤ dot f W 6 := Int.tdiv_le_self _ hdb6.1
    have hne : ¬ wsum W 6 = 0 := by omega
    generalize wsum W 6 = s at *
    generalize dot f W 6 = d at *
    have hne2 : (s == 0) = false := by simpa using hne
    simp (disch := omega) only [Tryz.ntmps29, Tryz.results29, go_sem, l1, l2, fl, hl, hne, hne2]
    exact Fin.val rfl

set_option maxHeartbeats 2000000 in
theorem Tryz.specPS_ok (W : List Int) (b : Int) (f : List Int) (hW : W.length ≤ 1048576) (hf : f.length ≤ 1048576) (h1 : isSc W b = true) (h2 : isFV f = true) : PCall Tryz.prog 9 [sS W b, ri f] (.val (.int .i64 ((dot f W 6).tdiv (wsum W 6)))) := by
  obtain ⟨g1, g2, g3, g4⟩ := isSc_t h1
  have w1 := Tryz.specSc_ok W b hW
  have w2 := Tryz.specFV_ok f hf
  rw [h1] at w1
  rw [h2] at w2
  have w3 := Tryz.specComb_ok f W h2 g1 g2 g3
  refine FCall.pcall (R := fun r _ => r = .val (.int .i64 ((dot f W 6).tdiv (wsum W 6)))) ?_ 0 (by rintro r H rfl; exact view_int)
  refine FCall.of_body Tryz.func9 rfl (by kernel_rfl) (by simp [Tryz.ntmps9]) ?_
  refine SW_of_vc Tryz.mixed _ _ _ (by kernel_rfl) ?_
  simp (disch := omega) only [Tryz.ntmps9, Tryz.results9, go_sem]
  refine w1.callV 1 (viewL_cons_of view_sS viewL_nil_of) ?_
  simp (disch := omega) only [Tryz.ntmps9, Tryz.results9, go_sem]
  refine w2.callV 0 (viewL_cons_of (view_row) viewL_nil_of) ?_
  simp (disch := omega) only [Tryz.ntmps9, Tryz.results9, go_sem]
  refine w3.callV 0 (viewL_cons_of (view_row) (viewL_cons_of (view_row) viewL_nil_of)) ?_
  simp (disch := omega) only [Tryz.ntmps9, Tryz.results9, go_sem]
  exact Fin.val rfl

set_option maxHeartbeats 2000000 in
theorem Tryz.implPS_ok (W : List Int) (b : Int) (f : List Int) (hW : W.length ≤ 1048576) (hf : f.length ≤ 1048576) (h1 : isSc W b = true) (h2 : isFV f = true) : PCall Tryz.prog 8 [sS W b, ri f] (.val (.int .i64 ((dot f W 6).tdiv (wsum W 6)))) := by
  obtain ⟨g1, g2, g3, g4⟩ := isSc_t h1
  have w1 := Tryz.implSc_ok W b hW
  have w2 := Tryz.implFV_ok f hf
  rw [h1] at w1
  rw [h2] at w2
  have w3 := Tryz.implComb_ok f W h2 g1 g2 g3
  refine FCall.pcall (R := fun r _ => r = .val (.int .i64 ((dot f W 6).tdiv (wsum W 6)))) ?_ 0 (by rintro r H rfl; exact view_int)
  refine FCall.of_body Tryz.func8 rfl (by kernel_rfl) (by simp [Tryz.ntmps8]) ?_
  refine SW_of_vc Tryz.mixed _ _ _ (by kernel_rfl) ?_
  simp (disch := omega) only [Tryz.ntmps8, Tryz.results8, go_sem]
  refine w1.callV 1 (viewL_cons_of view_sS viewL_nil_of) ?_
  simp (disch := omega) only [Tryz.ntmps8, Tryz.results8, go_sem]
  refine w2.callV 0 (viewL_cons_of (view_row) viewL_nil_of) ?_
  simp (disch := omega) only [Tryz.ntmps8, Tryz.results8, go_sem]
  refine w3.callV 0 (viewL_cons_of (view_row) (viewL_cons_of (view_row) viewL_nil_of)) ?_
  simp (disch := omega) only [Tryz.ntmps8, Tryz.results8, go_sem]
  exact Fin.val rfl
end Go.Sh

/-
  Contracts: rules: valid, of a test, of a rule, the first that holds.
-/
namespace Go.Sh
set_option linter.unusedSimpArgs false
set_option linter.unusedVariables false
open Go Go.Proofs

def okT (T : List Con) (k : Nat) : Bool := inR (cg T k).1 0 5 && (inR (cg T k).2.1 1 1000 && (decide (k = 0) || decide ((cg T (k - 1)).1 < (cg T k).1)))
def okR (T : List Con) : Bool := ((List.range T.length).all (okT T)) && inR T.length 1 3
def isVR (R : List (List Con)) : Bool := R.all okR && inR R.length 1 3
theorem okR_not {T : List Con} {k : Nat} (hk : k < T.length) (h : okT T k = false) : okR T = false := by
  have : (List.range T.length).all (okT T) = false := by
    rw [List.all_eq_false]; exact ⟨k, by simpa using hk, by rw [h]; simp⟩
  rw [okR, this, Bool.false_and]
theorem okR_of {T : List Con} (h : ∀ k, k < T.length → okT T k = true) : okR T = inR T.length 1 3 := by
  have : (List.range T.length).all (okT T) = true := by
    rw [List.all_eq_true]; intro k hk; exact h k (by simpa using hk)
  rw [okR, this, Bool.true_and]
theorem isVR_t {R : List (List Con)} (h : isVR R = true) : R.length ≤ 3 ∧ ∀ i, i < R.length → (rg R i).length ≤ 3 ∧ ∀ k, k < (rg R i).length → okT (rg R i) k = true := by
  simp only [isVR, Bool.and_eq_true] at h
  refine ⟨by have := inR_of h.2; omega, fun i hi => ?_⟩
  have := (all_getD []).1 h.1 i hi
  rw [okR, Bool.and_eq_true, List.all_eq_true] at this
  exact ⟨by have := inR_of this.2; unfold rg; omega, fun k hk => this.1 k (by rw [List.mem_range]; exact hk)⟩

theorem Tryz.isFeature_ok (x : Int) : PCall Tryz.prog 47 [.val (.int .i64 x)] (.val (.bool (inR x 0 5))) := by
  refine FCall.pcall (R := fun r _ => r = .val (.bool (inR x 0 5))) ?_ 0 (by rintro r H rfl; exact view_bool)
  refine FCall.of_body Tryz.func47 rfl (by kernel_rfl) (by simp [Tryz.ntmps47]) ?_
  have w := Tryz.within_ok x 0 5
  refine SW_of_vc Tryz.mixed _ _ _ (by kernel_rfl) ?_
  simp (disch := omega) only [Tryz.ntmps47, Tryz.results47, go_sem]
  refine w.callV 0 (viewL_cons_of (view_int) (viewL_cons_of (view_int) (viewL_cons_of (view_int) viewL_nil_of))) ?_
  simp (disch := omega) only [Tryz.ntmps47, Tryz.results47, go_sem]
  exact Fin.val rfl
theorem Tryz.isThreshold_ok (x : Int) : PCall Tryz.prog 48 [.val (.int .i64 x)] (.val (.bool (inR x 1 1000))) := by
  refine FCall.pcall (R := fun r _ => r = .val (.bool (inR x 1 1000))) ?_ 0 (by rintro r H rfl; exact view_bool)
  refine FCall.of_body Tryz.func48 rfl (by kernel_rfl) (by simp [Tryz.ntmps48]) ?_
  have w := Tryz.within_ok x 1 1000
  refine SW_of_vc Tryz.mixed _ _ _ (by kernel_rfl) ?_
  simp (disch := omega) only [Tryz.ntmps48, Tryz.results48, go_sem]
  refine w.callV 0 (viewL_cons_of (view_int) (viewL_cons_of (view_int) (viewL_cons_of (view_int) viewL_nil_of))) ?_
  simp (disch := omega) only [Tryz.ntmps48, Tryz.results48, go_sem]
  exact Fin.val rfl

set_option maxRecDepth 20000 in
set_option maxHeartbeats 8000000 in
theorem Tryz.specVR_ok (R : List (List Con)) (hR : R.length ≤ 1048576) (hT : ∀ i, i < R.length → (rg R i).length ≤ 1048576) : PCall Tryz.prog 10 [.agg [rR R]] (.val (.bool (isVR R))) := by
  refine FCall.pcall (R := fun r _ => r = .val (.bool (isVR R))) ?_ 0 (by rintro r H rfl; exact view_bool)
  refine FCall.of_body Tryz.func10 rfl (by kernel_rfl) (by simp [Tryz.ntmps10]) ?_
  have hrl := rules_length R
  refine SW_of_vc Tryz.mixed _ _ _ (by kernel_rfl) ?_
  simp (disch := omega) only [Tryz.ntmps10, Tryz.results10, go_sem, rR]
  refine LoopW.loop (fun i : Nat => ⟨ofL [(1, .optr 0 0), (3, .val (.int .i64 i))], hp [(0, ⟨[rR R], true⟩)] 1⟩) (fun i => i ≤ R.length ∧ ∀ x, x < i → okR (R.getD x []) = true) (fun i => R.length - i) 0 ⟨by omega, by simp⟩ (Wk.of (by simp only [go_sem, ↓List.forall_mem_cons, List.not_mem_nil, false_implies, implies_true, and_true, true_and, and_self, ri_eq, Int.natCast_add, Int.cast_ofNat_Int, rR]; try simp) rfl) ?_
  rintro i ⟨hi, hii⟩
  refine SW_of_vc Tryz.mixed _ _ _ (by kernel_rfl) ?_
  by_cases hlt : i < R.length
  case neg =>
    obtain rfl : i = R.length := by omega
    have w := Tryz.l1In_ok R.length 1 3
    have e : isVR R = inR R.length 1 3 := by rw [isVR, (all_getD []).2 hii, Bool.true_and]
    rw [e]
    simp (disch := omega) only [Tryz.ntmps10, Tryz.results10, go_sem, rR]
    refine w.callV 0 (viewL_cons_of (view_int) (viewL_cons_of (view_int) (viewL_cons_of (view_int) viewL_nil_of))) ?_
    simp (disch := omega) only [Tryz.ntmps10, Tryz.results10, go_sem, rR]
    exact Fin.val rfl
  have gk := rules_get hlt
  have htl := hT i hlt
  have hno : okR (rg R i) = false → isVR R = false := fun h => by rw [isVR, all_not [] hlt h, Bool.false_and]
  have hyes : okR (rg R i) = true → ∀ x, x < i + 1 → okR (R.getD x []) = true := fun h x hx => by
    rcases Nat.lt_succ_iff_lt_or_eq.mp hx with g | rfl
    · exact hii x g
    · exact h
  clear hii
  generalize rg R i = T at *
  have hcl := cons_length T
  simp (disch := omega) only [Tryz.ntmps10, Tryz.results10, go_sem, rR, gk, hrl]
  refine LoopW.loop (fun k : Nat => ⟨ofL [(1, .optr 0 0), (3, .val (.int .i64 i)), (4, rc T), (5, .val (.int .i64 k))], hp [(0, ⟨[rR R], true⟩)] 1⟩) (fun k => k ≤ T.length ∧ ∀ x, x < k → okT T x = true) (fun k => T.length - k) 0 ⟨by omega, by simp⟩ (Wk.of (by simp only [go_sem, ↓List.forall_mem_cons, List.not_mem_nil, false_implies, implies_true, and_true, true_and, and_self, ri_eq, Int.natCast_add, Int.cast_ofNat_Int, rR, rc]; try simp) rfl) ?_
  rintro k ⟨hk, hkk⟩
  refine SW_of_vc Tryz.mixed _ _ _ (by kernel_rfl) ?_
  by_cases hltk : k < T.length
  case neg =>
    obtain rfl : k = T.length := by omega
    have w := Tryz.l1In_ok T.length 1 3
    have e := okR_of hkk
    cases hin : inR T.length 1 3 with
    | true =>
      rw [hin] at w e
      simp (disch := omega) only [Tryz.ntmps10, Tryz.results10, go_sem, rR, rc]
      refine w.callV 0 (viewL_cons_of (view_int) (viewL_cons_of (view_int) (viewL_cons_of (view_int) viewL_nil_of))) ?_
      simp (disch := omega) only [Tryz.ntmps10, Tryz.results10, go_sem, rR, rc]
      exact ⟨i + 1, ⟨hlt, hyes e⟩, by omega, Wk.of (by simp only [go_sem, ↓List.forall_mem_cons, List.not_mem_nil, false_implies, implies_true, and_true, true_and, and_self, ri_eq, Int.natCast_add, Int.cast_ofNat_Int, rR, rc]; try simp) rfl⟩
    | false =>
      rw [hin] at w e
      simp (disch := omega) only [Tryz.ntmps10, Tryz.results10, go_sem, rR, rc]
      refine w.callV 0 (viewL_cons_of (view_int) (viewL_cons_of (view_int) (viewL_cons_of (view_int) viewL_nil_of))) ?_
      simp (disch := omega) only [Tryz.ntmps10, Tryz.results10, go_sem, rR, rc]
      exact Fin.val (by rw [hno e])
  obtain ⟨a, b, s, hc⟩ := con_ex T k
  obtain ⟨q0, q1, _, _⟩ := cons_of hltk hc
  have w1 := Tryz.l1In_ok a 0 5
  have w2 := Tryz.l1In_ok b 1 1000
  have eok : okT T k = (inR a 0 5 && (inR b 1 1000 && (decide (k = 0) || decide ((cg T (k - 1)).1 < a)))) := by rw [okT, hc]
  have hno2 : okT T k = false → isVR R = false := fun h => hno (okR_not hltk h)
  have hyes2 : okT T k = true → ∀ x, x < k + 1 → okT T x = true := fun h x hx => by
    rcases Nat.lt_succ_iff_lt_or_eq.mp hx with g | rfl
    · exact hkk x g
    · exact h
  clear hkk hno hyes
  cases ha : inR a 0 5 with
  | false =>
    rw [ha] at w1 eok
    simp (disch := omega) only [Tryz.ntmps10, Tryz.results10, go_sem, rR, rc, q0, q1, hcl]
    refine w1.callDV 0 (viewL_cons_of (view_int) (viewL_cons_of (view_int) (viewL_cons_of (view_int) viewL_nil_of))) ?_
    simp (disch := omega) only [Tryz.ntmps10, Tryz.results10, go_sem, rR, rc, q0, q1, hcl]
    exact Fin.val (by rw [hno2 (by rw [eok]; rfl)])
  | true =>
    rw [ha] at w1 eok
    cases hb : inR b 1 1000 with
    | false =>
      rw [hb] at w2 eok
      simp (disch := omega) only [Tryz.ntmps10, Tryz.results10, go_sem, rR, rc, q0, q1, hcl]
      refine w1.callDV 0 (viewL_cons_of (view_int) (viewL_cons_of (view_int) (viewL_cons_of (view_int) viewL_nil_of))) ?_
      simp (disch := omega) only [Tryz.ntmps10, Tryz.results10, go_sem, rR, rc, q0, q1, hcl]
      refine w2.callDV 0 (viewL_cons_of (view_int) (viewL_cons_of (view_int) (viewL_cons_of (view_int) viewL_nil_of))) ?_
      simp (disch := omega) only [Tryz.ntmps10, Tryz.results10, go_sem, rR, rc, q0, q1, hcl]
      exact Fin.val (by rw [hno2 (by rw [eok]; rfl)])
    | true =>
      rw [hb] at w2 eok
      cases k with
      | zero =>
        simp (disch := omega) only [Tryz.ntmps10, Tryz.results10, go_sem, rR, rc, q0, q1, hcl]
        refine w1.callDV 0 (viewL_cons_of (view_int) (viewL_cons_of (view_int) (viewL_cons_of (view_int) viewL_nil_of))) ?_
        simp (disch := omega) only [Tryz.ntmps10, Tryz.results10, go_sem, rR, rc, q0, q1, hcl]
        refine w2.callDV 0 (viewL_cons_of (view_int) (viewL_cons_of (view_int) (viewL_cons_of (view_int) viewL_nil_of))) ?_
        simp (disch := omega) only [Tryz.ntmps10, Tryz.results10, go_sem, rR, rc, q0, q1, hcl]
        exact ⟨1, ⟨by omega, hyes2 (by rw [eok]; rfl)⟩, by omega, Wk.of (by simp only [go_sem, ↓List.forall_mem_cons, List.not_mem_nil, false_implies, implies_true, and_true, true_and, and_self, ri_eq, Int.natCast_add, Int.cast_ofNat_Int, rR, rc]; try simp) rfl⟩
      | succ p =>
        obtain ⟨a', b', s', hc'⟩ := con_ex T p
        obtain ⟨p0, _, _, _⟩ := cons_of (k := p) (by omega) hc'
        rw [Nat.add_sub_cancel, hc'] at eok
        have hp1 : (((p + 1 : Nat) : Int)) - 1 = (p : Int) := by omega
        by_cases hlt3 : a' < a
        · simp (disch := omega) only [Tryz.ntmps10, Tryz.results10, go_sem, rR, rc, q0, q1, p0, hcl, hp1]
          refine w1.callDV 0 (viewL_cons_of (view_int) (viewL_cons_of (view_int) (viewL_cons_of (view_int) viewL_nil_of))) ?_
          simp (disch := omega) only [Tryz.ntmps10, Tryz.results10, go_sem, rR, rc, q0, q1, p0, hcl, hp1]
          refine w2.callDV 0 (viewL_cons_of (view_int) (viewL_cons_of (view_int) (viewL_cons_of (view_int) viewL_nil_of))) ?_
          simp (disch := omega) only [Tryz.ntmps10, Tryz.results10, go_sem, rR, rc, q0, q1, p0, hcl, hp1]
          exact ⟨p + 1 + 1, ⟨by omega, hyes2 (by rw [eok]; simp [hlt3])⟩, by omega, Wk.of (by simp only [go_sem, ↓List.forall_mem_cons, List.not_mem_nil, false_implies, implies_true, and_true, true_and, and_self, ri_eq, Int.natCast_add, Int.cast_ofNat_Int, rR, rc]; try simp) rfl⟩
        · simp (disch := omega) only [Tryz.ntmps10, Tryz.results10, go_sem, rR, rc, q0, q1, p0, hcl, hp1]
          refine w1.callDV 0 (viewL_cons_of (view_int) (viewL_cons_of (view_int) (viewL_cons_of (view_int) viewL_nil_of))) ?_
          simp (disch := omega) only [Tryz.ntmps10, Tryz.results10, go_sem, rR, rc, q0, q1, p0, hcl, hp1]
          refine w2.callDV 0 (viewL_cons_of (view_int) (viewL_cons_of (view_int) (viewL_cons_of (view_int) viewL_nil_of))) ?_
          simp (disch := omega) only [Tryz.ntmps10, Tryz.results10, go_sem, rR, rc, q0, q1, p0, hcl, hp1]
          exact Fin.val (by rw [hno2 (by rw [eok]; simp [hlt3])])

set_option maxRecDepth 20000 in
set_option maxHeartbeats 8000000 in
theorem Tryz.implVR_ok (R : List (List Con)) (hR : R.length ≤ 1048576) (hT : ∀ i, i < R.length → (rg R i).length ≤ 1048576) : PCall Tryz.prog 25 [.agg [rR R]] (.val (.bool (isVR R))) := by
  refine FCall.pcall (R := fun r _ => r = .val (.bool (isVR R))) ?_ 0 (by rintro r H rfl; exact view_bool)
  refine FCall.of_body Tryz.func25 rfl (by kernel_rfl) (by simp [Tryz.ntmps25]) ?_
  have hrl := rules_length R
  refine SW_of_vc Tryz.mixed _ _ _ (by kernel_rfl) ?_
  simp (disch := omega) only [Tryz.ntmps25, Tryz.results25, go_sem, rR]
  refine LoopW.loop (fun y : Nat × Nat => ⟨ofL [(1, .optr 0 0), (8, rR R), (9, .val (.int .i64 R.length)), (10, .val (.int .i64 y.1))], hp [(0, ⟨[rR R], true⟩)] y.2⟩) (fun y => y.1 ≤ R.length ∧ 1 ≤ y.2 ∧ ∀ x, x < y.1 → okR (R.getD x []) = true) (fun y => R.length - y.1) (0, 1) ⟨by simp, by simp, by simp⟩ (Wk.of (by simp only [go_sem, ↓List.forall_mem_cons, List.not_mem_nil, false_implies, implies_true, and_true, true_and, and_self, ri_eq, Int.natCast_add, Int.cast_ofNat_Int, rR]; try simp) rfl) ?_
  rintro ⟨i, nb⟩ ⟨hi, hnb, hii⟩
  simp only at hi hnb hii
  refine SW_of_vc Tryz.mixed _ _ _ (by kernel_rfl) ?_
  by_cases hlt : i < R.length
  case neg =>
    obtain rfl : i = R.length := by omega
    have w := Tryz.within_ok R.length 1 3
    have e : isVR R = inR R.length 1 3 := by rw [isVR, (all_getD []).2 hii, Bool.true_and]
    rw [e]
    simp (disch := omega) only [Tryz.ntmps25, Tryz.results25, go_sem, rR]
    refine w.callV 0 (viewL_cons_of (view_int) (viewL_cons_of (view_int) (viewL_cons_of (view_int) viewL_nil_of))) ?_
    simp (disch := omega) only [Tryz.ntmps25, Tryz.results25, go_sem, rR]
    exact Fin.val rfl
  have gk := rules_get hlt
  have gl := rules_load hlt
  have htl := hT i hlt
  have hno : okR (rg R i) = false → isVR R = false := fun h => by rw [isVR, all_not [] hlt h, Bool.false_and]
  have hyes : okR (rg R i) = true → ∀ x, x < i + 1 → okR (R.getD x []) = true := fun h x hx => by
    rcases Nat.lt_succ_iff_lt_or_eq.mp hx with g | rfl
    · exact hii x g
    · exact h
  clear hii
  generalize rg R i = T at *
  have hcl := cons_length T
  have w := Tryz.within_ok T.length 1 3
  cases hin : inR T.length 1 3 with
  | false =>
    rw [hin] at w
    have e : okR T = false := by rw [okR, hin, Bool.and_false]
    simp (disch := omega) only [Tryz.ntmps25, Tryz.results25, go_sem, rR, rc, gk, gl, hrl]
    refine w.callV 0 (viewL_cons_of (view_int) (viewL_cons_of (view_int) (viewL_cons_of (view_int) viewL_nil_of))) ?_
    simp (disch := omega) only [Tryz.ntmps25, Tryz.results25, go_sem, rR, rc, gk, gl, hrl]
    exact Fin.val (by rw [hno e])
  | true =>
  rw [hin] at w
  simp (disch := omega) only [Tryz.ntmps25, Tryz.results25, go_sem, rR, rc, gk, gl, hrl]
  refine w.callV 0 (viewL_cons_of (view_int) (viewL_cons_of (view_int) (viewL_cons_of (view_int) viewL_nil_of))) ?_
  simp (disch := omega) only [Tryz.ntmps25, Tryz.results25, go_sem, rR, rc, gk, gl, hrl]
  refine LoopW.loop (fun y : Nat × Nat => ⟨ofL [(1, .optr 0 0), (4, .optr nb 0), (8, rR R), (9, .val (.int .i64 R.length)), (10, .val (.int .i64 i)), (20, rc T), (21, .val (.int .i64 T.length)), (22, .val (.int .i64 y.1))], hp [(nb, ⟨[rc T], true⟩), (0, ⟨[rR R], true⟩)] y.2⟩) (fun y => y.1 ≤ T.length ∧ nb < y.2 ∧ ∀ x, x < y.1 → okT T x = true) (fun y => T.length - y.1) (0, nb + 1) ⟨by simp, by simp, by simp⟩ (Wk.of (by simp only [go_sem, ↓List.forall_mem_cons, List.not_mem_nil, false_implies, implies_true, and_true, true_and, and_self, ri_eq, Int.natCast_add, Int.cast_ofNat_Int, rR, rc]; try simp) (by first | rfl | (simp only [rR, rc]; done))) ?_
  rintro ⟨k, nb2⟩ ⟨hk, hnb2, hkk⟩
  simp only at hk hnb2 hkk
  refine SW_of_vc Tryz.mixed _ _ _ (by kernel_rfl) ?_
  by_cases hltk : k < T.length
  case neg =>
    obtain rfl : k = T.length := by omega
    have e := okR_of hkk
    rw [hin] at e
    simp (disch := omega) only [Tryz.ntmps25, Tryz.results25, go_sem, rR, rc]
    exact ⟨(i + 1, nb2), ⟨hlt, by show 1 ≤ nb2; omega, hyes e⟩, by show R.length - (i + 1) < R.length - i; omega, Wk.ofH (by simp only [go_sem, ↓List.forall_mem_cons, List.not_mem_nil, false_implies, implies_true, and_true, true_and, and_self, ri_eq, Int.natCast_add, Int.cast_ofNat_Int, rR, rc]; try simp) (by simp (disch := omega) only [hp, hmap, ↓List.forall_mem_cons, List.not_mem_nil, false_implies, implies_true, and_true, if_neg, if_pos, ↓reduceIte, rR]) (by simp [hp])⟩
  obtain ⟨a, b, s, hc⟩ := con_ex T k
  obtain ⟨q0, q1, q2, q3⟩ := cons_of hltk hc
  have w1 := Tryz.isFeature_ok a
  have w2 := Tryz.isThreshold_ok b
  have eok : okT T k = (inR a 0 5 && (inR b 1 1000 && (decide (k = 0) || decide ((cg T (k - 1)).1 < a)))) := by rw [okT, hc]
  have hno2 : okT T k = false → isVR R = false := fun h => hno (okR_not hltk h)
  have hyes2 : okT T k = true → ∀ x, x < k + 1 → okT T x = true := fun h x hx => by
    rcases Nat.lt_succ_iff_lt_or_eq.mp hx with g | rfl
    · exact hkk x g
    · exact h
  clear hkk hno hyes w
  cases ha : inR a 0 5 with
  | false =>
    rw [ha] at w1 eok
    simp (disch := omega) only [Tryz.ntmps25, Tryz.results25, go_sem, rR, rc, q0, q1, q3, hcl]
    refine w1.callDV 0 (viewL_cons_of (view_int) viewL_nil_of) ?_
    simp (disch := omega) only [Tryz.ntmps25, Tryz.results25, go_sem, rR, rc, q0, q1, q3, hcl]
    exact Fin.val (by rw [hno2 (by rw [eok]; rfl)])
  | true =>
    rw [ha] at w1 eok
    cases hb : inR b 1 1000 with
    | false =>
      rw [hb] at w2 eok
      simp (disch := omega) only [Tryz.ntmps25, Tryz.results25, go_sem, rR, rc, q0, q1, q3, hcl]
      refine w1.callDV 0 (viewL_cons_of (view_int) viewL_nil_of) ?_
      simp (disch := omega) only [Tryz.ntmps25, Tryz.results25, go_sem, rR, rc, q0, q1, q3, hcl]
      refine w2.callDV 0 (viewL_cons_of (view_int) viewL_nil_of) ?_
      simp (disch := omega) only [Tryz.ntmps25, Tryz.results25, go_sem, rR, rc, q0, q1, q3, hcl]
      exact Fin.val (by rw [hno2 (by rw [eok]; rfl)])
    | true =>
      rw [hb] at w2 eok
      cases k with
      | zero =>
        have q3z : List.take 3 (cons T) = [.val (.int .i64 a), .val (.int .i64 b), .val (.bool s)] := by simpa using q3
        simp (disch := omega) only [Tryz.ntmps25, Tryz.results25, go_sem, rR, rc, q0, q1, q3z, hcl]
        refine w1.callDV 0 (viewL_cons_of (view_int) viewL_nil_of) ?_
        simp (disch := omega) only [Tryz.ntmps25, Tryz.results25, go_sem, rR, rc, q0, q1, q3z, hcl]
        refine w2.callDV 0 (viewL_cons_of (view_int) viewL_nil_of) ?_
        simp (disch := omega) only [Tryz.ntmps25, Tryz.results25, go_sem, rR, rc, q0, q1, q3z, hcl]
        exact ⟨(1, nb2 + 1), ⟨by show 1 ≤ T.length; omega, by show nb < nb2 + 1; omega, hyes2 (by rw [eok]; rfl)⟩, by show T.length - 1 < T.length - 0; omega, Wk.ofH (by simp only [go_sem, ↓List.forall_mem_cons, List.not_mem_nil, false_implies, implies_true, and_true, true_and, and_self, ri_eq, Int.natCast_add, Int.cast_ofNat_Int, rR, rc]; try simp) (by simp (disch := omega) only [hp, hmap, ↓List.forall_mem_cons, List.not_mem_nil, false_implies, implies_true, and_true, if_neg, if_pos, ↓reduceIte, rR, rc, and_self]) (by simp [hp])⟩
      | succ p =>
        obtain ⟨a', b', s', hc'⟩ := con_ex T p
        obtain ⟨p0, _, _, _⟩ := cons_of (k := p) (by omega) hc'
        rw [Nat.add_sub_cancel, hc'] at eok
        have hp1 : (((p + 1 : Nat) : Int)) - 1 = (p : Int) := by omega
        by_cases hlt3 : a' < a
        · simp (disch := omega) only [Tryz.ntmps25, Tryz.results25, go_sem, rR, rc, q0, q1, q3, hcl, p0, hp1]
          refine w1.callDV 0 (viewL_cons_of (view_int) viewL_nil_of) ?_
          simp (disch := omega) only [Tryz.ntmps25, Tryz.results25, go_sem, rR, rc, q0, q1, q3, hcl, p0, hp1]
          refine w2.callDV 0 (viewL_cons_of (view_int) viewL_nil_of) ?_
          simp (disch := omega) only [Tryz.ntmps25, Tryz.results25, go_sem, rR, rc, q0, q1, q3, hcl, p0, hp1]
          exact ⟨(p + 1 + 1, nb2 + 1), ⟨by show p + 1 + 1 ≤ T.length; omega, by show nb < nb2 + 1; omega, hyes2 (by rw [eok]; simp [hlt3])⟩, by show T.length - (p + 1 + 1) < T.length - (p + 1); omega, Wk.ofH (by simp only [go_sem, ↓List.forall_mem_cons, List.not_mem_nil, false_implies, implies_true, and_true, true_and, and_self, ri_eq, Int.natCast_add, Int.cast_ofNat_Int, rR, rc]; try simp) (by simp (disch := omega) only [hp, hmap, ↓List.forall_mem_cons, List.not_mem_nil, false_implies, implies_true, and_true, if_neg, if_pos, ↓reduceIte, rR, rc, and_self]) (by simp [hp])⟩
        · simp (disch := omega) only [Tryz.ntmps25, Tryz.results25, go_sem, rR, rc, q0, q1, q3, hcl, p0, hp1]
          refine w1.callDV 0 (viewL_cons_of (view_int) viewL_nil_of) ?_
          simp (disch := omega) only [Tryz.ntmps25, Tryz.results25, go_sem, rR, rc, q0, q1, q3, hcl, p0, hp1]
          refine w2.callDV 0 (viewL_cons_of (view_int) viewL_nil_of) ?_
          simp (disch := omega) only [Tryz.ntmps25, Tryz.results25, go_sem, rR, rc, q0, q1, q3, hcl, p0, hp1]
          exact Fin.val (by rw [hno2 (by rw [eok]; simp [hlt3])])
end Go.Sh

/-
  Contracts: a test holds, a rule, the first rule; the weight of a pair.
-/
namespace Go.Sh
set_option linter.unusedSimpArgs false
set_option linter.unusedVariables false
open Go Go.Proofs

def th (f : List Int) (t : Con) : Bool := isFV f && (inR t.1 0 5 && (decide (t.2.1 ≤ f.getD t.1.toNat 0) != t.2.2))
def rh (f : List Int) (T : List Con) : Bool := isFV f && T.all (th f)
def fr (R : List (List Con)) (f : List Int) : Int := if isVR R = true then fx (rh f) R else -1
theorem cg_all {T : List Con} {p : Con → Bool} : T.all p = true ↔ ∀ i, i < T.length → p (cg T i) = true := all_getD dc
theorem dec_ge {x y : Int} : (decide (x < y)) = !(decide (y ≤ x)) := by by_cases h : x < y <;> simp [h] <;> omega

set_option maxHeartbeats 2000000 in
theorem Tryz.specTH_ok (f : List Int) (hf : f.length ≤ 1048576) (a b : Int) (s : Bool) : PCall Tryz.prog 68 [.agg [.val (.int .i64 a), .val (.int .i64 b), .val (.bool s)], ri f] (.val (.bool (th f (a, b, s)))) := by
  refine FCall.pcall (R := fun r _ => r = .val (.bool (th f (a, b, s)))) ?_ 0 (by rintro r H rfl; exact view_bool)
  refine FCall.of_body Tryz.func68 rfl (by kernel_rfl) (by simp [Tryz.ntmps68]) ?_
  have w1 := Tryz.specFV_ok f hf
  have w2 := Tryz.l1In_ok a 0 5
  have lf := ints_length f
  unfold th
  simp only
  refine SW_of_vc Tryz.mixed _ _ _ (by kernel_rfl) ?_
  cases h1 : isFV f with
  | false =>
    rw [h1] at w1
    simp (disch := omega) only [Tryz.ntmps68, Tryz.results68, go_sem]
    refine w1.callDV 0 (viewL_cons_of (view_row) viewL_nil_of) ?_
    simp (disch := omega) only [Tryz.ntmps68, Tryz.results68, go_sem]
    exact Fin.val rfl
  | true =>
    rw [h1] at w1
    obtain ⟨fl, fr⟩ := isFV_t h1
    cases h2 : inR a 0 5 with
    | false =>
      rw [h2] at w2
      simp (disch := omega) only [Tryz.ntmps68, Tryz.results68, go_sem]
      refine w1.callDV 0 (viewL_cons_of (view_row) viewL_nil_of) ?_
      simp (disch := omega) only [Tryz.ntmps68, Tryz.results68, go_sem]
      refine w2.callDV 0 (viewL_cons_of (view_int) (viewL_cons_of (view_int) (viewL_cons_of (view_int) viewL_nil_of))) ?_
      simp (disch := omega) only [Tryz.ntmps68, Tryz.results68, go_sem]
      exact Fin.val rfl
    | true =>
      rw [h2] at w2
      have ha := inR_of h2
      obtain ⟨x, rfl⟩ := Int.eq_ofNat_of_zero_le ha.1
      have g1 : (ints f)[x]? = some (.val (.int .i64 (f.getD x 0))) := ints_get (by omega)
      rw [Int.toNat_natCast]
      generalize f.getD x 0 = v at *
      by_cases h3 : b ≤ v
      · cases s <;> simp (disch := omega) only [Tryz.ntmps68, Tryz.results68, go_sem, g1, lf]
        all_goals
          refine w1.callDV 0 (viewL_cons_of (view_row) viewL_nil_of) ?_
          simp (disch := omega) only [Tryz.ntmps68, Tryz.results68, go_sem, g1, lf]
          refine w2.callDV 0 (viewL_cons_of (view_int) (viewL_cons_of (view_int) (viewL_cons_of (view_int) viewL_nil_of))) ?_
          simp (disch := omega) only [Tryz.ntmps68, Tryz.results68, go_sem, g1, lf]
          exact Fin.val (by simp [h3])
      · cases s <;> simp (disch := omega) only [Tryz.ntmps68, Tryz.results68, go_sem, g1, lf]
        all_goals
          refine w1.callDV 0 (viewL_cons_of (view_row) viewL_nil_of) ?_
          simp (disch := omega) only [Tryz.ntmps68, Tryz.results68, go_sem, g1, lf]
          refine w2.callDV 0 (viewL_cons_of (view_int) (viewL_cons_of (view_int) (viewL_cons_of (view_int) viewL_nil_of))) ?_
          simp (disch := omega) only [Tryz.ntmps68, Tryz.results68, go_sem, g1, lf]
          exact Fin.val (by simp [h3])

set_option maxHeartbeats 2000000 in
theorem Tryz.implTH_ok (f : List Int) (hf : f.length ≤ 1048576) (a b : Int) (s : Bool) : PCall Tryz.prog 82 [.agg [.val (.int .i64 a), .val (.int .i64 b), .val (.bool s)], ri f] (.val (.bool (th f (a, b, s)))) := by
  refine FCall.pcall (R := fun r _ => r = .val (.bool (th f (a, b, s)))) ?_ 0 (by rintro r H rfl; exact view_bool)
  refine FCall.of_body Tryz.func82 rfl (by kernel_rfl) (by simp [Tryz.ntmps82]) ?_
  have w1 := Tryz.implFV_ok f hf
  have w2 := Tryz.isFeature_ok a
  have lf := ints_length f
  unfold th
  simp only
  refine SW_of_vc Tryz.mixed _ _ _ (by kernel_rfl) ?_
  cases h1 : isFV f with
  | false =>
    rw [h1] at w1
    simp (disch := omega) only [Tryz.ntmps82, Tryz.results82, go_sem]
    refine w1.callDV 0 (viewL_cons_of (view_row) viewL_nil_of) ?_
    simp (disch := omega) only [Tryz.ntmps82, Tryz.results82, go_sem]
    exact Fin.val rfl
  | true =>
    rw [h1] at w1
    obtain ⟨fl, fr⟩ := isFV_t h1
    cases h2 : inR a 0 5 with
    | false =>
      rw [h2] at w2
      simp (disch := omega) only [Tryz.ntmps82, Tryz.results82, go_sem]
      refine w1.callDV 0 (viewL_cons_of (view_row) viewL_nil_of) ?_
      simp (disch := omega) only [Tryz.ntmps82, Tryz.results82, go_sem]
      refine w2.callDV 0 (viewL_cons_of (view_int) viewL_nil_of) ?_
      simp (disch := omega) only [Tryz.ntmps82, Tryz.results82, go_sem]
      exact Fin.val rfl
    | true =>
      rw [h2] at w2
      have ha := inR_of h2
      obtain ⟨x, rfl⟩ := Int.eq_ofNat_of_zero_le ha.1
      have g1 : (ints f)[x]? = some (.val (.int .i64 (f.getD x 0))) := ints_get (by omega)
      rw [Int.toNat_natCast]
      generalize f.getD x 0 = v at *
      by_cases h3 : b ≤ v
      · cases s <;> simp (disch := omega) only [Tryz.ntmps82, Tryz.results82, go_sem, g1, lf]
        all_goals
          refine w1.callDV 0 (viewL_cons_of (view_row) viewL_nil_of) ?_
          simp (disch := omega) only [Tryz.ntmps82, Tryz.results82, go_sem, g1, lf]
          refine w2.callDV 0 (viewL_cons_of (view_int) viewL_nil_of) ?_
          simp (disch := omega) only [Tryz.ntmps82, Tryz.results82, go_sem, g1, lf]
          exact Fin.val (by simp [h3])
      · cases s <;> simp (disch := omega) only [Tryz.ntmps82, Tryz.results82, go_sem, g1, lf]
        all_goals
          refine w1.callDV 0 (viewL_cons_of (view_row) viewL_nil_of) ?_
          simp (disch := omega) only [Tryz.ntmps82, Tryz.results82, go_sem, g1, lf]
          refine w2.callDV 0 (viewL_cons_of (view_int) viewL_nil_of) ?_
          simp (disch := omega) only [Tryz.ntmps82, Tryz.results82, go_sem, g1, lf]
          exact Fin.val (by simp [h3])

set_option maxHeartbeats 2000000 in
theorem Tryz.specRH_ok (f : List Int) (hf : f.length ≤ 1048576) (T : List Con) (hT : T.length ≤ 1048576) : PCall Tryz.prog 52 [.agg [rc T], ri f] (.val (.bool (rh f T))) := by
  refine FCall.pcall (R := fun r _ => r = .val (.bool (rh f T))) ?_ 0 (by rintro r H rfl; exact view_bool)
  refine FCall.of_body Tryz.func52 rfl (by kernel_rfl) (by simp [Tryz.ntmps52]) ?_
  have lC := cons_length T
  have w1 := Tryz.specFV_ok f hf
  refine SW_of_vc Tryz.mixed _ _ _ (by kernel_rfl) ?_
  simp (disch := omega) only [Tryz.ntmps52, Tryz.results52, go_sem, rc]
  refine LoopW.loop (fun k : Nat => ⟨ofL [(1, ri f), (2, .optr 0 0), (5, .val (.int .i64 k))], hp [(0, ⟨[rc T], true⟩)] 1⟩) (fun k => k ≤ T.length ∧ ∀ i, i < k → th f (cg T i) = true) (fun k => T.length - k) 0 ⟨by omega, by simp⟩ (Wk.of (by simp only [go_sem, ↓List.forall_mem_cons, List.not_mem_nil, false_implies, implies_true, and_true, true_and, and_self, ri_eq, Int.natCast_add, Int.cast_ofNat_Int, rc]; try simp) rfl) ?_
  rintro k ⟨hk, hkk⟩
  refine SW_of_vc Tryz.mixed _ _ _ (by kernel_rfl) ?_
  by_cases hlt : k < T.length
  · obtain ⟨a, b, s, hc⟩ := con_ex T k
    obtain ⟨q0, q1, q2, q3⟩ := cons_of hlt hc
    have w2 := Tryz.specTH_ok f hf a b s
    cases he : th f (a, b, s) with
    | true =>
      rw [he] at w2
      simp (disch := omega) only [Tryz.ntmps52, Tryz.results52, go_sem, rc, q3, lC]
      refine w2.callV 1 (viewL_cons_of (view_con) (viewL_cons_of (view_row) viewL_nil_of)) ?_
      simp (disch := omega) only [Tryz.ntmps52, Tryz.results52, go_sem, rc, q3, lC]
      refine ⟨k + 1, ⟨by omega, fun i hi => ?_⟩, by omega, Wk.of (by simp only [go_sem, ↓List.forall_mem_cons, List.not_mem_nil, false_implies, implies_true, and_true, true_and, and_self, ri_eq, Int.natCast_add, Int.cast_ofNat_Int, rc]; try simp) rfl⟩
      rcases Nat.lt_succ_iff_lt_or_eq.mp hi with h | rfl
      · exact hkk i h
      · rw [hc]; exact he
    | false =>
      rw [he] at w2
      simp (disch := omega) only [Tryz.ntmps52, Tryz.results52, go_sem, rc, q3, lC]
      refine w2.callV 1 (viewL_cons_of (view_con) (viewL_cons_of (view_row) viewL_nil_of)) ?_
      simp (disch := omega) only [Tryz.ntmps52, Tryz.results52, go_sem, rc, q3, lC]
      exact Fin.val (by rw [rh, all_not dc hlt (by show th f (cg T k) = false; rw [hc]; exact he), Bool.and_false])
  · have hall : T.all (th f) = true := cg_all.2 fun i hi => hkk i (by omega)
    simp (disch := omega) only [Tryz.ntmps52, Tryz.results52, go_sem, rc]
    refine w1.callV 0 (viewL_cons_of (view_row) viewL_nil_of) ?_
    simp (disch := omega) only [Tryz.ntmps52, Tryz.results52, go_sem, rc]
    exact Fin.val (by rw [rh, hall, Bool.and_true])
set_option maxHeartbeats 1000000 in
theorem Tryz.indexFuncT_ok (f : FuncId) (cap : List SV) (C : List Con) (pr : Con → Bool) (hC : C.length ≤ 1048576) (hcap : ∀ H fu, viewL H fu cap = some cap)
    (hf : ∀ a b s, PCall Tryz.prog f (.agg [.val (.int .i64 a), .val (.int .i64 b), .val (.bool s)] :: cap) (.val (.bool (pr (a, b, s))))) :
    PCall Tryz.prog 101 [rc C, .clos (.func f) [] cap] (.val (.int .i64 (fx pr C))) := by
  refine FCall.pcall (R := fun r _ => r = .val (.int .i64 (fx pr C))) ?_ 0 (by rintro r H rfl; exact view_int)
  refine FCall.of_body Tryz.func101 rfl (by kernel_rfl) (by simp [Tryz.ntmps101]) ?_
  refine SW_of_vc Tryz.mixed _ _ _ (by kernel_rfl) ?_
  have lC := cons_length C
  simp (disch := omega) only [Tryz.ntmps101, Tryz.results101, go_sem, rc]
  refine LoopW.loop (fun k : Nat => ⟨ofL [(0, rc C), (1, .clos (.func f) [] cap), (7, .val (.int .i64 C.length)), (8, .val (.int .i64 k))], hp [] 0⟩) (fun k => k ≤ C.length ∧ ∀ i, i < k → pr (C.getD i dc) = false) (fun k => C.length - k) 0 ⟨by omega, by simp⟩ (Wk.of (by simp only [go_sem, ↓List.forall_mem_cons, List.not_mem_nil, false_implies, implies_true, and_true, true_and, and_self, ri_eq, Int.natCast_add, Int.cast_ofNat_Int, rc]; try simp) rfl) ?_
  rintro k ⟨hk, hkk⟩
  refine SW_of_vc Tryz.mixed _ _ _ (by kernel_rfl) ?_
  by_cases hlt : k < C.length
  · obtain ⟨a, b, s, hc⟩ := con_ex C k
    obtain ⟨_, _, _, q3⟩ := cons_of hlt hc
    have w := hf a b s
    cases he : pr (a, b, s) with
    | true =>
      rw [he] at w
      simp (disch := omega) only [Tryz.ntmps101, Tryz.results101, go_sem, rc, q3, lC]
      refine w.callV 1 (viewL_cons_of view_con (hcap _ _)) ?_
      simp (disch := omega) only [Tryz.ntmps101, Tryz.results101, go_sem, rc]
      exact Fin.val (by rw [fx_some dc hlt hkk (by show pr (cg C k) = true; rw [hc]; exact he)])
    | false =>
      rw [he] at w
      simp (disch := omega) only [Tryz.ntmps101, Tryz.results101, go_sem, rc, q3, lC]
      refine w.callV 1 (viewL_cons_of view_con (hcap _ _)) ?_
      simp (disch := omega) only [Tryz.ntmps101, Tryz.results101, go_sem, rc]
      refine ⟨k + 1, ⟨by omega, fun i hi => ?_⟩, by omega, Wk.of (by simp only [go_sem, ↓List.forall_mem_cons, List.not_mem_nil, false_implies, implies_true, and_true, true_and, and_self, ri_eq, Int.natCast_add, Int.cast_ofNat_Int, rc]; try simp) rfl⟩
      rcases Nat.lt_succ_iff_lt_or_eq.mp hi with h | rfl
      · exact hkk i h
      · show pr (cg C i) = false; rw [hc]; exact he
  · simp (disch := omega) only [Tryz.ntmps101, Tryz.results101, go_sem, rc]
    exact Fin.val (by rw [fx_none dc (fun i hi => hkk i (by omega))])
theorem Tryz.containsFuncT_ok (f : FuncId) (cap : List SV) (C : List Con) (pr : Con → Bool) (hC : C.length ≤ 1048576) (hcap : ∀ H fu, viewL H fu cap = some cap)
    (hf : ∀ a b s, PCall Tryz.prog f (.agg [.val (.int .i64 a), .val (.int .i64 b), .val (.bool s)] :: cap) (.val (.bool (pr (a, b, s))))) :
    PCall Tryz.prog 80 [rc C, .clos (.func f) [] cap] (.val (.bool (C.any pr))) := by
  refine FCall.pcall (R := fun r _ => r = .val (.bool (C.any pr))) ?_ 0 (by rintro r H rfl; exact view_bool)
  refine FCall.of_body Tryz.func80 rfl (by kernel_rfl) (by simp [Tryz.ntmps80]) ?_
  have w := Tryz.indexFuncT_ok f cap C pr hC hcap hf
  have hg := fx_ge pr C
  generalize fx pr C = q at *
  refine SW_of_vc Tryz.mixed _ _ _ (by kernel_rfl) ?_
  cases h : C.any pr with
  | true =>
    have := hg.mpr h
    simp (disch := omega) only [Tryz.ntmps80, Tryz.results80, go_sem, rc]
    refine w.callV 1 (viewL_cons_of view_row (viewL_cons_of (view_clos (hcap _ _)) viewL_nil_of)) ?_
    simp (disch := omega) only [Tryz.ntmps80, Tryz.results80, go_sem, rc]
    exact Fin.val rfl
  | false =>
    have : ¬ 0 ≤ q := fun e => by rw [hg.mp e] at h; cases h
    simp (disch := omega) only [Tryz.ntmps80, Tryz.results80, go_sem, rc]
    refine w.callV 1 (viewL_cons_of view_row (viewL_cons_of (view_clos (hcap _ _)) viewL_nil_of)) ?_
    simp (disch := omega) only [Tryz.ntmps80, Tryz.results80, go_sem, rc]
    exact Fin.val rfl
theorem Tryz.implRH1_ok (f : List Int) (hf : f.length ≤ 1048576) (a b : Int) (s : Bool) : PCall Tryz.prog 81 [.agg [.val (.int .i64 a), .val (.int .i64 b), .val (.bool s)], .rptr [ri f] 0] (.val (.bool (!th f (a, b, s)))) := by
  refine FCall.pcall (R := fun r _ => r = .val (.bool (!th f (a, b, s)))) ?_ 0 (by rintro r H rfl; exact view_bool)
  refine FCall.of_body Tryz.func81 rfl (by kernel_rfl) (by simp [Tryz.ntmps81]) ?_
  have w := Tryz.implTH_ok f hf a b s
  refine SW_of_vc Tryz.mixed _ _ _ (by kernel_rfl) ?_
  simp (disch := omega) only [Tryz.ntmps81, Tryz.results81, go_sem]
  refine w.callV 1 (viewL_cons_of (view_con) (viewL_cons_of (view_row) viewL_nil_of)) ?_
  simp (disch := omega) only [Tryz.ntmps81, Tryz.results81, go_sem]
  exact Fin.val rfl
set_option maxHeartbeats 2000000 in
theorem Tryz.implRH_ok (f : List Int) (hf : f.length ≤ 1048576) (T : List Con) (hT : T.length ≤ 1048576) : PCall Tryz.prog 67 [.agg [rc T], ri f] (.val (.bool (rh f T))) := by
  refine FCall.pcall (R := fun r _ => r = .val (.bool (rh f T))) ?_ 0 (by rintro r H rfl; exact view_bool)
  refine FCall.of_body Tryz.func67 rfl (by kernel_rfl) (by simp [Tryz.ntmps67]) ?_
  have w1 := Tryz.implFV_ok f hf
  have w := Tryz.containsFuncT_ok 81 [.rptr [ri f] 0] T (fun c => !th f c) hT (cap_rptr _ _) (fun a b s => Tryz.implRH1_ok f hf a b s)
  have e := any_not (L := T) (p := th f)
  refine SW_of_vc Tryz.mixed _ _ _ (by kernel_rfl) ?_
  cases h1 : isFV f with
  | false =>
    rw [h1] at w1
    simp (disch := omega) only [Tryz.ntmps67, Tryz.results67, go_sem, rc]
    refine w1.callV 0 (viewL_cons_of (view_row) viewL_nil_of) ?_
    simp (disch := omega) only [Tryz.ntmps67, Tryz.results67, go_sem, rc]
    exact Fin.val (by rw [rh, h1, Bool.false_and])
  | true =>
    rw [h1] at w1
    simp (disch := omega) only [Tryz.ntmps67, Tryz.results67, go_sem, rc]
    refine w1.callV 0 (viewL_cons_of (view_row) viewL_nil_of) ?_
    simp (disch := omega) only [Tryz.ntmps67, Tryz.results67, go_sem, rc]
    refine w.callV 2 (viewL_cons_of view_row (viewL_cons_of (view_clos (viewL_cons_of (view_optr rfl (viewL_cons_of view_row viewL_nil_of)) viewL_nil_of)) viewL_nil_of)) ?_
    simp (disch := omega) only [Tryz.ntmps67, Tryz.results67, go_sem, rc]
    exact Fin.val (by rw [e, rh, h1, Bool.true_and])

/-! ### The first rule -/
set_option maxHeartbeats 2000000 in
theorem Tryz.specFR_ok (R : List (List Con)) (f : List Int) (hR : R.length ≤ 1048576) (hT : ∀ i, i < R.length → (rg R i).length ≤ 1048576) (hf : f.length ≤ 1048576) : PCall Tryz.prog 32 [.agg [rR R], ri f] (.val (.int .i64 (fr R f))) := by
  refine FCall.pcall (R := fun r _ => r = .val (.int .i64 (fr R f))) ?_ 0 (by rintro r H rfl; exact view_int)
  refine FCall.of_body Tryz.func32 rfl (by kernel_rfl) (by simp [Tryz.ntmps32]) ?_
  have hrl := rules_length R
  have w1 := Tryz.specVR_ok R hR hT
  have e0 : R.length = 0 → fr R f = -1 := fun h => by
    rw [List.length_eq_zero_iff.1 h, fr]; split <;> rfl
  refine SW_of_vc Tryz.mixed _ _ _ (by kernel_rfl) ?_
  simp (disch := omega) only [Tryz.ntmps32, Tryz.results32, go_sem, rR]
  refine LoopW.loop (fun i : Nat => ⟨ofL [(1, ri f), (2, .optr 0 0), (5, .val (.int .i64 i))], hp [(0, ⟨[rR R], true⟩)] 1⟩) (fun i => i ≤ R.length ∧ (0 < i → isVR R = true) ∧ ∀ x, x < i → rh f (R.getD x []) = false) (fun i => R.length - i) 0 ⟨by omega, by simp, by simp⟩ (Wk.of (by simp only [go_sem, ↓List.forall_mem_cons, List.not_mem_nil, false_implies, implies_true, and_true, true_and, and_self, ri_eq, Int.natCast_add, Int.cast_ofNat_Int, rR]; try simp) rfl) ?_
  rintro i ⟨hi, hv, hii⟩
  refine SW_of_vc Tryz.mixed _ _ _ (by kernel_rfl) ?_
  by_cases hlt : i < R.length
  · cases h1 : isVR R with
    | false =>
      rw [h1] at w1
      simp (disch := omega) only [Tryz.ntmps32, Tryz.results32, go_sem, rR]
      refine w1.callV 1 (viewL_cons_of view_rule viewL_nil_of) ?_
      simp (disch := omega) only [Tryz.ntmps32, Tryz.results32, go_sem, rR]
      exact Fin.val (by rw [fr, h1]; rfl)
    | true =>
      rw [h1] at w1
      have gk := rules_get hlt
      have gl := rules_load hlt
      have w2 := Tryz.specRH_ok f hf (rg R i) (hT i hlt)
      cases h2 : rh f (rg R i) with
      | true =>
        rw [h2] at w2
        simp (disch := omega) only [Tryz.ntmps32, Tryz.results32, go_sem, rR, gk, gl, hrl]
        refine w1.callV 1 (viewL_cons_of view_rule viewL_nil_of) ?_
        simp (disch := omega) only [Tryz.ntmps32, Tryz.results32, go_sem, rR, gk, gl, hrl]
        refine w2.callV 1 (viewL_cons_of view_rule (viewL_cons_of view_row viewL_nil_of)) ?_
        simp (disch := omega) only [Tryz.ntmps32, Tryz.results32, go_sem, rR, gk, gl, hrl]
        exact Fin.val (by rw [fr, h1, if_pos rfl, fx_some [] hlt hii h2])
      | false =>
        rw [h2] at w2
        simp (disch := omega) only [Tryz.ntmps32, Tryz.results32, go_sem, rR, gk, gl, hrl]
        refine w1.callV 1 (viewL_cons_of view_rule viewL_nil_of) ?_
        simp (disch := omega) only [Tryz.ntmps32, Tryz.results32, go_sem, rR, gk, gl, hrl]
        refine w2.callV 1 (viewL_cons_of view_rule (viewL_cons_of view_row viewL_nil_of)) ?_
        simp (disch := omega) only [Tryz.ntmps32, Tryz.results32, go_sem, rR, gk, gl, hrl]
        refine ⟨i + 1, ⟨hlt, fun x hx => ?_⟩, by omega, Wk.of (by simp only [go_sem, ↓List.forall_mem_cons, List.not_mem_nil, false_implies, implies_true, and_true, true_and, and_self, ri_eq, Int.natCast_add, Int.cast_ofNat_Int, rR]; try simp) rfl⟩
        rcases Nat.lt_succ_iff_lt_or_eq.mp hx with h | rfl
        · exact hii x h
        · exact h2
  · obtain rfl : i = R.length := by omega
    have e : fr R f = -1 := by
      by_cases h0 : R.length = 0
      · exact e0 h0
      · rw [fr, hv (by omega), if_pos rfl, fx_none [] hii]
    rw [e]
    simp (disch := omega) only [Tryz.ntmps32, Tryz.results32, go_sem, rR]
    exact Fin.val rfl
set_option maxHeartbeats 1000000 in
theorem Tryz.indexFuncR_ok (f : FuncId) (cap : List SV) (R : List (List Con)) (pr : List Con → Bool) (hR : R.length ≤ 1048576) (hcap : ∀ H fu, viewL H fu cap = some cap)
    (hf : ∀ i, i < R.length → PCall Tryz.prog f (.agg [rc (rg R i)] :: cap) (.val (.bool (pr (rg R i))))) :
    PCall Tryz.prog 65 [rR R, .clos (.func f) [] cap] (.val (.int .i64 (fx pr R))) := by
  refine FCall.pcall (R := fun r _ => r = .val (.int .i64 (fx pr R))) ?_ 0 (by rintro r H rfl; exact view_int)
  refine FCall.of_body Tryz.func65 rfl (by kernel_rfl) (by simp [Tryz.ntmps65]) ?_
  refine SW_of_vc Tryz.mixed _ _ _ (by kernel_rfl) ?_
  have hrl := rules_length R
  simp (disch := omega) only [Tryz.ntmps65, Tryz.results65, go_sem, rR]
  refine LoopW.loop (fun k : Nat => ⟨ofL [(0, rR R), (1, .clos (.func f) [] cap), (7, .val (.int .i64 R.length)), (8, .val (.int .i64 k))], hp [] 0⟩) (fun k => k ≤ R.length ∧ ∀ i, i < k → pr (R.getD i []) = false) (fun k => R.length - k) 0 ⟨by omega, by simp⟩ (Wk.of (by simp only [go_sem, ↓List.forall_mem_cons, List.not_mem_nil, false_implies, implies_true, and_true, true_and, and_self, ri_eq, Int.natCast_add, Int.cast_ofNat_Int, rR]; try simp) rfl) ?_
  rintro k ⟨hk, hkk⟩
  refine SW_of_vc Tryz.mixed _ _ _ (by kernel_rfl) ?_
  by_cases hlt : k < R.length
  · have gk := rules_get hlt
    have gl := rules_load hlt
    have w := hf k hlt
    cases he : pr (rg R k) with
    | true =>
      rw [he] at w
      simp (disch := omega) only [Tryz.ntmps65, Tryz.results65, go_sem, rR, gk, gl, hrl]
      refine w.callV 1 (viewL_cons_of view_rule (hcap _ _)) ?_
      simp (disch := omega) only [Tryz.ntmps65, Tryz.results65, go_sem, rR]
      exact Fin.val (by rw [fx_some [] hlt hkk he])
    | false =>
      rw [he] at w
      simp (disch := omega) only [Tryz.ntmps65, Tryz.results65, go_sem, rR, gk, gl, hrl]
      refine w.callV 1 (viewL_cons_of view_rule (hcap _ _)) ?_
      simp (disch := omega) only [Tryz.ntmps65, Tryz.results65, go_sem, rR]
      refine ⟨k + 1, ⟨by omega, fun i hi => ?_⟩, by omega, Wk.of (by simp only [go_sem, ↓List.forall_mem_cons, List.not_mem_nil, false_implies, implies_true, and_true, true_and, and_self, ri_eq, Int.natCast_add, Int.cast_ofNat_Int, rR]; try simp) rfl⟩
      rcases Nat.lt_succ_iff_lt_or_eq.mp hi with h | rfl
      · exact hkk i h
      · exact he
  · simp (disch := omega) only [Tryz.ntmps65, Tryz.results65, go_sem, rR]
    exact Fin.val (by rw [fx_none [] (fun i hi => hkk i (by omega))])
theorem Tryz.implFR1_ok (f : List Int) (hf : f.length ≤ 1048576) (T : List Con) (hT : T.length ≤ 1048576) : PCall Tryz.prog 66 [.agg [rc T], .rptr [ri f] 0] (.val (.bool (rh f T))) := by
  refine FCall.pcall (R := fun r _ => r = .val (.bool (rh f T))) ?_ 0 (by rintro r H rfl; exact view_bool)
  refine FCall.of_body Tryz.func66 rfl (by kernel_rfl) (by simp [Tryz.ntmps66]) ?_
  have w := Tryz.implRH_ok f hf T hT
  refine SW_of_vc Tryz.mixed _ _ _ (by kernel_rfl) ?_
  simp (disch := omega) only [Tryz.ntmps66, Tryz.results66, go_sem, rc]
  refine w.callV 1 (viewL_cons_of view_rule (viewL_cons_of view_row viewL_nil_of)) ?_
  simp (disch := omega) only [Tryz.ntmps66, Tryz.results66, go_sem]
  exact Fin.val rfl
set_option maxHeartbeats 2000000 in
theorem Tryz.implFR_ok (R : List (List Con)) (f : List Int) (hR : R.length ≤ 1048576) (hT : ∀ i, i < R.length → (rg R i).length ≤ 1048576) (hf : f.length ≤ 1048576) : PCall Tryz.prog 51 [.agg [rR R], ri f] (.val (.int .i64 (fr R f))) := by
  refine FCall.pcall (R := fun r _ => r = .val (.int .i64 (fr R f))) ?_ 0 (by rintro r H rfl; exact view_int)
  refine FCall.of_body Tryz.func51 rfl (by kernel_rfl) (by simp [Tryz.ntmps51]) ?_
  have w1 := Tryz.implVR_ok R hR hT
  have w := Tryz.indexFuncR_ok 66 [.rptr [ri f] 0] R (rh f) hR (cap_rptr _ _) (fun i hi => Tryz.implFR1_ok f hf (rg R i) (hT i hi))
  refine SW_of_vc Tryz.mixed _ _ _ (by kernel_rfl) ?_
  cases h1 : isVR R with
  | false =>
    rw [h1] at w1
    simp (disch := omega) only [Tryz.ntmps51, Tryz.results51, go_sem, rR]
    refine w1.callV 1 (viewL_cons_of view_rule viewL_nil_of) ?_
    simp (disch := omega) only [Tryz.ntmps51, Tryz.results51, go_sem, rR]
    exact Fin.val (by rw [fr, h1]; rfl)
  | true =>
    rw [h1] at w1
    simp (disch := omega) only [Tryz.ntmps51, Tryz.results51, go_sem, rR]
    refine w1.callV 1 (viewL_cons_of view_rule viewL_nil_of) ?_
    simp (disch := omega) only [Tryz.ntmps51, Tryz.results51, go_sem, rR]
    refine w.callV 2 (viewL_cons_of view_row (viewL_cons_of (view_clos (viewL_cons_of (view_optr rfl (viewL_cons_of view_row viewL_nil_of)) viewL_nil_of)) viewL_nil_of)) ?_
    simp (disch := omega) only [Tryz.ntmps51, Tryz.results51, go_sem, rR]
    exact Fin.val (by rw [fr, h1, if_pos rfl])

theorem Tryz.specRsH_ok (R : List (List Con)) (f : List Int) (hR : R.length ≤ 1048576) (hT : ∀ i, i < R.length → (rg R i).length ≤ 1048576) (hf : f.length ≤ 1048576) : PCall Tryz.prog 13 [.agg [rR R], ri f] (.val (.bool (decide (0 ≤ fr R f)))) := by
  refine FCall.pcall (R := fun r _ => r = .val (.bool (decide (0 ≤ fr R f)))) ?_ 0 (by rintro r H rfl; exact view_bool)
  refine FCall.of_body Tryz.func13 rfl (by kernel_rfl) (by simp [Tryz.ntmps13]) ?_
  have w := Tryz.specFR_ok R f hR hT hf
  generalize fr R f = q at *
  refine SW_of_vc Tryz.mixed _ _ _ (by kernel_rfl) ?_
  by_cases h : 0 ≤ q
  · simp (disch := omega) only [Tryz.ntmps13, Tryz.results13, go_sem, rR]
    refine w.callV 1 (viewL_cons_of view_rule (viewL_cons_of view_row viewL_nil_of)) ?_
    simp (disch := omega) only [Tryz.ntmps13, Tryz.results13, go_sem, rR]
    exact Fin.val (by simp [h])
  · simp (disch := omega) only [Tryz.ntmps13, Tryz.results13, go_sem, rR]
    refine w.callV 1 (viewL_cons_of view_rule (viewL_cons_of view_row viewL_nil_of)) ?_
    simp (disch := omega) only [Tryz.ntmps13, Tryz.results13, go_sem, rR]
    exact Fin.val (by simp [h])

theorem Tryz.implRsH_ok (R : List (List Con)) (f : List Int) (hR : R.length ≤ 1048576) (hT : ∀ i, i < R.length → (rg R i).length ≤ 1048576) (hf : f.length ≤ 1048576) : PCall Tryz.prog 28 [.agg [rR R], ri f] (.val (.bool (decide (0 ≤ fr R f)))) := by
  refine FCall.pcall (R := fun r _ => r = .val (.bool (decide (0 ≤ fr R f)))) ?_ 0 (by rintro r H rfl; exact view_bool)
  refine FCall.of_body Tryz.func28 rfl (by kernel_rfl) (by simp [Tryz.ntmps28]) ?_
  have w := Tryz.implFR_ok R f hR hT hf
  generalize fr R f = q at *
  refine SW_of_vc Tryz.mixed _ _ _ (by kernel_rfl) ?_
  by_cases h : 0 ≤ q
  · simp (disch := omega) only [Tryz.ntmps28, Tryz.results28, go_sem, rR]
    refine w.callV 1 (viewL_cons_of view_rule (viewL_cons_of view_row viewL_nil_of)) ?_
    simp (disch := omega) only [Tryz.ntmps28, Tryz.results28, go_sem, rR]
    exact Fin.val (by simp [h])
  · simp (disch := omega) only [Tryz.ntmps28, Tryz.results28, go_sem, rR]
    refine w.callV 1 (viewL_cons_of view_rule (viewL_cons_of view_row viewL_nil_of)) ?_
    simp (disch := omega) only [Tryz.ntmps28, Tryz.results28, go_sem, rR]
    exact Fin.val (by simp [h])

/-! ### The weight of a pair -/
def pwt (R : List (List Con)) (W : List Int) (b : Int) (f : List Int) : Int :=
  if (isVR R && (isSc W b && isFV f)) = true then (if 0 ≤ fr R f then (if (dot f W 6).tdiv (wsum W 6) - b < 1 then 1 else (dot f W 6).tdiv (wsum W 6) - b) else (if -1 < (dot f W 6).tdiv (wsum W 6) - b then -1 else (dot f W 6).tdiv (wsum W 6) - b)) else 0

set_option maxHeartbeats 4000000 in
theorem Tryz.specPW_ok (R : List (List Con)) (W : List Int) (b : Int) (f : List Int) (hR : R.length ≤ 1048576) (hT : ∀ i, i < R.length → (rg R i).length ≤ 1048576) (hW : W.length ≤ 1048576) (hf : f.length ≤ 1048576) : PCall Tryz.prog 7 [.agg [rR R], sS W b, ri f] (.val (.int .i64 (pwt R W b f))) := by
  refine FCall.pcall (R := fun r _ => r = .val (.int .i64 (pwt R W b f))) ?_ 0 (by rintro r H rfl; exact view_int)
  refine FCall.of_body Tryz.func7 rfl (by kernel_rfl) (by simp [Tryz.ntmps7]) ?_
  have w1 := Tryz.specVR_ok R hR hT
  have w2 := Tryz.specSc_ok W b hW
  have w3 := Tryz.specFV_ok f hf
  have w4 := Tryz.specRsH_ok R f hR hT hf
  unfold pwt
  cases h1 : isVR R with
  | false =>
    rw [h1] at w1
    refine SW_of_vc Tryz.mixed _ _ _ (by kernel_rfl) ?_
    simp (disch := omega) only [Tryz.ntmps7, Tryz.results7, go_sem, rR]
    refine w1.callV 1 (viewL_cons_of view_rule viewL_nil_of) ?_
    simp (disch := omega) only [Tryz.ntmps7, Tryz.results7, go_sem, rR]
    exact Fin.val rfl
  | true =>
  rw [h1] at w1
  cases h2 : isSc W b with
  | false =>
    rw [h2] at w2
    refine SW_of_vc Tryz.mixed _ _ _ (by kernel_rfl) ?_
    simp (disch := omega) only [Tryz.ntmps7, Tryz.results7, go_sem, rR]
    refine w1.callV 1 (viewL_cons_of view_rule viewL_nil_of) ?_
    simp (disch := omega) only [Tryz.ntmps7, Tryz.results7, go_sem, rR]
    refine w2.callV 1 (viewL_cons_of view_sS viewL_nil_of) ?_
    simp (disch := omega) only [Tryz.ntmps7, Tryz.results7, go_sem, rR]
    exact Fin.val rfl
  | true =>
  have w5 := fun h => Tryz.specPS_ok W b f hW hf h2 h
  obtain ⟨g1, g2, g3, g4, g5⟩ := isSc_t h2
  rw [h2] at w2
  cases h3 : isFV f with
  | false =>
    rw [h3] at w3
    refine SW_of_vc Tryz.mixed _ _ _ (by kernel_rfl) ?_
    simp (disch := omega) only [Tryz.ntmps7, Tryz.results7, go_sem, rR]
    refine w1.callV 1 (viewL_cons_of view_rule viewL_nil_of) ?_
    simp (disch := omega) only [Tryz.ntmps7, Tryz.results7, go_sem, rR]
    refine w2.callV 1 (viewL_cons_of view_sS viewL_nil_of) ?_
    simp (disch := omega) only [Tryz.ntmps7, Tryz.results7, go_sem, rR]
    refine w3.callV 0 (viewL_cons_of (view_row) viewL_nil_of) ?_
    simp (disch := omega) only [Tryz.ntmps7, Tryz.results7, go_sem, rR]
    exact Fin.val rfl
  | true =>
  have w5 := w5 h3
  obtain ⟨f1, f2⟩ := isFV_t h3
  have hdb := dot_b f2 g2 6 (by omega)
  have hq : 0 ≤ (dot f W 6).tdiv (wsum W 6) := Int.tdiv_nonneg hdb.1 (by omega)
  have hq2 : (dot f W 6).tdiv (wsum W 6) ≤ dot f W 6 := Int.tdiv_le_self _ hdb.1
  rw [h3] at w3
  generalize (dot f W 6).tdiv (wsum W 6) = d at *
  simp only [Bool.and_self, if_true]
  refine SW_of_vc Tryz.mixed _ _ _ (by kernel_rfl) ?_
  by_cases h4 : 0 ≤ fr R f
  · rw [decide_eq_true h4] at w4
    rw [if_pos h4]
    by_cases h5 : d - b < 1
    · simp (disch := omega) only [Tryz.ntmps7, Tryz.results7, go_sem, rR]
      refine w1.callV 1 (viewL_cons_of view_rule viewL_nil_of) ?_
      simp (disch := omega) only [Tryz.ntmps7, Tryz.results7, go_sem, rR]
      refine w2.callV 1 (viewL_cons_of view_sS viewL_nil_of) ?_
      simp (disch := omega) only [Tryz.ntmps7, Tryz.results7, go_sem, rR]
      refine w3.callV 0 (viewL_cons_of (view_row) viewL_nil_of) ?_
      simp (disch := omega) only [Tryz.ntmps7, Tryz.results7, go_sem, rR]
      refine w5.callDV 1 (viewL_cons_of view_sS (viewL_cons_of view_row viewL_nil_of)) ?_
      simp (disch := omega) only [Tryz.ntmps7, Tryz.results7, go_sem, rR]
      refine w4.callV 1 (viewL_cons_of view_rule (viewL_cons_of view_row viewL_nil_of)) ?_
      simp (disch := omega) only [Tryz.ntmps7, Tryz.results7, go_sem, rR]
      exact Fin.val (by first | rfl | (rw [if_pos h5]; done))
    · simp (disch := omega) only [Tryz.ntmps7, Tryz.results7, go_sem, rR]
      refine w1.callV 1 (viewL_cons_of view_rule viewL_nil_of) ?_
      simp (disch := omega) only [Tryz.ntmps7, Tryz.results7, go_sem, rR]
      refine w2.callV 1 (viewL_cons_of view_sS viewL_nil_of) ?_
      simp (disch := omega) only [Tryz.ntmps7, Tryz.results7, go_sem, rR]
      refine w3.callV 0 (viewL_cons_of (view_row) viewL_nil_of) ?_
      simp (disch := omega) only [Tryz.ntmps7, Tryz.results7, go_sem, rR]
      refine w5.callDV 1 (viewL_cons_of view_sS (viewL_cons_of view_row viewL_nil_of)) ?_
      simp (disch := omega) only [Tryz.ntmps7, Tryz.results7, go_sem, rR]
      refine w4.callV 1 (viewL_cons_of view_rule (viewL_cons_of view_row viewL_nil_of)) ?_
      simp (disch := omega) only [Tryz.ntmps7, Tryz.results7, go_sem, rR]
      exact Fin.val (by first | rfl | (rw [if_neg h5]; done) | (rw [if_neg h5]; congr 2; omega) | (congr 2; split <;> omega))
  · rw [decide_eq_false h4] at w4
    rw [if_neg h4]
    by_cases h5 : -1 < d - b
    · simp (disch := omega) only [Tryz.ntmps7, Tryz.results7, go_sem, rR]
      refine w1.callV 1 (viewL_cons_of view_rule viewL_nil_of) ?_
      simp (disch := omega) only [Tryz.ntmps7, Tryz.results7, go_sem, rR]
      refine w2.callV 1 (viewL_cons_of view_sS viewL_nil_of) ?_
      simp (disch := omega) only [Tryz.ntmps7, Tryz.results7, go_sem, rR]
      refine w3.callV 0 (viewL_cons_of (view_row) viewL_nil_of) ?_
      simp (disch := omega) only [Tryz.ntmps7, Tryz.results7, go_sem, rR]
      refine w5.callDV 1 (viewL_cons_of view_sS (viewL_cons_of view_row viewL_nil_of)) ?_
      simp (disch := omega) only [Tryz.ntmps7, Tryz.results7, go_sem, rR]
      refine w4.callV 1 (viewL_cons_of view_rule (viewL_cons_of view_row viewL_nil_of)) ?_
      simp (disch := omega) only [Tryz.ntmps7, Tryz.results7, go_sem, rR]
      exact Fin.val (by first | rfl | (rw [if_pos h5]; done))
    · simp (disch := omega) only [Tryz.ntmps7, Tryz.results7, go_sem, rR]
      refine w1.callV 1 (viewL_cons_of view_rule viewL_nil_of) ?_
      simp (disch := omega) only [Tryz.ntmps7, Tryz.results7, go_sem, rR]
      refine w2.callV 1 (viewL_cons_of view_sS viewL_nil_of) ?_
      simp (disch := omega) only [Tryz.ntmps7, Tryz.results7, go_sem, rR]
      refine w3.callV 0 (viewL_cons_of (view_row) viewL_nil_of) ?_
      simp (disch := omega) only [Tryz.ntmps7, Tryz.results7, go_sem, rR]
      refine w5.callDV 1 (viewL_cons_of view_sS (viewL_cons_of view_row viewL_nil_of)) ?_
      simp (disch := omega) only [Tryz.ntmps7, Tryz.results7, go_sem, rR]
      refine w4.callV 1 (viewL_cons_of view_rule (viewL_cons_of view_row viewL_nil_of)) ?_
      simp (disch := omega) only [Tryz.ntmps7, Tryz.results7, go_sem, rR]
      exact Fin.val (by first | rfl | (rw [if_neg h5]; done) | (rw [if_neg h5]; congr 2; omega) | (congr 2; split <;> omega))

set_option maxHeartbeats 4000000 in
theorem Tryz.implPW_ok (R : List (List Con)) (W : List Int) (b : Int) (f : List Int) (hR : R.length ≤ 1048576) (hT : ∀ i, i < R.length → (rg R i).length ≤ 1048576) (hW : W.length ≤ 1048576) (hf : f.length ≤ 1048576) : PCall Tryz.prog 6 [.agg [rR R], sS W b, ri f] (.val (.int .i64 (pwt R W b f))) := by
  refine FCall.pcall (R := fun r _ => r = .val (.int .i64 (pwt R W b f))) ?_ 0 (by rintro r H rfl; exact view_int)
  refine FCall.of_body Tryz.func6 rfl (by kernel_rfl) (by simp [Tryz.ntmps6]) ?_
  have w1 := Tryz.implVR_ok R hR hT
  have w2 := Tryz.implSc_ok W b hW
  have w3 := Tryz.implFV_ok f hf
  have w4 := Tryz.implRsH_ok R f hR hT hf
  unfold pwt
  cases h1 : isVR R with
  | false =>
    rw [h1] at w1
    refine SW_of_vc Tryz.mixed _ _ _ (by kernel_rfl) ?_
    simp (disch := omega) only [Tryz.ntmps6, Tryz.results6, go_sem, rR]
    refine w1.callV 1 (viewL_cons_of view_rule viewL_nil_of) ?_
    simp (disch := omega) only [Tryz.ntmps6, Tryz.results6, go_sem, rR]
    exact Fin.val rfl
  | true =>
  rw [h1] at w1
  cases h2 : isSc W b with
  | false =>
    rw [h2] at w2
    refine SW_of_vc Tryz.mixed _ _ _ (by kernel_rfl) ?_
    simp (disch := omega) only [Tryz.ntmps6, Tryz.results6, go_sem, rR]
    refine w1.callV 1 (viewL_cons_of view_rule viewL_nil_of) ?_
    simp (disch := omega) only [Tryz.ntmps6, Tryz.results6, go_sem, rR]
    refine w2.callV 1 (viewL_cons_of view_sS viewL_nil_of) ?_
    simp (disch := omega) only [Tryz.ntmps6, Tryz.results6, go_sem, rR]
    exact Fin.val rfl
  | true =>
  have w5 := fun h => Tryz.implPS_ok W b f hW hf h2 h
  obtain ⟨g1, g2, g3, g4, g5⟩ := isSc_t h2
  rw [h2] at w2
  cases h3 : isFV f with
  | false =>
    rw [h3] at w3
    refine SW_of_vc Tryz.mixed _ _ _ (by kernel_rfl) ?_
    simp (disch := omega) only [Tryz.ntmps6, Tryz.results6, go_sem, rR]
    refine w1.callV 1 (viewL_cons_of view_rule viewL_nil_of) ?_
    simp (disch := omega) only [Tryz.ntmps6, Tryz.results6, go_sem, rR]
    refine w2.callV 1 (viewL_cons_of view_sS viewL_nil_of) ?_
    simp (disch := omega) only [Tryz.ntmps6, Tryz.results6, go_sem, rR]
    refine w3.callV 0 (viewL_cons_of (view_row) viewL_nil_of) ?_
    simp (disch := omega) only [Tryz.ntmps6, Tryz.results6, go_sem, rR]
    exact Fin.val rfl
  | true =>
  have w5 := w5 h3
  obtain ⟨f1, f2⟩ := isFV_t h3
  have hdb := dot_b f2 g2 6 (by omega)
  have hq : 0 ≤ (dot f W 6).tdiv (wsum W 6) := Int.tdiv_nonneg hdb.1 (by omega)
  have hq2 : (dot f W 6).tdiv (wsum W 6) ≤ dot f W 6 := Int.tdiv_le_self _ hdb.1
  rw [h3] at w3
  generalize (dot f W 6).tdiv (wsum W 6) = d at *
  simp only [Bool.and_self, if_true]
  refine SW_of_vc Tryz.mixed _ _ _ (by kernel_rfl) ?_
  by_cases h4 : 0 ≤ fr R f
  · rw [decide_eq_true h4] at w4
    rw [if_pos h4]
    by_cases h5 : d - b < 1
    · simp (disch := omega) only [Tryz.ntmps6, Tryz.results6, go_sem, rR]
      refine w1.callV 1 (viewL_cons_of view_rule viewL_nil_of) ?_
      simp (disch := omega) only [Tryz.ntmps6, Tryz.results6, go_sem, rR]
      refine w2.callV 1 (viewL_cons_of view_sS viewL_nil_of) ?_
      simp (disch := omega) only [Tryz.ntmps6, Tryz.results6, go_sem, rR]
      refine w3.callV 0 (viewL_cons_of (view_row) viewL_nil_of) ?_
      simp (disch := omega) only [Tryz.ntmps6, Tryz.results6, go_sem, rR]
      refine w5.callDV 1 (viewL_cons_of view_sS (viewL_cons_of view_row viewL_nil_of)) ?_
      simp (disch := omega) only [Tryz.ntmps6, Tryz.results6, go_sem, rR]
      refine w4.callV 1 (viewL_cons_of view_rule (viewL_cons_of view_row viewL_nil_of)) ?_
      simp (disch := omega) only [Tryz.ntmps6, Tryz.results6, go_sem, rR]
      exact Fin.val (by first | rfl | (rw [if_pos h5]; done))
    · simp (disch := omega) only [Tryz.ntmps6, Tryz.results6, go_sem, rR]
      refine w1.callV 1 (viewL_cons_of view_rule viewL_nil_of) ?_
      simp (disch := omega) only [Tryz.ntmps6, Tryz.results6, go_sem, rR]
      refine w2.callV 1 (viewL_cons_of view_sS viewL_nil_of) ?_
      simp (disch := omega) only [Tryz.ntmps6, Tryz.results6, go_sem, rR]
      refine w3.callV 0 (viewL_cons_of (view_row) viewL_nil_of) ?_
      simp (disch := omega) only [Tryz.ntmps6, Tryz.results6, go_sem, rR]
      refine w5.callDV 1 (viewL_cons_of view_sS (viewL_cons_of view_row viewL_nil_of)) ?_
      simp (disch := omega) only [Tryz.ntmps6, Tryz.results6, go_sem, rR]
      refine w4.callV 1 (viewL_cons_of view_rule (viewL_cons_of view_row viewL_nil_of)) ?_
      simp (disch := omega) only [Tryz.ntmps6, Tryz.results6, go_sem, rR]
      exact Fin.val (by first | rfl | (rw [if_neg h5]; done) | (rw [if_neg h5]; congr 2; omega) | (congr 2; split <;> omega))
  · rw [decide_eq_false h4] at w4
    rw [if_neg h4]
    by_cases h5 : -1 < d - b
    · simp (disch := omega) only [Tryz.ntmps6, Tryz.results6, go_sem, rR]
      refine w1.callV 1 (viewL_cons_of view_rule viewL_nil_of) ?_
      simp (disch := omega) only [Tryz.ntmps6, Tryz.results6, go_sem, rR]
      refine w2.callV 1 (viewL_cons_of view_sS viewL_nil_of) ?_
      simp (disch := omega) only [Tryz.ntmps6, Tryz.results6, go_sem, rR]
      refine w3.callV 0 (viewL_cons_of (view_row) viewL_nil_of) ?_
      simp (disch := omega) only [Tryz.ntmps6, Tryz.results6, go_sem, rR]
      refine w5.callDV 1 (viewL_cons_of view_sS (viewL_cons_of view_row viewL_nil_of)) ?_
      simp (disch := omega) only [Tryz.ntmps6, Tryz.results6, go_sem, rR]
      refine w4.callV 1 (viewL_cons_of view_rule (viewL_cons_of view_row viewL_nil_of)) ?_
      simp (disch := omega) only [Tryz.ntmps6, Tryz.results6, go_sem, rR]
      exact Fin.val (by first | rfl | (rw [if_pos h5]; done))
    · simp (disch := omega) only [Tryz.ntmps6, Tryz.results6, go_sem, rR]
      refine w1.callV 1 (viewL_cons_of view_rule viewL_nil_of) ?_
      simp (disch := omega) only [Tryz.ntmps6, Tryz.results6, go_sem, rR]
      refine w2.callV 1 (viewL_cons_of view_sS viewL_nil_of) ?_
      simp (disch := omega) only [Tryz.ntmps6, Tryz.results6, go_sem, rR]
      refine w3.callV 0 (viewL_cons_of (view_row) viewL_nil_of) ?_
      simp (disch := omega) only [Tryz.ntmps6, Tryz.results6, go_sem, rR]
      refine w5.callDV 1 (viewL_cons_of view_sS (viewL_cons_of view_row viewL_nil_of)) ?_
      simp (disch := omega) only [Tryz.ntmps6, Tryz.results6, go_sem, rR]
      refine w4.callV 1 (viewL_cons_of view_rule (viewL_cons_of view_row viewL_nil_of)) ?_
      simp (disch := omega) only [Tryz.ntmps6, Tryz.results6, go_sem, rR]
      exact Fin.val (by first | rfl | (rw [if_neg h5]; done) | (rw [if_neg h5]; congr 2; omega) | (congr 2; split <;> omega))
end Go.Sh

/-
  Strings as lists of bytes.
-/
namespace Go.Sh
set_option linter.unusedSimpArgs false
set_option linter.unusedVariables false
open Go

abbrev str (l : List UInt8) : SV := .val (.string (sb l))
@[go_sem] theorem sb_mk (l : List UInt8) : ByteArray.mk (List.toArray l) = sb l := rfl
@[go_sem] theorem sb_size (l : List UInt8) : (sb l).size = l.length := by simp [sb, ByteArray.size]
@[go_sem] theorem sb_append (a b : List UInt8) : sb a ++ sb b = sb (a ++ b) := by
  apply ByteArray.ext
  simp [sb]
@[go_sem] theorem sb_toList (l : List UInt8) : (sb l).toList = l := ByteArray.toList_mk l
@[go_sem] theorem sb_extract (l : List UInt8) (a b : Nat) : (sb l).extract a b = sb ((l.drop a).take (b - a)) := ByteArray.extract_mk l a b
theorem sb_of (a : Array UInt8) : ByteArray.mk a = sb a.toList := rfl
theorem sb_data (l : List UInt8) : (sb l).data.toList = l := by simp [sb]
theorem sb_empty : ByteArray.empty = sb [] := rfl
theorem sb_inj {a b : List UInt8} : sb a = sb b ↔ a = b := by
  constructor
  · intro h
    have := congrArg ByteArray.toList h
    simpa [sb_toList] using this
  · rintro rfl; rfl
@[go_sem] theorem sb_index (l : List UInt8) (i : Int) : (if h : 0 ≤ i ∧ i.toNat < (sb l).size then some (SV.val (.int .u8 ((sb l)[i.toNat]'h.2).toNat)) else none) = if 0 ≤ i ∧ i.toNat < l.length then some (.val (.int .u8 (l.getD i.toNat 0).toNat)) else none := by
  by_cases h : 0 ≤ i ∧ i.toNat < l.length
  · have h' : 0 ≤ i ∧ i.toNat < (sb l).size := by rw [sb_size]; exact h
    rw [dif_pos h', if_pos h]
    congr 3
    simp [sb, ByteArray.getElem_eq_getElem_data, h.2]
  · have h' : ¬ (0 ≤ i ∧ i.toNat < (sb l).size) := by rw [sb_size]; exact h
    rw [dif_neg h', if_neg h]
@[go_sem] theorem sstr_add (a b : List UInt8) : sstr .add (sb a) (sb b) = if a.length + b.length ≤ 9223372036854775807 then some (str (a ++ b)) else none := by
  simp only [sstr, sb_size, sb_append]
@[go_sem] theorem sstr_eql (a b : List UInt8) : sstr .eql (sb a) (sb b) = some (.val (.bool (a == b))) := by simp only [sstr, sb_toList]
@[go_sem] theorem sstr_neq (a b : List UInt8) : sstr .neq (sb a) (sb b) = some (.val (.bool (!(a == b)))) := by simp only [sstr, sb_toList]
theorem view_str {H : Heap} {f : Nat} {b : ByteArray} : view H f (.val (.string b)) = some (.val (.string b)) := by unfold view; rfl
theorem wrap8_id {x : Int} (h0 : 0 ≤ x) (h1 : x ≤ 255) : IntKind.u8.wrap x = x := by
  simp [IntKind.wrap, IntKind.signed, IntKind.bits]; omega
/-- Slices of strings, to read. -/
def strs (L : List (List UInt8)) : List SV := L.map str
def rst (L : List (List UInt8)) : SV := .row L.length false (strs L)
end Go.Sh
