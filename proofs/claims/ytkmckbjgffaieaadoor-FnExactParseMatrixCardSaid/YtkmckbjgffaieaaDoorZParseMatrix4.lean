/-
  Texts put together: K2, K3, N2, M0, U1, U2, V3, FI3, FM1, PI1, PM1, AT1, CT1, CT2, AT2, HM1, M1, DA1, DA2, PE1, MH1, FI4, CT3, PM2. What each proves stands at its own head, with its conditions.
-/
import Derived.Test.YtkmckbjgffaieaaDoorZParseMatrix3
import Derived.Lib.AtoiAll
import Derived.Lib.ConvBytes
import Derived.Lib.AtoiErrMem
import Derived.Lib.IndexLaws

/-
  Contracts: is it a weight matrix? Of the reference and of the program.
-/
namespace Go.Sh
set_option linter.unusedSimpArgs false
set_option linter.unusedVariables false
open Go Go.Proofs

def WM (M : List (List Int)) : Prop := (1 ≤ M.length ∧ M.length ≤ 8) ∧ (∀ i, i < M.length → (mrow M i).length = M.length) ∧ (∀ i k, i < M.length → k < M.length → (-1000 ≤ mat M i k ∧ mat M i k ≤ 1000) ∧ mat M i k = mat M k i) ∧ ∀ i, i < M.length → mat M i i = 0
open Classical in
noncomputable def isWM (M : List (List Int)) : Bool := decide (WM M)
open Classical in
theorem isWM_f {M : List (List Int)} (h : ¬ WM M) : isWM M = false := decide_eq_false h
open Classical in
theorem isWM_t {M : List (List Int)} (h : WM M) : isWM M = true := decide_eq_true h

open Classical in
theorem WM_of {M : List (List Int)} (h : isWM M = true) : WM M := by
  unfold isWM at h
  exact of_decide_eq_true h
theorem inR_not {x a b : Int} (h : inR x a b = false) : ¬ (a ≤ x ∧ x ≤ b) := by
  rintro ⟨h1, h2⟩
  rw [inR_tt h1 h2] at h
  cases h
theorem ints_get' {L : List Int} {k n : Nat} (hl : L.length = n) (h : k < n) : (ints L)[k]? = some (.val (.int .i64 (L.getD k 0))) := ints_get (by omega)

set_option maxHeartbeats 4000000 in
theorem Tryd.specIsWM_ok (M : List (List Int)) (hM : M.length ≤ 1048576) (hR : ∀ i, i < M.length → (mrow M i).length ≤ 1048576) : PCall Tryd.prog 59 [rr M] (.val (.bool (isWM M))) := by
  refine FCall.pcall (R := fun r _ => r = .val (.bool (isWM M))) ?_ 0 (by rintro r H rfl; exact view_bool)
  refine FCall.of_body Tryd.func59 rfl (by kernel_rfl) (by simp [Tryd.ntmps59]) ?_
  refine SW_of_vc Tryd.mixed _ _ _ (by kernel_rfl) ?_
  simp (disch := omega) only [Tryd.ntmps59, Tryd.results59, go_sem, rr_eq]
  refine LoopW.loop (fun i : Nat => ⟨ofL [(0, rr M), (3, .val (.int .i64 i))], hp [] 0⟩) (fun i => i ≤ M.length ∧ ∀ x, x < i → (mrow M x).length = M.length) (fun i => M.length - i) 0 ⟨by omega, by intro x h; omega⟩ (Wk.of (by simp only [go_sem, ↓List.forall_mem_cons, List.not_mem_nil, false_implies, implies_true, and_true, true_and, and_self, ri_eq, Int.natCast_add, Int.cast_ofNat_Int, rr_eq]; try simp) rfl) ?_
  rintro i ⟨hi, hii⟩
  refine SW_of_vc Tryd.mixed _ _ _ (by kernel_rfl) ?_
  by_cases hlt : i < M.length
  · by_cases hr : (mrow M i).length = M.length
    · simp (disch := omega) only [Tryd.ntmps59, Tryd.results59, go_sem, rr_eq, rows_get, hr]
      refine ⟨i + 1, ⟨by omega, fun x hx => ?_⟩, by omega, Wk.of (by simp only [go_sem, ↓List.forall_mem_cons, List.not_mem_nil, false_implies, implies_true, and_true, true_and, and_self, ri_eq, Int.natCast_add, Int.cast_ofNat_Int, rr_eq]; try simp) rfl⟩
      rcases Nat.lt_succ_iff_lt_or_eq.mp hx with h | rfl
      · exact hii x h
      · exact hr
    · have hri := hR i hlt
      simp (disch := omega) only [Tryd.ntmps59, Tryd.results59, go_sem, rr_eq, rows_get]
      exact Fin.val (by rw [isWM_f (fun h => hr (h.2.1 i hlt))])
  · obtain rfl : i = M.length := by omega
    simp (disch := omega) only [Tryd.ntmps59, Tryd.results59, go_sem, rr_eq]
    refine LoopW.loop (fun i : Nat => ⟨ofL [(0, rr M), (4, .val (.int .i64 i))], hp [] 0⟩) (fun i => i ≤ M.length ∧ ∀ x k, x < i → k < M.length → (-1000 ≤ mat M x k ∧ mat M x k ≤ 1000) ∧ mat M x k = mat M k x ∧ (x = k → mat M x k = 0)) (fun i => M.length - i) 0 ⟨by omega, by intro x k h; omega⟩ (Wk.of (by simp only [go_sem, ↓List.forall_mem_cons, List.not_mem_nil, false_implies, implies_true, and_true, true_and, and_self, ri_eq, Int.natCast_add, Int.cast_ofNat_Int, rr_eq]; try simp) rfl) ?_
    rintro i ⟨hi1, hi2⟩
    refine SW_of_vc Tryd.mixed _ _ _ (by kernel_rfl) ?_
    by_cases hlt1 : i < M.length
    · simp (disch := omega) only [Tryd.ntmps59, Tryd.results59, go_sem, rr_eq]
      refine LoopW.loop (fun k : Nat => ⟨ofL [(0, rr M), (4, .val (.int .i64 i)), (5, .val (.int .i64 k))], hp [] 0⟩) (fun k => k ≤ M.length ∧ ∀ y, y < k → (-1000 ≤ mat M i y ∧ mat M i y ≤ 1000) ∧ mat M i y = mat M y i ∧ (i = y → mat M i y = 0)) (fun k => M.length - k) 0 ⟨by omega, by intro y h; omega⟩ (Wk.of (by simp only [go_sem, ↓List.forall_mem_cons, List.not_mem_nil, false_implies, implies_true, and_true, true_and, and_self, ri_eq, Int.natCast_add, Int.cast_ofNat_Int, rr_eq]; try simp) rfl) ?_
      rintro k ⟨hk1, hk2⟩
      refine SW_of_vc Tryd.mixed _ _ _ (by kernel_rfl) ?_
      by_cases hlt2 : k < M.length
      · have hri := hii i hlt1
        have hrk := hii k hlt2
        have g1 : (ints (mrow M i))[k]? = some (.val (.int .i64 (mat M i k))) := ints_get' hri hlt2
        have g2 : (ints (mrow M k))[i]? = some (.val (.int .i64 (mat M k i))) := ints_get' hrk hlt1
        obtain ⟨a, ha⟩ : ∃ a, mat M i k = a := ⟨_, rfl⟩
        obtain ⟨b, hb⟩ : ∃ b, mat M k i = b := ⟨_, rfl⟩
        rw [ha] at g1
        rw [hb] at g2
        have w := Tryd.l1In_ok a (-1000) 1000
        rcases Bool.eq_false_or_eq_true (inR a (-1000) 1000) with h1 | h1
        · obtain ⟨r1, r2⟩ := inR_of h1
          rw [h1] at w
          by_cases h2 : a = b
          · by_cases h3 : i = k
            · by_cases h4 : a = 0
              · simp (disch := omega) only [Tryd.ntmps59, Tryd.results59, go_sem, rr_eq, rows_get, hri, hrk, g1, g2]
                refine w.callDV 0 (viewL_cons_of (view_int) (viewL_cons_of (view_int) (viewL_cons_of (view_int) viewL_nil_of))) ?_
                simp (disch := omega) only [Tryd.ntmps59, Tryd.results59, go_sem, rr_eq, rows_get, hri, hrk, g1, g2]
                refine ⟨k + 1, ⟨by omega, fun y hy => ?_⟩, by omega, Wk.of (by simp only [go_sem, ↓List.forall_mem_cons, List.not_mem_nil, false_implies, implies_true, and_true, true_and, and_self, ri_eq, Int.natCast_add, Int.cast_ofNat_Int, rr_eq]; try simp) rfl⟩
                rcases Nat.lt_succ_iff_lt_or_eq.mp hy with h | rfl
                · exact hk2 y h
                · rw [ha, hb]; exact ⟨⟨r1, r2⟩, h2, fun _ => h4⟩
              · simp (disch := omega) only [Tryd.ntmps59, Tryd.results59, go_sem, rr_eq, rows_get, hri, hrk, g1, g2]
                refine w.callDV 0 (viewL_cons_of (view_int) (viewL_cons_of (view_int) (viewL_cons_of (view_int) viewL_nil_of))) ?_
                simp (disch := omega) only [Tryd.ntmps59, Tryd.results59, go_sem, rr_eq, rows_get, hri, hrk, g1, g2]
                exact Fin.val (by rw [isWM_f (fun h => h4 (by have := h.2.2.2 i hlt1; rw [← ha, ← h3]; exact this))])
            · simp (disch := omega) only [Tryd.ntmps59, Tryd.results59, go_sem, rr_eq, rows_get, hri, hrk, g1, g2]
              refine w.callDV 0 (viewL_cons_of (view_int) (viewL_cons_of (view_int) (viewL_cons_of (view_int) viewL_nil_of))) ?_
              simp (disch := omega) only [Tryd.ntmps59, Tryd.results59, go_sem, rr_eq, rows_get, hri, hrk, g1, g2]
              refine ⟨k + 1, ⟨by omega, fun y hy => ?_⟩, by omega, Wk.of (by simp only [go_sem, ↓List.forall_mem_cons, List.not_mem_nil, false_implies, implies_true, and_true, true_and, and_self, ri_eq, Int.natCast_add, Int.cast_ofNat_Int, rr_eq]; try simp) rfl⟩
              rcases Nat.lt_succ_iff_lt_or_eq.mp hy with h | rfl
              · exact hk2 y h
              · rw [ha, hb]; exact ⟨⟨r1, r2⟩, h2, fun e => absurd e h3⟩
          · simp (disch := omega) only [Tryd.ntmps59, Tryd.results59, go_sem, rr_eq, rows_get, hri, hrk, g1, g2]
            refine w.callDV 0 (viewL_cons_of (view_int) (viewL_cons_of (view_int) (viewL_cons_of (view_int) viewL_nil_of))) ?_
            simp (disch := omega) only [Tryd.ntmps59, Tryd.results59, go_sem, rr_eq, rows_get, hri, hrk, g1, g2]
            exact Fin.val (by rw [isWM_f (fun h => h2 (by have := (h.2.2.1 i k hlt1 hlt2).2; rw [ha, hb] at this; exact this))])
        · rw [h1] at w
          simp (disch := omega) only [Tryd.ntmps59, Tryd.results59, go_sem, rr_eq, rows_get, hri, hrk, g1, g2]
          refine w.callDV 0 (viewL_cons_of (view_int) (viewL_cons_of (view_int) (viewL_cons_of (view_int) viewL_nil_of))) ?_
          simp (disch := omega) only [Tryd.ntmps59, Tryd.results59, go_sem, rr_eq]
          exact Fin.val (by rw [isWM_f (fun h => inR_not h1 (by have := (h.2.2.1 i k hlt1 hlt2).1; rw [ha] at this; exact this))])
      · obtain rfl : k = M.length := by omega
        simp (disch := omega) only [Tryd.ntmps59, Tryd.results59, go_sem, rr_eq]
        refine ⟨i + 1, ⟨by omega, fun x y hx hy => ?_⟩, by omega, Wk.of (by simp only [go_sem, ↓List.forall_mem_cons, List.not_mem_nil, false_implies, implies_true, and_true, true_and, and_self, ri_eq, Int.natCast_add, Int.cast_ofNat_Int, rr_eq]; try simp) rfl⟩
        rcases Nat.lt_succ_iff_lt_or_eq.mp hx with h | rfl
        · exact hi2 x y h hy
        · exact hk2 y hy
    · obtain rfl : i = M.length := by omega
      have w := Tryd.l1In_ok (M.length : Int) 1 8
      rcases Bool.eq_false_or_eq_true (inR (M.length : Int) 1 8) with h1 | h1
      · obtain ⟨r1, r2⟩ := inR_of h1
        rw [h1] at w
        simp (disch := omega) only [Tryd.ntmps59, Tryd.results59, go_sem, rr_eq]
        refine w.callV 0 (viewL_cons_of (view_int) (viewL_cons_of (view_int) (viewL_cons_of (view_int) viewL_nil_of))) ?_
        simp (disch := omega) only [Tryd.ntmps59, Tryd.results59, go_sem, rr_eq]
        exact Fin.val (by rw [isWM_t ⟨⟨by omega, by omega⟩, hii, fun x y hx hy => ⟨(hi2 x y hx hy).1, (hi2 x y hx hy).2.1⟩, fun x hx => (hi2 x x hx hx).2.2 rfl⟩])
      · rw [h1] at w
        simp (disch := omega) only [Tryd.ntmps59, Tryd.results59, go_sem, rr_eq]
        refine w.callV 0 (viewL_cons_of (view_int) (viewL_cons_of (view_int) (viewL_cons_of (view_int) viewL_nil_of))) ?_
        simp (disch := omega) only [Tryd.ntmps59, Tryd.results59, go_sem, rr_eq]
        exact Fin.val (by rw [isWM_f (fun h => inR_not h1 (by have := h.1; omega))])

set_option maxHeartbeats 4000000 in
theorem Tryd.implIsWM_ok (M : List (List Int)) (hM : M.length ≤ 1048576) (hR : ∀ i, i < M.length → (mrow M i).length ≤ 1048576) : PCall Tryd.prog 60 [rr M] (.val (.bool (isWM M))) := by
  refine FCall.pcall (R := fun r _ => r = .val (.bool (isWM M))) ?_ 0 (by rintro r H rfl; exact view_bool)
  refine FCall.of_body Tryd.func60 rfl (by kernel_rfl) (by simp [Tryd.ntmps60]) ?_
  refine SW_of_vc Tryd.mixed _ _ _ (by kernel_rfl) ?_
  have w := Tryd.within_ok (M.length : Int) 1 8
  rcases Bool.eq_false_or_eq_true (inR (M.length : Int) 1 8) with hn | hn
  · obtain ⟨n1, n2⟩ := inR_of hn
    rw [hn] at w
    simp (disch := omega) only [Tryd.ntmps60, Tryd.results60, go_sem, rr_eq]
    refine w.callV 0 (viewL_cons_of (view_int) (viewL_cons_of (view_int) (viewL_cons_of (view_int) viewL_nil_of))) ?_
    simp (disch := omega) only [Tryd.ntmps60, Tryd.results60, go_sem, rr_eq]
    refine LoopW.loop (fun i : Nat => ⟨ofL [(0, rr M), (11, rr M), (12, .val (.int .i64 M.length)), (13, .val (.int .i64 i))], hp [] 0⟩) (fun i => i ≤ M.length ∧ ∀ x, x < i → (mrow M x).length = M.length ∧ mat M x x = 0 ∧ ∀ y, y < x → (-1000 ≤ mat M x y ∧ mat M x y ≤ 1000) ∧ mat M y x = mat M x y) (fun i => M.length - i) 0 ⟨by omega, by intro x h; omega⟩ (Wk.of (by simp only [go_sem, ↓List.forall_mem_cons, List.not_mem_nil, false_implies, implies_true, and_true, true_and, and_self, ri_eq, Int.natCast_add, Int.cast_ofNat_Int, rr_eq]; try simp) rfl) ?_
    rintro i ⟨hi, hii⟩
    refine SW_of_vc Tryd.mixed _ _ _ (by kernel_rfl) ?_
    by_cases hlt : i < M.length
    · have hrm := hR i hlt
      by_cases hr : (mrow M i).length = M.length
      · have g0 : (ints (mrow M i))[i]? = some (.val (.int .i64 (mat M i i))) := ints_get' hr hlt
        by_cases hd : mat M i i = 0
        · rw [hd] at g0
          simp (disch := omega) only [Tryd.ntmps60, Tryd.results60, go_sem, rr_eq, rows_get, hr, g0]
          have hlt' : ((mrow M i).take i).length = i := by simp; omega
          refine LoopW.loop (fun k : Nat => ⟨ofL [(0, rr M), (3, .val (.int .i64 i)), (11, rr M), (12, .val (.int .i64 M.length)), (13, .val (.int .i64 i)), (32, .row i false ((ints (mrow M i)).take i)), (33, .val (.int .i64 i)), (34, .val (.int .i64 k))], hp [] 0⟩)
            (fun k => k ≤ i ∧ ∀ y, y < k → (-1000 ≤ mat M i y ∧ mat M i y ≤ 1000) ∧ mat M y i = mat M i y) (fun k => i - k) 0 ⟨by omega, by intro y h; omega⟩ (Wk.of (by simp only [go_sem, ↓List.forall_mem_cons, List.not_mem_nil, false_implies, implies_true, and_true, true_and, and_self, ri_eq, Int.natCast_add, Int.cast_ofNat_Int, rr_eq]; try simp) rfl) ?_
          rintro k ⟨hk, hkk⟩
          refine SW_of_vc Tryd.mixed _ _ _ (by kernel_rfl) ?_
          by_cases hki : k < i
          · have hrk := (hii k hki).1
            have g1 : ((ints (mrow M i)).take i)[k]? = some (.val (.int .i64 (mat M i k))) := by
              rw [List.getElem?_take, if_pos hki]; exact ints_get' hr (by omega)
            have g2 : (ints (mrow M k))[i]? = some (.val (.int .i64 (mat M k i))) := ints_get' hrk hlt
            obtain ⟨a, ha⟩ : ∃ a, mat M i k = a := ⟨_, rfl⟩
            obtain ⟨b, hb⟩ : ∃ b, mat M k i = b := ⟨_, rfl⟩
            rw [ha] at g1
            rw [hb] at g2
            have w2 := Tryd.within_ok a (-1000) 1000
            rcases Bool.eq_false_or_eq_true (inR a (-1000) 1000) with h1 | h1
            · obtain ⟨r1, r2⟩ := inR_of h1
              rw [h1] at w2
              by_cases h2 : b = a
              · simp (disch := omega) only [Tryd.ntmps60, Tryd.results60, go_sem, rr_eq, rows_get, hrk, g1, g2]
                refine w2.callV 0 (viewL_cons_of (view_int) (viewL_cons_of (view_int) (viewL_cons_of (view_int) viewL_nil_of))) ?_
                simp (disch := omega) only [Tryd.ntmps60, Tryd.results60, go_sem, rr_eq, rows_get, hrk, g1, g2]
                refine ⟨k + 1, ⟨by omega, fun y hy => ?_⟩, by omega, Wk.of (by simp only [go_sem, ↓List.forall_mem_cons, List.not_mem_nil, false_implies, implies_true, and_true, true_and, and_self, ri_eq, Int.natCast_add, Int.cast_ofNat_Int, rr_eq]; try simp) rfl⟩
                rcases Nat.lt_succ_iff_lt_or_eq.mp hy with h | rfl
                · exact hkk y h
                · rw [ha, hb]; exact ⟨⟨r1, r2⟩, h2⟩
              · simp (disch := omega) only [Tryd.ntmps60, Tryd.results60, go_sem, rr_eq, rows_get, hrk, g1, g2]
                refine w2.callV 0 (viewL_cons_of (view_int) (viewL_cons_of (view_int) (viewL_cons_of (view_int) viewL_nil_of))) ?_
                simp (disch := omega) only [Tryd.ntmps60, Tryd.results60, go_sem, rr_eq, rows_get, hrk, g1, g2]
                exact Fin.val (by rw [isWM_f (fun h => h2 (by have := (h.2.2.1 k i (by omega) hlt).2; rw [ha, hb] at this; exact this))])
            · rw [h1] at w2
              simp (disch := omega) only [Tryd.ntmps60, Tryd.results60, go_sem, rr_eq, rows_get, hrk, g1, g2]
              refine w2.callV 0 (viewL_cons_of (view_int) (viewL_cons_of (view_int) (viewL_cons_of (view_int) viewL_nil_of))) ?_
              simp (disch := omega) only [Tryd.ntmps60, Tryd.results60, go_sem, rr_eq]
              exact Fin.val (by rw [isWM_f (fun h => inR_not h1 (by have := (h.2.2.1 i k hlt (by omega)).1; rw [ha] at this; exact this))])
          · obtain rfl : k = i := by omega
            simp (disch := omega) only [Tryd.ntmps60, Tryd.results60, go_sem, rr_eq]
            refine ⟨k + 1, ⟨by omega, fun x hx => ?_⟩, by omega, Wk.of (by simp only [go_sem, ↓List.forall_mem_cons, List.not_mem_nil, false_implies, implies_true, and_true, true_and, and_self, ri_eq, Int.natCast_add, Int.cast_ofNat_Int, rr_eq]; try simp) rfl⟩
            rcases Nat.lt_succ_iff_lt_or_eq.mp hx with h | rfl
            · exact hii x h
            · exact ⟨hr, hd, hkk⟩
        · obtain ⟨d, hd'⟩ : ∃ d, mat M i i = d := ⟨_, rfl⟩
          rw [hd'] at g0 hd
          simp (disch := omega) only [Tryd.ntmps60, Tryd.results60, go_sem, rr_eq, rows_get, hr, g0]
          exact Fin.val (by rw [isWM_f (fun h => hd (by rw [← hd']; exact h.2.2.2 i hlt))])
      · simp (disch := omega) only [Tryd.ntmps60, Tryd.results60, go_sem, rr_eq, rows_get]
        exact Fin.val (by rw [isWM_f (fun h => hr (h.2.1 i hlt))])
    · obtain rfl : i = M.length := by omega
      simp (disch := omega) only [Tryd.ntmps60, Tryd.results60, go_sem, rr_eq]
      refine Fin.val ?_
      rw [isWM_t ⟨⟨by omega, by omega⟩, fun x hx => (hii x hx).1, fun x y hx hy => ?_, fun x hx => (hii x hx).2.1⟩]
      rcases Nat.lt_trichotomy y x with h | h | h
      · obtain ⟨q1, q2⟩ := (hii x hx).2.2 y h
        exact ⟨q1, q2.symm⟩
      · subst h
        have := (hii y hy).2.1
        exact ⟨by omega, rfl⟩
      · obtain ⟨q1, q2⟩ := (hii y hy).2.2 x h
        exact ⟨by omega, q2⟩
  · rw [hn] at w
    simp (disch := omega) only [Tryd.ntmps60, Tryd.results60, go_sem, rr_eq]
    refine w.callV 0 (viewL_cons_of (view_int) (viewL_cons_of (view_int) (viewL_cons_of (view_int) viewL_nil_of))) ?_
    simp (disch := omega) only [Tryd.ntmps60, Tryd.results60, go_sem, rr_eq]
    exact Fin.val (by rw [isWM_f (fun h => inR_not hn (by have := h.1; omega))])
end Go.Sh

/-
  What comes in as a matrix: its measures.
-/
namespace Go.Sh
set_option linter.unusedSimpArgs false
set_option linter.unusedVariables false
open Go Go.Proofs

theorem mrow_le {M : List (List Int)} {i : Nat} (h : i < M.length) : ((mrow M i).length : Int) ≤ msum M M.length := by
  have h1 := msum_succ h
  have h2 := msum_nonneg M i
  have h3 := msum_mono (M := M) (k := i + 1) (j := M.length) (by omega) (Nat.le_refl _)
  omega
theorem mrow_max {M : List (List Int)} (hw : (∀ l ∈ M, (∀ n ∈ l, i64R n) ∧ l.length ≤ maxLen) ∧ M.length ≤ maxLen) : M.length ≤ 9223372036854775807 ∧ ∀ i, i < M.length → (mrow M i).length ≤ 9223372036854775807 := by
  refine ⟨hw.2, fun i hi => ?_⟩
  have := (hw.1 M[i] (List.getElem_mem hi)).2
  have e : mrow M i = M[i] := by simp [mrow, hi]
  rw [e]
  exact this
end Go.Sh

/-
  Contracts: a square of zeros; the components of a graph of positive weights. Of the program.
-/
namespace Go.Sh
set_option linter.unusedSimpArgs false
set_option linter.unusedVariables false
open Go Go.Proofs

def zs (n : Nat) : List (List Int) := List.replicate n (List.replicate n 0)
theorem zs_length (n : Nat) : (zs n).length = n := by simp [zs]
theorem zs_row {n i : Nat} (h : i < n) : mrow (zs n) i = List.replicate n 0 := by simp [zs, mrow, h]
theorem zs_at {n i k : Nat} : mat (zs n) i k = 0 := by
  simp only [zs, mat, mrow, List.getD_eq_getElem?_getD, List.getElem?_replicate]
  by_cases h : i < n
  · by_cases h2 : k < n <;> simp [h, h2]
  · simp [h]
def outerQ (n k : Nat) : List SV := (List.range n).map fun i => if i < k then .own (i + 1) 0 n n 1 true else .val (.slice none 0 0)
theorem outerQ_length (n k : Nat) : (outerQ n k).length = n := by simp [outerQ]
theorem outerQ_zero (n : Nat) : outerQ n 0 = List.replicate n (.val (.slice none 0 0)) := by
  apply List.ext_getElem <;> simp [outerQ]
theorem outerQ_get {n k i : Nat} (h : i < n) : (outerQ n k)[i]? = some (if i < k then .own (i + 1) 0 n n 1 true else .val (.slice none 0 0)) := by
  simp only [outerQ, List.getElem?_map]
  rw [List.getElem?_range h]; rfl
theorem outerQ_set {n k : Nat} (h : k < n) : (outerQ n k).set k (.own (k + 1) 0 n n 1 true) = outerQ n (k + 1) := by
  apply List.ext_getElem?
  intro i
  by_cases hi : i < n
  · rw [outerQ_get hi, List.getElem?_set, outerQ_length, outerQ_get hi]
    by_cases hk : k = i
    · subst hk; simp [h]
    · by_cases h1 : i < k
      · simp [hk, h1, show i < k + 1 by omega]
      · simp [hk, h1, show ¬ i < k + 1 by omega]
  · rw [List.getElem?_eq_none (by rw [List.length_set, outerQ_length]; omega), List.getElem?_eq_none (by rw [outerQ_length]; omega)]
def HQ (n k : Nat) : Heap := ⟨fun x => if x = 0 then some ⟨outerQ n k, true⟩ else if x ≤ k then some ⟨ints (List.replicate n 0), true⟩ else none, k + 1⟩
def HQp (n k : Nat) : Heap := (HQ n k).push ⟨ints (List.replicate n 0), true⟩
theorem HQ_nb (n k : Nat) : (HQ n k).nb = k + 1 := rfl
theorem HQ_map (n k : Nat) : (HQ n k).map 0 = some ⟨outerQ n k, true⟩ := rfl
theorem HQp_map (n k : Nat) : (HQp n k).map 0 = some ⟨outerQ n k, true⟩ := by
  simp only [HQp, Heap.push, HQ]
  rw [if_neg (by omega)]
  rfl
theorem HQp_set {n k : Nat} : (HQp n k).set 0 (some ⟨outerQ n (k + 1), true⟩) = HQ n (k + 1) := by
  refine Heap.ext' (fun x => ?_) rfl
  simp only [HQp, HQ, Heap.push, Heap.set]
  by_cases h0 : x = 0
  · simp [h0]
  · by_cases h1 : x = k + 1
    · simp [h1]
    · by_cases h2 : x ≤ k
      · simp [h0, h1, h2, show x ≤ k + 1 by omega]
      · simp [h0, h1, h2, show ¬ x ≤ k + 1 by omega]
theorem HQ_zero (n : Nat) : HQ n 0 = hp [(0, ⟨List.replicate n (.val (.slice none 0 0)), true⟩)] 1 := by
  refine Heap.ext' (fun x => ?_) rfl
  simp only [HQ, hp, hmap, outerQ_zero]
  by_cases h0 : x = 0
  · simp [h0]
  · simp [h0]
theorem outerQ_nr (n k : Nat) : noRowL (outerQ n k) = true := by
  unfold outerQ
  generalize List.range n = l
  induction l with
  | nil => rfl
  | cons a l ih =>
    simp only [List.map_cons, noRowL, ih, Bool.and_true]
    split <;> rfl
theorem HQ_nr (n k : Nat) : nrHeap (HQ n k) := by
  intro b blk hb
  simp only [HQ] at hb
  split at hb
  · simp at hb; subst hb; exact outerQ_nr n k
  · split at hb
    · simp at hb; subst hb; exact noRowL_ints _
    · simp at hb
theorem HQ_res (n : Nat) : MatRes (mi (zs n)) (.own 0 0 n n 1 true) (HQ n n) := by
  have hl : (mi (zs n)).length = n := by rw [mi_length, zs_length]
  refine ⟨0, 0, n, true, _, by rw [hl], HQ_map n n, by rw [hl, outerQ_length]; omega, mi_vals _, fun i => i + 1, fun _ => 0, fun i i' _ _ h => by simpa using h, fun i _ => by simp, fun i hi => ?_⟩
  rw [hl] at hi
  have hr : rowAt (mi (zs n)) i = ints (List.replicate n 0) := by rw [mi_row (by rwa [zs_length]), zs_row hi]
  refine ⟨n, true, ⟨ints (List.replicate n 0), true⟩, ?_, ?_, ?_, ?_⟩
  · rw [hr, Nat.zero_add, outerQ_get hi, if_pos hi, ints_length, List.length_replicate]
  · simp only [HQ]
    rw [if_neg (by omega), if_pos (by omega)]
  · rw [hr]; simp
  · rw [hr]; simp

set_option maxHeartbeats 1000000 in
theorem Tryd.square_f (n : Nat) (hn : n ≤ 1048576) : FCall Tryd.prog 71 [.val (.int .i64 n)] (MatRes (mi (zs n))) := by
  refine FCall.of_body Tryd.func71 rfl (by kernel_rfl) (by simp [Tryd.ntmps71]) ?_
  refine SW_of_vc Tryd.mixed _ _ _ (by kernel_rfl) ?_
  simp (disch := omega) only [Tryd.ntmps71, Tryd.results71, go_sem]
  refine LoopW.loop (fun k : Nat => ⟨ofL [(0, .val (.int .i64 n)), (3, .own 0 0 n n 1 true), (8, .val (.int .i64 n)), (9, .val (.int .i64 k))], HQ n k⟩) (fun k => k ≤ n) (fun k => n - k) 0 (by omega)
    (Wk.of (by simp only [go_sem, ↓List.forall_mem_cons, List.not_mem_nil, false_implies, implies_true, and_true, true_and, and_self, ri_eq, Int.natCast_add, Int.cast_ofNat_Int]; try simp) (by rw [HQ_zero])) ?_
  intro k hk
  have ho := outerQ_length n k
  refine SW_of_vc Tryd.mixed _ _ _ (by kernel_rfl) ?_
  by_cases hlt : k < n
  · have hos := outerQ_set hlt
    have e : (HQ n k).push ⟨ints (List.replicate n 0), true⟩ = HQp n k := rfl
    simp (disch := omega) only [Tryd.ntmps71, Tryd.results71, go_sem, HQ_nb, e, HQp_map, ho, hos, HQp_set]
    exact ⟨k + 1, by omega, by omega, Wk.of (by simp only [go_sem, ↓List.forall_mem_cons, List.not_mem_nil, false_implies, implies_true, and_true, true_and, and_self, ri_eq, Int.natCast_add, Int.cast_ofNat_Int]; try simp) rfl⟩
  · obtain rfl : k = n := by omega
    simp (disch := omega) only [Tryd.ntmps71, Tryd.results71, go_sem]
    exact ⟨HQ k k, ⟨rfl, fun _ => .inr rfl⟩, rfl, HQ_nr k _, HQ_res k⟩
theorem Tryd.square_one (n : Nat) (hn : n ≤ 1048576) : FCall Tryd.prog 71 [.val (.int .i64 n)] (MatOne (mi (zs n))) := (Tryd.square_f n hn).mat

/-! ### The search -/
def pB (M : List (List Int)) (x y : Nat) : Bool := decide (0 < mat M x y)
theorem WM.sym {M : List (List Int)} (h : WM M) : ∀ x y, x < M.length → y < M.length → pB M x y = true → pB M y x = true := by
  intro x y hx hy hb
  have := (h.2.2.1 x y hx hy).2
  rw [pB] at hb ⊢
  rw [← this]; exact hb
def vClos : SV := .clos (.func 96) [] [.optr 3 0, .optr 2 0, .optr 0 0, .optr 4 0]
def vHeap (M : List (List Int)) (O : List Int) (c : Int) : List (Nat × Blk) := [(4, ⟨[vClos], true⟩), (3, ⟨[.val (.int .i64 c)], true⟩), (2, ⟨[.own 1 0 M.length M.length 1 true], true⟩), (1, ⟨ints O, true⟩), (0, ⟨[rr M], true⟩)]

set_option maxHeartbeats 4000000 in
theorem Tryd.visit_ok {M : List (List Int)} (hw : WM M) {c : Int} (hc : 0 ≤ c) : ∀ (fu : Nat) (O : List Int) (i : Nat), O.length = M.length → i < M.length → O.getD i 0 < 0 → negs M.length O ≤ fu →
    CallS Tryd.prog 96 [.val (.int .i64 i), .optr 3 0, .optr 2 0, .optr 0 0, .optr 4 0] (hp (vHeap M O c) 5) (fun r H' => ∃ O', r = .tup [] ∧ H' = hp (vHeap M O' c) 5 ∧ DfsL M.length (pB M) c i O O')
  | 0, O, i, hl, hi, h0, hf => by have := negs_pos hi h0; omega
  | fu + 1, O, i, hl, hi, h0, hf => by
    have hln := hw.1
    have hri := hw.2.1 i hi
    refine CallS.of_body Tryd.func96 rfl (by kernel_rfl) (by simp [Tryd.ntmps96]) ?_
    refine SW_of_vc Tryd.mixed _ _ _ (by kernel_rfl) ?_
    rw [vHeap]
    simp (disch := omega) only [Tryd.ntmps96, Tryd.results96, go_sem, rr_eq, hl, rows_get, hri]
    refine LoopW.loop (fun p : Nat × List Int => ⟨ofL [(1, .optr 3 0), (2, .optr 2 0), (3, .optr 0 0), (4, .optr 4 0), (15, .row M.length false (ints (mrow M i))), (16, .val (.int .i64 M.length)), (17, .val (.int .i64 p.1))], hp (vHeap M p.2 c) 5⟩)
      (fun p => p.1 ≤ M.length ∧ DfsK M.length (pB M) c i O p.1 p.2) (fun p => M.length - p.1) (0, O.set i c) ⟨by simp, .start hl hi h0⟩ (Wk.of (by simp only [go_sem, ↓List.forall_mem_cons, List.not_mem_nil, false_implies, implies_true, and_true, true_and, and_self, ri_eq, Int.natCast_add, Int.cast_ofNat_Int, rr_eq, hri]; try simp) rfl) ?_
    rintro ⟨k, O1⟩ ⟨hk, hd⟩
    simp only at hk hd
    have hl1 := hd.len
    refine SW_of_vc Tryd.mixed _ _ _ (by kernel_rfl) ?_
    rw [vHeap]
    by_cases hlt : k < M.length
    · have g1 : (ints (mrow M i))[k]? = some (.val (.int .i64 (mat M i k))) := ints_get' hri hlt
      have g2 : (ints O1)[k]? = some (.val (.int .i64 (O1.getD k 0))) := ints_get' hl1 hlt
      obtain ⟨a, ha⟩ : ∃ a, mat M i k = a := ⟨_, rfl⟩
      obtain ⟨b, hb⟩ : ∃ b, O1.getD k 0 = b := ⟨_, rfl⟩
      have hpb : pB M i k = decide (0 < a) := by rw [pB, ha]
      rw [ha] at g1
      rw [hb] at g2
      by_cases h1 : 0 < a
      · by_cases h2 : b < 0
        · have w := Tryd.visit_ok hw hc fu O1 k hl1 hlt (by omega) (by have := hd.negs hc hi h0; omega)
          rw [vHeap, vClos] at w
          simp (disch := omega) only [Tryd.ntmps96, Tryd.results96, go_sem, vClos, g1, g2, hl1, ints_length]
          refine w.callX ?_
          rintro r H' ⟨O2, rfl, rfl, hd2⟩
          simp (disch := omega) only [Tryd.ntmps96, Tryd.results96, go_sem]
          exact ⟨(k + 1, O2), ⟨hlt, hd.step hc hi hlt (by rw [hpb]; exact decide_eq_true h1) (by omega) hd2⟩, by show M.length - (k + 1) < M.length - k; omega, Wk.of (by simp only [go_sem, ↓List.forall_mem_cons, List.not_mem_nil, false_implies, implies_true, and_true, true_and, and_self, ri_eq, Int.natCast_add, Int.cast_ofNat_Int]; try simp) rfl⟩
        · simp (disch := omega) only [Tryd.ntmps96, Tryd.results96, go_sem, vClos, g1, g2, hl1, ints_length]
          exact ⟨(k + 1, O1), ⟨hlt, hd.skip (fun _ => by omega)⟩, by show M.length - (k + 1) < M.length - k; omega, Wk.of (by simp only [go_sem, ↓List.forall_mem_cons, List.not_mem_nil, false_implies, implies_true, and_true, true_and, and_self, ri_eq, Int.natCast_add, Int.cast_ofNat_Int]; try simp) rfl⟩
      · simp (disch := omega) only [Tryd.ntmps96, Tryd.results96, go_sem, vClos, g1, g2, hl1, ints_length]
        exact ⟨(k + 1, O1), ⟨hlt, hd.skip (fun h => by rw [hpb] at h; exact absurd (of_decide_eq_true h) h1)⟩, by show M.length - (k + 1) < M.length - k; omega, Wk.of (by simp only [go_sem, ↓List.forall_mem_cons, List.not_mem_nil, false_implies, implies_true, and_true, true_and, and_self, ri_eq, Int.natCast_add, Int.cast_ofNat_Int]; try simp) rfl⟩
    · simp (disch := omega) only [Tryd.ntmps96, Tryd.results96, go_sem]
      exact ⟨O1, rfl, hd.final (by omega)⟩

def fillN (n k : Nat) : List Int := List.replicate k (-1) ++ List.replicate (n - k) 0
theorem fillN_zero (n : Nat) : fillN n 0 = List.replicate n 0 := by simp [fillN]
theorem fillN_length {n k : Nat} (h : k ≤ n) : (fillN n k).length = n := by simp [fillN]; omega
theorem fillN_set {n k : Nat} (h : k < n) : (fillN n k).set k (-1) = fillN n (k + 1) := by
  apply List.ext_getElem?
  intro i
  simp [fillN, List.getElem?_set, List.getElem?_append, List.getElem?_replicate]
  grind
theorem fillN_all (n : Nat) : fillN n n = List.replicate n (-1) := by simp [fillN]

theorem Fin.imp {R R' : SV → Heap → Prop} {r : SV} {H : Heap} (h : ∀ r H, R r H → R' r H) (f : Fin R r H) : Fin R' r H := by
  obtain ⟨H2, a, b, c, d⟩ := f
  exact ⟨H2, a, b, c, h _ _ d⟩
set_option maxHeartbeats 4000000 in
theorem Tryd.implPC_f (M : List (List Int)) (hM : M.length ≤ 1048576) (hR : ∀ i, i < M.length → (mrow M i).length ≤ 1048576) (hw : WM M) : FCall Tryd.prog 72 [rr M] (fun r H => CompL M.length (pB M) (comp M.length (pB M)) ∧ FlatRes M.length 1 (ints (comp M.length (pB M))) r H) := by
  have hln := hw.1
  have w1 := Tryd.implIsWM_ok M hM hR
  rw [isWM_t hw] at w1
  refine FCall.of_body Tryd.func72 rfl (by kernel_rfl) (by simp [Tryd.ntmps72]) ?_
  refine SW_of_vc Tryd.mixed _ _ _ (by kernel_rfl) ?_
  simp (disch := omega) only [Tryd.ntmps72, Tryd.results72, go_sem, rr_eq]
  refine w1.callV 0 (viewL_cons_of (view_row) viewL_nil_of) ?_
  simp (disch := omega) only [Tryd.ntmps72, Tryd.results72, go_sem, rr_eq]
  refine LoopW.loop (fun k : Nat => ⟨ofL [(1, .optr 0 0), (3, .optr 2 0), (15, .val (.int .i64 M.length)), (16, .val (.int .i64 k))], hp [(2, ⟨[.own 1 0 M.length M.length 1 true], true⟩), (1, ⟨ints (fillN M.length k), true⟩), (0, ⟨[rr M], true⟩)] 3⟩) (fun k => k ≤ M.length) (fun k => M.length - k) 0 (by omega)
    (Wk.of (by simp only [go_sem, ↓List.forall_mem_cons, List.not_mem_nil, false_implies, implies_true, and_true, true_and, and_self, ri_eq, Int.natCast_add, Int.cast_ofNat_Int]; try simp) (by rw [fillN_zero]; rfl)) ?_
  intro k hk
  have hfl := fillN_length hk
  refine SW_of_vc Tryd.mixed _ _ _ (by kernel_rfl) ?_
  by_cases hlt : k < M.length
  · have hfs := fillN_set hlt
    simp (disch := omega) only [Tryd.ntmps72, Tryd.results72, go_sem, rr_eq, hfl, hfs]
    exact ⟨k + 1, by omega, by omega, Wk.of (by simp only [go_sem, ↓List.forall_mem_cons, List.not_mem_nil, false_implies, implies_true, and_true, true_and, and_self, ri_eq, Int.natCast_add, Int.cast_ofNat_Int]; try simp) rfl⟩
  · obtain rfl : k = M.length := by omega
    simp (disch := omega) only [Tryd.ntmps72, Tryd.results72, go_sem, rr_eq, fillN_all]
    refine LoopW.loop (fun p : Nat × List Int × Int => ⟨ofL [(3, .optr 2 0), (5, .optr 3 0), (6, .optr 4 0), (25, .val (.int .i64 M.length)), (26, .val (.int .i64 p.1))], hp (vHeap M p.2.1 p.2.2) 5⟩)
      (fun p => p.1 ≤ M.length ∧ PartL M.length (pB M) p.1 p.2.2 p.2.1) (fun p => M.length - p.1) (0, List.replicate M.length (-1), 0) ⟨by simp, .zero _ _⟩ (Wk.of (by simp only [go_sem, ↓List.forall_mem_cons, List.not_mem_nil, false_implies, implies_true, and_true, true_and, and_self, ri_eq, Int.natCast_add, Int.cast_ofNat_Int]; try simp) rfl) ?_
    rintro ⟨i, O, c⟩ ⟨hi, hpl⟩
    simp only at hi hpl
    have hl := hpl.len
    have hc0 := hpl.c0
    have hci := hpl.ci
    refine SW_of_vc Tryd.mixed _ _ _ (by kernel_rfl) ?_
    rw [vHeap]
    by_cases hlt : i < M.length
    · have g2 : (ints O)[i]? = some (.val (.int .i64 (O.getD i 0))) := ints_get' hl hlt
      obtain ⟨b, hb⟩ : ∃ b, O.getD i 0 = b := ⟨_, rfl⟩
      rw [hb] at g2
      by_cases h2 : b < 0
      · have w := Tryd.visit_ok hw hc0 (negs M.length O) O i hl hlt (by omega) (Nat.le_refl _)
        rw [vHeap, vClos] at w
        simp (disch := omega) only [Tryd.ntmps72, Tryd.results72, go_sem, vClos, g2, hl]
        refine w.callX ?_
        rintro r H' ⟨O2, rfl, rfl, hd⟩
        rw [vHeap]
        simp (disch := omega) only [Tryd.ntmps72, Tryd.results72, go_sem, vClos]
        exact ⟨(i + 1, O2, c + 1), ⟨hlt, hpl.step hw.sym hlt (by omega) (hd.newL hw.sym hpl hlt (by omega))⟩, by show M.length - (i + 1) < M.length - i; omega, Wk.of (by simp only [go_sem, ↓List.forall_mem_cons, List.not_mem_nil, false_implies, implies_true, and_true, true_and, and_self, ri_eq, Int.natCast_add, Int.cast_ofNat_Int]; try simp) rfl⟩
      · simp (disch := omega) only [Tryd.ntmps72, Tryd.results72, go_sem, vClos, g2, hl]
        exact ⟨(i + 1, O, c), ⟨hlt, hpl.skip (by omega)⟩, by show M.length - (i + 1) < M.length - i; omega, Wk.of (by simp only [go_sem, ↓List.forall_mem_cons, List.not_mem_nil, false_implies, implies_true, and_true, true_and, and_self, ri_eq, Int.natCast_add, Int.cast_ofNat_Int]; try simp) rfl⟩
    · have hC := hpl.final (by omega)
      have hc2 := hC.comp
      rw [← hC.eq] at hc2 ⊢
      simp (disch := omega) only [Tryd.ntmps72, Tryd.results72, go_sem, vClos]
      exact Fin.imp (fun _ _ h => ⟨hc2, h⟩) (fin_ints hl.symm (by rw [hp_map]; simp only [hmap_cons]; rfl))
theorem Tryd.implPC_nil (M : List (List Int)) (hM : M.length ≤ 1048576) (hR : ∀ i, i < M.length → (mrow M i).length ≤ 1048576) (hw : ¬ WM M) : FCall Tryd.prog 72 [rr M] (fun r _ => r = .val (.slice none 0 0)) := by
  have w1 := Tryd.implIsWM_ok M hM hR
  rw [isWM_f hw] at w1
  refine FCall.of_body Tryd.func72 rfl (by kernel_rfl) (by simp [Tryd.ntmps72]) ?_
  refine SW_of_vc Tryd.mixed _ _ _ (by kernel_rfl) ?_
  simp (disch := omega) only [Tryd.ntmps72, Tryd.results72, go_sem, rr_eq]
  refine w1.callV 0 (viewL_cons_of (view_row) viewL_nil_of) ?_
  simp (disch := omega) only [Tryd.ntmps72, Tryd.results72, go_sem, rr_eq]
  exact Fin.val rfl
end Go.Sh

/-
  Squares of numbers, by their entries.
-/
namespace Go.Sh
set_option linter.unusedSimpArgs false
set_option linter.unusedVariables false
open Go Go.Proofs

/-- A square of numbers. -/
def SqI (n : Nat) (M : List (List Int)) : Prop := M.length = n ∧ ∀ i, i < n → (mrow M i).length = n
theorem SqI.zs (n : Nat) : SqI n (zs n) := ⟨zs_length n, fun i h => by rw [zs_row h]; simp⟩
theorem SqI.set {n : Nat} {M : List (List Int)} (h : SqI n M) (i c : Nat) (x : Int) : SqI n (mset M i c x) := ⟨by rw [mset_length, h.1], fun k hk => by rw [mset_row_length]; exact h.2 k hk⟩
theorem SqI.ext {n : Nat} {M M' : List (List Int)} (h : SqI n M) (h' : SqI n M') (e : ∀ x y, x < n → y < n → mat M x y = mat M' x y) : M = M' := by
  refine List.ext_getElem (h.1.trans h'.1.symm) fun i h1 h2 => ?_
  have hi : i < n := by rw [← h.1]; exact h1
  have e1 : M[i] = mrow M i := by simp [mrow, h1]
  have e2 : M'[i] = mrow M' i := by simp [mrow, h2]
  rw [e1, e2]
  exact list_ext ((h.2 i hi).trans (h'.2 i hi).symm) fun k hk => e i k hi (by rw [← h.2 i hi]; exact hk)
def genM (n : Nat) (f : Nat → Nat → Int) : List (List Int) := (List.range n).map fun x => (List.range n).map fun y => f x y
theorem genM_row {n : Nat} {f : Nat → Nat → Int} {x : Nat} (h : x < n) : mrow (genM n f) x = (List.range n).map fun y => f x y := by simp [mrow, genM, h]
theorem genM_sq (n : Nat) (f : Nat → Nat → Int) : SqI n (genM n f) := ⟨by simp [genM], fun i h => by rw [genM_row h]; simp⟩
theorem genM_at {n : Nat} {f : Nat → Nat → Int} {x y : Nat} (hx : x < n) (hy : y < n) : mat (genM n f) x y = f x y := by rw [mat, genM_row hx]; simp [hy]
def bint (b : Bool) : Int := if b = true then 1 else 0
end Go.Sh

/-
  Contracts: the rows and columns of some items. Of the program.
-/
namespace Go.Sh
set_option linter.unusedSimpArgs false
set_option linter.unusedVariables false
open Go Go.Proofs

/-- Strictly ascending numbers from 0 to n - 1, in the first k places. -/
def selTo (n : Int) (S : List Int) (k : Nat) : Prop := ∀ i, i < k → (0 ≤ S.getD i 0 ∧ S.getD i 0 ≤ n - 1) ∧ (0 < i → S.getD (i - 1) 0 < S.getD i 0)
def SelP (n : Int) (S : List Int) : Prop := selTo n S S.length
open Classical in
noncomputable def isSel (n : Int) (S : List Int) : Bool := decide (SelP n S)
open Classical in
theorem isSel_t {n : Int} {S : List Int} (h : SelP n S) : isSel n S = true := decide_eq_true h
open Classical in
theorem isSel_f {n : Int} {S : List Int} (h : ¬ SelP n S) : isSel n S = false := decide_eq_false h
theorem selTo_succ {n : Int} {S : List Int} {k : Nat} (h : selTo n S k) (h1 : 0 ≤ S.getD k 0 ∧ S.getD k 0 ≤ n - 1) (h2 : 0 < k → S.getD (k - 1) 0 < S.getD k 0) : selTo n S (k + 1) := by
  intro i hi
  rcases Nat.lt_succ_iff_lt_or_eq.1 hi with g | rfl
  · exact h i g
  · exact ⟨h1, h2⟩
theorem sel_not {n : Int} {S : List Int} {k : Nat} (hk : k < S.length) (h : ¬ ((0 ≤ S.getD k 0 ∧ S.getD k 0 ≤ n - 1) ∧ (0 < k → S.getD (k - 1) 0 < S.getD k 0))) : isSel n S = false := isSel_f fun g => h (g k hk)
theorem sel_len {n : Int} {S : List Int} (h : SelP n S) : ∀ i, i < S.length → (i : Int) ≤ S.getD i 0
  | 0, hi => by have := (h 0 hi).1.1; omega
  | i + 1, hi => by
    have := sel_len h i (by omega)
    have h2 := (h (i + 1) hi).2 (by omega)
    simp only [Nat.add_sub_cancel] at h2
    omega
theorem sel_length {n : Int} {S : List Int} (h : SelP n S) (hn : 0 ≤ n) : (S.length : Int) ≤ n := by
  by_cases h0 : S.length = 0
  · omega
  · have h1 := sel_len h (S.length - 1) (by omega)
    have h2 := (h (S.length - 1) (by omega)).1.2
    omega

def subM (M : List (List Int)) (S : List Int) : List (List Int) := genM S.length fun x y => mat M (S.getD x 0).toNat (S.getD y 0).toNat
theorem subM_length (M : List (List Int)) (S : List Int) : (subM M S).length = S.length := (genM_sq _ _).1
theorem subM_row {M : List (List Int)} {S : List Int} {i : Nat} (h : i < S.length) : (mrow (subM M S) i).length = S.length := (genM_sq _ _).2 i h

end Go.Sh

/-
  Contracts: the rows and columns of some items. Of the program and of the reference.
-/
namespace Go.Sh
set_option linter.unusedSimpArgs false
set_option linter.unusedVariables false
open Go Go.Proofs

open Classical in
noncomputable def sbm (M : List (List Int)) (S : List Int) : List (List Int) := if WM M ∧ SelP M.length S then subM M S else []
theorem sbm_t {M : List (List Int)} {S : List Int} (h : WM M ∧ SelP M.length S) : sbm M S = subM M S := by rw [sbm, if_pos h]
theorem sbm_f {M : List (List Int)} {S : List Int} (h : ¬ (WM M ∧ SelP M.length S)) : sbm M S = [] := by rw [sbm, if_neg h]

theorem fin_rows0 {b cap : Nat} {ex : Bool} {H : Heap} (h1 : H.map b = some ⟨[], false⟩) : Fin (MatRes (mi [])) (.own b 0 0 cap 1 ex) H := by
  have h : EntIn (hx [.mat b []] H.nb) (.mat b []) := .self
  refine fin_mat (R := mi []) ?_ (mi_vals _) rfl
  intro x hx1 hx2
  have : x = b := by simp [mi] at hx2; omega
  subst this
  rw [h1, matMap, if_pos rfl]; rfl
theorem take_snoc {α : Type} {R : List α} {l : List α} {a : α} (h : l = R.take l.length) (hl : l.length < R.length) (ha : R[l.length]? = some a) : l ++ [a] = R.take (l ++ [a]).length := by
  have e : (l ++ [a]).length = l.length + 1 := by simp
  rw [e, List.take_add_one, ha, ← h]; rfl

end Go.Sh

/-
  Contracts: the blocks of a partition. Of the reference.
-/
namespace Go.Sh
set_option linter.unusedSimpArgs false
set_option linter.unusedVariables false
open Go Go.Proofs

set_option maxHeartbeats 4000000 in
theorem Tryd.specBlocks_f (L : List Int) (hL : L.length ≤ 1048576) : FCall Tryd.prog 50 [ri L] (MatRes (mi (blocksOf L))) := by
  have w := Tryd.specIsPartition_ok L hL
  refine FCall.of_body Tryd.func50 rfl (by kernel_rfl) (by simp [Tryd.ntmps50]) ?_
  refine SW_of_vc2 (onD 7 [(30, 40), (35, 40), (37, 40), (30, 30)] []) Tryd.mixed _ _ _ (by kernel_rfl) ?_
  rcases Bool.eq_false_or_eq_true (isPart L) with hp1 | hp1
  case inr =>
    rw [hp1] at w
    rw [blocksOf_f hp1]
    simp (disch := omega) only [Tryd.ntmps50, Tryd.results50, go_sem]
    refine LoopW.loop (fun _ : Unit => ⟨ofL [(0, ri L), (3, .own 0 0 0 0 1 false), (4, .val (.int .i64 0))], hx [.blk 0 ⟨[], false⟩] 1⟩) (fun _ => True) (fun _ => 0) () trivial (Wk.ofX (by simp only [go_sem, ↓List.forall_mem_cons, List.not_mem_nil, false_implies, implies_true, and_true, true_and, and_self, ri_eq, Int.natCast_add, Int.cast_ofNat_Int]; try simp) (by simp [EntIn, hp, hmap]) (by simp [hp])) ?_
    rintro _ _
    refine SW_of_vc2 (onD 7 [(30, 40), (35, 40), (37, 40), (30, 30)] []) Tryd.mixed _ _ _ (by kernel_rfl) ?_
    by_cases h0 : 0 < L.length
    · simp (disch := omega) only [Tryd.ntmps50, Tryd.results50, go_sem]
      refine w.callV 0 (viewL_cons_of (view_rowL (by first | rfl | simp [marks_length, canon_length] | omega)) viewL_nil_of) ?_
      simp (disch := omega) only [Tryd.ntmps50, Tryd.results50, go_sem]
      exact fin_rows0 (by rw [hx_map, xmap_blk, if_pos rfl])
    · simp (disch := omega) only [Tryd.ntmps50, Tryd.results50, go_sem]
      exact fin_rows0 (by rw [hx_map, xmap_blk, if_pos rfl])
  obtain ⟨l1, l2⟩ := isPart_len hp1
  rw [hp1] at w
  rw [blocksOf_t hp1]
  simp (disch := omega) only [Tryd.ntmps50, Tryd.results50, go_sem]
  refine LoopW.loop (fun p : Nat × List (Nat × List SV) × Nat × Nat => ⟨ofL [(0, ri L), (3, .own p.2.2.1 0 p.2.1.length p.2.1.length 1 false), (4, .val (.int .i64 p.1))], hx [.blk p.2.2.1 ⟨outerN false p.2.1, false⟩, .rows false p.2.1] p.2.2.2⟩)
    (fun p => p.1 ≤ L.length ∧ NrOk p.2.2.1 p.2.2.2 p.2.1 ∧ p.2.1.map (·.2) = mi (blkTo L p.1)) (fun p => L.length - p.1) (0, [], 0, 1) ⟨by simp, .nil (by simp), rfl⟩ (Wk.ofX (by simp only [go_sem, ↓List.forall_mem_cons, List.not_mem_nil, false_implies, implies_true, and_true, true_and, and_self, ri_eq, Int.natCast_add, Int.cast_ofNat_Int]; try simp) (by simp [EntIn, outerN, hp, hmap]) (by simp [hp])) ?_
  rintro ⟨k, nr, ob, nb⟩ ⟨hk, ho, hrows⟩
  simp only at hk ho hrows
  have hob := ho.1
  have hnl := nr_len hrows
  have hol := outerN_length false nr
  have hot : (outerN false nr).take nr.length = outerN false nr := List.take_of_length_le (by omega)
  have hble := blkTo_le L k
  refine SW_of_vc2 (onD 7 [(30, 40), (35, 40), (37, 40), (30, 30)] []) Tryd.mixed _ _ _ (by kernel_rfl) ?_
  by_cases hlt : k < L.length
  · obtain ⟨x, hx, hxl⟩ := blk_at hp1 hlt
    have g1 := ints_get hlt
    rw [hx] at g1
    by_cases hnew : x = (blkTo L k).length
    · have hxe : x = nr.length := by omega
      subst hxe
      have hn := blkTo_new (L := L) (k := k) (by rw [hx, hnew])
      have hg2 : ∀ nm, (outerN false nr ++ [SV.own nm 0 0 0 1 false])[nr.length]? = some (.own nm 0 0 0 1 false) := fun nm => by rw [List.getElem?_append_right (by omega), hol]; simp
      have hs2 : ∀ nm nm', (outerN false nr ++ [SV.own nm' 0 0 0 1 false]).set nr.length (.own nm 0 1 1 1 false) = outerN false (nr ++ [(nm, ints [(k : Int)])]) := fun nm nm' => by
        rw [outerN_snoc, List.set_append_right _ _ (by omega), hol, Nat.sub_self]; rfl
      simp (disch := omega) only [Tryd.ntmps50, Tryd.results50, go_sem, g1]
      refine w.callV 0 (viewL_cons_of (view_rowL (by first | rfl | simp [marks_length, canon_length] | omega)) viewL_nil_of) ?_
      simp (disch := omega) only [Tryd.ntmps50, Tryd.results50, go_sem, g1, hol, hot, hg2, hs2, xdel_cut, List.length_append, List.length_singleton]
      refine ⟨(k + 1, nr ++ [(nb + 1 + 1 + 1 + 1, ints [(k : Int)])], nb + 1 + 1, nb + 1 + 1 + 1 + 1 + 1), ⟨hlt, ho.snoc (by omega) (by show nb ≤ nb + 1 + 1; omega) (by show nb + 1 + 1 + 1 + 1 ≠ nb + 1 + 1; omega) (by show nb + 1 + 1 + 1 + 1 < nb + 1 + 1 + 1 + 1 + 1; omega) (by show nb + 1 + 1 < nb + 1 + 1 + 1 + 1 + 1; omega), ?_⟩, by show L.length - (k + 1) < L.length - k; omega, ?_⟩
      · show (nr ++ _).map (·.2) = mi (blkTo L (k + 1))
        rw [hn, List.map_append, hrows, mi_snoc]; rfl
      · refine Wk.ofX (by simp only [go_sem, ↓List.forall_mem_cons, List.not_mem_nil, false_implies, implies_true, and_true, true_and, and_self, ri_eq, Int.natCast_add, Int.cast_ofNat_Int, List.length_append, List.length_singleton]; try simp) ?_ (Nat.le_refl _)
        simp only [List.forall_mem_cons]
        refine ⟨?_, ?_, by simp⟩
        · simp (disch := omega) only [EntIn, hx_map, xmap_blk, if_pos, if_neg, ↓reduceIte]
        · refine EntIn.snoc ?_ ?_
          · have hne : ∀ p ∈ nr, p.1 < nb ∧ p.1 ≠ ob := ho.2.1
            refine EntIn.skipR (EntIn.skipR (EntIn.skipR (EntIn.skipR (EntIn.skipC (EntIn.skipC (EntIn.selfR ho.2.2) ?_) ?_) ?_) ?_) ?_) ?_
            all_goals
              intro p hp
              have := hne p hp
              omega
          · simp (disch := omega) only [hx_map, xmap_blk, if_pos, if_neg, ↓reduceIte]; rfl
    · have hxn : x < nr.length := by omega
      obtain ⟨hr1, hr2⟩ := nr_row hrows hxn
      have hold := blkTo_old hx hr2
      have hgo := outerN_get (fl := false) hxn
      have hgr := xmap_rowsAt (fl := false) (l := []) ho.2.2 hxn
      have hlt' := ho.2.1 _ (nrAt_mem hxn)
      have hrle := blkTo_row L k x
      have hset := fun nm => outerN_set (fl := false) (nr := nr) (x := x) (nm := nm) (r := ints (mrow (blkTo L k) x ++ [(k : Int)])) rfl
      rw [hr1] at hgo hgr
      rw [ints_length, List.length_append, List.length_singleton] at hset
      rw [ints_length] at hgo
      generalize hnm : (nrAt nr x).1 = nm at *
      simp (disch := omega) only [Tryd.ntmps50, Tryd.results50, go_sem, g1]
      refine w.callV 0 (viewL_cons_of (view_rowL (by first | rfl | simp [marks_length, canon_length] | omega)) viewL_nil_of) ?_
      simp (disch := omega) only [Tryd.ntmps50, Tryd.results50, go_sem, g1, hol, hot, hgo, hgr, hset]
      refine ⟨(k + 1, nr.set x (nb + 1, ints (mrow (blkTo L k) x ++ [(k : Int)])), ob, nb + 1 + 1), ⟨hlt, ho.set (by omega) (by show nb + 1 < nb + 1 + 1; omega), ?_⟩, by show L.length - (k + 1) < L.length - k; omega, ?_⟩
      · show (nr.set x _).map (·.2) = mi (blkTo L (k + 1))
        rw [hold, List.map_set, hrows, mi_set]
      · refine Wk.ofX (by simp only [go_sem, ↓List.forall_mem_cons, List.not_mem_nil, false_implies, implies_true, and_true, true_and, and_self, ri_eq, Int.natCast_add, Int.cast_ofNat_Int, List.length_set]; try simp) ?_ (Nat.le_refl _)
        simp only [List.forall_mem_cons]
        refine ⟨?_, ?_, by simp⟩
        · simp (disch := omega) only [EntIn, hx_map, xmap_blk, if_pos, if_neg, ↓reduceIte]
        · refine EntIn.setN (fun j hj hne => ?_) (by rw [hx_map, xmap_blk, if_pos rfl])
          have h1 := ho.2.1 _ (nrAt_mem hj)
          have h2 := nr_ne ho.2.2 hj hxn hne
          rw [hnm] at h2
          rw [hx_map, xmap_blk, if_neg (by omega), xmap_blk, if_neg (by omega), xmap_blk, if_neg (by omega), xmap_cut, if_neg (by omega)]
          exact xmap_rowsAt ho.2.2 hj
  · have hkl : k = L.length := by omega
    rw [hkl] at hrows
    have := fin_rows (H := hx [Ent.blk ob { cells := outerN false nr, ex := false }, Ent.rows false nr] nb) (R := mi (blkTo L L.length)) ho
      (fun p hp => mi_vals (blkTo L L.length) _ (by rw [← hrows]; exact List.mem_map_of_mem hp)) (by rw [hx_map, xmap_blk, if_pos rfl])
      (EntIn.skipR (EntIn.selfR ho.2.2) (fun p hp => (ho.2.1 p hp).2)) hrows.symm
    simp (disch := omega) only [Tryd.ntmps50, Tryd.results50, go_sem]
    exact this
theorem Tryd.specBlocks_ok (L : List Int) (hL : L.length ≤ 1048576) : PCall Tryd.prog 50 [ri L] (rr (blocksOf L)) :=
  (Tryd.specBlocks_f L hL).mat.pcall 2 (fun _ _ h => h.viewI)
end Go.Sh

/-
  FormatPartition: contracts.
-/
namespace Go.Sh
set_option linter.unusedSimpArgs false
set_option linter.unusedVariables false
open Go Go.Proofs

theorem join_snoc (xs : List (List UInt8)) (y sep : List UInt8) (h : xs ≠ []) : Lib.join (xs ++ [y]) sep = Lib.join xs sep ++ sep ++ y := by
  cases xs with
  | nil => exact absurd rfl h
  | cons x r => rw [List.cons_append, Lib.join_cons, Lib.join_cons]; simp [Lib.joinTail]
def accP (M : List (List Int)) (i : Nat) : List UInt8 := Lib.join ((M.take i).map fmtB) [124]
theorem accP_zero (M : List (List Int)) : accP M 0 = [] := rfl
theorem accP_all (M : List (List Int)) : accP M M.length = Lib.join (M.map fmtB) [124] := by rw [accP, List.take_length]
theorem take_mrow {M : List (List Int)} {i : Nat} (h : i < M.length) : M.take (i + 1) = M.take i ++ [mrow M i] := by
  rw [List.take_add_one, List.getElem?_eq_getElem h]; simp [mrow, h]
theorem accP_one {M : List (List Int)} (h : 0 < M.length) : accP M 1 = fmtB (mrow M 0) := by
  rw [accP, take_mrow (i := 0) h, List.take_zero, List.nil_append, List.map_cons, List.map_nil, Lib.join_one]
theorem accP_succ {M : List (List Int)} {i : Nat} (h : i < M.length) (h0 : 0 < i) : accP M (i + 1) = accP M i ++ [124] ++ fmtB (mrow M i) := by
  rw [accP, take_mrow h, List.map_append, List.map_cons, List.map_nil, join_snoc _ _ _ (by
    intro e
    have := congrArg List.length e
    rw [List.length_map, List.length_take, List.length_nil] at this
    omega)]
  rfl
def accR (r : List Int) (k : Nat) : List UInt8 := fmtB (r.take k)
theorem accR_zero (r : List Int) : accR r 0 = [] := rfl
theorem accR_all (r : List Int) : accR r r.length = fmtB r := by rw [accR, List.take_length]
theorem accR_succ {r : List Int} {k : Nat} (h : k < r.length) : accR r (k + 1) = accR r k ++ Lib.itoa (r.getD k 0) := by
  rw [accR, accR, fmtB_eq, fmtB_eq, List.take_add_one, List.getElem?_eq_getElem h, List.map_append, List.flatten_append]
  simp [h]
/-- Few blocks, few items, small items. -/
structure BOk (M : List (List Int)) : Prop where
  ln : M.length ≤ 8
  row : ∀ i, (mrow M i).length ≤ 8
  it : ∀ i, i < M.length → ∀ y ∈ mrow M i, ∃ x : Nat, y = x ∧ x < 8
theorem BOk.of (L : List Int) : BOk (blocksOf L) := by
  cases h : isPart L with
  | false => rw [blocksOf_f h]; exact ⟨by simp, fun i => by simp [mrow], fun i hi => by simp at hi⟩
  | true =>
    obtain ⟨h1, h2, h3, h4⟩ := part_blk h
    rw [blocksOf_t h]
    refine ⟨h2, fun i => by have := blkTo_row L L.length i; omega, fun i hi => h4 _ ?_⟩
    simp [mrow, hi]
theorem BOk.accR_le {M : List (List Int)} (h : BOk M) {i : Nat} (hi : i < M.length) (k : Nat) : (accR (mrow M i) k).length ≤ 8 := by
  rw [accR, (fmtB_no fun y hy => h.it i hi y (List.mem_of_mem_take hy)).2, List.length_take]
  have := h.row i
  omega
theorem BOk.fmtB_le {M : List (List Int)} (h : BOk M) {i : Nat} (hi : i < M.length) : (fmtB (mrow M i)).length ≤ 8 := by
  rw [← accR_all]; exact h.accR_le hi _
theorem BOk.accP_le {M : List (List Int)} (h : BOk M) : ∀ {i : Nat}, i ≤ M.length → (accP M i).length ≤ 9 * i
  | 0, _ => by simp [accP_zero]
  | i + 1, hi => by
    have ih := h.accP_le (i := i) (by omega)
    have h8 := h.fmtB_le (i := i) (by omega)
    cases i with
    | zero => rw [accP_one (by omega)]; omega
    | succ i => rw [accP_succ (by omega) (by omega)]; simp; omega
theorem BOk.at {M : List (List Int)} (h : BOk M) {i k : Nat} (hi : i < M.length) (hk : k < (mrow M i).length) : ∃ x : Nat, (mrow M i).getD k 0 = x ∧ x < 8 := h.it i hi _ (by simp [hk])

set_option maxHeartbeats 4000000 in
theorem Tryd.specFP_ok (L : List Int) (hL : L.length ≤ 1048576) : PCall Tryd.prog 10 [ri L] (str (fmtP L)) := by
  have wB := Tryd.specBlocks_ok L hL
  have hB := BOk.of L
  have hfin : accP (blocksOf L) (blocksOf L).length = fmtP L := accP_all _
  refine FCall.pcall (R := fun r _ => r = str (fmtP L)) ?_ 0 (by rintro r H rfl; exact view_str)
  refine FCall.of_body Tryd.func10 rfl (by kernel_rfl) (by simp [Tryd.ntmps10]) ?_
  generalize blocksOf L = M at *
  have hln := hB.ln
  refine SW_of_vc Tryd.mixed _ _ _ (by kernel_rfl) ?_
  simp (disch := omega) only [Tryd.ntmps10, Tryd.results10, go_sem]
  refine wB.callV 0 (viewL_cons_of (view_row) viewL_nil_of) ?_
  simp (disch := omega) only [Tryd.ntmps10, Tryd.results10, go_sem]
  refine LoopW.loop (fun i : Nat => ⟨ofL [(3, rr M), (4, str (accP M i)), (5, .val (.int .i64 i))], hp [] 0⟩) (fun i => i ≤ M.length) (fun i => M.length - i) 0 (by omega) (Wk.of (by simp only [go_sem, ↓List.forall_mem_cons, List.not_mem_nil, false_implies, implies_true, and_true, true_and, and_self, ri_eq, Int.natCast_add, Int.cast_ofNat_Int, accP_zero]; try simp) rfl) ?_
  intro i hi
  refine SW_of_vc Tryd.mixed _ _ _ (by kernel_rfl) ?_
  have hal := hB.accP_le hi
  by_cases hlt : i < M.length
  · have hrow := hB.row i
    have hg := rows_get hlt
    generalize hrm : mrow M i = r at *
    by_cases h0 : i = 0
    · obtain ⟨pre, hpre⟩ : ∃ pre, accP M i = pre := ⟨_, rfl⟩
      have hnext : accP M (i + 1) = pre ++ accR r r.length := by
        subst h0
        rw [accP_one hlt, hrm, ← hpre, accP_zero, accR_all, List.nil_append]
      have hpl : pre.length ≤ 80 := by rw [← hpre]; omega
      simp (disch := omega) only [Tryd.ntmps10, Tryd.results10, go_sem, rr_eq, hg]
      refine LoopW.loop (fun k : Nat => ⟨ofL [(3, rr M), (4, str (pre ++ accR r k)), (5, .val (.int .i64 i)), (6, .val (.int .i64 k))], hp [] 0⟩) (fun k => k ≤ r.length) (fun k => r.length - k) 0 (by omega) (Wk.of (by simp only [go_sem, ↓List.forall_mem_cons, List.not_mem_nil, false_implies, implies_true, and_true, true_and, and_self, ri_eq, Int.natCast_add, Int.cast_ofNat_Int, rr_eq, hpre, accR_zero, List.append_nil]; try simp) rfl) ?_
      intro k hk
      refine SW_of_vc Tryd.mixed _ _ _ (by kernel_rfl) ?_
      have hrl := hB.accR_le hlt k
      rw [hrm] at hrl
      by_cases hkl : k < r.length
      · obtain ⟨x, hx, hx8⟩ := hB.at hlt (k := k) (by rw [hrm]; exact hkl)
        rw [hrm] at hx
        have g1 := ints_get hkl
        have hw := Tryd.specFI_ok (r.getD k 0) (by omega) (by omega)
        have hil := itoa_le (n := r.getD k 0) (by omega) (by omega)
        simp (disch := omega) only [Tryd.ntmps10, Tryd.results10, go_sem, rr_eq, hg, g1]
        refine hw.callV 0 (viewL_cons_of (view_int) viewL_nil_of) ?_
        simp (disch := omega) only [Tryd.ntmps10, Tryd.results10, go_sem, rr_eq, List.length_append]
        exact ⟨k + 1, by omega, by omega, Wk.of (by simp only [go_sem, ↓List.forall_mem_cons, List.not_mem_nil, false_implies, implies_true, and_true, true_and, and_self, ri_eq, Int.natCast_add, Int.cast_ofNat_Int, rr_eq, accR_succ hkl, List.append_assoc]; try simp) rfl⟩
      · obtain rfl : k = r.length := by omega
        simp (disch := omega) only [Tryd.ntmps10, Tryd.results10, go_sem, rr_eq, hg]
        exact ⟨i + 1, by omega, by omega, Wk.of (by simp only [go_sem, ↓List.forall_mem_cons, List.not_mem_nil, false_implies, implies_true, and_true, true_and, and_self, ri_eq, Int.natCast_add, Int.cast_ofNat_Int, rr_eq, hnext]; try simp) rfl⟩
    · obtain ⟨pre, hpre⟩ : ∃ pre, accP M i ++ [124] = pre := ⟨_, rfl⟩
      have hnext : accP M (i + 1) = pre ++ accR r r.length := by
        rw [accP_succ hlt (by omega), hrm, ← hpre, accR_all]
      have hpl : pre.length ≤ 80 := by rw [← hpre]; simp; omega
      simp (disch := omega) only [Tryd.ntmps10, Tryd.results10, go_sem, rr_eq, hg]
      refine LoopW.loop (fun k : Nat => ⟨ofL [(3, rr M), (4, str (pre ++ accR r k)), (5, .val (.int .i64 i)), (6, .val (.int .i64 k))], hp [] 0⟩) (fun k => k ≤ r.length) (fun k => r.length - k) 0 (by omega) (Wk.of (by simp only [go_sem, ↓List.forall_mem_cons, List.not_mem_nil, false_implies, implies_true, and_true, true_and, and_self, ri_eq, Int.natCast_add, Int.cast_ofNat_Int, rr_eq, hpre, accR_zero, List.append_nil]; try simp) rfl) ?_
      intro k hk
      refine SW_of_vc Tryd.mixed _ _ _ (by kernel_rfl) ?_
      have hrl := hB.accR_le hlt k
      rw [hrm] at hrl
      by_cases hkl : k < r.length
      · obtain ⟨x, hx, hx8⟩ := hB.at hlt (k := k) (by rw [hrm]; exact hkl)
        rw [hrm] at hx
        have g1 := ints_get hkl
        have hw := Tryd.specFI_ok (r.getD k 0) (by omega) (by omega)
        have hil := itoa_le (n := r.getD k 0) (by omega) (by omega)
        simp (disch := omega) only [Tryd.ntmps10, Tryd.results10, go_sem, rr_eq, hg, g1]
        refine hw.callV 0 (viewL_cons_of (view_int) viewL_nil_of) ?_
        simp (disch := omega) only [Tryd.ntmps10, Tryd.results10, go_sem, rr_eq, List.length_append]
        exact ⟨k + 1, by omega, by omega, Wk.of (by simp only [go_sem, ↓List.forall_mem_cons, List.not_mem_nil, false_implies, implies_true, and_true, true_and, and_self, ri_eq, Int.natCast_add, Int.cast_ofNat_Int, rr_eq, accR_succ hkl, List.append_assoc]; try simp) rfl⟩
      · obtain rfl : k = r.length := by omega
        simp (disch := omega) only [Tryd.ntmps10, Tryd.results10, go_sem, rr_eq, hg]
        exact ⟨i + 1, by omega, by omega, Wk.of (by simp only [go_sem, ↓List.forall_mem_cons, List.not_mem_nil, false_implies, implies_true, and_true, true_and, and_self, ri_eq, Int.natCast_add, Int.cast_ofNat_Int, rr_eq, hnext]; try simp) rfl⟩
  · obtain rfl : i = M.length := by omega
    simp (disch := omega) only [Tryd.ntmps10, Tryd.results10, go_sem, rr_eq]
    exact Fin.val (by rw [hfin])
end Go.Sh

/-
  FormatMatrix: contracts; the law walked.
-/
namespace Go.Sh
set_option linter.unusedSimpArgs false
set_option linter.unusedVariables false
open Go Go.Proofs

/-- The size, then what stands right of the diagonal in the first i rows. -/
def up (M : List (List Int)) : Nat → List Int
  | 0 => [(M.length : Int)]
  | i + 1 => up M i ++ (mrow M i).drop (i + 1)
def upk (M : List (List Int)) (i k : Nat) : List Int := up M i ++ ((mrow M i).take k).drop (i + 1)
theorem upk_start (M : List (List Int)) (i : Nat) : upk M i (i + 1) = up M i := by
  have e : ((mrow M i).take (i + 1)).drop (i + 1) = [] := List.drop_eq_nil_of_le (by rw [List.length_take]; omega)
  rw [upk, e, List.append_nil]
theorem upk_succ {M : List (List Int)} {i k : Nat} (h : i + 1 ≤ k) (hk : k < (mrow M i).length) : upk M i (k + 1) = upk M i k ++ [(mrow M i).getD k 0] := by
  have e : (mrow M i).take (k + 1) = (mrow M i).take k ++ [(mrow M i).getD k 0] := by
    generalize mrow M i = r at *
    rw [List.take_add_one, List.getElem?_eq_getElem hk]; simp [List.getD, hk]
  rw [upk, upk, e, List.drop_append_of_le_length (by rw [List.length_take]; omega), List.append_assoc]
theorem upk_all (M : List (List Int)) (i : Nat) : upk M i (mrow M i).length = up M (i + 1) := by rw [upk, List.take_length]; rfl
def txt (l : List Int) : List UInt8 := Lib.join (l.map Lib.itoa) [32]
theorem txt_snoc {l : List Int} (x : Int) (h : l ≠ []) : txt (l ++ [x]) = txt l ++ [32] ++ Lib.itoa x := by
  rw [txt, List.map_append, List.map_cons, List.map_nil, join_snoc _ _ _ (by simpa using h)]; rfl
theorem up_ne (M : List (List Int)) : ∀ i, up M i ≠ []
  | 0 => by simp [up]
  | i + 1 => by rw [up]; simp [up_ne M i]
theorem upk_ne (M : List (List Int)) (i k : Nat) : upk M i k ≠ [] := by rw [upk]; simp [up_ne M i]
theorem itoa_k {x : Int} (h : -1000 ≤ x ∧ x ≤ 1000) : (Lib.itoa x).length ≤ 502 := by
  rw [Lib.itoa]; split
  · have := decDigits_le x.natAbs
    simp; omega
  · have := decDigits_le x.toNat
    omega
theorem txt_le : ∀ {l : List Int}, (∀ y ∈ l, -1000 ≤ y ∧ y ≤ 1000) → (txt l).length ≤ 503 * l.length := by
  intro l
  have h2 : ∀ r : List Int, (∀ y ∈ r, -1000 ≤ y ∧ y ≤ 1000) → (Lib.joinTail [32] (r.map Lib.itoa)).length ≤ 503 * r.length := by
    intro r
    induction r with
    | nil => intro _; simp [Lib.joinTail]
    | cons y r ih =>
      intro h
      have := ih fun z hz => h z (by simp [hz])
      have h1 := itoa_k (h y (by simp))
      simp only [Lib.joinTail, List.map_cons, List.flatten_cons, List.length_append, List.length_cons, List.length_nil] at this ⊢
      omega
  cases l with
  | nil => intro _; simp [txt, Lib.join_nil]
  | cons x r =>
    intro h
    rw [txt, List.map_cons, Lib.join_cons]
    have h1 := itoa_k (h x (by simp))
    have := h2 r fun z hz => h z (by simp [hz])
    simp only [List.length_append, List.length_cons]
    omega
theorem row_it {M : List (List Int)} (h : WM M) {i : Nat} (hi : i < M.length) : ∀ y ∈ mrow M i, -1000 ≤ y ∧ y ≤ 1000 := by
  intro y hy
  obtain ⟨k, hk, rfl⟩ := List.getElem_of_mem hy
  have hl := h.2.1 i hi
  have := (h.2.2.1 i k hi (by omega)).1
  have e : mat M i k = (mrow M i)[k] := by rw [mat]; simp [hk]
  rw [e] at this; exact this
theorem up_it {M : List (List Int)} (h : WM M) : ∀ i, i ≤ M.length → (∀ y ∈ up M i, -1000 ≤ y ∧ y ≤ 1000) ∧ (up M i).length ≤ 1 + 8 * i
  | 0, _ => ⟨by intro y hy; simp [up] at hy; have := h.1; omega, by simp [up]⟩
  | i + 1, hi => by
    obtain ⟨h1, h2⟩ := up_it h i (by omega)
    have hl := h.2.1 i (by omega)
    have := h.1
    refine ⟨fun y hy => ?_, by rw [up, List.length_append, List.length_drop]; omega⟩
    rw [up] at hy
    rcases List.mem_append.1 hy with hy | hy
    · exact h1 y hy
    · exact row_it h (by omega) y (List.mem_of_mem_drop hy)
theorem upk_it {M : List (List Int)} (h : WM M) {i : Nat} (hi : i < M.length) (k : Nat) : (∀ y ∈ upk M i k, -1000 ≤ y ∧ y ≤ 1000) ∧ (upk M i k).length ≤ 9 + 8 * i := by
  obtain ⟨h1, h2⟩ := up_it h i (by omega)
  have hl := h.2.1 i (by omega)
  have := h.1
  refine ⟨fun y hy => ?_, by rw [upk, List.length_append, List.length_drop, List.length_take]; omega⟩
  rw [upk] at hy
  rcases List.mem_append.1 hy with hy | hy
  · exact h1 y hy
  · exact row_it h hi y (List.mem_of_mem_take (List.mem_of_mem_drop hy))
noncomputable def fmtM (M : List (List Int)) : List UInt8 := if isWM M = true then txt (up M M.length) else []
open Classical in
theorem isWM_cases (M : List (List Int)) : (WM M ∧ isWM M = true) ∨ isWM M = false := by
  by_cases h : WM M
  · exact .inl ⟨h, isWM_t h⟩
  · exact .inr (isWM_f h)
set_option maxHeartbeats 4000000 in
theorem Tryd.specFM_ok (M : List (List Int)) (hM : M.length ≤ 1048576) (hR : ∀ i, i < M.length → (mrow M i).length ≤ 1048576) : PCall Tryd.prog 20 [rr M] (str (fmtM M)) := by
  have w := Tryd.specIsWM_ok M hM hR
  refine FCall.pcall (R := fun r _ => r = str (fmtM M)) ?_ 0 (by rintro r H rfl; exact view_str)
  refine FCall.of_body Tryd.func20 rfl (by kernel_rfl) (by simp [Tryd.ntmps20]) ?_
  refine SW_of_vc Tryd.mixed _ _ _ (by kernel_rfl) ?_
  rcases isWM_cases M with ⟨hW, he⟩ | he
  case inr =>
    rw [he] at w
    simp (disch := omega) only [Tryd.ntmps20, Tryd.results20, go_sem, rr_eq]
    refine w.callV 0 (viewL_cons_of (view_row) viewL_nil_of) ?_
    simp (disch := omega) only [Tryd.ntmps20, Tryd.results20, go_sem, rr_eq]
    exact Fin.val (by rw [fmtM, he]; rfl)
  rw [he] at w
  have hl8 := hW.1
  have hw0 := Tryd.specFI_ok (M.length : Int) (by omega) (by omega)
  have h0 : txt (up M 0) = Lib.itoa M.length := by rw [txt, up, List.map_cons, List.map_nil, Lib.join_one]
  simp (disch := omega) only [Tryd.ntmps20, Tryd.results20, go_sem, rr_eq]
  refine w.callV 0 (viewL_cons_of (view_row) viewL_nil_of) ?_
  simp (disch := omega) only [Tryd.ntmps20, Tryd.results20, go_sem, rr_eq]
  refine hw0.callV 0 (viewL_cons_of (view_int) viewL_nil_of) ?_
  simp (disch := omega) only [Tryd.ntmps20, Tryd.results20, go_sem, rr_eq]
  refine LoopW.loop (fun i : Nat => ⟨ofL [(0, rr M), (3, str (txt (up M i))), (4, .val (.int .i64 i))], hp [] 0⟩) (fun i => i ≤ M.length) (fun i => M.length - i) 0 (by omega) (Wk.of (by simp only [go_sem, ↓List.forall_mem_cons, List.not_mem_nil, false_implies, implies_true, and_true, true_and, and_self, ri_eq, Int.natCast_add, Int.cast_ofNat_Int, rr_eq, h0]; try simp) rfl) ?_
  intro i hi
  refine SW_of_vc Tryd.mixed _ _ _ (by kernel_rfl) ?_
  by_cases hlt : i < M.length
  · have hg := rows_get hlt
    have hrl := hW.2.1 i hlt
    simp (disch := omega) only [Tryd.ntmps20, Tryd.results20, go_sem, rr_eq]
    refine LoopW.loop (fun k : Nat => ⟨ofL [(0, rr M), (3, str (txt (upk M i k))), (4, .val (.int .i64 i)), (5, .val (.int .i64 k))], hp [] 0⟩) (fun k => i + 1 ≤ k ∧ k ≤ M.length) (fun k => M.length - k) (i + 1) (by omega) (Wk.of (by simp only [go_sem, ↓List.forall_mem_cons, List.not_mem_nil, false_implies, implies_true, and_true, true_and, and_self, ri_eq, Int.natCast_add, Int.cast_ofNat_Int, rr_eq, upk_start]; try simp) rfl) ?_
    intro k ⟨hk1, hk⟩
    refine SW_of_vc Tryd.mixed _ _ _ (by kernel_rfl) ?_
    obtain ⟨u1, u2⟩ := upk_it hW hlt k
    have u3 := txt_le u1
    by_cases hkl : k < M.length
    · have hsu := upk_succ hk1 (by omega : k < (mrow M i).length)
      have hsn := txt_snoc ((mrow M i).getD k 0) (upk_ne M i k)
      rw [← hsu] at hsn
      have hit := row_it hW hlt ((mrow M i).getD k 0) (by simp [show k < (mrow M i).length by omega])
      have hw := Tryd.specFI_ok ((mrow M i).getD k 0) (by omega) (by omega)
      have hil := itoa_k hit
      have g1 := ints_get (L := mrow M i) (k := k) (by omega)
      rw [hrl] at hg
      generalize mrow M i = r at *
      simp (disch := omega) only [Tryd.ntmps20, Tryd.results20, go_sem, rr_eq, hg, g1, List.length_append, List.length_singleton, List.length_cons, List.length_nil]
      refine hw.callV 0 (viewL_cons_of (view_int) viewL_nil_of) ?_
      simp (disch := omega) only [Tryd.ntmps20, Tryd.results20, go_sem, rr_eq, hg, g1, List.length_append, List.length_singleton, List.length_cons, List.length_nil]
      exact ⟨k + 1, by omega, by omega, Wk.of (by simp only [go_sem, ↓List.forall_mem_cons, List.not_mem_nil, false_implies, implies_true, and_true, true_and, and_self, ri_eq, Int.natCast_add, Int.cast_ofNat_Int, rr_eq, hsn, List.append_assoc]; try simp) rfl⟩
    · obtain rfl : k = M.length := by omega
      have hall := upk_all M i
      rw [hrl] at hall
      simp (disch := omega) only [Tryd.ntmps20, Tryd.results20, go_sem, rr_eq]
      exact ⟨i + 1, by omega, by omega, Wk.of (by simp only [go_sem, ↓List.forall_mem_cons, List.not_mem_nil, false_implies, implies_true, and_true, true_and, and_self, ri_eq, Int.natCast_add, Int.cast_ofNat_Int, rr_eq, hall]; try simp) rfl⟩
  · obtain rfl : i = M.length := by omega
    simp (disch := omega) only [Tryd.ntmps20, Tryd.results20, go_sem, rr_eq]
    exact Fin.val (by rw [fmtM, he]; rfl)
end Go.Sh

/-
  Numbers read as text: plain law.
-/
namespace Go.Sh
set_option linter.unusedSimpArgs false
set_option linter.unusedVariables false
open Go Go.Proofs

def dgt (c : UInt8) : Bool := decide (48 ≤ c.toNat ∧ c.toNat ≤ 57)
def dstep (a : Nat) (c : UInt8) : Nat := if dgt c = true then a * 10 + (c.toNat - 48) else a
def dval (s : List UInt8) : Nat := s.foldl dstep 0
def dcnt (s : List UInt8) : Nat := s.countP dgt
def nval (s : List UInt8) : Int := if s.head? = some 45 then -(dval s : Int) else dval s
/-- The number of at most 9 digits that a text spells. -/
def pint (s : List UInt8) : Option Int := if dcnt s ≤ 9 ∧ s.length ≤ 10 ∧ Lib.itoa (nval s) = s then some (nval s) else none

theorem dgt_of {k : Nat} (h : k < 10) : dgt (UInt8.ofNat (48 + k)) = true := by
  have e : (UInt8.ofNat (48 + k)).toNat = 48 + k := by rw [UInt8.toNat_ofNat']; omega
  simp only [dgt, e]; simp; omega
theorem dstep_of {a k : Nat} (h : k < 10) : dstep a (UInt8.ofNat (48 + k)) = a * 10 + k := by
  have e : (UInt8.ofNat (48 + k)).toNat = 48 + k := by rw [UInt8.toNat_ofNat']; omega
  rw [dstep, if_pos (dgt_of h), e]; omega
theorem decDigits_facts (u : Nat) : (∀ c ∈ Lib.decDigits u, dgt c = true) ∧ dval (Lib.decDigits u) = u ∧ Lib.decDigits u ≠ [] := by
  induction u using Nat.strongRecOn with
  | _ u ih =>
    by_cases h : u < 10
    · rw [Lib.decDigits, dif_pos h]
      refine ⟨fun c hc => ?_, ?_, by simp⟩
      · rw [List.mem_singleton] at hc; rw [hc]; exact dgt_of h
      · show dstep 0 _ = u
        rw [dstep_of h]; omega
    · rw [Lib.decDigits, dif_neg h]
      obtain ⟨h1, h2, h3⟩ := ih (u / 10) (by omega)
      refine ⟨fun c hc => ?_, ?_, by simp⟩
      · rcases List.mem_append.1 hc with hc | hc
        · exact h1 c hc
        · rw [List.mem_singleton] at hc; rw [hc]; exact dgt_of (by omega)
      · rw [dval, List.foldl_append, ← dval, h2]
        show dstep (u / 10) _ = u
        rw [dstep_of (by omega)]; omega
theorem dval_minus (s : List UInt8) : dval (45 :: s) = dval s := by
  show List.foldl dstep (dstep 0 45) s = _
  rw [show dstep 0 45 = 0 by decide]; rfl
theorem head_dgt {s : List UInt8} (h : ∀ c ∈ s, dgt c = true) : s.head? ≠ some 45 := by
  cases s with
  | nil => simp
  | cons c r =>
    intro e
    have := h c (by simp)
    simp only [List.head?_cons, Option.some.injEq] at e
    rw [e] at this
    exact absurd this (by decide)
theorem nval_itoa (n : Int) : nval (Lib.itoa n) = n := by
  unfold Lib.itoa
  split
  · obtain ⟨h1, h2, h3⟩ := decDigits_facts n.natAbs
    rw [nval, if_pos List.head?_cons, dval_minus, h2]; omega
  · obtain ⟨h1, h2, h3⟩ := decDigits_facts n.toNat
    rw [nval, if_neg (head_dgt h1), h2]; omega
theorem itoa_inj {n m : Int} (h : Lib.itoa n = Lib.itoa m) : n = m := by rw [← nval_itoa n, h, nval_itoa]
theorem dval_lt_aux : ∀ (s : List UInt8) (a : Nat), List.foldl dstep a s < (a + 1) * 10 ^ dcnt s
  | [], a => by simp [dcnt]
  | c :: r, a => by
    have ih := dval_lt_aux r (dstep a c)
    rw [List.foldl_cons]
    refine Nat.lt_of_lt_of_le ih ?_
    unfold dstep dcnt
    rw [List.countP_cons]
    split
    · rename_i h
      have hc : c.toNat ≤ 57 := by
        simp only [dgt, decide_eq_true_eq] at h
        exact h.2
      show _ ≤ (a + 1) * 10 ^ (List.countP dgt r + 1)
      rw [Nat.pow_succ, ← Nat.mul_assoc, Nat.mul_right_comm]
      exact Nat.mul_le_mul_right _ (by omega)
    · exact Nat.mul_le_mul_left _ (Nat.pow_le_pow_right (by omega) (by omega))
theorem dval_lt (s : List UInt8) : dval s < 10 ^ dcnt s := by
  have := dval_lt_aux s 0
  simpa [dval] using this
theorem pow10_le {k m : Nat} (h : k ≤ m) : 10 ^ k ≤ 10 ^ m := Nat.pow_le_pow_right (by omega) h
theorem pint_some {s : List UInt8} {n : Int} (h : pint s = some n) : Lib.itoa n = s ∧ -999999999 ≤ n ∧ n ≤ 999999999 := by
  rw [pint] at h
  split at h
  · rename_i hh
    obtain ⟨h1, h2, h3⟩ := hh
    obtain rfl := Option.some.inj h
    refine ⟨h3, ?_⟩
    have h4 := dval_lt s
    have h5 := pow10_le h1
    unfold nval
    split <;> omega
  · cases h
theorem nDigits_le {u k : Nat} (hk : 1 ≤ k) (h : u < 10 ^ k) : Lib.nDigits u ≤ k := by
  induction k generalizing u with
  | zero => omega
  | succ k ih =>
    by_cases h1 : u < 10
    · rw [Lib.nDigits_small h1]; omega
    · rw [Lib.nDigits_big h1]
      rw [Nat.pow_succ] at h
      cases k with
      | zero => simp at h; omega
      | succ k =>
        have := ih (u := u / 10) (by omega) (by omega)
        omega
theorem dcnt_dgs {s : List UInt8} (h : ∀ c ∈ s, dgt c = true) : dcnt s = s.length := List.countP_eq_length.2 h
theorem itoa_shape (n : Int) (h0 : -999999999 ≤ n) (h1 : n ≤ 999999999) : dcnt (Lib.itoa n) ≤ 9 ∧ (Lib.itoa n).length ≤ 10 := by
  unfold Lib.itoa
  split
  · obtain ⟨g1, g2, g3⟩ := decDigits_facts n.natAbs
    have hl := Lib.decDigits_length n.natAbs
    have h9 := nDigits_le (u := n.natAbs) (k := 9) (by omega) (by omega)
    have hc := dcnt_dgs g1
    refine ⟨?_, ?_⟩
    · rw [dcnt, List.countP_cons, ← dcnt, hc]
      have : dgt 45 = false := by decide
      rw [this]; simp; omega
    · rw [List.length_cons]; omega
  · obtain ⟨g1, g2, g3⟩ := decDigits_facts n.toNat
    have hl := Lib.decDigits_length n.toNat
    have h9 := nDigits_le (u := n.toNat) (k := 9) (by omega) (by omega)
    have hc := dcnt_dgs g1
    omega
theorem pint_itoa {n : Int} (h0 : -999999999 ≤ n) (h1 : n ≤ 999999999) : pint (Lib.itoa n) = some n := by
  obtain ⟨a, b⟩ := itoa_shape n h0 h1
  rw [pint, nval_itoa, if_pos ⟨a, b, rfl⟩]
theorem pint_of {s : List UInt8} {n : Int} (h : Lib.itoa n = s) (h0 : -999999999 ≤ n) (h1 : n ≤ 999999999) : pint s = some n := by rw [← h]; exact pint_itoa h0 h1
theorem parse_dgs : ∀ (l : List UInt8) (a : Nat), (∀ c ∈ l, dgt c = true) → (a + 1) * 10 ^ l.length ≤ 1000000000 → Lib.parseUint10 a l = .ok (List.foldl dstep a l)
  | [], a, _, _ => rfl
  | c :: r, a, h, hb => by
    have hc := h c (by simp)
    have hc' := hc
    simp only [dgt, decide_eq_true_eq] at hc'
    have hp : 1 ≤ 10 ^ r.length := Nat.one_le_pow _ _ (by omega)
    rw [List.length_cons, Nat.pow_succ] at hb
    have hb2 : ((a * 10 + (c.toNat - 48)) + 1) * 10 ^ r.length ≤ 1000000000 := by
      refine Nat.le_trans ?_ hb
      rw [Nat.mul_comm (10 ^ r.length) 10, ← Nat.mul_assoc]
      exact Nat.mul_le_mul_right _ (by omega)
    have hs : a * 10 + (c.toNat - 48) + 1 ≤ 1000000000 := Nat.le_trans (Nat.le_mul_of_pos_right _ hp) hb2
    rw [Lib.parseUint10, if_pos hc', if_neg (by omega), if_neg (by omega), parse_dgs r _ (fun d hd => h d (by simp [hd])) hb2, List.foldl_cons]
    congr 2
    rw [dstep, if_pos hc]
theorem parseMag_dec (u : Nat) (h : u ≤ 999999999) : Lib.parseMag (Lib.decDigits u) = .ok u := by
  obtain ⟨g1, g2, g3⟩ := decDigits_facts u
  have hl := Lib.decDigits_length u
  have h9 := nDigits_le (u := u) (k := 9) (by omega) (by omega)
  rw [Lib.parseMag, if_neg g3, parse_dgs _ 0 g1 (by
    have := pow10_le (k := (Lib.decDigits u).length) (m := 9) (by omega)
    omega)]
  show Lib.NumEnd.ok (dval _) = _
  rw [g2]
theorem atoiAll_itoa {n : Int} (h0 : -999999999 ≤ n) (h1 : n ≤ 999999999) : Lib.atoiAll (Lib.itoa n) = .ok n := by
  unfold Lib.itoa
  split
  · show (match Lib.parseMag (if (45 : UInt8).toNat = 43 ∨ (45 : UInt8).toNat = 45 then Lib.decDigits n.natAbs else _) with | .syntax => _ | .range => _ | .ok u => _) = _
    rw [if_pos (by decide), parseMag_dec _ (by omega)]
    show (if ¬ (45 : UInt8).toNat = 45 ∧ _ then _ else if (45 : UInt8).toNat = 45 ∧ 9223372036854775808 < n.natAbs then _ else Lib.NumEnd.ok (if (45 : UInt8).toNat = 45 then -(n.natAbs : Int) else _)) = _
    rw [if_neg (by simp), if_neg (by omega), if_pos (by decide)]
    congr 1; omega
  · obtain ⟨g1, g2, g3⟩ := decDigits_facts n.toNat
    have hm := parseMag_dec n.toNat (by omega)
    generalize Lib.decDigits n.toNat = l at *
    cases l with
    | nil => exact absurd rfl g3
    | cons c r =>
      have hc := g1 c (by simp)
      simp only [dgt, decide_eq_true_eq] at hc
      unfold Lib.atoiAll
      simp only
      rw [if_neg (by omega), hm]
      simp only
      rw [if_neg (by omega), if_neg (by omega), if_neg (by omega)]
      congr 1; omega
theorem pint_nil : pint [] = none := by
  rw [pint, if_neg]
  rintro ⟨_, _, h⟩
  have e : Lib.itoa (nval []) = [48] := by
    show Lib.itoa 0 = _
    rw [Lib.itoa, if_neg (by decide), Lib.decDigits, dif_pos (by decide)]; decide
  rw [e] at h; cases h
/-- What a program that reads with Atoi finds. -/
theorem pint_none {s : List UInt8} (h : ∀ n, Lib.atoiAll s = .ok n → Lib.itoa n = s → -999999999 ≤ n → n ≤ 999999999 → False) : pint s = none := by
  cases hp : pint s with
  | none => rfl
  | some n =>
    obtain ⟨h1, h2, h3⟩ := pint_some hp
    exact (h n (by rw [← h1]; exact atoiAll_itoa h2 h3) h1 h2 h3).elim
end Go.Sh

/-
  Matrices read back from their text: plain law.
-/
namespace Go.Sh
set_option linter.unusedSimpArgs false
set_option linter.unusedVariables false
open Go Go.Proofs

/-! ### The pieces of a text of numbers -/
theorem itoa_no {n : Int} : (32 : UInt8) ∉ Lib.itoa n := by
  have key : ∀ u, (32 : UInt8) ∉ Lib.decDigits u := fun u hm => by
    have := (decDigits_facts u).1 32 hm
    exact absurd this (by decide)
  unfold Lib.itoa
  split
  · intro hm
    rcases List.mem_cons.1 hm with e | hm
    · exact absurd e (by decide)
    · exact key _ hm
  · exact key _
theorem txt_cut {l : List Int} (h : l ≠ []) : cutL 32 (txt l) = l.map Lib.itoa := by
  cases l with
  | nil => exact absurd rfl h
  | cons x r =>
    rw [txt, List.map_cons]
    refine cutL_join fun q hq => ?_
    rw [← List.map_cons] at hq
    obtain ⟨y, _, rfl⟩ := List.mem_map.1 hq
    exact itoa_no
/-- The numbers that the pieces spell, 0 for those that spell none. -/
def vals (P : List (List UInt8)) : List Int := P.map fun p => (pint p).getD 0
theorem vals_length (P : List (List UInt8)) : (vals P).length = P.length := by simp [vals]
theorem vals_at {P : List (List UInt8)} {i : Nat} (h : i < P.length) : (vals P).getD i 0 = (pint (P.getD i [])).getD 0 := by simp [vals, h]

/-! ### Places above the diagonal -/
def off (n : Nat) : Nat → Nat
  | 0 => 0
  | i + 1 => off n i + (n - 1 - i)
theorem off_mono (n : Nat) {a b : Nat} (h : a ≤ b) : off n a ≤ off n b := by
  induction b with
  | zero => obtain rfl : a = 0 := by omega
            exact Nat.le_refl _
  | succ b ih =>
    by_cases e : a = b + 1
    · rw [e]; exact Nat.le_refl _
    · exact Nat.le_trans (ih (by omega)) (Nat.le_add_right _ _)
def pos (n i k : Nat) : Nat := off n i + (k - i - 1)
/-- The square of which l is what stands above the diagonal. -/
def pmM (n : Nat) (l : List Int) : List (List Int) := genM n fun a b => if a = b then 0 else l.getD (pos n (min a b) (max a b)) 0
theorem up_length {M : List (List Int)} (h : WM M) : ∀ i, i ≤ M.length → (up M i).length = 1 + off M.length i
  | 0, _ => rfl
  | i + 1, hi => by
    rw [up, List.length_append, up_length h i (by omega), List.length_drop, h.2.1 i (by omega), off]; omega
theorem up_get {M : List (List Int)} (h : WM M) {i k : Nat} (hik : i < k) (hk : k < M.length) : ∀ j, i < j → j ≤ M.length → (up M j).getD (1 + pos M.length i k) 0 = mat M i k
  | 0, h0, _ => by omega
  | j + 1, hj, hjl => by
    have hl := up_length h j (by omega)
    rw [up]
    by_cases e : j = i
    · subst e
      rw [List.getD_eq_getElem?_getD, List.getElem?_append_right (by rw [hl, pos]; omega), hl, pos, show 1 + (off M.length j + (k - j - 1)) - (1 + off M.length j) = k - j - 1 by omega, List.getElem?_drop, show j + 1 + (k - j - 1) = k by omega, mat, List.getD_eq_getElem?_getD]
    · have ih := up_get h hik hk j (by omega) (by omega)
      have h2 := off_mono M.length (a := i + 1) (b := j) (by omega)
      rw [off] at h2
      rw [List.getD_eq_getElem?_getD, List.getElem?_append_left (by rw [hl, pos]; omega), ← List.getD_eq_getElem?_getD]
      exact ih
theorem pmM_up {M : List (List Int)} (h : WM M) : pmM M.length (up M M.length).tail = M := by
  refine SqI.ext (n := M.length) (genM_sq _ _) ⟨rfl, fun i hi => h.2.1 i hi⟩ fun a b ha hb => ?_
  rw [pmM, genM_at ha hb]
  have ht : ∀ p, (up M M.length).tail.getD p 0 = (up M M.length).getD (1 + p) 0 := fun p => by
    rw [List.getD_eq_getElem?_getD, List.getD_eq_getElem?_getD, List.getElem?_tail, Nat.add_comm]
  split
  · rename_i e; subst e; exact (h.2.2.2 a ha).symm
  · rename_i e
    rw [ht]
    by_cases hab : a < b
    · rw [show min a b = a by omega, show max a b = b by omega]
      exact up_get h hab hb _ (by omega) (Nat.le_refl _)
    · rw [show min a b = b by omega, show max a b = a by omega, up_get h (by omega) ha _ (by omega) (Nat.le_refl _)]
      exact (h.2.2.1 b a hb ha).2
theorem off_all {n : Nat} (h1 : 1 ≤ n) (h8 : n ≤ 8) : ((n : Int) * ((n : Int) - 1)) = 2 * (off n n : Int) := by
  have : n = 1 ∨ n = 2 ∨ n = 3 ∨ n = 4 ∨ n = 5 ∨ n = 6 ∨ n = 7 ∨ n = 8 := by omega
  rcases this with rfl | rfl | rfl | rfl | rfl | rfl | rfl | rfl <;> decide

/-! ### What the text spells -/
noncomputable def pm (s : List UInt8) : Option (List (List Int)) :=
  if 1 ≤ (vals (cutL 32 s)).getD 0 0 ∧ (vals (cutL 32 s)).getD 0 0 ≤ 8 ∧ (cutL 32 s).length = 1 + off ((vals (cutL 32 s)).getD 0 0).toNat ((vals (cutL 32 s)).getD 0 0).toNat ∧ fmtM (pmM ((vals (cutL 32 s)).getD 0 0).toNat (vals (cutL 32 s)).tail) = s
  then some (pmM ((vals (cutL 32 s)).getD 0 0).toNat (vals (cutL 32 s)).tail) else none
theorem cutL_nil (c : UInt8) : cutL c [] = [[]] := rfl
theorem fmtM_WM {M : List (List Int)} {s : List UInt8} (h : fmtM M = s) (h0 : s ≠ []) : WM M ∧ txt (up M M.length) = s := by
  rcases isWM_cases M with ⟨hw, he⟩ | he
  · rw [fmtM, he] at h; exact ⟨hw, h⟩
  · rw [fmtM, he] at h; exact absurd h.symm h0
/-- Where the whole is spelt, each piece is. -/
theorem pm_all {s : List UInt8} {M : List (List Int)} (h : pm s = some M) : ∀ p ∈ cutL 32 s, ∃ n, pint p = some n := by
  rw [pm] at h
  split at h
  · rename_i hh
    obtain ⟨h1, h2, h3, h4⟩ := hh
    have h0 : s ≠ [] := by
      rintro rfl
      rw [cutL_nil] at h1
      simp [vals, pint_nil] at h1
    obtain ⟨hw, ht⟩ := fmtM_WM h4 h0
    generalize pmM ((vals (cutL 32 s)).getD 0 0).toNat (vals (cutL 32 s)).tail = M at *
    intro p hp
    rw [← ht, txt_cut (up_ne _ _)] at hp
    obtain ⟨x, hx, rfl⟩ := List.mem_map.1 hp
    have := (up_it hw _ (Nat.le_refl _)).1 x hx
    exact ⟨x, pint_itoa (by omega) (by omega)⟩
  · cases h
theorem pm_WM {s : List UInt8} {M : List (List Int)} (h : pm s = some M) : WM M := by
  rw [pm] at h
  split at h
  · rename_i hh
    obtain ⟨h1, h2, h3, h4⟩ := hh
    have h0 : s ≠ [] := by
      rintro rfl
      rw [cutL_nil] at h1
      simp [vals, pint_nil] at h1
    rw [← Option.some.inj h]
    exact (fmtM_WM h4 h0).1
  · cases h
/-- A matrix is read back from its text. -/
theorem pm_fmt {M : List (List Int)} (h : WM M) : pm (fmtM M) = some M := by
  have hf : fmtM M = txt (up M M.length) := by rw [fmtM, isWM_t h]; rfl
  have hc : cutL 32 (fmtM M) = (up M M.length).map Lib.itoa := by rw [hf, txt_cut (up_ne _ _)]
  have hv : vals (cutL 32 (fmtM M)) = up M M.length := by
    rw [hc, vals, List.map_map]
    have : ∀ x ∈ up M M.length, ((fun p => (pint p).getD 0) ∘ Lib.itoa) x = id x := fun x hx => by
      have := (up_it h _ (Nat.le_refl _)).1 x hx
      simp only [Function.comp, pint_itoa (n := x) (by omega) (by omega), Option.getD_some, id]
    rw [List.map_congr_left this, List.map_id]
  have h00 : ∀ j, (up M j).getD 0 0 = (M.length : Int) := by
    intro j
    induction j with
    | zero => rfl
    | succ j ih =>
      rw [up, List.getD_eq_getElem?_getD, List.getElem?_append_left (List.length_pos_iff.2 (up_ne M j)), ← List.getD_eq_getElem?_getD]; exact ih
  rw [pm, hv, h00, Int.toNat_natCast, pmM_up h, if_pos]
  have := h.1
  refine ⟨by omega, by omega, ?_, rfl⟩
  rw [hc, List.length_map, up_length h _ (Nat.le_refl _)]

/-! ### Squares half filled -/
def PMs (n : Nat) (l : List Int) (X : List (List Int)) (i k : Nat) : Prop :=
  SqI n X ∧ ∀ a b, a < n → b < n → mat X a b = if a = b then 0 else if min a b < i ∨ (min a b = i ∧ max a b < k) then l.getD (pos n (min a b) (max a b)) 0 else 0
theorem PMs.zero (n : Nat) (l : List Int) : PMs n l (zs n) 0 1 := ⟨.zs n, fun a b ha hb => by
  rw [zs_at]
  split
  · rfl
  · rw [if_neg (by omega)]⟩
theorem PMs.row {n : Nat} {l : List Int} {X : List (List Int)} {i k : Nat} (h : PMs n l X i k) (hk : k = n ∨ n ≤ i + 1) : PMs n l X (i + 1) (i + 2) := ⟨h.1, fun a b ha hb => by
  rw [h.2 a b ha hb]
  by_cases e : a = b
  · rw [if_pos e, if_pos e]
  · rw [if_neg e, if_neg e]
    by_cases g : min a b < i ∨ (min a b = i ∧ max a b < k)
    · rw [if_pos g, if_pos (by omega)]
    · rw [if_neg g, if_neg (by omega)]⟩
theorem PMs.put {n : Nat} {l : List Int} {X : List (List Int)} {i k : Nat} (h : PMs n l X i k) (hik : i < k) (hk : k < n) {x : Int} (hx : x = l.getD (pos n i k) 0) : PMs n l (mset (mset X i k x) k i x) i (k + 1) := by
  refine ⟨(h.1.set _ _ _).set _ _ _, fun a b ha hb => ?_⟩
  have hX := h.1
  rw [mset_at _ _ _ _ (by rw [mset_length, hX.1]; omega) (by rw [mset_row_length, hX.2 k (by omega)]; omega), mset_at _ _ _ _ (by rw [hX.1]; omega) (by rw [hX.2 i (by omega)]; omega), h.2 a b ha hb]
  by_cases e1 : a = k ∧ b = i
  · rw [if_pos e1, if_neg (by omega), if_pos (by omega), hx, show min a b = i by omega, show max a b = k by omega]
  · rw [if_neg e1]
    by_cases e2 : a = i ∧ b = k
    · rw [if_pos e2, if_neg (by omega), if_pos (by omega), hx, show min a b = i by omega, show max a b = k by omega]
    · rw [if_neg e2]
      by_cases e : a = b
      · rw [if_pos e, if_pos e]
      · rw [if_neg e, if_neg e]
        by_cases g : min a b < i ∨ (min a b = i ∧ max a b < k)
        · rw [if_pos g, if_pos (by omega)]
        · rw [if_neg g, if_neg (by omega)]
theorem PMs.all {n : Nat} {l : List Int} {X : List (List Int)} {k : Nat} (h : PMs n l X n k) : X = pmM n l := by
  refine SqI.ext h.1 (genM_sq _ _) fun a b ha hb => ?_
  rw [h.2 a b ha hb, pmM, genM_at ha hb]
  split
  · rfl
  · rw [if_pos (by omega)]
theorem pos_lt {n i k : Nat} (hik : i < k) (hk : k < n) : pos n i k < off n n := by
  have h2 := off_mono n (a := i + 1) (b := n) (by omega)
  rw [off] at h2
  rw [pos]; omega
end Go.Sh

/-
  strconv.Atoi at every string: contracts.
-/
namespace Go.Sh
set_option linter.unusedSimpArgs false
set_option linter.unusedVariables false
open Go Go.Proofs

/-- What a cell of a sentinel holds. -/
def ErrV (v : Value) : Prop := v = .nilIface ∨ ∃ te pe, v = .iface te pe
theorem Tryd.errS {O : Nat → Prop} {w : World} (h : TabOk O w) : ∃ ev, w.cell? ⟨1, 0, none⟩ = some ev ∧ (ev = .nilIface ∨ ∃ te pe, ev = .iface te pe) := by
  obtain ⟨_, hc⟩ := h (1, [fun v => v = .nilIface ∨ ∃ te pe, v = .iface te pe]) (by simp [TABS])
  obtain ⟨v, h1, h2, _⟩ := hc 0 _ rfl
  exact ⟨v, h1, h2⟩
theorem Tryd.errR {O : Nat → Prop} {w : World} (h : TabOk O w) : ∃ ev, w.cell? ⟨2, 0, none⟩ = some ev ∧ (ev = .nilIface ∨ ∃ te pe, ev = .iface te pe) := by
  obtain ⟨_, hc⟩ := h (2, [fun v => v = .nilIface ∨ ∃ te pe, v = .iface te pe]) (by simp [TABS])
  obtain ⟨v, h1, h2, _⟩ := hc 0 _ rfl
  exact ⟨v, h1, h2⟩
theorem Tryd.atoi_t (s : List UInt8) (v : Int) (h : Lib.atoiAll s = .ok v) (hs : s.length ≤ 1048576) : PCall Tryd.prog 92 [str s] (.tup [.val (.int .i64 v), .val .nilIface]) := by
  refine ⟨⟨_, Tryd.func92, rfl, rfl⟩, fun w vs hl _ => ?_⟩
  simp only [LRel, VRel] at hl
  obtain ⟨x, rest, rfl, rfl, rfl⟩ := hl
  refine (Tryd.strconv_Atoi_ok (sb s) (by rw [sb_size]; omega) v (by rw [sb_data]; exact h) w).mono ?_
  rintro e w' ⟨rfl, hw⟩
  refine ⟨_, rfl, ?_, ?_⟩
  · rcases hw with rfl | ⟨t, rfl⟩
    · exact RowKit.Below.refl _ _
    · exact Lib.bytesWorld_below _ _ _
  · simp only [VRel, LRel]; exact ⟨[_, _], rfl, _, _, rfl, rfl, _, _, rfl, rfl, rfl⟩
theorem Tryd.atoi_n (s : List UInt8) (h : ∀ v, Lib.atoiAll s ≠ .ok v) (hs : s.length ≤ 1048576) : ∃ x : Int, PCall Tryd.prog 92 [str s] (.tup [.val (.int .i64 x), .iface 114 .undef]) := by
  cases hh : Lib.atoiAll s with
  | ok v => exact absurd hh (h v)
  | «syntax» =>
    refine ⟨0, ⟨_, Tryd.func92, rfl, rfl⟩, fun w vs hl ht => ?_⟩
    simp only [LRel, VRel] at hl
    obtain ⟨x, rest, rfl, rfl, rfl⟩ := hl
    obtain ⟨ev, h1, h2⟩ := Tryd.errS ht
    refine (Tryd.strconv_Atoi_syntax (sb s) (by rw [sb_size]; omega) (by rw [sb_data]; exact hh) ev w h1 h2).mono ?_
    rintro e w' ⟨N, rfl, _, _, hb⟩
    refine ⟨_, rfl, hb, ?_⟩
    simp only [VRel, LRel]; exact ⟨[_, _], rfl, _, _, rfl, rfl, _, _, rfl, ⟨_, rfl, trivial⟩, rfl⟩
  | range =>
    refine ⟨Lib.atoiSat s, ⟨_, Tryd.func92, rfl, rfl⟩, fun w vs hl ht => ?_⟩
    simp only [LRel, VRel] at hl
    obtain ⟨x, rest, rfl, rfl, rfl⟩ := hl
    obtain ⟨ev, h1, h2⟩ := Tryd.errR ht
    refine (Tryd.strconv_Atoi_range (sb s) (by rw [sb_size]; omega) (by rw [sb_data]; exact hh) ev w h1 h2).mono ?_
    rintro e w' ⟨N, rfl, _, _, hb⟩
    refine ⟨_, rfl, hb, ?_⟩
    simp only [VRel, LRel]; exact ⟨[_, _], by rw [sb_data], _, _, rfl, rfl, _, _, rfl, ⟨_, rfl, trivial⟩, rfl⟩
theorem atoiAll_i64 {s : List UInt8} {v : Int} (h : Lib.atoiAll s = .ok v) : -9223372036854775808 ≤ v ∧ v ≤ 9223372036854775807 := by
  unfold Lib.atoiAll at h
  split at h
  · cases h
  · simp only at h
    split at h
    · cases h
    · cases h
    · split at h
      · cases h
      · split at h
        · cases h
        · simp only [Lib.NumEnd.ok.injEq] at h
          subst h
          split <;> omega
end Go.Sh

/-
  Strings cut at a byte: contracts.
-/
namespace Go.Sh
set_option linter.unusedSimpArgs false
set_option linter.unusedVariables false
open Go Go.Proofs

theorem Tryd.count_ok (s : List UInt8) (c : UInt8) : PCall Tryd.prog 63 [str s, str [c]] (.val (.int .i64 (s.count c))) := by
  refine ⟨⟨_, Tryd.func63, rfl, rfl⟩, fun w vs hl _ => ?_⟩
  simp only [LRel, VRel] at hl
  obtain ⟨v, rest, rfl, rfl, v2, rest2, rfl, rfl, rfl⟩ := hl
  refine (Tryd.strings_Count_one (sb s) c w).mono ?_
  rintro e w' ⟨rfl, rfl⟩
  refine ⟨_, rfl, RowKit.Below.refl _ _, ?_⟩
  simp only [VRel, sb_data]; rfl
theorem Tryd.index_ok (s : List UInt8) (c : UInt8) : PCall Tryd.prog 89 [str s, str [c]] (.val (.int .i64 (Lib.indexByte s c))) := by
  refine ⟨⟨_, Tryd.func89, rfl, rfl⟩, fun w vs hl _ => ?_⟩
  simp only [LRel, VRel] at hl
  obtain ⟨v, rest, rfl, rfl, v2, rest2, rfl, rfl, rfl⟩ := hl
  refine (Tryd.strings_Index_one (sb s) c w).mono ?_
  rintro e w' ⟨rfl, rfl⟩
  refine ⟨_, rfl, RowKit.Below.refl _ _, ?_⟩
  simp only [VRel, sb_data]
theorem cutL_idx (s : List UInt8) (c : UInt8) : (Lib.indexByte s c = -1 ∧ cutL c s = [s]) ∨ ∃ m : Nat, Lib.indexByte s c = m ∧ m < s.length ∧ cutL c s = s.take m :: cutL c (s.drop (m + 1)) := by
  have hge := Lib.indexByte_ge s c
  by_cases h : Lib.indexByte s c = -1
  · refine .inl ⟨h, cutL_last fun k hk e => ?_⟩
    refine Lib.indexByte_none h k ?_
    rw [List.getElem?_eq_getElem hk, ← e]; simp [hk]
  · obtain ⟨m, hm⟩ := Int.eq_ofNat_of_zero_le (a := Lib.indexByte s c) (by omega)
    obtain ⟨h1, h2⟩ := Lib.indexByte_some hm
    have hl : m < s.length := by
      rcases Nat.lt_or_ge m s.length with g | g
      · exact g
      · rw [List.getElem?_eq_none g] at h1; cases h1
    refine .inr ⟨m, hm, hl, cutL_first hl (by simpa [hl] using h1) fun k hk e => h2 k hk ?_⟩
    rw [List.getElem?_eq_getElem (by omega), ← e]; simp [show k < s.length by omega]
/-- What is cut, and what is left. -/
theorem count_drop (s : List UInt8) (c : UInt8) (h : 0 < s.count c) : ∃ m : Nat, Lib.indexByte s c = m ∧ m < s.length ∧ cutL c s = s.take m :: cutL c (s.drop (m + 1)) ∧ (s.drop (m + 1)).count c + 1 = s.count c := by
  rcases cutL_idx s c with ⟨_, e⟩ | ⟨m, h1, h2, h3⟩
  · have := cutL_len c s
    rw [e] at this
    simp at this; omega
  · refine ⟨m, h1, h2, h3, ?_⟩
    have g1 := cutL_len c s
    have g2 := cutL_len c (s.drop (m + 1))
    rw [h3, List.length_cons, g2] at g1
    omega
/-- The pieces in their places, empty strings behind them. -/
def slots (P : List (List UInt8)) (n : Nat) : List (List UInt8) := P ++ List.replicate (n - P.length) []
theorem slots_length {P : List (List UInt8)} {n : Nat} (h : P.length ≤ n) : (slots P n).length = n := by simp [slots]; omega
theorem slots_set {P : List (List UInt8)} {n : Nat} (x : List UInt8) (h : P.length < n) : (slots P n).set P.length x = slots (P ++ [x]) n := by
  rw [slots, slots, List.set_append_right _ _ (Nat.le_refl _), Nat.sub_self]
  have e : n - P.length = (n - (P ++ [x]).length) + 1 := by simp; omega
  rw [e, List.replicate_succ]; simp
theorem strs_vals (L : List (List UInt8)) : (strs L).all isVal = true := by simp [strs, isVal]
theorem fin_strs {L : List (List UInt8)} {b n cap : Nat} {ex e2 : Bool} {H : Heap} (hn : n = L.length) (hb : H.map b = some ⟨strs L, e2⟩) : Fin (FlatRes L.length 1 (strs L)) (.own b 0 n cap 1 ex) H := by
  subst hn
  obtain ⟨H2, h1, _, h3, h4⟩ := flat_fin (ex := ex) (cap := cap) (n := L.length) (z := 1) (by rw [strs_length, Nat.mul_one]) (strs_vals L) hb
  exact ⟨H2, h1, rfl, h3, h4⟩
theorem flat_viewS {L : List (List UInt8)} {r : SV} {H : Heap} (h : FlatRes L.length 1 (strs L) r H) : view H 1 r = some (rst L) := by
  obtain ⟨b, off, cap, ex, blk, rfl, h1, h2, h3, _⟩ := h
  rw [Nat.mul_one] at h2 h3
  simp only [Sh.view, h1, Nat.mul_one, h2, h3, if_true, viewL_strs, rst]
set_option maxHeartbeats 4000000 in
theorem Tryd.genSplit_f (s : List UInt8) (c : UInt8) (hs : s.length ≤ 1048576) : FCall Tryd.prog 90 [str s, str [c], .val (.int .i64 0), .val (.int .i64 (-1))] (FlatRes (cutL c s).length 1 (strs (cutL c s))) := by
  have w := Tryd.count_ok s c
  have hcl : s.count c ≤ s.length := List.count_le_length
  have hlen := cutL_len c s
  have hcn : ([c] == ([] : List UInt8)) = false := rfl
  generalize hN : s.count c = N at *
  refine FCall.of_body Tryd.func90 rfl (by kernel_rfl) (by simp [Tryd.ntmps90]) ?_
  refine SW_of_vc Tryd.mixed _ _ _ (by kernel_rfl) ?_
  simp (disch := omega) only [Tryd.ntmps90, Tryd.results90, go_sem, hcn]
  refine w.callV 0 (viewL_cons_of view_str (viewL_cons_of view_str viewL_nil_of)) ?_
  have hnat : ((N : Int) + 1).toNat = N + 1 := by omega
  have hsub : (N : Int) + 1 - 1 = N := by omega
  simp (disch := omega) only [Tryd.ntmps90, Tryd.results90, go_sem, hnat, hsub]
  refine LoopW.loop (fun p : Nat × List UInt8 × List (List UInt8) => ⟨ofL [(0, str p.2.1), (1, str [c]), (2, .val (.int .i64 0)), (3, .val (.int .i64 N)), (9, .own 0 0 (N + 1) (N + 1) 1 true), (10, .val (.int .i64 p.1))], hp [(0, ⟨strs (slots p.2.2 (N + 1)), true⟩)] 1⟩)
    (fun p => p.1 ≤ N ∧ p.2.2.length = p.1 ∧ cutL c s = p.2.2 ++ cutL c p.2.1 ∧ p.2.1.count c + p.1 = N ∧ p.2.1.length ≤ 1048576) (fun p => N - p.1) (0, s, []) ⟨by simp, rfl, rfl, by simpa using hN, hs⟩
    (Wk.of (by simp only [go_sem, ↓List.forall_mem_cons, List.not_mem_nil, false_implies, implies_true, and_true, true_and, and_self, ri_eq, Int.natCast_add, Int.cast_ofNat_Int]; try simp) (by simp only [slots, List.nil_append, List.length_nil, Nat.sub_zero, ← strs_replicate])) ?_
  rintro ⟨k, t, P⟩ ⟨hk, hP, hc, hcnt, ht⟩
  simp only at hk hP hc hcnt ht
  have hsl : (slots P (N + 1)).length = N + 1 := slots_length (by omega)
  refine SW_of_vc Tryd.mixed _ _ _ (by kernel_rfl) ?_
  by_cases hlt : k < N
  · obtain ⟨m, m1, m2, m3, m4⟩ := count_drop t c (by omega)
    have wi := Tryd.index_ok t c
    rw [m1] at wi
    have hset := slots_set (P := P) (n := N + 1) (t.take m) (by omega)
    rw [hP] at hset
    simp (disch := omega) only [Tryd.ntmps90, Tryd.results90, go_sem]
    refine wi.callV 0 (viewL_cons_of view_str (viewL_cons_of view_str viewL_nil_of)) ?_
    have t1 : ((m : Int) + 0).toNat = m := by omega
    have t2 : ((m : Int) + ((1 : Nat) : Int)).toNat = m + 1 := by omega
    have t3 : (t.drop (m + 1)).take (t.length - (m + 1)) = t.drop (m + 1) := List.take_of_length_le (by rw [List.length_drop]; exact Nat.le_refl _)
    simp (disch := omega) only [Tryd.ntmps90, Tryd.results90, go_sem, strs_length, strs_set, hsl, t1, t2, t3, hset]
    exact ⟨(k + 1, t.drop (m + 1), P ++ [t.take m]), ⟨hlt, by simp [hP], by rw [hc, m3]; simp, by simp only; omega, by simp only [List.length_drop]; omega⟩, by simp only; omega, Wk.of (by simp only [go_sem, ↓List.forall_mem_cons, List.not_mem_nil, false_implies, implies_true, and_true, true_and, and_self, ri_eq, Int.natCast_add, Int.cast_ofNat_Int]; try simp) rfl⟩
  · obtain rfl : k = N := by omega
    have hone : cutL c t = [t] := by
      rcases cutL_idx t c with ⟨_, e⟩ | ⟨m, h1, h2, h3⟩
      · exact e
      · have := cutL_len c t
        have g2 := cutL_len c (t.drop (m + 1))
        rw [h3, List.length_cons] at this
        omega
    have hset := slots_set (P := P) (n := k + 1) t (by omega)
    rw [hP] at hset
    have hall : slots (P ++ [t]) (k + 1) = cutL c s := by rw [hc, hone, slots]; simp [hP]
    rw [hall] at hset
    simp (disch := omega) only [Tryd.ntmps90, Tryd.results90, go_sem, strs_length, strs_set, hsl, hset, hnat]
    exact fin_strs hlen.symm (by first | rfl | (simp (disch := omega) only [hx_map, hp_map, xmap_blk, hmap_cons, xmap_skipI, xmap_nil, if_pos, if_neg, ↓reduceIte]; try rfl))
theorem Tryd.split_f (s : List UInt8) (c : UInt8) (hs : s.length ≤ 1048576) : FCall Tryd.prog 64 [str s, str [c]] (FlatRes (cutL c s).length 1 (strs (cutL c s))) := by
  have w := (Tryd.genSplit_f s c hs).one
  refine FCall.of_body Tryd.func64 rfl (by kernel_rfl) (by simp [Tryd.ntmps64]) ?_
  refine SW_of_vc Tryd.mixed _ _ _ (by kernel_rfl) ?_
  simp (disch := omega) only [Tryd.ntmps64, Tryd.results64, go_sem]
  refine w.callOne (strs_vals _) 0 (viewL_cons_of view_str (viewL_cons_of view_str (viewL_cons_of view_int (viewL_cons_of view_int viewL_nil_of)))) ?_
  simp (disch := omega) only [Tryd.ntmps64, Tryd.results64, go_sem]
  exact fin_strs rfl (by first | rfl | (simp (disch := omega) only [hx_map, hp_map, xmap_blk, hmap_cons, xmap_skipI, xmap_nil, if_pos, if_neg, ↓reduceIte]; try rfl))
theorem Tryd.split_ok (s : List UInt8) (c : UInt8) (hs : s.length ≤ 1048576) : PCall Tryd.prog 64 [str s, str [c]] (rst (cutL c s)) :=
  (Tryd.split_f s c hs).pcall 1 (fun _ _ h => flat_viewS h)
end Go.Sh

/-
  Strings cut at a byte: the reference.
-/
namespace Go.Sh
set_option linter.unusedSimpArgs false
set_option linter.unusedVariables false
open Go Go.Proofs

theorem drop_getD {s : List UInt8} {f i : Nat} (h : f ≤ i) : (s.drop f).getD (i - f) 0 = s.getD i 0 := by
  simp [List.getD, show f + (i - f) = i by omega]
theorem sb_ix {s : List UInt8} {i : Nat} (h : i < s.length) : (if h : 0 ≤ (i : Int) ∧ i < s.length then some (SV.val (.int .u8 ((sb s)[i]'(by rw [sb_size]; exact h.2)).toNat)) else none) = some (.val (.int .u8 (s.getD i 0).toNat)) := by
  rw [dif_pos ⟨by omega, h⟩]
  simp [sb, ByteArray.getElem_eq_getElem_data, h]
set_option maxHeartbeats 4000000 in
theorem Tryd.l2Cut_f (s : List UInt8) (c : UInt8) (hs : s.length ≤ 1048576) : FCall Tryd.prog 61 [str s, .val (.int .u8 c.toNat)] (FlatRes (cutL c s).length 1 (strs (cutL c s))) := by
  refine FCall.of_body Tryd.func61 rfl (by kernel_rfl) (by simp [Tryd.ntmps61]) ?_
  refine SW_of_vc Tryd.mixed _ _ _ (by kernel_rfl) ?_
  simp (disch := omega) only [Tryd.ntmps61, Tryd.results61, go_sem]
  refine LoopW.loop (fun p : Nat × Nat × List (List UInt8) × Nat × Nat => ⟨ofL [(0, str s), (1, .val (.int .u8 c.toNat)), (5, .own p.2.2.2.1 0 p.2.2.1.length p.2.2.1.length 1 false), (6, .val (.int .i64 p.2.1)), (7, .val (.int .i64 p.1))], hx [.blk p.2.2.2.1 ⟨strs p.2.2.1, false⟩] p.2.2.2.2⟩)
    (fun p => p.1 ≤ s.length ∧ p.2.1 ≤ p.1 ∧ p.2.2.1.length ≤ p.2.1 ∧ cutL c s = p.2.2.1 ++ cutL c (s.drop p.2.1) ∧ (∀ k, p.2.1 ≤ k → k < p.1 → s.getD k 0 ≠ c) ∧ p.2.2.2.1 < p.2.2.2.2) (fun p => s.length - p.1) (0, 0, [], 0, 1) ⟨by simp, by simp, by simp, rfl, fun k h1 h2 => by simp only at h2; omega, by simp⟩
    (Wk.ofX (by simp only [go_sem, ↓List.forall_mem_cons, List.not_mem_nil, false_implies, implies_true, and_true, true_and, and_self, ri_eq, Int.natCast_add, Int.cast_ofNat_Int]; try simp) (by simp [EntIn, hp, hmap, strs]) (by simp [hp])) ?_
  rintro ⟨i, f, P, ob, nb⟩ ⟨hi, hf, hPl, hc, hno, hob⟩
  simp only at hi hf hPl hc hno hob
  have hPs := strs_length P
  have hPt : (strs P).take P.length = strs P := List.take_of_length_le (by omega)
  refine SW_of_vc Tryd.mixed _ _ _ (by kernel_rfl) ?_
  by_cases hlt : i < s.length
  · by_cases he : s.getD i 0 = c
    · have hm : cutL c (s.drop f) = (s.drop f).take (i - f) :: cutL c (s.drop (i + 1)) := by
        have := cutL_first (c := c) (s := s.drop f) (m := i - f) (by rw [List.length_drop]; omega) (by rw [drop_getD hf]; exact he) (fun k hk => by
          have e := drop_getD (s := s) (f := f) (i := f + k) (by omega)
          rw [show f + k - f = k by omega] at e
          rw [e]; exact hno _ (by omega) (by omega))
        rw [this, List.drop_drop]
        congr 3; omega
      have hix := sb_ix hlt
      simp (disch := omega) only [Tryd.ntmps61, Tryd.results61, go_sem, hix, he, beq_self_eq_true, hPs, hPt, strs_snoc]
      have hl1 : (P ++ [(s.drop f).take (i - f)]).length = P.length + 1 := by simp
      refine ⟨(i + 1, i + 1, P ++ [(s.drop f).take (i - f)], nb + 1, nb + 1 + 1), ⟨hlt, Nat.le_refl _, by simp only; omega, by rw [hc, hm]; simp, fun k h1 h2 => by simp only at h1 h2; omega, by simp only; omega⟩, by simp only; omega, ?_⟩
      refine Wk.ofX (by simp only [go_sem, ↓List.forall_mem_cons, List.not_mem_nil, false_implies, implies_true, and_true, true_and, and_self, ri_eq, Int.natCast_add, Int.cast_ofNat_Int, hl1]; try simp) ?_ (Nat.le_refl _)
      simp only [List.forall_mem_cons]
      refine ⟨?_, by simp⟩
      simp (disch := omega) only [EntIn, hx_map, xmap_blk, if_pos, if_neg, ↓reduceIte]
    · have he2 : (((s.getD i 0).toNat : Int) == (c.toNat : Int)) = false := by
        rw [beq_eq_false_iff_ne]
        intro e
        exact he (UInt8.toNat_inj.1 (by exact_mod_cast e))
      have hix := sb_ix hlt
      simp (disch := omega) only [Tryd.ntmps61, Tryd.results61, go_sem, hix, he2]
      refine ⟨(i + 1, f, P, ob, nb), ⟨hlt, by simp only; omega, hPl, hc, fun k h1 h2 => ?_, hob⟩, by simp only; omega, Wk.of (by simp only [go_sem, ↓List.forall_mem_cons, List.not_mem_nil, false_implies, implies_true, and_true, true_and, and_self, ri_eq, Int.natCast_add, Int.cast_ofNat_Int]; try simp) rfl⟩
      simp only at h1 h2
      rcases Nat.lt_succ_iff_lt_or_eq.1 h2 with g | g
      · exact hno k h1 g
      · rw [g]; exact he
  · obtain rfl : i = s.length := by omega
    have t3 : (s.drop f).take (s.length - f) = s.drop f := List.take_of_length_le (by rw [List.length_drop]; exact Nat.le_refl _)
    have hlast : cutL c (s.drop f) = [s.drop f] := cutL_last fun k hk => by
      rw [List.length_drop] at hk
      have e := drop_getD (s := s) (f := f) (i := f + k) (by omega)
      rw [show f + k - f = k by omega] at e
      rw [e]; exact hno _ (by omega) (by omega)
    rw [hlast] at hc
    simp (disch := omega) only [Tryd.ntmps61, Tryd.results61, go_sem, hPs, hPt, t3, strs_snoc]
    rw [hc]
    exact fin_strs (by simp) (by first | rfl | (simp (disch := omega) only [hx_map, hp_map, xmap_blk, hmap_cons, xmap_skipI, xmap_nil, if_pos, if_neg, ↓reduceIte]; try rfl))
theorem Tryd.l2Cut_ok (s : List UInt8) (c : UInt8) (hs : s.length ≤ 1048576) : PCall Tryd.prog 61 [str s, .val (.int .u8 c.toNat)] (rst (cutL c s)) :=
  (Tryd.l2Cut_f s c hs).pcall 1 (fun _ _ h => flat_viewS h)
end Go.Sh

/-
  ParseInt: contracts of both.
-/
namespace Go.Sh
set_option linter.unusedSimpArgs false
set_option linter.unusedVariables false
open Go Go.Proofs

theorem fin_pr {R : SV → Heap → Prop} {a b : Value} {H : Heap} (h : R (.tup [.val a, .val b]) ⟨fun _ => none, H.nb⟩) : Fin R (.tup [.val a, .val b]) H :=
  ⟨⟨fun _ => none, H.nb⟩, ⟨rfl, fun _ => .inl rfl⟩, by simp [noRow, noRowL], fun b blk hb => by simp at hb, h⟩
abbrev pIR (s : List UInt8) : SV := .tup [.val (.int .i64 ((pint s).getD 0)), .val (.bool (pint s).isSome)]
theorem view_pr {H : Heap} {f : Nat} {k : IntKind} {n : Int} {b : Bool} : view H (f + 1) (.tup [.val (.int k n), .val (.bool b)]) = some (.tup [.val (.int k n), .val (.bool b)]) := by
  have h1 : viewL H f [.val (.int k n), .val (.bool b)] = some [.val (.int k n), .val (.bool b)] := viewL_cons_of view_int (viewL_cons_of view_bool viewL_nil_of)
  simp only [view, h1]
theorem fin_pI {s : List UInt8} {o : Option Int} {n : Int} {b : Bool} {H : Heap} (hp : pint s = o) (hn : n = o.getD 0) (hb : b = o.isSome) : Fin (fun r _ => r = pIR s) (.tup [.val (.int .i64 n), .val (.bool b)]) H :=
  fin_pr (by unfold pIR; rw [hp, hn, hb])
theorem take_succD {s : List UInt8} {i : Nat} (h : i < s.length) : s.take (i + 1) = s.take i ++ [s.getD i 0] := by
  rw [List.take_add_one, List.getElem?_eq_getElem h]; simp [List.getD, h]
theorem dval_succ {s : List UInt8} {i : Nat} (h : i < s.length) : dval (s.take (i + 1)) = dstep (dval (s.take i)) (s.getD i 0) := by
  rw [take_succD h, dval, List.foldl_append]; rfl
theorem dcnt_succ {s : List UInt8} {i : Nat} (h : i < s.length) : dcnt (s.take (i + 1)) = dcnt (s.take i) + if dgt (s.getD i 0) = true then 1 else 0 := by
  rw [take_succD h, dcnt, List.countP_append, List.countP_singleton]; rfl
theorem dcnt_le (s : List UInt8) (i : Nat) : dcnt (s.take i) ≤ i := by
  refine Nat.le_trans List.countP_le_length ?_
  rw [List.length_take]; omega
theorem dval_b {s : List UInt8} {i : Nat} (h : i ≤ 11) : dval (s.take i) < 100000000000 := by
  have h1 := dval_lt (s.take i)
  have h2 := pow10_le (k := dcnt (s.take i)) (m := 11) (by have := dcnt_le s i; omega)
  omega
theorem dval_b10 {s : List UInt8} {i : Nat} (h : i ≤ 10) : dval (s.take i) < 10000000000 := by
  have h1 := dval_lt (s.take i)
  have h2 := pow10_le (k := dcnt (s.take i)) (m := 10) (by have := dcnt_le s i; omega)
  omega
theorem pint_t {s : List UInt8} (h1 : dcnt s ≤ 9) (h2 : s.length ≤ 10) (h3 : Lib.itoa (nval s) = s) : pint s = some (nval s) := by rw [pint, if_pos ⟨h1, h2, h3⟩]
theorem pint_f {s : List UInt8} (h : ¬ (dcnt s ≤ 9 ∧ s.length ≤ 10 ∧ Lib.itoa (nval s) = s)) : pint s = none := by rw [pint, if_neg h]
theorem sb_ix0 {s : List UInt8} (h : 0 < s.length) : (if h : 0 < s.length then some (SV.val (.int .u8 ((sb s)[0]'(by rw [sb_size]; exact h)).toNat)) else none) = some (.val (.int .u8 (s.getD 0 0).toNat)) := by
  rw [dif_pos h]
  simp [sb, ByteArray.getElem_eq_getElem_data, h]
set_option maxHeartbeats 4000000 in
theorem Tryd.specPI_ok (s : List UInt8) (hs : s.length ≤ 1048576) : PCall Tryd.prog 66 [str s] (pIR s) := by
  refine FCall.pcall (R := fun r _ => r = pIR s) ?_ 1 (by rintro r H rfl; exact view_pr)
  refine FCall.of_body Tryd.func66 rfl (by kernel_rfl) (by simp [Tryd.ntmps66]) ?_
  refine SW_of_vc Tryd.mixed _ _ _ (by kernel_rfl) ?_
  simp (disch := omega) only [Tryd.ntmps66, Tryd.results66, go_sem]
  refine LoopW.loop (fun i : Nat => ⟨ofL [(0, str s), (4, .val (.int .i64 (dval (s.take i)))), (5, .val (.int .i64 (dcnt (s.take i)))), (6, .val (.int .i64 i))], hp [] 0⟩) (fun i => i ≤ s.length ∧ i ≤ 11) (fun i => 11 - i) 0 (by omega) (Wk.of (by simp only [go_sem, ↓List.forall_mem_cons, List.not_mem_nil, false_implies, implies_true, and_true, true_and, and_self, ri_eq, Int.natCast_add, Int.cast_ofNat_Int, List.take_zero, show dval [] = 0 from rfl, show dcnt [] = 0 from rfl]; try simp) rfl) ?_
  rintro i ⟨hi, hi11⟩
  have hb11 := dval_b (s := s) hi11
  have hc11 := dcnt_le s i
  refine SW_of_vc Tryd.mixed _ _ _ (by kernel_rfl) ?_
  by_cases hlt : i < s.length ∧ i < 11
  · obtain ⟨hlt, hlt11⟩ := hlt
    have hix := sb_ix hlt
    have hb10 := dval_b10 (s := s) (i := i) (by omega)
    have hvs := dval_succ hlt
    have hcs := dcnt_succ hlt
    have hc8 : (s.getD i 0).toNat < 256 := UInt8.toNat_lt _
    generalize s.getD i 0 = c at *
    by_cases hd1 : 48 ≤ c.toNat
    · by_cases hd2 : c.toNat ≤ 57
      · have hd : dgt c = true := by simp only [dgt, decide_eq_true_eq]; omega
        rw [dstep, if_pos hd] at hvs
        rw [if_pos hd] at hcs
        have hz : ((dval (s.take i) : Int) * 10 + ((c.toNat : Int) - 48)) = ((dval (s.take i) * 10 + (c.toNat - 48) : Nat) : Int) := by omega
        have h8 : IntKind.u8.wrap ((c.toNat : Int) - 48) = (c.toNat : Int) - 48 := by rw [IntKind.wrap_u8]; omega
        simp (disch := omega) only [Tryd.ntmps66, Tryd.results66, go_sem, hix, h8, hz]
        exact ⟨i + 1, by omega, by omega, Wk.of (by simp only [go_sem, ↓List.forall_mem_cons, List.not_mem_nil, false_implies, implies_true, and_true, true_and, and_self, ri_eq, Int.natCast_add, Int.cast_ofNat_Int, hvs, hcs]; try simp) rfl⟩
      · have hd : dgt c = false := by simp only [dgt, decide_eq_false_iff_not]; omega
        rw [dstep, if_neg (by simp [hd])] at hvs
        rw [if_neg (by simp [hd])] at hcs
        simp (disch := omega) only [Tryd.ntmps66, Tryd.results66, go_sem, hix]
        exact ⟨i + 1, by omega, by omega, Wk.of (by simp only [go_sem, ↓List.forall_mem_cons, List.not_mem_nil, false_implies, implies_true, and_true, true_and, and_self, ri_eq, Int.natCast_add, Int.cast_ofNat_Int, hvs, hcs]; try simp) rfl⟩
    · have hd : dgt c = false := by simp only [dgt, decide_eq_false_iff_not]; omega
      rw [dstep, if_neg (by simp [hd])] at hvs
      rw [if_neg (by simp [hd])] at hcs
      simp (disch := omega) only [Tryd.ntmps66, Tryd.results66, go_sem, hix]
      exact ⟨i + 1, by omega, by omega, Wk.of (by simp only [go_sem, ↓List.forall_mem_cons, List.not_mem_nil, false_implies, implies_true, and_true, true_and, and_self, ri_eq, Int.natCast_add, Int.cast_ofNat_Int, hvs, hcs]; try simp) rfl⟩
  · have hex : i < s.length → i = 11 := by omega
    by_cases h0 : s = []
    · have hsv : nval s = (dval s : Int) := by subst h0; rfl
      subst h0
      obtain rfl : i = 0 := by simpa using hi
      have hp : pint [] = none := pint_nil
      have hw := Tryd.specFI_ok 0 (by omega) (by omega)
      have he2 : (Lib.itoa 0 == ([] : List UInt8)) = false := by
        rw [Lib.itoa, if_neg (by decide), Lib.decDigits, dif_pos (by decide)]; decide
      simp (disch := omega) only [Tryd.ntmps66, Tryd.results66, go_sem, List.take_nil, List.length_nil, show dval [] = 0 from rfl, show dcnt [] = 0 from rfl]
      refine hw.callV 0 (viewL_cons_of (view_int) viewL_nil_of) ?_
      simp (disch := omega) only [Tryd.ntmps66, Tryd.results66, go_sem, he2, Bool.not_false]
      exact fin_pI hp rfl rfl
    have hl0 : 0 < s.length := List.length_pos_iff.2 h0
    have hix0 := sb_ix0 hl0
    have hhd : s.head? = some (s.getD 0 0) := by
      cases s with
      | nil => exact absurd rfl h0
      | cons c r => rfl
    by_cases hm : s.getD 0 0 = 45
    · have hsv : nval s = 0 - (dval s : Int) := by rw [nval, if_pos (by rw [hhd, hm])]; omega
      rw [hm] at hix0
      have hm2 : (((45 : UInt8).toNat : Int) == 45) = true := by decide
      by_cases hl10 : 10 < s.length
      · have hp : pint s = none := pint_f (by omega)
        by_cases hls : i < s.length
        · have hi11b := hex hls
          by_cases hk9 : 9 < dcnt (s.take i)
          · simp (disch := omega) only [Tryd.ntmps66, Tryd.results66, go_sem, hix0, hm2]
            exact fin_pI hp rfl rfl
          · simp (disch := omega) only [Tryd.ntmps66, Tryd.results66, go_sem, hix0, hm2]
            exact fin_pI hp rfl rfl
        · by_cases hk9 : 9 < dcnt (s.take i)
          · simp (disch := omega) only [Tryd.ntmps66, Tryd.results66, go_sem, hix0, hm2]
            exact fin_pI hp rfl rfl
          · simp (disch := omega) only [Tryd.ntmps66, Tryd.results66, go_sem, hix0, hm2]
            exact fin_pI hp rfl rfl
      obtain rfl : i = s.length := by omega
      rw [List.take_length] at hb11 hc11
      by_cases hk9 : 9 < dcnt s
      · have hp : pint s = none := pint_f (by omega)
        simp (disch := omega) only [Tryd.ntmps66, Tryd.results66, go_sem, hix0, hm2, List.take_length]
        exact fin_pI hp rfl rfl
      have hb : dval s < 1000000000 := by
        have h1 := dval_lt s
        have h2 := pow10_le (k := dcnt s) (m := 9) (by omega)
        omega
      have hw := Tryd.specFI_ok (nval s) (by rw [hsv]; omega) (by rw [hsv]; omega)
      rw [hsv] at hw
      by_cases he : Lib.itoa (nval s) = s
      · have hp := pint_t (by omega) (by omega) he
        rw [hsv] at he hp
        simp (disch := omega) only [Tryd.ntmps66, Tryd.results66, go_sem, hix0, hm2, List.take_length]
        refine hw.callV 0 (viewL_cons_of (view_int) viewL_nil_of) ?_
        simp (disch := omega) only [Tryd.ntmps66, Tryd.results66, go_sem, he, beq_self_eq_true, Bool.not_true]
        exact fin_pI hp (by first | rfl | (simp only [List.take_length]; rfl)) rfl
      · have hp : pint s = none := pint_f (fun h => he h.2.2)
        rw [hsv] at he
        have he2 := beq_eq_false_iff_ne.2 he
        simp (disch := omega) only [Tryd.ntmps66, Tryd.results66, go_sem, hix0, hm2, List.take_length]
        refine hw.callV 0 (viewL_cons_of (view_int) viewL_nil_of) ?_
        simp (disch := omega) only [Tryd.ntmps66, Tryd.results66, go_sem, he2, Bool.not_false]
        exact fin_pI hp rfl rfl
    · have hsv : nval s = (dval s : Int) := by rw [nval, if_neg (by rw [hhd]; intro h; exact hm (Option.some.inj h))]
      have hm2 : (((s.getD 0 0).toNat : Int) == 45) = false := by
        rw [beq_eq_false_iff_ne]; intro h
        exact hm (UInt8.toNat_inj.1 (by exact_mod_cast h))
      by_cases hl10 : 10 < s.length
      · have hp : pint s = none := pint_f (by omega)
        by_cases hls : i < s.length
        · have hi11b := hex hls
          by_cases hk9 : 9 < dcnt (s.take i)
          · simp (disch := omega) only [Tryd.ntmps66, Tryd.results66, go_sem, hix0, hm2]
            exact fin_pI hp rfl rfl
          · simp (disch := omega) only [Tryd.ntmps66, Tryd.results66, go_sem, hix0, hm2]
            exact fin_pI hp rfl rfl
        · by_cases hk9 : 9 < dcnt (s.take i)
          · simp (disch := omega) only [Tryd.ntmps66, Tryd.results66, go_sem, hix0, hm2]
            exact fin_pI hp rfl rfl
          · simp (disch := omega) only [Tryd.ntmps66, Tryd.results66, go_sem, hix0, hm2]
            exact fin_pI hp rfl rfl
      obtain rfl : i = s.length := by omega
      rw [List.take_length] at hb11 hc11
      by_cases hk9 : 9 < dcnt s
      · have hp : pint s = none := pint_f (by omega)
        simp (disch := omega) only [Tryd.ntmps66, Tryd.results66, go_sem, hix0, hm2, List.take_length]
        exact fin_pI hp rfl rfl
      have hb : dval s < 1000000000 := by
        have h1 := dval_lt s
        have h2 := pow10_le (k := dcnt s) (m := 9) (by omega)
        omega
      have hw := Tryd.specFI_ok (nval s) (by rw [hsv]; omega) (by rw [hsv]; omega)
      rw [hsv] at hw
      by_cases he : Lib.itoa (nval s) = s
      · have hp := pint_t (by omega) (by omega) he
        rw [hsv] at he hp
        simp (disch := omega) only [Tryd.ntmps66, Tryd.results66, go_sem, hix0, hm2, List.take_length]
        refine hw.callV 0 (viewL_cons_of (view_int) viewL_nil_of) ?_
        simp (disch := omega) only [Tryd.ntmps66, Tryd.results66, go_sem, he, beq_self_eq_true, Bool.not_true]
        exact fin_pI hp (by first | rfl | (simp only [List.take_length]; rfl)) rfl
      · have hp : pint s = none := pint_f (fun h => he h.2.2)
        rw [hsv] at he
        have he2 := beq_eq_false_iff_ne.2 he
        simp (disch := omega) only [Tryd.ntmps66, Tryd.results66, go_sem, hix0, hm2, List.take_length]
        refine hw.callV 0 (viewL_cons_of (view_int) viewL_nil_of) ?_
        simp (disch := omega) only [Tryd.ntmps66, Tryd.results66, go_sem, he2, Bool.not_false]
        exact fin_pI hp rfl rfl
set_option maxHeartbeats 4000000 in
theorem Tryd.implPI_ok (s : List UInt8) (hs : s.length ≤ 1048576) : PCall Tryd.prog 68 [str s] (pIR s) := by
  refine FCall.pcall (R := fun r _ => r = pIR s) ?_ 1 (by rintro r H rfl; exact view_pr)
  refine FCall.of_body Tryd.func68 rfl (by kernel_rfl) (by simp [Tryd.ntmps68]) ?_
  refine SW_of_vc Tryd.mixed _ _ _ (by kernel_rfl) ?_
  by_cases hok : ∃ v, Lib.atoiAll s = .ok v
  · obtain ⟨v, hv⟩ := hok
    obtain ⟨v1, v2⟩ := atoiAll_i64 hv
    have wA := Tryd.atoi_t s v hv hs
    have wF := Tryd.implFI_ok v v1 v2
    have wW := Tryd.within_ok v (-999999999) 999999999
    by_cases he : Lib.itoa v = s
    · by_cases hr : -999999999 ≤ v ∧ v ≤ 999999999
      · have hp : pint s = some v := pint_of he hr.1 hr.2
        rw [inR_tt hr.1 hr.2] at wW
        simp (disch := omega) only [Tryd.ntmps68, Tryd.results68, go_sem]
        refine wA.callV 0 (viewL_cons_of view_str viewL_nil_of) ?_
        simp (disch := omega) only [Tryd.ntmps68, Tryd.results68, go_sem]
        refine wF.callV 0 (viewL_cons_of (view_int) viewL_nil_of) ?_
        simp (disch := omega) only [Tryd.ntmps68, Tryd.results68, go_sem, he, beq_self_eq_true, Bool.not_true]
        refine wW.callV 0 (viewL_cons_of (view_int) (viewL_cons_of (view_int) (viewL_cons_of (view_int) viewL_nil_of))) ?_
        simp (disch := omega) only [Tryd.ntmps68, Tryd.results68, go_sem]
        exact fin_pI hp rfl rfl
      · have hp : pint s = none := pint_none fun n h1 h2 h3 h4 => hr (by
          rw [hv] at h1
          simp only [Lib.NumEnd.ok.injEq] at h1
          omega)
        have e : inR v (-999999999) 999999999 = false := by
          cases h : inR v (-999999999) 999999999 with
          | false => rfl
          | true => exact absurd (inR_of h) hr
        rw [e] at wW
        simp (disch := omega) only [Tryd.ntmps68, Tryd.results68, go_sem]
        refine wA.callV 0 (viewL_cons_of view_str viewL_nil_of) ?_
        simp (disch := omega) only [Tryd.ntmps68, Tryd.results68, go_sem]
        refine wF.callV 0 (viewL_cons_of (view_int) viewL_nil_of) ?_
        simp (disch := omega) only [Tryd.ntmps68, Tryd.results68, go_sem, he, beq_self_eq_true, Bool.not_true]
        refine wW.callV 0 (viewL_cons_of (view_int) (viewL_cons_of (view_int) (viewL_cons_of (view_int) viewL_nil_of))) ?_
        simp (disch := omega) only [Tryd.ntmps68, Tryd.results68, go_sem]
        exact fin_pI hp rfl rfl
    · have hp : pint s = none := pint_none fun n h1 h2 h3 h4 => he (by
        rw [hv] at h1
        simp only [Lib.NumEnd.ok.injEq] at h1
        rw [h1]; exact h2)
      have he2 := beq_eq_false_iff_ne.2 he
      simp (disch := omega) only [Tryd.ntmps68, Tryd.results68, go_sem]
      refine wA.callV 0 (viewL_cons_of view_str viewL_nil_of) ?_
      simp (disch := omega) only [Tryd.ntmps68, Tryd.results68, go_sem]
      refine wF.callV 0 (viewL_cons_of (view_int) viewL_nil_of) ?_
      simp (disch := omega) only [Tryd.ntmps68, Tryd.results68, go_sem, he2, Bool.not_false]
      exact fin_pI hp rfl rfl
  · obtain ⟨x, wA⟩ := Tryd.atoi_n s (fun v hv => hok ⟨v, hv⟩) hs
    have hp : pint s = none := pint_none fun n h1 _ _ _ => hok ⟨n, h1⟩
    simp (disch := omega) only [Tryd.ntmps68, Tryd.results68, go_sem]
    refine wA.callV 0 (viewL_cons_of view_str viewL_nil_of) ?_
    simp (disch := omega) only [Tryd.ntmps68, Tryd.results68, go_sem]
    exact fin_pI hp rfl rfl
end Go.Sh

/-
  Heaps changed: plain.
-/
namespace Go.Sh
set_option linter.unusedSimpArgs false
set_option linter.unusedVariables false
open Go

theorem hset_map (H : Heap) (b x : Nat) (k : Option Blk) : (H.set b k).map x = if x = b then k else H.map x := rfl
theorem hset_nb (H : Heap) (b : Nat) (k : Option Blk) : (H.set b k).nb = H.nb := rfl
theorem hpush_map (H : Heap) (x : Nat) (k : Blk) : (H.push k).map x = if x = H.nb then some k else H.map x := rfl
theorem hpush_nb (H : Heap) (k : Blk) : (H.push k).nb = H.nb + 1 := rfl
end Go.Sh

/-
  Contracts: an item moved to another block. Of the program.
-/
namespace Go.Sh
set_option linter.unusedSimpArgs false
set_option linter.unusedVariables false
open Go Go.Proofs

def top (L : List Int) (k : Nat) : Int := (L.take k).foldl max (-1)
theorem top_zero (L : List Int) : top L 0 = -1 := rfl
theorem top_succ {L : List Int} {k : Nat} (h : k < L.length) : top L (k + 1) = max (top L k) (L.getD k 0) := by
  rw [top, List.take_succ_eq_append_getElem h, List.foldl_append]
  simp [top, h]
theorem top_ge (L : List Int) : ∀ k, k ≤ L.length → -1 ≤ top L k
  | 0, _ => by rw [top_zero]; omega
  | k + 1, h => by
    have := top_ge L k (by omega)
    rw [top_succ (by omega)]; omega
theorem top_part {L : List Int} (h : isPart L = true) : ∀ k, k ≤ L.length → top L k ≤ 7
  | 0, _ => by rw [top_zero]; omega
  | k + 1, hk => by
    have := top_part h k (by omega)
    have := (isPart_bound h (i := k) (by omega)).2
    rw [top_succ (by omega)]; omega
def moveOk (L : List Int) (it bl : Int) : Bool := isPart L && (inR it 0 ((L.length : Int) - 1) && inR bl 0 (top L L.length + 1))
def moveTo (L : List Int) (it bl : Int) : List Int := if moveOk L it bl = true then canon (L.set it.toNat bl) else L
theorem moveTo_length (L : List Int) (it bl : Int) : (moveTo L it bl).length = L.length := by
  unfold moveTo
  split
  · rw [canon_length]; simp
  · rfl

theorem fin_tup {n z cap b : Nat} {ex e2 : Bool} {cs : List SV} {u : Value} {H : Heap} (hn : cs.length = n * z) (hv : cs.all isVal = true) (hb : H.map b = some ⟨cs, e2⟩) :
    Fin (fun r H => ∃ r0, r = .tup [r0, .val u] ∧ FlatRes n z cs r0 H) (.tup [.own b 0 n cap z ex, .val u]) H := by
  obtain ⟨H2, h1, _, h3, h4⟩ := flat_fin (ex := ex) (cap := cap) hn hv hb
  exact ⟨H2, h1, by simp [noRow, noRowL], h3, _, rfl, h4⟩

end Go.Sh

/-
  Drawing numbers from bytes: the cursor, a byte, a number below a bound, one of a list.
-/
namespace Go.Sh
set_option linter.unusedSimpArgs false
set_option linter.unusedVariables false
open Go Go.Proofs

def bys (B : List Int) : List SV := B.map fun b => .val (.int .u8 b)
def rby (B : List Int) : SV := .row B.length false (bys B)
theorem bys_length (B : List Int) : (bys B).length = B.length := by simp [bys]
theorem bys_get {B : List Int} {i : Nat} (h : i < B.length) : (bys B)[i]? = some (.val (.int .u8 (B.getD i 0))) := by simp [bys, h]
def curB (B : List Int) (i : Nat) (h : Int) : Blk := ⟨[rby B, .val (.int .i64 i), .val (.int .i64 h)], true⟩
def Cur (B : List Int) (H : Heap) (cb : Nat) : Prop := ∃ (i : Nat) (h : Int), i ≤ B.length ∧ H.map cb = some (curB B i h)
/-- The cursor has moved, nothing else. -/
def CurS (B : List Int) (H : Heap) (cb : Nat) (H' : Heap) : Prop := ∃ (i : Nat) (h : Int), i ≤ B.length ∧ H' = H.set cb (some (curB B i h))
theorem hset_set (H : Heap) (b : Nat) (x y : Option Blk) : (H.set b x).set b y = H.set b y := by
  refine Heap.ext' (fun z => ?_) rfl
  simp only [hset_map]
  split <;> rfl
theorem CurS.cur {B : List Int} {H H' : Heap} {cb : Nat} (h : CurS B H cb H') : Cur B H' cb := by
  obtain ⟨i, x, hi, rfl⟩ := h
  exact ⟨i, x, hi, by rw [hset_map, if_pos rfl]⟩
theorem CurS.trans {B : List Int} {H H' H'' : Heap} {cb : Nat} (h : CurS B H cb H') (g : CurS B H' cb H'') : CurS B H cb H'' := by
  obtain ⟨i, x, hi, rfl⟩ := h
  obtain ⟨k, y, hk, rfl⟩ := g
  exact ⟨k, y, hk, hset_set _ _ _ _⟩
theorem Cur.s {B : List Int} {H : Heap} {cb : Nat} (h : Cur B H cb) : CurS B H cb H := by
  obtain ⟨i, x, hi, e⟩ := h
  exact ⟨i, x, hi, (Heap.set_self e).symm⟩
theorem CurS.nb {B : List Int} {H H' : Heap} {cb : Nat} (h : CurS B H cb H') : H'.nb = H.nb := by obtain ⟨i, x, hi, rfl⟩ := h; rfl
theorem CurS.map {B : List Int} {H H' : Heap} {cb b : Nat} (h : CurS B H cb H') (hb : b ≠ cb) : H'.map b = H.map b := by obtain ⟨i, x, hi, rfl⟩ := h; rw [hset_map, if_neg hb]
theorem kand255 (x : Int) : 0 ≤ kand .i64 x 255 ∧ kand .i64 x 255 ≤ 255 := by
  have h : ((BitVec.ofInt 64 x) &&& (BitVec.ofInt 64 255)).toNat ≤ 255 := by
    rw [BitVec.toNat_and]
    exact Nat.le_trans Nat.and_le_right (by decide)
  generalize hn : ((BitVec.ofInt 64 x) &&& (BitVec.ofInt 64 255)).toNat = n at *
  have e : kand .i64 x 255 = IntKind.i64.wrap (n : Int) := by rw [← hn]; rfl
  rw [e, wrap_id (by omega) (by omega)]; omega

def NewQ (B : List Int) (H : Heap) (r : SV) (H' : Heap) : Prop := ∃ h, r = .optr H.nb 0 ∧ H' = H.push (curB B 0 h)
set_option maxHeartbeats 2000000 in
theorem Tryd.l1New_ok (B : List Int) (hB : B.length ≤ 1048576) (H : Heap) : CallS Tryd.prog 78 [rby B] H (NewQ B H) := by
  have hfin : ∀ h : Int, NewQ B H (SV.optr H.nb 0) (H.push ⟨[.row B.length false (bys B), .val (.int .i64 0), .val (.int .i64 h)], true⟩) := fun h => ⟨h, rfl, rfl⟩
  refine CallS.of_body Tryd.func78 rfl (by kernel_rfl) (by simp [Tryd.ntmps78]) ?_
  refine SW_of_vc Tryd.mixed _ _ _ (by kernel_rfl) ?_
  simp (disch := omega) only [Tryd.ntmps78, Tryd.results78, go_sem, rby]
  refine LoopW.loop (fun y : Nat × Int => ⟨ofL [(0, rby B), (3, .val (.int .i64 y.2)), (4, .val (.int .i64 y.1))], H⟩) (fun y => y.1 ≤ B.length) (fun y => B.length - y.1) (0, 10101 + B.length) (by simp) (Wk.of (by simp only [go_sem, ↓List.forall_mem_cons, List.not_mem_nil, false_implies, implies_true, and_true, true_and, and_self, ri_eq, Int.natCast_add, Int.cast_ofNat_Int, rby]; try simp) rfl) ?_
  rintro ⟨i, h⟩ hi
  simp only at hi
  refine SW_of_vc Tryd.mixed _ _ _ (by kernel_rfl) ?_
  by_cases hlt : i < B.length
  · have gb := bys_get hlt
    by_cases h4 : i < 4000
    · simp (disch := omega) only [Tryd.ntmps78, Tryd.results78, go_sem, rby, gb]
      exact ⟨(i + 1, kand .i64 (IntKind.i64.wrap (IntKind.i64.wrap (IntKind.i64.wrap (h * 131) + IntKind.i64.wrap (B.getD i 0)) + 7)) 1073741823), hlt, by show B.length - (i + 1) < B.length - i; omega, Wk.of (by simp only [go_sem, ↓List.forall_mem_cons, List.not_mem_nil, false_implies, implies_true, and_true, true_and, and_self, ri_eq, Int.natCast_add, Int.cast_ofNat_Int, rby]; try simp) rfl⟩
    · simp (disch := omega) only [Tryd.ntmps78, Tryd.results78, go_sem, rby, gb]
      exact hfin h
  · simp (disch := omega) only [Tryd.ntmps78, Tryd.results78, go_sem, rby]
    exact hfin h

def ByteQ (B : List Int) (H : Heap) (cb : Nat) (r : SV) (H' : Heap) : Prop := ∃ v : Int, r = .val (.int .i64 v) ∧ 0 ≤ v ∧ v ≤ 255 ∧ CurS B H cb H'
set_option maxHeartbeats 2000000 in
theorem Tryd.l1Byte_ok (B : List Int) (hB : B.length ≤ 1048576) (H : Heap) (cb : Nat) (hc : Cur B H cb) : CallS Tryd.prog 97 [.optr cb 0] H (ByteQ B H cb) := by
  obtain ⟨i, h, hi, hm⟩ := hc
  rw [curB] at hm
  refine CallS.of_body Tryd.func97 rfl (by kernel_rfl) (by simp [Tryd.ntmps97]) ?_
  refine SW_of_vc Tryd.mixed _ _ _ (by kernel_rfl) ?_
  by_cases hlt : i < B.length
  · have gb := bys_get hlt
    simp (disch := omega) only [Tryd.ntmps97, Tryd.results97, go_sem, rby, hm, hset_map, gb]
    have hk := kand255
    exact ⟨_, rfl, (hk _).1, (hk _).2, i + 1, _, hlt, hset_set _ _ _ _⟩
  · simp (disch := omega) only [Tryd.ntmps97, Tryd.results97, go_sem, rby, hm, hset_map]
    have hk := kand255
    exact ⟨_, rfl, (hk _).1, (hk _).2, i, _, hi, rfl⟩

def BelowQ (B : List Int) (n : Int) (H : Heap) (cb : Nat) (r : SV) (H' : Heap) : Prop := ∃ v : Int, r = .val (.int .i64 v) ∧ 0 ≤ v ∧ (0 < n → v < n) ∧ (n ≤ 0 → v = 0) ∧ CurS B H cb H'
set_option maxHeartbeats 2000000 in
theorem Tryd.l1Below_ok (B : List Int) (hB : B.length ≤ 1048576) (n : Int) (hn : n ≤ 256) (H : Heap) (cb : Nat) (hc : Cur B H cb) : CallS Tryd.prog 79 [.optr cb 0, .val (.int .i64 n)] H (BelowQ B n H cb) := by
  have w := Tryd.l1Byte_ok B hB H cb hc
  refine CallS.of_body Tryd.func79 rfl (by kernel_rfl) (by simp [Tryd.ntmps79]) ?_
  refine SW_of_vc Tryd.mixed _ _ _ (by kernel_rfl) ?_
  by_cases h0 : n ≤ 0
  · have hfin : BelowQ B n H cb (.val (.int .i64 0)) H := ⟨0, rfl, by omega, by omega, fun _ => rfl, hc.s⟩
    simp (disch := omega) only [Tryd.ntmps79, Tryd.results79, go_sem]
    exact hfin
  · simp (disch := omega) only [Tryd.ntmps79, Tryd.results79, go_sem]
    refine w.callX ?_
    rintro r H' ⟨v, rfl, v0, v1, hs⟩
    have h1 : 0 ≤ v.tmod n := Int.tmod_nonneg n v0
    have h2 : v.tmod n < n := Int.tmod_lt_of_pos v (by omega)
    have hfin : BelowQ B n H cb (.val (.int .i64 (v.tmod n))) H' := ⟨_, rfl, h1, fun _ => h2, fun h => by omega, hs⟩
    have hne : ¬ n = 0 := by omega
    simp (disch := omega) only [Tryd.ntmps79, Tryd.results79, go_sem, hne]
    exact hfin
theorem BelowQ.ne {B : List Int} {n : Int} {H : Heap} {cb : Nat} (hc : Cur B H cb) : ∃ r H', BelowQ B n H cb r H' := ⟨_, H, 0, rfl, by omega, fun h => h, fun _ => rfl, hc.s⟩

def OnceQ (B : List Int) (H : Heap) (cb : Nat) (r : SV) (H' : Heap) : Prop := ∃ b : Bool, r = .val (.bool b) ∧ CurS B H cb H'
theorem OnceQ.ne {B : List Int} {H : Heap} {cb : Nat} (hc : Cur B H cb) : ∃ r H', OnceQ B H cb r H' := ⟨_, H, true, rfl, hc.s⟩
theorem Tryd.l1Once_ok (B : List Int) (hB : B.length ≤ 1048576) (n : Int) (hn : n ≤ 256) (H : Heap) (cb : Nat) (hc : Cur B H cb) : CallS Tryd.prog 94 [.optr cb 0, .val (.int .i64 n)] H (OnceQ B H cb) := by
  have w := Tryd.l1Below_ok B hB n hn H cb hc
  refine CallS.of_body Tryd.func94 rfl (by kernel_rfl) (by simp [Tryd.ntmps94]) ?_
  refine SW_of_vc Tryd.mixed _ _ _ (by kernel_rfl) ?_
  simp (disch := omega) only [Tryd.ntmps94, Tryd.results94, go_sem]
  refine w.callX ?_
  rintro r H' ⟨v, rfl, v0, v1, v2, hs⟩
  have hfin : ∀ b, OnceQ B H cb (.val (.bool b)) H' := fun b => ⟨b, rfl, hs⟩
  simp (disch := omega) only [Tryd.ntmps94, Tryd.results94, go_sem]
  exact hfin _

def PickQ (B : List Int) (L : List Int) (H : Heap) (cb : Nat) (r : SV) (H' : Heap) : Prop := ∃ v : Int, r = .val (.int .i64 v) ∧ v ∈ L ∧ CurS B H cb H'
theorem PickQ.ne {B L : List Int} {H : Heap} {cb : Nat} (hL : L ≠ []) (hc : Cur B H cb) : ∃ r H', PickQ B L H cb r H' := ⟨_, H, L.head hL, rfl, List.head_mem hL, hc.s⟩
theorem Tryd.l1Pick_ok (B : List Int) (hB : B.length ≤ 1048576) (L : List Int) (hL : L ≠ []) (hl : L.length ≤ 256) (H : Heap) (cb lb : Nat) (ex e2 : Bool) (hc : Cur B H cb) (hb : H.map lb = some ⟨ints L, e2⟩) (hne : lb ≠ cb) :
    CallS Tryd.prog 80 [.optr cb 0, .own lb 0 L.length L.length 1 ex] H (PickQ B L H cb) := by
  have w := Tryd.l1Below_ok B hB L.length (by omega) H cb hc
  have hl0 : 0 < L.length := List.length_pos_iff.2 hL
  refine CallS.of_body Tryd.func80 rfl (by kernel_rfl) (by simp [Tryd.ntmps80]) ?_
  refine SW_of_vc Tryd.mixed _ _ _ (by kernel_rfl) ?_
  simp (disch := omega) only [Tryd.ntmps80, Tryd.results80, go_sem]
  refine w.callX ?_
  rintro r H' ⟨v, rfl, v0, v1, v2, hs⟩
  have v1 := v1 (by omega)
  obtain ⟨x, rfl⟩ := Int.eq_ofNat_of_zero_le v0
  have hx : x < L.length := by omega
  have hm : H'.map lb = some ⟨ints L, e2⟩ := by rw [hs.map hne, hb]
  have gx : (ints L)[x]? = some (.val (.int .i64 (L.getD x 0))) := ints_get hx
  have hfin : PickQ B L H cb (.val (.int .i64 (L.getD x 0))) H' := ⟨_, rfl, by simp [hx], hs⟩
  simp (disch := omega) only [Tryd.ntmps80, Tryd.results80, go_sem, hm, gx]
  exact hfin
end Go.Sh

/-
  Drawing a matrix.
-/
namespace Go.Sh
set_option linter.unusedSimpArgs false
set_option linter.unusedVariables false
open Go Go.Proofs

/-- A list of rows in memory of its own, from the name lo on. -/
structure MatH (H : Heap) (lo ob : Nat) (cs : List SV) (nm : Nat → Nat) (M : List (List Int)) : Prop where
  ln : cs.length = M.length
  o : H.map ob = some ⟨cs, false⟩
  row : ∀ i, i < M.length → ∃ e e2, cs[i]? = some (.own (nm i) 0 (mrow M i).length (mrow M i).length 1 e) ∧ H.map (nm i) = some ⟨ints (mrow M i), e2⟩
  inj : ∀ i j, i < M.length → j < M.length → nm i = nm j → i = j
  lo1 : lo ≤ ob ∧ ob < H.nb
  lo2 : ∀ i, i < M.length → lo ≤ nm i ∧ nm i < H.nb ∧ nm i ≠ ob
theorem MatH.fr {H H' : Heap} {lo ob : Nat} {cs : List SV} {nm : Nat → Nat} {M : List (List Int)} (h : MatH H lo ob cs nm M) (hn : H.nb ≤ H'.nb) (hf : ∀ b, lo ≤ b → b < H.nb → H'.map b = H.map b) : MatH H' lo ob cs nm M := by
  refine ⟨h.ln, by rw [hf _ h.lo1.1 h.lo1.2, h.o], fun i hi => ?_, h.inj, ⟨h.lo1.1, by have := h.lo1.2; omega⟩, fun i hi => ?_⟩
  · obtain ⟨e, e2, h1, h2⟩ := h.row i hi
    obtain ⟨k1, k2, k3⟩ := h.lo2 i hi
    exact ⟨e, e2, h1, by rw [hf _ k1 k2, h2]⟩
  · obtain ⟨k1, k2, k3⟩ := h.lo2 i hi
    exact ⟨k1, by omega, k3⟩
theorem MatH.low {H : Heap} {lo lo2 ob : Nat} {cs : List SV} {nm : Nat → Nat} {M : List (List Int)} (h : MatH H lo ob cs nm M) (hl : lo2 ≤ lo) : MatH H lo2 ob cs nm M :=
  ⟨h.ln, h.o, h.row, h.inj, ⟨by have := h.lo1; omega, h.lo1.2⟩, fun i hi => by have := h.lo2 i hi; exact ⟨by omega, this.2⟩⟩
theorem mrow_lt {M N : List (List Int)} {i : Nat} (h : i < M.length) : mrow (M ++ N) i = mrow M i := by simp [mrow, h, List.getElem?_append_left h]
theorem mrow_at {M : List (List Int)} {L : List Int} : mrow (M ++ [L]) M.length = L := by simp [mrow]
theorem MatH.snoc {H H' : Heap} {lo ob ob' r l : Nat} {cs : List SV} {nm : Nat → Nat} {M : List (List Int)} {L : List Int} {e e2 : Bool} (h : MatH H lo ob cs nm M) (hl : l = L.length) (ho : H'.map ob' = some ⟨cs ++ [.own r 0 l l 1 e], false⟩) (hr : H'.map r = some ⟨ints L, e2⟩)
    (hf : ∀ b, lo ≤ b → b < H.nb → b ≠ ob → H'.map b = H.map b) (hn : H.nb ≤ H'.nb) (h1 : H.nb ≤ ob' ∧ ob' < H'.nb) (h2 : H.nb ≤ r ∧ r < H'.nb) (hne : r ≠ ob') : MatH H' lo ob' (cs ++ [.own r 0 l l 1 e]) (fun i => if i < M.length then nm i else r) (M ++ [L]) := by
  subst hl
  have hlo := h.lo1
  refine ⟨by simp [h.ln], ho, fun i hi => ?_, fun i j hi hj hij => ?_, ⟨by omega, h1.2⟩, fun i hi => ?_⟩
  · by_cases hlt : i < M.length
    · obtain ⟨e, e2, g1, g2⟩ := h.row i hlt
      obtain ⟨k1, k2, k3⟩ := h.lo2 i hlt
      refine ⟨e, e2, ?_, ?_⟩
      · rw [List.getElem?_append_left (by rw [h.ln]; exact hlt), g1, mrow_lt hlt, if_pos hlt]
      · rw [if_pos hlt, mrow_lt hlt, hf _ k1 k2 k3, g2]
    · have : i = M.length := by simp at hi; omega
      subst this
      exact ⟨e, e2, by rw [mrow_at, if_neg (by omega), ← h.ln]; simp, by rw [if_neg (by omega), mrow_at, hr]⟩
  · simp only [List.length_append, List.length_singleton] at hi hj
    by_cases a : i < M.length <;> by_cases b : j < M.length
    · simp only [a, b, if_true] at hij; exact h.inj i j a b hij
    · simp only [a, b, if_true, if_false] at hij
      have := h.lo2 i a; omega
    · simp only [a, b, if_true, if_false] at hij
      have := h.lo2 j b; omega
    · omega
  · simp only [List.length_append, List.length_singleton] at hi
    show lo ≤ (if i < M.length then nm i else r) ∧ (if i < M.length then nm i else r) < H'.nb ∧ (if i < M.length then nm i else r) ≠ ob'
    split
    · rename_i a
      have := h.lo2 i a
      exact ⟨this.1, by omega, by omega⟩
    · exact ⟨by omega, h2.2, hne⟩
theorem mset_row_ne {M : List (List Int)} {i k j : Nat} {x : Int} (h : j ≠ i) : mrow (mset M i k x) j = mrow M j := by
  simp [mrow, mset, List.getElem?_set, Ne.symm h]
theorem mset_row_eq {M : List (List Int)} {i k : Nat} {x : Int} (h : i < M.length) : mrow (mset M i k x) i = (mrow M i).set k x := by
  simp [mrow, mset, List.getElem?_set, h]
theorem MatH.set {H : Heap} {lo ob i k : Nat} {cs : List SV} {nm : Nat → Nat} {M : List (List Int)} {x : Int} {e2 : Bool} (h : MatH H lo ob cs nm M) (hi : i < M.length) : MatH (H.set (nm i) (some ⟨ints ((mrow M i).set k x), e2⟩)) lo ob cs nm (mset M i k x) := by
  have hl : (mset M i k x).length = M.length := mset_length ..
  have hi2 := h.lo2 i hi
  refine ⟨by rw [hl, h.ln], by rw [hset_map, if_neg (by omega), h.o], fun j hj => ?_, fun a b ha hb => h.inj a b (by omega) (by omega), h.lo1, fun j hj => h.lo2 j (by omega)⟩
  rw [hl] at hj
  obtain ⟨e, e3, h1, h2⟩ := h.row j hj
  by_cases hji : j = i
  · subst hji
    rw [mset_row_eq hi, List.length_set]
    exact ⟨e, e2, h1, by rw [hset_map, if_pos rfl]⟩
  · rw [mset_row_ne hji]
    exact ⟨e, e3, h1, by rw [hset_map, if_neg (fun g => hji (h.inj _ _ hj hi g)), h2]⟩
/-- The part of a heap from a name on. -/
def Heap.frm (H : Heap) (n : Nat) : Heap := ⟨fun b => if n ≤ b then H.map b else none, H.nb⟩
theorem frm_map (H : Heap) (n b : Nat) : (H.frm n).map b = if n ≤ b then H.map b else none := rfl
theorem MatH.view {H : Heap} {lo ob : Nat} {cs : List SV} {nm : Nat → Nat} {M : List (List Int)} {f cap : Nat} {e : Bool} (h : MatH H lo ob cs nm M) : view (H.frm lo) (f + 2) (.own ob 0 M.length cap 1 e) = some (rr M) := by
  have ho : (H.frm lo).map ob = some ⟨cs, false⟩ := by rw [frm_map, if_pos h.lo1.1, h.o]
  have hL : viewL (H.frm lo) (f + 1) cs = some (rows M) := by
    have hr : ∀ i, i < M.length → ∃ s, cs[i]? = some s ∧ Sh.view (H.frm lo) (f + 1) s = some (ri (mrow M i)) := fun i hi => by
      obtain ⟨e, e2, h1, h2⟩ := h.row i hi
      have k := h.lo2 i hi
      exact ⟨_, h1, view_own (L := mrow M i) (e2 := e2) (by rw [frm_map, if_pos k.1, h2]) rfl⟩
    have hln := h.ln
    clear h ho
    induction cs generalizing M with
    | nil =>
      have : M = [] := List.length_eq_zero_iff.1 hln.symm
      subst this
      exact viewL_nil_of
    | cons s cs ih =>
      cases M with
      | nil => simp at hln
      | cons L M =>
        refine viewL_cons_of ?_ (ih (M := M) (fun i hi => ?_) (by simpa using hln))
        · obtain ⟨s', h1, h2⟩ := hr 0 (by simp)
          simp at h1; subst h1
          exact h2
        · obtain ⟨s', h1, h2⟩ := hr (i + 1) (by simpa using hi)
          exact ⟨s', by simpa using h1, h2⟩
  simp only [Sh.view, ho, Nat.mul_one, List.drop_zero]
  have hle : M.length ≤ cs.length := by rw [h.ln]; omega
  rw [if_pos (by omega), ← h.ln, List.take_length, hL]
  simp only [rr, h.ln]
/-- What a drawing leaves behind. -/
structure DS (B : List Int) (cb : Nat) (H H' : Heap) : Prop where
  cur : Cur B H' cb
  nb : H.nb ≤ H'.nb
  fr : ∀ b, b < H.nb → b ≠ cb → H'.map b = H.map b
theorem DS.refl {B : List Int} {cb : Nat} {H : Heap} (h : Cur B H cb) : DS B cb H H := ⟨h, Nat.le_refl _, fun _ _ _ => rfl⟩
theorem DS.trans {B : List Int} {cb : Nat} {H H1 H2 : Heap} (h : DS B cb H H1) (g : DS B cb H1 H2) : DS B cb H H2 :=
  ⟨g.cur, Nat.le_trans h.nb g.nb, fun b hb hc => by rw [g.fr b (Nat.lt_of_lt_of_le hb h.nb) hc, h.fr b hb hc]⟩
theorem CurS.ds {B : List Int} {cb : Nat} {H H' : Heap} (h : CurS B H cb H') : DS B cb H H' := ⟨h.cur, by rw [h.nb]; exact Nat.le_refl _, fun b _ hc => h.map hc⟩
theorem DS.push {B : List Int} {cb : Nat} {H : Heap} (h : Cur B H cb) (hc : cb < H.nb) (k : Blk) : DS B cb H (H.push k) := by
  obtain ⟨i, x, hi, e⟩ := h
  exact ⟨⟨i, x, hi, by rw [hpush_map, if_neg (by omega), e]⟩, by rw [hpush_nb]; omega, fun b hb _ => by rw [hpush_map, if_neg (by omega)]⟩
theorem DS.setF {B : List Int} {cb : Nat} {H H1 : Heap} (h : DS B cb H H1) (b : Nat) (hb : H.nb ≤ b) (hc : b ≠ cb) (k : Option Blk) : DS B cb H (H1.set b k) := by
  obtain ⟨i, x, hi, e⟩ := h.cur
  exact ⟨⟨i, x, hi, by rw [hset_map, if_neg (Ne.symm hc), e]⟩, h.nb, fun z hz hzc => by rw [hset_map, if_neg (by omega), h.fr z hz hzc]⟩
theorem repI2 : rep [SV.val (.int .i64 0)] 2 = [SV.val (.int .i64 0), SV.val (.int .i64 0)] := rfl
theorem repI3 : rep [SV.val (.int .i64 0)] 3 = [SV.val (.int .i64 0), SV.val (.int .i64 0), SV.val (.int .i64 0)] := rfl
theorem repI6 : rep [SV.val (.int .i64 0)] 6 = [SV.val (.int .i64 0), SV.val (.int .i64 0), SV.val (.int .i64 0), SV.val (.int .i64 0), SV.val (.int .i64 0), SV.val (.int .i64 0)] := rfl
theorem repI10 : rep [SV.val (.int .i64 0)] 10 = [SV.val (.int .i64 0), SV.val (.int .i64 0), SV.val (.int .i64 0), SV.val (.int .i64 0), SV.val (.int .i64 0), SV.val (.int .i64 0), SV.val (.int .i64 0), SV.val (.int .i64 0), SV.val (.int .i64 0), SV.val (.int .i64 0)] := rfl
attribute [go_sem high] repI2 repI3 repI6 repI10
end Go.Sh

/-
  Results that are known as contents of some kind alone.
-/
namespace Go.Sh
set_option linter.unusedSimpArgs false
set_option linter.unusedVariables false
open Go Go.RowKit Go.Proofs

section
variable {P : Program}
/-- f writes nothing that came in; its result reads as one of S, in memory of its own. -/
def PCallE (P : Program) (f : FuncId) (args : List SV) (S : SV → Prop) : Prop :=
  Enters P f ∧ ∀ w vs, LRel (fun _ => False) w noj args vs → TabOk (fun _ => False) w → Calls P f vs.toArray w (fun e w' => ∃ v T, S T ∧ e = .returned v ∧ Below w.heap.size w w' ∧ VRel (fun k => k < w.heap.size) w' noj T v)
theorem FCall.pcallE {f : FuncId} {args : List SV} {R : SV → Heap → Prop} {S : SV → Prop} (h : FCall P f args R) (fu : Nat) (hr : ∀ r H, R r H → ∃ T, view H fu r = some T ∧ S T) : PCallE P f args S := by
  refine ⟨h.1, fun w vs hl ht => (h.2 w vs hl ht).mono ?_⟩
  rintro e w' ⟨v, r, j, H, h1, h2, h3, h4, h5, h6, h7, h8⟩
  have hlive : Live (fun k => k < w.heap.size) j H w' := h3.liveN h7 (fun k hk => by have := h5 k hk; omega)
  obtain ⟨T, k1, k2⟩ := hr r H h8
  exact ⟨v, T, k2, h1, h2, view_sound hlive fu r T v k1 (VRel.anyO r v h6 h4)⟩
theorem PCallE.callE {f : FuncId} {args args' : List SV} {S : SV → Prop} {H : Heap} {K : SV → Heap → Prop} (h : PCallE P f args' S) (fu : Nat) (hv : viewL H fu args = some args') (k : ∀ T, S T → K T H) : @CallX P f args H ⟨K⟩ := by
  refine ⟨h.1, fun j w vs r hl => ?_⟩
  have hl' := viewL_sound r.live0 fu args args' vs hv (LRel.tr (Tr.weaken w (fun _ h => h.elim)) (fun _ _ h => h) args vs hl)
  refine (h.2 w vs hl' (r.tab.tr (Tr.weaken w (fun _ h => h.elim)))).mono ?_
  rintro e w' ⟨v, T, hS, h1, h2, h3⟩
  obtain ⟨r', nx⟩ := r.below h2
  refine ⟨T, v, j, H, h1, r', ?_, nx, k T hS⟩
  exact VRel.tr (Tr.weaken w' (fun k hk => r.own_lt hk)) (by intro b p h; simp [noj] at h) T v h3
end
/-- A matrix, constraints, labels: what a drawing gives back. -/
def R3 (S : SV → Prop) (r : SV) (H : Heap) : Prop := ∃ T, view H 3 r = some T ∧ S T
def part (H : Heap) (p : Nat → Prop) [DecidablePred p] : Heap := ⟨fun b => if p b then H.map b else none, H.nb⟩
theorem part_sub (H : Heap) (p : Nat → Prop) [DecidablePred p] : Sub (part H p) H := ⟨rfl, fun b => by
  show (if p b then H.map b else none) = none ∨ (if p b then H.map b else none) = H.map b
  split
  · exact .inr rfl
  · exact .inl rfl⟩
theorem part_map {H : Heap} {p : Nat → Prop} [DecidablePred p] {b : Nat} (h : p b) : (part H p).map b = H.map b := if_pos h
end Go.Sh

/-
  Matrices in a heap of any kind: seen as contents; cut out.
-/
namespace Go.Sh
set_option linter.unusedSimpArgs false
set_option linter.unusedVariables false
open Go Go.RowKit Go.Proofs

theorem MatH.viewH {H : Heap} {lo ob : Nat} {cs : List SV} {nm : Nat → Nat} {M : List (List Int)} {f cap : Nat} {e : Bool} (h : MatH H lo ob cs nm M) : Sh.view H (f + 2) (.own ob 0 M.length cap 1 e) = some (rr M) := by
  have hL : viewL H (f + 1) cs = some (rows M) := by
    have hr : ∀ i, i < M.length → ∃ s, cs[i]? = some s ∧ Sh.view H (f + 1) s = some (ri (mrow M i)) := fun i hi => by
      obtain ⟨e, e2, h1, h2⟩ := h.row i hi
      exact ⟨_, h1, view_own (L := mrow M i) (e2 := e2) h2 rfl⟩
    have hln := h.ln
    clear h
    induction cs generalizing M with
    | nil =>
      have : M = [] := List.length_eq_zero_iff.1 hln.symm
      subst this
      exact viewL_nil_of
    | cons s cs ih =>
      cases M with
      | nil => simp at hln
      | cons L M =>
        refine viewL_cons_of ?_ (ih (M := M) (fun i hi => ?_) (by simpa using hln))
        · obtain ⟨s', h1, h2⟩ := hr 0 (by simp)
          simp at h1; subst h1
          exact h2
        · obtain ⟨s', h1, h2⟩ := hr (i + 1) (by simpa using hi)
          exact ⟨s', by simpa using h1, h2⟩
  simp only [Sh.view, h.o, Nat.mul_one, List.drop_zero]
  have hle : M.length ≤ cs.length := by rw [h.ln]; omega
  rw [if_pos (by omega), ← h.ln, List.take_length, hL]
  simp only [rr, h.ln]
theorem noRowL_of {cs : List SV} (h : ∀ s ∈ cs, noRow s = true) : noRowL cs = true := by
  induction cs with
  | nil => rfl
  | cons s cs ih => simp only [noRowL, h s (by simp), ih fun s hs => h s (by simp [hs]), Bool.and_self]
theorem MatH.part {H : Heap} {lo ob : Nat} {cs : List SV} {nm : Nat → Nat} {M : List (List Int)} (h : MatH H lo ob cs nm M) (p : Nat → Prop) [DecidablePred p] (h1 : p ob) (h2 : ∀ i, i < M.length → p (nm i)) : MatH (Sh.part H p) lo ob cs nm M :=
  ⟨h.ln, by rw [part_map h1, h.o], fun i hi => by
    obtain ⟨e, e2, k1, k2⟩ := h.row i hi
    exact ⟨e, e2, k1, by rw [part_map (h2 i hi), k2]⟩, h.inj, h.lo1, h.lo2⟩
theorem MatH.nr {H : Heap} {lo ob : Nat} {cs : List SV} {nm : Nat → Nat} {M : List (List Int)} (h : MatH H lo ob cs nm M) : noRowL cs = true :=
  noRowL_of fun s hs => by
    obtain ⟨i, hi, rfl⟩ := List.getElem_of_mem hs
    obtain ⟨e, e2, h1, h2⟩ := h.row i (by rw [← h.ln]; exact hi)
    rw [List.getElem?_eq_getElem hi] at h1
    simp at h1
    rw [h1]; rfl
def Rect (M : List (List Int)) (n : Nat) : Prop := ∀ i, i < M.length → (mrow M i).length = n
theorem Rect.set {M : List (List Int)} {n i k : Nat} {x : Int} (h : Rect M n) : Rect (mset M i k x) n := fun j hj => by
  rw [mset_length] at hj
  rw [mset_row_length]; exact h j hj
theorem Rect.snoc {M : List (List Int)} {n : Nat} {L : List Int} (h : Rect M n) (hL : L.length = n) : Rect (M ++ [L]) n := fun j hj => by
  by_cases hlt : j < M.length
  · rw [mrow_lt hlt]; exact h j hlt
  · have : j = M.length := by simp at hj; omega
    subst this; rw [mrow_at]; exact hL
end Go.Sh

/-
  FormatPartition of the program; the law walked.
-/
namespace Go.Sh
set_option linter.unusedSimpArgs false
set_option linter.unusedVariables false
open Go Go.Proofs

def fpF (M : List (List Int)) : Nat × Nat × Nat → St
  | (0, _, nb) => ⟨ofL [(3, .val (.slice none 0 0)), (10, rr M), (11, .val (.int .i64 M.length)), (12, .val (.int .i64 0))], hp [] nb⟩
  | (k + 1, ob, nb) => ⟨ofL [(3, .own ob 0 (k + 1) (k + 1) 1 false), (10, rr M), (11, .val (.int .i64 M.length)), (12, .val (.int .i64 ((k + 1 : Nat) : Int)))], hx [.blk ob ⟨strs ((M.map fmtB).take (k + 1)), false⟩] nb⟩
theorem strs_take_snoc {M : List (List Int)} {k : Nat} (h : k < M.length) : strs ((M.map fmtB).take k) ++ [.val (.string (sb (fmtB (mrow M k))))] = strs ((M.map fmtB).take (k + 1)) := by
  rw [strs_snoc, ← List.map_take, ← List.map_take, take_mrow h]; simp

set_option maxHeartbeats 4000000 in
theorem Tryd.implFP_ok (L : List Int) (hL : L.length ≤ 1048576) : PCall Tryd.prog 12 [ri L] (str (fmtP L)) := by
  have w := Tryd.implIsPartition_ok L hL
  refine FCall.pcall (R := fun r _ => r = str (fmtP L)) ?_ 0 (by rintro r H rfl; exact view_str)
  refine FCall.of_body Tryd.func12 rfl (by kernel_rfl) (by simp [Tryd.ntmps12]) ?_
  refine SW_of_vc Tryd.mixed _ _ _ (by kernel_rfl) ?_
  rcases Bool.eq_false_or_eq_true (isPart L) with h | h
  case inr =>
    rw [h] at w
    simp (disch := omega) only [Tryd.ntmps12, Tryd.results12, go_sem]
    refine w.callV 0 (viewL_cons_of (view_rowL (by first | rfl | simp [marks_length, canon_length] | omega)) viewL_nil_of) ?_
    simp (disch := omega) only [Tryd.ntmps12, Tryd.results12, go_sem]
    exact Fin.val (by rw [fmtP_f h])
  rw [h] at w
  have wB : PCall Tryd.prog 52 [ri L] (rr (blocksOf L)) := by
    rw [blocksOf_t h]; exact (Tryd.blocks_f L h).mat.pcall 2 (fun _ _ h => h.viewI)
  have hB := BOk.of L
  have hfin : Lib.join ((blocksOf L).map fmtB) [124] = fmtP L := rfl
  have hJl : (fmtP L).length ≤ 140737488355328 := by
    rw [← hfin, ← accP_all]
    have := hB.accP_le (Nat.le_refl _)
    have := hB.ln
    omega
  generalize blocksOf L = M at *
  have hln := hB.ln
  have hJ := Tryd.strJoin_ok (M.map fmtB) [124] (by simp; omega) (by rw [hfin]; exact hJl)
  rw [hfin] at hJ
  simp (disch := omega) only [Tryd.ntmps12, Tryd.results12, go_sem]
  refine w.callV 0 (viewL_cons_of (view_rowL (by first | rfl | simp [marks_length, canon_length] | omega)) viewL_nil_of) ?_
  simp (disch := omega) only [Tryd.ntmps12, Tryd.results12, go_sem]
  refine wB.callV 0 (viewL_cons_of (view_rowL (by first | rfl | simp [marks_length, canon_length] | omega)) viewL_nil_of) ?_
  simp (disch := omega) only [Tryd.ntmps12, Tryd.results12, go_sem, rr_eq]
  refine LoopW.loop (fpF M) (fun p => p.1 ≤ M.length ∧ (0 < p.1 → p.2.1 < p.2.2)) (fun p => M.length - p.1) (0, 0, 0) (by simp) (Wk.of (by simp only [go_sem, ↓List.forall_mem_cons, List.not_mem_nil, false_implies, implies_true, and_true, true_and, and_self, ri_eq, Int.natCast_add, Int.cast_ofNat_Int, rr_eq]; try simp) rfl) ?_
  rintro ⟨k, ob, nb⟩ ⟨hk, hob⟩
  simp only at hk hob
  refine SW_of_vc Tryd.mixed _ _ _ (by kernel_rfl) ?_
  by_cases hlt : k < M.length
  · have hrow := hB.row k
    have hg := rows_get hlt
    have hsn := strs_take_snoc hlt
    have hal := hB.accR_le hlt (mrow M k).length
    rw [accR_all] at hal
    have wJ : PCall Tryd.prog 53 [ri (mrow M k), str []] (str (fmtB (mrow M k))) := Tryd.joinInts_ok (mrow M k) [] (by omega) (fun i hi => by
      obtain ⟨x, hx, hx8⟩ := hB.at hlt hi
      rw [hx]
      exact Tryd.implFIs_ok x (by omega)) (by show (fmtB (mrow M k)).length ≤ _; omega)
    generalize mrow M k = r at *
    cases k with
    | zero =>
      rw [fpF]
      rw [List.take_zero, strs_nil, List.nil_append] at hsn
      simp (disch := omega) only [Tryd.ntmps12, Tryd.results12, go_sem, rr_eq, hg, Int.natCast_zero]
      refine wJ.callV 0 (viewL_cons_of (view_rowL rfl) (viewL_cons_of view_str viewL_nil_of)) ?_
      simp (disch := omega) only [Tryd.ntmps12, Tryd.results12, go_sem, rr_eq]
      refine ⟨(1, nb + 1, nb + 1 + 1), ⟨hlt, fun _ => by show nb + 1 < nb + 1 + 1; omega⟩, by show M.length - 1 < M.length; omega, ?_⟩
      rw [fpF, ← hsn]
      refine Wk.ofX (by simp only [go_sem, ↓List.forall_mem_cons, List.not_mem_nil, false_implies, implies_true, and_true, true_and, and_self, ri_eq, Int.natCast_add, Int.cast_ofNat_Int, rr_eq]; try simp) ?_ (Nat.le_refl _)
      simp only [List.forall_mem_cons]
      refine ⟨?_, by simp⟩
      simp (disch := omega) only [EntIn, hp_map, hmap_cons, if_pos, if_neg, ↓reduceIte]
    | succ k =>
      rw [fpF]
      simp (disch := omega) only [Tryd.ntmps12, Tryd.results12, go_sem, rr_eq, hg]
      refine wJ.callV 0 (viewL_cons_of (view_rowL rfl) (viewL_cons_of view_str viewL_nil_of)) ?_
      have hob := hob (by omega)
      have hsl : (strs ((M.map fmtB).take (k + 1))).length = k + 1 := by rw [strs_length, List.length_take, List.length_map]; omega
      have hst : (strs ((M.map fmtB).take (k + 1))).take (k + 1) = strs ((M.map fmtB).take (k + 1)) := List.take_of_length_le (by omega)
      simp (disch := omega) only [Tryd.ntmps12, Tryd.results12, go_sem, rr_eq, hsn, hsl, hst]
      refine ⟨(k + 1 + 1, nb + 1, nb + 1 + 1), ⟨hlt, fun _ => by show nb + 1 < nb + 1 + 1; omega⟩, by show M.length - (k + 1 + 1) < M.length - (k + 1); omega, ?_⟩
      rw [fpF]
      refine Wk.ofX (by simp only [go_sem, ↓List.forall_mem_cons, List.not_mem_nil, false_implies, implies_true, and_true, true_and, and_self, ri_eq, Int.natCast_add, Int.cast_ofNat_Int, rr_eq]; try simp) ?_ (Nat.le_refl _)
      simp only [List.forall_mem_cons]
      refine ⟨?_, by simp⟩
      simp (disch := omega) only [EntIn, hx_map, xmap_blk, if_pos, if_neg, ↓reduceIte]
  · obtain rfl : k = M.length := by omega
    cases hM : M.length with
    | zero =>
      obtain rfl : M = [] := List.length_eq_zero_iff.1 hM
      rw [fpF]
      simp (disch := omega) only [Tryd.ntmps12, Tryd.results12, go_sem, List.length_nil, Int.natCast_zero]
      refine hJ.callV 2 (viewL_cons_of view_nilS (viewL_cons_of view_str viewL_nil_of)) ?_
      simp (disch := omega) only [Tryd.ntmps12, Tryd.results12, go_sem]
      exact Fin.val rfl
    | succ k =>
      have htk : (M.map fmtB).take (k + 1) = M.map fmtB := List.take_of_length_le (by simp; omega)
      rw [fpF, htk]
      simp (disch := omega) only [Tryd.ntmps12, Tryd.results12, go_sem]
      refine hJ.callV 2 (viewL_cons_of (view_ownS (e2 := false) (L := M.map fmtB) (by first | rfl | (simp (disch := omega) only [hx_map, hp_map, xmap_blk, hmap_cons, xmap_skipI, xmap_nil, if_pos, if_neg, ↓reduceIte]; try rfl)) (by simp; omega)) (viewL_cons_of view_str viewL_nil_of)) ?_
      simp (disch := omega) only [Tryd.ntmps12, Tryd.results12, go_sem]
      exact Fin.val rfl

set_option maxHeartbeats 4000000 in
theorem Tryd.exactFormatPartition_ok (L : List Int) : PCall Tryd.prog 3 [ri L] (.val (.bool true)) := by
  refine FCall.pcall (R := fun r _ => r = .val (.bool true)) ?_ 0 (by rintro r H rfl; exact view_bool)
  refine FCall.of_body Tryd.func3 rfl (by kernel_rfl) (by simp [Tryd.ntmps3]) ?_
  refine SW_of_vc Tryd.mixed _ _ _ (by kernel_rfl) ?_
  by_cases sL : 1048576 < L.length
  · simp (disch := omega) only [Tryd.ntmps3, Tryd.results3, go_sem]
    exact Fin.val rfl
  have hL : L.length ≤ 1048576 := by omega
  have wS := Tryd.specFP_ok L hL
  have wI := Tryd.implFP_ok L hL
  simp (disch := omega) only [Tryd.ntmps3, Tryd.results3, go_sem]
  refine (Tryd.toIntS_ok L hL).callV 0 (viewL_cons_of (view_row) viewL_nil_of) ?_
  simp (disch := omega) only [Tryd.ntmps3, Tryd.results3, go_sem]
  refine wS.callV 0 (viewL_cons_of (view_row) viewL_nil_of) ?_
  simp (disch := omega) only [Tryd.ntmps3, Tryd.results3, go_sem]
  refine (Tryd.toIntS_ok L hL).callV 0 (viewL_cons_of (view_row) viewL_nil_of) ?_
  simp (disch := omega) only [Tryd.ntmps3, Tryd.results3, go_sem]
  refine wI.callV 0 (viewL_cons_of (view_row) viewL_nil_of) ?_
  simp (disch := omega) only [Tryd.ntmps3, Tryd.results3, go_sem, beq_self_eq_true, Bool.not_true]
  refine (Tryd.toIntS_ok L hL).callV 0 (viewL_cons_of (view_row) viewL_nil_of) ?_
  simp (disch := omega) only [Tryd.ntmps3, Tryd.results3, go_sem]
  refine (Tryd.eqIntS_ok L L (by omega) (by omega)).callV 0 (viewL_cons_of (view_row) (viewL_cons_of (view_row) viewL_nil_of)) ?_
  simp (disch := omega) only [Tryd.ntmps3, Tryd.results3, go_sem, decide_true, beq_self_eq_true]
  exact Fin.val rfl
end Go.Sh

/-
  ParsePartition of the reference.
-/
namespace Go.Sh
set_option linter.unusedSimpArgs false
set_option linter.unusedVariables false
open Go Go.Proofs

theorem view_tupB {L : List Int} {n : Nat} {u : Bool} {r r0 : SV} {H : Heap} (h : r = .tup [r0, .val (.bool u)]) (hf : FlatRes n 1 (ints L) r0 H) : view H 3 r = some (.tup [ri L, .val (.bool u)]) := by
  subst h
  have h1 : viewL H 2 [r0, .val (.bool u)] = some [ri L, .val (.bool u)] := viewL_cons_of (flat_view hf) (viewL_cons_of view_bool viewL_nil_of)
  simp only [view, h1]
theorem spc_snoc : ∀ (i : Int) (qs : List (List UInt8)) (q : List UInt8) (p : List Int × Int), spc i (qs ++ [q]) p = q.foldl (sput (i + qs.length)) (spc i qs p)
  | i, [], q, p => by simp [spc]
  | i, r :: qs, q, p => by
    rw [List.cons_append, spc, spc, spc_snoc (i + 1) qs q]
    congr 2
    rw [List.length_cons]; omega
/-- Eight places, of which some are used. -/
def P8 (p : List Int × Int) : Prop := p.1.length = 8 ∧ 0 ≤ p.2 ∧ p.2 ≤ 8
theorem P8.put {p : List Int × Int} (h : P8 p) (i : Int) (c : UInt8) : P8 (sput i p c) := by
  rw [sput]
  split
  · obtain ⟨h1, h2, h3⟩ := h
    exact ⟨by simp [h1], by simp only; omega, by simp only; omega⟩
  · exact h
theorem P8.fold {i : Int} : ∀ {q : List UInt8} {p : List Int × Int}, P8 p → P8 (q.foldl (sput i) p)
  | [], _, h => h
  | c :: q, _, h => P8.fold (q := q) (h.put i c)
theorem P8.spc : ∀ {qs : List (List UInt8)} {i : Int} {p : List Int × Int}, P8 p → P8 (spc i qs p)
  | [], _, _, h => h
  | q :: qs, i, _, h => P8.spc (qs := qs) (i := i + 1) (h.fold (i := i) (q := q))
theorem P8.zero : P8 (List.replicate 8 0, 0) := ⟨by simp, by simp, by simp⟩
def spAt (s : List UInt8) (i : Nat) : List Int × Int := spc 0 ((cutL 124 s).take i) (List.replicate 8 0, 0)
def spIn (s : List UInt8) (i k : Nat) : List Int × Int := (((cutL 124 s).getD i []).take k).foldl (sput i) (spAt s i)
theorem spAt8 (s : List UInt8) (i : Nat) : P8 (spAt s i) := P8.zero.spc
theorem spIn8 (s : List UInt8) (i k : Nat) : P8 (spIn s i k) := (spAt8 s i).fold
theorem spAt_zero (s : List UInt8) : spAt s 0 = (List.replicate 8 0, 0) := rfl
theorem spIn_zero (s : List UInt8) (i : Nat) : spIn s i 0 = spAt s i := rfl
theorem spIn_succ (s : List UInt8) {i k : Nat} (h : k < ((cutL 124 s).getD i []).length) : spIn s i (k + 1) = sput i (spIn s i k) (((cutL 124 s).getD i []).getD k 0) := by
  rw [spIn, List.take_add_one, List.getElem?_eq_getElem h, List.foldl_append]
  simp only [Option.toList_some, List.foldl_cons, List.foldl_nil]
  have e : ((cutL 124 s).getD i [])[k] = ((cutL 124 s).getD i []).getD k 0 := by
    generalize (cutL 124 s).getD i [] = q at *
    simp [List.getD, h]
  rw [e]; rfl
theorem spIn_all (s : List UInt8) {i : Nat} (h : i < (cutL 124 s).length) : spIn s i ((cutL 124 s).getD i []).length = spAt s (i + 1) := by
  have e : (cutL 124 s).take (i + 1) = (cutL 124 s).take i ++ [(cutL 124 s).getD i []] := by
    rw [List.take_add_one, List.getElem?_eq_getElem h]; simp [List.getD, h]
  rw [spIn, List.take_length, spAt, spAt, e, spc_snoc]
  congr 2
  rw [List.length_take]; omega
theorem sdec_at (s : List UInt8) {i : Nat} (h : i = 8 ∨ i = (cutL 124 s).length ∧ i ≤ 8) : sdec s = (spAt s i).1.take (spAt s i).2.toNat := by
  have e : (cutL 124 s).take 8 = (cutL 124 s).take i := by
    rcases h with h | ⟨h1, h2⟩
    · rw [h]
    · rw [h1, List.take_length, List.take_of_length_le (by omega)]
  rw [sdec, e]; rfl
theorem cutL_part (c : UInt8) : ∀ (s : List UInt8), ∀ q ∈ cutL c s, q.length ≤ s.length
  | [], q, h => by simp [cutL] at h; subst h; simp
  | x :: s, q, h => by
    rw [cutL] at h
    have ih := cutL_part c s
    split at h
    · rcases List.mem_cons.1 h with rfl | h
      · simp
      · have := ih q h; simp; omega
    · obtain ⟨p, ps, e⟩ := cutL_ne c s
      rw [e] at h ih
      rcases List.mem_cons.1 h with rfl | h
      · have := ih p (by simp); simp; omega
      · have := ih q (List.mem_cons_of_mem _ h); simp; omega

def PPRes (s : List UInt8) (r : SV) (H : Heap) : Prop := ∃ r0, r = .tup [r0, .val (.bool (pp s).2)] ∧ FlatRes (pp s).1.length 1 (ints (pp s).1) r0 H
theorem pp_end {s : List UInt8} {l : List Int} {u : Bool} {b n cap : Nat} {ex e2 : Bool} {H : Heap} (hpp : pp s = (l, u)) (hn : n = l.length) (hb : H.map b = some ⟨ints l, e2⟩) : Fin (PPRes s) (.tup [.own b 0 n cap 1 ex, .val (.bool u)]) H := by
  subst hn
  have hR : PPRes s = fun r H => ∃ r0, r = .tup [r0, .val (.bool u)] ∧ FlatRes l.length 1 (ints l) r0 H := by funext r H; rw [PPRes, hpp]
  rw [hR]
  exact fin_tup (by rw [ints_length, Nat.mul_one]) (ints_vals _) hb
set_option maxHeartbeats 16000000 in
theorem Tryd.specPP_f (s : List UInt8) (hs : s.length ≤ 1048576) : FCall Tryd.prog 24 [str s] (PPRes s) := by
  have wc : PCall Tryd.prog 61 [str s, .val (.int .u8 124)] (rst (cutL 124 s)) := Tryd.l2Cut_ok s 124 hs
  have hcl := cutL_len 124 s
  have hcc : s.count 124 ≤ s.length := List.count_le_length
  refine FCall.of_body Tryd.func24 rfl (by kernel_rfl) (by simp [Tryd.ntmps24]) ?_
  refine SW_of_vc Tryd.mixed _ _ _ (by kernel_rfl) ?_
  simp (disch := omega) only [Tryd.ntmps24, Tryd.results24, go_sem]
  refine wc.callV 0 (viewL_cons_of view_str (viewL_cons_of view_int viewL_nil_of)) ?_
  simp (disch := omega) only [Tryd.ntmps24, Tryd.results24, go_sem]
  refine LoopW.loop (fun i : Nat => ⟨ofL [(0, str s), (4, .own 0 0 8 8 1 true), (5, .val (.int .i64 (spAt s i).2)), (6, rst (cutL 124 s)), (7, .val (.int .i64 i))], hp [(0, ⟨ints (spAt s i).1, true⟩)] 1⟩)
    (fun i => i ≤ (cutL 124 s).length ∧ i ≤ 8) (fun i => 8 - i) 0 (by simp) (Wk.of (by simp only [go_sem, ↓List.forall_mem_cons, List.not_mem_nil, false_implies, implies_true, and_true, true_and, and_self, ri_eq, Int.natCast_add, Int.cast_ofNat_Int, rst, spAt_zero]; try simp) (by rw [spAt_zero])) ?_
  intro i ⟨hi, hi8⟩
  have h8 := spAt8 s i
  refine SW_of_vc Tryd.mixed _ _ _ (by kernel_rfl) ?_
  by_cases hlt : i < (cutL 124 s).length ∧ i < 8
  · obtain ⟨hlt, hlt8⟩ := hlt
    have hg := strs_get hlt
    have hql : ((cutL 124 s).getD i []).length ≤ s.length := cutL_part 124 s _ (by simp [List.getD, hlt])
    have hnext := spIn_all s hlt
    simp (disch := omega) only [Tryd.ntmps24, Tryd.results24, go_sem, rst, hg]
    refine LoopW.loop (fun k : Nat => ⟨ofL [(0, str s), (4, .own 0 0 8 8 1 true), (5, .val (.int .i64 (spIn s i k).2)), (6, rst (cutL 124 s)), (7, .val (.int .i64 i)), (8, .val (.int .i64 k))], hp [(0, ⟨ints (spIn s i k).1, true⟩)] 1⟩)
      (fun k => k ≤ ((cutL 124 s).getD i []).length) (fun k => ((cutL 124 s).getD i []).length - k) 0 (by simp) (Wk.of (by simp only [go_sem, ↓List.forall_mem_cons, List.not_mem_nil, false_implies, implies_true, and_true, true_and, and_self, ri_eq, Int.natCast_add, Int.cast_ofNat_Int, rst, spIn_zero]; try simp) rfl) ?_
    intro k hk
    obtain ⟨g1, g2, g3⟩ := spIn8 s i k
    refine SW_of_vc Tryd.mixed _ _ _ (by kernel_rfl) ?_
    by_cases hkl : k < ((cutL 124 s).getD i []).length
    · have hsuc := spIn_succ s hkl
      generalize (cutL 124 s).getD i [] = q at *
      have hix := sb_ix hkl
      have hc8 : (q.getD k 0).toNat < 256 := UInt8.toNat_lt _
      generalize q.getD k 0 = c at *
      generalize spIn s i k = p at *
      have hin := Tryd.l1In_ok ((c.toNat : Int) - 48) 0 7
      by_cases hx : 0 ≤ (c.toNat : Int) - 48 ∧ (c.toNat : Int) - 48 ≤ 7
      · have e : inR ((c.toNat : Int) - 48) 0 7 = true := inR_tt hx.1 hx.2
        rw [e] at hin
        rw [sput, if_pos hx] at hsuc
        simp (disch := omega) only [Tryd.ntmps24, Tryd.results24, go_sem, rst, hg, hix]
        refine hin.callV 0 (viewL_cons_of (view_int) (viewL_cons_of (view_int) (viewL_cons_of (view_int) viewL_nil_of))) ?_
        have hn : ((c.toNat : Int) - 48).toNat = c.toNat - 48 := by omega
        have hmax : (if p.2 < (c.toNat : Int) - 48 + 1 then (c.toNat : Int) - 48 + 1 else p.2) = max p.2 ((c.toNat : Int) - 48 + 1) := by split <;> omega
        simp (disch := omega) only [Tryd.ntmps24, Tryd.results24, go_sem, rst, hg, hn, hmax]
        exact ⟨k + 1, by omega, by omega, Wk.of (by simp only [go_sem, ↓List.forall_mem_cons, List.not_mem_nil, false_implies, implies_true, and_true, true_and, and_self, ri_eq, Int.natCast_add, Int.cast_ofNat_Int, rst, hsuc]; try simp) (by simp only [hsuc])⟩
      · have e : inR ((c.toNat : Int) - 48) 0 7 = false := by
          cases h : inR ((c.toNat : Int) - 48) 0 7 with
          | false => rfl
          | true => exact absurd (inR_of h) hx
        rw [e] at hin
        rw [sput, if_neg hx] at hsuc
        simp (disch := omega) only [Tryd.ntmps24, Tryd.results24, go_sem, rst, hg, hix]
        refine hin.callV 0 (viewL_cons_of (view_int) (viewL_cons_of (view_int) (viewL_cons_of (view_int) viewL_nil_of))) ?_
        simp (disch := omega) only [Tryd.ntmps24, Tryd.results24, go_sem, rst, hg]
        exact ⟨k + 1, by omega, by omega, Wk.of (by simp only [go_sem, ↓List.forall_mem_cons, List.not_mem_nil, false_implies, implies_true, and_true, true_and, and_self, ri_eq, Int.natCast_add, Int.cast_ofNat_Int, rst, hsuc]; try simp) (by simp only [hsuc])⟩
    · obtain rfl : k = ((cutL 124 s).getD i []).length := by omega
      simp (disch := omega) only [Tryd.ntmps24, Tryd.results24, go_sem, rst, hg]
      exact ⟨i + 1, by omega, by omega, Wk.of (by simp only [go_sem, ↓List.forall_mem_cons, List.not_mem_nil, false_implies, implies_true, and_true, true_and, and_self, ri_eq, Int.natCast_add, Int.cast_ofNat_Int, rst, hnext]; try simp) (by simp only [hnext])⟩
  · have hd := sdec_at s (i := i) (by omega)
    obtain ⟨h1, h2, h3⟩ := h8
    have hlen : (sdec s).length = (spAt s i).2.toNat := by rw [hd, List.length_take]; omega
    have wF := Tryd.specFP_ok (sdec s) (by omega)
    have hcells : (ints (spAt s i).1).take (spAt s i).2.toNat = ints (sdec s) := by rw [hd]; simp [ints]
    generalize spAt s i = p at *
    have hex : (i : Int) < (cutL 124 s).length → ¬ (i : Int) < 8 := fun h => by omega
    have hi8b : i < (cutL 124 s).length → i = 8 := by omega
    have hlen2 : (ints (sdec s)).length = p.2.toNat := by rw [ints_length, hlen]
    by_cases hn0 : p.2 = 0
    · have hnil : sdec s = [] := List.length_eq_zero_iff.1 (by omega)
      have hn1 : p.2.toNat = 0 := by omega
      rw [hnil] at hcells wF
      by_cases hlt2 : i < (cutL 124 s).length
      · have hi8 := hi8b hlt2
        by_cases hs0 : s = []
        · have hpp : pp s = ([], false) := pp_f fun h => h.1 hs0
          have hs1 : (s == ([] : List UInt8)) = true := by rw [hs0]; rfl
          simp (disch := omega) only [Tryd.ntmps24, Tryd.results24, go_sem, rst, hcells, hs1, ints_flat]
          exact pp_end (e2 := false) hpp rfl (by first | rfl | (simp (disch := omega) only [hx_map, hp_map, xmap_blk, hmap_cons, xmap_skipI, xmap_nil, if_pos, if_neg, ↓reduceIte]; try rfl))
        have hs1 : (s == ([] : List UInt8)) = false := by rw [beq_eq_false_iff_ne]; exact hs0
        simp (disch := omega) only [Tryd.ntmps24, Tryd.results24, go_sem, rst, hcells, hs1, ints_flat]
        refine wF.callV 2 (viewL_cons_of (view_own (L := ([] : List Int)) (e2 := false) (by first | rfl | (simp (disch := omega) only [hx_map, hp_map, xmap_blk, hmap_cons, xmap_skipI, xmap_nil, if_pos, if_neg, ↓reduceIte]; try rfl)) (by first | rfl | omega)) viewL_nil_of) ?_
        by_cases hf : fmtP (sdec s) = s
        · have hpp : pp s = (sdec s, true) := pp_t hs0 hf
          have hf1 : (fmtP (sdec s) == s) = true := by rw [hf]; exact beq_self_eq_true s
          rw [hnil] at hf1 hpp
          simp (disch := omega) only [Tryd.ntmps24, Tryd.results24, go_sem, rst, hf1]
          exact pp_end (e2 := false) hpp (by first | rfl | omega) (by first | rfl | (simp (disch := omega) only [hx_map, hp_map, xmap_blk, hmap_cons, xmap_skipI, xmap_nil, if_pos, if_neg, ↓reduceIte]; try rfl))
        · have hpp : pp s = ([], false) := pp_f fun h => hf h.2
          have hf1 : (fmtP (sdec s) == s) = false := by rw [beq_eq_false_iff_ne]; exact hf
          rw [hnil] at hf1
          simp (disch := omega) only [Tryd.ntmps24, Tryd.results24, go_sem, rst, hf1]
          exact pp_end (e2 := false) hpp rfl (by first | rfl | (simp (disch := omega) only [hx_map, hp_map, xmap_blk, hmap_cons, xmap_skipI, xmap_nil, if_pos, if_neg, ↓reduceIte]; try rfl))
      · have hi8 := hi8b
        by_cases hs0 : s = []
        · have hpp : pp s = ([], false) := pp_f fun h => h.1 hs0
          have hs1 : (s == ([] : List UInt8)) = true := by rw [hs0]; rfl
          simp (disch := omega) only [Tryd.ntmps24, Tryd.results24, go_sem, rst, hcells, hs1, ints_flat]
          exact pp_end (e2 := false) hpp rfl (by first | rfl | (simp (disch := omega) only [hx_map, hp_map, xmap_blk, hmap_cons, xmap_skipI, xmap_nil, if_pos, if_neg, ↓reduceIte]; try rfl))
        have hs1 : (s == ([] : List UInt8)) = false := by rw [beq_eq_false_iff_ne]; exact hs0
        simp (disch := omega) only [Tryd.ntmps24, Tryd.results24, go_sem, rst, hcells, hs1, ints_flat]
        refine wF.callV 2 (viewL_cons_of (view_own (L := ([] : List Int)) (e2 := false) (by first | rfl | (simp (disch := omega) only [hx_map, hp_map, xmap_blk, hmap_cons, xmap_skipI, xmap_nil, if_pos, if_neg, ↓reduceIte]; try rfl)) (by first | rfl | omega)) viewL_nil_of) ?_
        by_cases hf : fmtP (sdec s) = s
        · have hpp : pp s = (sdec s, true) := pp_t hs0 hf
          have hf1 : (fmtP (sdec s) == s) = true := by rw [hf]; exact beq_self_eq_true s
          rw [hnil] at hf1 hpp
          simp (disch := omega) only [Tryd.ntmps24, Tryd.results24, go_sem, rst, hf1]
          exact pp_end (e2 := false) hpp (by first | rfl | omega) (by first | rfl | (simp (disch := omega) only [hx_map, hp_map, xmap_blk, hmap_cons, xmap_skipI, xmap_nil, if_pos, if_neg, ↓reduceIte]; try rfl))
        · have hpp : pp s = ([], false) := pp_f fun h => hf h.2
          have hf1 : (fmtP (sdec s) == s) = false := by rw [beq_eq_false_iff_ne]; exact hf
          rw [hnil] at hf1
          simp (disch := omega) only [Tryd.ntmps24, Tryd.results24, go_sem, rst, hf1]
          exact pp_end (e2 := false) hpp rfl (by first | rfl | (simp (disch := omega) only [hx_map, hp_map, xmap_blk, hmap_cons, xmap_skipI, xmap_nil, if_pos, if_neg, ↓reduceIte]; try rfl))
    · by_cases hlt2 : i < (cutL 124 s).length
      · have hi8 := hi8b hlt2
        by_cases hs0 : s = []
        · have hpp : pp s = ([], false) := pp_f fun h => h.1 hs0
          have hs1 : (s == ([] : List UInt8)) = true := by rw [hs0]; rfl
          simp (disch := omega) only [Tryd.ntmps24, Tryd.results24, go_sem, rst, hcells, hs1, ints_flat]
          exact pp_end (e2 := false) hpp rfl (by first | rfl | (simp (disch := omega) only [hx_map, hp_map, xmap_blk, hmap_cons, xmap_skipI, xmap_nil, if_pos, if_neg, ↓reduceIte]; try rfl))
        have hs1 : (s == ([] : List UInt8)) = false := by rw [beq_eq_false_iff_ne]; exact hs0
        simp (disch := omega) only [Tryd.ntmps24, Tryd.results24, go_sem, rst, hcells, hs1, ints_flat]
        refine wF.callV 2 (viewL_cons_of (view_own (L := sdec s) (e2 := false) (by first | rfl | (simp (disch := omega) only [hx_map, hp_map, xmap_blk, hmap_cons, xmap_skipI, xmap_nil, if_pos, if_neg, ↓reduceIte]; try rfl)) (by first | rfl | omega)) viewL_nil_of) ?_
        by_cases hf : fmtP (sdec s) = s
        · have hpp : pp s = (sdec s, true) := pp_t hs0 hf
          have hf1 : (fmtP (sdec s) == s) = true := by rw [hf]; exact beq_self_eq_true s
          simp (disch := omega) only [Tryd.ntmps24, Tryd.results24, go_sem, rst, hf1]
          exact pp_end (e2 := false) hpp (by first | rfl | omega) (by first | rfl | (simp (disch := omega) only [hx_map, hp_map, xmap_blk, hmap_cons, xmap_skipI, xmap_nil, if_pos, if_neg, ↓reduceIte]; try rfl))
        · have hpp : pp s = ([], false) := pp_f fun h => hf h.2
          have hf1 : (fmtP (sdec s) == s) = false := by rw [beq_eq_false_iff_ne]; exact hf
          simp (disch := omega) only [Tryd.ntmps24, Tryd.results24, go_sem, rst, hf1]
          exact pp_end (e2 := false) hpp rfl (by first | rfl | (simp (disch := omega) only [hx_map, hp_map, xmap_blk, hmap_cons, xmap_skipI, xmap_nil, if_pos, if_neg, ↓reduceIte]; try rfl))
      · have hi8 := hi8b
        by_cases hs0 : s = []
        · have hpp : pp s = ([], false) := pp_f fun h => h.1 hs0
          have hs1 : (s == ([] : List UInt8)) = true := by rw [hs0]; rfl
          simp (disch := omega) only [Tryd.ntmps24, Tryd.results24, go_sem, rst, hcells, hs1, ints_flat]
          exact pp_end (e2 := false) hpp rfl (by first | rfl | (simp (disch := omega) only [hx_map, hp_map, xmap_blk, hmap_cons, xmap_skipI, xmap_nil, if_pos, if_neg, ↓reduceIte]; try rfl))
        have hs1 : (s == ([] : List UInt8)) = false := by rw [beq_eq_false_iff_ne]; exact hs0
        simp (disch := omega) only [Tryd.ntmps24, Tryd.results24, go_sem, rst, hcells, hs1, ints_flat]
        refine wF.callV 2 (viewL_cons_of (view_own (L := sdec s) (e2 := false) (by first | rfl | (simp (disch := omega) only [hx_map, hp_map, xmap_blk, hmap_cons, xmap_skipI, xmap_nil, if_pos, if_neg, ↓reduceIte]; try rfl)) (by first | rfl | omega)) viewL_nil_of) ?_
        by_cases hf : fmtP (sdec s) = s
        · have hpp : pp s = (sdec s, true) := pp_t hs0 hf
          have hf1 : (fmtP (sdec s) == s) = true := by rw [hf]; exact beq_self_eq_true s
          simp (disch := omega) only [Tryd.ntmps24, Tryd.results24, go_sem, rst, hf1]
          exact pp_end (e2 := false) hpp (by first | rfl | omega) (by first | rfl | (simp (disch := omega) only [hx_map, hp_map, xmap_blk, hmap_cons, xmap_skipI, xmap_nil, if_pos, if_neg, ↓reduceIte]; try rfl))
        · have hpp : pp s = ([], false) := pp_f fun h => hf h.2
          have hf1 : (fmtP (sdec s) == s) = false := by rw [beq_eq_false_iff_ne]; exact hf
          simp (disch := omega) only [Tryd.ntmps24, Tryd.results24, go_sem, rst, hf1]
          exact pp_end (e2 := false) hpp rfl (by first | rfl | (simp (disch := omega) only [hx_map, hp_map, xmap_blk, hmap_cons, xmap_skipI, xmap_nil, if_pos, if_neg, ↓reduceIte]; try rfl))
theorem Tryd.specPP_ok (s : List UInt8) (hs : s.length ≤ 1048576) : PCall Tryd.prog 24 [str s] (.tup [ri (pp s).1, .val (.bool (pp s).2)]) :=
  (Tryd.specPP_f s hs).pcall 3 (fun r H ⟨r0, h1, h2⟩ => view_tupB h1 h2)
end Go.Sh

/-
  ParseMatrix: of the reference.
-/
namespace Go.Sh
set_option linter.unusedSimpArgs false
set_option linter.unusedVariables false
open Go Go.Proofs

section
variable {P : Program}
open Classical in
/-- A matrix and a Bool: what is read of them. -/
theorem fin_mb {H : Heap} {lo ob : Nat} {cs : List SV} {nm : Nat → Nat} {M : List (List Int)} {c1 : Nat} {e1 : Bool} {u : Bool} (hM : MatH H lo ob cs nm M) :
    Fin (fun r H => view H 3 r = some (.tup [rr M, .val (.bool u)])) (.tup [.own ob 0 M.length c1 1 e1, .val (.bool u)]) H := by
  let p : Nat → Prop := fun b => b = ob ∨ (∃ i, i < M.length ∧ b = nm i)
  have hM2 := hM.part p (.inl rfl) (fun i hi => .inr ⟨i, hi, rfl⟩)
  refine ⟨part H p, part_sub H p, rfl, fun b blk hb => ?_, ?_⟩
  · have hb' : (if p b then H.map b else none) = some blk := hb
    split at hb'
    · rename_i hp
      rcases hp with rfl | ⟨i, hi, rfl⟩
      · rw [hM.o] at hb'; simp at hb'; subst hb'; exact hM.nr
      · obtain ⟨e, e2, k1, k2⟩ := hM.row i hi
        rw [k2] at hb'; simp at hb'; subst hb'; exact noRowL_ints _
    · simp at hb'
  · have h1 : viewL (part H p) 2 [.own ob 0 M.length c1 1 e1, .val (.bool u)] = some [rr M, .val (.bool u)] :=
      viewL_cons_of (hM2.viewH (f := 0)) (viewL_cons_of view_bool viewL_nil_of)
    simp only [view, h1]
theorem fin_mb0 {H : Heap} {b cap : Nat} {ex e2 : Bool} (hb : H.map b = some ⟨[], e2⟩) : Fin (fun r H => view H 3 r = some (.tup [rr [], .val (.bool false)])) (.tup [.own b 0 0 cap 1 ex, .val (.bool false)]) H := by
  refine ⟨⟨fun x => if x = b then H.map b else none, H.nb⟩, ⟨rfl, fun x => ?_⟩, rfl, fun x blk hx => ?_, ?_⟩
  · show (if x = b then H.map b else none) = none ∨ (if x = b then H.map b else none) = H.map x
    split
    · rename_i h; rw [h]; exact .inr rfl
    · exact .inl rfl
  · have hx' : (if x = b then H.map b else none) = some blk := hx
    split at hx'
    · rw [hb] at hx'; simp at hx'; subst hx'; rfl
    · simp at hx'
  · have h0 : (⟨fun x => if x = b then H.map b else none, H.nb⟩ : Heap).map b = some ⟨[], e2⟩ := by show (if b = b then H.map b else none) = _; rw [if_pos rfl, hb]
    have h1 : view (⟨fun x => if x = b then H.map b else none, H.nb⟩ : Heap) 2 (.own b 0 0 cap 1 ex) = some (rr []) := view_own (L := []) h0 rfl
    have h2 : viewL (⟨fun x => if x = b then H.map b else none, H.nb⟩ : Heap) 2 [.own b 0 0 cap 1 ex, .val (.bool false)] = some [rr [], .val (.bool false)] := viewL_cons_of h1 (viewL_cons_of view_bool viewL_nil_of)
    simp only [view, h2]
end
def pa (n i k : Nat) : Nat := 1 + pos n i k
theorem pa_succ {n i k : Nat} (h : i < k) : pa n i (k + 1) = pa n i k + 1 := by simp only [pa, pos]; omega
theorem pa_row {n i : Nat} (h : i < n) : pa n i n = pa n (i + 1) (i + 2) := by simp only [pa, pos, off]; omega
theorem pa_zero (n : Nat) : pa n 0 1 = 1 := rfl
theorem cutL_pos (c : UInt8) (s : List UInt8) : 0 < (cutL c s).length := by rw [cutL_len]; omega
theorem pm_bad1 {s : List UInt8} (h : ¬ (1 ≤ (vals (cutL 32 s)).getD 0 0 ∧ (vals (cutL 32 s)).getD 0 0 ≤ 8)) : pm s = none := by rw [pm, if_neg (fun g => h ⟨g.1, g.2.1⟩)]
theorem pm_eq {s : List UInt8} {n : Nat} (hn : (vals (cutL 32 s)).getD 0 0 = n) (h1 : 1 ≤ n) (h8 : n ≤ 8) : pm s = if (cutL 32 s).length = 1 + off n n ∧ fmtM (pmM n (vals (cutL 32 s)).tail) = s then some (pmM n (vals (cutL 32 s)).tail) else none := by
  rw [pm, hn, Int.toNat_natCast]
  by_cases h : (cutL 32 s).length = 1 + off n n ∧ fmtM (pmM n (vals (cutL 32 s)).tail) = s
  · rw [if_pos h, if_pos ⟨by omega, by omega, h⟩]
  · rw [if_neg h, if_neg (fun g => h g.2.2)]
set_option maxRecDepth 20000 in
set_option maxHeartbeats 8000000 in
theorem Tryd.specPM_f (s : List UInt8) (hs : s.length ≤ 1048576) {M : List (List Int)} {u : Bool} (hM : (pm s = some M ∧ u = true) ∨ (pm s = none ∧ M = [] ∧ u = false)) : FCall Tryd.prog 46 [str s] (fun r H => view H 3 r = some (.tup [rr M, .val (.bool u)])) := by
  have wc : PCall Tryd.prog 61 [str s, .val (.int .u8 32)] (rst (cutL 32 s)) := Tryd.l2Cut_ok s 32 hs
  have hpos := cutL_pos 32 s
  have hpart := cutL_part 32 s
  have hb1 := @pm_bad1 s
  have heq := @pm_eq s
  have hv0 := vals_at (P := cutL 32 s) (i := 0) hpos
  have hvl := vals_length (cutL 32 s)
  have hvt : ∀ a, a + 1 < (cutL 32 s).length → (vals (cutL 32 s)).tail.getD a 0 = (pint ((cutL 32 s).getD (a + 1) [])).getD 0 := fun a ha => by
    rw [← vals_at ha, List.getD_eq_getElem?_getD, List.getElem?_tail, ← List.getD_eq_getElem?_getD]
  have hcl := cutL_len 32 s
  have hcc : s.count 32 ≤ s.length := List.count_le_length
  refine FCall.of_body Tryd.func46 rfl (by kernel_rfl) (by simp [Tryd.ntmps46]) ?_
  refine SW_of_vc Tryd.mixed _ _ _ (by kernel_rfl) ?_
  generalize hP : cutL 32 s = P at *
  have hg : ∀ i, i < P.length → (P.getD i []).length ≤ 1048576 := fun i hi => by
    have := hpart (P.getD i []) (by simp [List.getD, hi])
    omega
  have w0 := Tryd.specPI_ok (P.getD 0 []) (hg 0 hpos)
  have wi := fun z => Tryd.l1In_ok z 1 8
  have hg0 := strs_get hpos
  rw [pIR, ← hv0] at w0
  generalize hu0 : (pint (P.getD 0 [])).isSome = u0 at *
  generalize hl : (vals P).tail = l at *
  generalize hn0 : (vals P).getD 0 0 = z at *
  have wi := wi z
  by_cases hz : 1 ≤ z ∧ z ≤ 8
  case neg =>
    have hp := hb1 hz
    obtain ⟨rfl, rfl⟩ : M = [] ∧ u = false := by
      rcases hM with ⟨h, _⟩ | ⟨_, h1, h2⟩
      · rw [hp] at h; cases h
      · exact ⟨h1, h2⟩
    have e : inR z 1 8 = false := by
      cases h : inR z 1 8 with
      | false => rfl
      | true => exact absurd (inR_of h) hz
    rw [e] at wi
    simp (disch := omega) only [Tryd.ntmps46, Tryd.results46, go_sem]
    refine wc.callV 0 (viewL_cons_of view_str (viewL_cons_of view_int viewL_nil_of)) ?_
    simp (disch := omega) only [Tryd.ntmps46, Tryd.results46, go_sem, rst, hg0]
    refine w0.callV 0 (viewL_cons_of view_str viewL_nil_of) ?_
    simp (disch := omega) only [Tryd.ntmps46, Tryd.results46, go_sem, rst, hg0]
    refine wi.callV 0 (viewL_cons_of (view_int) (viewL_cons_of (view_int) (viewL_cons_of (view_int) viewL_nil_of))) ?_
    simp (disch := omega) only [Tryd.ntmps46, Tryd.results46, go_sem, rst, hg0]
    exact fin_mb0 (e2 := false) (by first | rfl | (simp (disch := omega) only [hx_map, hp_map, xmap_blk, hmap_cons, xmap_skipI, xmap_nil, if_pos, if_neg, ↓reduceIte]; try rfl))
  obtain ⟨n, rfl⟩ := Int.eq_ofNat_of_zero_le (a := z) (by omega)
  have h1 : 1 ≤ n := by omega
  have h8 : n ≤ 8 := by omega
  have heq := heq rfl h1 h8
  have hq := off_all h1 h8
  have ho1 : off n n ≤ 28 := by
    have : n = 1 ∨ n = 2 ∨ n = 3 ∨ n = 4 ∨ n = 5 ∨ n = 6 ∨ n = 7 ∨ n = 8 := by omega
    rcases this with rfl | rfl | rfl | rfl | rfl | rfl | rfl | rfl <;> decide
  have hlt2 := fun i k (a : i < k) (b : k < n) => pos_lt a b
  generalize hO : off n n = O at *
  have htd : Int.tdiv (2 * (O : Int)) 2 = O := Int.mul_tdiv_cancel_left _ (by decide)
  rw [inR_tt hz.1 hz.2] at wi
  by_cases hlen : P.length = 1 + O
  case neg =>
    have hp : pm s = none := by rw [heq, if_neg (fun h => hlen h.1)]
    obtain ⟨rfl, rfl⟩ : M = [] ∧ u = false := by
      rcases hM with ⟨h, _⟩ | ⟨_, h1, h2⟩
      · rw [hp] at h; cases h
      · exact ⟨h1, h2⟩
    simp (disch := omega) only [Tryd.ntmps46, Tryd.results46, go_sem]
    refine wc.callV 0 (viewL_cons_of view_str (viewL_cons_of view_int viewL_nil_of)) ?_
    simp (disch := omega) only [Tryd.ntmps46, Tryd.results46, go_sem, rst, hg0]
    refine w0.callV 0 (viewL_cons_of view_str viewL_nil_of) ?_
    simp (disch := omega) only [Tryd.ntmps46, Tryd.results46, go_sem, rst, hg0]
    refine wi.callV 0 (viewL_cons_of (view_int) (viewL_cons_of (view_int) (viewL_cons_of (view_int) viewL_nil_of))) ?_
    simp (disch := omega) only [Tryd.ntmps46, Tryd.results46, go_sem, rst, hg0, hq, htd]
    exact fin_mb0 (e2 := false) (by first | rfl | (simp (disch := omega) only [hx_map, hp_map, xmap_blk, hmap_cons, xmap_skipI, xmap_nil, if_pos, if_neg, ↓reduceIte]; try rfl))
  have hrepl : ∀ k, (List.replicate k (List.replicate n (0 : Int)) ++ [List.replicate n 0]) = List.replicate (k + 1) (List.replicate n 0) := fun k => List.replicate_succ'.symm
  have hrowl : ∀ k, Rect (List.replicate k (List.replicate n (0 : Int))) n := fun k j hj => by
    have : j < k := by simpa using hj
    simp [mrow, this]
  have hpa : ∀ i k, i < k → k < n → pa n i k < P.length := fun i k a b => by have := hlt2 i k a b; rw [pa]; omega
  simp (disch := omega) only [Tryd.ntmps46, Tryd.results46, go_sem]
  refine wc.callV 0 (viewL_cons_of view_str (viewL_cons_of view_int viewL_nil_of)) ?_
  simp (disch := omega) only [Tryd.ntmps46, Tryd.results46, go_sem, rst, hg0]
  refine w0.callV 0 (viewL_cons_of view_str viewL_nil_of) ?_
  simp (disch := omega) only [Tryd.ntmps46, Tryd.results46, go_sem, rst, hg0]
  refine wi.callV 0 (viewL_cons_of (view_int) (viewL_cons_of (view_int) (viewL_cons_of (view_int) viewL_nil_of))) ?_
  simp (disch := omega) only [Tryd.ntmps46, Tryd.results46, go_sem, rst, hg0, hq, htd]
  refine LoopW.loop (fun y : Nat × Nat × List SV × (Nat → Nat) × Heap => ⟨ofL [(0, str s), (4, rst P), (5, .val (.int .i64 n)), (7, .own y.2.1 0 y.1 y.1 1 false), (8, .val (.int .i64 y.1))], y.2.2.2.2⟩)
    (fun y => y.1 ≤ n ∧ MatH y.2.2.2.2 0 y.2.1 y.2.2.1 y.2.2.2.1 (List.replicate y.1 (List.replicate n 0))) (fun y => n - y.1) (0, 0, [], fun _ => 0, hp [(0, ⟨[], false⟩)] 1)
    ⟨by simp, ⟨rfl, (by first | rfl | (simp (disch := omega) only [hx_map, hp_map, xmap_blk, hmap_cons, xmap_skipI, xmap_nil, if_pos, if_neg, ↓reduceIte]; try rfl)), fun i hi => absurd hi (by simp), fun i j hi => absurd hi (by simp), by show 0 ≤ 0 ∧ 0 < 1; omega, fun i hi => absurd hi (by simp)⟩⟩ (Wk.of (by simp only [go_sem, ↓List.forall_mem_cons, List.not_mem_nil, false_implies, implies_true, and_true, true_and, and_self, ri_eq, Int.natCast_add, Int.cast_ofNat_Int, rst]; try simp) rfl) ?_
  rintro ⟨k, ob, cs, nm, H1⟩ ⟨hk, hM1⟩
  simp only at hk hM1
  refine SW_of_vc Tryd.mixed _ _ _ (by kernel_rfl) ?_
  by_cases hlt : k < n
  · have hmo := hM1.o
    have hcl2 : cs.length = k := by rw [hM1.ln]; simp
    have htk : List.take k cs = cs := List.take_of_length_le (by omega)
    have hlo := hM1.lo1
    have hrep : List.replicate n (SV.val (.int .i64 0)) = ints (List.replicate n 0) := by simp [ints]
    simp (disch := omega) only [Tryd.ntmps46, Tryd.results46, go_sem, rst, hmo, hcl2, htk, hrep, hset_map, hpush_map, hset_nb, hpush_nb]
    have hl2 : (List.replicate n (0 : Int)).length = n := by simp
    refine ⟨(k + 1, H1.nb + 1 + 1, cs ++ [.own H1.nb 0 n n 1 true], fun i => if i < (List.replicate k (List.replicate n (0 : Int))).length then nm i else H1.nb, _), ⟨hlt, ?_⟩, by show n - (k + 1) < n - k; omega, Wk.of (by simp only [go_sem, ↓List.forall_mem_cons, List.not_mem_nil, false_implies, implies_true, and_true, true_and, and_self, ri_eq, Int.natCast_add, Int.cast_ofNat_Int, rst]; try simp) rfl⟩
    show MatH _ 0 (H1.nb + 1 + 1) (cs ++ [.own H1.nb 0 n n 1 true]) (fun i => if i < (List.replicate k (List.replicate n (0 : Int))).length then nm i else H1.nb) (List.replicate (k + 1) (List.replicate n 0))
    rw [← hrepl]
    refine hM1.snoc (ob' := H1.nb + 1 + 1) (r := H1.nb) (l := n) (L := List.replicate n 0) (e := true) (e2 := true) hl2.symm ?_ ?_ (fun b b1 b2 b3 => ?_) ?_ ?_ ?_ (by omega)
    · simp (disch := omega) only [hset_map, hpush_map, hset_nb, hpush_nb, if_pos, ↓reduceIte]
    · simp (disch := omega) only [hset_map, hpush_map, hset_nb, hpush_nb, if_pos, if_neg, ↓reduceIte]
    · simp (disch := omega) only [hset_map, hpush_map, hset_nb, hpush_nb, if_neg, ↓reduceIte]
    · simp only [hset_nb, hpush_nb]; omega
    · simp only [hset_nb, hpush_nb]; omega
    · simp only [hset_nb, hpush_nb]; omega
  obtain rfl : k = n := by omega
  simp (disch := omega) only [Tryd.ntmps46, Tryd.results46, go_sem, rst]
  refine LoopW.loop (fun y : Nat × List (List Int) × Heap => ⟨ofL [(0, str s), (4, rst P), (5, .val (.int .i64 k)), (7, .own ob 0 k k 1 false), (9, .val (.int .i64 (pa k y.1 (y.1 + 1)))), (10, .val (.int .i64 y.1))], y.2.2⟩)
    (fun y => y.1 ≤ k ∧ MatH y.2.2 0 ob cs nm y.2.1 ∧ PMs k l y.2.1 y.1 (y.1 + 1)) (fun y => k - y.1) (0, zs k, H1) ⟨by simp, hM1, .zero k l⟩ (Wk.of (by simp only [go_sem, ↓List.forall_mem_cons, List.not_mem_nil, false_implies, implies_true, and_true, true_and, and_self, ri_eq, Int.natCast_add, Int.cast_ofNat_Int, rst, pa_zero]; try simp) rfl) ?_
  clear hM1 hlt
  rintro ⟨i, X, H1⟩ ⟨hi, hM1, hX⟩
  simp only at hi hM1 hX
  refine SW_of_vc Tryd.mixed _ _ _ (by kernel_rfl) ?_
  by_cases hlt : i < k
  · simp (disch := omega) only [Tryd.ntmps46, Tryd.results46, go_sem, rst]
    refine LoopW.loop (fun y : Nat × List (List Int) × Heap => ⟨ofL [(0, str s), (4, rst P), (5, .val (.int .i64 k)), (7, .own ob 0 k k 1 false), (9, .val (.int .i64 (pa k i y.1))), (10, .val (.int .i64 i)), (11, .val (.int .i64 y.1))], y.2.2⟩)
      (fun y => i < y.1 ∧ y.1 ≤ k ∧ MatH y.2.2 0 ob cs nm y.2.1 ∧ PMs k l y.2.1 i y.1) (fun y => k - y.1) (i + 1, X, H1) ⟨by simp, by show i + 1 ≤ k; omega, hM1, hX⟩ (Wk.of (by simp only [go_sem, ↓List.forall_mem_cons, List.not_mem_nil, false_implies, implies_true, and_true, true_and, and_self, ri_eq, Int.natCast_add, Int.cast_ofNat_Int, rst]; try simp) rfl) ?_
    clear hM1 hX
    rintro ⟨j, X, H1⟩ ⟨hij, hj, hM1, hX⟩
    simp only at hij hj hM1 hX
    refine SW_of_vc Tryd.mixed _ _ _ (by kernel_rfl) ?_
    by_cases hltj : j < k
    · have ha := hpa i j hij hltj
      have hsu := pa_succ (n := k) hij
      have hgj := strs_get ha
      have wj := Tryd.specPI_ok (P.getD (pa k i j) []) (hg _ ha)
      have hxv : (pint (P.getD (pa k i j) [])).getD 0 = l.getD (pos k i j) 0 := by
        have := hvt (pos k i j) (by rw [pa] at ha; omega)
        rw [this, pa, Nat.add_comm]
      rw [pIR, hxv] at wj
      have hX2 := hX.put hij hltj (x := l.getD (pos k i j) 0) rfl
      generalize l.getD (pos k i j) 0 = v at *
      generalize hag : pa k i j = a at *
      generalize (pint (P.getD a [])).isSome = ub at *
      have hXl := hX.1.1
      have hXr := hX.1.2
      have hcl2 : cs.length = k := by rw [hM1.ln, hXl]
      obtain ⟨e, e2, r1, r2⟩ := hM1.row i (by omega)
      rw [hXr i (by omega)] at r1
      have ho := hM1.o
      have hset : ∀ (M' : List (List Int)) (z c : Nat), (ints (mrow M' z)).set c (.val (.int .i64 v)) = ints ((mrow M' z).set c v) := fun M' z c => by simp [ints]
      have hM3 := hM1.set (i := i) (k := j) (x := v) (e2 := e2) (by omega)
      obtain ⟨f, f2, q1, q2⟩ := hM3.row j (by rw [mset_length]; omega)
      have hr3 : (mrow (mset X i j v) j).length = k := by rw [mset_row_length]; exact hXr j (by omega)
      rw [hr3] at q1
      have i1 : (ints (mrow X i)).length = k := by rw [ints_length, hXr i (by omega)]
      have i2 : (ints (mrow (mset X i j v) j)).length = k := by rw [ints_length, hr3]
      have ho3 := hM3.o
      have ni := hM1.lo2 i (by omega)
      have nj := hM3.lo2 j (by rw [mset_length]; omega)
      have hs1 := hset X i j
      have hs2 := hset (mset X i j v) j i
      have hM4 := hM3.set (i := j) (k := i) (x := v) (e2 := f2) (by rw [mset_length]; omega)
      simp (disch := omega) only [Tryd.ntmps46, Tryd.results46, go_sem, rst, hgj]
      refine wj.callV 0 (viewL_cons_of view_str viewL_nil_of) ?_
      simp (disch := omega) only [Tryd.ntmps46, Tryd.results46, go_sem, rst, ho, r1, r2, i1, hs1, ho3, q1, q2, i2, hs2, hcl2]
      exact ⟨(j + 1, mset (mset X i j v) j i v, _), ⟨by show i < j + 1; omega, hltj, hM4, hX2⟩, by show k - (j + 1) < k - j; omega, Wk.of (by simp only [go_sem, ↓List.forall_mem_cons, List.not_mem_nil, false_implies, implies_true, and_true, true_and, and_self, ri_eq, Int.natCast_add, Int.cast_ofNat_Int, rst, hsu]; try simp) rfl⟩
    · obtain rfl : j = k := by omega
      have hpr := pa_row hlt
      simp (disch := omega) only [Tryd.ntmps46, Tryd.results46, go_sem, rst]
      exact ⟨(i + 1, X, H1), ⟨hlt, hM1, hX.row (.inl rfl)⟩, by show j - (i + 1) < j - i; omega, Wk.of (by simp only [go_sem, ↓List.forall_mem_cons, List.not_mem_nil, false_implies, implies_true, and_true, true_and, and_self, ri_eq, Int.natCast_add, Int.cast_ofNat_Int, rst, hpr]; try simp) rfl⟩
  · obtain rfl : i = k := by omega
    have hXX := hX.all
    have hXl := hX.1.1
    have hv := hM1.viewH (f := 0) (cap := i) (e := false)
    rw [hXl] at hv
    have wF := Tryd.specFM_ok X (by omega) (fun q hq => by rw [hX.1.2 q (by omega)]; omega)
    by_cases hf : fmtM X = s
    · have hp : pm s = some X := by rw [heq, if_pos ⟨hlen, by rw [← hXX]; exact hf⟩, ← hXX]
      obtain ⟨rfl, rfl⟩ : M = X ∧ u = true := by
        rcases hM with ⟨h, h2⟩ | ⟨h, _⟩
        · rw [hp] at h; exact ⟨(Option.some.inj h).symm, h2⟩
        · rw [hp] at h; cases h
      have hf1 : (fmtM M == s) = true := by rw [hf]; exact beq_self_eq_true s
      have hfin := fin_mb (c1 := i) (e1 := false) (u := true) hM1
      rw [hXl] at hfin
      simp (disch := omega) only [Tryd.ntmps46, Tryd.results46, go_sem, rst]
      refine wF.callV 2 (viewL_cons_of hv viewL_nil_of) ?_
      simp (disch := omega) only [Tryd.ntmps46, Tryd.results46, go_sem, rst, hf1, Bool.not_true]
      exact hfin
    · have hp : pm s = none := by rw [heq, if_neg (fun h => hf (by rw [hXX]; exact h.2))]
      obtain ⟨rfl, rfl⟩ : M = [] ∧ u = false := by
        rcases hM with ⟨h, _⟩ | ⟨_, h1, h2⟩
        · rw [hp] at h; cases h
        · exact ⟨h1, h2⟩
      have hf1 : (fmtM X == s) = false := by rw [beq_eq_false_iff_ne]; exact hf
      simp (disch := omega) only [Tryd.ntmps46, Tryd.results46, go_sem, rst]
      refine wF.callV 2 (viewL_cons_of hv viewL_nil_of) ?_
      simp (disch := omega) only [Tryd.ntmps46, Tryd.results46, go_sem, rst, hf1, Bool.not_false]
      exact fin_mb0 (e2 := false) (by rw [hpush_map, if_pos rfl])
end Go.Sh
