/-
  Texts put together: K2, K3, N2, M0, U1, U2, V3, FI3, FM1, FM2, TB2. What each proves stands at its own head, with its conditions.
-/
import Derived.Test.YtkmckbjgffaieaaDoorZFormatMatrix3
import Derived.Test.YtkmckbjgffaieaaDoorRows
import Derived.LaidMore
import Derived.Lib.LaidU8

/-
  Contracts: is it a weight matrix? Of the reference and of the program.
-/
namespace Go.Sh
set_option linter.unusedSimpArgs false
set_option linter.unusedVariables false
open Go Go.Proofs

def WM (M : List (List Int)) : Prop := (1 ≤ M.length ∧ M.length ≤ 8) ∧ (∀ i, i < M.length → (mrow M i).length = M.length) ∧ (∀ i k, i < M.length → k < M.length → (-1000 ≤ mat M i k ∧ mat M i k ≤ 1000) ∧ mat M i k = mat M k i) ∧ ∀ i, i < M.length → mat M i i = 0
open Classical in
noncomputable def isWM (M : List (List Int)) : Bool := decide (WM M)
open Classical in
theorem isWM_f {M : List (List Int)} (h : ¬ WM M) : isWM M = false := decide_eq_false h
open Classical in
theorem isWM_t {M : List (List Int)} (h : WM M) : isWM M = true := decide_eq_true h

open Classical in
theorem WM_of {M : List (List Int)} (h : isWM M = true) : WM M := by
  unfold isWM at h
  exact of_decide_eq_true h
theorem inR_not {x a b : Int} (h : inR x a b = false) : ¬ (a ≤ x ∧ x ≤ b) := by
  rintro ⟨h1, h2⟩
  rw [inR_tt h1 h2] at h
  cases h
theorem ints_get' {L : List Int} {k n : Nat} (hl : L.length = n) (h : k < n) : (ints L)[k]? = some (.val (.int .i64 (L.getD k 0))) := ints_get (by omega)

set_option maxHeartbeats 4000000 in
theorem Tryd.specIsWM_ok (M : List (List Int)) (hM : M.length ≤ 1048576) (hR : ∀ i, i < M.length → (mrow M i).length ≤ 1048576) : PCall Tryd.prog 59 [rr M] (.val (.bool (isWM M))) := by
  refine FCall.pcall (R := fun r _ => r = .val (.bool (isWM M))) ?_ 0 (by rintro r H rfl; exact view_bool)
  refine FCall.of_body Tryd.func59 rfl (by kernel_rfl) (by simp [Tryd.ntmps59]) ?_
  refine SW_of_vc Tryd.mixed _ _ _ (by kernel_rfl) ?_
  simp (disch := omega) only [Tryd.ntmps59, Tryd.results59, go_sem, rr_eq]
  refine LoopW.loop (fun i : Nat => ⟨ofL [(0, rr M), (3, .val (.int .i64 i))], hp [] 0⟩) (fun i => i ≤ M.length ∧ ∀ x, x < i → (mrow M x).length = M.length) (fun i => M.length - i) 0 ⟨by omega, by intro x h; omega⟩ (Wk.of (by simp only [go_sem, ↓List.forall_mem_cons, List.not_mem_nil, false_implies, implies_true, and_true, true_and, and_self, ri_eq, Int.natCast_add, Int.cast_ofNat_Int, rr_eq]; try simp) rfl) ?_
  rintro i ⟨hi, hii⟩
  refine SW_of_vc Tryd.mixed _ _ _ (by kernel_rfl) ?_
  by_cases hlt : i < M.length
  · by_cases hr : (mrow M i).length = M.length
    · simp (disch := omega) only [Tryd.ntmps59, Tryd.results59, go_sem, rr_eq, rows_get, hr]
      refine ⟨i + 1, ⟨by omega, fun x hx => ?_⟩, by omega, Wk.of (by simp only [go_sem, ↓List.forall_mem_cons, List.not_mem_nil, false_implies, implies_true, and_true, true_and, and_self, ri_eq, Int.natCast_add, Int.cast_ofNat_Int, rr_eq]; try simp) rfl⟩
      rcases Nat.lt_succ_iff_lt_or_eq.mp hx with h | rfl
      · exact hii x h
      · exact hr
    · have hri := hR i hlt
      simp (disch := omega) only [Tryd.ntmps59, Tryd.results59, go_sem, rr_eq, rows_get]
      exact Fin.val (by rw [isWM_f (fun h => hr (h.2.1 i hlt))])
  · obtain rfl : i = M.length := by omega
    simp (disch := omega) only [Tryd.ntmps59, Tryd.results59, go_sem, rr_eq]
    refine LoopW.loop (fun i : Nat => ⟨ofL [(0, rr M), (4, .val (.int .i64 i))], hp [] 0⟩) (fun i => i ≤ M.length ∧ ∀ x k, x < i → k < M.length → (-1000 ≤ mat M x k ∧ mat M x k ≤ 1000) ∧ mat M x k = mat M k x ∧ (x = k → mat M x k = 0)) (fun i => M.length - i) 0 ⟨by omega, by intro x k h; omega⟩ (Wk.of (by simp only [go_sem, ↓List.forall_mem_cons, List.not_mem_nil, false_implies, implies_true, and_true, true_and, and_self, ri_eq, Int.natCast_add, Int.cast_ofNat_Int, rr_eq]; try simp) rfl) ?_
    rintro i ⟨hi1, hi2⟩
    refine SW_of_vc Tryd.mixed _ _ _ (by kernel_rfl) ?_
    by_cases hlt1 : i < M.length
    · simp (disch := omega) only [Tryd.ntmps59, Tryd.results59, go_sem, rr_eq]
      refine LoopW.loop (fun k : Nat => ⟨ofL [(0, rr M), (4, .val (.int .i64 i)), (5, .val (.int .i64 k))], hp [] 0⟩) (fun k => k ≤ M.length ∧ ∀ y, y < k → (-1000 ≤ mat M i y ∧ mat M i y ≤ 1000) ∧ mat M i y = mat M y i ∧ (i = y → mat M i y = 0)) (fun k => M.length - k) 0 ⟨by omega, by intro y h; omega⟩ (Wk.of (by simp only [go_sem, ↓List.forall_mem_cons, List.not_mem_nil, false_implies, implies_true, and_true, true_and, and_self, ri_eq, Int.natCast_add, Int.cast_ofNat_Int, rr_eq]; try simp) rfl) ?_
      rintro k ⟨hk1, hk2⟩
      refine SW_of_vc Tryd.mixed _ _ _ (by kernel_rfl) ?_
      by_cases hlt2 : k < M.length
      · have hri := hii i hlt1
        have hrk := hii k hlt2
        have g1 : (ints (mrow M i))[k]? = some (.val (.int .i64 (mat M i k))) := ints_get' hri hlt2
        have g2 : (ints (mrow M k))[i]? = some (.val (.int .i64 (mat M k i))) := ints_get' hrk hlt1
        obtain ⟨a, ha⟩ : ∃ a, mat M i k = a := ⟨_, rfl⟩
        obtain ⟨b, hb⟩ : ∃ b, mat M k i = b := ⟨_, rfl⟩
        rw [ha] at g1
        rw [hb] at g2
        have w := Tryd.l1In_ok a (-1000) 1000
        rcases Bool.eq_false_or_eq_true (inR a (-1000) 1000) with h1 | h1
        · obtain ⟨r1, r2⟩ := inR_of h1
          rw [h1] at w
          by_cases h2 : a = b
          · by_cases h3 : i = k
            · by_cases h4 : a = 0
              · simp (disch := omega) only [Tryd.ntmps59, Tryd.results59, go_sem, rr_eq, rows_get, hri, hrk, g1, g2]
                refine w.callDV 0 (viewL_cons_of (view_int) (viewL_cons_of (view_int) (viewL_cons_of (view_int) viewL_nil_of))) ?_
                simp (disch := omega) only [Tryd.ntmps59, Tryd.results59, go_sem, rr_eq, rows_get, hri, hrk, g1, g2]
                refine ⟨k + 1, ⟨by omega, fun y hy => ?_⟩, by omega, Wk.of (by simp only [go_sem, ↓List.forall_mem_cons, List.not_mem_nil, false_implies, implies_true, and_true, true_and, and_self, ri_eq, Int.natCast_add, Int.cast_ofNat_Int, rr_eq]; try simp) rfl⟩
                rcases Nat.lt_succ_iff_lt_or_eq.mp hy with h | rfl
                · exact hk2 y h
                · rw [ha, hb]; exact ⟨⟨r1, r2⟩, h2, fun _ => h4⟩
              · simp (disch := omega) only [Tryd.ntmps59, Tryd.results59, go_sem, rr_eq, rows_get, hri, hrk, g1, g2]
                refine w.callDV 0 (viewL_cons_of (view_int) (viewL_cons_of (view_int) (viewL_cons_of (view_int) viewL_nil_of))) ?_
                simp (disch := omega) only [Tryd.ntmps59, Tryd.results59, go_sem, rr_eq, rows_get, hri, hrk, g1, g2]
                exact Fin.val (by rw [isWM_f (fun h => h4 (by have := h.2.2.2 i hlt1; rw [← ha, ← h3]; exact this))])
            · simp (disch := omega) only [Tryd.ntmps59, Tryd.results59, go_sem, rr_eq, rows_get, hri, hrk, g1, g2]
              refine w.callDV 0 (viewL_cons_of (view_int) (viewL_cons_of (view_int) (viewL_cons_of (view_int) viewL_nil_of))) ?_
              simp (disch := omega) only [Tryd.ntmps59, Tryd.results59, go_sem, rr_eq, rows_get, hri, hrk, g1, g2]
              refine ⟨k + 1, ⟨by omega, fun y hy => ?_⟩, by omega, Wk.of (by simp only [go_sem, ↓List.forall_mem_cons, List.not_mem_nil, false_implies, implies_true, and_true, true_and, and_self, ri_eq, Int.natCast_add, Int.cast_ofNat_Int, rr_eq]; try simp) rfl⟩
              rcases Nat.lt_succ_iff_lt_or_eq.mp hy with h | rfl
              · exact hk2 y h
              · rw [ha, hb]; exact ⟨⟨r1, r2⟩, h2, fun e => absurd e h3⟩
          · simp (disch := omega) only [Tryd.ntmps59, Tryd.results59, go_sem, rr_eq, rows_get, hri, hrk, g1, g2]
            refine w.callDV 0 (viewL_cons_of (view_int) (viewL_cons_of (view_int) (viewL_cons_of (view_int) viewL_nil_of))) ?_
            simp (disch := omega) only [Tryd.ntmps59, Tryd.results59, go_sem, rr_eq, rows_get, hri, hrk, g1, g2]
            exact Fin.val (by rw [isWM_f (fun h => h2 (by have := (h.2.2.1 i k hlt1 hlt2).2; rw [ha, hb] at this; exact this))])
        · rw [h1] at w
          simp (disch := omega) only [Tryd.ntmps59, Tryd.results59, go_sem, rr_eq, rows_get, hri, hrk, g1, g2]
          refine w.callDV 0 (viewL_cons_of (view_int) (viewL_cons_of (view_int) (viewL_cons_of (view_int) viewL_nil_of))) ?_
          simp (disch := omega) only [Tryd.ntmps59, Tryd.results59, go_sem, rr_eq]
          exact Fin.val (by rw [isWM_f (fun h => inR_not h1 (by have := (h.2.2.1 i k hlt1 hlt2).1; rw [ha] at this; exact this))])
      · obtain rfl : k = M.length := by omega
        simp (disch := omega) only [Tryd.ntmps59, Tryd.results59, go_sem, rr_eq]
        refine ⟨i + 1, ⟨by omega, fun x y hx hy => ?_⟩, by omega, Wk.of (by simp only [go_sem, ↓List.forall_mem_cons, List.not_mem_nil, false_implies, implies_true, and_true, true_and, and_self, ri_eq, Int.natCast_add, Int.cast_ofNat_Int, rr_eq]; try simp) rfl⟩
        rcases Nat.lt_succ_iff_lt_or_eq.mp hx with h | rfl
        · exact hi2 x y h hy
        · exact hk2 y hy
    · obtain rfl : i = M.length := by omega
      have w := Tryd.l1In_ok (M.length : Int) 1 8
      rcases Bool.eq_false_or_eq_true (inR (M.length : Int) 1 8) with h1 | h1
      · obtain ⟨r1, r2⟩ := inR_of h1
        rw [h1] at w
        simp (disch := omega) only [Tryd.ntmps59, Tryd.results59, go_sem, rr_eq]
        refine w.callV 0 (viewL_cons_of (view_int) (viewL_cons_of (view_int) (viewL_cons_of (view_int) viewL_nil_of))) ?_
        simp (disch := omega) only [Tryd.ntmps59, Tryd.results59, go_sem, rr_eq]
        exact Fin.val (by rw [isWM_t ⟨⟨by omega, by omega⟩, hii, fun x y hx hy => ⟨(hi2 x y hx hy).1, (hi2 x y hx hy).2.1⟩, fun x hx => (hi2 x x hx hx).2.2 rfl⟩])
      · rw [h1] at w
        simp (disch := omega) only [Tryd.ntmps59, Tryd.results59, go_sem, rr_eq]
        refine w.callV 0 (viewL_cons_of (view_int) (viewL_cons_of (view_int) (viewL_cons_of (view_int) viewL_nil_of))) ?_
        simp (disch := omega) only [Tryd.ntmps59, Tryd.results59, go_sem, rr_eq]
        exact Fin.val (by rw [isWM_f (fun h => inR_not h1 (by have := h.1; omega))])

set_option maxHeartbeats 4000000 in
theorem Tryd.implIsWM_ok (M : List (List Int)) (hM : M.length ≤ 1048576) (hR : ∀ i, i < M.length → (mrow M i).length ≤ 1048576) : PCall Tryd.prog 60 [rr M] (.val (.bool (isWM M))) := by
  refine FCall.pcall (R := fun r _ => r = .val (.bool (isWM M))) ?_ 0 (by rintro r H rfl; exact view_bool)
  refine FCall.of_body Tryd.func60 rfl (by kernel_rfl) (by simp [Tryd.ntmps60]) ?_
  refine SW_of_vc Tryd.mixed _ _ _ (by kernel_rfl) ?_
  have w := Tryd.within_ok (M.length : Int) 1 8
  rcases Bool.eq_false_or_eq_true (inR (M.length : Int) 1 8) with hn | hn
  · obtain ⟨n1, n2⟩ := inR_of hn
    rw [hn] at w
    simp (disch := omega) only [Tryd.ntmps60, Tryd.results60, go_sem, rr_eq]
    refine w.callV 0 (viewL_cons_of (view_int) (viewL_cons_of (view_int) (viewL_cons_of (view_int) viewL_nil_of))) ?_
    simp (disch := omega) only [Tryd.ntmps60, Tryd.results60, go_sem, rr_eq]
    refine LoopW.loop (fun i : Nat => ⟨ofL [(0, rr M), (11, rr M), (12, .val (.int .i64 M.length)), (13, .val (.int .i64 i))], hp [] 0⟩) (fun i => i ≤ M.length ∧ ∀ x, x < i → (mrow M x).length = M.length ∧ mat M x x = 0 ∧ ∀ y, y < x → (-1000 ≤ mat M x y ∧ mat M x y ≤ 1000) ∧ mat M y x = mat M x y) (fun i => M.length - i) 0 ⟨by omega, by intro x h; omega⟩ (Wk.of (by simp only [go_sem, ↓List.forall_mem_cons, List.not_mem_nil, false_implies, implies_true, and_true, true_and, and_self, ri_eq, Int.natCast_add, Int.cast_ofNat_Int, rr_eq]; try simp) rfl) ?_
    rintro i ⟨hi, hii⟩
    refine SW_of_vc Tryd.mixed _ _ _ (by kernel_rfl) ?_
    by_cases hlt : i < M.length
    · have hrm := hR i hlt
      by_cases hr : (mrow M i).length = M.length
      · have g0 : (ints (mrow M i))[i]? = some (.val (.int .i64 (mat M i i))) := ints_get' hr hlt
        by_cases hd : mat M i i = 0
        · rw [hd] at g0
          simp (disch := omega) only [Tryd.ntmps60, Tryd.results60, go_sem, rr_eq, rows_get, hr, g0]
          have hlt' : ((mrow M i).take i).length = i := by simp; omega
          refine LoopW.loop (fun k : Nat => ⟨ofL [(0, rr M), (3, .val (.int .i64 i)), (11, rr M), (12, .val (.int .i64 M.length)), (13, .val (.int .i64 i)), (32, .row i false ((ints (mrow M i)).take i)), (33, .val (.int .i64 i)), (34, .val (.int .i64 k))], hp [] 0⟩)
            (fun k => k ≤ i ∧ ∀ y, y < k → (-1000 ≤ mat M i y ∧ mat M i y ≤ 1000) ∧ mat M y i = mat M i y) (fun k => i - k) 0 ⟨by omega, by intro y h; omega⟩ (Wk.of (by simp only [go_sem, ↓List.forall_mem_cons, List.not_mem_nil, false_implies, implies_true, and_true, true_and, and_self, ri_eq, Int.natCast_add, Int.cast_ofNat_Int, rr_eq]; try simp) rfl) ?_
          rintro k ⟨hk, hkk⟩
          refine SW_of_vc Tryd.mixed _ _ _ (by kernel_rfl) ?_
          by_cases hki : k < i
          · have hrk := (hii k hki).1
            have g1 : ((ints (mrow M i)).take i)[k]? = some (.val (.int .i64 (mat M i k))) := by
              rw [List.getElem?_take, if_pos hki]; exact ints_get' hr (by omega)
            have g2 : (ints (mrow M k))[i]? = some (.val (.int .i64 (mat M k i))) := ints_get' hrk hlt
            obtain ⟨a, ha⟩ : ∃ a, mat M i k = a := ⟨_, rfl⟩
            obtain ⟨b, hb⟩ : ∃ b, mat M k i = b := ⟨_, rfl⟩
            rw [ha] at g1
            rw [hb] at g2
            have w2 := Tryd.within_ok a (-1000) 1000
            rcases Bool.eq_false_or_eq_true (inR a (-1000) 1000) with h1 | h1
            · obtain ⟨r1, r2⟩ := inR_of h1
              rw [h1] at w2
              by_cases h2 : b = a
              · simp (disch := omega) only [Tryd.ntmps60, Tryd.results60, go_sem, rr_eq, rows_get, hrk, g1, g2]
                refine w2.callV 0 (viewL_cons_of (view_int) (viewL_cons_of (view_int) (viewL_cons_of (view_int) viewL_nil_of))) ?_
                simp (disch := omega) only [Tryd.ntmps60, Tryd.results60, go_sem, rr_eq, rows_get, hrk, g1, g2]
                refine ⟨k + 1, ⟨by omega, fun y hy => ?_⟩, by omega, Wk.of (by simp only [go_sem, ↓List.forall_mem_cons, List.not_mem_nil, false_implies, implies_true, and_true, true_and, and_self, ri_eq, Int.natCast_add, Int.cast_ofNat_Int, rr_eq]; try simp) rfl⟩
                rcases Nat.lt_succ_iff_lt_or_eq.mp hy with h | rfl
                · exact hkk y h
                · rw [ha, hb]; exact ⟨⟨r1, r2⟩, h2⟩
              · simp (disch := omega) only [Tryd.ntmps60, Tryd.results60, go_sem, rr_eq, rows_get, hrk, g1, g2]
                refine w2.callV 0 (viewL_cons_of (view_int) (viewL_cons_of (view_int) (viewL_cons_of (view_int) viewL_nil_of))) ?_
                simp (disch := omega) only [Tryd.ntmps60, Tryd.results60, go_sem, rr_eq, rows_get, hrk, g1, g2]
                exact Fin.val (by rw [isWM_f (fun h => h2 (by have := (h.2.2.1 k i (by omega) hlt).2; rw [ha, hb] at this; exact this))])
            · rw [h1] at w2
              simp (disch := omega) only [Tryd.ntmps60, Tryd.results60, go_sem, rr_eq, rows_get, hrk, g1, g2]
              refine w2.callV 0 (viewL_cons_of (view_int) (viewL_cons_of (view_int) (viewL_cons_of (view_int) viewL_nil_of))) ?_
              simp (disch := omega) only [Tryd.ntmps60, Tryd.results60, go_sem, rr_eq]
              exact Fin.val (by rw [isWM_f (fun h => inR_not h1 (by have := (h.2.2.1 i k hlt (by omega)).1; rw [ha] at this; exact this))])
          · obtain rfl : k = i := by omega
            simp (disch := omega) only [Tryd.ntmps60, Tryd.results60, go_sem, rr_eq]
            refine ⟨k + 1, ⟨by omega, fun x hx => ?_⟩, by omega, Wk.of (by simp only [go_sem, ↓List.forall_mem_cons, List.not_mem_nil, false_implies, implies_true, and_true, true_and, and_self, ri_eq, Int.natCast_add, Int.cast_ofNat_Int, rr_eq]; try simp) rfl⟩
            rcases Nat.lt_succ_iff_lt_or_eq.mp hx with h | rfl
            · exact hii x h
            · exact ⟨hr, hd, hkk⟩
        · obtain ⟨d, hd'⟩ : ∃ d, mat M i i = d := ⟨_, rfl⟩
          rw [hd'] at g0 hd
          simp (disch := omega) only [Tryd.ntmps60, Tryd.results60, go_sem, rr_eq, rows_get, hr, g0]
          exact Fin.val (by rw [isWM_f (fun h => hd (by rw [← hd']; exact h.2.2.2 i hlt))])
      · simp (disch := omega) only [Tryd.ntmps60, Tryd.results60, go_sem, rr_eq, rows_get]
        exact Fin.val (by rw [isWM_f (fun h => hr (h.2.1 i hlt))])
    · obtain rfl : i = M.length := by omega
      simp (disch := omega) only [Tryd.ntmps60, Tryd.results60, go_sem, rr_eq]
      refine Fin.val ?_
      rw [isWM_t ⟨⟨by omega, by omega⟩, fun x hx => (hii x hx).1, fun x y hx hy => ?_, fun x hx => (hii x hx).2.1⟩]
      rcases Nat.lt_trichotomy y x with h | h | h
      · obtain ⟨q1, q2⟩ := (hii x hx).2.2 y h
        exact ⟨q1, q2.symm⟩
      · subst h
        have := (hii y hy).2.1
        exact ⟨by omega, rfl⟩
      · obtain ⟨q1, q2⟩ := (hii y hy).2.2 x h
        exact ⟨by omega, q2⟩
  · rw [hn] at w
    simp (disch := omega) only [Tryd.ntmps60, Tryd.results60, go_sem, rr_eq]
    refine w.callV 0 (viewL_cons_of (view_int) (viewL_cons_of (view_int) (viewL_cons_of (view_int) viewL_nil_of))) ?_
    simp (disch := omega) only [Tryd.ntmps60, Tryd.results60, go_sem, rr_eq]
    exact Fin.val (by rw [isWM_f (fun h => inR_not hn (by have := h.1; omega))])
end Go.Sh

/-
  What comes in as a matrix: its measures.
-/
namespace Go.Sh
set_option linter.unusedSimpArgs false
set_option linter.unusedVariables false
open Go Go.Proofs

theorem mrow_le {M : List (List Int)} {i : Nat} (h : i < M.length) : ((mrow M i).length : Int) ≤ msum M M.length := by
  have h1 := msum_succ h
  have h2 := msum_nonneg M i
  have h3 := msum_mono (M := M) (k := i + 1) (j := M.length) (by omega) (Nat.le_refl _)
  omega
theorem mrow_max {M : List (List Int)} (hw : (∀ l ∈ M, (∀ n ∈ l, i64R n) ∧ l.length ≤ maxLen) ∧ M.length ≤ maxLen) : M.length ≤ 9223372036854775807 ∧ ∀ i, i < M.length → (mrow M i).length ≤ 9223372036854775807 := by
  refine ⟨hw.2, fun i hi => ?_⟩
  have := (hw.1 M[i] (List.getElem_mem hi)).2
  have e : mrow M i = M[i] := by simp [mrow, hi]
  rw [e]
  exact this
end Go.Sh

/-
  Contracts: a square of zeros; the components of a graph of positive weights. Of the program.
-/
namespace Go.Sh
set_option linter.unusedSimpArgs false
set_option linter.unusedVariables false
open Go Go.Proofs

def zs (n : Nat) : List (List Int) := List.replicate n (List.replicate n 0)
theorem zs_length (n : Nat) : (zs n).length = n := by simp [zs]
theorem zs_row {n i : Nat} (h : i < n) : mrow (zs n) i = List.replicate n 0 := by simp [zs, mrow, h]
theorem zs_at {n i k : Nat} : mat (zs n) i k = 0 := by
  simp only [zs, mat, mrow, List.getD_eq_getElem?_getD, List.getElem?_replicate]
  by_cases h : i < n
  · by_cases h2 : k < n <;> simp [h, h2]
  · simp [h]
def outerQ (n k : Nat) : List SV := (List.range n).map fun i => if i < k then .own (i + 1) 0 n n 1 true else .val (.slice none 0 0)
theorem outerQ_length (n k : Nat) : (outerQ n k).length = n := by simp [outerQ]
theorem outerQ_zero (n : Nat) : outerQ n 0 = List.replicate n (.val (.slice none 0 0)) := by
  apply List.ext_getElem <;> simp [outerQ]
theorem outerQ_get {n k i : Nat} (h : i < n) : (outerQ n k)[i]? = some (if i < k then .own (i + 1) 0 n n 1 true else .val (.slice none 0 0)) := by
  simp only [outerQ, List.getElem?_map]
  rw [List.getElem?_range h]; rfl
theorem outerQ_set {n k : Nat} (h : k < n) : (outerQ n k).set k (.own (k + 1) 0 n n 1 true) = outerQ n (k + 1) := by
  apply List.ext_getElem?
  intro i
  by_cases hi : i < n
  · rw [outerQ_get hi, List.getElem?_set, outerQ_length, outerQ_get hi]
    by_cases hk : k = i
    · subst hk; simp [h]
    · by_cases h1 : i < k
      · simp [hk, h1, show i < k + 1 by omega]
      · simp [hk, h1, show ¬ i < k + 1 by omega]
  · rw [List.getElem?_eq_none (by rw [List.length_set, outerQ_length]; omega), List.getElem?_eq_none (by rw [outerQ_length]; omega)]
def HQ (n k : Nat) : Heap := ⟨fun x => if x = 0 then some ⟨outerQ n k, true⟩ else if x ≤ k then some ⟨ints (List.replicate n 0), true⟩ else none, k + 1⟩
def HQp (n k : Nat) : Heap := (HQ n k).push ⟨ints (List.replicate n 0), true⟩
theorem HQ_nb (n k : Nat) : (HQ n k).nb = k + 1 := rfl
theorem HQ_map (n k : Nat) : (HQ n k).map 0 = some ⟨outerQ n k, true⟩ := rfl
theorem HQp_map (n k : Nat) : (HQp n k).map 0 = some ⟨outerQ n k, true⟩ := by
  simp only [HQp, Heap.push, HQ]
  rw [if_neg (by omega)]
  rfl
theorem HQp_set {n k : Nat} : (HQp n k).set 0 (some ⟨outerQ n (k + 1), true⟩) = HQ n (k + 1) := by
  refine Heap.ext' (fun x => ?_) rfl
  simp only [HQp, HQ, Heap.push, Heap.set]
  by_cases h0 : x = 0
  · simp [h0]
  · by_cases h1 : x = k + 1
    · simp [h1]
    · by_cases h2 : x ≤ k
      · simp [h0, h1, h2, show x ≤ k + 1 by omega]
      · simp [h0, h1, h2, show ¬ x ≤ k + 1 by omega]
theorem HQ_zero (n : Nat) : HQ n 0 = hp [(0, ⟨List.replicate n (.val (.slice none 0 0)), true⟩)] 1 := by
  refine Heap.ext' (fun x => ?_) rfl
  simp only [HQ, hp, hmap, outerQ_zero]
  by_cases h0 : x = 0
  · simp [h0]
  · simp [h0]
theorem outerQ_nr (n k : Nat) : noRowL (outerQ n k) = true := by
  unfold outerQ
  generalize List.range n = l
  induction l with
  | nil => rfl
  | cons a l ih =>
    simp only [List.map_cons, noRowL, ih, Bool.and_true]
    split <;> rfl
theorem HQ_nr (n k : Nat) : nrHeap (HQ n k) := by
  intro b blk hb
  simp only [HQ] at hb
  split at hb
  · simp at hb; subst hb; exact outerQ_nr n k
  · split at hb
    · simp at hb; subst hb; exact noRowL_ints _
    · simp at hb
theorem HQ_res (n : Nat) : MatRes (mi (zs n)) (.own 0 0 n n 1 true) (HQ n n) := by
  have hl : (mi (zs n)).length = n := by rw [mi_length, zs_length]
  refine ⟨0, 0, n, true, _, by rw [hl], HQ_map n n, by rw [hl, outerQ_length]; omega, mi_vals _, fun i => i + 1, fun _ => 0, fun i i' _ _ h => by simpa using h, fun i _ => by simp, fun i hi => ?_⟩
  rw [hl] at hi
  have hr : rowAt (mi (zs n)) i = ints (List.replicate n 0) := by rw [mi_row (by rwa [zs_length]), zs_row hi]
  refine ⟨n, true, ⟨ints (List.replicate n 0), true⟩, ?_, ?_, ?_, ?_⟩
  · rw [hr, Nat.zero_add, outerQ_get hi, if_pos hi, ints_length, List.length_replicate]
  · simp only [HQ]
    rw [if_neg (by omega), if_pos (by omega)]
  · rw [hr]; simp
  · rw [hr]; simp

set_option maxHeartbeats 1000000 in
theorem Tryd.square_f (n : Nat) (hn : n ≤ 1048576) : FCall Tryd.prog 71 [.val (.int .i64 n)] (MatRes (mi (zs n))) := by
  refine FCall.of_body Tryd.func71 rfl (by kernel_rfl) (by simp [Tryd.ntmps71]) ?_
  refine SW_of_vc Tryd.mixed _ _ _ (by kernel_rfl) ?_
  simp (disch := omega) only [Tryd.ntmps71, Tryd.results71, go_sem]
  refine LoopW.loop (fun k : Nat => ⟨ofL [(0, .val (.int .i64 n)), (3, .own 0 0 n n 1 true), (8, .val (.int .i64 n)), (9, .val (.int .i64 k))], HQ n k⟩) (fun k => k ≤ n) (fun k => n - k) 0 (by omega)
    (Wk.of (by simp only [go_sem, ↓List.forall_mem_cons, List.not_mem_nil, false_implies, implies_true, and_true, true_and, and_self, ri_eq, Int.natCast_add, Int.cast_ofNat_Int]; try simp) (by rw [HQ_zero])) ?_
  intro k hk
  have ho := outerQ_length n k
  refine SW_of_vc Tryd.mixed _ _ _ (by kernel_rfl) ?_
  by_cases hlt : k < n
  · have hos := outerQ_set hlt
    have e : (HQ n k).push ⟨ints (List.replicate n 0), true⟩ = HQp n k := rfl
    simp (disch := omega) only [Tryd.ntmps71, Tryd.results71, go_sem, HQ_nb, e, HQp_map, ho, hos, HQp_set]
    exact ⟨k + 1, by omega, by omega, Wk.of (by simp only [go_sem, ↓List.forall_mem_cons, List.not_mem_nil, false_implies, implies_true, and_true, true_and, and_self, ri_eq, Int.natCast_add, Int.cast_ofNat_Int]; try simp) rfl⟩
  · obtain rfl : k = n := by omega
    simp (disch := omega) only [Tryd.ntmps71, Tryd.results71, go_sem]
    exact ⟨HQ k k, ⟨rfl, fun _ => .inr rfl⟩, rfl, HQ_nr k _, HQ_res k⟩
theorem Tryd.square_one (n : Nat) (hn : n ≤ 1048576) : FCall Tryd.prog 71 [.val (.int .i64 n)] (MatOne (mi (zs n))) := (Tryd.square_f n hn).mat

/-! ### The search -/
def pB (M : List (List Int)) (x y : Nat) : Bool := decide (0 < mat M x y)
theorem WM.sym {M : List (List Int)} (h : WM M) : ∀ x y, x < M.length → y < M.length → pB M x y = true → pB M y x = true := by
  intro x y hx hy hb
  have := (h.2.2.1 x y hx hy).2
  rw [pB] at hb ⊢
  rw [← this]; exact hb
def vClos : SV := .clos (.func 96) [] [.optr 3 0, .optr 2 0, .optr 0 0, .optr 4 0]
def vHeap (M : List (List Int)) (O : List Int) (c : Int) : List (Nat × Blk) := [(4, ⟨[vClos], true⟩), (3, ⟨[.val (.int .i64 c)], true⟩), (2, ⟨[.own 1 0 M.length M.length 1 true], true⟩), (1, ⟨ints O, true⟩), (0, ⟨[rr M], true⟩)]

set_option maxHeartbeats 4000000 in
theorem Tryd.visit_ok {M : List (List Int)} (hw : WM M) {c : Int} (hc : 0 ≤ c) : ∀ (fu : Nat) (O : List Int) (i : Nat), O.length = M.length → i < M.length → O.getD i 0 < 0 → negs M.length O ≤ fu →
    CallS Tryd.prog 96 [.val (.int .i64 i), .optr 3 0, .optr 2 0, .optr 0 0, .optr 4 0] (hp (vHeap M O c) 5) (fun r H' => ∃ O', r = .tup [] ∧ H' = hp (vHeap M O' c) 5 ∧ DfsL M.length (pB M) c i O O')
  | 0, O, i, hl, hi, h0, hf => by have := negs_pos hi h0; omega
  | fu + 1, O, i, hl, hi, h0, hf => by
    have hln := hw.1
    have hri := hw.2.1 i hi
    refine CallS.of_body Tryd.func96 rfl (by kernel_rfl) (by simp [Tryd.ntmps96]) ?_
    refine SW_of_vc Tryd.mixed _ _ _ (by kernel_rfl) ?_
    rw [vHeap]
    simp (disch := omega) only [Tryd.ntmps96, Tryd.results96, go_sem, rr_eq, hl, rows_get, hri]
    refine LoopW.loop (fun p : Nat × List Int => ⟨ofL [(1, .optr 3 0), (2, .optr 2 0), (3, .optr 0 0), (4, .optr 4 0), (15, .row M.length false (ints (mrow M i))), (16, .val (.int .i64 M.length)), (17, .val (.int .i64 p.1))], hp (vHeap M p.2 c) 5⟩)
      (fun p => p.1 ≤ M.length ∧ DfsK M.length (pB M) c i O p.1 p.2) (fun p => M.length - p.1) (0, O.set i c) ⟨by simp, .start hl hi h0⟩ (Wk.of (by simp only [go_sem, ↓List.forall_mem_cons, List.not_mem_nil, false_implies, implies_true, and_true, true_and, and_self, ri_eq, Int.natCast_add, Int.cast_ofNat_Int, rr_eq, hri]; try simp) rfl) ?_
    rintro ⟨k, O1⟩ ⟨hk, hd⟩
    simp only at hk hd
    have hl1 := hd.len
    refine SW_of_vc Tryd.mixed _ _ _ (by kernel_rfl) ?_
    rw [vHeap]
    by_cases hlt : k < M.length
    · have g1 : (ints (mrow M i))[k]? = some (.val (.int .i64 (mat M i k))) := ints_get' hri hlt
      have g2 : (ints O1)[k]? = some (.val (.int .i64 (O1.getD k 0))) := ints_get' hl1 hlt
      obtain ⟨a, ha⟩ : ∃ a, mat M i k = a := ⟨_, rfl⟩
      obtain ⟨b, hb⟩ : ∃ b, O1.getD k 0 = b := ⟨_, rfl⟩
      have hpb : pB M i k = decide (0 < a) := by rw [pB, ha]
      rw [ha] at g1
      rw [hb] at g2
      by_cases h1 : 0 < a
      · by_cases h2 : b < 0
        · have w := Tryd.visit_ok hw hc fu O1 k hl1 hlt (by omega) (by have := hd.negs hc hi h0; omega)
          rw [vHeap, vClos] at w
          simp (disch := omega) only [Tryd.ntmps96, Tryd.results96, go_sem, vClos, g1, g2, hl1, ints_length]
          refine w.callX ?_
          rintro r H' ⟨O2, rfl, rfl, hd2⟩
          simp (disch := omega) only [Tryd.ntmps96, Tryd.results96, go_sem]
          exact ⟨(k + 1, O2), ⟨hlt, hd.step hc hi hlt (by rw [hpb]; exact decide_eq_true h1) (by omega) hd2⟩, by show M.length - (k + 1) < M.length - k; omega, Wk.of (by simp only [go_sem, ↓List.forall_mem_cons, List.not_mem_nil, false_implies, implies_true, and_true, true_and, and_self, ri_eq, Int.natCast_add, Int.cast_ofNat_Int]; try simp) rfl⟩
        · simp (disch := omega) only [Tryd.ntmps96, Tryd.results96, go_sem, vClos, g1, g2, hl1, ints_length]
          exact ⟨(k + 1, O1), ⟨hlt, hd.skip (fun _ => by omega)⟩, by show M.length - (k + 1) < M.length - k; omega, Wk.of (by simp only [go_sem, ↓List.forall_mem_cons, List.not_mem_nil, false_implies, implies_true, and_true, true_and, and_self, ri_eq, Int.natCast_add, Int.cast_ofNat_Int]; try simp) rfl⟩
      · simp (disch := omega) only [Tryd.ntmps96, Tryd.results96, go_sem, vClos, g1, g2, hl1, ints_length]
        exact ⟨(k + 1, O1), ⟨hlt, hd.skip (fun h => by rw [hpb] at h; exact absurd (of_decide_eq_true h) h1)⟩, by show M.length - (k + 1) < M.length - k; omega, Wk.of (by simp only [go_sem, ↓List.forall_mem_cons, List.not_mem_nil, false_implies, implies_true, and_true, true_and, and_self, ri_eq, Int.natCast_add, Int.cast_ofNat_Int]; try simp) rfl⟩
    · simp (disch := omega) only [Tryd.ntmps96, Tryd.results96, go_sem]
      exact ⟨O1, rfl, hd.final (by omega)⟩

def fillN (n k : Nat) : List Int := List.replicate k (-1) ++ List.replicate (n - k) 0
theorem fillN_zero (n : Nat) : fillN n 0 = List.replicate n 0 := by simp [fillN]
theorem fillN_length {n k : Nat} (h : k ≤ n) : (fillN n k).length = n := by simp [fillN]; omega
theorem fillN_set {n k : Nat} (h : k < n) : (fillN n k).set k (-1) = fillN n (k + 1) := by
  apply List.ext_getElem?
  intro i
  simp [fillN, List.getElem?_set, List.getElem?_append, List.getElem?_replicate]
  grind
theorem fillN_all (n : Nat) : fillN n n = List.replicate n (-1) := by simp [fillN]

theorem Fin.imp {R R' : SV → Heap → Prop} {r : SV} {H : Heap} (h : ∀ r H, R r H → R' r H) (f : Fin R r H) : Fin R' r H := by
  obtain ⟨H2, a, b, c, d⟩ := f
  exact ⟨H2, a, b, c, h _ _ d⟩
set_option maxHeartbeats 4000000 in
theorem Tryd.implPC_f (M : List (List Int)) (hM : M.length ≤ 1048576) (hR : ∀ i, i < M.length → (mrow M i).length ≤ 1048576) (hw : WM M) : FCall Tryd.prog 72 [rr M] (fun r H => CompL M.length (pB M) (comp M.length (pB M)) ∧ FlatRes M.length 1 (ints (comp M.length (pB M))) r H) := by
  have hln := hw.1
  have w1 := Tryd.implIsWM_ok M hM hR
  rw [isWM_t hw] at w1
  refine FCall.of_body Tryd.func72 rfl (by kernel_rfl) (by simp [Tryd.ntmps72]) ?_
  refine SW_of_vc Tryd.mixed _ _ _ (by kernel_rfl) ?_
  simp (disch := omega) only [Tryd.ntmps72, Tryd.results72, go_sem, rr_eq]
  refine w1.callV 0 (viewL_cons_of (view_row) viewL_nil_of) ?_
  simp (disch := omega) only [Tryd.ntmps72, Tryd.results72, go_sem, rr_eq]
  refine LoopW.loop (fun k : Nat => ⟨ofL [(1, .optr 0 0), (3, .optr 2 0), (15, .val (.int .i64 M.length)), (16, .val (.int .i64 k))], hp [(2, ⟨[.own 1 0 M.length M.length 1 true], true⟩), (1, ⟨ints (fillN M.length k), true⟩), (0, ⟨[rr M], true⟩)] 3⟩) (fun k => k ≤ M.length) (fun k => M.length - k) 0 (by omega)
    (Wk.of (by simp only [go_sem, ↓List.forall_mem_cons, List.not_mem_nil, false_implies, implies_true, and_true, true_and, and_self, ri_eq, Int.natCast_add, Int.cast_ofNat_Int]; try simp) (by rw [fillN_zero]; rfl)) ?_
  intro k hk
  have hfl := fillN_length hk
  refine SW_of_vc Tryd.mixed _ _ _ (by kernel_rfl) ?_
  by_cases hlt : k < M.length
  · have hfs := fillN_set hlt
    simp (disch := omega) only [Tryd.ntmps72, Tryd.results72, go_sem, rr_eq, hfl, hfs]
    exact ⟨k + 1, by omega, by omega, Wk.of (by simp only [go_sem, ↓List.forall_mem_cons, List.not_mem_nil, false_implies, implies_true, and_true, true_and, and_self, ri_eq, Int.natCast_add, Int.cast_ofNat_Int]; try simp) rfl⟩
  · obtain rfl : k = M.length := by omega
    simp (disch := omega) only [Tryd.ntmps72, Tryd.results72, go_sem, rr_eq, fillN_all]
    refine LoopW.loop (fun p : Nat × List Int × Int => ⟨ofL [(3, .optr 2 0), (5, .optr 3 0), (6, .optr 4 0), (25, .val (.int .i64 M.length)), (26, .val (.int .i64 p.1))], hp (vHeap M p.2.1 p.2.2) 5⟩)
      (fun p => p.1 ≤ M.length ∧ PartL M.length (pB M) p.1 p.2.2 p.2.1) (fun p => M.length - p.1) (0, List.replicate M.length (-1), 0) ⟨by simp, .zero _ _⟩ (Wk.of (by simp only [go_sem, ↓List.forall_mem_cons, List.not_mem_nil, false_implies, implies_true, and_true, true_and, and_self, ri_eq, Int.natCast_add, Int.cast_ofNat_Int]; try simp) rfl) ?_
    rintro ⟨i, O, c⟩ ⟨hi, hpl⟩
    simp only at hi hpl
    have hl := hpl.len
    have hc0 := hpl.c0
    have hci := hpl.ci
    refine SW_of_vc Tryd.mixed _ _ _ (by kernel_rfl) ?_
    rw [vHeap]
    by_cases hlt : i < M.length
    · have g2 : (ints O)[i]? = some (.val (.int .i64 (O.getD i 0))) := ints_get' hl hlt
      obtain ⟨b, hb⟩ : ∃ b, O.getD i 0 = b := ⟨_, rfl⟩
      rw [hb] at g2
      by_cases h2 : b < 0
      · have w := Tryd.visit_ok hw hc0 (negs M.length O) O i hl hlt (by omega) (Nat.le_refl _)
        rw [vHeap, vClos] at w
        simp (disch := omega) only [Tryd.ntmps72, Tryd.results72, go_sem, vClos, g2, hl]
        refine w.callX ?_
        rintro r H' ⟨O2, rfl, rfl, hd⟩
        rw [vHeap]
        simp (disch := omega) only [Tryd.ntmps72, Tryd.results72, go_sem, vClos]
        exact ⟨(i + 1, O2, c + 1), ⟨hlt, hpl.step hw.sym hlt (by omega) (hd.newL hw.sym hpl hlt (by omega))⟩, by show M.length - (i + 1) < M.length - i; omega, Wk.of (by simp only [go_sem, ↓List.forall_mem_cons, List.not_mem_nil, false_implies, implies_true, and_true, true_and, and_self, ri_eq, Int.natCast_add, Int.cast_ofNat_Int]; try simp) rfl⟩
      · simp (disch := omega) only [Tryd.ntmps72, Tryd.results72, go_sem, vClos, g2, hl]
        exact ⟨(i + 1, O, c), ⟨hlt, hpl.skip (by omega)⟩, by show M.length - (i + 1) < M.length - i; omega, Wk.of (by simp only [go_sem, ↓List.forall_mem_cons, List.not_mem_nil, false_implies, implies_true, and_true, true_and, and_self, ri_eq, Int.natCast_add, Int.cast_ofNat_Int]; try simp) rfl⟩
    · have hC := hpl.final (by omega)
      have hc2 := hC.comp
      rw [← hC.eq] at hc2 ⊢
      simp (disch := omega) only [Tryd.ntmps72, Tryd.results72, go_sem, vClos]
      exact Fin.imp (fun _ _ h => ⟨hc2, h⟩) (fin_ints hl.symm (by rw [hp_map]; simp only [hmap_cons]; rfl))
theorem Tryd.implPC_nil (M : List (List Int)) (hM : M.length ≤ 1048576) (hR : ∀ i, i < M.length → (mrow M i).length ≤ 1048576) (hw : ¬ WM M) : FCall Tryd.prog 72 [rr M] (fun r _ => r = .val (.slice none 0 0)) := by
  have w1 := Tryd.implIsWM_ok M hM hR
  rw [isWM_f hw] at w1
  refine FCall.of_body Tryd.func72 rfl (by kernel_rfl) (by simp [Tryd.ntmps72]) ?_
  refine SW_of_vc Tryd.mixed _ _ _ (by kernel_rfl) ?_
  simp (disch := omega) only [Tryd.ntmps72, Tryd.results72, go_sem, rr_eq]
  refine w1.callV 0 (viewL_cons_of (view_row) viewL_nil_of) ?_
  simp (disch := omega) only [Tryd.ntmps72, Tryd.results72, go_sem, rr_eq]
  exact Fin.val rfl
end Go.Sh

/-
  Squares of numbers, by their entries.
-/
namespace Go.Sh
set_option linter.unusedSimpArgs false
set_option linter.unusedVariables false
open Go Go.Proofs

/-- A square of numbers. -/
def SqI (n : Nat) (M : List (List Int)) : Prop := M.length = n ∧ ∀ i, i < n → (mrow M i).length = n
theorem SqI.zs (n : Nat) : SqI n (zs n) := ⟨zs_length n, fun i h => by rw [zs_row h]; simp⟩
theorem SqI.set {n : Nat} {M : List (List Int)} (h : SqI n M) (i c : Nat) (x : Int) : SqI n (mset M i c x) := ⟨by rw [mset_length, h.1], fun k hk => by rw [mset_row_length]; exact h.2 k hk⟩
theorem SqI.ext {n : Nat} {M M' : List (List Int)} (h : SqI n M) (h' : SqI n M') (e : ∀ x y, x < n → y < n → mat M x y = mat M' x y) : M = M' := by
  refine List.ext_getElem (h.1.trans h'.1.symm) fun i h1 h2 => ?_
  have hi : i < n := by rw [← h.1]; exact h1
  have e1 : M[i] = mrow M i := by simp [mrow, h1]
  have e2 : M'[i] = mrow M' i := by simp [mrow, h2]
  rw [e1, e2]
  exact list_ext ((h.2 i hi).trans (h'.2 i hi).symm) fun k hk => e i k hi (by rw [← h.2 i hi]; exact hk)
def genM (n : Nat) (f : Nat → Nat → Int) : List (List Int) := (List.range n).map fun x => (List.range n).map fun y => f x y
theorem genM_row {n : Nat} {f : Nat → Nat → Int} {x : Nat} (h : x < n) : mrow (genM n f) x = (List.range n).map fun y => f x y := by simp [mrow, genM, h]
theorem genM_sq (n : Nat) (f : Nat → Nat → Int) : SqI n (genM n f) := ⟨by simp [genM], fun i h => by rw [genM_row h]; simp⟩
theorem genM_at {n : Nat} {f : Nat → Nat → Int} {x y : Nat} (hx : x < n) (hy : y < n) : mat (genM n f) x y = f x y := by rw [mat, genM_row hx]; simp [hy]
def bint (b : Bool) : Int := if b = true then 1 else 0
end Go.Sh

/-
  Contracts: the rows and columns of some items. Of the program.
-/
namespace Go.Sh
set_option linter.unusedSimpArgs false
set_option linter.unusedVariables false
open Go Go.Proofs

/-- Strictly ascending numbers from 0 to n - 1, in the first k places. -/
def selTo (n : Int) (S : List Int) (k : Nat) : Prop := ∀ i, i < k → (0 ≤ S.getD i 0 ∧ S.getD i 0 ≤ n - 1) ∧ (0 < i → S.getD (i - 1) 0 < S.getD i 0)
def SelP (n : Int) (S : List Int) : Prop := selTo n S S.length
open Classical in
noncomputable def isSel (n : Int) (S : List Int) : Bool := decide (SelP n S)
open Classical in
theorem isSel_t {n : Int} {S : List Int} (h : SelP n S) : isSel n S = true := decide_eq_true h
open Classical in
theorem isSel_f {n : Int} {S : List Int} (h : ¬ SelP n S) : isSel n S = false := decide_eq_false h
theorem selTo_succ {n : Int} {S : List Int} {k : Nat} (h : selTo n S k) (h1 : 0 ≤ S.getD k 0 ∧ S.getD k 0 ≤ n - 1) (h2 : 0 < k → S.getD (k - 1) 0 < S.getD k 0) : selTo n S (k + 1) := by
  intro i hi
  rcases Nat.lt_succ_iff_lt_or_eq.1 hi with g | rfl
  · exact h i g
  · exact ⟨h1, h2⟩
theorem sel_not {n : Int} {S : List Int} {k : Nat} (hk : k < S.length) (h : ¬ ((0 ≤ S.getD k 0 ∧ S.getD k 0 ≤ n - 1) ∧ (0 < k → S.getD (k - 1) 0 < S.getD k 0))) : isSel n S = false := isSel_f fun g => h (g k hk)
theorem sel_len {n : Int} {S : List Int} (h : SelP n S) : ∀ i, i < S.length → (i : Int) ≤ S.getD i 0
  | 0, hi => by have := (h 0 hi).1.1; omega
  | i + 1, hi => by
    have := sel_len h i (by omega)
    have h2 := (h (i + 1) hi).2 (by omega)
    simp only [Nat.add_sub_cancel] at h2
    omega
theorem sel_length {n : Int} {S : List Int} (h : SelP n S) (hn : 0 ≤ n) : (S.length : Int) ≤ n := by
  by_cases h0 : S.length = 0
  · omega
  · have h1 := sel_len h (S.length - 1) (by omega)
    have h2 := (h (S.length - 1) (by omega)).1.2
    omega

def subM (M : List (List Int)) (S : List Int) : List (List Int) := genM S.length fun x y => mat M (S.getD x 0).toNat (S.getD y 0).toNat
theorem subM_length (M : List (List Int)) (S : List Int) : (subM M S).length = S.length := (genM_sq _ _).1
theorem subM_row {M : List (List Int)} {S : List Int} {i : Nat} (h : i < S.length) : (mrow (subM M S) i).length = S.length := (genM_sq _ _).2 i h

end Go.Sh

/-
  Contracts: the rows and columns of some items. Of the program and of the reference.
-/
namespace Go.Sh
set_option linter.unusedSimpArgs false
set_option linter.unusedVariables false
open Go Go.Proofs

open Classical in
noncomputable def sbm (M : List (List Int)) (S : List Int) : List (List Int) := if WM M ∧ SelP M.length S then subM M S else []
theorem sbm_t {M : List (List Int)} {S : List Int} (h : WM M ∧ SelP M.length S) : sbm M S = subM M S := by rw [sbm, if_pos h]
theorem sbm_f {M : List (List Int)} {S : List Int} (h : ¬ (WM M ∧ SelP M.length S)) : sbm M S = [] := by rw [sbm, if_neg h]

theorem fin_rows0 {b cap : Nat} {ex : Bool} {H : Heap} (h1 : H.map b = some ⟨[], false⟩) : Fin (MatRes (mi [])) (.own b 0 0 cap 1 ex) H := by
  have h : EntIn (hx [.mat b []] H.nb) (.mat b []) := .self
  refine fin_mat (R := mi []) ?_ (mi_vals _) rfl
  intro x hx1 hx2
  have : x = b := by simp [mi] at hx2; omega
  subst this
  rw [h1, matMap, if_pos rfl]; rfl
theorem take_snoc {α : Type} {R : List α} {l : List α} {a : α} (h : l = R.take l.length) (hl : l.length < R.length) (ha : R[l.length]? = some a) : l ++ [a] = R.take (l ++ [a]).length := by
  have e : (l ++ [a]).length = l.length + 1 := by simp
  rw [e, List.take_add_one, ha, ← h]; rfl

end Go.Sh

/-
  Contracts: the blocks of a partition. Of the reference.
-/
namespace Go.Sh
set_option linter.unusedSimpArgs false
set_option linter.unusedVariables false
open Go Go.Proofs

set_option maxHeartbeats 4000000 in
theorem Tryd.specBlocks_f (L : List Int) (hL : L.length ≤ 1048576) : FCall Tryd.prog 50 [ri L] (MatRes (mi (blocksOf L))) := by
  have w := Tryd.specIsPartition_ok L hL
  refine FCall.of_body Tryd.func50 rfl (by kernel_rfl) (by simp [Tryd.ntmps50]) ?_
  refine SW_of_vc2 (onD 7 [(30, 40), (35, 40), (37, 40), (30, 30)] []) Tryd.mixed _ _ _ (by kernel_rfl) ?_
  rcases Bool.eq_false_or_eq_true (isPart L) with hp1 | hp1
  case inr =>
    rw [hp1] at w
    rw [blocksOf_f hp1]
    simp (disch := omega) only [Tryd.ntmps50, Tryd.results50, go_sem]
    refine LoopW.loop (fun _ : Unit => ⟨ofL [(0, ri L), (3, .own 0 0 0 0 1 false), (4, .val (.int .i64 0))], hx [.blk 0 ⟨[], false⟩] 1⟩) (fun _ => True) (fun _ => 0) () trivial (Wk.ofX (by simp only [go_sem, ↓List.forall_mem_cons, List.not_mem_nil, false_implies, implies_true, and_true, true_and, and_self, ri_eq, Int.natCast_add, Int.cast_ofNat_Int]; try simp) (by simp [EntIn, hp, hmap]) (by simp [hp])) ?_
    rintro _ _
    refine SW_of_vc2 (onD 7 [(30, 40), (35, 40), (37, 40), (30, 30)] []) Tryd.mixed _ _ _ (by kernel_rfl) ?_
    by_cases h0 : 0 < L.length
    · simp (disch := omega) only [Tryd.ntmps50, Tryd.results50, go_sem]
      refine w.callV 0 (viewL_cons_of (view_rowL (by first | rfl | simp [marks_length, canon_length] | omega)) viewL_nil_of) ?_
      simp (disch := omega) only [Tryd.ntmps50, Tryd.results50, go_sem]
      exact fin_rows0 (by rw [hx_map, xmap_blk, if_pos rfl])
    · simp (disch := omega) only [Tryd.ntmps50, Tryd.results50, go_sem]
      exact fin_rows0 (by rw [hx_map, xmap_blk, if_pos rfl])
  obtain ⟨l1, l2⟩ := isPart_len hp1
  rw [hp1] at w
  rw [blocksOf_t hp1]
  simp (disch := omega) only [Tryd.ntmps50, Tryd.results50, go_sem]
  refine LoopW.loop (fun p : Nat × List (Nat × List SV) × Nat × Nat => ⟨ofL [(0, ri L), (3, .own p.2.2.1 0 p.2.1.length p.2.1.length 1 false), (4, .val (.int .i64 p.1))], hx [.blk p.2.2.1 ⟨outerN false p.2.1, false⟩, .rows false p.2.1] p.2.2.2⟩)
    (fun p => p.1 ≤ L.length ∧ NrOk p.2.2.1 p.2.2.2 p.2.1 ∧ p.2.1.map (·.2) = mi (blkTo L p.1)) (fun p => L.length - p.1) (0, [], 0, 1) ⟨by simp, .nil (by simp), rfl⟩ (Wk.ofX (by simp only [go_sem, ↓List.forall_mem_cons, List.not_mem_nil, false_implies, implies_true, and_true, true_and, and_self, ri_eq, Int.natCast_add, Int.cast_ofNat_Int]; try simp) (by simp [EntIn, outerN, hp, hmap]) (by simp [hp])) ?_
  rintro ⟨k, nr, ob, nb⟩ ⟨hk, ho, hrows⟩
  simp only at hk ho hrows
  have hob := ho.1
  have hnl := nr_len hrows
  have hol := outerN_length false nr
  have hot : (outerN false nr).take nr.length = outerN false nr := List.take_of_length_le (by omega)
  have hble := blkTo_le L k
  refine SW_of_vc2 (onD 7 [(30, 40), (35, 40), (37, 40), (30, 30)] []) Tryd.mixed _ _ _ (by kernel_rfl) ?_
  by_cases hlt : k < L.length
  · obtain ⟨x, hx, hxl⟩ := blk_at hp1 hlt
    have g1 := ints_get hlt
    rw [hx] at g1
    by_cases hnew : x = (blkTo L k).length
    · have hxe : x = nr.length := by omega
      subst hxe
      have hn := blkTo_new (L := L) (k := k) (by rw [hx, hnew])
      have hg2 : ∀ nm, (outerN false nr ++ [SV.own nm 0 0 0 1 false])[nr.length]? = some (.own nm 0 0 0 1 false) := fun nm => by rw [List.getElem?_append_right (by omega), hol]; simp
      have hs2 : ∀ nm nm', (outerN false nr ++ [SV.own nm' 0 0 0 1 false]).set nr.length (.own nm 0 1 1 1 false) = outerN false (nr ++ [(nm, ints [(k : Int)])]) := fun nm nm' => by
        rw [outerN_snoc, List.set_append_right _ _ (by omega), hol, Nat.sub_self]; rfl
      simp (disch := omega) only [Tryd.ntmps50, Tryd.results50, go_sem, g1]
      refine w.callV 0 (viewL_cons_of (view_rowL (by first | rfl | simp [marks_length, canon_length] | omega)) viewL_nil_of) ?_
      simp (disch := omega) only [Tryd.ntmps50, Tryd.results50, go_sem, g1, hol, hot, hg2, hs2, xdel_cut, List.length_append, List.length_singleton]
      refine ⟨(k + 1, nr ++ [(nb + 1 + 1 + 1 + 1, ints [(k : Int)])], nb + 1 + 1, nb + 1 + 1 + 1 + 1 + 1), ⟨hlt, ho.snoc (by omega) (by show nb ≤ nb + 1 + 1; omega) (by show nb + 1 + 1 + 1 + 1 ≠ nb + 1 + 1; omega) (by show nb + 1 + 1 + 1 + 1 < nb + 1 + 1 + 1 + 1 + 1; omega) (by show nb + 1 + 1 < nb + 1 + 1 + 1 + 1 + 1; omega), ?_⟩, by show L.length - (k + 1) < L.length - k; omega, ?_⟩
      · show (nr ++ _).map (·.2) = mi (blkTo L (k + 1))
        rw [hn, List.map_append, hrows, mi_snoc]; rfl
      · refine Wk.ofX (by simp only [go_sem, ↓List.forall_mem_cons, List.not_mem_nil, false_implies, implies_true, and_true, true_and, and_self, ri_eq, Int.natCast_add, Int.cast_ofNat_Int, List.length_append, List.length_singleton]; try simp) ?_ (Nat.le_refl _)
        simp only [List.forall_mem_cons]
        refine ⟨?_, ?_, by simp⟩
        · simp (disch := omega) only [EntIn, hx_map, xmap_blk, if_pos, if_neg, ↓reduceIte]
        · refine EntIn.snoc ?_ ?_
          · have hne : ∀ p ∈ nr, p.1 < nb ∧ p.1 ≠ ob := ho.2.1
            refine EntIn.skipR (EntIn.skipR (EntIn.skipR (EntIn.skipR (EntIn.skipC (EntIn.skipC (EntIn.selfR ho.2.2) ?_) ?_) ?_) ?_) ?_) ?_
            all_goals
              intro p hp
              have := hne p hp
              omega
          · simp (disch := omega) only [hx_map, xmap_blk, if_pos, if_neg, ↓reduceIte]; rfl
    · have hxn : x < nr.length := by omega
      obtain ⟨hr1, hr2⟩ := nr_row hrows hxn
      have hold := blkTo_old hx hr2
      have hgo := outerN_get (fl := false) hxn
      have hgr := xmap_rowsAt (fl := false) (l := []) ho.2.2 hxn
      have hlt' := ho.2.1 _ (nrAt_mem hxn)
      have hrle := blkTo_row L k x
      have hset := fun nm => outerN_set (fl := false) (nr := nr) (x := x) (nm := nm) (r := ints (mrow (blkTo L k) x ++ [(k : Int)])) rfl
      rw [hr1] at hgo hgr
      rw [ints_length, List.length_append, List.length_singleton] at hset
      rw [ints_length] at hgo
      generalize hnm : (nrAt nr x).1 = nm at *
      simp (disch := omega) only [Tryd.ntmps50, Tryd.results50, go_sem, g1]
      refine w.callV 0 (viewL_cons_of (view_rowL (by first | rfl | simp [marks_length, canon_length] | omega)) viewL_nil_of) ?_
      simp (disch := omega) only [Tryd.ntmps50, Tryd.results50, go_sem, g1, hol, hot, hgo, hgr, hset]
      refine ⟨(k + 1, nr.set x (nb + 1, ints (mrow (blkTo L k) x ++ [(k : Int)])), ob, nb + 1 + 1), ⟨hlt, ho.set (by omega) (by show nb + 1 < nb + 1 + 1; omega), ?_⟩, by show L.length - (k + 1) < L.length - k; omega, ?_⟩
      · show (nr.set x _).map (·.2) = mi (blkTo L (k + 1))
        rw [hold, List.map_set, hrows, mi_set]
      · refine Wk.ofX (by simp only [go_sem, ↓List.forall_mem_cons, List.not_mem_nil, false_implies, implies_true, and_true, true_and, and_self, ri_eq, Int.natCast_add, Int.cast_ofNat_Int, List.length_set]; try simp) ?_ (Nat.le_refl _)
        simp only [List.forall_mem_cons]
        refine ⟨?_, ?_, by simp⟩
        · simp (disch := omega) only [EntIn, hx_map, xmap_blk, if_pos, if_neg, ↓reduceIte]
        · refine EntIn.setN (fun j hj hne => ?_) (by rw [hx_map, xmap_blk, if_pos rfl])
          have h1 := ho.2.1 _ (nrAt_mem hj)
          have h2 := nr_ne ho.2.2 hj hxn hne
          rw [hnm] at h2
          rw [hx_map, xmap_blk, if_neg (by omega), xmap_blk, if_neg (by omega), xmap_blk, if_neg (by omega), xmap_cut, if_neg (by omega)]
          exact xmap_rowsAt ho.2.2 hj
  · have hkl : k = L.length := by omega
    rw [hkl] at hrows
    have := fin_rows (H := hx [Ent.blk ob { cells := outerN false nr, ex := false }, Ent.rows false nr] nb) (R := mi (blkTo L L.length)) ho
      (fun p hp => mi_vals (blkTo L L.length) _ (by rw [← hrows]; exact List.mem_map_of_mem hp)) (by rw [hx_map, xmap_blk, if_pos rfl])
      (EntIn.skipR (EntIn.selfR ho.2.2) (fun p hp => (ho.2.1 p hp).2)) hrows.symm
    simp (disch := omega) only [Tryd.ntmps50, Tryd.results50, go_sem]
    exact this
theorem Tryd.specBlocks_ok (L : List Int) (hL : L.length ≤ 1048576) : PCall Tryd.prog 50 [ri L] (rr (blocksOf L)) :=
  (Tryd.specBlocks_f L hL).mat.pcall 2 (fun _ _ h => h.viewI)
end Go.Sh

/-
  FormatPartition: contracts.
-/
namespace Go.Sh
set_option linter.unusedSimpArgs false
set_option linter.unusedVariables false
open Go Go.Proofs

theorem join_snoc (xs : List (List UInt8)) (y sep : List UInt8) (h : xs ≠ []) : Lib.join (xs ++ [y]) sep = Lib.join xs sep ++ sep ++ y := by
  cases xs with
  | nil => exact absurd rfl h
  | cons x r => rw [List.cons_append, Lib.join_cons, Lib.join_cons]; simp [Lib.joinTail]
def accP (M : List (List Int)) (i : Nat) : List UInt8 := Lib.join ((M.take i).map fmtB) [124]
theorem accP_zero (M : List (List Int)) : accP M 0 = [] := rfl
theorem accP_all (M : List (List Int)) : accP M M.length = Lib.join (M.map fmtB) [124] := by rw [accP, List.take_length]
theorem take_mrow {M : List (List Int)} {i : Nat} (h : i < M.length) : M.take (i + 1) = M.take i ++ [mrow M i] := by
  rw [List.take_add_one, List.getElem?_eq_getElem h]; simp [mrow, h]
theorem accP_one {M : List (List Int)} (h : 0 < M.length) : accP M 1 = fmtB (mrow M 0) := by
  rw [accP, take_mrow (i := 0) h, List.take_zero, List.nil_append, List.map_cons, List.map_nil, Lib.join_one]
theorem accP_succ {M : List (List Int)} {i : Nat} (h : i < M.length) (h0 : 0 < i) : accP M (i + 1) = accP M i ++ [124] ++ fmtB (mrow M i) := by
  rw [accP, take_mrow h, List.map_append, List.map_cons, List.map_nil, join_snoc _ _ _ (by
    intro e
    have := congrArg List.length e
    rw [List.length_map, List.length_take, List.length_nil] at this
    omega)]
  rfl
def accR (r : List Int) (k : Nat) : List UInt8 := fmtB (r.take k)
theorem accR_zero (r : List Int) : accR r 0 = [] := rfl
theorem accR_all (r : List Int) : accR r r.length = fmtB r := by rw [accR, List.take_length]
theorem accR_succ {r : List Int} {k : Nat} (h : k < r.length) : accR r (k + 1) = accR r k ++ Lib.itoa (r.getD k 0) := by
  rw [accR, accR, fmtB_eq, fmtB_eq, List.take_add_one, List.getElem?_eq_getElem h, List.map_append, List.flatten_append]
  simp [h]
/-- Few blocks, few items, small items. -/
structure BOk (M : List (List Int)) : Prop where
  ln : M.length ≤ 8
  row : ∀ i, (mrow M i).length ≤ 8
  it : ∀ i, i < M.length → ∀ y ∈ mrow M i, ∃ x : Nat, y = x ∧ x < 8
theorem BOk.of (L : List Int) : BOk (blocksOf L) := by
  cases h : isPart L with
  | false => rw [blocksOf_f h]; exact ⟨by simp, fun i => by simp [mrow], fun i hi => by simp at hi⟩
  | true =>
    obtain ⟨h1, h2, h3, h4⟩ := part_blk h
    rw [blocksOf_t h]
    refine ⟨h2, fun i => by have := blkTo_row L L.length i; omega, fun i hi => h4 _ ?_⟩
    simp [mrow, hi]
theorem BOk.accR_le {M : List (List Int)} (h : BOk M) {i : Nat} (hi : i < M.length) (k : Nat) : (accR (mrow M i) k).length ≤ 8 := by
  rw [accR, (fmtB_no fun y hy => h.it i hi y (List.mem_of_mem_take hy)).2, List.length_take]
  have := h.row i
  omega
theorem BOk.fmtB_le {M : List (List Int)} (h : BOk M) {i : Nat} (hi : i < M.length) : (fmtB (mrow M i)).length ≤ 8 := by
  rw [← accR_all]; exact h.accR_le hi _
theorem BOk.accP_le {M : List (List Int)} (h : BOk M) : ∀ {i : Nat}, i ≤ M.length → (accP M i).length ≤ 9 * i
  | 0, _ => by simp [accP_zero]
  | i + 1, hi => by
    have ih := h.accP_le (i := i) (by omega)
    have h8 := h.fmtB_le (i := i) (by omega)
    cases i with
    | zero => rw [accP_one (by omega)]; omega
    | succ i => rw [accP_succ (by omega) (by omega)]; simp; omega
theorem BOk.at {M : List (List Int)} (h : BOk M) {i k : Nat} (hi : i < M.length) (hk : k < (mrow M i).length) : ∃ x : Nat, (mrow M i).getD k 0 = x ∧ x < 8 := h.it i hi _ (by simp [hk])

set_option maxHeartbeats 4000000 in
theorem Tryd.specFP_ok (L : List Int) (hL : L.length ≤ 1048576) : PCall Tryd.prog 10 [ri L] (str (fmtP L)) := by
  have wB := Tryd.specBlocks_ok L hL
  have hB := BOk.of L
  have hfin : accP (blocksOf L) (blocksOf L).length = fmtP L := accP_all _
  refine FCall.pcall (R := fun r _ => r = str (fmtP L)) ?_ 0 (by rintro r H rfl; exact view_str)
  refine FCall.of_body Tryd.func10 rfl (by kernel_rfl) (by simp [Tryd.ntmps10]) ?_
  generalize blocksOf L = M at *
  have hln := hB.ln
  refine SW_of_vc Tryd.mixed _ _ _ (by kernel_rfl) ?_
  simp (disch := omega) only [Tryd.ntmps10, Tryd.results10, go_sem]
  refine wB.callV 0 (viewL_cons_of (view_row) viewL_nil_of) ?_
  simp (disch := omega) only [Tryd.ntmps10, Tryd.results10, go_sem]
  refine LoopW.loop (fun i : Nat => ⟨ofL [(3, rr M), (4, str (accP M i)), (5, .val (.int .i64 i))], hp [] 0⟩) (fun i => i ≤ M.length) (fun i => M.length - i) 0 (by omega) (Wk.of (by simp only [go_sem, ↓List.forall_mem_cons, List.not_mem_nil, false_implies, implies_true, and_true, true_and, and_self, ri_eq, Int.natCast_add, Int.cast_ofNat_Int, accP_zero]; try simp) rfl) ?_
  intro i hi
  refine SW_of_vc Tryd.mixed _ _ _ (by kernel_rfl) ?_
  have hal := hB.accP_le hi
  by_cases hlt : i < M.length
  · have hrow := hB.row i
    have hg := rows_get hlt
    generalize hrm : mrow M i = r at *
    by_cases h0 : i = 0
    · obtain ⟨pre, hpre⟩ : ∃ pre, accP M i = pre := ⟨_, rfl⟩
      have hnext : accP M (i + 1) = pre ++ accR r r.length := by
        subst h0
        rw [accP_one hlt, hrm, ← hpre, accP_zero, accR_all, List.nil_append]
      have hpl : pre.length ≤ 80 := by rw [← hpre]; omega
      simp (disch := omega) only [Tryd.ntmps10, Tryd.results10, go_sem, rr_eq, hg]
      refine LoopW.loop (fun k : Nat => ⟨ofL [(3, rr M), (4, str (pre ++ accR r k)), (5, .val (.int .i64 i)), (6, .val (.int .i64 k))], hp [] 0⟩) (fun k => k ≤ r.length) (fun k => r.length - k) 0 (by omega) (Wk.of (by simp only [go_sem, ↓List.forall_mem_cons, List.not_mem_nil, false_implies, implies_true, and_true, true_and, and_self, ri_eq, Int.natCast_add, Int.cast_ofNat_Int, rr_eq, hpre, accR_zero, List.append_nil]; try simp) rfl) ?_
      intro k hk
      refine SW_of_vc Tryd.mixed _ _ _ (by kernel_rfl) ?_
      have hrl := hB.accR_le hlt k
      rw [hrm] at hrl
      by_cases hkl : k < r.length
      · obtain ⟨x, hx, hx8⟩ := hB.at hlt (k := k) (by rw [hrm]; exact hkl)
        rw [hrm] at hx
        have g1 := ints_get hkl
        have hw := Tryd.specFI_ok (r.getD k 0) (by omega) (by omega)
        have hil := itoa_le (n := r.getD k 0) (by omega) (by omega)
        simp (disch := omega) only [Tryd.ntmps10, Tryd.results10, go_sem, rr_eq, hg, g1]
        refine hw.callV 0 (viewL_cons_of (view_int) viewL_nil_of) ?_
        simp (disch := omega) only [Tryd.ntmps10, Tryd.results10, go_sem, rr_eq, List.length_append]
        exact ⟨k + 1, by omega, by omega, Wk.of (by simp only [go_sem, ↓List.forall_mem_cons, List.not_mem_nil, false_implies, implies_true, and_true, true_and, and_self, ri_eq, Int.natCast_add, Int.cast_ofNat_Int, rr_eq, accR_succ hkl, List.append_assoc]; try simp) rfl⟩
      · obtain rfl : k = r.length := by omega
        simp (disch := omega) only [Tryd.ntmps10, Tryd.results10, go_sem, rr_eq, hg]
        exact ⟨i + 1, by omega, by omega, Wk.of (by simp only [go_sem, ↓List.forall_mem_cons, List.not_mem_nil, false_implies, implies_true, and_true, true_and, and_self, ri_eq, Int.natCast_add, Int.cast_ofNat_Int, rr_eq, hnext]; try simp) rfl⟩
    · obtain ⟨pre, hpre⟩ : ∃ pre, accP M i ++ [124] = pre := ⟨_, rfl⟩
      have hnext : accP M (i + 1) = pre ++ accR r r.length := by
        rw [accP_succ hlt (by omega), hrm, ← hpre, accR_all]
      have hpl : pre.length ≤ 80 := by rw [← hpre]; simp; omega
      simp (disch := omega) only [Tryd.ntmps10, Tryd.results10, go_sem, rr_eq, hg]
      refine LoopW.loop (fun k : Nat => ⟨ofL [(3, rr M), (4, str (pre ++ accR r k)), (5, .val (.int .i64 i)), (6, .val (.int .i64 k))], hp [] 0⟩) (fun k => k ≤ r.length) (fun k => r.length - k) 0 (by omega) (Wk.of (by simp only [go_sem, ↓List.forall_mem_cons, List.not_mem_nil, false_implies, implies_true, and_true, true_and, and_self, ri_eq, Int.natCast_add, Int.cast_ofNat_Int, rr_eq, hpre, accR_zero, List.append_nil]; try simp) rfl) ?_
      intro k hk
      refine SW_of_vc Tryd.mixed _ _ _ (by kernel_rfl) ?_
      have hrl := hB.accR_le hlt k
      rw [hrm] at hrl
      by_cases hkl : k < r.length
      · obtain ⟨x, hx, hx8⟩ := hB.at hlt (k := k) (by rw [hrm]; exact hkl)
        rw [hrm] at hx
        have g1 := ints_get hkl
        have hw := Tryd.specFI_ok (r.getD k 0) (by omega) (by omega)
        have hil := itoa_le (n := r.getD k 0) (by omega) (by omega)
        simp (disch := omega) only [Tryd.ntmps10, Tryd.results10, go_sem, rr_eq, hg, g1]
        refine hw.callV 0 (viewL_cons_of (view_int) viewL_nil_of) ?_
        simp (disch := omega) only [Tryd.ntmps10, Tryd.results10, go_sem, rr_eq, List.length_append]
        exact ⟨k + 1, by omega, by omega, Wk.of (by simp only [go_sem, ↓List.forall_mem_cons, List.not_mem_nil, false_implies, implies_true, and_true, true_and, and_self, ri_eq, Int.natCast_add, Int.cast_ofNat_Int, rr_eq, accR_succ hkl, List.append_assoc]; try simp) rfl⟩
      · obtain rfl : k = r.length := by omega
        simp (disch := omega) only [Tryd.ntmps10, Tryd.results10, go_sem, rr_eq, hg]
        exact ⟨i + 1, by omega, by omega, Wk.of (by simp only [go_sem, ↓List.forall_mem_cons, List.not_mem_nil, false_implies, implies_true, and_true, true_and, and_self, ri_eq, Int.natCast_add, Int.cast_ofNat_Int, rr_eq, hnext]; try simp) rfl⟩
  · obtain rfl : i = M.length := by omega
    simp (disch := omega) only [Tryd.ntmps10, Tryd.results10, go_sem, rr_eq]
    exact Fin.val (by rw [hfin])
end Go.Sh

/-
  FormatMatrix: contracts; the law walked.
-/
namespace Go.Sh
set_option linter.unusedSimpArgs false
set_option linter.unusedVariables false
open Go Go.Proofs

/-- The size, then what stands right of the diagonal in the first i rows. -/
def up (M : List (List Int)) : Nat → List Int
  | 0 => [(M.length : Int)]
  | i + 1 => up M i ++ (mrow M i).drop (i + 1)
def upk (M : List (List Int)) (i k : Nat) : List Int := up M i ++ ((mrow M i).take k).drop (i + 1)
theorem upk_start (M : List (List Int)) (i : Nat) : upk M i (i + 1) = up M i := by
  have e : ((mrow M i).take (i + 1)).drop (i + 1) = [] := List.drop_eq_nil_of_le (by rw [List.length_take]; omega)
  rw [upk, e, List.append_nil]
theorem upk_succ {M : List (List Int)} {i k : Nat} (h : i + 1 ≤ k) (hk : k < (mrow M i).length) : upk M i (k + 1) = upk M i k ++ [(mrow M i).getD k 0] := by
  have e : (mrow M i).take (k + 1) = (mrow M i).take k ++ [(mrow M i).getD k 0] := by
    generalize mrow M i = r at *
    rw [List.take_add_one, List.getElem?_eq_getElem hk]; simp [List.getD, hk]
  rw [upk, upk, e, List.drop_append_of_le_length (by rw [List.length_take]; omega), List.append_assoc]
theorem upk_all (M : List (List Int)) (i : Nat) : upk M i (mrow M i).length = up M (i + 1) := by rw [upk, List.take_length]; rfl
def txt (l : List Int) : List UInt8 := Lib.join (l.map Lib.itoa) [32]
theorem txt_snoc {l : List Int} (x : Int) (h : l ≠ []) : txt (l ++ [x]) = txt l ++ [32] ++ Lib.itoa x := by
  rw [txt, List.map_append, List.map_cons, List.map_nil, join_snoc _ _ _ (by simpa using h)]; rfl
theorem up_ne (M : List (List Int)) : ∀ i, up M i ≠ []
  | 0 => by simp [up]
  | i + 1 => by rw [up]; simp [up_ne M i]
theorem upk_ne (M : List (List Int)) (i k : Nat) : upk M i k ≠ [] := by rw [upk]; simp [up_ne M i]
theorem itoa_k {x : Int} (h : -1000 ≤ x ∧ x ≤ 1000) : (Lib.itoa x).length ≤ 502 := by
  rw [Lib.itoa]; split
  · have := decDigits_le x.natAbs
    simp; omega
  · have := decDigits_le x.toNat
    omega
theorem txt_le : ∀ {l : List Int}, (∀ y ∈ l, -1000 ≤ y ∧ y ≤ 1000) → (txt l).length ≤ 503 * l.length := by
  intro l
  have h2 : ∀ r : List Int, (∀ y ∈ r, -1000 ≤ y ∧ y ≤ 1000) → (Lib.joinTail [32] (r.map Lib.itoa)).length ≤ 503 * r.length := by
    intro r
    induction r with
    | nil => intro _; simp [Lib.joinTail]
    | cons y r ih =>
      intro h
      have := ih fun z hz => h z (by simp [hz])
      have h1 := itoa_k (h y (by simp))
      simp only [Lib.joinTail, List.map_cons, List.flatten_cons, List.length_append, List.length_cons, List.length_nil] at this ⊢
      omega
  cases l with
  | nil => intro _; simp [txt, Lib.join_nil]
  | cons x r =>
    intro h
    rw [txt, List.map_cons, Lib.join_cons]
    have h1 := itoa_k (h x (by simp))
    have := h2 r fun z hz => h z (by simp [hz])
    simp only [List.length_append, List.length_cons]
    omega
theorem row_it {M : List (List Int)} (h : WM M) {i : Nat} (hi : i < M.length) : ∀ y ∈ mrow M i, -1000 ≤ y ∧ y ≤ 1000 := by
  intro y hy
  obtain ⟨k, hk, rfl⟩ := List.getElem_of_mem hy
  have hl := h.2.1 i hi
  have := (h.2.2.1 i k hi (by omega)).1
  have e : mat M i k = (mrow M i)[k] := by rw [mat]; simp [hk]
  rw [e] at this; exact this
theorem up_it {M : List (List Int)} (h : WM M) : ∀ i, i ≤ M.length → (∀ y ∈ up M i, -1000 ≤ y ∧ y ≤ 1000) ∧ (up M i).length ≤ 1 + 8 * i
  | 0, _ => ⟨by intro y hy; simp [up] at hy; have := h.1; omega, by simp [up]⟩
  | i + 1, hi => by
    obtain ⟨h1, h2⟩ := up_it h i (by omega)
    have hl := h.2.1 i (by omega)
    have := h.1
    refine ⟨fun y hy => ?_, by rw [up, List.length_append, List.length_drop]; omega⟩
    rw [up] at hy
    rcases List.mem_append.1 hy with hy | hy
    · exact h1 y hy
    · exact row_it h (by omega) y (List.mem_of_mem_drop hy)
theorem upk_it {M : List (List Int)} (h : WM M) {i : Nat} (hi : i < M.length) (k : Nat) : (∀ y ∈ upk M i k, -1000 ≤ y ∧ y ≤ 1000) ∧ (upk M i k).length ≤ 9 + 8 * i := by
  obtain ⟨h1, h2⟩ := up_it h i (by omega)
  have hl := h.2.1 i (by omega)
  have := h.1
  refine ⟨fun y hy => ?_, by rw [upk, List.length_append, List.length_drop, List.length_take]; omega⟩
  rw [upk] at hy
  rcases List.mem_append.1 hy with hy | hy
  · exact h1 y hy
  · exact row_it h hi y (List.mem_of_mem_take (List.mem_of_mem_drop hy))
noncomputable def fmtM (M : List (List Int)) : List UInt8 := if isWM M = true then txt (up M M.length) else []
open Classical in
theorem isWM_cases (M : List (List Int)) : (WM M ∧ isWM M = true) ∨ isWM M = false := by
  by_cases h : WM M
  · exact .inl ⟨h, isWM_t h⟩
  · exact .inr (isWM_f h)
set_option maxHeartbeats 4000000 in
theorem Tryd.specFM_ok (M : List (List Int)) (hM : M.length ≤ 1048576) (hR : ∀ i, i < M.length → (mrow M i).length ≤ 1048576) : PCall Tryd.prog 20 [rr M] (str (fmtM M)) := by
  have w := Tryd.specIsWM_ok M hM hR
  refine FCall.pcall (R := fun r _ => r = str (fmtM M)) ?_ 0 (by rintro r H rfl; exact view_str)
  refine FCall.of_body Tryd.func20 rfl (by kernel_rfl) (by simp [Tryd.ntmps20]) ?_
  refine SW_of_vc Tryd.mixed _ _ _ (by kernel_rfl) ?_
  rcases isWM_cases M with ⟨hW, he⟩ | he
  case inr =>
    rw [he] at w
    simp (disch := omega) only [Tryd.ntmps20, Tryd.results20, go_sem, rr_eq]
    refine w.callV 0 (viewL_cons_of (view_row) viewL_nil_of) ?_
    simp (disch := omega) only [Tryd.ntmps20, Tryd.results20, go_sem, rr_eq]
    exact Fin.val (by rw [fmtM, he]; rfl)
  rw [he] at w
  have hl8 := hW.1
  have hw0 := Tryd.specFI_ok (M.length : Int) (by omega) (by omega)
  have h0 : txt (up M 0) = Lib.itoa M.length := by rw [txt, up, List.map_cons, List.map_nil, Lib.join_one]
  simp (disch := omega) only [Tryd.ntmps20, Tryd.results20, go_sem, rr_eq]
  refine w.callV 0 (viewL_cons_of (view_row) viewL_nil_of) ?_
  simp (disch := omega) only [Tryd.ntmps20, Tryd.results20, go_sem, rr_eq]
  refine hw0.callV 0 (viewL_cons_of (view_int) viewL_nil_of) ?_
  simp (disch := omega) only [Tryd.ntmps20, Tryd.results20, go_sem, rr_eq]
  refine LoopW.loop (fun i : Nat => ⟨ofL [(0, rr M), (3, str (txt (up M i))), (4, .val (.int .i64 i))], hp [] 0⟩) (fun i => i ≤ M.length) (fun i => M.length - i) 0 (by omega) (Wk.of (by simp only [go_sem, ↓List.forall_mem_cons, List.not_mem_nil, false_implies, implies_true, and_true, true_and, and_self, ri_eq, Int.natCast_add, Int.cast_ofNat_Int, rr_eq, h0]; try simp) rfl) ?_
  intro i hi
  refine SW_of_vc Tryd.mixed _ _ _ (by kernel_rfl) ?_
  by_cases hlt : i < M.length
  · have hg := rows_get hlt
    have hrl := hW.2.1 i hlt
    simp (disch := omega) only [Tryd.ntmps20, Tryd.results20, go_sem, rr_eq]
    refine LoopW.loop (fun k : Nat => ⟨ofL [(0, rr M), (3, str (txt (upk M i k))), (4, .val (.int .i64 i)), (5, .val (.int .i64 k))], hp [] 0⟩) (fun k => i + 1 ≤ k ∧ k ≤ M.length) (fun k => M.length - k) (i + 1) (by omega) (Wk.of (by simp only [go_sem, ↓List.forall_mem_cons, List.not_mem_nil, false_implies, implies_true, and_true, true_and, and_self, ri_eq, Int.natCast_add, Int.cast_ofNat_Int, rr_eq, upk_start]; try simp) rfl) ?_
    intro k ⟨hk1, hk⟩
    refine SW_of_vc Tryd.mixed _ _ _ (by kernel_rfl) ?_
    obtain ⟨u1, u2⟩ := upk_it hW hlt k
    have u3 := txt_le u1
    by_cases hkl : k < M.length
    · have hsu := upk_succ hk1 (by omega : k < (mrow M i).length)
      have hsn := txt_snoc ((mrow M i).getD k 0) (upk_ne M i k)
      rw [← hsu] at hsn
      have hit := row_it hW hlt ((mrow M i).getD k 0) (by simp [show k < (mrow M i).length by omega])
      have hw := Tryd.specFI_ok ((mrow M i).getD k 0) (by omega) (by omega)
      have hil := itoa_k hit
      have g1 := ints_get (L := mrow M i) (k := k) (by omega)
      rw [hrl] at hg
      generalize mrow M i = r at *
      simp (disch := omega) only [Tryd.ntmps20, Tryd.results20, go_sem, rr_eq, hg, g1, List.length_append, List.length_singleton, List.length_cons, List.length_nil]
      refine hw.callV 0 (viewL_cons_of (view_int) viewL_nil_of) ?_
      simp (disch := omega) only [Tryd.ntmps20, Tryd.results20, go_sem, rr_eq, hg, g1, List.length_append, List.length_singleton, List.length_cons, List.length_nil]
      exact ⟨k + 1, by omega, by omega, Wk.of (by simp only [go_sem, ↓List.forall_mem_cons, List.not_mem_nil, false_implies, implies_true, and_true, true_and, and_self, ri_eq, Int.natCast_add, Int.cast_ofNat_Int, rr_eq, hsn, List.append_assoc]; try simp) rfl⟩
    · obtain rfl : k = M.length := by omega
      have hall := upk_all M i
      rw [hrl] at hall
      simp (disch := omega) only [Tryd.ntmps20, Tryd.results20, go_sem, rr_eq]
      exact ⟨i + 1, by omega, by omega, Wk.of (by simp only [go_sem, ↓List.forall_mem_cons, List.not_mem_nil, false_implies, implies_true, and_true, true_and, and_self, ri_eq, Int.natCast_add, Int.cast_ofNat_Int, rr_eq, hall]; try simp) rfl⟩
  · obtain rfl : i = M.length := by omega
    simp (disch := omega) only [Tryd.ntmps20, Tryd.results20, go_sem, rr_eq]
    exact Fin.val (by rw [fmtM, he]; rfl)
end Go.Sh

/-
  FormatMatrix of the program; the law walked.
-/
namespace Go.Sh
set_option linter.unusedSimpArgs false
set_option linter.unusedVariables false
open Go Go.Proofs

set_option maxHeartbeats 4000000 in
theorem Tryd.implFM_ok (M : List (List Int)) (hM : M.length ≤ 1048576) (hR : ∀ i, i < M.length → (mrow M i).length ≤ 1048576) : PCall Tryd.prog 22 [rr M] (str (fmtM M)) := by
  have w := Tryd.implIsWM_ok M hM hR
  refine FCall.pcall (R := fun r _ => r = str (fmtM M)) ?_ 0 (by rintro r H rfl; exact view_str)
  refine FCall.of_body Tryd.func22 rfl (by kernel_rfl) (by simp [Tryd.ntmps22]) ?_
  refine SW_of_vc Tryd.mixed _ _ _ (by kernel_rfl) ?_
  rcases isWM_cases M with ⟨hW, he⟩ | he
  case inr =>
    rw [he] at w
    simp (disch := omega) only [Tryd.ntmps22, Tryd.results22, go_sem, rr_eq]
    refine w.callV 0 (viewL_cons_of (view_row) viewL_nil_of) ?_
    simp (disch := omega) only [Tryd.ntmps22, Tryd.results22, go_sem, rr_eq]
    exact Fin.val (by rw [fmtM, he]; rfl)
  rw [he] at w
  have hl8 := hW.1
  obtain ⟨a1, a2⟩ := up_it hW M.length (Nat.le_refl _)
  have wJ : PCall Tryd.prog 53 [ri (up M M.length), str [32]] (str (txt (up M M.length))) := Tryd.joinInts_ok (up M M.length) [32] (by omega) (fun i hi => by
    have := a1 ((up M M.length).getD i 0) (by simp [hi])
    exact Tryd.implFI_ok _ (by omega) (by omega)) (by
    have := txt_le a1
    show (txt (up M M.length)).length ≤ _
    omega)
  have hup0 : (up M 0).length = 1 := rfl
  simp (disch := omega) only [Tryd.ntmps22, Tryd.results22, go_sem, rr_eq]
  refine w.callV 0 (viewL_cons_of (view_row) viewL_nil_of) ?_
  simp (disch := omega) only [Tryd.ntmps22, Tryd.results22, go_sem, rr_eq]
  refine LoopW.loop (fun p : Nat × Nat × Nat => ⟨ofL [(3, .own p.2.1 0 (up M p.1).length (up M p.1).length 1 false), (12, rr M), (13, .val (.int .i64 M.length)), (14, .val (.int .i64 p.1))], hx [.blk p.2.1 ⟨ints (up M p.1), false⟩] p.2.2⟩)
    (fun p => p.1 ≤ M.length ∧ p.2.1 < p.2.2) (fun p => M.length - p.1) (0, 0, 1) ⟨by simp, by simp⟩ (Wk.ofX (by simp only [go_sem, ↓List.forall_mem_cons, List.not_mem_nil, false_implies, implies_true, and_true, true_and, and_self, ri_eq, Int.natCast_add, Int.cast_ofNat_Int, rr_eq, hup0]; try simp) (by simp [EntIn, hp, hmap, up, ints]) (by simp [hp])) ?_
  rintro ⟨i, ob, nb⟩ ⟨hi, hob⟩
  simp only at hi hob
  refine SW_of_vc Tryd.mixed _ _ _ (by kernel_rfl) ?_
  have il := ints_length (up M i)
  have it : (ints (up M i)).take (up M i).length = ints (up M i) := List.take_of_length_le (by omega)
  obtain ⟨u1, u2⟩ := up_it hW i hi
  by_cases hlt : i < M.length
  · have hg := rows_get hlt
    have hrl := hW.2.1 i hlt
    rw [hrl] at hg
    have hup : up M (i + 1) = up M i ++ (mrow M i).drop (i + 1) := rfl
    have hap : ints (up M i) ++ ints ((mrow M i).drop (i + 1)) = ints (up M (i + 1)) := by rw [hup]; simp [ints]
    have hdl : ((mrow M i).drop (i + 1)).length = M.length - (i + 1) := by rw [List.length_drop, hrl]
    have hul : (up M (i + 1)).length = (up M i).length + (M.length - (i + 1)) := by rw [hup, List.length_append, hdl]
    have hid := ints_drop (mrow M i) (i + 1)
    have hil : (ints ((mrow M i).drop (i + 1))).length = M.length - (i + 1) := by rw [ints_length, hdl]
    have hit2 : (ints ((mrow M i).drop (i + 1))).take (M.length - (i + 1)) = ints ((mrow M i).drop (i + 1)) := List.take_of_length_le (by omega)
    have t1 : ((i : Int) + 1).toNat = i + 1 := by omega
    by_cases hlast : i + 1 = M.length
    · have hz : M.length - (i + 1) = 0 := by omega
      have hnil : (mrow M i).drop (i + 1) = [] := List.drop_eq_nil_of_le (by omega)
      have hsame : up M (i + 1) = up M i := by rw [hup, hnil, List.append_nil]
      rw [hnil] at hid hap hil hit2
      simp (disch := omega) only [Tryd.ntmps22, Tryd.results22, go_sem, rr_eq, hg, t1, hid, il, it, hit2, ints_flat, hz]
      exact ⟨(i + 1, ob, nb), ⟨hlt, hob⟩, by simp only; omega, Wk.of (by simp only [go_sem, ↓List.forall_mem_cons, List.not_mem_nil, false_implies, implies_true, and_true, true_and, and_self, ri_eq, Int.natCast_add, Int.cast_ofNat_Int, rr_eq, hsame]; try simp) (by simp only [hsame])⟩
    · simp (disch := omega) only [Tryd.ntmps22, Tryd.results22, go_sem, rr_eq, hg, t1, hid, il, it, hit2, ints_flat, hap]
      refine ⟨(i + 1, nb, nb + 1), ⟨hlt, by simp only; omega⟩, by simp only; omega, ?_⟩
      refine Wk.ofX (by simp only [go_sem, ↓List.forall_mem_cons, List.not_mem_nil, false_implies, implies_true, and_true, true_and, and_self, ri_eq, Int.natCast_add, Int.cast_ofNat_Int, rr_eq, hul]; try simp) ?_ (Nat.le_refl _)
      simp only [List.forall_mem_cons]
      refine ⟨?_, by simp⟩
      simp (disch := omega) only [EntIn, hx_map, xmap_blk, if_pos, if_neg, ↓reduceIte]
  · obtain rfl : i = M.length := by omega
    simp (disch := omega) only [Tryd.ntmps22, Tryd.results22, go_sem, rr_eq]
    refine wJ.callV 2 (viewL_cons_of (view_own (L := up M M.length) (e2 := false) (by first | rfl | (simp (disch := omega) only [hx_map, hp_map, xmap_blk, hmap_cons, xmap_skipI, xmap_nil, if_pos, if_neg, ↓reduceIte]; try rfl)) rfl) (viewL_cons_of view_str viewL_nil_of)) ?_
    simp (disch := omega) only [Tryd.ntmps22, Tryd.results22, go_sem, rr_eq]
    exact Fin.val (by rw [fmtM, he]; rfl)

set_option maxHeartbeats 4000000 in
theorem Tryd.exactFormatMatrix_ok (M : List (List Int)) (hw : (∀ l ∈ M, (∀ n ∈ l, i64R n) ∧ l.length ≤ maxLen) ∧ M.length ≤ maxLen) : PCall Tryd.prog 5 [rr M] (.val (.bool true)) := by
  refine FCall.pcall (R := fun r _ => r = .val (.bool true)) ?_ 0 (by rintro r H rfl; exact view_bool)
  refine FCall.of_body Tryd.func5 rfl (by kernel_rfl) (by simp [Tryd.ntmps5]) ?_
  refine SW_of_vc Tryd.mixed _ _ _ (by kernel_rfl) ?_
  obtain ⟨m1, m2⟩ := mrow_max hw
  have hs := Tryd.szIntSS_ok M 1048576 m1 m2 (by omega) (by omega)
  have hnn := msum_nonneg M M.length
  by_cases h : (1048576 : Int) < M.length + msum M M.length
  · rw [if_pos h] at hs
    simp (disch := omega) only [Tryd.ntmps5, Tryd.results5, go_sem, rr_eq]
    refine hs.callV 0 (viewL_cons_of (view_row) (viewL_cons_of (view_int) viewL_nil_of)) ?_
    simp (disch := omega) only [Tryd.ntmps5, Tryd.results5, go_sem, rr_eq]
    exact Fin.val rfl
  · rw [if_neg h] at hs
    have hM : M.length ≤ 1048576 := by omega
    have hR : ∀ i, i < M.length → (mrow M i).length ≤ 1048576 := fun i hi => by have := mrow_le hi; omega
    have wS := Tryd.specFM_ok M hM hR
    have wI := Tryd.implFM_ok M hM hR
    generalize fmtM M = q at *
    simp (disch := omega) only [Tryd.ntmps5, Tryd.results5, go_sem, rr_eq]
    refine hs.callV 0 (viewL_cons_of (view_row) (viewL_cons_of (view_int) viewL_nil_of)) ?_
    simp (disch := omega) only [Tryd.ntmps5, Tryd.results5, go_sem, rr_eq]
    refine (Tryd.toIntSS_ok M hM hR).callV 0 (viewL_cons_of (view_row) viewL_nil_of) ?_
    simp (disch := omega) only [Tryd.ntmps5, Tryd.results5, go_sem, rr_eq]
    refine wS.callV 0 (viewL_cons_of (view_row) viewL_nil_of) ?_
    simp (disch := omega) only [Tryd.ntmps5, Tryd.results5, go_sem, rr_eq]
    refine (Tryd.toIntSS_ok M hM hR).callV 0 (viewL_cons_of (view_row) viewL_nil_of) ?_
    simp (disch := omega) only [Tryd.ntmps5, Tryd.results5, go_sem, rr_eq]
    refine wI.callV 0 (viewL_cons_of (view_row) viewL_nil_of) ?_
    simp (disch := omega) only [Tryd.ntmps5, Tryd.results5, go_sem, rr_eq, beq_self_eq_true, Bool.not_true]
    refine (Tryd.toIntSS_ok M hM hR).callV 0 (viewL_cons_of (view_row) viewL_nil_of) ?_
    simp (disch := omega) only [Tryd.ntmps5, Tryd.results5, go_sem, rr_eq]
    refine (Tryd.eqIntSS_ok M M hM hM hR hR).callV 0 (viewL_cons_of (view_row) (viewL_cons_of (view_row) viewL_nil_of)) ?_
    simp (disch := omega) only [Tryd.ntmps5, Tryd.results5, go_sem, rr_eq, decide_true]
    exact Fin.val rfl
end Go.Sh

/-
  From the row's condition to the table of the powers of ten.
-/
namespace Go.Sh
set_option linter.unusedSimpArgs false
set_option linter.unusedVariables false
open Go Go.Proofs

theorem Tryd.tabOk {W : World} {l : List (String × DataW Unit)} (h : laidMetH Tryd.prog l W) (hp : (l.all fun x => x.2.handleName?.isNone) = true) (hm : ("internal/strconv.uint64pow10", Go.Proofs.YtkmckbjgffaieaaDoor.Rows.laid_internal_strconv_uint64pow10) ∈ l) : TabOk (fun _ => False) W := by
  rw [MakeChecks.laidMetH_plain _ _ _ hp] at h
  obtain ⟨g, t, cs, fuel, p, e1, e2, e3, e4⟩ := Lib.laidMet.reads h hm
  obtain rfl := Option.some.inj (Tryd.powG.symm.trans e1)
  obtain rfl := Option.some.inj ((show (Tryd.prog.globals[3]?).map (·.type) = some 133 by kernel_rfl).symm.trans e2)
  have hd : (Go.Proofs.YtkmckbjgffaieaaDoor.Rows.laid_internal_strconv_uint64pow10 : DataW Unit) = Lib.tabData .u64 Lib.pow10Tab := by kernel_rfl
  rw [hd] at e4
  have hc := Lib.cells_of_tab Tryd.underlying133 Tryd.underlying118 (by kernel_rfl) (by kernel_rfl) e4
  have hsz : cs.size = 20 := by
    have := congrArg List.length hc
    simpa [Lib.pow10Tab] using this
  have e5 := e3
  simp only [World.var?, Tryd.powG, Option.bind_some] at e3
  split at e3
  · rename_i cs' e fr hh
    obtain rfl := Option.some.inj e3
    intro p hp
    simp only [TABS, List.mem_singleton] at hp
    subst hp
    refine ⟨⟨_, _, _, hh, by simpa using hsz⟩, fun i Q hq => ?_⟩
    simp only [List.getElem?_map, Option.map_eq_some_iff] at hq
    obtain ⟨k, hk, rfl⟩ := hq
    have hi : i < 20 := by
      have := (List.getElem?_eq_some_iff.1 hk).1
      simpa using this
    obtain rfl : i = k := by simpa [hi] using hk
    refine ⟨_, ?_, rfl, fun h => h⟩
    rw [World.var?_cell Tryd.powG e5 i, ← Array.getElem?_toList, hc]
    simp [Lib.pow10Tab, hi]
  · cases e3
end Go.Sh
