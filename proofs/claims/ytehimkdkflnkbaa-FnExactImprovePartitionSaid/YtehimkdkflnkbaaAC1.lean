/-
  The best move: plain.
-/
import Derived.Test.YtehimkdkflnkbaaQ1
import Derived.Test.YtehimkdkflnkbaaG3
namespace Go.Sh
set_option linter.unusedSimpArgs false
set_option linter.unusedVariables false
open Go Go.Proofs

abbrev Mv := Int × Int × Int
noncomputable def bstep (M : List (List Int)) (C : List Con) (L : List Int) (best : Mv) (i b : Nat) : Mv :=
  if moveOk L i b = true ∧ best.2.2 < gain M L i b ∧ C.all (kp (moveTo L i b)) = true then ((i : Int), (b : Int), gain M L i b) else best
noncomputable def bmRow (M : List (List Int)) (C : List Con) (L : List Int) (best : Mv) (i : Nat) : Nat → Mv
  | 0 => best
  | b + 1 => bstep M C L (bmRow M C L best i b) i b
theorem bmRow_stop {M : List (List Int)} {C : List Con} {L : List Int} {best : Mv} {i k : Nat} (h : ∀ b, k ≤ b → moveOk L i b = false) : ∀ {j : Nat}, k ≤ j → bmRow M C L best i j = bmRow M C L best i k := by
  intro j hj
  induction hj with
  | refl => rfl
  | step hs ih =>
    rename_i m
    rw [bmRow, bstep, if_neg (by rw [h m hs]; simp), ih]
noncomputable def bmTo (M : List (List Int)) (C : List Con) (L : List Int) : Nat → Mv
  | 0 => (0, 0, 0)
  | i + 1 => bmRow M C L (bmTo M C L i) i (L.length + 1)
def canM (M : List (List Int)) (C : List Con) (L : List Int) : Prop := 0 ≤ pcost M L ∧ C.all (kp L) = true
theorem canM_r {M : List (List Int)} {C : List Con} {L : List Int} (h : canM M C L) : WM M ∧ isPart L = true ∧ L.length = M.length ∧ pcost M L = cc M L L.length := by
  rcases pcost_cases M L with g | g
  · have := h.1; omega
  · exact g
open Classical in
noncomputable def bmv (M : List (List Int)) (C : List Con) (L : List Int) : Mv := if canM M C L then bmTo M C L L.length else (0, 0, 0)
theorem bmv_t {M : List (List Int)} {C : List Con} {L : List Int} (h : canM M C L) : bmv M C L = bmTo M C L L.length := by rw [bmv, if_pos h]
theorem bmv_f {M : List (List Int)} {C : List Con} {L : List Int} (h : ¬ canM M C L) : bmv M C L = (0, 0, 0) := by rw [bmv, if_neg h]
theorem gain_r {M : List (List Int)} {L : List Int} (hw : WM M) (hl : L.length = M.length) (i b : Int) : -64000 ≤ gain M L i b ∧ gain M L i b ≤ 64000 := by
  have h8 := hw.1
  have h1 := cc_b (L := L) hw L.length (by omega)
  have h2 := cc_b (L := moveTo L i b) hw L.length (by omega)
  unfold gain
  split <;> omega
theorem bmRow_r {M : List (List Int)} {C : List Con} {L : List Int} (hw : WM M) (hl : L.length = M.length) {best : Mv} {i : Nat} (h : -64000 ≤ best.2.2 ∧ best.2.2 ≤ 64000) : ∀ b, -64000 ≤ (bmRow M C L best i b).2.2 ∧ (bmRow M C L best i b).2.2 ≤ 64000
  | 0 => h
  | b + 1 => by
    have ih := bmRow_r (C := C) hw hl (i := i) h b
    rw [bmRow, bstep]
    split
    · exact gain_r hw hl _ _
    · exact ih
theorem bmTo_r {M : List (List Int)} {C : List Con} {L : List Int} (hw : WM M) (hl : L.length = M.length) : ∀ i, -64000 ≤ (bmTo M C L i).2.2 ∧ (bmTo M C L i).2.2 ≤ 64000
  | 0 => by simp [bmTo]
  | i + 1 => bmRow_r hw hl (bmTo_r hw hl i) _
theorem top_lt {L : List Int} (h : isPart L = true) : ∀ k, k ≤ L.length → top L k ≤ (k : Int) - 1
  | 0, _ => by rw [top_zero]; omega
  | k + 1, hk => by
    have ih := top_lt h k (by omega)
    rw [top_succ (by omega)]
    rw [isPart, Bool.and_eq_true] at h
    have := okP_bound L 0 h.1 k (by omega)
    omega
theorem moveOk_in {L : List Int} (h : isPart L = true) {i b : Nat} (hi : i < L.length) : moveOk L i b = decide ((b : Int) ≤ top L L.length + 1) := by
  rw [moveOk, h, inR_tt (by omega) (by omega)]
  by_cases hb : (b : Int) ≤ top L L.length + 1
  · rw [inR_tt (by omega) hb, decide_eq_true hb]; rfl
  · rw [inR_f2 hb, decide_eq_false hb]; rfl
end Go.Sh
