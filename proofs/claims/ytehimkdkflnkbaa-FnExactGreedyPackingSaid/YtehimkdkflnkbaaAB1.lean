/-
  The greedy packing: plain; of the reference.
-/
import Derived.Test.YtehimkdkflnkbaaY2
import Derived.Test.YtehimkdkflnkbaaW2
namespace Go.Sh
set_option linter.unusedSimpArgs false
set_option linter.unusedVariables false
open Go Go.Proofs

theorem mn2_min (x y : Int) : mn2 x y = min x y := by unfold mn2; split <;> omega
def gw (M : List (List Int)) (R : List Tri) (a b c : Nat) : Int := mn2 (mn2 (absI (mat M a b) - usedT R a b) (absI (mat M a c) - usedT R a c)) (absI (mat M b c) - usedT R b c)
/-- What the first k bad triangles leave in the packing. -/
noncomputable def grTo (M : List (List Int)) : Nat → List Tri
  | 0 => []
  | k + 1 => if 0 < gw M (grTo M k) (tg (badT M) k).1.toNat (tg (badT M) k).2.1.toNat (tg (badT M) k).2.2.1.toNat then grTo M k ++ [((tg (badT M) k).1, (tg (badT M) k).2.1, (tg (badT M) k).2.2.1, gw M (grTo M k) (tg (badT M) k).1.toNat (tg (badT M) k).2.1.toNat (tg (badT M) k).2.2.1.toNat)] else grTo M k
noncomputable def gr (M : List (List Int)) : List Tri := grTo M (badT M).length
theorem badT_mem {M : List (List Int)} {t : Tri} (h : t ∈ badT M) : WM M ∧ ∃ a b c : Nat, t = ((a : Int), (b : Int), (c : Int), mn2 (mn2 (absI (mat M a b)) (absI (mat M a c))) (absI (mat M b c))) ∧ a < b ∧ b < c ∧ c < M.length := by
  have hw : WM M := badT_wm (fun e => by rw [List.length_eq_zero_iff.1 e] at h; simp at h)
  refine ⟨hw, ?_⟩
  rw [badT_t hw, Ta, List.mem_flatMap] at h
  obtain ⟨a, _, h⟩ := h
  rw [Tb, List.mem_flatMap] at h
  obtain ⟨b, _, h⟩ := h
  by_cases hab : a < b
  · rw [if_pos hab, Tc, List.mem_flatMap] at h
    obtain ⟨c, hc, h⟩ := h
    have hc : c < M.length := by simpa using hc
    by_cases hbc : b < c
    · rw [if_pos hbc, badC] at h
      split at h
      · simp at h
        exact ⟨a, b, c, h, hab, hbc, hc⟩
      · simp at h
    · rw [if_neg hbc] at h; simp at h
  · rw [if_neg hab] at h; simp at h
theorem badT_at {M : List (List Int)} {k : Nat} (h : k < (badT M).length) : ∃ a b c : Nat, tg (badT M) k = ((a : Int), (b : Int), (c : Int), mn2 (mn2 (absI (mat M a b)) (absI (mat M a c))) (absI (mat M b c))) ∧ a < b ∧ b < c ∧ c < M.length := by
  have : tg (badT M) k ∈ badT M := by rw [tg_get h]; exact List.getElem_mem h
  exact (badT_mem this).2
theorem grTo_put {M : List (List Int)} {k a b c : Nat} {w : Int} (ht : tg (badT M) k = ((a : Int), (b : Int), (c : Int), w)) (h : 0 < gw M (grTo M k) a b c) : grTo M (k + 1) = grTo M k ++ [((a : Int), (b : Int), (c : Int), gw M (grTo M k) a b c)] := by
  rw [grTo, ht]
  simp only [Int.toNat_natCast]
  rw [if_pos h]
theorem grTo_skip {M : List (List Int)} {k a b c : Nat} {w : Int} (ht : tg (badT M) k = ((a : Int), (b : Int), (c : Int), w)) (h : ¬ 0 < gw M (grTo M k) a b c) : grTo M (k + 1) = grTo M k := by
  rw [grTo, ht]
  simp only [Int.toNat_natCast]
  rw [if_neg h]
theorem grTo_len (M : List (List Int)) : ∀ k, (grTo M k).length ≤ k
  | 0 => by simp [grTo]
  | k + 1 => by
    have := grTo_len M k
    rw [grTo]
    split
    · simp; omega
    · omega
theorem absI_le {M : List (List Int)} (hw : WM M) {x y : Nat} (hx : x < M.length) (hy : y < M.length) : absI (mat M x y) ≤ 1000 := by
  have := (hw.2.2.1 x y hx hy).1
  unfold absI; split <;> omega
theorem usedT_snoc (R : List Tri) (t : Tri) (x y : Nat) : usedT (R ++ [t]) x y = usedT R x y + (if hitT t x y = true then t.2.2.2 else 0) := by
  simp [usedT]
theorem gw_le {M : List (List Int)} {R : List Tri} {a b c : Nat} (h : ∀ x y, 0 ≤ usedT R x y) : gw M R a b c ≤ absI (mat M a b) - usedT R a b ∧ gw M R a b c ≤ absI (mat M a c) - usedT R a c ∧ gw M R a b c ≤ absI (mat M b c) - usedT R b c := by
  simp only [gw, mn2_min]; omega
/-- Each of a packing's sums stays between 0 and the weight's size; each weight is 1 .. 1000. -/
theorem grTo_inv {M : List (List Int)} : ∀ k, k ≤ (badT M).length → (∀ x y, 0 ≤ usedT (grTo M k) x y) ∧ (∀ x y, x < y → y < M.length → usedT (grTo M k) x y ≤ absI (mat M x y)) ∧ wOk (grTo M k)
  | 0, _ => ⟨fun x y => by simp [grTo, usedT], fun x y _ _ => by simp only [grTo, usedT, List.map_nil, List.sum_nil]; exact absI_nonneg _, fun k hk => by simp [grTo] at hk⟩
  | k + 1, hk => by
    obtain ⟨h1, h2, h3⟩ := grTo_inv (M := M) k (by omega)
    obtain ⟨a, b, c, ht, hab, hbc, hc⟩ := badT_at (M := M) (k := k) (by omega)
    have hkl : k < (badT M).length := by omega
    have hmem : tg (badT M) k ∈ badT M := by rw [tg_get hkl]; exact List.getElem_mem _
    have hw := (badT_mem hmem).1
    by_cases hg : 0 < gw M (grTo M k) a b c
    · have hle := gw_le (M := M) (R := grTo M k) (a := a) (b := b) (c := c) h1
      have hm1 := absI_le hw (x := a) (y := b) (by omega) (by omega)
      have u1 := h1 a b
      rw [grTo_put ht hg]
      refine ⟨fun x y => ?_, fun x y hxy hy => ?_, fun i hi => ?_⟩
      · rw [usedT_snoc]
        have := h1 x y
        split
        · simp only []; omega
        · omega
      · rw [usedT_snoc]
        split
        · rename_i hh
          simp only [hitT, Bool.or_eq_true, Bool.and_eq_true, decide_eq_true_eq] at hh
          simp only []
          rcases hh with ⟨e1, e2⟩ | ⟨e1, e2⟩ | ⟨e1, e2⟩
          · have e1 : x = a := by omega
            have e2 : y = b := by omega
            subst e1 e2; omega
          · have e1 : x = a := by omega
            have e2 : y = c := by omega
            subst e1 e2; omega
          · have e1 : x = b := by omega
            have e2 : y = c := by omega
            subst e1 e2; omega
        · have := h2 x y hxy hy; omega
      · rw [List.length_append, List.length_singleton] at hi
        by_cases hl : i < (grTo M k).length
        · have := h3 i hl
          have e : tg (grTo M k ++ [((a : Int), (b : Int), (c : Int), gw M (grTo M k) a b c)]) i = tg (grTo M k) i := by simp [tg, List.getElem?_append, hl]
          rw [e]; exact this
        · have e : i = (grTo M k).length := by omega
          have e2 : tg (grTo M k ++ [((a : Int), (b : Int), (c : Int), gw M (grTo M k) a b c)]) i = ((a : Int), (b : Int), (c : Int), gw M (grTo M k) a b c) := by subst e; simp [tg]
          rw [e2]
          simp only []
          omega
    · rw [grTo_skip ht hg]
      exact ⟨h1, h2, h3⟩
end Go.Sh
