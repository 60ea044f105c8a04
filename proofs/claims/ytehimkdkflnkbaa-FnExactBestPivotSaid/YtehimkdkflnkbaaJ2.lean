/-
  Labels by first occurrence: what they tell of the list; refinement as equality of the meet.
-/
import Derived.Test.YtehimkdkflnkbaaJ1
namespace Go.Sh
set_option linter.unusedSimpArgs false
set_option linter.unusedVariables false
open Go Go.Proofs

theorem idx_append {x y : Int} {S : List Int} (h : x ∈ S) : idx x (S ++ [y]) = idx x S := by
  unfold idx
  rw [if_pos h, if_pos (List.mem_append.2 (.inl h)), List.idxOf_append, if_pos h]
theorem idx_last {x : Int} {S : List Int} (h : ¬ x ∈ S) : idx x (S ++ [x]) = S.length := by
  unfold idx
  rw [if_pos (by simp), List.idxOf_append, if_neg h]
  simp
theorem idx_inj {x y : Int} {S : List Int} (hx : x ∈ S) (hy : y ∈ S) (h : idx x S = idx y S) : x = y := by
  unfold idx at h
  rw [if_pos hx, if_pos hy] at h
  have h' : S.idxOf x = S.idxOf y := by omega
  have h1 := List.getElem_idxOf (List.idxOf_lt_length_of_mem hx)
  have h2 := List.getElem_idxOf (List.idxOf_lt_length_of_mem hy)
  rw [← h1, ← h2]
  simp only [h']

theorem cst_spec (X : List Int) : ∀ k, k ≤ X.length → (∀ i, i < k → X.getD i 0 ∈ (cst (X.take k)).1 ∧ (cst (X.take k)).2.getD i 0 = idx (X.getD i 0) (cst (X.take k)).1) ∧ ∀ z, z ∈ (cst (X.take k)).1 → ∃ i, i < k ∧ X.getD i 0 = z
  | 0, _ => by
    refine ⟨fun i hi => by omega, fun z hz => ?_⟩
    rw [List.take_zero, cst_zero] at hz
    simp at hz
  | k + 1, hk => by
    obtain ⟨h1, h2⟩ := cst_spec X k (by omega)
    have e := cst_succ (L := X) (k := k) (by omega)
    have hlen : (cst (X.take k)).2.length = k := by rw [cst_len2]; simp; omega
    rw [e]
    generalize hs : cst (X.take k) = st at *
    obtain ⟨S, O⟩ := st
    simp only at h1 h2 hlen ⊢
    unfold cstep
    simp only
    by_cases hx : X.getD k 0 ∈ S
    · rw [if_pos hx]
      refine ⟨fun i hi => ?_, fun z hz => ?_⟩
      · rcases Nat.lt_succ_iff_lt_or_eq.mp hi with h | rfl
        · obtain ⟨g1, g2⟩ := h1 i h
          refine ⟨g1, ?_⟩
          rw [← g2]
          simp [List.getD, List.getElem?_append_left (show i < O.length by omega)]
        · refine ⟨hx, ?_⟩
          simp [List.getD, List.getElem?_append_right (show O.length ≤ i by omega), hlen]
      · obtain ⟨i, g1, g2⟩ := h2 z hz
        exact ⟨i, by omega, g2⟩
    · rw [if_neg hx]
      refine ⟨fun i hi => ?_, fun z hz => ?_⟩
      · rcases Nat.lt_succ_iff_lt_or_eq.mp hi with h | rfl
        · obtain ⟨g1, g2⟩ := h1 i h
          refine ⟨List.mem_append.2 (.inl g1), ?_⟩
          show (O ++ [(S.length : Int)]).getD i 0 = idx (X.getD i 0) (S ++ [X.getD k 0])
          rw [idx_append g1, ← g2]
          simp [List.getD, List.getElem?_append_left (show i < O.length by omega)]
        · refine ⟨by simp, ?_⟩
          show (O ++ [(S.length : Int)]).getD i 0 = idx (X.getD i 0) (S ++ [X.getD i 0])
          rw [idx_last hx]
          simp [List.getD, List.getElem?_append_right (show O.length ≤ i by omega), hlen]
      · rcases List.mem_append.1 hz with h | h
        · obtain ⟨i, g1, g2⟩ := h2 z h
          exact ⟨i, by omega, g2⟩
        · simp at h
          exact ⟨k, by omega, by simpa using h.symm⟩

theorem canon_inj {X : List Int} {i k : Nat} (hi : i < X.length) (hk : k < X.length) (h : (canon X).getD i 0 = (canon X).getD k 0) : X.getD i 0 = X.getD k 0 := by
  have := (cst_spec X X.length (Nat.le_refl _)).1
  rw [List.take_length] at this
  obtain ⟨g1, g2⟩ := this i hi
  obtain ⟨q1, q2⟩ := this k hk
  refine idx_inj g1 q1 ?_
  rw [← g2, ← q2]
  exact h

theorem canon_congr {X Y : List Int} (hl : X.length = Y.length) (h : ∀ i k, i < X.length → k < X.length → (X.getD i 0 = X.getD k 0 ↔ Y.getD i 0 = Y.getD k 0)) : canon X = canon Y := by
  have key : ∀ k, k ≤ X.length → (cst (X.take k)).2 = (cst (Y.take k)).2 ∧ (cst (X.take k)).1.length = (cst (Y.take k)).1.length := by
    intro k
    induction k with
    | zero => intro _; simp
    | succ k ih =>
      intro hk
      obtain ⟨i1, i2⟩ := ih (by omega)
      obtain ⟨x1, x2⟩ := cst_spec X k (by omega)
      obtain ⟨y1, y2⟩ := cst_spec Y k (by omega)
      rw [cst_succ (L := X) (by omega), cst_succ (L := Y) (by omega)]
      generalize hs : cst (X.take k) = sx at *
      generalize ht : cst (Y.take k) = sy at *
      obtain ⟨SX, OX⟩ := sx
      obtain ⟨SY, OY⟩ := sy
      simp only at i1 i2 x1 x2 y1 y2
      subst i1
      unfold cstep
      simp only
      by_cases hx : X.getD k 0 ∈ SX
      · obtain ⟨i, g1, g2⟩ := x2 _ hx
        have hy' := (h i k (by omega) (by omega)).1 g2
        have hy : Y.getD k 0 ∈ SY := by rw [← hy']; exact (y1 i g1).1
        rw [if_pos hx, if_pos hy]
        refine ⟨?_, i2⟩
        show OX ++ [idx (X.getD k 0) SX] = OX ++ [idx (Y.getD k 0) SY]
        rw [← g2, ← hy', ← (x1 i g1).2, ← (y1 i g1).2]
      · have hy : ¬ Y.getD k 0 ∈ SY := by
          intro hy
          obtain ⟨i, g1, g2⟩ := y2 _ hy
          have hx' := (h i k (by omega) (by omega)).2 g2
          exact hx (by rw [← hx']; exact (x1 i g1).1)
        rw [if_neg hx, if_neg hy]
        refine ⟨?_, ?_⟩
        · show OX ++ [(SX.length : Int)] = OX ++ [(SY.length : Int)]
          rw [i2]
        · simp [i2]
  have := (key X.length (Nat.le_refl _)).1
  rw [List.take_length] at this
  rw [canon, this, hl, List.take_length]; rfl

def rng (n : Nat) : List Int := (List.range n).map fun x : Nat => (x : Int)
theorem rng_succ (n : Nat) : rng (n + 1) = rng n ++ [(n : Int)] := by simp [rng, List.range_succ]
theorem rng_len (n : Nat) : (rng n).length = n := by simp [rng]
theorem rng_mem {n : Nat} {x : Int} : x ∈ rng n ↔ 0 ≤ x ∧ x < n := by
  simp only [rng, List.mem_map, List.mem_range]
  constructor
  · rintro ⟨a, h, rfl⟩; omega
  · rintro ⟨h1, h2⟩; exact ⟨x.toNat, by omega, by omega⟩
theorem rng_get {n i : Nat} (h : i < n) : (rng n).getD i 0 = i := by simp [rng, h]
theorem rng_idx {n : Nat} {x : Int} (h1 : 0 ≤ x) (h2 : x < n) : idx x (rng n) = x := by
  have hk : x.toNat < (rng n).length := by rw [rng_len]; omega
  have := idx_some (x := x) hk (fun i hi => by rw [rng_get (by omega)]; omega) (by rw [rng_get (by omega)]; omega)
  rw [this]; omega
theorem fold_part : ∀ (L : List Int) (n : Nat) (out : List Int), okP n L = true → ∃ m, L.foldl cstep (rng n, out) = (rng m, out ++ L)
  | [], n, out, _ => ⟨n, by simp⟩
  | x :: L, n, out, h => by
    rw [okP, Bool.and_eq_true] at h
    obtain ⟨h1, h2⟩ := inR_of h.1
    rw [List.foldl_cons]
    by_cases hx : x < n
    · have hm : x ∈ rng n := rng_mem.2 ⟨h1, hx⟩
      have e : max (n : Int) (x + 1) = n := by omega
      have h3 := h.2
      rw [e] at h3
      obtain ⟨m, hm'⟩ := fold_part L n (out ++ [x]) h3
      refine ⟨m, ?_⟩
      have : cstep (rng n, out) x = (rng n, out ++ [x]) := by
        unfold cstep
        rw [if_pos hm, rng_idx h1 hx]
      rw [this, hm']
      simp
    · have hm : ¬ x ∈ rng n := fun h => hx (rng_mem.1 h).2
      have ex : x = n := by omega
      have e : max (n : Int) (x + 1) = ((n + 1 : Nat) : Int) := by omega
      have h3 := h.2
      rw [e] at h3
      obtain ⟨m, hm'⟩ := fold_part L (n + 1) (out ++ [x]) h3
      refine ⟨m, ?_⟩
      have : cstep (rng n, out) x = (rng (n + 1), out ++ [x]) := by
        unfold cstep
        rw [if_neg hm, rng_succ]
        simp only [rng_len, ex]
      rw [this, hm']
      simp
theorem canon_part {A : List Int} (h : isPart A = true) : canon A = A := by
  rw [isPart, Bool.and_eq_true] at h
  obtain ⟨m, hm⟩ := fold_part A 0 [] h.1
  have : rng 0 = [] := rfl
  rw [this] at hm
  rw [canon, cst, hm]
  simp

def Ref (A B : List Int) : Prop := ∀ i k, k < i → i < A.length → A.getD i 0 = A.getD k 0 → B.getD i 0 = B.getD k 0
theorem both_get {A B : List Int} {k : Nat} (hl : A.length = B.length) (hk : k < A.length) : (both A B).getD k 0 = A.getD k 0 * 8 + B.getD k 0 := by
  have hk2 : k < B.length := by omega
  simp [both, List.getElem?_zipWith, hk, hk2]
theorem meet_iff {A B : List Int} (h : pairB A B = true) : meet A B = A ↔ Ref A B := by
  obtain ⟨pa, pb, hl⟩ := pairB_t h
  have hbl := both_length hl
  rw [meet, if_pos h]
  have hpat : ∀ i k, i < A.length → k < A.length → ((both A B).getD i 0 = (both A B).getD k 0 ↔ (A.getD i 0 = A.getD k 0 ∧ B.getD i 0 = B.getD k 0)) := by
    intro i k hi hk
    rw [both_get hl hi, both_get hl hk]
    have b1 := isPart_bound pb (i := i) (by omega)
    have b2 := isPart_bound pb (i := k) (by omega)
    constructor
    · intro e; omega
    · rintro ⟨e1, e2⟩; rw [e1, e2]
  constructor
  · intro e i k hki hi ha
    have h1 : (canon (both A B)).getD i 0 = (canon (both A B)).getD k 0 := by rw [e]; exact ha
    have h2 := canon_inj (by omega) (by omega) h1
    exact ((hpat i k hi (by omega)).1 h2).2
  · intro hr
    have hr' : ∀ i k, i < A.length → k < A.length → A.getD i 0 = A.getD k 0 → B.getD i 0 = B.getD k 0 := by
      intro i k hi hk e
      rcases Nat.lt_trichotomy k i with h | h | h
      · exact hr i k h hi e
      · rw [h]
      · exact (hr k i h hk e.symm).symm
    rw [canon_congr (Y := A) (by omega) (fun i k hi hk => ?_), canon_part pa]
    rw [hpat i k (by omega) (by omega)]
    exact ⟨fun e => e.1, fun e => ⟨e, hr' i k (by omega) (by omega) e⟩⟩
end Go.Sh
