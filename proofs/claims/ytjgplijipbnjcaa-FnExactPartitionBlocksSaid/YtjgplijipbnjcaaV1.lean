/-
  Blocks of a partition: plain. Rows under names of their own, changed one by one.
-/
import Derived.Test.YtjgplijipbnjcaaJ1
import Derived.Test.YtjgplijipbnjcaaN6
namespace Go.Sh
set_option linter.unusedSimpArgs false
set_option linter.unusedVariables false
open Go Go.Proofs

def blkTo (L : List Int) : Nat → List (List Int)
  | 0 => []
  | k + 1 => if L.getD k 0 = (blkTo L k).length then blkTo L k ++ [[(k : Int)]] else (blkTo L k).set (L.getD k 0).toNat ((blkTo L k).getD (L.getD k 0).toNat [] ++ [(k : Int)])
theorem blkTo_new {L : List Int} {k : Nat} (h : L.getD k 0 = (blkTo L k).length) : blkTo L (k + 1) = blkTo L k ++ [[(k : Int)]] := by rw [blkTo, if_pos h]
theorem blkTo_old {L : List Int} {k x : Nat} (hx : L.getD k 0 = x) (h : x < (blkTo L k).length) : blkTo L (k + 1) = (blkTo L k).set x (mrow (blkTo L k) x ++ [(k : Int)]) := by
  rw [blkTo, if_neg (by omega), hx, Int.toNat_natCast]; rfl
def nxt : List Int → Int → Nat → Int
  | _, n, 0 => n
  | [], n, _ + 1 => n
  | x :: L, n, k + 1 => nxt L (max n (x + 1)) k
theorem nxt_succ : ∀ (L : List Int) (n : Int) (k : Nat), k < L.length → nxt L n (k + 1) = max (nxt L n k) (L.getD k 0 + 1)
  | [], n, k, h => by simp at h
  | x :: L, n, 0, h => by cases L <;> simp [nxt]
  | x :: L, n, k + 1, h => by
    have := nxt_succ L (max n (x + 1)) k (by simpa using h)
    simpa [nxt] using this
theorem okP_nxt : ∀ (L : List Int) (n : Int), okP n L = true → ∀ k, k < L.length → 0 ≤ L.getD k 0 ∧ L.getD k 0 ≤ nxt L n k
  | [], n, _, k, h => by simp at h
  | x :: L, n, ho, 0, h => by
    rw [okP, Bool.and_eq_true] at ho
    have := inR_of ho.1
    simpa [nxt] using this
  | x :: L, n, ho, k + 1, h => by
    rw [okP, Bool.and_eq_true] at ho
    have := okP_nxt L (max n (x + 1)) ho.2 k (by simpa using h)
    simpa [nxt] using this
theorem blkTo_length {L : List Int} (h : okP 0 L = true) : ∀ k, k ≤ L.length → ((blkTo L k).length : Int) = nxt L 0 k
  | 0, _ => by simp [blkTo, nxt]
  | k + 1, hk => by
    have ih := blkTo_length h k (by omega)
    have hb := okP_nxt L 0 h k (by omega)
    rw [nxt_succ L 0 k (by omega)]
    by_cases e : L.getD k 0 = (blkTo L k).length
    · rw [blkTo_new e, List.length_append, List.length_singleton]; omega
    · rw [blkTo, if_neg e, List.length_set]; omega
theorem blk_at {L : List Int} (h : isPart L = true) {k : Nat} (hk : k < L.length) : ∃ x : Nat, L.getD k 0 = x ∧ x ≤ (blkTo L k).length := by
  rw [isPart, Bool.and_eq_true] at h
  have h1 := okP_nxt L 0 h.1 k hk
  have h2 := blkTo_length h.1 k (by omega)
  exact ⟨(L.getD k 0).toNat, by omega, by omega⟩
theorem blkTo_le (L : List Int) : ∀ k, (blkTo L k).length ≤ k
  | 0 => by simp [blkTo]
  | k + 1 => by
    have := blkTo_le L k
    rw [blkTo]
    split
    · simp; omega
    · simp; omega
theorem blkTo_row (L : List Int) : ∀ k i, (mrow (blkTo L k) i).length ≤ k
  | 0, i => by simp [blkTo, mrow]
  | k + 1, i => by
    have ih := blkTo_row L k
    rw [blkTo]
    split
    · simp only [mrow, List.getD_eq_getElem?_getD, List.getElem?_append]
      split
      · have := ih i
        simp only [mrow, List.getD_eq_getElem?_getD] at this; omega
      · cases h : i - (blkTo L k).length with
        | zero => simp
        | succ m => simp
    · simp only [mrow, List.getD_eq_getElem?_getD, List.getElem?_set]
      split
      · split
        · have := ih (L.getD k 0).toNat
          simp only [mrow, List.getD_eq_getElem?_getD] at this
          simp; omega
        · simp
      · have := ih i
        simp only [mrow, List.getD_eq_getElem?_getD] at this; omega
/-- The items of each block. -/
def blocksOf (L : List Int) : List (List Int) := if isPart L = true then blkTo L L.length else []
theorem blocksOf_t {L : List Int} (h : isPart L = true) : blocksOf L = blkTo L L.length := by rw [blocksOf, if_pos h]
theorem blocksOf_f {L : List Int} (h : isPart L = false) : blocksOf L = [] := by rw [blocksOf, if_neg (by rw [h]; simp)]

theorem mi_snoc (M : List (List Int)) (r : List Int) : mi (M ++ [r]) = mi M ++ [ints r] := by simp [mi]
theorem mi_set (M : List (List Int)) (x : Nat) (r : List Int) : mi (M.set x r) = (mi M).set x (ints r) := by simp [mi, List.map_set]
/-! ### Rows, one by one -/
theorem xdel_cut (c : Nat) (l : List Ent) (b : Nat) : xdel (.cut c :: l) b = .cut b :: .cut c :: l := rfl
theorem xmap_cut (b : Nat) (l : List Ent) (x : Nat) : xmap (.cut b :: l) x = if x = b then none else xmap l x := rfl
def nrAt (nr : List (Nat × List SV)) (x : Nat) : Nat × List SV := nr.getD x (0, [])
theorem nrAt_mem {nr : List (Nat × List SV)} {x : Nat} (h : x < nr.length) : nrAt nr x ∈ nr := by simp [nrAt, h]
theorem outerN_get {fl : Bool} {nr : List (Nat × List SV)} {x : Nat} (h : x < nr.length) : (outerN fl nr)[x]? = some (.own (nrAt nr x).1 0 (nrAt nr x).2.length (nrAt nr x).2.length 1 fl) := by simp [outerN, nrAt, h]
theorem outerN_set {fl : Bool} {nr : List (Nat × List SV)} {x nm n : Nat} {r : List SV} (hn : n = r.length) : (outerN fl nr).set x (.own nm 0 n n 1 fl) = outerN fl (nr.set x (nm, r)) := by subst hn; simp [outerN, List.map_set]
theorem xmap_rowsAt {fl : Bool} {nr : List (Nat × List SV)} {l : List Ent} {x : Nat} (h : (nr.map (·.1)).Nodup) (hx : x < nr.length) : xmap (.rows fl nr :: l) (nrAt nr x).1 = some ⟨(nrAt nr x).2, fl⟩ := by
  rw [xmap, nrFind_get h (nrAt_mem hx)]
theorem nr_ne {nr : List (Nat × List SV)} (h : (nr.map (·.1)).Nodup) {i j : Nat} (hi : i < nr.length) (hj : j < nr.length) (hne : i ≠ j) : (nrAt nr i).1 ≠ (nrAt nr j).1 := by
  have hpw := List.pairwise_iff_getElem.1 h
  have e1 : (nrAt nr i).1 = (nr.map (·.1))[i]'(by simpa using hi) := by simp [nrAt, hi]
  have e2 : (nrAt nr j).1 = (nr.map (·.1))[j]'(by simpa using hj) := by simp [nrAt, hj]
  rw [e1, e2]
  rcases Nat.lt_or_gt_of_ne hne with g | g
  · exact hpw i j _ _ g
  · exact (hpw j i _ _ g).symm
theorem mem_setN {nr : List (Nat × List SV)} {x : Nat} {q p : Nat × List SV} (h : p ∈ nr.set x q) : p = q ∨ ∃ j, j < nr.length ∧ j ≠ x ∧ p = nrAt nr j := by
  obtain ⟨j, hj, rfl⟩ := List.getElem_of_mem h
  rw [List.length_set] at hj
  rw [List.getElem_set]
  split
  · exact .inl rfl
  · rename_i hne
    exact .inr ⟨j, hj, fun e => hne e.symm, by simp [nrAt, hj]⟩
theorem NrOk.set {b nb nb' nm x : Nat} {r : List SV} {nr : List (Nat × List SV)} (h : NrOk b nb nr) (h1 : nb ≤ nm) (h2 : nm < nb') : NrOk b nb' (nr.set x (nm, r)) := by
  have hb := h.1
  refine ⟨by omega, fun p hp => ?_, ?_⟩
  · rcases mem_setN hp with rfl | ⟨j, hj, _, rfl⟩
    · exact ⟨h2, by simp only []; omega⟩
    · have := h.2.1 _ (nrAt_mem hj)
      exact ⟨by omega, this.2⟩
  · rw [List.map_set]
    refine List.pairwise_iff_getElem.2 fun i j hi hj hij => ?_
    simp only [List.length_set, List.length_map] at hi hj
    rw [List.getElem_set, List.getElem_set]
    have hlt : ∀ k (hk : k < nr.length), (nr.map (·.1))[k]'(by simpa using hk) < nb := fun k hk => by
      have := (h.2.1 _ (List.getElem_mem hk)).1
      simpa using this
    split
    · rw [if_neg (by omega)]
      have := hlt j hj
      simp only []; omega
    · split
      · have := hlt i hi
        simp only []; omega
      · exact List.pairwise_iff_getElem.1 h.2.2 i j _ _ hij
theorem EntIn.setN {H : Heap} {fl : Bool} {nr : List (Nat × List SV)} {x nm : Nat} {r : List SV} (h : ∀ j, j < nr.length → j ≠ x → H.map (nrAt nr j).1 = some ⟨(nrAt nr j).2, fl⟩) (h2 : H.map nm = some ⟨r, fl⟩) : EntIn H (.rows fl (nr.set x (nm, r))) := by
  intro p hp
  rcases mem_setN hp with rfl | ⟨j, hj, hne, rfl⟩
  · exact h2
  · exact h j hj hne
theorem nr_row {nr : List (Nat × List SV)} {M : List (List Int)} (h : nr.map (·.2) = mi M) {x : Nat} (hx : x < nr.length) : (nrAt nr x).2 = ints (mrow M x) ∧ x < M.length := by
  have hl : nr.length = M.length := by have := congrArg List.length h; simpa [mi] using this
  have e : (nr.map (·.2))[x]? = (mi M)[x]? := by rw [h]
  have hx2 : x < M.length := by omega
  refine ⟨?_, hx2⟩
  simp [mi, hx, hx2] at e
  simp [nrAt, hx, mrow, hx2, e]
theorem nr_len {nr : List (Nat × List SV)} {M : List (List Int)} (h : nr.map (·.2) = mi M) : nr.length = M.length := by have := congrArg List.length h; simpa [mi] using this
end Go.Sh
