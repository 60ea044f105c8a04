/-
  Texts put together: N2, M0, U1, U2, V3, FI3, FS1, PI1, PS1, FM1, RF1, WA, WC, NL2, WD, W2, WE, LB2, X1, LB3, M1, DA1, PE1, LB4, LB5, W3, W4. What each proves stands at its own head, with its conditions.
-/
import Derived.Test.YtihglnbaoadmcaaGreatDoorZBuildWeights2
import Derived.Lib.AtoiAll
import Derived.Lib.Split
import Derived.Lib.CountLaws
import Derived.Lib.ReplaceLaws
import Derived.Lib.SlicesCompact

/-
  Contracts: a square of zeros; the components of a graph of positive weights. Of the program.
-/
namespace Go.Sh
set_option linter.unusedSimpArgs false
set_option linter.unusedVariables false
open Go Go.Proofs

def zs (n : Nat) : List (List Int) := List.replicate n (List.replicate n 0)
theorem zs_length (n : Nat) : (zs n).length = n := by simp [zs]
theorem zs_row {n i : Nat} (h : i < n) : mrow (zs n) i = List.replicate n 0 := by simp [zs, mrow, h]
theorem zs_at {n i k : Nat} : mat (zs n) i k = 0 := by
  simp only [zs, mat, mrow, List.getD_eq_getElem?_getD, List.getElem?_replicate]
  by_cases h : i < n
  · by_cases h2 : k < n <;> simp [h, h2]
  · simp [h]
def outerQ (n k : Nat) : List SV := (List.range n).map fun i => if i < k then .own (i + 1) 0 n n 1 true else .val (.slice none 0 0)
theorem outerQ_length (n k : Nat) : (outerQ n k).length = n := by simp [outerQ]
theorem outerQ_zero (n : Nat) : outerQ n 0 = List.replicate n (.val (.slice none 0 0)) := by
  apply List.ext_getElem <;> simp [outerQ]
theorem outerQ_get {n k i : Nat} (h : i < n) : (outerQ n k)[i]? = some (if i < k then .own (i + 1) 0 n n 1 true else .val (.slice none 0 0)) := by
  simp only [outerQ, List.getElem?_map]
  rw [List.getElem?_range h]; rfl
theorem outerQ_set {n k : Nat} (h : k < n) : (outerQ n k).set k (.own (k + 1) 0 n n 1 true) = outerQ n (k + 1) := by
  apply List.ext_getElem?
  intro i
  by_cases hi : i < n
  · rw [outerQ_get hi, List.getElem?_set, outerQ_length, outerQ_get hi]
    by_cases hk : k = i
    · subst hk; simp [h]
    · by_cases h1 : i < k
      · simp [hk, h1, show i < k + 1 by omega]
      · simp [hk, h1, show ¬ i < k + 1 by omega]
  · rw [List.getElem?_eq_none (by rw [List.length_set, outerQ_length]; omega), List.getElem?_eq_none (by rw [outerQ_length]; omega)]
def HQ (n k : Nat) : Heap := ⟨fun x => if x = 0 then some ⟨outerQ n k, true⟩ else if x ≤ k then some ⟨ints (List.replicate n 0), true⟩ else none, k + 1⟩
def HQp (n k : Nat) : Heap := (HQ n k).push ⟨ints (List.replicate n 0), true⟩
theorem HQ_nb (n k : Nat) : (HQ n k).nb = k + 1 := rfl
theorem HQ_map (n k : Nat) : (HQ n k).map 0 = some ⟨outerQ n k, true⟩ := rfl
theorem HQp_map (n k : Nat) : (HQp n k).map 0 = some ⟨outerQ n k, true⟩ := by
  simp only [HQp, Heap.push, HQ]
  rw [if_neg (by omega)]
  rfl
theorem HQp_set {n k : Nat} : (HQp n k).set 0 (some ⟨outerQ n (k + 1), true⟩) = HQ n (k + 1) := by
  refine Heap.ext' (fun x => ?_) rfl
  simp only [HQp, HQ, Heap.push, Heap.set]
  by_cases h0 : x = 0
  · simp [h0]
  · by_cases h1 : x = k + 1
    · simp [h1]
    · by_cases h2 : x ≤ k
      · simp [h0, h1, h2, show x ≤ k + 1 by omega]
      · simp [h0, h1, h2, show ¬ x ≤ k + 1 by omega]
theorem HQ_zero (n : Nat) : HQ n 0 = hp [(0, ⟨List.replicate n (.val (.slice none 0 0)), true⟩)] 1 := by
  refine Heap.ext' (fun x => ?_) rfl
  simp only [HQ, hp, hmap, outerQ_zero]
  by_cases h0 : x = 0
  · simp [h0]
  · simp [h0]
theorem outerQ_nr (n k : Nat) : noRowL (outerQ n k) = true := by
  unfold outerQ
  generalize List.range n = l
  induction l with
  | nil => rfl
  | cons a l ih =>
    simp only [List.map_cons, noRowL, ih, Bool.and_true]
    split <;> rfl
theorem HQ_nr (n k : Nat) : nrHeap (HQ n k) := by
  intro b blk hb
  simp only [HQ] at hb
  split at hb
  · simp at hb; subst hb; exact outerQ_nr n k
  · split at hb
    · simp at hb; subst hb; exact noRowL_ints _
    · simp at hb
theorem HQ_res (n : Nat) : MatRes (mi (zs n)) (.own 0 0 n n 1 true) (HQ n n) := by
  have hl : (mi (zs n)).length = n := by rw [mi_length, zs_length]
  refine ⟨0, 0, n, true, _, by rw [hl], HQ_map n n, by rw [hl, outerQ_length]; omega, mi_vals _, fun i => i + 1, fun _ => 0, fun i i' _ _ h => by simpa using h, fun i _ => by simp, fun i hi => ?_⟩
  rw [hl] at hi
  have hr : rowAt (mi (zs n)) i = ints (List.replicate n 0) := by rw [mi_row (by rwa [zs_length]), zs_row hi]
  refine ⟨n, true, ⟨ints (List.replicate n 0), true⟩, ?_, ?_, ?_, ?_⟩
  · rw [hr, Nat.zero_add, outerQ_get hi, if_pos hi, ints_length, List.length_replicate]
  · simp only [HQ]
    rw [if_neg (by omega), if_pos (by omega)]
  · rw [hr]; simp
  · rw [hr]; simp

set_option maxHeartbeats 1000000 in
theorem Tryz.square_f (n : Nat) (hn : n ≤ 1048576) : FCall Tryz.prog 50 [.val (.int .i64 n)] (MatRes (mi (zs n))) := by
  refine FCall.of_body Tryz.func50 rfl (by kernel_rfl) (by simp [Tryz.ntmps50]) ?_
  refine SW_of_vc Tryz.mixed _ _ _ (by kernel_rfl) ?_
  simp (disch := omega) only [Tryz.ntmps50, Tryz.results50, go_sem]
  refine LoopW.loop (fun k : Nat => ⟨ofL [(0, .val (.int .i64 n)), (3, .own 0 0 n n 1 true), (8, .val (.int .i64 n)), (9, .val (.int .i64 k))], HQ n k⟩) (fun k => k ≤ n) (fun k => n - k) 0 (by omega)
    (Wk.of (by simp only [go_sem, ↓List.forall_mem_cons, List.not_mem_nil, false_implies, implies_true, and_true, true_and, and_self, ri_eq, Int.natCast_add, Int.cast_ofNat_Int]; try simp) (by rw [HQ_zero])) ?_
  intro k hk
  have ho := outerQ_length n k
  refine SW_of_vc Tryz.mixed _ _ _ (by kernel_rfl) ?_
  by_cases hlt : k < n
  · have hos := outerQ_set hlt
    have e : (HQ n k).push ⟨ints (List.replicate n 0), true⟩ = HQp n k := rfl
    simp (disch := omega) only [Tryz.ntmps50, Tryz.results50, go_sem, HQ_nb, e, HQp_map, ho, hos, HQp_set]
    exact ⟨k + 1, by omega, by omega, Wk.of (by simp only [go_sem, ↓List.forall_mem_cons, List.not_mem_nil, false_implies, implies_true, and_true, true_and, and_self, ri_eq, Int.natCast_add, Int.cast_ofNat_Int]; try simp) rfl⟩
  · obtain rfl : k = n := by omega
    simp (disch := omega) only [Tryz.ntmps50, Tryz.results50, go_sem]
    exact ⟨HQ k k, ⟨rfl, fun _ => .inr rfl⟩, rfl, HQ_nr k _, HQ_res k⟩
theorem Tryz.square_one (n : Nat) (hn : n ≤ 1048576) : FCall Tryz.prog 50 [.val (.int .i64 n)] (MatOne (mi (zs n))) := (Tryz.square_f n hn).mat

/-! ### The search -/
theorem Fin.imp {R R' : SV → Heap → Prop} {r : SV} {H : Heap} (h : ∀ r H, R r H → R' r H) (f : Fin R r H) : Fin R' r H := by
  obtain ⟨H2, a, b, c, d⟩ := f
  exact ⟨H2, a, b, c, h _ _ d⟩
end Go.Sh

/-
  Squares of numbers, by their entries.
-/
namespace Go.Sh
set_option linter.unusedSimpArgs false
set_option linter.unusedVariables false
open Go Go.Proofs

/-- A square of numbers. -/
def SqI (n : Nat) (M : List (List Int)) : Prop := M.length = n ∧ ∀ i, i < n → (mrow M i).length = n
theorem SqI.zs (n : Nat) : SqI n (zs n) := ⟨zs_length n, fun i h => by rw [zs_row h]; simp⟩
theorem SqI.set {n : Nat} {M : List (List Int)} (h : SqI n M) (i c : Nat) (x : Int) : SqI n (mset M i c x) := ⟨by rw [mset_length, h.1], fun k hk => by rw [mset_row_length]; exact h.2 k hk⟩
theorem SqI.ext {n : Nat} {M M' : List (List Int)} (h : SqI n M) (h' : SqI n M') (e : ∀ x y, x < n → y < n → mat M x y = mat M' x y) : M = M' := by
  refine List.ext_getElem (h.1.trans h'.1.symm) fun i h1 h2 => ?_
  have hi : i < n := by rw [← h.1]; exact h1
  have e1 : M[i] = mrow M i := by simp [mrow, h1]
  have e2 : M'[i] = mrow M' i := by simp [mrow, h2]
  rw [e1, e2]
  exact list_ext ((h.2 i hi).trans (h'.2 i hi).symm) fun k hk => e i k hi (by rw [← h.2 i hi]; exact hk)
def genM (n : Nat) (f : Nat → Nat → Int) : List (List Int) := (List.range n).map fun x => (List.range n).map fun y => f x y
theorem genM_row {n : Nat} {f : Nat → Nat → Int} {x : Nat} (h : x < n) : mrow (genM n f) x = (List.range n).map fun y => f x y := by simp [mrow, genM, h]
theorem genM_sq (n : Nat) (f : Nat → Nat → Int) : SqI n (genM n f) := ⟨by simp [genM], fun i h => by rw [genM_row h]; simp⟩
theorem genM_at {n : Nat} {f : Nat → Nat → Int} {x y : Nat} (hx : x < n) (hy : y < n) : mat (genM n f) x y = f x y := by rw [mat, genM_row hx]; simp [hy]
end Go.Sh

/-
  Contracts: the rows and columns of some items. Of the program.
-/
namespace Go.Sh
set_option linter.unusedSimpArgs false
set_option linter.unusedVariables false
open Go Go.Proofs

end Go.Sh

/-
  Contracts: the rows and columns of some items. Of the program and of the reference.
-/
namespace Go.Sh
set_option linter.unusedSimpArgs false
set_option linter.unusedVariables false
open Go Go.Proofs

end Go.Sh

/-
  Contracts: the blocks of a partition. Of the reference.
-/
namespace Go.Sh
set_option linter.unusedSimpArgs false
set_option linter.unusedVariables false
open Go Go.Proofs

end Go.Sh

/-
  FormatPartition: contracts.
-/
namespace Go.Sh
set_option linter.unusedSimpArgs false
set_option linter.unusedVariables false
open Go Go.Proofs

/-- Few blocks, few items, small items. -/
structure BOk (M : List (List Int)) : Prop where
  ln : M.length ≤ 8
  row : ∀ i, (mrow M i).length ≤ 8
  it : ∀ i, i < M.length → ∀ y ∈ mrow M i, ∃ x : Nat, y = x ∧ x < 8
theorem BOk.of (L : List Int) : BOk (blocksOf L) := by
  cases h : isPart L with
  | false => rw [blocksOf_f h]; exact ⟨by simp, fun i => by simp [mrow], fun i hi => by simp at hi⟩
  | true =>
    obtain ⟨h1, h2, h3, h4⟩ := part_blk h
    rw [blocksOf_t h]
    refine ⟨h2, fun i => by have := blkTo_row L L.length i; omega, fun i hi => h4 _ ?_⟩
    simp [mrow, hi]
theorem BOk.at {M : List (List Int)} (h : BOk M) {i k : Nat} (hi : i < M.length) (hk : k < (mrow M i).length) : ∃ x : Nat, (mrow M i).getD k 0 = x ∧ x < 8 := h.it i hi _ (by simp [hk])

end Go.Sh

/-
  FormatScoring: contracts; the law walked.
-/
namespace Go.Sh
set_option linter.unusedSimpArgs false
set_option linter.unusedVariables false
open Go Go.Proofs

end Go.Sh

/-
  Numbers read as text: plain law.
-/
namespace Go.Sh
set_option linter.unusedSimpArgs false
set_option linter.unusedVariables false
open Go Go.Proofs

def dgt (c : UInt8) : Bool := decide (48 ≤ c.toNat ∧ c.toNat ≤ 57)
def dstep (a : Nat) (c : UInt8) : Nat := if dgt c = true then a * 10 + (c.toNat - 48) else a
def dval (s : List UInt8) : Nat := s.foldl dstep 0
def dcnt (s : List UInt8) : Nat := s.countP dgt
def nval (s : List UInt8) : Int := if s.head? = some 45 then -(dval s : Int) else dval s
/-- The number of at most 9 digits that a text spells. -/
def pint (s : List UInt8) : Option Int := if dcnt s ≤ 9 ∧ s.length ≤ 10 ∧ Lib.itoa (nval s) = s then some (nval s) else none

theorem dgt_of {k : Nat} (h : k < 10) : dgt (UInt8.ofNat (48 + k)) = true := by
  have e : (UInt8.ofNat (48 + k)).toNat = 48 + k := by rw [UInt8.toNat_ofNat']; omega
  simp only [dgt, e]; simp; omega
theorem dstep_of {a k : Nat} (h : k < 10) : dstep a (UInt8.ofNat (48 + k)) = a * 10 + k := by
  have e : (UInt8.ofNat (48 + k)).toNat = 48 + k := by rw [UInt8.toNat_ofNat']; omega
  rw [dstep, if_pos (dgt_of h), e]; omega
theorem decDigits_facts (u : Nat) : (∀ c ∈ Lib.decDigits u, dgt c = true) ∧ dval (Lib.decDigits u) = u ∧ Lib.decDigits u ≠ [] := by
  induction u using Nat.strongRecOn with
  | _ u ih =>
    by_cases h : u < 10
    · rw [Lib.decDigits, dif_pos h]
      refine ⟨fun c hc => ?_, ?_, by simp⟩
      · rw [List.mem_singleton] at hc; rw [hc]; exact dgt_of h
      · show dstep 0 _ = u
        rw [dstep_of h]; omega
    · rw [Lib.decDigits, dif_neg h]
      obtain ⟨h1, h2, h3⟩ := ih (u / 10) (by omega)
      refine ⟨fun c hc => ?_, ?_, by simp⟩
      · rcases List.mem_append.1 hc with hc | hc
        · exact h1 c hc
        · rw [List.mem_singleton] at hc; rw [hc]; exact dgt_of (by omega)
      · rw [dval, List.foldl_append, ← dval, h2]
        show dstep (u / 10) _ = u
        rw [dstep_of (by omega)]; omega
theorem dval_minus (s : List UInt8) : dval (45 :: s) = dval s := by
  show List.foldl dstep (dstep 0 45) s = _
  rw [show dstep 0 45 = 0 by decide]; rfl
theorem head_dgt {s : List UInt8} (h : ∀ c ∈ s, dgt c = true) : s.head? ≠ some 45 := by
  cases s with
  | nil => simp
  | cons c r =>
    intro e
    have := h c (by simp)
    simp only [List.head?_cons, Option.some.injEq] at e
    rw [e] at this
    exact absurd this (by decide)
theorem nval_itoa (n : Int) : nval (Lib.itoa n) = n := by
  unfold Lib.itoa
  split
  · obtain ⟨h1, h2, h3⟩ := decDigits_facts n.natAbs
    rw [nval, if_pos List.head?_cons, dval_minus, h2]; omega
  · obtain ⟨h1, h2, h3⟩ := decDigits_facts n.toNat
    rw [nval, if_neg (head_dgt h1), h2]; omega
theorem dval_lt_aux : ∀ (s : List UInt8) (a : Nat), List.foldl dstep a s < (a + 1) * 10 ^ dcnt s
  | [], a => by simp [dcnt]
  | c :: r, a => by
    have ih := dval_lt_aux r (dstep a c)
    rw [List.foldl_cons]
    refine Nat.lt_of_lt_of_le ih ?_
    unfold dstep dcnt
    rw [List.countP_cons]
    split
    · rename_i h
      have hc : c.toNat ≤ 57 := by
        simp only [dgt, decide_eq_true_eq] at h
        exact h.2
      show _ ≤ (a + 1) * 10 ^ (List.countP dgt r + 1)
      rw [Nat.pow_succ, ← Nat.mul_assoc, Nat.mul_right_comm]
      exact Nat.mul_le_mul_right _ (by omega)
    · exact Nat.mul_le_mul_left _ (Nat.pow_le_pow_right (by omega) (by omega))
theorem dval_lt (s : List UInt8) : dval s < 10 ^ dcnt s := by
  have := dval_lt_aux s 0
  simpa [dval] using this
theorem pow10_le {k m : Nat} (h : k ≤ m) : 10 ^ k ≤ 10 ^ m := Nat.pow_le_pow_right (by omega) h
theorem pint_some {s : List UInt8} {n : Int} (h : pint s = some n) : Lib.itoa n = s ∧ -999999999 ≤ n ∧ n ≤ 999999999 := by
  rw [pint] at h
  split at h
  · rename_i hh
    obtain ⟨h1, h2, h3⟩ := hh
    obtain rfl := Option.some.inj h
    refine ⟨h3, ?_⟩
    have h4 := dval_lt s
    have h5 := pow10_le h1
    unfold nval
    split <;> omega
  · cases h
theorem nDigits_le {u k : Nat} (hk : 1 ≤ k) (h : u < 10 ^ k) : Lib.nDigits u ≤ k := by
  induction k generalizing u with
  | zero => omega
  | succ k ih =>
    by_cases h1 : u < 10
    · rw [Lib.nDigits_small h1]; omega
    · rw [Lib.nDigits_big h1]
      rw [Nat.pow_succ] at h
      cases k with
      | zero => simp at h; omega
      | succ k =>
        have := ih (u := u / 10) (by omega) (by omega)
        omega
theorem dcnt_dgs {s : List UInt8} (h : ∀ c ∈ s, dgt c = true) : dcnt s = s.length := List.countP_eq_length.2 h
theorem itoa_shape (n : Int) (h0 : -999999999 ≤ n) (h1 : n ≤ 999999999) : dcnt (Lib.itoa n) ≤ 9 ∧ (Lib.itoa n).length ≤ 10 := by
  unfold Lib.itoa
  split
  · obtain ⟨g1, g2, g3⟩ := decDigits_facts n.natAbs
    have hl := Lib.decDigits_length n.natAbs
    have h9 := nDigits_le (u := n.natAbs) (k := 9) (by omega) (by omega)
    have hc := dcnt_dgs g1
    refine ⟨?_, ?_⟩
    · rw [dcnt, List.countP_cons, ← dcnt, hc]
      have : dgt 45 = false := by decide
      rw [this]; simp; omega
    · rw [List.length_cons]; omega
  · obtain ⟨g1, g2, g3⟩ := decDigits_facts n.toNat
    have hl := Lib.decDigits_length n.toNat
    have h9 := nDigits_le (u := n.toNat) (k := 9) (by omega) (by omega)
    have hc := dcnt_dgs g1
    omega
theorem pint_itoa {n : Int} (h0 : -999999999 ≤ n) (h1 : n ≤ 999999999) : pint (Lib.itoa n) = some n := by
  obtain ⟨a, b⟩ := itoa_shape n h0 h1
  rw [pint, nval_itoa, if_pos ⟨a, b, rfl⟩]
theorem pint_of {s : List UInt8} {n : Int} (h : Lib.itoa n = s) (h0 : -999999999 ≤ n) (h1 : n ≤ 999999999) : pint s = some n := by rw [← h]; exact pint_itoa h0 h1
theorem parse_dgs : ∀ (l : List UInt8) (a : Nat), (∀ c ∈ l, dgt c = true) → (a + 1) * 10 ^ l.length ≤ 1000000000 → Lib.parseUint10 a l = .ok (List.foldl dstep a l)
  | [], a, _, _ => rfl
  | c :: r, a, h, hb => by
    have hc := h c (by simp)
    have hc' := hc
    simp only [dgt, decide_eq_true_eq] at hc'
    have hp : 1 ≤ 10 ^ r.length := Nat.one_le_pow _ _ (by omega)
    rw [List.length_cons, Nat.pow_succ] at hb
    have hb2 : ((a * 10 + (c.toNat - 48)) + 1) * 10 ^ r.length ≤ 1000000000 := by
      refine Nat.le_trans ?_ hb
      rw [Nat.mul_comm (10 ^ r.length) 10, ← Nat.mul_assoc]
      exact Nat.mul_le_mul_right _ (by omega)
    have hs : a * 10 + (c.toNat - 48) + 1 ≤ 1000000000 := Nat.le_trans (Nat.le_mul_of_pos_right _ hp) hb2
    rw [Lib.parseUint10, if_pos hc', if_neg (by omega), if_neg (by omega), parse_dgs r _ (fun d hd => h d (by simp [hd])) hb2, List.foldl_cons]
    congr 2
    rw [dstep, if_pos hc]
theorem parseMag_dec (u : Nat) (h : u ≤ 999999999) : Lib.parseMag (Lib.decDigits u) = .ok u := by
  obtain ⟨g1, g2, g3⟩ := decDigits_facts u
  have hl := Lib.decDigits_length u
  have h9 := nDigits_le (u := u) (k := 9) (by omega) (by omega)
  rw [Lib.parseMag, if_neg g3, parse_dgs _ 0 g1 (by
    have := pow10_le (k := (Lib.decDigits u).length) (m := 9) (by omega)
    omega)]
  show Lib.NumEnd.ok (dval _) = _
  rw [g2]
theorem atoiAll_itoa {n : Int} (h0 : -999999999 ≤ n) (h1 : n ≤ 999999999) : Lib.atoiAll (Lib.itoa n) = .ok n := by
  unfold Lib.itoa
  split
  · show (match Lib.parseMag (if (45 : UInt8).toNat = 43 ∨ (45 : UInt8).toNat = 45 then Lib.decDigits n.natAbs else _) with | .syntax => _ | .range => _ | .ok u => _) = _
    rw [if_pos (by decide), parseMag_dec _ (by omega)]
    show (if ¬ (45 : UInt8).toNat = 45 ∧ _ then _ else if (45 : UInt8).toNat = 45 ∧ 9223372036854775808 < n.natAbs then _ else Lib.NumEnd.ok (if (45 : UInt8).toNat = 45 then -(n.natAbs : Int) else _)) = _
    rw [if_neg (by simp), if_neg (by omega), if_pos (by decide)]
    congr 1; omega
  · obtain ⟨g1, g2, g3⟩ := decDigits_facts n.toNat
    have hm := parseMag_dec n.toNat (by omega)
    generalize Lib.decDigits n.toNat = l at *
    cases l with
    | nil => exact absurd rfl g3
    | cons c r =>
      have hc := g1 c (by simp)
      simp only [dgt, decide_eq_true_eq] at hc
      unfold Lib.atoiAll
      simp only
      rw [if_neg (by omega), hm]
      simp only
      rw [if_neg (by omega), if_neg (by omega), if_neg (by omega)]
      congr 1; omega
theorem pint_nil : pint [] = none := by
  rw [pint, if_neg]
  rintro ⟨_, _, h⟩
  have e : Lib.itoa (nval []) = [48] := by
    show Lib.itoa 0 = _
    rw [Lib.itoa, if_neg (by decide), Lib.decDigits, dif_pos (by decide)]; decide
  rw [e] at h; cases h
/-- What a program that reads with Atoi finds. -/
theorem pint_none {s : List UInt8} (h : ∀ n, Lib.atoiAll s = .ok n → Lib.itoa n = s → -999999999 ≤ n → n ≤ 999999999 → False) : pint s = none := by
  cases hp : pint s with
  | none => rfl
  | some n =>
    obtain ⟨h1, h2, h3⟩ := pint_some hp
    exact (h n (by rw [← h1]; exact atoiAll_itoa h2 h3) h1 h2 h3).elim
end Go.Sh

/-
  Scorings read back from their text: plain law.
-/
namespace Go.Sh
set_option linter.unusedSimpArgs false
set_option linter.unusedVariables false
open Go Go.Proofs

end Go.Sh

/-
  FormatMatrix: contracts; the law walked.
-/
namespace Go.Sh
set_option linter.unusedSimpArgs false
set_option linter.unusedVariables false
open Go Go.Proofs

/-- The size, then what stands right of the diagonal in the first i rows. -/
def up (M : List (List Int)) : Nat → List Int
  | 0 => [(M.length : Int)]
  | i + 1 => up M i ++ (mrow M i).drop (i + 1)
end Go.Sh

/-
  Rules as text: plain law.
-/
namespace Go.Sh
set_option linter.unusedSimpArgs false
set_option linter.unusedVariables false
open Go Go.Proofs

/-! ### Longer separators -/
theorem idx_no {a : UInt8} {sub : List UInt8} : ∀ {s : List UInt8}, a ∉ s → Lib.index s (a :: sub) = -1
  | [], _ => rfl
  | b :: s, h => by
    have ih := idx_no (a := a) (sub := sub) (s := s) fun hm => h (by simp [hm])
    have hb : (a == b) = false := by rw [beq_eq_false_iff_ne]; exact fun e => h (by simp [e])
    rw [Lib.index, ih]
    simp [List.isPrefixOf, hb]
theorem idx_app {a : UInt8} {sub q : List UInt8} : ∀ {p : List UInt8}, a ∉ p → Lib.index (p ++ (a :: sub) ++ q) (a :: sub) = p.length
  | [], _ => by
    have : (a :: sub).isPrefixOf (a :: (sub ++ q)) = true := by simp
    rw [List.nil_append, List.cons_append, Lib.index, if_pos this]; rfl
  | b :: p, h => by
    have ih := idx_app (a := a) (sub := sub) (q := q) (p := p) fun hm => h (by simp [hm])
    have hb : (a == b) = false := by rw [beq_eq_false_iff_ne]; exact fun e => h (by simp [e])
    have hp : (a :: sub).isPrefixOf (b :: (p ++ (a :: sub) ++ q)) = false := by simp [List.isPrefixOf, hb]
    rw [List.cons_append, List.cons_append, Lib.index, ih, hp]
    have : ((p.length : Int) == -1) = false := by rw [beq_eq_false_iff_ne]; omega
    rw [this]
    simp
end Go.Sh

/-
  Texts and fields of records: contracts.
-/
namespace Go.Sh
set_option linter.unusedSimpArgs false
set_option linter.unusedVariables false
open Go Go.Proofs

def okb (c : UInt8) : Bool := decide (32 ≤ c.toNat) && decide (c.toNat ≤ 126)
theorem tx_end {s : List UInt8} (h : ∀ k, k < s.length → okb (s.getD k 0) = true) : isTx s = decide (s.length ≤ 40) := by
  have : s.all (fun c => decide (32 ≤ c.toNat) && decide (c.toNat ≤ 126)) = true := (all_getD 0).2 h
  rw [isTx, this, Bool.true_and]
theorem tx_bad {s : List UInt8} {k : Nat} (hk : k < s.length) (h : okb (s.getD k 0) = false) : isTx s = false := by
  have : s.all (fun c => decide (32 ≤ c.toNat) && decide (c.toNat ≤ 126)) = false := all_not 0 hk h
  rw [isTx, this, Bool.false_and]
theorem byte_lt (s : List UInt8) (i : Nat) : (s.getD i 0).toNat < 256 := UInt8.toNat_lt _
set_option maxHeartbeats 4000000 in
theorem Tryz.specTx_ok (s : List UInt8) (hs : s.length ≤ 1048576) : PCall Tryz.prog 155 [str s] (.val (.bool (isTx s))) := by
  refine FCall.pcall (R := fun r _ => r = .val (.bool (isTx s))) ?_ 0 (by rintro r H rfl; exact view_bool)
  refine FCall.of_body Tryz.func155 rfl (by kernel_rfl) (by simp [Tryz.ntmps155]) ?_
  refine SW_of_vc Tryz.mixed _ _ _ (by kernel_rfl) ?_
  simp (disch := omega) only [Tryz.ntmps155, Tryz.results155, go_sem]
  refine LoopW.loop (fun i : Nat => ⟨ofL [(0, str s), (2, .val (.bool false)), (3, .val (.int .i64 i))], hp [] 0⟩) (fun i => i ≤ s.length ∧ ∀ k, k < i → okb (s.getD k 0) = true) (fun i => s.length - i) 0 ⟨by omega, fun k h => by omega⟩ (Wk.of (by simp only [go_sem, ↓List.forall_mem_cons, List.not_mem_nil, false_implies, implies_true, and_true, true_and, and_self, ri_eq, Int.natCast_add, Int.cast_ofNat_Int]; try simp) rfl) ?_
  rintro i ⟨hi, hb⟩
  refine SW_of_vc Tryz.mixed _ _ _ (by kernel_rfl) ?_
  by_cases hlt : i < s.length
  · have hix := sb_ix hlt
    have hbl := byte_lt s i
    have hok : okb (s.getD i 0) = (decide (32 ≤ (s.getD i 0).toNat) && decide ((s.getD i 0).toNat ≤ 126)) := rfl
    have htx := tx_bad hlt
    obtain ⟨x, hx⟩ : ∃ x : Nat, (s.getD i 0).toNat = x := ⟨_, rfl⟩
    rw [hx] at hok hbl
    by_cases h1 : x < 32
    · rw [htx (by rw [hok, decide_eq_false (by omega), Bool.false_and])]
      simp (disch := omega) only [Tryz.ntmps155, Tryz.results155, go_sem, hix, hx]
      exact Fin.val rfl
    · by_cases h2 : 126 < x
      · rw [htx (by rw [hok, decide_eq_false (show ¬ x ≤ 126 by omega), Bool.and_false])]
        simp (disch := omega) only [Tryz.ntmps155, Tryz.results155, go_sem, hix, hx]
        exact Fin.val rfl
      · have hb1 : okb (s.getD i 0) = true := by rw [hok, decide_eq_true (by omega), decide_eq_true (by omega)]; rfl
        simp (disch := omega) only [Tryz.ntmps155, Tryz.results155, go_sem, hix, hx]
        refine ⟨i + 1, ⟨hlt, fun k hk => ?_⟩, by omega, Wk.of (by simp only [go_sem, ↓List.forall_mem_cons, List.not_mem_nil, false_implies, implies_true, and_true, true_and, and_self, ri_eq, Int.natCast_add, Int.cast_ofNat_Int]; try simp) rfl⟩
        rcases Nat.lt_succ_iff_lt_or_eq.1 hk with g | g
        · exact hb k g
        · rw [g]; exact hb1
  · obtain rfl : i = s.length := by omega
    rw [tx_end hb, show decide (s.length ≤ 40) = decide ((s.length : Int) ≤ 40) from decide_eq_decide.2 (by omega)]
    simp (disch := omega) only [Tryz.ntmps155, Tryz.results155, go_sem]
    exact Fin.val rfl
set_option maxHeartbeats 4000000 in
theorem Tryz.implTx_ok (s : List UInt8) (hs : s.length ≤ 1048576) : PCall Tryz.prog 176 [str s] (.val (.bool (isTx s))) := by
  refine FCall.pcall (R := fun r _ => r = .val (.bool (isTx s))) ?_ 0 (by rintro r H rfl; exact view_bool)
  refine FCall.of_body Tryz.func176 rfl (by kernel_rfl) (by simp [Tryz.ntmps176]) ?_
  refine SW_of_vc Tryz.mixed _ _ _ (by kernel_rfl) ?_
  simp (disch := omega) only [Tryz.ntmps176, Tryz.results176, go_sem]
  refine LoopW.loop (fun i : Nat => ⟨ofL [(0, str s), (2, .val (.bool false)), (5, .val (.int .i64 s.length)), (6, .val (.int .i64 i))], hp [] 0⟩) (fun i => i ≤ s.length ∧ ∀ k, k < i → okb (s.getD k 0) = true) (fun i => s.length - i) 0 ⟨by omega, fun k h => by omega⟩ (Wk.of (by simp only [go_sem, ↓List.forall_mem_cons, List.not_mem_nil, false_implies, implies_true, and_true, true_and, and_self, ri_eq, Int.natCast_add, Int.cast_ofNat_Int]; try simp) rfl) ?_
  rintro i ⟨hi, hb⟩
  refine SW_of_vc Tryz.mixed _ _ _ (by kernel_rfl) ?_
  by_cases hlt : i < s.length
  · have hix := sb_ix hlt
    have hbl := byte_lt s i
    have hok : okb (s.getD i 0) = (decide (32 ≤ (s.getD i 0).toNat) && decide ((s.getD i 0).toNat ≤ 126)) := rfl
    have htx := tx_bad hlt
    obtain ⟨x, hx⟩ : ∃ x : Nat, (s.getD i 0).toNat = x := ⟨_, rfl⟩
    rw [hx] at hok hbl
    have ww := Tryz.within_ok (x : Int) 32 126
    have hin : inR (x : Int) 32 126 = okb (s.getD i 0) := by
      rw [hok]; simp only [inR]
      rw [Bool.eq_iff_iff]; simp; omega
    rw [hin] at ww
    cases hk : okb (s.getD i 0) with
    | false =>
      rw [hk] at ww
      rw [htx hk]
      simp (disch := omega) only [Tryz.ntmps176, Tryz.results176, go_sem, hix, hx]
      refine ww.callV 0 (viewL_cons_of (view_int) (viewL_cons_of (view_int) (viewL_cons_of (view_int) viewL_nil_of))) ?_
      simp (disch := omega) only [Tryz.ntmps176, Tryz.results176, go_sem]
      exact Fin.val rfl
    | true =>
      rw [hk] at ww
      simp (disch := omega) only [Tryz.ntmps176, Tryz.results176, go_sem, hix, hx]
      refine ww.callV 0 (viewL_cons_of (view_int) (viewL_cons_of (view_int) (viewL_cons_of (view_int) viewL_nil_of))) ?_
      simp (disch := omega) only [Tryz.ntmps176, Tryz.results176, go_sem]
      refine ⟨i + 1, ⟨hlt, fun k hk' => ?_⟩, by omega, Wk.of (by simp only [go_sem, ↓List.forall_mem_cons, List.not_mem_nil, false_implies, implies_true, and_true, true_and, and_self, ri_eq, Int.natCast_add, Int.cast_ofNat_Int]; try simp) rfl⟩
      rcases Nat.lt_succ_iff_lt_or_eq.1 hk' with g | g
      · exact hb k g
      · rw [g]; exact hk
  · obtain rfl : i = s.length := by omega
    rw [tx_end hb, show decide (s.length ≤ 40) = decide ((s.length : Int) ≤ 40) from decide_eq_decide.2 (by omega)]
    simp (disch := omega) only [Tryz.ntmps176, Tryz.results176, go_sem]
    exact Fin.val rfl
set_option maxHeartbeats 4000000 in
theorem Tryz.specFd_ok (s : List UInt8) (hs : s.length ≤ 1048576) : PCall Tryz.prog 113 [str s] (.val (.bool (isFd s))) := by
  refine FCall.pcall (R := fun r _ => r = .val (.bool (isFd s))) ?_ 0 (by rintro r H rfl; exact view_bool)
  have wt := Tryz.specTx_ok s hs
  refine FCall.of_body Tryz.func113 rfl (by kernel_rfl) (by simp [Tryz.ntmps113]) ?_
  refine SW_of_vc Tryz.mixed _ _ _ (by kernel_rfl) ?_
  simp (disch := omega) only [Tryz.ntmps113, Tryz.results113, go_sem]
  refine LoopW.loop (fun i : Nat => ⟨ofL [(0, str s), (2, .val (.bool false)), (3, .val (.int .i64 i))], hp [] 0⟩) (fun i => i ≤ s.length ∧ ∀ k, k < i → (fun c : UInt8 => c != 124 && c != 59) (s.getD k 0) = true) (fun i => s.length - i) 0 ⟨by omega, fun k h => by omega⟩ (Wk.of (by simp only [go_sem, ↓List.forall_mem_cons, List.not_mem_nil, false_implies, implies_true, and_true, true_and, and_self, ri_eq, Int.natCast_add, Int.cast_ofNat_Int]; try simp) rfl) ?_
  rintro i ⟨hi, hb⟩
  refine SW_of_vc Tryz.mixed _ _ _ (by kernel_rfl) ?_
  by_cases hlt : i < s.length
  · have hix := sb_ix hlt
    have hno := fun h => all_not (p := fun c : UInt8 => c != 124 && c != 59) 0 hlt h
    by_cases h1 : s.getD i 0 = 124
    · have hf : isFd s = false := by rw [isFd, hno (by rw [h1]; rfl), Bool.and_false]
      rw [hf]
      have e1 : (((s.getD i 0).toNat : Int) == 124) = true := by rw [h1]; rfl
      simp (disch := omega) only [Tryz.ntmps113, Tryz.results113, go_sem, hix, e1]
      exact Fin.val rfl
    · have e1 : (((s.getD i 0).toNat : Int) == 124) = false := by
        rw [beq_eq_false_iff_ne]; intro e; exact h1 (UInt8.toNat_inj.1 (by rw [show (124 : UInt8).toNat = 124 from rfl]; omega))
      by_cases h2 : s.getD i 0 = 59
      · have hf : isFd s = false := by rw [isFd, hno (by rw [h2]; rfl), Bool.and_false]
        rw [hf]
        have e2 : (((s.getD i 0).toNat : Int) == 59) = true := by rw [h2]; rfl
        simp (disch := omega) only [Tryz.ntmps113, Tryz.results113, go_sem, hix, e1, e2]
        exact Fin.val rfl
      · have e2 : (((s.getD i 0).toNat : Int) == 59) = false := by
          rw [beq_eq_false_iff_ne]; intro e; exact h2 (UInt8.toNat_inj.1 (by rw [show (59 : UInt8).toNat = 59 from rfl]; omega))
        simp (disch := omega) only [Tryz.ntmps113, Tryz.results113, go_sem, hix, e1, e2]
        refine ⟨i + 1, ⟨hlt, fun k hk' => ?_⟩, by omega, Wk.of (by simp only [go_sem, ↓List.forall_mem_cons, List.not_mem_nil, false_implies, implies_true, and_true, true_and, and_self, ri_eq, Int.natCast_add, Int.cast_ofNat_Int]; try simp) rfl⟩
        rcases Nat.lt_succ_iff_lt_or_eq.1 hk' with g | g
        · exact hb k g
        · rw [g]; simp only [bne_iff_ne.2 h1, bne_iff_ne.2 h2, Bool.and_self]
  · obtain rfl : i = s.length := by omega
    have he : isFd s = isTx s := by rw [isFd, (all_getD 0).2 hb, Bool.and_true]
    rw [he]
    simp (disch := omega) only [Tryz.ntmps113, Tryz.results113, go_sem]
    refine wt.callV 0 (viewL_cons_of view_str viewL_nil_of) ?_
    simp (disch := omega) only [Tryz.ntmps113, Tryz.results113, go_sem]
    exact Fin.val rfl
theorem indexAny_any : ∀ (s t : List UInt8), (0 ≤ Lib.indexAny s t) ↔ s.any (fun c => t.contains c) = true
  | [], t => by simp [Lib.indexAny]
  | b :: s, t => by
    have ih := indexAny_any s t
    have hg := Lib.indexAny_ge t s
    rw [Lib.indexAny, List.any_cons]
    cases hb : t.contains b with
    | true => simp
    | false =>
      simp only [Bool.false_eq_true, ↓reduceIte, Bool.false_or, ← ih]
      by_cases h : Lib.indexAny s t = -1
      · simp [h]
      · have : (Lib.indexAny s t == -1) = false := beq_eq_false_iff_ne.2 h
        rw [this]; simp only [Bool.false_eq_true, ↓reduceIte]; omega
theorem repl1 (c : UInt8) : ∀ (n : Nat) (s : List UInt8), s.length ≤ n → ∀ k, s.count c ≤ k → Lib.replaceK [c] [] k s = s.filter fun x => x != c
  | n, s, hn, k, hk => by
    by_cases hm : c ∈ s
    · obtain ⟨p, q, rfl, hp⟩ := List.eq_append_cons_of_mem hm
      cases n with
      | zero => simp at hn
      | succ n =>
        have hc : (p ++ c :: q).count c = q.count c + 1 := by
          rw [List.count_append, List.count_cons_self, List.count_eq_zero.2 hp]; omega
        cases k with
        | zero => omega
        | succ k =>
          have hi : Lib.index (p ++ c :: q) [c] = p.length := by
            have := idx_app (a := c) (sub := []) (q := q) hp
            simpa using this
          rw [Lib.replaceK_hit _ _ _ _ _ hi]
          have e1 : (p ++ c :: q).take p.length = p := by simp
          have e2 : (p ++ c :: q).drop (p.length + [c].length) = q := by simp [List.drop_append]
          rw [e1, e2, repl1 c n q (by simp at hn; omega) k (by omega)]
          have hpf : p.filter (fun x => x != c) = p := List.filter_eq_self.2 fun x hx => by
            simp only [bne_iff_ne]; rintro rfl; exact hp hx
          simp [List.filter_append, hpf]
    · have hf : s.filter (fun x => x != c) = s := List.filter_eq_self.2 fun x hx => by
        simp only [bne_iff_ne]; rintro rfl; exact hm hx
      rw [hf]
      cases k with
      | zero => rfl
      | succ k =>
        have := idx_no (a := c) (sub := []) hm
        rw [Lib.replaceK, this]; rfl
theorem cnt1 (c : UInt8) : ∀ (fuel : Nat) (s : List UInt8), s.count c < fuel → Lib.countFrom [c] fuel s = s.count c
  | 0, s, h => by omega
  | fuel + 1, s, h => by
    by_cases hm : c ∈ s
    · obtain ⟨p, q, rfl, hp⟩ := List.eq_append_cons_of_mem hm
      have hc : (p ++ c :: q).count c = q.count c + 1 := by
        rw [List.count_append, List.count_cons_self, List.count_eq_zero.2 hp]; omega
      have hi : Lib.index (p ++ c :: q) [c] = p.length := by
        have := idx_app (a := c) (sub := []) (q := q) hp
        simpa using this
      have e2 : (p ++ c :: q).drop ((p.length : Int).toNat + [c].length) = q := by simp [List.drop_append]
      rw [Lib.countFrom, hi, if_neg (by simp), e2, cnt1 c fuel q (by omega), hc]; omega
    · have := idx_no (a := c) (sub := []) hm
      rw [Lib.countFrom, this, List.count_eq_zero.2 hm]; rfl
theorem replAll1 (s : List UInt8) (c : UInt8) : Lib.replaceAll s [c] [] = s.filter fun x => x != c := by
  have hc := cnt1 c (s.length + 1) s (by have := List.count_le_length (a := c) (l := s); omega)
  have hn : Lib.replaceNum s [c] (-1) = s.count c := by rw [Lib.replaceNum, if_pos (.inl (by omega)), Lib.count, hc]
  rw [Lib.replaceAll, Lib.replace, if_neg (by simp), hn, repl1 c s.length s (Nat.le_refl _) _ (Nat.le_refl _)]
/-! ### What the library gives -/
theorem Tryz.maxLa {O : Nat → Prop} {w : World} (h : TabOk O w) : ∃ m, w.cell? ⟨1, 0, none⟩ = some (.int .i64 m) := by
  obtain ⟨_, hc⟩ := h (1, [fun v => ∃ m, v = Value.int .i64 m]) (by simp [TABS])
  obtain ⟨v, h1, ⟨m, rfl⟩, _⟩ := hc 0 _ rfl
  exact ⟨m, h1⟩
theorem Tryz.containsAny_ok (s t : List UInt8) (hs : s.length ≤ 1048576) (ht : t.length ≤ 1048576) (ha : ∀ c ∈ s, c.toNat < 128) (hb : ∀ c ∈ t, c.toNat < 128) : PCall Tryz.prog 177 [str s, str t] (.val (.bool (Lib.containsAny s t))) := by
  refine ⟨⟨_, Tryz.func177, rfl, rfl⟩, fun w vs hl _ => ?_⟩
  simp only [LRel, VRel] at hl
  obtain ⟨x, rest, rfl, rfl, y, rest, rfl, rfl, rfl⟩ := hl
  refine (Tryz.strings_ContainsAny_laid (sb s) (sb t) w (by rw [sb_size]; omega) (by rw [sb_size]; omega) (fun j b h => ha b (by rw [sb_data] at h; exact List.mem_of_getElem? h)) (fun j b h => hb b (by rw [sb_data] at h; exact List.mem_of_getElem? h))).mono ?_
  rintro e w' ⟨rfl, hw⟩
  refine ⟨_, rfl, hw, ?_⟩
  simp only [VRel, sb_data]
theorem Tryz.trimSuffix_ok (s t : List UInt8) (hs : s.length ≤ 1048576) : PCall Tryz.prog 219 [str s, str t] (str (Lib.trimSuffix s t)) := by
  refine ⟨⟨_, Tryz.func219, rfl, rfl⟩, fun w vs hl _ => ?_⟩
  simp only [LRel, VRel] at hl
  obtain ⟨x, rest, rfl, rfl, y, rest, rfl, rfl, rfl⟩ := hl
  refine (Tryz.strings_TrimSuffix (sb s) (sb t) w (by rw [sb_size]; omega)).mono ?_
  rintro e w' ⟨rfl, rfl⟩
  refine ⟨_, rfl, RowKit.Below.refl _ _, ?_⟩
  simp only [VRel, sb_data, sb_mk]
theorem Tryz.hasSuffix_ok (s t : List UInt8) (hs : s.length ≤ 1048576) : PCall Tryz.prog 148 [str s, str t] (.val (.bool (Lib.hasSuffix s t))) := by
  refine ⟨⟨_, Tryz.func148, rfl, rfl⟩, fun w vs hl _ => ?_⟩
  simp only [LRel, VRel] at hl
  obtain ⟨x, rest, rfl, rfl, y, rest, rfl, rfl, rfl⟩ := hl
  refine (Tryz.strings_HasSuffix (sb s) (sb t) w (by rw [sb_size]; omega)).mono ?_
  rintro e w' ⟨rfl, rfl⟩
  refine ⟨_, rfl, RowKit.Below.refl _ _, ?_⟩
  simp only [VRel, sb_data]
theorem Tryz.replaceAll_ok (s : List UInt8) (c : UInt8) (hs : s.length ≤ 1048576) : PCall Tryz.prog 221 [str s, str [c], str []] (str (Lib.replaceAll s [c] [])) := by
  refine ⟨⟨_, Tryz.func221, rfl, rfl⟩, fun w vs hl ht => ?_⟩
  simp only [LRel, VRel] at hl
  obtain ⟨x, rest, rfl, rfl, y, rest, rfl, rfl, z, rest, rfl, rfl, rfl⟩ := hl
  obtain ⟨m, hm⟩ := Tryz.maxLa ht
  refine (Tryz.strings_ReplaceAll (sb s) (sb [c]) (sb []) m w (by rw [sb_size]; omega) hm (by rw [sb_size]; simp) (by rw [sb_size, sb_size]; simp; omega)).mono ?_
  rintro e w' ⟨rfl, hw⟩
  refine ⟨_, rfl, hw, ?_⟩
  simp only [VRel, sb_data, sb_mk]
set_option maxHeartbeats 4000000 in
theorem Tryz.implFd_ok (s : List UInt8) (hs : s.length ≤ 1048576) : PCall Tryz.prog 134 [str s] (.val (.bool (isFd s))) := by
  refine FCall.pcall (R := fun r _ => r = .val (.bool (isFd s))) ?_ 0 (by rintro r H rfl; exact view_bool)
  have wt := Tryz.implTx_ok s hs
  refine FCall.of_body Tryz.func134 rfl (by kernel_rfl) (by simp [Tryz.ntmps134]) ?_
  refine SW_of_vc Tryz.mixed _ _ _ (by kernel_rfl) ?_
  cases hx : isTx s with
  | false =>
    rw [hx] at wt
    have hf : isFd s = false := by rw [isFd, hx, Bool.false_and]
    rw [hf]
    simp (disch := omega) only [Tryz.ntmps134, Tryz.results134, go_sem]
    refine wt.callV 0 (viewL_cons_of view_str viewL_nil_of) ?_
    simp (disch := omega) only [Tryz.ntmps134, Tryz.results134, go_sem]
    exact Fin.val rfl
  | true =>
    rw [hx] at wt
    have hax : ∀ c ∈ s, c.toNat < 128 := fun c hc => by
      simp only [isTx, Bool.and_eq_true, List.all_eq_true, decide_eq_true_eq] at hx
      have := (hx.1 c hc).2; omega
    have wc := Tryz.containsAny_ok s [124, 59] hs (by simp) hax (by decide)
    have he : isFd s = !Lib.containsAny s [124, 59] := by
      rw [isFd, hx, Bool.true_and, Bool.eq_iff_iff]
      have := indexAny_any s [124, 59]
      simp only [Lib.containsAny, Bool.not_eq_true', decide_eq_false_iff_not, this, List.any_eq_true, List.all_eq_true, List.contains_cons, not_exists, not_and]
      simp
    rw [he]
    simp (disch := omega) only [Tryz.ntmps134, Tryz.results134, go_sem]
    refine wt.callV 0 (viewL_cons_of view_str viewL_nil_of) ?_
    simp (disch := omega) only [Tryz.ntmps134, Tryz.results134, go_sem]
    refine wc.callV 0 (viewL_cons_of view_str (viewL_cons_of view_str viewL_nil_of)) ?_
    simp (disch := omega) only [Tryz.ntmps134, Tryz.results134, go_sem]
    exact Fin.val rfl
end Go.Sh

/-
  Normal forms: contracts.
-/
namespace Go.Sh
set_option linter.unusedSimpArgs false
set_option linter.unusedVariables false
open Go Go.Proofs

theorem u8c_length (l : List UInt8) : (u8c l).length = l.length := by simp [u8c]
theorem u8c_snoc (l : List UInt8) (c : UInt8) : u8c l ++ [.val (.int .u8 (c.toNat : Int))] = u8c (l ++ [c]) := by simp [u8c]
theorem u8c_at {l : List UInt8} {k : Nat} (h : k < l.length) : (u8c l)[k]? = some (.val (.int .u8 ((l.getD k 0).toNat : Int))) := by simp [u8c, h]
theorem u8c_set (l : List UInt8) (k : Nat) (c : UInt8) : (u8c l).set k (.val (.int .u8 (c.toNat : Int))) = u8c (l.set k c) := by simp [u8c, List.map_set]
theorem u8_add {c : UInt8} (h : isCp c = true) : IntKind.u8.wrap ((c.toNat : Int) + 32) = ((fc c).toNat : Int) := by
  have hc := h
  simp only [isCp, Bool.and_eq_true, decide_eq_true_eq] at h
  rw [wrap8_id (by omega) (by omega), fc, if_pos hc, UInt8.toNat_ofNat']; omega
theorem fc_no {c : UInt8} (h : isCp c = false) : fc c = c := by rw [fc, if_neg (by simp [h])]
theorem cp_f {c : UInt8} (h : isCp c = false) : ¬ 65 ≤ c.toNat ∨ (65 ≤ c.toNat ∧ ¬ c.toNat ≤ 90) := by
  simp only [isCp, Bool.and_eq_false_iff, decide_eq_false_iff_not] at h
  omega
theorem cp_t {c : UInt8} (h : isCp c = true) : 65 ≤ c.toNat ∧ c.toNat ≤ 90 := by
  simpa only [isCp, Bool.and_eq_true, decide_eq_true_eq] using h
set_option maxHeartbeats 4000000 in
theorem Tryz.specFold_ok (s : List UInt8) (hs : s.length ≤ 1048576) : PCall Tryz.prog 158 [str s] (str (s.map fc)) := by
  refine FCall.pcall (R := fun r _ => r = str (s.map fc)) ?_ 0 (by rintro r H rfl; exact view_str)
  refine FCall.of_body Tryz.func158 rfl (by kernel_rfl) (by simp [Tryz.ntmps158]) ?_
  refine SW_of_vc Tryz.mixed _ _ _ (by kernel_rfl) ?_
  simp (disch := omega) only [Tryz.ntmps158, Tryz.results158, go_sem]
  refine LoopW.loop (fun p : Nat × Nat × Nat => ⟨ofL [(0, str s), (3, .own p.2.1 0 p.1 p.1 1 false), (4, .val (.int .i64 p.1))], hx [.blk p.2.1 ⟨u8c ((s.take p.1).map fc), false⟩] p.2.2⟩)
    (fun p => p.1 ≤ s.length ∧ p.2.1 < p.2.2) (fun p => s.length - p.1) (0, 0, 1) ⟨by simp, by simp⟩
    (Wk.ofX (by simp only [go_sem, ↓List.forall_mem_cons, List.not_mem_nil, false_implies, implies_true, and_true, true_and, and_self, ri_eq, Int.natCast_add, Int.cast_ofNat_Int]; try simp) (by simp [EntIn, hp, hmap, u8c]) (by simp [hp])) ?_
  rintro ⟨i, ob, nb⟩ ⟨hi, hob⟩
  simp only at hi hob
  have hPs : (u8c ((s.take i).map fc)).length = i := by rw [u8c_length, List.length_map, List.length_take]; omega
  have hPt : (u8c ((s.take i).map fc)).take i = u8c ((s.take i).map fc) := List.take_of_length_le (by omega)
  refine SW_of_vc Tryz.mixed _ _ _ (by kernel_rfl) ?_
  by_cases hlt : i < s.length
  · have hix := sb_ix hlt
    have hsn : u8c ((s.take i).map fc) ++ [.val (.int .u8 ((fc (s.getD i 0)).toNat : Int))] = u8c ((s.take (i + 1)).map fc) := by rw [u8c_snoc, take_at 0 hlt]; simp
    have hbl := byte_lt s i
    cases hc : isCp (s.getD i 0) with
    | true =>
      have ha := u8_add hc
      have hr := cp_t hc
      simp (disch := omega) only [Tryz.ntmps158, Tryz.results158, go_sem, hix, ha, hPs, hPt, hsn]
      refine ⟨(i + 1, nb + 1, nb + 1 + 1), ⟨hlt, by simp only; omega⟩, by simp only; omega, ?_⟩
      refine Wk.ofX (by simp only [go_sem, ↓List.forall_mem_cons, List.not_mem_nil, false_implies, implies_true, and_true, true_and, and_self, ri_eq, Int.natCast_add, Int.cast_ofNat_Int]; try simp) ?_ (Nat.le_refl _)
      simp only [List.forall_mem_cons]
      refine ⟨?_, by simp⟩
      simp (disch := omega) only [EntIn, hx_map, xmap_blk, if_pos, if_neg, ↓reduceIte]
    | false =>
      rw [fc_no hc] at hsn
      rcases cp_f hc with hr | hr
      · simp (disch := omega) only [Tryz.ntmps158, Tryz.results158, go_sem, hix, hPs, hPt, hsn]
        refine ⟨(i + 1, nb + 1, nb + 1 + 1), ⟨hlt, by simp only; omega⟩, by simp only; omega, ?_⟩
        refine Wk.ofX (by simp only [go_sem, ↓List.forall_mem_cons, List.not_mem_nil, false_implies, implies_true, and_true, true_and, and_self, ri_eq, Int.natCast_add, Int.cast_ofNat_Int]; try simp) ?_ (Nat.le_refl _)
        simp only [List.forall_mem_cons]
        refine ⟨?_, by simp⟩
        simp (disch := omega) only [EntIn, hx_map, xmap_blk, if_pos, if_neg, ↓reduceIte]
      · simp (disch := omega) only [Tryz.ntmps158, Tryz.results158, go_sem, hix, hPs, hPt, hsn]
        refine ⟨(i + 1, nb + 1, nb + 1 + 1), ⟨hlt, by simp only; omega⟩, by simp only; omega, ?_⟩
        refine Wk.ofX (by simp only [go_sem, ↓List.forall_mem_cons, List.not_mem_nil, false_implies, implies_true, and_true, true_and, and_self, ri_eq, Int.natCast_add, Int.cast_ofNat_Int]; try simp) ?_ (Nat.le_refl _)
        simp only [List.forall_mem_cons]
        refine ⟨?_, by simp⟩
        simp (disch := omega) only [EntIn, hx_map, xmap_blk, if_pos, if_neg, ↓reduceIte]
  · obtain rfl : i = s.length := by omega
    rw [List.take_length] at hPs hPt
    simp (disch := omega) only [Tryz.ntmps158, Tryz.results158, go_sem, hPs, hPt, List.take_length]
    exact Fin.val rfl
theorem rg_tt {c : UInt8} {a b : Nat} (h : (decide (a ≤ c.toNat) && decide (c.toNat ≤ b)) = true) : a ≤ c.toNat ∧ c.toNat ≤ b := by simpa using h
theorem rg_ff {c : UInt8} {a b : Nat} (h : (decide (a ≤ c.toNat) && decide (c.toNat ≤ b)) = false) : ¬ a ≤ c.toNat ∨ (a ≤ c.toNat ∧ ¬ c.toNat ≤ b) := by
  simp only [Bool.and_eq_false_iff, decide_eq_false_iff_not] at h; omega
theorem u8arg (c : UInt8) : 0 ≤ (c.toNat : Int) ∧ (c.toNat : Int) ≤ 255 := by have := UInt8.toNat_lt c; omega
set_option maxHeartbeats 4000000 in
theorem Tryz.l2Word_ok (c : UInt8) : PCall Tryz.prog 201 [.val (.int .u8 c.toNat)] (.val (.bool (isWd c))) := by
  refine FCall.pcall (R := fun r _ => r = .val (.bool (isWd c))) ?_ 0 (by rintro r H rfl; exact view_bool)
  refine FCall.of_body Tryz.func201 rfl (by kernel_rfl) (by simp [Tryz.ntmps201]) ?_
  refine SW_of_vc Tryz.mixed _ _ _ (by kernel_rfl) ?_
  rw [isWd]
  have hb := u8arg c
  cases h1 : isSm c with
  | true =>
    have g := rg_tt h1
    simp (disch := omega) only [Tryz.ntmps201, Tryz.results201, go_sem]
    exact Fin.val rfl
  | false =>
    rcases rg_ff h1 with g | g <;> cases h2 : isCp c with
    | true =>
      have g2 := rg_tt h2
      simp (disch := omega) only [Tryz.ntmps201, Tryz.results201, go_sem]
      exact Fin.val rfl
    | false =>
      rcases rg_ff h2 with g2 | g2 <;> cases h3 : isDg c with
      | true =>
        have g3 := rg_tt h3
        simp (disch := omega) only [Tryz.ntmps201, Tryz.results201, go_sem]
        exact Fin.val rfl
      | false =>
        rcases rg_ff h3 with g3 | g3 <;> first | (exfalso; omega) | (simp (disch := omega) only [Tryz.ntmps201, Tryz.results201, go_sem]; exact Fin.val rfl)
set_option maxHeartbeats 4000000 in
theorem Tryz.isSmall_ok (c : UInt8) : PCall Tryz.prog 230 [.val (.int .u8 c.toNat)] (.val (.bool (isSm c))) := by
  refine FCall.pcall (R := fun r _ => r = .val (.bool (isSm c))) ?_ 0 (by rintro r H rfl; exact view_bool)
  refine FCall.of_body Tryz.func230 rfl (by kernel_rfl) (by simp [Tryz.ntmps230]) ?_
  refine SW_of_vc Tryz.mixed _ _ _ (by kernel_rfl) ?_
  have hb := u8arg c
  cases h1 : isSm c with
  | true =>
    have g := rg_tt h1
    simp (disch := omega) only [Tryz.ntmps230, Tryz.results230, go_sem]
    exact Fin.val rfl
  | false => rcases rg_ff h1 with g | g <;> (simp (disch := omega) only [Tryz.ntmps230, Tryz.results230, go_sem]; exact Fin.val rfl)
theorem Tryz.isDigit_ok (c : UInt8) : PCall Tryz.prog 195 [.val (.int .u8 c.toNat)] (.val (.bool (isDg c))) := by
  refine FCall.pcall (R := fun r _ => r = .val (.bool (isDg c))) ?_ 0 (by rintro r H rfl; exact view_bool)
  refine FCall.of_body Tryz.func195 rfl (by kernel_rfl) (by simp [Tryz.ntmps195]) ?_
  refine SW_of_vc Tryz.mixed _ _ _ (by kernel_rfl) ?_
  have hb := u8arg c
  cases h1 : isDg c with
  | true =>
    have g := rg_tt h1
    simp (disch := omega) only [Tryz.ntmps195, Tryz.results195, go_sem]
    exact Fin.val rfl
  | false => rcases rg_ff h1 with g | g <;> (simp (disch := omega) only [Tryz.ntmps195, Tryz.results195, go_sem]; exact Fin.val rfl)
set_option maxHeartbeats 4000000 in
theorem Tryz.isWord_ok (c : UInt8) : PCall Tryz.prog 223 [.val (.int .u8 c.toNat)] (.val (.bool (isWd c))) := by
  refine FCall.pcall (R := fun r _ => r = .val (.bool (isWd c))) ?_ 0 (by rintro r H rfl; exact view_bool)
  have ws := Tryz.isSmall_ok c
  have wd := Tryz.isDigit_ok c
  refine FCall.of_body Tryz.func223 rfl (by kernel_rfl) (by simp [Tryz.ntmps223]) ?_
  refine SW_of_vc Tryz.mixed _ _ _ (by kernel_rfl) ?_
  rw [isWd]
  have hb := u8arg c
  cases h1 : isSm c with
  | true =>
    rw [h1] at ws
    simp (disch := omega) only [Tryz.ntmps223, Tryz.results223, go_sem]
    refine ws.callV 0 (viewL_cons_of (view_int) viewL_nil_of) ?_
    simp (disch := omega) only [Tryz.ntmps223, Tryz.results223, go_sem]
    exact Fin.val rfl
  | false =>
    rw [h1] at ws
    cases h2 : isCp c with
    | true =>
      have g2 := rg_tt h2
      simp (disch := omega) only [Tryz.ntmps223, Tryz.results223, go_sem]
      refine ws.callV 0 (viewL_cons_of (view_int) viewL_nil_of) ?_
      simp (disch := omega) only [Tryz.ntmps223, Tryz.results223, go_sem]
      exact Fin.val rfl
    | false =>
      rcases rg_ff h2 with g2 | g2
      · simp (disch := omega) only [Tryz.ntmps223, Tryz.results223, go_sem]
        refine ws.callV 0 (viewL_cons_of (view_int) viewL_nil_of) ?_
        simp (disch := omega) only [Tryz.ntmps223, Tryz.results223, go_sem]
        refine wd.callV 0 (viewL_cons_of (view_int) viewL_nil_of) ?_
        simp (disch := omega) only [Tryz.ntmps223, Tryz.results223, go_sem]
        exact Fin.val rfl
      · simp (disch := omega) only [Tryz.ntmps223, Tryz.results223, go_sem]
        refine ws.callV 0 (viewL_cons_of (view_int) viewL_nil_of) ?_
        simp (disch := omega) only [Tryz.ntmps223, Tryz.results223, go_sem]
        refine wd.callV 0 (viewL_cons_of (view_int) viewL_nil_of) ?_
        simp (disch := omega) only [Tryz.ntmps223, Tryz.results223, go_sem]
        exact Fin.val rfl
theorem wd_t {c : UInt8} (h : isWd c = true) : fw c = c := by rw [fw, if_pos h]
theorem stp_snoc {l : List UInt8} {k : Nat} (h : k < l.length) : stp (l.take (k + 1)) = stp (l.take k) ++ (if l.getD k 0 = 39 then [] else [fw (l.getD k 0)]) := by
  rw [take_at 0 h, stp, stp, List.filter_append, List.map_append]
  congr 1
  by_cases hc : l.getD k 0 = 39
  · rw [if_pos hc, hc]; rfl
  · rw [if_neg hc, List.filter_cons, if_pos (by simpa using hc)]; rfl
theorem stp_le {l : List UInt8} {k : Nat} : (stp (l.take k)).length ≤ k := by
  have := stp_length (l.take k); rw [List.length_take] at this; omega
theorem u8_ne {c d : UInt8} (h : c ≠ d) : ((c.toNat : Int) == (d.toNat : Int)) = false := by
  rw [beq_eq_false_iff_ne]; intro e; exact h (UInt8.toNat_inj.1 (by omega))
theorem u8_eq {c d : UInt8} (h : c = d) : ((c.toNat : Int) == (d.toNat : Int)) = true := by rw [h]; simp
set_option maxHeartbeats 8000000 in
theorem Tryz.specStrip_ok (s : List UInt8) (hs : s.length ≤ 1048576) : PCall Tryz.prog 157 [str s] (str (stp s)) := by
  refine FCall.pcall (R := fun r _ => r = str (stp s)) ?_ 0 (by rintro r H rfl; exact view_str)
  refine FCall.of_body Tryz.func157 rfl (by kernel_rfl) (by simp [Tryz.ntmps157]) ?_
  refine SW_of_vc Tryz.mixed _ _ _ (by kernel_rfl) ?_
  simp (disch := omega) only [Tryz.ntmps157, Tryz.results157, go_sem]
  refine LoopW.loop (fun p : Nat × Nat × Nat => ⟨ofL [(0, str s), (3, .own p.2.1 0 (stp (s.take p.1)).length (stp (s.take p.1)).length 1 false), (4, .val (.int .i64 p.1))], hx [.blk p.2.1 ⟨u8c (stp (s.take p.1)), false⟩] p.2.2⟩)
    (fun p => p.1 ≤ s.length ∧ p.2.1 < p.2.2) (fun p => s.length - p.1) (0, 0, 1) ⟨by simp, by simp⟩
    (Wk.ofX (by simp only [go_sem, ↓List.forall_mem_cons, List.not_mem_nil, false_implies, implies_true, and_true, true_and, and_self, ri_eq, Int.natCast_add, Int.cast_ofNat_Int, List.take_zero, stp, List.filter_nil, List.map_nil, List.length_nil]; try simp) (by simp [EntIn, hp, hmap, u8c, stp]) (by simp [hp])) ?_
  rintro ⟨i, ob, nb⟩ ⟨hi, hob⟩
  simp only at hi hob
  have hl := stp_le (l := s) (k := i)
  have hPs : (u8c (stp (s.take i))).length = (stp (s.take i)).length := u8c_length _
  have hPt : (u8c (stp (s.take i))).take (stp (s.take i)).length = u8c (stp (s.take i)) := List.take_of_length_le (by omega)
  refine SW_of_vc Tryz.mixed _ _ _ (by kernel_rfl) ?_
  by_cases hlt : i < s.length
  · have hix := sb_ix hlt
    have hst := stp_snoc hlt
    have ww := Tryz.l2Word_ok (s.getD i 0)
    have hb := u8arg (s.getD i 0)
    generalize hc0 : s.getD i 0 = c at *
    generalize hP : stp (s.take i) = P at *
    generalize hP2 : stp (s.take (i + 1)) = P2 at *
    have hsn : ∀ d : UInt8, u8c P ++ [.val (.int .u8 (d.toNat : Int))] = u8c (P ++ [d]) := u8c_snoc P
    have hsl : ∀ d : UInt8, (P ++ [d]).length = P.length + 1 := fun d => by simp
    have h32 : u8c P ++ [.val (.int .u8 32)] = u8c (P ++ [32]) := u8c_snoc P 32
    have fin : ∀ d : UInt8, P2 = P ++ [d] → ∃ y : Nat × Nat × Nat, (y.1 ≤ s.length ∧ y.2.1 < y.2.2) ∧ y.1 = i + 1 ∧ y.2.1 = nb + 1 ∧ y.2.2 = nb + 1 + 1 := fun d _ => ⟨(i + 1, nb + 1, nb + 1 + 1), ⟨hlt, by simp only; omega⟩, rfl, rfl, rfl⟩
    cases hw : isWd c with
    | true =>
      have hn : c ≠ 39 := by rintro rfl; simp [isWd, isSm, isCp, isDg] at hw
      rw [hw] at ww
      rw [if_neg hn, wd_t hw] at hst
      simp (disch := omega) only [Tryz.ntmps157, Tryz.results157, go_sem, hix, hPs, hPt, hsn]
      refine ww.callV 0 (viewL_cons_of (view_int) viewL_nil_of) ?_
      simp (disch := omega) only [Tryz.ntmps157, Tryz.results157, go_sem, hix, hPs, hPt, hsn]
      refine ⟨(i + 1, nb + 1, nb + 1 + 1), ⟨hlt, by simp only; omega⟩, by simp only; omega, ?_⟩
      refine Wk.ofX (by simp only [go_sem, ↓List.forall_mem_cons, List.not_mem_nil, false_implies, implies_true, and_true, true_and, and_self, ri_eq, Int.natCast_add, Int.cast_ofNat_Int, hP2, hst, hsl]; try simp) ?_ (Nat.le_refl _)
      simp only [List.forall_mem_cons]
      refine ⟨?_, by simp⟩
      simp (disch := omega) only [EntIn, hx_map, xmap_blk, if_pos, if_neg, ↓reduceIte, hP2, hst]
    | false =>
      rw [hw] at ww
      have hf : fw c = 32 := by rw [fw, if_neg (by simp [hw])]
      by_cases h2 : c = 32
      · subst h2
        rw [if_neg (by decide), hf] at hst
        have e2 : (((32 : UInt8).toNat : Int) == 32) = true := rfl
        simp (disch := omega) only [Tryz.ntmps157, Tryz.results157, go_sem, hix, hPs, hPt, hsn, e2]
        refine ww.callV 0 (viewL_cons_of (view_int) viewL_nil_of) ?_
        simp (disch := omega) only [Tryz.ntmps157, Tryz.results157, go_sem, hix, hPs, hPt, hsn, e2]
        refine ⟨(i + 1, nb + 1, nb + 1 + 1), ⟨hlt, by simp only; omega⟩, by simp only; omega, ?_⟩
        refine Wk.ofX (by simp only [go_sem, ↓List.forall_mem_cons, List.not_mem_nil, false_implies, implies_true, and_true, true_and, and_self, ri_eq, Int.natCast_add, Int.cast_ofNat_Int, hP2, hst, hsl]; try simp) ?_ (Nat.le_refl _)
        simp only [List.forall_mem_cons]
        refine ⟨?_, by simp⟩
        simp (disch := omega) only [EntIn, hx_map, xmap_blk, if_pos, if_neg, ↓reduceIte, hP2, hst]
      · have e2 : ((c.toNat : Int) == 32) = false := u8_ne h2
        by_cases h3 : c = 39
        · have e3 : ((c.toNat : Int) != 39) = false := by rw [bne, show ((c.toNat : Int) == 39) = true from u8_eq h3]; rfl
          rw [if_pos h3, List.append_nil] at hst
          simp (disch := omega) only [Tryz.ntmps157, Tryz.results157, go_sem, hix, hPs, hPt, hsn, e2, e3]
          refine ww.callV 0 (viewL_cons_of (view_int) viewL_nil_of) ?_
          simp (disch := omega) only [Tryz.ntmps157, Tryz.results157, go_sem, hix, hPs, hPt, hsn, e2, e3]
          refine ⟨(i + 1, ob, nb), ⟨hlt, hob⟩, by simp only; omega, ?_⟩
          refine Wk.ofX (by simp only [go_sem, ↓List.forall_mem_cons, List.not_mem_nil, false_implies, implies_true, and_true, true_and, and_self, ri_eq, Int.natCast_add, Int.cast_ofNat_Int, hP2, hst]; try simp) ?_ (Nat.le_refl _)
          simp only [List.forall_mem_cons]
          refine ⟨?_, by simp⟩
          simp (disch := omega) only [EntIn, hx_map, xmap_blk, if_pos, if_neg, ↓reduceIte, hP2, hst]
        · have e3 : ((c.toNat : Int) != 39) = true := by rw [bne, show ((c.toNat : Int) == 39) = false from u8_ne h3]; rfl
          rw [if_neg h3, hf] at hst
          simp (disch := omega) only [Tryz.ntmps157, Tryz.results157, go_sem, hix, hPs, hPt, h32, e2, e3]
          refine ww.callV 0 (viewL_cons_of (view_int) viewL_nil_of) ?_
          simp (disch := omega) only [Tryz.ntmps157, Tryz.results157, go_sem, hix, hPs, hPt, h32, e2, e3]
          refine ⟨(i + 1, nb + 1, nb + 1 + 1), ⟨hlt, by simp only; omega⟩, by simp only; omega, ?_⟩
          refine Wk.ofX (by simp only [go_sem, ↓List.forall_mem_cons, List.not_mem_nil, false_implies, implies_true, and_true, true_and, and_self, ri_eq, Int.natCast_add, Int.cast_ofNat_Int, hP2, hst, hsl]; try simp) ?_ (Nat.le_refl _)
          simp only [List.forall_mem_cons]
          refine ⟨?_, by simp⟩
          simp (disch := omega) only [EntIn, hx_map, xmap_blk, if_pos, if_neg, ↓reduceIte, hP2, hst]
  · obtain rfl : i = s.length := by omega
    rw [List.take_length] at hPs hPt
    simp (disch := omega) only [Tryz.ntmps157, Tryz.results157, go_sem, hPs, hPt, List.take_length]
    exact Fin.val rfl
end Go.Sh

/-
  Growing slices of any kind that are nil as long as they are empty.
-/
namespace Go.Sh
set_option linter.unusedSimpArgs false
set_option linter.unusedVariables false
open Go Go.Proofs

def nlG (z b n : Nat) : SV := if n = 0 then .val (.slice none 0 0) else .own b 0 n n z false
theorem nlG_f {z b n : Nat} (h : n ≠ 0) : nlG z b n = .own b 0 n n z false := if_neg h
theorem nlG_t {z b n : Nat} (h : n = 0) : nlG z b n = .val (.slice none 0 0) := if_pos h
theorem nlG_0 {z b : Nat} : nlG z b 0 = .val (.slice none 0 0) := if_pos rfl
end Go.Sh

/-
  Normal forms: spaces, the program's way, both normal forms.
-/
namespace Go.Sh
set_option linter.unusedSimpArgs false
set_option linter.unusedVariables false
open Go Go.Proofs

theorem csp_sp (p : List UInt8 × Bool) : csp p 32 = (p.1, true) := by rw [csp, if_pos rfl]
theorem csp_two {p : List UInt8 × Bool} {c : UInt8} (h : c ≠ 32) (h1 : p.1 ≠ []) (h2 : p.2 = true) : (csp p c).1 = p.1 ++ [32] ++ [c] := by rw [csp, if_neg h, if_pos ⟨h1, h2⟩]; simp
theorem csp_one {p : List UInt8 × Bool} {c : UInt8} (h : c ≠ 32) (h1 : ¬ (p.1 ≠ [] ∧ p.2 = true)) : (csp p c).1 = p.1 ++ [c] := by rw [csp, if_neg h, if_neg h1]
set_option maxHeartbeats 8000000 in
theorem Tryz.specClp_ok (s : List UInt8) (hs : s.length ≤ 1048576) : PCall Tryz.prog 156 [str s] (str (clp s)) := by
  refine FCall.pcall (R := fun r _ => r = str (clp s)) ?_ 0 (by rintro r H rfl; exact view_str)
  refine FCall.of_body Tryz.func156 rfl (by kernel_rfl) (by simp [Tryz.ntmps156]) ?_
  refine SW_of_vc Tryz.mixed _ _ _ (by kernel_rfl) ?_
  simp (disch := omega) only [Tryz.ntmps156, Tryz.results156, go_sem]
  refine LoopW.loop (fun p : Nat × Nat × Heap => ⟨ofL [(0, str s), (3, .own p.2.1 0 (clp2 (s.take p.1)).1.length (clp2 (s.take p.1)).1.length 1 false), (4, .val (.int .i64 p.1))], p.2.2⟩)
    (fun p => p.1 ≤ s.length ∧ p.2.1 < p.2.2.nb ∧ p.2.2.map p.2.1 = some ⟨u8c (clp2 (s.take p.1)).1, false⟩) (fun p => s.length - p.1) (0, 0, (hp [] 0).push ⟨[], false⟩) ⟨by simp, by show 0 < ((hp [] 0).push _).nb; rw [hpush_nb]; show 0 < 0 + 1; omega, by show ((hp [] 0).push _).map 0 = _; rw [hpush_map]; rfl⟩
    (Wk.of (by simp only [go_sem, ↓List.forall_mem_cons, List.not_mem_nil, false_implies, implies_true, and_true, true_and, and_self, ri_eq, Int.natCast_add, Int.cast_ofNat_Int, List.take_zero, clp2, List.foldl_nil, List.length_nil]; try simp) rfl) ?_
  rintro ⟨i, ob, H⟩ ⟨hi, hob, hm⟩
  simp only at hi hob hm
  obtain ⟨g1, g2, g3⟩ := clp2_inv (l := s) i hi
  refine SW_of_vc Tryz.mixed _ _ _ (by kernel_rfl) ?_
  by_cases hlt : i < s.length
  · have hix := sb_ix hlt
    have hst := clp2_at hlt
    have hb := u8arg (s.getD i 0)
    have hsp : ∀ m, i = m + 1 → (clp2 (s.take i)).2 = (s.getD m 0 == 32) := fun m e => by subst e; exact clp2_sp (by omega)
    generalize hp0 : clp2 (s.take i) = p at *
    generalize hc0 : s.getD i 0 = c at *
    have hPs : (u8c p.1).length = p.1.length := u8c_length _
    have hPt : (u8c p.1).take p.1.length = u8c p.1 := List.take_of_length_le (by omega)
    have hsn := u8c_snoc p.1 c
    by_cases h32 : c = 32
    · have e1 : ((c.toNat : Int) != 32) = false := by rw [bne, show ((c.toNat : Int) == 32) = true from u8_eq h32]; rfl
      rw [h32, csp_sp] at hst
      simp (disch := omega) only [Tryz.ntmps156, Tryz.results156, go_sem, hix, e1]
      refine ⟨(i + 1, ob, H), ⟨hlt, hob, by simp only; rw [hst]; exact hm⟩, by simp only; omega, Wk.of (by simp only [go_sem, ↓List.forall_mem_cons, List.not_mem_nil, false_implies, implies_true, and_true, true_and, and_self, ri_eq, Int.natCast_add, Int.cast_ofNat_Int, hst]; try simp) rfl⟩
    · have e1 : ((c.toNat : Int) != 32) = true := by rw [bne, show ((c.toNat : Int) == 32) = false from u8_ne h32]; rfl
      by_cases h0 : p.1 = []
      · have hst1 := csp_one (p := p) h32 (by simp [h0])
        rw [← hst] at hst1
        have hl1 : (clp2 (s.take (i + 1))).1.length = p.1.length + 1 := by rw [hst1]; simp
        have hz : p.1.length = 0 := by rw [h0]; rfl
        simp (disch := omega) only [Tryz.ntmps156, Tryz.results156, go_sem, hix, e1, hm, hPs, hPt, hsn, hset_map, hset_nb, hpush_map, hpush_nb]
        refine ⟨(i + 1, H.nb + 1, _), ⟨hlt, ?_, ?_⟩, by simp only; omega, Wk.of (by simp only [go_sem, ↓List.forall_mem_cons, List.not_mem_nil, false_implies, implies_true, and_true, true_and, and_self, ri_eq, Int.natCast_add, Int.cast_ofNat_Int, hl1]; try simp) rfl⟩
        · simp only [hset_nb, hpush_nb]; omega
        · simp only [hst1]
          simp (disch := omega) only [hset_map, hpush_map, hset_nb, hpush_nb, if_pos, if_neg, ↓reduceIte]
      · have hz : 0 < p.1.length := List.length_pos_iff.2 h0
        obtain ⟨m, hm1⟩ : ∃ m, i = m + 1 := ⟨i - 1, by split at g3 <;> omega⟩
        have hsp := hsp m hm1
        have hix2 := sb_ix (s := s) (i := m) (by omega)
        have hcast : (i : Int) - 1 = (m : Int) := by omega
        cases h2 : p.2 with
        | true =>
          have hs32 : s.getD m 0 = 32 := by rw [h2] at hsp; exact beq_iff_eq.1 hsp.symm
          have e2 : (((s.getD m 0).toNat : Int) == 32) = true := u8_eq hs32
          have hst1 := csp_two (p := p) h32 h0 h2
          rw [← hst] at hst1
          have hl1 : (clp2 (s.take (i + 1))).1.length = p.1.length + 1 + 1 := by rw [hst1]; simp
          have h32s : u8c p.1 ++ [.val (.int .u8 32)] = u8c (p.1 ++ [32]) := u8c_snoc p.1 32
          have hPs2 : (u8c (p.1 ++ [32])).length = p.1.length + 1 := by simp [u8c_length]
          have hPt2 : (u8c (p.1 ++ [32])).take (p.1.length + 1) = u8c (p.1 ++ [32]) := List.take_of_length_le (by omega)
          have hsn2 := u8c_snoc (p.1 ++ [32]) c
          simp (disch := omega) only [Tryz.ntmps156, Tryz.results156, go_sem, hix, e1, hcast, hix2, e2, hm, hPs, hPt, h32s, hPs2, hPt2, hsn2, hset_map, hset_nb, hpush_map, hpush_nb]
          refine ⟨(i + 1, H.nb + 1 + 1 + 1, _), ⟨hlt, ?_, ?_⟩, by simp only; omega, Wk.of (by simp only [go_sem, ↓List.forall_mem_cons, List.not_mem_nil, false_implies, implies_true, and_true, true_and, and_self, ri_eq, Int.natCast_add, Int.cast_ofNat_Int, hl1]; try simp) rfl⟩
          · simp only [hset_nb, hpush_nb]; omega
          · simp only [hst1]
            simp (disch := omega) only [hset_map, hpush_map, hset_nb, hpush_nb, if_pos, if_neg, ↓reduceIte]
        | false =>
          have hs32 : s.getD m 0 ≠ 32 := by rw [h2] at hsp; exact beq_eq_false_iff_ne.1 hsp.symm
          have e2 : (((s.getD m 0).toNat : Int) == 32) = false := u8_ne hs32
          have hst1 := csp_one (p := p) h32 (by simp [h2])
          rw [← hst] at hst1
          have hl1 : (clp2 (s.take (i + 1))).1.length = p.1.length + 1 := by rw [hst1]; simp
          simp (disch := omega) only [Tryz.ntmps156, Tryz.results156, go_sem, hix, e1, hcast, hix2, e2, hm, hPs, hPt, hsn, hset_map, hset_nb, hpush_map, hpush_nb]
          refine ⟨(i + 1, H.nb + 1, _), ⟨hlt, ?_, ?_⟩, by simp only; omega, Wk.of (by simp only [go_sem, ↓List.forall_mem_cons, List.not_mem_nil, false_implies, implies_true, and_true, true_and, and_self, ri_eq, Int.natCast_add, Int.cast_ofNat_Int, hl1]; try simp) rfl⟩
          · simp only [hset_nb, hpush_nb]; omega
          · simp only [hst1]
            simp (disch := omega) only [hset_map, hpush_map, hset_nb, hpush_nb, if_pos, if_neg, ↓reduceIte]
  · obtain rfl : i = s.length := by omega
    rw [List.take_length] at hm
    have hPs := u8c_length (clp2 s).1
    have hPt : (u8c (clp2 s).1).take (clp2 s).1.length = u8c (clp2 s).1 := List.take_of_length_le (by omega)
    simp (disch := omega) only [Tryz.ntmps156, Tryz.results156, go_sem, List.take_length, hm, hPs, hPt]
    exact Fin.val rfl
/-! ### The program's way: each byte replaced -/
def mpd (g : UInt8 → UInt8) (s : List UInt8) (i : Nat) : List UInt8 := (s.take i).map g ++ s.drop i
theorem mpd_length (g : UInt8 → UInt8) (s : List UInt8) (i : Nat) : (mpd g s i).length = s.length := by simp [mpd]; omega
theorem mpd_at {g : UInt8 → UInt8} {s : List UInt8} {i : Nat} (h : i < s.length) : (mpd g s i).getD i 0 = s.getD i 0 := by
  simp [mpd, List.getD, List.getElem?_append, (by omega : min i s.length = i)]
theorem mpd_set {g : UInt8 → UInt8} {s : List UInt8} {i : Nat} (h : i < s.length) : (mpd g s i).set i (g (s.getD i 0)) = mpd g s (i + 1) := by
  have hl : ((s.take i).map g).length = i := by rw [List.length_map, List.length_take]; omega
  rw [mpd, List.drop_eq_getElem_cons h, List.set_append_right _ _ (by omega), hl, Nat.sub_self, List.set_cons_zero, mpd, take_at 0 h, List.map_append, List.append_assoc]
  rfl
theorem mpd_0 (g : UInt8 → UInt8) (s : List UInt8) : mpd g s 0 = s := by simp [mpd]
theorem mpd_n (g : UInt8 → UInt8) (s : List UInt8) : mpd g s s.length = s.map g := by simp [mpd]
set_option maxHeartbeats 4000000 in
theorem Tryz.mapped_ok (f : FuncId) (g : UInt8 → UInt8) (s : List UInt8) (hs : s.length ≤ 1048576) (hf : ∀ c : UInt8, PCall Tryz.prog f [.val (.int .u8 c.toNat)] (.val (.int .u8 (g c).toNat))) : PCall Tryz.prog 220 [str s, .clos (.func f) [] []] (str (s.map g)) := by
  refine FCall.pcall (R := fun r _ => r = str (s.map g)) ?_ 0 (by rintro r H rfl; exact view_str)
  refine FCall.of_body Tryz.func220 rfl (by kernel_rfl) (by simp [Tryz.ntmps220]) ?_
  refine SW_of_vc Tryz.mixed _ _ _ (by kernel_rfl) ?_
  simp (disch := omega) only [Tryz.ntmps220, Tryz.results220, go_sem]
  refine LoopW.loop (fun p : Nat × Heap => ⟨ofL [(1, .clos (.func f) [] []), (5, .own 0 0 s.length s.length 1 false), (10, .own 0 0 s.length s.length 1 false), (11, .val (.int .i64 s.length)), (12, .val (.int .i64 p.1))], p.2⟩)
    (fun p => p.1 ≤ s.length ∧ p.2.map 0 = some ⟨u8c (mpd g s p.1), false⟩) (fun p => s.length - p.1) (0, (hp [] 0).push ⟨u8c s, false⟩) ⟨by simp, by show ((hp [] 0).push _).map 0 = _; rw [hpush_map, mpd_0]; rfl⟩
    (Wk.of (by simp only [go_sem, ↓List.forall_mem_cons, List.not_mem_nil, false_implies, implies_true, and_true, true_and, and_self, ri_eq, Int.natCast_add, Int.cast_ofNat_Int]; try simp) rfl) ?_
  rintro ⟨i, H⟩ ⟨hi, hm⟩
  simp only at hi hm
  have hl : (u8c (mpd g s i)).length = s.length := by rw [u8c_length, mpd_length]
  refine SW_of_vc Tryz.mixed _ _ _ (by kernel_rfl) ?_
  by_cases hlt : i < s.length
  · have hat : (u8c (mpd g s i))[i]? = some (.val (.int .u8 ((s.getD i 0).toNat : Int))) := by rw [u8c_at (by rw [mpd_length]; exact hlt), mpd_at hlt]
    have hst : (u8c (mpd g s i)).set i (.val (.int .u8 ((g (s.getD i 0)).toNat : Int))) = u8c (mpd g s (i + 1)) := by rw [u8c_set, mpd_set hlt]
    have hb := u8arg (s.getD i 0)
    simp (disch := omega) only [Tryz.ntmps220, Tryz.results220, go_sem, hm, hl, hat]
    refine (hf _).callV 0 (viewL_cons_of (view_int) viewL_nil_of) ?_
    simp (disch := omega) only [Tryz.ntmps220, Tryz.results220, go_sem, hm, hl, hat, hst]
    refine ⟨(i + 1, _), ⟨hlt, ?_⟩, by simp only; omega, Wk.of (by simp only [go_sem, ↓List.forall_mem_cons, List.not_mem_nil, false_implies, implies_true, and_true, true_and, and_self, ri_eq, Int.natCast_add, Int.cast_ofNat_Int]; try simp) rfl⟩
    simp only [hset_map, ↓reduceIte]
  · obtain rfl : i = s.length := by omega
    have hPt : (u8c (mpd g s s.length)).take s.length = u8c (mpd g s s.length) := List.take_of_length_le (by omega)
    simp (disch := omega) only [Tryz.ntmps220, Tryz.results220, go_sem, hm, hl, hPt]
    exact Fin.val (by rw [mpd_n])
set_option maxHeartbeats 2000000 in
theorem Tryz.fold1_ok (c : UInt8) : PCall Tryz.prog 224 [.val (.int .u8 c.toNat)] (.val (.int .u8 (fc c).toNat)) := by
  refine FCall.pcall (R := fun r _ => r = .val (.int .u8 (fc c).toNat)) ?_ 0 (by rintro r H rfl; exact view_int)
  refine FCall.of_body Tryz.func224 rfl (by kernel_rfl) (by simp [Tryz.ntmps224]) ?_
  refine SW_of_vc Tryz.mixed _ _ _ (by kernel_rfl) ?_
  have hb := u8arg c
  cases hc : isCp c with
  | true =>
    have ha := u8_add hc
    have hr := cp_t hc
    simp (disch := omega) only [Tryz.ntmps224, Tryz.results224, go_sem, ha]
    exact Fin.val rfl
  | false =>
    rw [fc_no hc]
    rcases cp_f hc with hr | hr <;> (simp (disch := omega) only [Tryz.ntmps224, Tryz.results224, go_sem]; exact Fin.val rfl)
theorem Tryz.implFold_ok (s : List UInt8) (hs : s.length ≤ 1048576) : PCall Tryz.prog 184 [str s] (str (s.map fc)) := by
  refine FCall.pcall (R := fun r _ => r = str (s.map fc)) ?_ 0 (by rintro r H rfl; exact view_str)
  have w := Tryz.mapped_ok 224 fc s hs Tryz.fold1_ok
  refine FCall.of_body Tryz.func184 rfl (by kernel_rfl) (by simp [Tryz.ntmps184]) ?_
  refine SW_of_vc Tryz.mixed _ _ _ (by kernel_rfl) ?_
  simp (disch := omega) only [Tryz.ntmps184, Tryz.results184, go_sem]
  refine w.callV 1 (viewL_cons_of view_str (viewL_cons_of (view_clos viewL_nil_of) viewL_nil_of)) ?_
  simp (disch := omega) only [Tryz.ntmps184, Tryz.results184, go_sem]
  exact Fin.val rfl
theorem Tryz.strip1_ok (c : UInt8) : PCall Tryz.prog 222 [.val (.int .u8 c.toNat)] (.val (.int .u8 (fw c).toNat)) := by
  refine FCall.pcall (R := fun r _ => r = .val (.int .u8 (fw c).toNat)) ?_ 0 (by rintro r H rfl; exact view_int)
  have w := Tryz.isWord_ok c
  refine FCall.of_body Tryz.func222 rfl (by kernel_rfl) (by simp [Tryz.ntmps222]) ?_
  refine SW_of_vc Tryz.mixed _ _ _ (by kernel_rfl) ?_
  cases hw : isWd c with
  | true =>
    rw [hw] at w
    rw [wd_t hw]
    simp (disch := omega) only [Tryz.ntmps222, Tryz.results222, go_sem]
    refine w.callV 0 (viewL_cons_of (view_int) viewL_nil_of) ?_
    simp (disch := omega) only [Tryz.ntmps222, Tryz.results222, go_sem]
    exact Fin.val rfl
  | false =>
    rw [hw] at w
    rw [fw, if_neg (by simp [hw])]
    simp (disch := omega) only [Tryz.ntmps222, Tryz.results222, go_sem]
    refine w.callV 0 (viewL_cons_of (view_int) viewL_nil_of) ?_
    simp (disch := omega) only [Tryz.ntmps222, Tryz.results222, go_sem]
    exact Fin.val rfl
theorem Tryz.implStrip_ok (s : List UInt8) (hs : s.length ≤ 1048576) : PCall Tryz.prog 183 [str s] (str (stp s)) := by
  refine FCall.pcall (R := fun r _ => r = str (stp s)) ?_ 0 (by rintro r H rfl; exact view_str)
  have w1 := Tryz.replaceAll_ok s 39 hs
  rw [replAll1] at w1
  have hl : (s.filter fun x => x != 39).length ≤ s.length := List.length_filter_le _ _
  have w2 := Tryz.mapped_ok 222 fw (s.filter fun x => x != 39) (by omega) Tryz.strip1_ok
  refine FCall.of_body Tryz.func183 rfl (by kernel_rfl) (by simp [Tryz.ntmps183]) ?_
  refine SW_of_vc Tryz.mixed _ _ _ (by kernel_rfl) ?_
  rw [stp]
  generalize (s.filter fun x => x != 39) = t at *
  simp (disch := omega) only [Tryz.ntmps183, Tryz.results183, go_sem]
  refine w1.callV 0 (viewL_cons_of view_str (viewL_cons_of view_str (viewL_cons_of view_str viewL_nil_of))) ?_
  simp (disch := omega) only [Tryz.ntmps183, Tryz.results183, go_sem]
  refine w2.callV 1 (viewL_cons_of view_str (viewL_cons_of (view_clos viewL_nil_of) viewL_nil_of)) ?_
  simp (disch := omega) only [Tryz.ntmps183, Tryz.results183, go_sem]
  exact Fin.val rfl
theorem getLast_at {l : List UInt8} {m : Nat} (h : l.length = m + 1) : l.getLast? = some (l.getD m 0) := by
  rw [List.getLast?_eq_getElem?, h]; simp [List.getD, (by omega : m < l.length)]
set_option maxHeartbeats 8000000 in
theorem Tryz.implClp_ok (s : List UInt8) (hs : s.length ≤ 1048576) : PCall Tryz.prog 182 [str s] (str (clp s)) := by
  refine FCall.pcall (R := fun r _ => r = str (clp s)) ?_ 0 (by rintro r H rfl; exact view_str)
  refine FCall.of_body Tryz.func182 rfl (by kernel_rfl) (by simp [Tryz.ntmps182]) ?_
  refine SW_of_vc Tryz.mixed _ _ _ (by kernel_rfl) ?_
  simp (disch := omega) only [Tryz.ntmps182, Tryz.results182, go_sem]
  refine LoopW.loop (fun p : Nat × Nat × Heap => ⟨ofL [(0, str s), (3, nlG 1 p.2.1 (clo (clp2 (s.take p.1))).length), (6, .val (.int .i64 s.length)), (7, .val (.int .i64 p.1))], p.2.2⟩)
    (fun p => p.1 ≤ s.length ∧ ((clo (clp2 (s.take p.1))).length ≠ 0 → p.2.1 < p.2.2.nb ∧ p.2.2.map p.2.1 = some ⟨u8c (clo (clp2 (s.take p.1))), false⟩)) (fun p => s.length - p.1) (0, 0, hp [] 0) ⟨by simp, fun h => absurd rfl h⟩
    (Wk.of (by simp only [go_sem, ↓List.forall_mem_cons, List.not_mem_nil, false_implies, implies_true, and_true, true_and, and_self, ri_eq, Int.natCast_add, Int.cast_ofNat_Int, List.take_zero, clp2, List.foldl_nil, clo, List.length_nil, nlG_0]; try simp) rfl) ?_
  rintro ⟨i, ob, H⟩ ⟨hi, hml⟩
  simp only at hi hml
  obtain ⟨g1, g2, g3⟩ := clp2_inv (l := s) i hi
  have hle : (clo (clp2 (s.take i))).length ≤ i := by
    rw [clo]; split at g3 <;> split <;> simp_all <;> omega
  refine SW_of_vc Tryz.mixed _ _ _ (by kernel_rfl) ?_
  by_cases hlt : i < s.length
  · have hix := sb_ix hlt
    have hst := clo_csp (c := s.getD i 0) g1
    rw [← clp2_at hlt] at hst
    have hb := u8arg (s.getD i 0)
    generalize hq0 : clo (clp2 (s.take (i + 1))) = o2 at *
    generalize clo (clp2 (s.take i)) = o at *
    generalize s.getD i 0 = c at *
    have hPs : (u8c o).length = o.length := u8c_length _
    have hPt : (u8c o).take o.length = u8c o := List.take_of_length_le (by omega)
    have hsn := u8c_snoc o c
    have hone : [SV.val (.int .u8 (c.toNat : Int))] = u8c [c] := rfl
    by_cases h0 : o.length = 0
    · have e0 := nlG_t (z := 1) (b := ob) h0
      have ho : o = [] := List.length_eq_zero_iff.1 h0
      by_cases h32 : c = 32
      · have e1 : ((c.toNat : Int) != 32) = false := by rw [bne, show ((c.toNat : Int) == 32) = true from u8_eq h32]; rfl
        rw [if_neg (by simp [h32, ho])] at hst
        have hl2 : o2.length = 0 := by rw [← hst, h0]
        have e2 := nlG_t (z := 1) (b := ob) hl2
        simp (disch := omega) only [Tryz.ntmps182, Tryz.results182, go_sem, hix, e0, e1]
        exact ⟨(i + 1, ob, H), ⟨hlt, by simp only [hq0]; intro h; exact absurd hl2 h⟩, by simp only; omega, Wk.of (by simp only [go_sem, ↓List.forall_mem_cons, List.not_mem_nil, false_implies, implies_true, and_true, true_and, and_self, ri_eq, Int.natCast_add, Int.cast_ofNat_Int, hq0, e2]; try simp) rfl⟩
      · have e1 : ((c.toNat : Int) != 32) = true := by rw [bne, show ((c.toNat : Int) == 32) = false from u8_ne h32]; rfl
        rw [if_pos (.inl h32)] at hst
        have hl2 : o2.length = 1 := by rw [← hst, ho]; rfl
        have e2 := nlG_f (z := 1) (b := H.nb + 1) (n := o2.length) (by omega)
        rw [hl2] at e2
        have h2 : o2 = [c] := by rw [← hst, ho]; rfl
        simp (disch := omega) only [Tryz.ntmps182, Tryz.results182, go_sem, hix, e0, e1, hset_map, hset_nb, hpush_map, hpush_nb]
        refine ⟨(i + 1, H.nb + 1, _), ⟨hlt, fun _ => ⟨?_, ?_⟩⟩, by simp only; omega, Wk.of (by simp only [go_sem, ↓List.forall_mem_cons, List.not_mem_nil, false_implies, implies_true, and_true, true_and, and_self, ri_eq, Int.natCast_add, Int.cast_ofNat_Int, hq0, hl2, e2]; try simp) rfl⟩
        · simp only [hset_nb, hpush_nb]; omega
        · simp only [hq0, h2]
          simp (disch := omega) only [hset_map, hpush_map, hset_nb, hpush_nb, if_pos, if_neg, ↓reduceIte]
          rfl
    · have e0 := nlG_f (z := 1) (b := ob) h0
      obtain ⟨m1, m2⟩ := hml h0
      obtain ⟨m, hm⟩ : ∃ m, o.length = m + 1 := ⟨o.length - 1, by omega⟩
      have hgl := getLast_at hm
      have hcast : (o.length : Int) - 1 = (m : Int) := by omega
      have hat : (u8c o)[m]? = some (.val (.int .u8 ((o.getD m 0).toNat : Int))) := u8c_at (by omega)
      have h0' : o ≠ [] := fun e => h0 (by rw [e]; rfl)
      by_cases h32 : c = 32
      · have e1 : ((c.toNat : Int) != 32) = false := by rw [bne, show ((c.toNat : Int) == 32) = true from u8_eq h32]; rfl
        by_cases hla : o.getD m 0 = 32
        · have e3 : (((o.getD m 0).toNat : Int) != 32) = false := by rw [bne, show (((o.getD m 0).toNat : Int) == 32) = true from u8_eq hla]; rfl
          rw [if_neg (by rintro (h | ⟨_, h⟩); exact h h32; exact h (by rw [hgl, hla]))] at hst
          subst hst
          simp (disch := omega) only [Tryz.ntmps182, Tryz.results182, go_sem, hix, e0, e1, hcast, m2, hPs, hat, e3]
          exact ⟨(i + 1, ob, H), ⟨hlt, by simp only [hq0]; exact hml⟩, by simp only; omega, Wk.of (by simp only [go_sem, ↓List.forall_mem_cons, List.not_mem_nil, false_implies, implies_true, and_true, true_and, and_self, ri_eq, Int.natCast_add, Int.cast_ofNat_Int, hq0, e0]; try simp) rfl⟩
        · have e3 : (((o.getD m 0).toNat : Int) != 32) = true := by rw [bne, show (((o.getD m 0).toNat : Int) == 32) = false from u8_ne hla]; rfl
          rw [if_pos (.inr ⟨h0', fun h => hla (by rw [hgl] at h; exact Option.some.inj h)⟩)] at hst
          have hl2 : o2.length = o.length + 1 := by rw [← hst]; simp
          have e2 := nlG_f (z := 1) (b := H.nb + 1) (n := o2.length) (by omega)
          rw [hl2] at e2
          simp (disch := omega) only [Tryz.ntmps182, Tryz.results182, go_sem, hix, e0, e1, hcast, m2, hPs, hPt, hat, e3, hsn, hset_map, hset_nb, hpush_map, hpush_nb]
          refine ⟨(i + 1, H.nb + 1, _), ⟨hlt, fun _ => ⟨?_, ?_⟩⟩, by simp only; omega, Wk.of (by simp only [go_sem, ↓List.forall_mem_cons, List.not_mem_nil, false_implies, implies_true, and_true, true_and, and_self, ri_eq, Int.natCast_add, Int.cast_ofNat_Int, hq0, hl2, e2]; try simp) rfl⟩
          · simp only [hset_nb, hpush_nb]; omega
          · simp only [hq0, ← hst]
            simp (disch := omega) only [hset_map, hpush_map, hset_nb, hpush_nb, if_pos, if_neg, ↓reduceIte]
      · have e1 : ((c.toNat : Int) != 32) = true := by rw [bne, show ((c.toNat : Int) == 32) = false from u8_ne h32]; rfl
        rw [if_pos (.inl h32)] at hst
        have hl2 : o2.length = o.length + 1 := by rw [← hst]; simp
        have e2 := nlG_f (z := 1) (b := H.nb + 1) (n := o2.length) (by omega)
        rw [hl2] at e2
        simp (disch := omega) only [Tryz.ntmps182, Tryz.results182, go_sem, hix, e0, e1, m2, hPs, hPt, hsn, hset_map, hset_nb, hpush_map, hpush_nb]
        refine ⟨(i + 1, H.nb + 1, _), ⟨hlt, fun _ => ⟨?_, ?_⟩⟩, by simp only; omega, Wk.of (by simp only [go_sem, ↓List.forall_mem_cons, List.not_mem_nil, false_implies, implies_true, and_true, true_and, and_self, ri_eq, Int.natCast_add, Int.cast_ofNat_Int, hq0, hl2, e2]; try simp) rfl⟩
        · simp only [hset_nb, hpush_nb]; omega
        · simp only [hq0, ← hst]
          simp (disch := omega) only [hset_map, hpush_map, hset_nb, hpush_nb, if_pos, if_neg, ↓reduceIte]
  · obtain rfl : i = s.length := by omega
    rw [List.take_length] at hml g1
    have htr := clo_trim g1
    have wt := Tryz.trimSuffix_ok (clo (clp2 s)) [32] (by rw [List.take_length] at hle; omega)
    rw [htr] at wt
    generalize hoo : clo (clp2 s) = o at *
    have hcl : clp s = (clp2 s).1 := rfl
    rw [← hcl] at wt
    have hPs : (u8c o).length = o.length := u8c_length _
    have hPt : (u8c o).take o.length = u8c o := List.take_of_length_le (by omega)
    by_cases h0 : o.length = 0
    · have e0 := nlG_t (z := 1) (b := ob) h0
      have ho : o = [] := List.length_eq_zero_iff.1 h0
      rw [ho] at wt
      simp (disch := omega) only [Tryz.ntmps182, Tryz.results182, go_sem, List.take_length, hoo, e0]
      refine wt.callV 0 (viewL_cons_of view_str (viewL_cons_of view_str viewL_nil_of)) ?_
      simp (disch := omega) only [Tryz.ntmps182, Tryz.results182, go_sem]
      exact Fin.val rfl
    · have e0 := nlG_f (z := 1) (b := ob) h0
      obtain ⟨m1, m2⟩ := hml h0
      simp (disch := omega) only [Tryz.ntmps182, Tryz.results182, go_sem, List.take_length, hoo, e0, m2, hPs, hPt]
      refine wt.callV 0 (viewL_cons_of view_str (viewL_cons_of view_str viewL_nil_of)) ?_
      simp (disch := omega) only [Tryz.ntmps182, Tryz.results182, go_sem]
      exact Fin.val rfl
theorem Tryz.specNrm_ok (s : List UInt8) (hs : s.length ≤ 1048576) : PCall Tryz.prog 114 [str s] (str (nrm s)) := by
  refine FCall.pcall (R := fun r _ => r = str (nrm s)) ?_ 0 (by rintro r H rfl; exact view_str)
  have w1 := Tryz.specFold_ok s hs
  have h1 := stp_length (s.map fc)
  rw [List.length_map] at h1
  have w2 := Tryz.specStrip_ok (s.map fc) (by rw [List.length_map]; exact hs)
  have w3 := Tryz.specClp_ok (stp (s.map fc)) (by omega)
  refine FCall.of_body Tryz.func114 rfl (by kernel_rfl) (by simp [Tryz.ntmps114]) ?_
  refine SW_of_vc Tryz.mixed _ _ _ (by kernel_rfl) ?_
  simp (disch := omega) only [Tryz.ntmps114, Tryz.results114, go_sem]
  refine w1.callV 0 (viewL_cons_of view_str viewL_nil_of) ?_
  simp (disch := omega) only [Tryz.ntmps114, Tryz.results114, go_sem]
  refine w2.callV 0 (viewL_cons_of view_str viewL_nil_of) ?_
  simp (disch := omega) only [Tryz.ntmps114, Tryz.results114, go_sem]
  refine w3.callV 0 (viewL_cons_of view_str viewL_nil_of) ?_
  simp (disch := omega) only [Tryz.ntmps114, Tryz.results114, go_sem]
  exact Fin.val rfl
theorem Tryz.implNrm_ok (s : List UInt8) (hs : s.length ≤ 1048576) : PCall Tryz.prog 139 [str s] (str (nrm s)) := by
  refine FCall.pcall (R := fun r _ => r = str (nrm s)) ?_ 0 (by rintro r H rfl; exact view_str)
  have w1 := Tryz.implFold_ok s hs
  have h1 := stp_length (s.map fc)
  rw [List.length_map] at h1
  have w2 := Tryz.implStrip_ok (s.map fc) (by rw [List.length_map]; exact hs)
  have w3 := Tryz.implClp_ok (stp (s.map fc)) (by omega)
  refine FCall.of_body Tryz.func139 rfl (by kernel_rfl) (by simp [Tryz.ntmps139]) ?_
  refine SW_of_vc Tryz.mixed _ _ _ (by kernel_rfl) ?_
  simp (disch := omega) only [Tryz.ntmps139, Tryz.results139, go_sem]
  refine w1.callV 0 (viewL_cons_of view_str viewL_nil_of) ?_
  simp (disch := omega) only [Tryz.ntmps139, Tryz.results139, go_sem]
  refine w2.callV 0 (viewL_cons_of view_str viewL_nil_of) ?_
  simp (disch := omega) only [Tryz.ntmps139, Tryz.results139, go_sem]
  refine w3.callV 0 (viewL_cons_of view_str viewL_nil_of) ?_
  simp (disch := omega) only [Tryz.ntmps139, Tryz.results139, go_sem]
  exact Fin.val rfl
end Go.Sh

/-
  Plain law of sets of words: put into place one by one, or sorted and each kept once.
-/
namespace Go.Sh
set_option linter.unusedSimpArgs false
set_option linter.unusedVariables false
open Go Go.Proofs

abbrev Wd := List UInt8
def tput : List Wd → Wd → List Wd
  | [], s => [s]
  | x :: L, s => if x < s then x :: tput L s else if x = s then x :: L else s :: x :: L
def sset (L : List Wd) : List Wd := L.foldl tput []
abbrev Asc (L : List Wd) : Prop := L.Pairwise (· < ·)
theorem wlt_tri {x s : Wd} (h1 : ¬ x < s) (h2 : x ≠ s) : s < x := by
  rcases Classical.em (s < x) with h | h
  · exact h
  · exact absurd (List.le_antisymm (List.not_lt.1 h) (List.not_lt.1 h1)) h2
theorem wlt_ne {x y : Wd} (h : x < y) : x ≠ y := fun e => by subst e; exact List.lt_irrefl x h
theorem wlt_not {x y : Wd} (h : x < y) : ¬ y < x := fun e => List.lt_irrefl x (List.lt_trans h e)
theorem tput_mem {s y : Wd} : ∀ {L : List Wd}, y ∈ tput L s ↔ y ∈ L ∨ y = s
  | [] => by simp [tput]
  | x :: L => by
    unfold tput
    split
    · rw [List.mem_cons, tput_mem, List.mem_cons, or_assoc]
    · split
      · rename_i h; subst h
        constructor
        · exact .inl
        · rintro (h | rfl)
          · exact h
          · simp
      · simp only [List.mem_cons]
        constructor
        · rintro (h | h | h)
          · exact .inr h
          · exact .inl (.inl h)
          · exact .inl (.inr h)
        · rintro ((h | h) | h)
          · exact .inr (.inl h)
          · exact .inr (.inr h)
          · exact .inl h
theorem tput_asc {s : Wd} : ∀ {L : List Wd}, Asc L → Asc (tput L s)
  | [], _ => by simp [tput, Asc]
  | x :: L, h => by
    obtain ⟨h1, h2⟩ := List.pairwise_cons.1 h
    unfold tput
    split
    · rename_i hx
      refine List.pairwise_cons.2 ⟨fun y hy => ?_, tput_asc h2⟩
      rcases tput_mem.1 hy with hy | rfl
      · exact h1 y hy
      · exact hx
    · split
      · exact h
      · rename_i hx hn
        have hs := wlt_tri hx hn
        refine List.pairwise_cons.2 ⟨fun y hy => ?_, h⟩
        rcases List.mem_cons.1 hy with rfl | hy
        · exact hs
        · exact List.lt_trans hs (h1 y hy)
theorem tput_len {s : Wd} : ∀ {L : List Wd}, Asc L → (tput L s).length = L.length + (if s ∈ L then 0 else 1)
  | [], _ => by simp [tput]
  | x :: L, h => by
    obtain ⟨h1, h2⟩ := List.pairwise_cons.1 h
    unfold tput
    split
    · rename_i hx
      have e : (s ∈ x :: L) ↔ s ∈ L := by
        rw [List.mem_cons]
        exact ⟨fun h => h.resolve_left fun e => wlt_ne hx e.symm, .inr⟩
      simp only [List.length_cons, tput_len h2, e]
      omega
    · split
      · rename_i hx; subst hx; simp
      · rename_i hx hn
        have hs := wlt_tri hx hn
        rw [if_neg]
        · simp
        · intro hm
          rcases List.mem_cons.1 hm with rfl | hm
          · exact hn rfl
          · exact wlt_not (h1 s hm) hs
theorem foldput_mem {y : Wd} : ∀ {B A : List Wd}, y ∈ B.foldl tput A ↔ y ∈ A ∨ y ∈ B
  | [], A => by simp
  | b :: B, A => by rw [List.foldl_cons, foldput_mem, tput_mem, List.mem_cons, or_assoc]
theorem foldput_asc : ∀ {B A : List Wd}, Asc A → Asc (B.foldl tput A)
  | [], _, h => h
  | b :: B, A, h => by rw [List.foldl_cons]; exact foldput_asc (tput_asc h)
theorem foldput_len : ∀ {B A : List Wd}, Asc A → Asc B → (B.foldl tput A).length = A.length + (B.filter fun x => !A.contains x).length
  | [], _, _, _ => by simp
  | b :: B, A, hA, hB => by
    obtain ⟨h1, h2⟩ := List.pairwise_cons.1 hB
    rw [List.foldl_cons, foldput_len (tput_asc hA) h2, tput_len hA]
    have e : (B.filter fun x => !(tput A b).contains x) = B.filter fun x => !A.contains x := by
      refine List.filter_congr fun x hx => ?_
      have hne : x ≠ b := fun e => by subst e; exact wlt_ne (h1 x hx) rfl
      congr 1
      rw [Bool.eq_iff_iff, List.contains_iff_mem, List.contains_iff_mem, tput_mem]
      exact ⟨fun h => h.resolve_right hne, .inl⟩
    rw [e, List.filter_cons]
    by_cases hb : b ∈ A
    · rw [if_pos hb, if_neg (by simp [hb]), Nat.add_zero]
    · rw [if_neg hb, if_pos (by simp [hb])]; simp only [List.length_cons]; omega
theorem sset_mem {L : List Wd} {y : Wd} : y ∈ sset L ↔ y ∈ L := by rw [sset, foldput_mem]; simp
theorem sset_asc (L : List Wd) : Asc (sset L) := foldput_asc List.Pairwise.nil
theorem asc_eq : ∀ {A B : List Wd}, Asc A → Asc B → (∀ y, y ∈ A ↔ y ∈ B) → A = B
  | [], [], _, _, _ => rfl
  | [], b :: B, _, _, h => absurd ((h b).2 (by simp)) (by simp)
  | a :: A, [], _, _, h => absurd ((h a).1 (by simp)) (by simp)
  | a :: A, b :: B, hA, hB, h => by
    obtain ⟨a1, a2⟩ := List.pairwise_cons.1 hA
    obtain ⟨b1, b2⟩ := List.pairwise_cons.1 hB
    have e : a = b := by
      rcases List.mem_cons.1 ((h a).1 (by simp)) with e | ha
      · exact e
      · rcases List.mem_cons.1 ((h b).2 (by simp)) with e | hb
        · exact e.symm
        · exact absurd (a1 b hb) (wlt_not (b1 a ha))
    subst e
    rw [asc_eq a2 b2 fun y => ?_]
    constructor
    · intro hy
      exact (List.mem_cons.1 ((h y).1 (List.mem_cons_of_mem _ hy))).resolve_left fun e => by subst e; exact wlt_ne (a1 y hy) rfl
    · intro hy
      exact (List.mem_cons.1 ((h y).2 (List.mem_cons_of_mem _ hy))).resolve_left fun e => by subst e; exact wlt_ne (b1 y hy) rfl
theorem sset_self {L : List Wd} (h : Asc L) : sset L = L := asc_eq (sset_asc L) h fun _ => sset_mem
/-! ### Common elements -/
def com (A B : List Wd) : Nat := (A.filter fun x => B.contains x).length
theorem com_symm {A B : List Wd} (hA : Asc A) (hB : Asc B) : com A B = com B A := by
  have : (A.filter fun x => B.contains x) = B.filter fun x => A.contains x := asc_eq (hA.filter _) (hB.filter _) fun y => by
    simp only [List.mem_filter, List.contains_iff_mem]; exact and_comm
  rw [com, this]; rfl
theorem com_le (A B : List Wd) : com A B ≤ A.length := List.length_filter_le _ _
theorem common_len {A B : List Wd} (hA : Asc A) : (sset (A.filter fun x => B.contains x)).length = com A B := by rw [sset_self (hA.filter _)]; rfl
theorem unite_len {A B : List Wd} (hA : Asc A) (hB : Asc B) : (B.foldl tput (A.foldl tput [])).length + com A B = A.length + B.length := by
  have e : A.foldl tput [] = A := sset_self hA
  rw [e, foldput_len hA hB, com_symm hA hB, com]
  have : ∀ (l : List Wd), (l.filter fun x => !A.contains x).length + (l.filter fun x => A.contains x).length = l.length := fun l => by
    induction l with
    | nil => rfl
    | cons x l ih =>
      simp only [List.filter_cons, List.length_cons]
      cases A.contains x
      · simp only [Bool.not_false, ↓reduceIte, List.length_cons, Bool.false_eq_true]; omega
      · simp only [Bool.not_true, ↓reduceIte, List.length_cons, Bool.false_eq_true]; omega
  have := this B
  omega
theorem com_lt {a b : Wd} {A B : List Wd} (hB : Asc (b :: B)) (h : a < b) : com (a :: A) (b :: B) = com A (b :: B) := by
  rw [com, List.filter_cons, if_neg]
  · rfl
  · simp only [List.contains_iff_mem]
    intro hm
    rcases List.mem_cons.1 hm with rfl | hm
    · exact wlt_ne h rfl
    · exact wlt_not h ((List.pairwise_cons.1 hB).1 a hm)
theorem com_gt {a b : Wd} {A B : List Wd} (hA : Asc (a :: A)) (h : b < a) : com (a :: A) (b :: B) = com (a :: A) B := by
  rw [com, com]
  congr 1
  refine List.filter_congr fun x hx => ?_
  have hne : x ≠ b := by
    rcases List.mem_cons.1 hx with rfl | hx
    · exact fun e => wlt_ne h e.symm
    · exact fun e => by subst e; exact wlt_not h ((List.pairwise_cons.1 hA).1 x hx)
  rw [Bool.eq_iff_iff, List.contains_iff_mem, List.contains_iff_mem, List.mem_cons]
  exact ⟨fun h => h.resolve_left hne, .inr⟩
theorem com_eq {a : Wd} {A B : List Wd} (hA : Asc (a :: A)) : com (a :: A) (a :: B) = com A B + 1 := by
  rw [com, List.filter_cons, if_pos (by simp), List.length_cons, com]
  congr 2
  refine List.filter_congr fun x hx => ?_
  have hne : x ≠ a := fun e => by subst e; exact wlt_ne ((List.pairwise_cons.1 hA).1 x hx) rfl
  rw [Bool.eq_iff_iff, List.contains_iff_mem, List.contains_iff_mem, List.mem_cons]
  exact ⟨fun h => h.resolve_left hne, .inr⟩
/-! ### Sorted, each kept once -/
def msort (L : List Wd) : List Wd := L.mergeSort fun x y => decide (x ≤ y)
theorem msort_pw (L : List Wd) : (msort L).Pairwise (· ≤ ·) := by
  have := List.pairwise_mergeSort (le := fun x y : Wd => decide (x ≤ y)) (fun a b c h1 h2 => by simp only [decide_eq_true_eq] at *; exact List.le_trans h1 h2) (fun a b => by
    rcases List.le_total a b with h | h
    · simp [h]
    · simp [h]) L
  exact this.imp (by simp)
theorem msort_mem {L : List Wd} {y : Wd} : y ∈ msort L ↔ y ∈ L := List.mem_mergeSort
theorem msort_length (L : List Wd) : (msort L).length = L.length := List.length_mergeSort _
theorem msort_self {L : List Wd} (h : Asc L) : msort L = L := by
  refine List.mergeSort_of_pairwise (h.imp fun h => ?_)
  simp only [decide_eq_true_eq]; exact List.not_lt.1 (wlt_not h)
theorem compact_sset (L : List Wd) : Lib.compactUpTo (msort L).toArray L.length = sset L := by
  have hS := msort_pw L
  have hl := msort_length L
  generalize hs : msort L = S at *
  have hg : ∀ i, i < S.length → S.toArray[i]! = S.getD i [] := fun i hi => by simp [hi]
  have hle : ∀ i j, i ≤ j → j < S.length → S.getD i [] ≤ S.getD j [] := fun i j hij hj => by
    rcases Nat.lt_or_ge i j with h | h
    · have := List.pairwise_iff_getElem.1 hS i j (by omega) hj h
      simpa [List.getD, hj, (by omega : i < S.length)] using this
    · rw [show i = j by omega]; exact List.le_refl _
  refine asc_eq ?_ (sset_asc L) fun y => ?_
  · unfold Lib.compactUpTo
    rw [Asc, List.pairwise_map]
    refine List.Pairwise.imp_of_mem ?_ (List.Pairwise.filter _ List.pairwise_lt_range)
    intro i j hi hj hij
    simp only [List.mem_filter, List.mem_range] at hi hj
    have hjl : j < S.length := by omega
    rw [hg i (by omega), hg j hjl]
    have hk := hj.2
    simp only [Lib.keeps, decide_eq_true_eq] at hk
    have hne : S.getD (j - 1) [] ≠ S.getD j [] := by
      rcases hk with hk | hk
      · omega
      · rw [hg j hjl, hg (j - 1) (by omega)] at hk; exact fun e => hk e.symm
    have h1 := hle i (j - 1) (by omega) (by omega)
    have h2 := hle (j - 1) j (by omega) hjl
    have h3 : S.getD (j - 1) [] < S.getD j [] := by
      rcases Classical.em (S.getD (j - 1) [] < S.getD j []) with h | h
      · exact h
      · exact absurd (List.le_antisymm h2 (List.not_lt.1 h)) hne
    exact List.lt_of_le_of_lt h1 h3
  · rw [sset_mem, ← msort_mem (L := L), hs]
    unfold Lib.compactUpTo
    simp only [List.mem_map, List.mem_filter, List.mem_range]
    constructor
    · rintro ⟨i, ⟨hi, _⟩, rfl⟩
      rw [hg i (by omega)]
      simp [List.getD, (by omega : i < S.length)]
    · intro hy
      have key : ∀ n i, i ≤ n → i < S.length → ∃ k, (k < L.length ∧ Lib.keeps S.toArray k = true) ∧ S.toArray[k]! = S.getD i [] := by
        intro n
        induction n with
        | zero =>
          intro i hi hil
          obtain rfl : i = 0 := by omega
          exact ⟨0, ⟨by omega, by simp [Lib.keeps]⟩, hg 0 hil⟩
        | succ n ih =>
          intro i hi hil
          cases hk : Lib.keeps S.toArray i with
          | true => exact ⟨i, ⟨by omega, hk⟩, hg i hil⟩
          | false =>
            simp only [Lib.keeps, decide_eq_false_iff_not, not_or, Decidable.not_not] at hk
            obtain ⟨k, h1, h2⟩ := ih (i - 1) (by omega) (by omega)
            refine ⟨k, h1, h2.trans ?_⟩
            have := hk.2
            rw [hg i hil, hg (i - 1) (by omega)] at this
            exact this.symm
      obtain ⟨i, hi, rfl⟩ := List.getElem_of_mem hy
      obtain ⟨k, h1, h2⟩ := key i i (Nat.le_refl _) hi
      exact ⟨k, h1, by rw [h2]; simp [List.getD, hi]⟩
end Go.Sh

/-
  Records: contracts of validity.
-/
namespace Go.Sh
set_option linter.unusedSimpArgs false
set_option linter.unusedVariables false
open Go Go.Proofs

abbrev Rec := Int × Int × Int × List Wd
def rec4 (r : Rec) : List SV := [.val (.int .i64 r.1), .val (.int .i64 r.2.1), .val (.int .i64 r.2.2.1), .row r.2.2.2.length false (strs r.2.2.2)]
def recs (R : List Rec) : List SV := R.flatMap rec4
def rREC (R : List Rec) : SV := .row R.length false (recs R)
def dr : Rec := (0, 0, 0, [])
def gR (R : List Rec) (k : Nat) : Rec := R.getD k dr
theorem recs_length (R : List Rec) : (recs R).length = R.length * 4 := by
  induction R with
  | nil => rfl
  | cons r R ih =>
    have e : recs (r :: R) = rec4 r ++ recs R := rfl
    rw [e, List.length_append, ih, List.length_cons]; simp [rec4]; omega
theorem recs_drop : ∀ (R : List Rec) (k : Nat), (recs R).drop (k * 4) = recs (R.drop k)
  | R, 0 => by simp
  | [], k + 1 => by simp [recs]
  | r :: R, k + 1 => by
    have e : recs (r :: R) = rec4 r ++ recs R := rfl
    rw [e, show (k + 1) * 4 = 4 + k * 4 by omega, ← List.drop_drop]
    show (recs R).drop (k * 4) = recs (R.drop k)
    exact recs_drop R k
theorem recs_load {R : List Rec} {k : Nat} (h : k < R.length) : ((recs R).drop (k * 4)).take 4 = rec4 (gR R k) := by
  rw [recs_drop, List.drop_eq_getElem_cons h]
  show (rec4 _ ++ recs _).take 4 = _
  simp [rec4, gR, h]
theorem rec_ex (R : List Rec) (k : Nat) : ∃ a b c F, gR R k = (a, b, c, F) := ⟨_, _, _, _, rfl⟩
theorem view_rec {H : Heap} {f n : Nat} {ex : Bool} {a b c : Int} {cs : List SV} : view H (f + 1) (.agg [.val (.int .i64 a), .val (.int .i64 b), .val (.int .i64 c), .row n ex cs]) = some (.agg [.val (.int .i64 a), .val (.int .i64 b), .val (.int .i64 c), .row n false cs]) :=
  view_agg (viewL_cons_of view_int (viewL_cons_of view_int (viewL_cons_of view_int (viewL_cons_of view_row viewL_nil_of))))
abbrev sRec (a b c : Int) (F : List Wd) : SV := .agg [.val (.int .i64 a), .val (.int .i64 b), .val (.int .i64 c), .row F.length false (strs F)]
/-- A valid record. -/
def vRec (r : Rec) : Bool := r.2.2.2.all isFd && (inR r.1 0 3 && (inR r.2.1 1 99 && (inR r.2.2.1 1 999 && decide (r.2.2.2.length = 4))))
def LF (F : List Wd) : Prop := F.length ≤ 1048576 ∧ ∀ k, k < F.length → (F.getD k []).length ≤ 1048576
set_option maxHeartbeats 8000000 in
theorem Tryz.specVRec_ok (a b c : Int) (F : List Wd) (hF : LF F) : PCall Tryz.prog 65 [sRec a b c F] (.val (.bool (vRec (a, b, c, F)))) := by
  refine FCall.pcall (R := fun r _ => r = .val (.bool (vRec (a, b, c, F)))) ?_ 0 (by rintro r H rfl; exact view_bool)
  have w1 := Tryz.l1In_ok a 0 3
  have w2 := Tryz.l1In_ok b 1 99
  have w3 := Tryz.l1In_ok c 1 999
  have hl := hF.1
  refine FCall.of_body Tryz.func65 rfl (by kernel_rfl) (by simp [Tryz.ntmps65]) ?_
  refine SW_of_vc Tryz.mixed _ _ _ (by kernel_rfl) ?_
  simp (disch := omega) only [Tryz.ntmps65, Tryz.results65, go_sem]
  refine LoopW.loop (fun i : Nat => ⟨ofL [(1, .optr 0 0), (2, .val (.bool false)), (3, .val (.int .i64 i))], hp [(0, ⟨[.val (.int .i64 a), .val (.int .i64 b), .val (.int .i64 c), .row F.length false (strs F)], true⟩)] 1⟩) (fun i => i ≤ F.length ∧ ∀ k, k < i → isFd (F.getD k []) = true) (fun i => F.length - i) 0 ⟨by omega, fun k h => by omega⟩ (Wk.ofH (by simp only [go_sem, ↓List.forall_mem_cons, List.not_mem_nil, false_implies, implies_true, and_true, true_and, and_self, ri_eq, Int.natCast_add, Int.cast_ofNat_Int]; try simp) (by simp (disch := omega) only [go_sem, ↓List.forall_mem_cons, List.not_mem_nil, false_implies, implies_true, and_true, true_and, and_self, ri_eq, Int.natCast_add, Int.cast_ofNat_Int, if_pos, if_neg, Nat.reduceAdd, List.nil_append]; try simp) (Nat.le_refl _)) ?_
  rintro i ⟨hi, hb⟩
  refine SW_of_vc Tryz.mixed _ _ _ (by kernel_rfl) ?_
  by_cases hlt : i < F.length
  · have hat := strs_get hlt
    have wf := Tryz.specFd_ok (F.getD i []) (hF.2 i hlt)
    cases hx : isFd (F.getD i []) with
    | false =>
      rw [hx] at wf
      have hv : vRec (a, b, c, F) = false := by rw [vRec, all_not [] hlt hx, Bool.false_and]
      rw [hv]
      simp (disch := omega) only [Tryz.ntmps65, Tryz.results65, go_sem, hat]
      refine wf.callV 0 (viewL_cons_of view_str viewL_nil_of) ?_
      simp (disch := omega) only [Tryz.ntmps65, Tryz.results65, go_sem, hat]
      exact Fin.val rfl
    | true =>
      rw [hx] at wf
      simp (disch := omega) only [Tryz.ntmps65, Tryz.results65, go_sem, hat]
      refine wf.callV 0 (viewL_cons_of view_str viewL_nil_of) ?_
      simp (disch := omega) only [Tryz.ntmps65, Tryz.results65, go_sem, hat]
      refine ⟨i + 1, ⟨hlt, fun k hk => ?_⟩, by omega, Wk.ofH (by simp only [go_sem, ↓List.forall_mem_cons, List.not_mem_nil, false_implies, implies_true, and_true, true_and, and_self, ri_eq, Int.natCast_add, Int.cast_ofNat_Int]; try simp) (by simp (disch := omega) only [go_sem, ↓List.forall_mem_cons, List.not_mem_nil, false_implies, implies_true, and_true, true_and, and_self, ri_eq, Int.natCast_add, Int.cast_ofNat_Int, if_pos, if_neg, Nat.reduceAdd, List.nil_append]; try simp) (Nat.le_refl _)⟩
      rcases Nat.lt_succ_iff_lt_or_eq.1 hk with g | g
      · exact hb k g
      · rw [g]; exact hx
  · obtain rfl : i = F.length := by omega
    have hv : vRec (a, b, c, F) = (inR a 0 3 && (inR b 1 99 && (inR c 1 999 && decide (F.length = 4)))) := by rw [vRec, (all_getD []).2 hb, Bool.true_and]
    have he : decide (F.length = 4) = ((F.length : Int) == 4) := by rw [Bool.eq_iff_iff]; simp; omega
    rw [hv, he]
    cases h1 : inR a 0 3 with
    | false =>
      rw [h1] at w1
      simp (disch := omega) only [Tryz.ntmps65, Tryz.results65, go_sem]
      refine w1.callV 0 (viewL_cons_of (view_int) (viewL_cons_of (view_int) (viewL_cons_of (view_int) viewL_nil_of))) ?_
      simp (disch := omega) only [Tryz.ntmps65, Tryz.results65, go_sem]
      exact Fin.val rfl
    | true =>
      rw [h1] at w1
      cases h2 : inR b 1 99 with
      | false =>
        rw [h2] at w2
        simp (disch := omega) only [Tryz.ntmps65, Tryz.results65, go_sem]
        refine w1.callV 0 (viewL_cons_of (view_int) (viewL_cons_of (view_int) (viewL_cons_of (view_int) viewL_nil_of))) ?_
        simp (disch := omega) only [Tryz.ntmps65, Tryz.results65, go_sem]
        refine w2.callV 0 (viewL_cons_of (view_int) (viewL_cons_of (view_int) (viewL_cons_of (view_int) viewL_nil_of))) ?_
        simp (disch := omega) only [Tryz.ntmps65, Tryz.results65, go_sem]
        exact Fin.val rfl
      | true =>
        rw [h2] at w2
        cases h3 : inR c 1 999 with
        | false =>
          rw [h3] at w3
          simp (disch := omega) only [Tryz.ntmps65, Tryz.results65, go_sem]
          refine w1.callV 0 (viewL_cons_of (view_int) (viewL_cons_of (view_int) (viewL_cons_of (view_int) viewL_nil_of))) ?_
          simp (disch := omega) only [Tryz.ntmps65, Tryz.results65, go_sem]
          refine w2.callV 0 (viewL_cons_of (view_int) (viewL_cons_of (view_int) (viewL_cons_of (view_int) viewL_nil_of))) ?_
          simp (disch := omega) only [Tryz.ntmps65, Tryz.results65, go_sem]
          refine w3.callV 0 (viewL_cons_of (view_int) (viewL_cons_of (view_int) (viewL_cons_of (view_int) viewL_nil_of))) ?_
          simp (disch := omega) only [Tryz.ntmps65, Tryz.results65, go_sem]
          exact Fin.val rfl
        | true =>
          rw [h3] at w3
          simp (disch := omega) only [Tryz.ntmps65, Tryz.results65, go_sem]
          refine w1.callV 0 (viewL_cons_of (view_int) (viewL_cons_of (view_int) (viewL_cons_of (view_int) viewL_nil_of))) ?_
          simp (disch := omega) only [Tryz.ntmps65, Tryz.results65, go_sem]
          refine w2.callV 0 (viewL_cons_of (view_int) (viewL_cons_of (view_int) (viewL_cons_of (view_int) viewL_nil_of))) ?_
          simp (disch := omega) only [Tryz.ntmps65, Tryz.results65, go_sem]
          refine w3.callV 0 (viewL_cons_of (view_int) (viewL_cons_of (view_int) (viewL_cons_of (view_int) viewL_nil_of))) ?_
          simp (disch := omega) only [Tryz.ntmps65, Tryz.results65, go_sem]
          exact Fin.val rfl
set_option maxHeartbeats 1000000 in
theorem Tryz.indexFuncS_ok (f : FuncId) (cap : List SV) (L : List Wd) (pr : Wd → Bool) (hL : L.length ≤ 1048576) (hcap : ∀ H fu, viewL H fu cap = some cap)
    (hf : ∀ k, k < L.length → PCall Tryz.prog f (str (L.getD k []) :: cap) (.val (.bool (pr (L.getD k []))))) :
    PCall Tryz.prog 175 [rst L, .clos (.func f) [] cap] (.val (.int .i64 (fx pr L))) := by
  refine FCall.pcall (R := fun r _ => r = .val (.int .i64 (fx pr L))) ?_ 0 (by rintro r H rfl; exact view_int)
  refine FCall.of_body Tryz.func175 rfl (by kernel_rfl) (by simp [Tryz.ntmps175]) ?_
  refine SW_of_vc Tryz.mixed _ _ _ (by kernel_rfl) ?_
  have lC := strs_length L
  simp (disch := omega) only [Tryz.ntmps175, Tryz.results175, go_sem, rst]
  refine LoopW.loop (fun k : Nat => ⟨ofL [(0, rst L), (1, .clos (.func f) [] cap), (7, .val (.int .i64 L.length)), (8, .val (.int .i64 k))], hp [] 0⟩) (fun k => k ≤ L.length ∧ ∀ i, i < k → pr (L.getD i []) = false) (fun k => L.length - k) 0 ⟨by omega, by simp⟩ (Wk.of (by simp only [go_sem, ↓List.forall_mem_cons, List.not_mem_nil, false_implies, implies_true, and_true, true_and, and_self, ri_eq, Int.natCast_add, Int.cast_ofNat_Int, rst]; try simp) rfl) ?_
  rintro k ⟨hk, hkk⟩
  refine SW_of_vc Tryz.mixed _ _ _ (by kernel_rfl) ?_
  by_cases hlt : k < L.length
  · have gk := strs_get hlt
    simp (disch := omega) only [Tryz.ntmps175, Tryz.results175, go_sem, rst, gk, lC]
    refine (hf k hlt).callV 1 (viewL_cons_of view_str (hcap _ _)) ?_
    cases he : pr (L.getD k []) with
    | true =>
      simp (disch := omega) only [Tryz.ntmps175, Tryz.results175, go_sem, rst]
      exact Fin.val (by rw [fx_some [] hlt hkk he])
    | false =>
      simp (disch := omega) only [Tryz.ntmps175, Tryz.results175, go_sem, rst]
      refine ⟨k + 1, ⟨by omega, fun i hi => ?_⟩, by omega, Wk.of (by simp only [go_sem, ↓List.forall_mem_cons, List.not_mem_nil, false_implies, implies_true, and_true, true_and, and_self, ri_eq, Int.natCast_add, Int.cast_ofNat_Int, rst]; try simp) rfl⟩
      rcases Nat.lt_succ_iff_lt_or_eq.mp hi with h | rfl
      · exact hkk i h
      · exact he
  · simp (disch := omega) only [Tryz.ntmps175, Tryz.results175, go_sem, rst]
    exact Fin.val (by rw [fx_none [] (fun i hi => hkk i (by omega))])
theorem Tryz.containsFuncS_ok (f : FuncId) (cap : List SV) (L : List Wd) (pr : Wd → Bool) (hL : L.length ≤ 1048576) (hcap : ∀ H fu, viewL H fu cap = some cap)
    (hf : ∀ k, k < L.length → PCall Tryz.prog f (str (L.getD k []) :: cap) (.val (.bool (pr (L.getD k []))))) :
    PCall Tryz.prog 132 [rst L, .clos (.func f) [] cap] (.val (.bool (L.any pr))) := by
  refine FCall.pcall (R := fun r _ => r = .val (.bool (L.any pr))) ?_ 0 (by rintro r H rfl; exact view_bool)
  refine FCall.of_body Tryz.func132 rfl (by kernel_rfl) (by simp [Tryz.ntmps132]) ?_
  have w := Tryz.indexFuncS_ok f cap L pr hL hcap hf
  have hg := fx_ge pr L
  generalize fx pr L = q at *
  refine SW_of_vc Tryz.mixed _ _ _ (by kernel_rfl) ?_
  cases h : L.any pr with
  | true =>
    have := hg.mpr h
    simp (disch := omega) only [Tryz.ntmps132, Tryz.results132, go_sem, rst]
    refine w.callV 1 (viewL_cons_of view_row (viewL_cons_of (view_clos (hcap _ _)) viewL_nil_of)) ?_
    simp (disch := omega) only [Tryz.ntmps132, Tryz.results132, go_sem]
    exact Fin.val rfl
  | false =>
    have : ¬ 0 ≤ q := fun e => by rw [hg.mp e] at h; cases h
    simp (disch := omega) only [Tryz.ntmps132, Tryz.results132, go_sem, rst]
    refine w.callV 1 (viewL_cons_of view_row (viewL_cons_of (view_clos (hcap _ _)) viewL_nil_of)) ?_
    simp (disch := omega) only [Tryz.ntmps132, Tryz.results132, go_sem]
    exact Fin.val rfl
theorem Tryz.vRec1_ok (t : Wd) (ht : t.length ≤ 1048576) : PCall Tryz.prog 133 [str t] (.val (.bool (!isFd t))) := by
  refine FCall.pcall (R := fun r _ => r = .val (.bool (!isFd t))) ?_ 0 (by rintro r H rfl; exact view_bool)
  refine FCall.of_body Tryz.func133 rfl (by kernel_rfl) (by simp [Tryz.ntmps133]) ?_
  have w := Tryz.implFd_ok t ht
  refine SW_of_vc Tryz.mixed _ _ _ (by kernel_rfl) ?_
  simp (disch := omega) only [Tryz.ntmps133, Tryz.results133, go_sem]
  refine w.callV 0 (viewL_cons_of view_str viewL_nil_of) ?_
  simp (disch := omega) only [Tryz.ntmps133, Tryz.results133, go_sem]
  exact Fin.val rfl
set_option maxHeartbeats 4000000 in
theorem Tryz.implVRec_ok (a b c : Int) (F : List Wd) (hF : LF F) : PCall Tryz.prog 88 [sRec a b c F] (.val (.bool (vRec (a, b, c, F)))) := by
  refine FCall.pcall (R := fun r _ => r = .val (.bool (vRec (a, b, c, F)))) ?_ 0 (by rintro r H rfl; exact view_bool)
  have w1 := Tryz.within_ok a 0 3
  have w2 := Tryz.within_ok b 1 99
  have w3 := Tryz.within_ok c 1 999
  have wF := Tryz.containsFuncS_ok 133 [] F (fun t => !isFd t) hF.1 (fun _ _ => viewL_nil_of) (fun k hk => Tryz.vRec1_ok _ (hF.2 k hk))
  have hn := any_not (L := F) (p := isFd)
  have hl := hF.1
  refine FCall.of_body Tryz.func88 rfl (by kernel_rfl) (by simp [Tryz.ntmps88]) ?_
  refine SW_of_vc Tryz.mixed _ _ _ (by kernel_rfl) ?_
  rw [vRec]
  simp only
  cases h1 : inR a 0 3 with
  | false =>
    rw [h1] at w1
    simp (disch := omega) only [Tryz.ntmps88, Tryz.results88, go_sem]
    refine w1.callV 0 (viewL_cons_of (view_int) (viewL_cons_of (view_int) (viewL_cons_of (view_int) viewL_nil_of))) ?_
    simp (disch := omega) only [Tryz.ntmps88, Tryz.results88, go_sem]
    exact Fin.val rfl
  | true =>
    rw [h1] at w1
    cases h2 : inR b 1 99 with
    | false =>
      rw [h2] at w2
      simp (disch := omega) only [Tryz.ntmps88, Tryz.results88, go_sem]
      refine w1.callV 0 (viewL_cons_of (view_int) (viewL_cons_of (view_int) (viewL_cons_of (view_int) viewL_nil_of))) ?_
      simp (disch := omega) only [Tryz.ntmps88, Tryz.results88, go_sem]
      refine w2.callV 0 (viewL_cons_of (view_int) (viewL_cons_of (view_int) (viewL_cons_of (view_int) viewL_nil_of))) ?_
      simp (disch := omega) only [Tryz.ntmps88, Tryz.results88, go_sem]
      exact Fin.val rfl
    | true =>
      rw [h2] at w2
      cases h3 : inR c 1 999 with
      | false =>
        rw [h3] at w3
        simp (disch := omega) only [Tryz.ntmps88, Tryz.results88, go_sem]
        refine w1.callV 0 (viewL_cons_of (view_int) (viewL_cons_of (view_int) (viewL_cons_of (view_int) viewL_nil_of))) ?_
        simp (disch := omega) only [Tryz.ntmps88, Tryz.results88, go_sem]
        refine w2.callV 0 (viewL_cons_of (view_int) (viewL_cons_of (view_int) (viewL_cons_of (view_int) viewL_nil_of))) ?_
        simp (disch := omega) only [Tryz.ntmps88, Tryz.results88, go_sem]
        refine w3.callV 0 (viewL_cons_of (view_int) (viewL_cons_of (view_int) (viewL_cons_of (view_int) viewL_nil_of))) ?_
        simp (disch := omega) only [Tryz.ntmps88, Tryz.results88, go_sem]
        exact Fin.val rfl
      | true =>
        rw [h3] at w3
        by_cases h4 : F.length = 4
        · have e4 : ((F.length : Int) == 4) = true := by rw [h4]; rfl
          simp (disch := omega) only [Tryz.ntmps88, Tryz.results88, go_sem, e4]
          refine w1.callV 0 (viewL_cons_of (view_int) (viewL_cons_of (view_int) (viewL_cons_of (view_int) viewL_nil_of))) ?_
          simp (disch := omega) only [Tryz.ntmps88, Tryz.results88, go_sem, e4]
          refine w2.callV 0 (viewL_cons_of (view_int) (viewL_cons_of (view_int) (viewL_cons_of (view_int) viewL_nil_of))) ?_
          simp (disch := omega) only [Tryz.ntmps88, Tryz.results88, go_sem, e4]
          refine w3.callV 0 (viewL_cons_of (view_int) (viewL_cons_of (view_int) (viewL_cons_of (view_int) viewL_nil_of))) ?_
          simp (disch := omega) only [Tryz.ntmps88, Tryz.results88, go_sem, e4]
          refine wF.callV 1 (viewL_cons_of view_row (viewL_cons_of (view_clos viewL_nil_of) viewL_nil_of)) ?_
          simp (disch := omega) only [Tryz.ntmps88, Tryz.results88, go_sem]
          exact Fin.val (by rw [hn])
        · have e4 : ((F.length : Int) == 4) = false := by rw [beq_eq_false_iff_ne]; omega
          simp (disch := omega) only [Tryz.ntmps88, Tryz.results88, go_sem, e4]
          refine w1.callV 0 (viewL_cons_of (view_int) (viewL_cons_of (view_int) (viewL_cons_of (view_int) viewL_nil_of))) ?_
          simp (disch := omega) only [Tryz.ntmps88, Tryz.results88, go_sem, e4]
          refine w2.callV 0 (viewL_cons_of (view_int) (viewL_cons_of (view_int) (viewL_cons_of (view_int) viewL_nil_of))) ?_
          simp (disch := omega) only [Tryz.ntmps88, Tryz.results88, go_sem, e4]
          refine w3.callV 0 (viewL_cons_of (view_int) (viewL_cons_of (view_int) (viewL_cons_of (view_int) viewL_nil_of))) ?_
          simp (disch := omega) only [Tryz.ntmps88, Tryz.results88, go_sem, e4]
          exact Fin.val (by first | rfl | simp [h4])
/-! ### Lists of records -/
def LR (R : List Rec) : Prop := R.length ≤ 1048576 ∧ ∀ k, k < R.length → LF (gR R k).2.2.2
def vAll (R : List Rec) : Bool := R.all vRec
set_option maxHeartbeats 1000000 in
theorem Tryz.indexFuncRec_ok (f : FuncId) (R : List Rec) (pr : Rec → Bool) (hL : R.length ≤ 1048576)
    (hf : ∀ k, k < R.length → PCall Tryz.prog f [.agg (rec4 (gR R k))] (.val (.bool (pr (gR R k))))) :
    PCall Tryz.prog 131 [rREC R, .clos (.func f) [] []] (.val (.int .i64 (fx pr R))) := by
  refine FCall.pcall (R := fun r _ => r = .val (.int .i64 (fx pr R))) ?_ 0 (by rintro r H rfl; exact view_int)
  refine FCall.of_body Tryz.func131 rfl (by kernel_rfl) (by simp [Tryz.ntmps131]) ?_
  refine SW_of_vc Tryz.mixed _ _ _ (by kernel_rfl) ?_
  have lC := recs_length R
  simp (disch := omega) only [Tryz.ntmps131, Tryz.results131, go_sem, rREC]
  refine LoopW.loop (fun k : Nat => ⟨ofL [(0, rREC R), (1, .clos (.func f) [] []), (7, .val (.int .i64 R.length)), (8, .val (.int .i64 k))], hp [] 0⟩) (fun k => k ≤ R.length ∧ ∀ i, i < k → pr (R.getD i dr) = false) (fun k => R.length - k) 0 ⟨by omega, by simp⟩ (Wk.of (by simp only [go_sem, ↓List.forall_mem_cons, List.not_mem_nil, false_implies, implies_true, and_true, true_and, and_self, ri_eq, Int.natCast_add, Int.cast_ofNat_Int, rREC]; try simp) rfl) ?_
  rintro k ⟨hk, hkk⟩
  refine SW_of_vc Tryz.mixed _ _ _ (by kernel_rfl) ?_
  by_cases hlt : k < R.length
  · have gl := recs_load hlt
    have wf := hf k hlt
    obtain ⟨a, b, c, F, hr⟩ := rec_ex R k
    rw [hr] at gl wf
    simp only [rec4] at gl wf
    simp (disch := omega) only [Tryz.ntmps131, Tryz.results131, go_sem, rREC, gl, lC]
    refine wf.callV 1 (viewL_cons_of view_rec viewL_nil_of) ?_
    cases he : pr (a, b, c, F) with
    | true =>
      simp (disch := omega) only [Tryz.ntmps131, Tryz.results131, go_sem, rREC]
      exact Fin.val (by rw [fx_some dr hlt hkk (by rw [← he, ← hr]; rfl)])
    | false =>
      simp (disch := omega) only [Tryz.ntmps131, Tryz.results131, go_sem, rREC]
      refine ⟨k + 1, ⟨by omega, fun i hi => ?_⟩, by omega, Wk.of (by simp only [go_sem, ↓List.forall_mem_cons, List.not_mem_nil, false_implies, implies_true, and_true, true_and, and_self, ri_eq, Int.natCast_add, Int.cast_ofNat_Int, rREC]; try simp) rfl⟩
      rcases Nat.lt_succ_iff_lt_or_eq.mp hi with h | rfl
      · exact hkk i h
      · rw [← he, ← hr]; rfl
  · simp (disch := omega) only [Tryz.ntmps131, Tryz.results131, go_sem, rREC]
    exact Fin.val (by rw [fx_none dr (fun i hi => hkk i (by omega))])
theorem Tryz.containsFuncRec_ok (f : FuncId) (R : List Rec) (pr : Rec → Bool) (hL : R.length ≤ 1048576)
    (hf : ∀ k, k < R.length → PCall Tryz.prog f [.agg (rec4 (gR R k))] (.val (.bool (pr (gR R k))))) :
    PCall Tryz.prog 86 [rREC R, .clos (.func f) [] []] (.val (.bool (R.any pr))) := by
  refine FCall.pcall (R := fun r _ => r = .val (.bool (R.any pr))) ?_ 0 (by rintro r H rfl; exact view_bool)
  refine FCall.of_body Tryz.func86 rfl (by kernel_rfl) (by simp [Tryz.ntmps86]) ?_
  have w := Tryz.indexFuncRec_ok f R pr hL hf
  have hg := fx_ge pr R
  generalize fx pr R = q at *
  refine SW_of_vc Tryz.mixed _ _ _ (by kernel_rfl) ?_
  cases h : R.any pr with
  | true =>
    have := hg.mpr h
    simp (disch := omega) only [Tryz.ntmps86, Tryz.results86, go_sem, rREC]
    refine w.callV 1 (viewL_cons_of view_row (viewL_cons_of (view_clos viewL_nil_of) viewL_nil_of)) ?_
    simp (disch := omega) only [Tryz.ntmps86, Tryz.results86, go_sem]
    exact Fin.val rfl
  | false =>
    have : ¬ 0 ≤ q := fun e => by rw [hg.mp e] at h; cases h
    simp (disch := omega) only [Tryz.ntmps86, Tryz.results86, go_sem, rREC]
    refine w.callV 1 (viewL_cons_of view_row (viewL_cons_of (view_clos viewL_nil_of) viewL_nil_of)) ?_
    simp (disch := omega) only [Tryz.ntmps86, Tryz.results86, go_sem]
    exact Fin.val rfl
theorem Tryz.areRec1_ok (a b c : Int) (F : List Wd) (hF : LF F) : PCall Tryz.prog 87 [sRec a b c F] (.val (.bool (!vRec (a, b, c, F)))) := by
  refine FCall.pcall (R := fun r _ => r = .val (.bool (!vRec (a, b, c, F)))) ?_ 0 (by rintro r H rfl; exact view_bool)
  refine FCall.of_body Tryz.func87 rfl (by kernel_rfl) (by simp [Tryz.ntmps87]) ?_
  have w := Tryz.implVRec_ok a b c F hF
  refine SW_of_vc Tryz.mixed _ _ _ (by kernel_rfl) ?_
  simp (disch := omega) only [Tryz.ntmps87, Tryz.results87, go_sem]
  refine w.callV 1 (viewL_cons_of view_rec viewL_nil_of) ?_
  simp (disch := omega) only [Tryz.ntmps87, Tryz.results87, go_sem]
  exact Fin.val rfl
theorem Tryz.areRecs_ok (R : List Rec) (hR : LR R) : PCall Tryz.prog 47 [rREC R] (.val (.bool (vAll R))) := by
  refine FCall.pcall (R := fun r _ => r = .val (.bool (vAll R))) ?_ 0 (by rintro r H rfl; exact view_bool)
  refine FCall.of_body Tryz.func47 rfl (by kernel_rfl) (by simp [Tryz.ntmps47]) ?_
  have w := Tryz.containsFuncRec_ok 87 R (fun r => !vRec r) hR.1 (fun k hk => by
    have hF := hR.2 k hk
    obtain ⟨a, b, c, F, hr⟩ := rec_ex R k
    rw [hr] at hF ⊢
    exact Tryz.areRec1_ok a b c F hF)
  have e := any_not (L := R) (p := vRec)
  refine SW_of_vc Tryz.mixed _ _ _ (by kernel_rfl) ?_
  simp (disch := omega) only [Tryz.ntmps47, Tryz.results47, go_sem, rREC]
  refine w.callV 1 (viewL_cons_of view_row (viewL_cons_of (view_clos viewL_nil_of) viewL_nil_of)) ?_
  simp (disch := omega) only [Tryz.ntmps47, Tryz.results47, go_sem]
  exact Fin.val (by rw [e, vAll])
set_option maxHeartbeats 1000000 in
theorem Tryz.l13Good_ok (R : List Rec) (hR : LR R) : PCall Tryz.prog 38 [rREC R] (.val (.bool (vAll R && decide (R.length ≤ 12)))) := by
  refine FCall.pcall (R := fun r _ => r = .val (.bool (vAll R && decide (R.length ≤ 12)))) ?_ 0 (by rintro r H rfl; exact view_bool)
  refine FCall.of_body Tryz.func38 rfl (by kernel_rfl) (by simp [Tryz.ntmps38]) ?_
  refine SW_of_vc Tryz.mixed _ _ _ (by kernel_rfl) ?_
  have hl := hR.1
  have lC := recs_length R
  simp (disch := omega) only [Tryz.ntmps38, Tryz.results38, go_sem, rREC]
  refine LoopW.loop (fun k : Nat => ⟨ofL [(0, rREC R), (2, .val (.bool false)), (3, .val (.int .i64 k))], hp [] 0⟩) (fun k => k ≤ R.length ∧ ∀ i, i < k → vRec (R.getD i dr) = true) (fun k => R.length - k) 0 ⟨by omega, by simp⟩ (Wk.of (by simp only [go_sem, ↓List.forall_mem_cons, List.not_mem_nil, false_implies, implies_true, and_true, true_and, and_self, ri_eq, Int.natCast_add, Int.cast_ofNat_Int, rREC]; try simp) rfl) ?_
  rintro k ⟨hk, hkk⟩
  refine SW_of_vc Tryz.mixed _ _ _ (by kernel_rfl) ?_
  by_cases hlt : k < R.length
  · have gl := recs_load hlt
    have hF := hR.2 k hlt
    obtain ⟨a, b, c, F, hr⟩ := rec_ex R k
    rw [hr] at gl hF
    simp only [rec4] at gl
    have wf := Tryz.specVRec_ok a b c F hF
    cases he : vRec (a, b, c, F) with
    | false =>
      rw [he] at wf
      have hv : vAll R = false := all_not dr hlt (by rw [← he, ← hr]; rfl)
      rw [hv]
      simp (disch := omega) only [Tryz.ntmps38, Tryz.results38, go_sem, rREC, gl, lC]
      refine wf.callV 1 (viewL_cons_of view_rec viewL_nil_of) ?_
      simp (disch := omega) only [Tryz.ntmps38, Tryz.results38, go_sem, rREC]
      exact Fin.val rfl
    | true =>
      rw [he] at wf
      simp (disch := omega) only [Tryz.ntmps38, Tryz.results38, go_sem, rREC, gl, lC]
      refine wf.callV 1 (viewL_cons_of view_rec viewL_nil_of) ?_
      simp (disch := omega) only [Tryz.ntmps38, Tryz.results38, go_sem, rREC]
      refine ⟨k + 1, ⟨by omega, fun i hi => ?_⟩, by omega, Wk.of (by simp only [go_sem, ↓List.forall_mem_cons, List.not_mem_nil, false_implies, implies_true, and_true, true_and, and_self, ri_eq, Int.natCast_add, Int.cast_ofNat_Int, rREC]; try simp) rfl⟩
      rcases Nat.lt_succ_iff_lt_or_eq.mp hi with h | rfl
      · exact hkk i h
      · rw [← he, ← hr]; rfl
  · obtain rfl : k = R.length := by omega
    have hv : vAll R = true := (all_getD dr).2 hkk
    rw [hv, Bool.true_and, show decide (R.length ≤ 12) = decide ((R.length : Int) ≤ 12) from decide_eq_decide.2 (by omega)]
    simp (disch := omega) only [Tryz.ntmps38, Tryz.results38, go_sem, rREC]
    exact Fin.val rfl
end Go.Sh

/-
  Records and lists of strings measured, copied, compared.
-/
namespace Go.Sh
set_option linter.unusedSimpArgs false
set_option linter.unusedVariables false
open Go Go.Proofs

def gs (m : Nat → Nat) : Nat → Nat
  | 0 => 0
  | k + 1 => gs m k + m k
theorem gs_mono (m : Nat → Nat) {k : Nat} : ∀ d, gs m k ≤ gs m (k + d)
  | 0 => Nat.le_refl _
  | d + 1 => by
    have := gs_mono m (k := k) d
    show gs m k ≤ gs m (k + d) + m (k + d)
    omega
theorem gs_le (m : Nat → Nat) {k n : Nat} (h : k ≤ n) : gs m k ≤ gs m n := by
  have := gs_mono m (k := k) (n - k)
  rwa [show k + (n - k) = n by omega] at this
theorem gs_at (m : Nat → Nat) {k n : Nat} (h : k < n) : m k ≤ gs m n := by
  have := gs_le m (k := k + 1) (n := n) h
  have e : gs m (k + 1) = gs m k + m k := rfl
  omega
def sl (F : List Wd) (i : Nat) : Nat := (F.getD i []).length
def bs (F : List Wd) : Nat := F.length + gs (sl F) F.length
def bsR (R : List Rec) (i : Nat) : Nat := bs (gR R i).2.2.2
def LFw (F : List Wd) : Prop := F.length ≤ 9223372036854775807 ∧ ∀ i, i < F.length → sl F i ≤ 9223372036854775807
set_option maxHeartbeats 4000000 in
theorem Tryz.szStringS_ok (F : List Wd) (l : Int) (hF : LFw F) (h0 : 0 ≤ l) (h1 : l ≤ 1048576) : PCall Tryz.prog 80 [rst F, .val (.int .i64 l)] (.val (.int .i64 (if l < (bs F : Nat) then -1 else l - (bs F : Nat)))) := by
  refine FCall.pcall (R := fun r _ => r = .val (.int .i64 (if l < (bs F : Nat) then -1 else l - (bs F : Nat)))) ?_ 0 (by rintro r H rfl; exact view_int)
  have hFl := hF.1
  have lC := strs_length F
  have hb : (bs F : Int) = F.length + gs (sl F) F.length := by rw [bs]; omega
  refine FCall.of_body Tryz.func80 rfl (by kernel_rfl) (by simp [Tryz.ntmps80]) ?_
  refine SW_of_vc Tryz.mixed _ _ _ (by kernel_rfl) ?_
  by_cases hl : l < F.length
  · rw [if_pos (by omega)]
    simp (disch := omega) only [Tryz.ntmps80, Tryz.results80, go_sem, rst]
    exact Fin.val rfl
  simp (disch := omega) only [Tryz.ntmps80, Tryz.results80, go_sem, rst]
  refine LoopW.loop (fun k : Nat => ⟨ofL [(0, rst F), (1, .val (.int .i64 (l - F.length - (gs (sl F) k : Nat)))), (5, .val (.int .i64 k))], hp [] 0⟩) (fun k => k ≤ F.length ∧ (gs (sl F) k : Int) ≤ l - F.length) (fun k => F.length - k) 0 ⟨by omega, by show ((0 : Nat) : Int) ≤ _; omega⟩ (Wk.of (by simp only [go_sem, ↓List.forall_mem_cons, List.not_mem_nil, false_implies, implies_true, and_true, true_and, and_self, ri_eq, Int.natCast_add, Int.cast_ofNat_Int, rst, show gs (sl F) 0 = 0 from rfl, Int.natCast_zero, Int.sub_zero]; try simp) rfl) ?_
  rintro k ⟨hk, hs⟩
  refine SW_of_vc Tryz.mixed _ _ _ (by kernel_rfl) ?_
  by_cases hlt : k < F.length
  · have gk := strs_get hlt
    have hsu : gs (sl F) (k + 1) = gs (sl F) k + (F.getD k []).length := rfl
    have hle := gs_le (sl F) (k := k + 1) (n := F.length) hlt
    have hw := hF.2 k hlt
    have hw2 : sl F k = (F.getD k []).length := rfl
    by_cases hc : l - F.length - (gs (sl F) k : Nat) < (F.getD k []).length
    · rw [if_pos (by omega)]
      simp (disch := omega) only [Tryz.ntmps80, Tryz.results80, go_sem, rst, gk, lC]
      exact Fin.val rfl
    · have e : l - F.length - (gs (sl F) k : Nat) - (F.getD k []).length = l - F.length - (gs (sl F) (k + 1) : Nat) := by omega
      simp (disch := omega) only [Tryz.ntmps80, Tryz.results80, go_sem, rst, gk, lC, e]
      exact ⟨k + 1, ⟨hlt, by omega⟩, by omega, Wk.of (by simp only [go_sem, ↓List.forall_mem_cons, List.not_mem_nil, false_implies, implies_true, and_true, true_and, and_self, ri_eq, Int.natCast_add, Int.cast_ofNat_Int, rst, e]; try simp) rfl⟩
  · obtain rfl : k = F.length := by omega
    have e : l - F.length - (gs (sl F) F.length : Nat) = l - (bs F : Nat) := by omega
    rw [if_neg (by omega)]
    simp (disch := omega) only [Tryz.ntmps80, Tryz.results80, go_sem, rst, e]
    exact Fin.val rfl
set_option maxHeartbeats 4000000 in
theorem Tryz.szRecord_ok (a b c : Int) (F : List Wd) (l : Int) (hF : LFw F) (h0 : 0 ≤ l) (h1 : l ≤ 1048576) : PCall Tryz.prog 35 [sRec a b c F, .val (.int .i64 l)] (.val (.int .i64 (if l < (bs F : Nat) then -1 else l - (bs F : Nat)))) := by
  refine FCall.pcall (R := fun r _ => r = .val (.int .i64 (if l < (bs F : Nat) then -1 else l - (bs F : Nat)))) ?_ 0 (by rintro r H rfl; exact view_int)
  have w := Tryz.szStringS_ok F l hF h0 h1
  have hFl := hF.1
  refine FCall.of_body Tryz.func35 rfl (by kernel_rfl) (by simp [Tryz.ntmps35]) ?_
  refine SW_of_vc Tryz.mixed _ _ _ (by kernel_rfl) ?_
  by_cases hc : l < (bs F : Nat)
  · rw [if_pos hc] at w ⊢
    simp (disch := omega) only [Tryz.ntmps35, Tryz.results35, go_sem]
    refine w.callV 0 (viewL_cons_of view_row (viewL_cons_of view_int viewL_nil_of)) ?_
    simp (disch := omega) only [Tryz.ntmps35, Tryz.results35, go_sem]
    exact Fin.val rfl
  · rw [if_neg hc] at w ⊢
    simp (disch := omega) only [Tryz.ntmps35, Tryz.results35, go_sem]
    refine w.callV 0 (viewL_cons_of view_row (viewL_cons_of view_int viewL_nil_of)) ?_
    simp (disch := omega) only [Tryz.ntmps35, Tryz.results35, go_sem]
    exact Fin.val rfl
theorem recs_loadI {R : List Rec} {k : Nat} (h : k < R.length) {a b c : Int} {F : List Wd} (hr : gR R k = (a, b, c, F)) : ((recs R).drop (k * 4)).take 4 = [.val (.int .i64 a), .val (.int .i64 b), .val (.int .i64 c), .row F.length false (strs F)] := by
  rw [recs_load h, hr]; rfl
def LRw (R : List Rec) : Prop := R.length ≤ 9223372036854775807 ∧ ∀ k, k < R.length → LFw (gR R k).2.2.2
def szR (R : List Rec) : Nat := R.length + gs (bsR R) R.length
set_option maxHeartbeats 4000000 in
theorem Tryz.szRecordS_ok (R : List Rec) (l : Int) (hR : LRw R) (h0 : 0 ≤ l) (h1 : l ≤ 1048576) :
    PCall Tryz.prog 5 [rREC R, .val (.int .i64 l)] (.val (.int .i64 (if l < (szR R : Nat) then -1 else l - (szR R : Nat)))) := by
  refine FCall.pcall (R := fun r _ => r = .val (.int .i64 (if l < (szR R : Nat) then -1 else l - (szR R : Nat)))) ?_ 0 (by rintro r H rfl; exact view_int)
  have hRl := hR.1
  have lC := recs_length R
  have hb : (szR R : Int) = R.length + gs (bsR R) R.length := by rw [szR]; omega
  refine FCall.of_body Tryz.func5 rfl (by kernel_rfl) (by simp [Tryz.ntmps5]) ?_
  refine SW_of_vc Tryz.mixed _ _ _ (by kernel_rfl) ?_
  by_cases hl : l < R.length
  · rw [if_pos (by omega)]
    simp (disch := omega) only [Tryz.ntmps5, Tryz.results5, go_sem, rREC]
    exact Fin.val rfl
  simp (disch := omega) only [Tryz.ntmps5, Tryz.results5, go_sem, rREC]
  refine LoopW.loop (fun k : Nat => ⟨ofL [(0, rREC R), (1, .val (.int .i64 (l - R.length - (gs (bsR R) k : Nat)))), (5, .val (.int .i64 k))], hp [] 0⟩) (fun k => k ≤ R.length ∧ (gs (bsR R) k : Int) ≤ l - R.length) (fun k => R.length - k) 0 ⟨by omega, by show ((0 : Nat) : Int) ≤ _; omega⟩ (Wk.of (by simp only [go_sem, ↓List.forall_mem_cons, List.not_mem_nil, false_implies, implies_true, and_true, true_and, and_self, ri_eq, Int.natCast_add, Int.cast_ofNat_Int, rREC, show gs (bsR R) 0 = 0 from rfl, Int.natCast_zero, Int.sub_zero]; try simp) rfl) ?_
  rintro k ⟨hk, hs⟩
  refine SW_of_vc Tryz.mixed _ _ _ (by kernel_rfl) ?_
  by_cases hlt : k < R.length
  · have hsu : gs (bsR R) (k + 1) = gs (bsR R) k + bsR R k := rfl
    have hle := gs_le (bsR R) (k := k + 1) (n := R.length) hlt
    have hF := hR.2 k hlt
    have hbk : bsR R k = bs (gR R k).2.2.2 := rfl
    obtain ⟨a, b, c, F, hr⟩ := rec_ex R k
    have gl := recs_loadI hlt hr
    rw [hr] at hF hbk
    simp only at hF hbk
    have w := Tryz.szRecord_ok a b c F (l - R.length - (gs (bsR R) k : Nat)) hF (by omega) (by omega)
    rw [← hbk] at w
    by_cases hc : l - R.length - (gs (bsR R) k : Nat) < (bsR R k : Nat)
    · rw [if_pos hc] at w
      rw [if_pos (by omega)]
      simp (disch := omega) only [Tryz.ntmps5, Tryz.results5, go_sem, rREC, gl, lC]
      refine w.callV 1 (viewL_cons_of view_rec (viewL_cons_of view_int viewL_nil_of)) ?_
      simp (disch := omega) only [Tryz.ntmps5, Tryz.results5, go_sem, rREC, gl, lC]
      exact Fin.val rfl
    · rw [if_neg hc] at w
      have e : l - R.length - (gs (bsR R) k : Nat) - (bsR R k : Nat) = l - R.length - (gs (bsR R) (k + 1) : Nat) := by omega
      rw [e] at w
      simp (disch := omega) only [Tryz.ntmps5, Tryz.results5, go_sem, rREC, gl, lC]
      refine w.callV 1 (viewL_cons_of view_rec (viewL_cons_of view_int viewL_nil_of)) ?_
      simp (disch := omega) only [Tryz.ntmps5, Tryz.results5, go_sem, rREC, gl, lC]
      exact ⟨k + 1, ⟨hlt, by omega⟩, by omega, Wk.of (by simp only [go_sem, ↓List.forall_mem_cons, List.not_mem_nil, false_implies, implies_true, and_true, true_and, and_self, ri_eq, Int.natCast_add, Int.cast_ofNat_Int, rREC]; try simp) rfl⟩
  · obtain rfl : k = R.length := by omega
    have e : l - R.length - (gs (bsR R) R.length : Nat) = l - (szR R : Nat) := by omega
    rw [if_neg (by omega)]
    simp (disch := omega) only [Tryz.ntmps5, Tryz.results5, go_sem, rREC, e]
    exact Fin.val rfl
/-! ### Compared with themselves -/
set_option maxHeartbeats 4000000 in
theorem Tryz.eqStringS_ok (F : List Wd) (hF : F.length ≤ 1048576) : PCall Tryz.prog 100 [rst F, rst F] (.val (.bool true)) := by
  refine FCall.pcall (R := fun r _ => r = .val (.bool true)) ?_ 0 (by rintro r H rfl; exact view_bool)
  have lC := strs_length F
  refine FCall.of_body Tryz.func100 rfl (by kernel_rfl) (by simp [Tryz.ntmps100]) ?_
  refine SW_of_vc Tryz.mixed _ _ _ (by kernel_rfl) ?_
  simp (disch := omega) only [Tryz.ntmps100, Tryz.results100, go_sem, rst, bne_self_eq_false]
  refine LoopW.loop (fun k : Nat => ⟨ofL [(0, rst F), (1, rst F), (5, .val (.int .i64 k))], hp [] 0⟩) (fun k => k ≤ F.length) (fun k => F.length - k) 0 (by omega) (Wk.of (by simp only [go_sem, ↓List.forall_mem_cons, List.not_mem_nil, false_implies, implies_true, and_true, true_and, and_self, ri_eq, Int.natCast_add, Int.cast_ofNat_Int, rst]; try simp) rfl) ?_
  intro k hk
  refine SW_of_vc Tryz.mixed _ _ _ (by kernel_rfl) ?_
  by_cases hlt : k < F.length
  · have gk := strs_get hlt
    have e1 : (F.getD k [] == F.getD k []) = true := beq_self_eq_true _
    simp (disch := omega) only [Tryz.ntmps100, Tryz.results100, go_sem, rst, gk, lC, e1]
    exact ⟨k + 1, hlt, by omega, Wk.of (by simp only [go_sem, ↓List.forall_mem_cons, List.not_mem_nil, false_implies, implies_true, and_true, true_and, and_self, ri_eq, Int.natCast_add, Int.cast_ofNat_Int, rst]; try simp) rfl⟩
  · simp (disch := omega) only [Tryz.ntmps100, Tryz.results100, go_sem, rst]
    exact Fin.val rfl
set_option maxHeartbeats 4000000 in
theorem Tryz.eqRecord_ok (a b c : Int) (F : List Wd) (hF : F.length ≤ 1048576) : PCall Tryz.prog 54 [sRec a b c F, sRec a b c F] (.val (.bool true)) := by
  refine FCall.pcall (R := fun r _ => r = .val (.bool true)) ?_ 0 (by rintro r H rfl; exact view_bool)
  have w := Tryz.eqStringS_ok F hF
  refine FCall.of_body Tryz.func54 rfl (by kernel_rfl) (by simp [Tryz.ntmps54]) ?_
  refine SW_of_vc Tryz.mixed _ _ _ (by kernel_rfl) ?_
  simp (disch := omega) only [Tryz.ntmps54, Tryz.results54, go_sem, bne_self_eq_false]
  refine w.callV 0 (viewL_cons_of view_row (viewL_cons_of view_row viewL_nil_of)) ?_
  simp (disch := omega) only [Tryz.ntmps54, Tryz.results54, go_sem, bne_self_eq_false]
  exact Fin.val rfl
set_option maxHeartbeats 4000000 in
theorem Tryz.eqRecordS_ok (R : List Rec) (hR : LR R) : PCall Tryz.prog 14 [rREC R, rREC R] (.val (.bool true)) := by
  refine FCall.pcall (R := fun r _ => r = .val (.bool true)) ?_ 0 (by rintro r H rfl; exact view_bool)
  have hRl := hR.1
  have lC := recs_length R
  refine FCall.of_body Tryz.func14 rfl (by kernel_rfl) (by simp [Tryz.ntmps14]) ?_
  refine SW_of_vc Tryz.mixed _ _ _ (by kernel_rfl) ?_
  simp (disch := omega) only [Tryz.ntmps14, Tryz.results14, go_sem, rREC, bne_self_eq_false]
  refine LoopW.loop (fun k : Nat => ⟨ofL [(0, rREC R), (1, rREC R), (5, .val (.int .i64 k))], hp [] 0⟩) (fun k => k ≤ R.length) (fun k => R.length - k) 0 (by omega) (Wk.of (by simp only [go_sem, ↓List.forall_mem_cons, List.not_mem_nil, false_implies, implies_true, and_true, true_and, and_self, ri_eq, Int.natCast_add, Int.cast_ofNat_Int, rREC]; try simp) rfl) ?_
  intro k hk
  refine SW_of_vc Tryz.mixed _ _ _ (by kernel_rfl) ?_
  by_cases hlt : k < R.length
  · have hF := (hR.2 k hlt).1
    obtain ⟨a, b, c, F, hr⟩ := rec_ex R k
    have gl := recs_loadI hlt hr
    rw [hr] at hF
    have w := Tryz.eqRecord_ok a b c F hF
    simp (disch := omega) only [Tryz.ntmps14, Tryz.results14, go_sem, rREC, gl, lC]
    refine w.callDV 1 (viewL_cons_of view_rec (viewL_cons_of view_rec viewL_nil_of)) ?_
    simp (disch := omega) only [Tryz.ntmps14, Tryz.results14, go_sem, rREC, gl, lC]
    exact ⟨k + 1, hlt, by omega, Wk.of (by simp only [go_sem, ↓List.forall_mem_cons, List.not_mem_nil, false_implies, implies_true, and_true, true_and, and_self, ri_eq, Int.natCast_add, Int.cast_ofNat_Int, rREC]; try simp) rfl⟩
  · simp (disch := omega) only [Tryz.ntmps14, Tryz.results14, go_sem, rREC]
    exact Fin.val rfl
/-! ### Copied -/
set_option maxHeartbeats 4000000 in
theorem Tryz.toStringS_f (F : List Wd) (hF : F.length ≤ 1048576) : FCall Tryz.prog 84 [rst F] (FlatRes F.length 1 (strs F)) := by
  have lC := strs_length F
  refine FCall.of_body Tryz.func84 rfl (by kernel_rfl) (by simp [Tryz.ntmps84]) ?_
  refine SW_of_vc Tryz.mixed _ _ _ (by kernel_rfl) ?_
  simp (disch := omega) only [Tryz.ntmps84, Tryz.results84, go_sem, rst]
  refine LoopW.loop (fun k : Nat => ⟨ofL [(0, rst F), (3, .own 0 0 F.length F.length 1 true), (4, .val (.int .i64 k))], hp [(0, ⟨strs (fillS F k), true⟩)] 1⟩) (fun k => k ≤ F.length) (fun k => F.length - k) 0 (by omega)
    (Wk.of (by simp only [go_sem, ↓List.forall_mem_cons, List.not_mem_nil, false_implies, implies_true, and_true, true_and, and_self, ri_eq, Int.natCast_add, Int.cast_ofNat_Int, rst]; try simp) (by simp only [fillS_zero, ← strs_replicate])) ?_
  intro k hk
  have hf := fillS_length F k hk
  have hl := strs_length (fillS F k)
  refine SW_of_vc Tryz.mixed _ _ _ (by kernel_rfl) ?_
  by_cases hlt : k < F.length
  · have gk := strs_get hlt
    simp (disch := omega) only [Tryz.ntmps84, Tryz.results84, go_sem, rst, gk, lC, hl, hf, strs_set, fillS_set]
    exact ⟨k + 1, by omega, by omega, Wk.of (by simp only [go_sem, ↓List.forall_mem_cons, List.not_mem_nil, false_implies, implies_true, and_true, true_and, and_self, ri_eq, Int.natCast_add, Int.cast_ofNat_Int, rst]; try simp) rfl⟩
  · obtain rfl : k = F.length := by omega
    simp (disch := omega) only [Tryz.ntmps84, Tryz.results84, go_sem, rst]
    rw [fillS_all]
    exact fin_strs rfl (by first | rfl | (simp (disch := omega) only [hx_map, hp_map, xmap_blk, hmap_cons, xmap_skipI, xmap_nil, if_pos, if_neg, ↓reduceIte]; try rfl))
end Go.Sh

/-
  Lists of structs as cells, for elements of any fixed number of cells; triangles.
-/
namespace Go.Sh
set_option linter.unusedSimpArgs false
set_option linter.unusedVariables false
open Go

section
variable {α : Type} {enc : α → List SV} {z : Nat}
end

end Go.Sh

/-
  Records copied.
-/
namespace Go.Sh
set_option linter.unusedSimpArgs false
set_option linter.unusedVariables false
open Go Go.Proofs

def IsRec (a b c : Int) (n : Nat) (r : SV) : Prop := ∃ x cap ex, r = .agg [.val (.int .i64 a), .val (.int .i64 b), .val (.int .i64 c), .own x 0 n cap 1 ex]
theorem IsRec.sh {a b c : Int} {n : Nat} (k : Nat) (r : SV) (h : IsRec a b c n r) : IsRec a b c n (shift k r) := by
  obtain ⟨x, cap, ex, rfl⟩ := h
  exact ⟨x + k, cap, ex, by simp only [shift, shiftL]⟩
set_option maxHeartbeats 4000000 in
theorem Tryz.toRecord_f (a b c : Int) (F : List Wd) (hF : F.length ≤ 1048576) : FCall Tryz.prog 43 [sRec a b c F] (VRes (IsRec a b c F.length) 4 (sRec a b c F)) := by
  have w := (Tryz.toStringS_f F hF).one
  refine FCall.of_body Tryz.func43 rfl (by kernel_rfl) (by simp [Tryz.ntmps43]) ?_
  refine SW_of_vc Tryz.mixed _ _ _ (by kernel_rfl) ?_
  simp (disch := omega) only [Tryz.ntmps43, Tryz.results43, go_sem]
  refine w.callOne (strs_vals _) 0 (viewL_cons_of view_row viewL_nil_of) ?_
  simp (disch := omega) only [Tryz.ntmps43, Tryz.results43, go_sem]
  refine fin_vw 3 4 ⟨3, F.length, false, rfl⟩ rfl (fun b blk b1 b2 hb => ?_) ?_
  · obtain rfl : b = 3 := by omega
    have : blk = ⟨strs F, false⟩ := by simpa [hp, hmap] using hb.symm
    rw [this]; exact noRowL_strs F
  · refine view_agg (viewL_cons_of view_int (viewL_cons_of view_int (viewL_cons_of view_int (viewL_cons_of ?_ viewL_nil_of))))
    exact view_ownS (e2 := false) (by rw [cutH_map (by omega) (by omega)]; rfl) rfl
theorem view_agg_inv {H : Heap} {f : Nat} {ss ts : List SV} (h : view H (f + 1) (.agg ss) = some (.agg ts)) : viewL H f ss = some ts := by
  simp only [view] at h
  split at h
  · rename_i cs hcs
    simp at h; subst h; exact hcs
  · simp at h
def zr4 : List SV := [.val (.int .i64 0), .val (.int .i64 0), .val (.int .i64 0), .val (.slice none 0 0)]
def zrs : Nat → List SV
  | 0 => []
  | n + 1 => zr4 ++ zrs n
theorem zrs_len : ∀ n, (zrs n).length = n * 4
  | 0 => rfl
  | n + 1 => by show (zr4 ++ zrs n).length = _; rw [List.length_append, zrs_len n]; simp [zr4]; omega
theorem zrs_at : ∀ n i, i < n * 4 → (zrs n)[i]? = some (zr4.getD (i % 4) .undef)
  | 0, i, h => by omega
  | n + 1, i, h => by
    show (zr4 ++ zrs n)[i]? = _
    by_cases h4 : i < 4
    · rw [List.getElem?_append_left h4]
      have : i = 0 ∨ i = 1 ∨ i = 2 ∨ i = 3 := by omega
      rcases this with rfl | rfl | rfl | rfl <;> rfl
    · rw [List.getElem?_append_right (by simp [zr4]; omega), show zr4.length = 4 from rfl, zrs_at n (i - 4) (by omega)]
      rw [show (i - 4) % 4 = i % 4 by omega]
theorem rep_zr (n : Nat) : rep [.val (.int .i64 0), .val (.int .i64 0), .val (.int .i64 0), .val (.slice none 0 0)] (n * 4) = zrs n := by
  apply List.ext_getElem?
  intro i
  by_cases h : i < n * 4
  · rw [zrs_at n i h]
    simp only [rep, List.getElem?_map, List.getElem?_range h, Option.map_some]
    rfl
  · rw [List.getElem?_eq_none (by simp [rep]; omega), List.getElem?_eq_none (by rw [zrs_len]; omega)]
theorem zrs_set {rs : List SV} {k m : Nat} {a b c d : SV} (h : rs.length = k * 4) : ((((rs ++ zrs (m + 1)).set (k * 4) a).set (k * 4 + 1) b).set (k * 4 + 1 + 1) c).set (k * 4 + 1 + 1 + 1) d = (rs ++ [a, b, c, d]) ++ zrs m := by
  rw [List.set_append_right _ _ (by omega), List.set_append_right _ _ (by omega), List.set_append_right _ _ (by omega), List.set_append_right _ _ (by omega), h]
  rw [show k * 4 - k * 4 = 0 by omega, show k * 4 + 1 - k * 4 = 1 by omega, show k * 4 + 1 + 1 - k * 4 = 2 by omega, show k * 4 + 1 + 1 + 1 - k * 4 = 3 by omega, List.append_assoc]
  rfl
/-- The outer block of a copy of records, k of them copied. -/
structure RecB (R : List Rec) (k : Nat) (rs : List SV) (H : Heap) : Prop where
  ln : rs.length = k * 4
  o : H.map 0 = some ⟨rs ++ zrs (R.length - k), true⟩
  nr : noRowL rs = true
  vw : ∀ H' : Heap, (∀ b, 1 ≤ b → b < H.nb → H'.map b = H.map b) → viewL H' 3 rs = some (recs (R.take k))
  hn : ∀ b blk, 1 ≤ b → b < H.nb → H.map b = some blk → noRowL blk.cells = true
  nb : 1 ≤ H.nb
theorem recs_take {R : List Rec} {k : Nat} (h : k < R.length) {a b c : Int} {F : List Wd} (hr : gR R k = (a, b, c, F)) : recs (R.take (k + 1)) = recs (R.take k) ++ [.val (.int .i64 a), .val (.int .i64 b), .val (.int .i64 c), .row F.length false (strs F)] := by
  have e : R.take (k + 1) = R.take k ++ [gR R k] := by rw [gR]; exact take_at dr h
  rw [e, recs, List.flatMap_append, hr]
  simp [recs, rec4]
set_option maxRecDepth 20000 in
set_option maxHeartbeats 8000000 in
theorem Tryz.toRecordS_n (R : List Rec) (hR : LR R) : FCall Tryz.prog 9 [rREC R] (NRes (fun s => s) R.length 4 3 (recs R)) := by
  have hRl := hR.1
  have lC := recs_length R
  refine FCall.of_body Tryz.func9 rfl (by kernel_rfl) (by simp [Tryz.ntmps9]) ?_
  refine SW_of_vc Tryz.mixed _ _ _ (by kernel_rfl) ?_
  simp (disch := omega) only [Tryz.ntmps9, Tryz.results9, go_sem, rREC]
  refine LoopW.loop (fun y : Nat × List SV × Heap => ⟨ofL [(0, rREC R), (3, .own 0 0 R.length R.length 4 true), (4, .val (.int .i64 y.1))], y.2.2⟩) (fun y => y.1 ≤ R.length ∧ RecB R y.1 y.2.1 y.2.2) (fun y => R.length - y.1)
    (0, [], hp [(0, ⟨zrs R.length, true⟩)] 1) ⟨by simp, rfl, by simp [hp, hmap], rfl, fun H' _ => viewL_nil_of, fun b blk b1 b2 hb => by simp [hp, hmap] at b2; omega, by simp [hp]⟩ (Wk.of (by simp only [go_sem, ↓List.forall_mem_cons, List.not_mem_nil, false_implies, implies_true, and_true, true_and, and_self, ri_eq, Int.natCast_add, Int.cast_ofNat_Int, rREC]; try simp) (by rw [rep_zr])) ?_
  rintro ⟨k, rs, H⟩ ⟨hk, hB⟩
  simp only at hk hB
  have hm := hB.o
  have hln := hB.ln
  refine SW_of_vc Tryz.mixed _ _ _ (by kernel_rfl) ?_
  by_cases hlt : k < R.length
  · have hF := (hR.2 k hlt).1
    obtain ⟨a, b, c, F, hr⟩ := rec_ex R k
    have gl := recs_loadI hlt hr
    rw [hr] at hF
    simp (disch := omega) only [Tryz.ntmps9, Tryz.results9, go_sem, rREC, gl, lC]
    refine (Tryz.toRecord_f a b c F hF).callVw IsRec.sh 1 (viewL_cons_of view_rec viewL_nil_of) ?_
    rintro _ H1 ⟨x, cap, ex, rfl⟩ hv hnb hlow
    have hm1 : H1.map 0 = _ := (hlow 0 (by have := hB.nb; omega)).trans hm
    have hcl : (rs ++ zrs (R.length - k)).length = R.length * 4 := by rw [List.length_append, hln, zrs_len]; omega
    have hst : ((((rs ++ zrs (R.length - k)).set (k * 4) (.val (.int .i64 a))).set (k * 4 + 1) (.val (.int .i64 b))).set (k * 4 + 1 + 1) (.val (.int .i64 c))).set (k * 4 + 1 + 1 + 1) (.own x 0 F.length cap 1 ex) = (rs ++ [.val (.int .i64 a), .val (.int .i64 b), .val (.int .i64 c), .own x 0 F.length cap 1 ex]) ++ zrs (R.length - (k + 1)) := by
      rw [show R.length - k = (R.length - (k + 1)) + 1 by omega, zrs_set hln]
    simp (disch := omega) only [Tryz.ntmps9, Tryz.results9, go_sem, rREC, hm1, hcl, hst]
    refine ⟨(k + 1, rs ++ [.val (.int .i64 a), .val (.int .i64 b), .val (.int .i64 c), .own x 0 F.length cap 1 ex], _), ⟨hlt, ?_⟩, by show R.length - (k + 1) < R.length - k; omega, Wk.of (by simp only [go_sem, ↓List.forall_mem_cons, List.not_mem_nil, false_implies, implies_true, and_true, true_and, and_self, ri_eq, Int.natCast_add, Int.cast_ofNat_Int, rREC]; try simp) rfl⟩
    have hBn := hB.nb
    refine ⟨by simp [hln]; omega, by simp only [hset_map, if_pos], noRowL_append hB.nr rfl, fun H' hH' => ?_, fun b blk b1 b2 hb => ?_, by simp only [hset_nb]; omega⟩
    · simp only [hset_nb] at hH'
      have hH2 : ∀ b, 1 ≤ b → b < H1.nb → H'.map b = H1.map b := fun b b1 b2 => by
        rw [hH' b b1 b2, hset_map, if_neg (by omega)]
      rw [recs_take hlt hr]
      exact viewL_append (hB.vw H' fun b b1 b2 => by rw [hH2 b b1 (by omega), hlow b b2]) (view_agg_inv (hv.vw H' fun b b1 b2 => hH2 b (by omega) b2))
    · simp only [hset_nb] at b2
      rw [hset_map, if_neg (by omega)] at hb
      by_cases hbn : b < H.nb
      · exact hB.hn b blk b1 hbn (by rw [← hlow b hbn]; exact hb)
      · exact hv.hn b blk (by omega) b2 hb
  · obtain rfl : k = R.length := by omega
    simp (disch := omega) only [Tryz.ntmps9, Tryz.results9, go_sem, rREC]
    have hBn := hB.nb
    rw [Nat.sub_self, zrs, List.append_nil] at hm
    refine fin_N (wr := fun s => s) (fun _ _ => rfl) (fun _ h => h) (cs := rs) ⟨hm, hB.nr, fun H' hH' => ?_, fun b blk b1 b2 hb => hB.hn b blk (by omega) b2 hb, by omega⟩ hln
    have := hB.vw H' (fun b b1 b2 => hH' b (by omega) b2)
    rw [List.take_length] at this
    exact this
end Go.Sh

/-
  Contracts: an item moved to another block. Of the program.
-/
namespace Go.Sh
set_option linter.unusedSimpArgs false
set_option linter.unusedVariables false
open Go Go.Proofs

end Go.Sh

/-
  Drawing numbers from bytes: the cursor, a byte, a number below a bound, one of a list.
-/
namespace Go.Sh
set_option linter.unusedSimpArgs false
set_option linter.unusedVariables false
open Go Go.Proofs

def bys (B : List Int) : List SV := B.map fun b => .val (.int .u8 b)
def rby (B : List Int) : SV := .row B.length false (bys B)
def curB (B : List Int) (i : Nat) (h : Int) : Blk := ⟨[rby B, .val (.int .i64 i), .val (.int .i64 h)], true⟩
def Cur (B : List Int) (H : Heap) (cb : Nat) : Prop := ∃ (i : Nat) (h : Int), i ≤ B.length ∧ H.map cb = some (curB B i h)
/-- The cursor has moved, nothing else. -/
def CurS (B : List Int) (H : Heap) (cb : Nat) (H' : Heap) : Prop := ∃ (i : Nat) (h : Int), i ≤ B.length ∧ H' = H.set cb (some (curB B i h))
theorem hset_set (H : Heap) (b : Nat) (x y : Option Blk) : (H.set b x).set b y = H.set b y := by
  refine Heap.ext' (fun z => ?_) rfl
  simp only [hset_map]
  split <;> rfl
theorem CurS.cur {B : List Int} {H H' : Heap} {cb : Nat} (h : CurS B H cb H') : Cur B H' cb := by
  obtain ⟨i, x, hi, rfl⟩ := h
  exact ⟨i, x, hi, by rw [hset_map, if_pos rfl]⟩
theorem CurS.trans {B : List Int} {H H' H'' : Heap} {cb : Nat} (h : CurS B H cb H') (g : CurS B H' cb H'') : CurS B H cb H'' := by
  obtain ⟨i, x, hi, rfl⟩ := h
  obtain ⟨k, y, hk, rfl⟩ := g
  exact ⟨k, y, hk, hset_set _ _ _ _⟩
theorem Cur.s {B : List Int} {H : Heap} {cb : Nat} (h : Cur B H cb) : CurS B H cb H := by
  obtain ⟨i, x, hi, e⟩ := h
  exact ⟨i, x, hi, (Heap.set_self e).symm⟩
theorem CurS.nb {B : List Int} {H H' : Heap} {cb : Nat} (h : CurS B H cb H') : H'.nb = H.nb := by obtain ⟨i, x, hi, rfl⟩ := h; rfl
theorem CurS.map {B : List Int} {H H' : Heap} {cb b : Nat} (h : CurS B H cb H') (hb : b ≠ cb) : H'.map b = H.map b := by obtain ⟨i, x, hi, rfl⟩ := h; rw [hset_map, if_neg hb]
end Go.Sh

/-
  Results that are known as contents of some kind alone.
-/
namespace Go.Sh
set_option linter.unusedSimpArgs false
set_option linter.unusedVariables false
open Go Go.RowKit Go.Proofs

section
variable {P : Program}
/-- f writes nothing that came in; its result reads as one of S, in memory of its own. -/
def PCallE (P : Program) (f : FuncId) (args : List SV) (S : SV → Prop) : Prop :=
  Enters P f ∧ ∀ w vs, LRel (fun _ => False) w noj args vs → TabOk (fun _ => False) w → Calls P f vs.toArray w (fun e w' => ∃ v T, S T ∧ e = .returned v ∧ Below w.heap.size w w' ∧ VRel (fun k => k < w.heap.size) w' noj T v)
theorem FCall.pcallE {f : FuncId} {args : List SV} {R : SV → Heap → Prop} {S : SV → Prop} (h : FCall P f args R) (fu : Nat) (hr : ∀ r H, R r H → ∃ T, view H fu r = some T ∧ S T) : PCallE P f args S := by
  refine ⟨h.1, fun w vs hl ht => (h.2 w vs hl ht).mono ?_⟩
  rintro e w' ⟨v, r, j, H, h1, h2, h3, h4, h5, h6, h7, h8⟩
  have hlive : Live (fun k => k < w.heap.size) j H w' := h3.liveN h7 (fun k hk => by have := h5 k hk; omega)
  obtain ⟨T, k1, k2⟩ := hr r H h8
  exact ⟨v, T, k2, h1, h2, view_sound hlive fu r T v k1 (VRel.anyO r v h6 h4)⟩
theorem PCallE.callE {f : FuncId} {args args' : List SV} {S : SV → Prop} {H : Heap} {K : SV → Heap → Prop} (h : PCallE P f args' S) (fu : Nat) (hv : viewL H fu args = some args') (k : ∀ T, S T → K T H) : @CallX P f args H ⟨K⟩ := by
  refine ⟨h.1, fun j w vs r hl => ?_⟩
  have hl' := viewL_sound r.live0 fu args args' vs hv (LRel.tr (Tr.weaken w (fun _ h => h.elim)) (fun _ _ h => h) args vs hl)
  refine (h.2 w vs hl' (r.tab.tr (Tr.weaken w (fun _ h => h.elim)))).mono ?_
  rintro e w' ⟨v, T, hS, h1, h2, h3⟩
  obtain ⟨r', nx⟩ := r.below h2
  refine ⟨T, v, j, H, h1, r', ?_, nx, k T hS⟩
  exact VRel.tr (Tr.weaken w' (fun k hk => r.own_lt hk)) (by intro b p h; simp [noj] at h) T v h3
end
def part (H : Heap) (p : Nat → Prop) [DecidablePred p] : Heap := ⟨fun b => if p b then H.map b else none, H.nb⟩
theorem part_sub (H : Heap) (p : Nat → Prop) [DecidablePred p] : Sub (part H p) H := ⟨rfl, fun b => by
  show (if p b then H.map b else none) = none ∨ (if p b then H.map b else none) = H.map b
  split
  · exact .inr rfl
  · exact .inl rfl⟩
theorem part_map {H : Heap} {p : Nat → Prop} [DecidablePred p] {b : Nat} (h : p b) : (part H p).map b = H.map b := if_pos h
end Go.Sh

/-
  Copies written over: marks.
-/
namespace Go.Sh
set_option linter.unusedSimpArgs false
set_option linter.unusedVariables false
open Go Go.Proofs

theorem viewL_len {H : Heap} {f : Nat} : ∀ {ss ts : List SV}, viewL H f ss = some ts → ts.length = ss.length
  | [], ts, h => by
    have : ts = [] := by cases f <;> simpa [viewL] using h.symm
    rw [this]
  | s :: ss, ts, h => by
    have key : ∃ t us, view H f s = some t ∧ viewL H f ss = some us ∧ ts = t :: us := by
      cases f
      all_goals
        simp only [viewL] at h
        split at h
        · rename_i t ts ht hts
          exact ⟨t, ts, ht, hts, by simpa using h.symm⟩
        · simp at h
    obtain ⟨t, us, _, h2, rfl⟩ := key
    rw [List.length_cons, List.length_cons, viewL_len h2]
theorem viewL_at {H : Heap} {f : Nat} : ∀ {ss ts : List SV} {i : Nat} {s t : SV}, viewL H f ss = some ts → ss[i]? = some s → ts[i]? = some t → view H f s = some t
  | [], _, i, s, t, _, h, _ => by simp at h
  | s' :: ss, ts, i, s, t, h, hs, ht => by
    have key : ∃ t us, view H f s' = some t ∧ viewL H f ss = some us ∧ ts = t :: us := by
      cases f
      all_goals
        simp only [viewL] at h
        split at h
        · rename_i t ts ht hts
          exact ⟨t, ts, ht, hts, by simpa using h.symm⟩
        · simp at h
    obtain ⟨t', us, h1, h2, rfl⟩ := key
    cases i with
    | zero => simp at hs ht; subst hs; subst ht; exact h1
    | succ i => exact viewL_at h2 (by simpa using hs) (by simpa using ht)
theorem view_row_inv {H : Heap} {f m : Nat} {s : SV} {T : List SV} (hn : noRow s = true) (h : view H (f + 1) s = some (.row m false T)) : (s = .val (.slice none 0 0) ∧ m = 0) ∨ ∃ x off cap z ex blk, s = .own x off m cap z ex ∧ H.map x = some blk ∧ off + m * z ≤ blk.cells.length ∧ viewL H f ((blk.cells.drop off).take (m * z)) = some T := by
  cases s with
  | own x off n cap z ex =>
    simp only [view] at h
    split at h
    · rename_i blk hb
      split at h
      · rename_i hc
        split at h
        · rename_i cs hcs
          simp at h
          obtain ⟨rfl, rfl⟩ := h
          exact .inr ⟨x, off, cap, z, ex, blk, rfl, hb, hc, hcs⟩
        · simp at h
      · simp at h
    · simp at h
  | val v =>
    simp only [view, viewV] at h
    split at h
    · simp at h; exact .inl ⟨rfl, h.1.symm⟩
    · simp at h
  | row _ _ _ => simp [noRow] at hn
  | rptr _ _ => simp [noRow] at hn
  | undef => simp [view] at h
  | optr b off =>
    simp only [view] at h
    split at h
    · split at h <;> simp at h
    · simp at h
  | agg cs => simp only [view] at h; split at h <;> simp at h
  | tup cs => simp only [view] at h; split at h <;> simp at h
  | clos a b c => simp only [view] at h; split at h <;> simp at h
  | iface a b => simp only [view] at h; split at h <;> simp at h
/-- A slice of m elements of z cells each, in a block behind ob, below hi. -/
def SlS (H : Heap) (ob hi z m : Nat) (s : SV) : Prop :=
  (s = .val (.slice none 0 0) ∧ m = 0) ∨ (∃ x off cap z' ex, s = .own x off 0 cap z' ex ∧ m = 0) ∨ ∃ x off cap ex blk, s = .own x off m cap z ex ∧ ob < x ∧ x < hi ∧ H.map x = some blk ∧ off + m * z ≤ blk.cells.length
theorem SlS.of_view {H : Heap} {ob hi z m fu : Nat} {s : SV} {T : List SV} (hn : noRow s = true) (hT : T.length = m * z) (h : view ⟨fun b => if ob < b ∧ b < hi then H.map b else none, hi⟩ (fu + 1) s = some (.row m false T)) : SlS H ob hi z m s := by
  rcases view_row_inv hn h with h | ⟨x, off, cap, z', ex, blk, rfl, h1, h2, h3⟩
  · exact .inl h
  · by_cases hm : m = 0
    · subst hm; exact .inr (.inl ⟨x, off, cap, z', ex, rfl, rfl⟩)
    · simp only at h1
      split at h1
      · rename_i hc
        have h4 := viewL_len h3
        rw [hT, List.length_take, List.length_drop, Nat.min_eq_left (by omega)] at h4
        have hz : z' = z := by
          have := Nat.mul_left_cancel (Nat.pos_of_ne_zero hm) h4
          omega
        subst hz
        exact .inr (.inr ⟨x, off, cap, ex, blk, rfl, hc.1, hc.2, h1, h2⟩)
      · cases h1
/-- What a mark changes: one block at most, and not its size. -/
def MkQ (ob hi : Nat) (H H' : Heap) : Prop := H' = H ∨ ∃ x blk cs', ob < x ∧ x < hi ∧ H.map x = some blk ∧ cs'.length = blk.cells.length ∧ H' = H.set x (some ⟨cs', blk.ex⟩)
theorem SlS.mk {H H' : Heap} {ob hi z m : Nat} {s : SV} (h : SlS H ob hi z m s) (q : MkQ ob hi H H') : SlS H' ob hi z m s := by
  rcases q with rfl | ⟨y, blk', cs', q1, q2, q3, q4, rfl⟩
  · exact h
  rcases h with h | h | ⟨x, off, cap, ex, blk, h1, h2, h3, h4, h5⟩
  · exact .inl h
  · exact .inr (.inl h)
  · refine .inr (.inr ?_)
    by_cases hxy : x = y
    · subst hxy
      rw [h4] at q3
      obtain rfl : blk = blk' := by simpa using q3
      exact ⟨x, off, cap, ex, ⟨cs', blk.ex⟩, h1, h2, h3, by rw [hset_map, if_pos rfl], by simp only [q4]; exact h5⟩
    · exact ⟨x, off, cap, ex, blk, h1, h2, h3, by rw [hset_map, if_neg hxy, h4], h5⟩
/-- An outer block of n elements of st cells each; at place fo of each element a slice. -/
structure NSh (H : Heap) (ob hi z st fo n : Nat) (m : Nat → Nat) (cs : List SV) (ex : Bool) : Prop where
  o : H.map ob = some ⟨cs, ex⟩
  ln : cs.length = n * st
  sl : ∀ i, i < n → ∃ s, cs[i * st + fo]? = some s ∧ SlS H ob hi z (m i) s
theorem NSh.mk2 {H H' : Heap} {ob hi z st fo n : Nat} {m : Nat → Nat} {cs : List SV} {ex : Bool} (h : NSh H ob hi z st fo n m cs ex) (q : MkQ ob hi H H') : NSh H' ob hi z st fo n m cs ex := by
  refine ⟨?_, h.ln, fun i hi => ?_⟩
  · rcases q with rfl | ⟨y, blk', cs', q1, q2, q3, q4, rfl⟩
    · exact h.o
    · rw [hset_map, if_neg (by omega), h.o]
  · obtain ⟨s, h1, h2⟩ := h.sl i hi
    exact ⟨s, h1, h2.mk q⟩
theorem NSh.outer {H : Heap} {ob hi z st fo n : Nat} {m : Nat → Nat} {cs cs' : List SV} {ex : Bool} (h : NSh H ob hi z st fo n m cs ex) (hl : cs'.length = cs.length) (hs : ∀ i, i < n → cs'[i * st + fo]? = cs[i * st + fo]?) : NSh (H.set ob (some ⟨cs', ex⟩)) ob hi z st fo n m cs' ex := by
  refine ⟨by rw [hset_map, if_pos rfl], by rw [hl, h.ln], fun i hi => ?_⟩
  obtain ⟨s, h1, h2⟩ := h.sl i hi
  refine ⟨s, by rw [hs i hi, h1], ?_⟩
  rcases h2 with h2 | h2 | ⟨x, off, cap, e, blk, g1, g2, g3, g4, g5⟩
  · exact .inl h2
  · exact .inr (.inl h2)
  · exact .inr (.inr ⟨x, off, cap, e, blk, g1, g2, g3, by rw [hset_map, if_neg (by omega), g4], g5⟩)
theorem MkQ.fr {ob hi : Nat} {H H' : Heap} (q : MkQ ob hi H H') {y : Nat} (hy : y ≤ ob ∨ hi ≤ y) : H'.map y = H.map y := by
  rcases q with rfl | ⟨x, blk', cs', q1, q2, q3, q4, rfl⟩
  · rfl
  · rw [hset_map, if_neg (by omega)]
theorem MkQ.nb {ob hi : Nat} {H H' : Heap} (q : MkQ ob hi H H') : H'.nb = H.nb := by
  rcases q with rfl | ⟨x, blk', cs', q1, q2, q3, q4, rfl⟩
  · rfl
  · rw [hset_nb]
theorem NIn.shape {H : Heap} {ob z st fo n fu : Nat} {ex : Bool} {cs T : List SV} {m : Nat → Nat} (h : NIn H ob ex cs (fu + 1) T) (hl : cs.length = n * st) (hf : fo < st) (hT : ∀ i, i < n → ∃ t, T[i * st + fo]? = some (.row (m i) false t) ∧ t.length = m i * z) : NSh H ob H.nb z st fo n m cs ex := by
  refine ⟨h.o, hl, fun i hi => ?_⟩
  obtain ⟨t, h1, h2⟩ := hT i hi
  have hlt : i * st + fo < cs.length := by
    rw [hl]
    have : (i + 1) * st ≤ n * st := Nat.mul_le_mul_right st hi
    rw [Nat.add_mul] at this; omega
  refine ⟨cs[i * st + fo], List.getElem?_eq_getElem hlt, ?_⟩
  have hv := viewL_at (h.vw ⟨fun b => if ob < b ∧ b < H.nb then H.map b else none, H.nb⟩ fun b b1 b2 => if_pos ⟨b1, b2⟩) (List.getElem?_eq_getElem hlt) h1
  exact SlS.of_view (noRowL_get h.nr (List.getElem?_eq_getElem hlt)) h2 hv
/-! ### The marks -/
theorem tm10 (n : Nat) : (n : Int).tmod 10 = ((n % 10 : Nat) : Int) := rfl
theorem td10 (n : Nat) : (n : Int).tdiv 10 = ((n / 10 : Nat) : Int) := rfl
set_option maxHeartbeats 4000000 in
theorem Tryz.markText_e (k : Nat) (hk : k ≤ 4398046511104) : PCallE Tryz.prog 102 [.val (.int .i64 k)] (fun T => ∃ l, T = str l) := by
  refine FCall.pcallE (R := fun r _ => ∃ l, r = str l) ?_ 0 (by rintro r H ⟨l, rfl⟩; exact ⟨_, view_str, l, rfl⟩)
  refine FCall.of_body Tryz.func102 rfl (by kernel_rfl) (by simp [Tryz.ntmps102]) ?_
  refine SW_of_vc Tryz.mixed _ _ _ (by kernel_rfl) ?_
  by_cases h0 : k = 0
  · subst h0
    simp (disch := omega) only [Tryz.ntmps102, Tryz.results102, go_sem]
    exact Fin.val ⟨_, rfl⟩
  simp (disch := omega) only [Tryz.ntmps102, Tryz.results102, go_sem]
  refine LoopW.loop (fun y : Nat × List UInt8 × Nat => ⟨ofL [(0, .val (.int .i64 y.1)), (3, str y.2.1)], hp [] y.2.2⟩) (fun y => y.1 + y.2.1.length ≤ k) (fun y => y.1) (k, [], 0) (by simp) (Wk.of (by simp only [go_sem, ↓List.forall_mem_cons, List.not_mem_nil, false_implies, implies_true, and_true, true_and, and_self, ri_eq, Int.natCast_add, Int.cast_ofNat_Int]; try simp) rfl) ?_
  rintro ⟨n, out, nb⟩ hy
  simp only at hy
  refine SW_of_vc Tryz.mixed _ _ _ (by kernel_rfl) ?_
  by_cases hn : 0 < n
  · have h10 : n % 10 < 10 := Nat.mod_lt _ (by omega)
    have hd : n / 10 < n := Nat.div_lt_self hn (by omega)
    have hw : IntKind.u8.wrap (48 + ((n % 10 : Nat) : Int)) = ((48 + n % 10 : Nat) : Int) := by rw [wrap8_id (by omega) (by omega)]; omega
    have t1 := tm10 n
    have t2 := td10 n
    generalize n % 10 = q at *
    generalize n / 10 = d at *
    simp (disch := omega) only [Tryz.ntmps102, Tryz.results102, go_sem, t1, t2, hw]
    exact ⟨(d, UInt8.ofNat (48 + q) :: out, nb + 1), by simp only [List.length_cons]; omega, hd, Wk.ofH (by simp only [go_sem, ↓List.forall_mem_cons, List.not_mem_nil, false_implies, implies_true, and_true, true_and, and_self, ri_eq, Int.natCast_add, Int.cast_ofNat_Int]; try simp) (by simp) (Nat.le_refl _)⟩
  · simp (disch := omega) only [Tryz.ntmps102, Tryz.results102, go_sem]
    exact Fin.val ⟨_, rfl⟩
def MrQ (ob hi : Nat) (H : Heap) (k : Nat) (r : SV) (H' : Heap) : Prop := r = .val (.int .i64 k) ∧ MkQ ob hi H H'
set_option maxHeartbeats 4000000 in
theorem Tryz.markStringS_ok (H : Heap) (ob hi m k : Nat) (s : SV) (h : SlS H ob hi 1 m s) (hm : m ≤ 1099511627776) (hk : k ≤ 1099511627776) :
    CallS Tryz.prog 56 [s, .val (.int .i64 k)] H (MrQ ob hi H (k + m)) := by
  refine CallS.of_body Tryz.func56 rfl (by kernel_rfl) (by simp [Tryz.ntmps56]) ?_
  refine SW_of_vc Tryz.mixed _ _ _ (by kernel_rfl) ?_
  rcases h with ⟨rfl, rfl⟩ | ⟨x, off, cap, z', ex, rfl, rfl⟩ | ⟨x, off, cap, ex, blk, rfl, h1, h2, h3, h4⟩
  · simp (disch := omega) only [Tryz.ntmps56, Tryz.results56, go_sem]
    refine LoopW.loop (fun _ : Unit => ⟨ofL [(0, .val (.slice none 0 0)), (1, .val (.int .i64 k)), (5, .val (.int .i64 0))], H⟩) (fun _ => True) (fun _ => 0) () trivial (Wk.of (by simp only [go_sem, ↓List.forall_mem_cons, List.not_mem_nil, false_implies, implies_true, and_true, true_and, and_self, ri_eq, Int.natCast_add, Int.cast_ofNat_Int]; try simp) rfl) ?_
    intro _ _
    refine SW_of_vc Tryz.mixed _ _ _ (by kernel_rfl) ?_
    simp (disch := omega) only [Tryz.ntmps56, Tryz.results56, go_sem]
    exact ⟨rfl, .inl rfl⟩
  · simp (disch := omega) only [Tryz.ntmps56, Tryz.results56, go_sem]
    refine LoopW.loop (fun _ : Unit => ⟨ofL [(0, .own x off 0 cap z' ex), (1, .val (.int .i64 k)), (5, .val (.int .i64 0))], H⟩) (fun _ => True) (fun _ => 0) () trivial (Wk.of (by simp only [go_sem, ↓List.forall_mem_cons, List.not_mem_nil, false_implies, implies_true, and_true, true_and, and_self, ri_eq, Int.natCast_add, Int.cast_ofNat_Int]; try simp) rfl) ?_
    intro _ _
    refine SW_of_vc Tryz.mixed _ _ _ (by kernel_rfl) ?_
    simp (disch := omega) only [Tryz.ntmps56, Tryz.results56, go_sem]
    exact ⟨rfl, .inl rfl⟩
  · simp (disch := omega) only [Tryz.ntmps56, Tryz.results56, go_sem]
    refine LoopW.loop (fun y : Nat × List SV => ⟨ofL [(0, .own x off m cap 1 ex), (1, .val (.int .i64 (k + y.1 : Nat))), (5, .val (.int .i64 y.1))], H.set x (some ⟨y.2, blk.ex⟩)⟩) (fun y => y.1 ≤ m ∧ y.2.length = blk.cells.length) (fun y => m - y.1) (0, blk.cells) ⟨by simp, rfl⟩ (Wk.of (by simp only [go_sem, ↓List.forall_mem_cons, List.not_mem_nil, false_implies, implies_true, and_true, true_and, and_self, ri_eq, Int.natCast_add, Int.cast_ofNat_Int, Nat.add_zero]; try simp) (by rw [Heap.set_self h3])) ?_
    rintro ⟨i, cs⟩ ⟨hi, hl⟩
    simp only at hi hl
    refine SW_of_vc Tryz.mixed _ _ _ (by kernel_rfl) ?_
    by_cases hlt : i < m
    · have hkc : ((k + i : Nat) : Int) + 1 = ((k + (i + 1) : Nat) : Int) := by omega
      have hlo : off + i < cs.length := by omega
      simp (disch := omega) only [Tryz.ntmps56, Tryz.results56, go_sem, Heap.set_at, Heap.set_set, hl]
      refine (Tryz.markText_e (k + i) (by omega)).callE 0 (viewL_cons_of (view_int) viewL_nil_of) ?_
      rintro _ ⟨l, rfl⟩
      simp (disch := omega) only [Tryz.ntmps56, Tryz.results56, go_sem, Heap.set_at, Heap.set_set, hl, hkc]
      exact ⟨(i + 1, cs.set (off + i) (str l)), ⟨hlt, by simp only [List.length_set]; exact hl⟩, by simp only; omega, Wk.of (by simp only [go_sem, ↓List.forall_mem_cons, List.not_mem_nil, false_implies, implies_true, and_true, true_and, and_self, ri_eq, Int.natCast_add, Int.cast_ofNat_Int]; try simp) rfl⟩
    · obtain rfl : i = m := by omega
      simp (disch := omega) only [Tryz.ntmps56, Tryz.results56, go_sem]
      exact ⟨rfl, .inr ⟨x, blk, cs, h1, h2, h3, hl, rfl⟩⟩
set_option maxHeartbeats 4000000 in
theorem Tryz.markTestS_ok (H : Heap) (ob hi m k : Nat) (s : SV) (h : SlS H ob hi 3 m s) (hm : m ≤ 1099511627776) (hk : k ≤ 1099511627776) :
    CallS Tryz.prog 103 [s, .val (.int .i64 k)] H (MrQ ob hi H (k + 3 * m)) := by
  refine CallS.of_body Tryz.func103 rfl (by kernel_rfl) (by simp [Tryz.ntmps103]) ?_
  refine SW_of_vc Tryz.mixed _ _ _ (by kernel_rfl) ?_
  rcases h with ⟨rfl, rfl⟩ | ⟨x, off, cap, z', ex, rfl, rfl⟩ | ⟨x, off, cap, ex, blk, rfl, h1, h2, h3, h4⟩
  · simp (disch := omega) only [Tryz.ntmps103, Tryz.results103, go_sem]
    refine LoopW.loop (fun _ : Unit => ⟨ofL [(0, .val (.slice none 0 0)), (1, .val (.int .i64 k)), (5, .val (.int .i64 0))], H⟩) (fun _ => True) (fun _ => 0) () trivial (Wk.of (by simp only [go_sem, ↓List.forall_mem_cons, List.not_mem_nil, false_implies, implies_true, and_true, true_and, and_self, ri_eq, Int.natCast_add, Int.cast_ofNat_Int]; try simp) rfl) ?_
    intro _ _
    refine SW_of_vc Tryz.mixed _ _ _ (by kernel_rfl) ?_
    simp (disch := omega) only [Tryz.ntmps103, Tryz.results103, go_sem]
    exact ⟨rfl, .inl rfl⟩
  · simp (disch := omega) only [Tryz.ntmps103, Tryz.results103, go_sem]
    refine LoopW.loop (fun _ : Unit => ⟨ofL [(0, .own x off 0 cap z' ex), (1, .val (.int .i64 k)), (5, .val (.int .i64 0))], H⟩) (fun _ => True) (fun _ => 0) () trivial (Wk.of (by simp only [go_sem, ↓List.forall_mem_cons, List.not_mem_nil, false_implies, implies_true, and_true, true_and, and_self, ri_eq, Int.natCast_add, Int.cast_ofNat_Int]; try simp) rfl) ?_
    intro _ _
    refine SW_of_vc Tryz.mixed _ _ _ (by kernel_rfl) ?_
    simp (disch := omega) only [Tryz.ntmps103, Tryz.results103, go_sem]
    exact ⟨rfl, .inl rfl⟩
  · simp (disch := omega) only [Tryz.ntmps103, Tryz.results103, go_sem]
    refine LoopW.loop (fun y : Nat × List SV => ⟨ofL [(0, .own x off m cap 3 ex), (1, .val (.int .i64 (k + 3 * y.1 : Nat))), (5, .val (.int .i64 y.1))], H.set x (some ⟨y.2, blk.ex⟩)⟩) (fun y => y.1 ≤ m ∧ y.2.length = blk.cells.length) (fun y => m - y.1) (0, blk.cells) ⟨by simp, rfl⟩ (Wk.of (by simp only [go_sem, ↓List.forall_mem_cons, List.not_mem_nil, false_implies, implies_true, and_true, true_and, and_self, ri_eq, Int.natCast_add, Int.cast_ofNat_Int, Nat.add_zero, Nat.mul_zero]; try simp) (by rw [Heap.set_self h3])) ?_
    rintro ⟨i, cs⟩ ⟨hi, hl⟩
    simp only at hi hl
    refine SW_of_vc Tryz.mixed _ _ _ (by kernel_rfl) ?_
    by_cases hlt : i < m
    · have hkc : ((k + 3 * i : Nat) : Int) + 1 + 1 + 1 = ((k + 3 * (i + 1) : Nat) : Int) := by omega
      have hlo : off + i * 3 + 2 < cs.length := by omega
      have e3 : ((((k + 3 * i : Nat) : Int) + 1 + 1).tmod 3) = (((k + 3 * i + 2) % 3 : Nat) : Int) := by rw [show ((k + 3 * i : Nat) : Int) + 1 + 1 = ((k + 3 * i + 2 : Nat) : Int) by omega]; rfl
      have hb3 : (k + 3 * i + 2) % 3 < 3 := Nat.mod_lt _ (by omega)
      generalize (k + 3 * i + 2) % 3 = q at *
      simp (disch := omega) only [Tryz.ntmps103, Tryz.results103, go_sem, Heap.set_at, Heap.set_set, hl, hkc, e3, List.length_set]
      exact ⟨(i + 1, _), ⟨hlt, by simp only [List.length_set]; exact hl⟩, by simp only; omega, Wk.of (by simp only [go_sem, ↓List.forall_mem_cons, List.not_mem_nil, false_implies, implies_true, and_true, true_and, and_self, ri_eq, Int.natCast_add, Int.cast_ofNat_Int]; try simp) rfl⟩
    · obtain rfl : i = m := by omega
      simp (disch := omega) only [Tryz.ntmps103, Tryz.results103, go_sem]
      exact ⟨rfl, .inr ⟨x, blk, cs, h1, h2, h3, hl, rfl⟩⟩
def MsQ (ob hi : Nat) (H : Heap) (k : Nat) (r : SV) (H' : Heap) : Prop := r = .val (.int .i64 k) ∧ H.nb ≤ H'.nb ∧ ∀ y, y < H.nb → (y < ob ∨ hi ≤ y) → H'.map y = H.map y
/-- A mark over a whole copy. -/
def MaQ (ob hi : Nat) (H : Heap) (k : Nat) (r : SV) (H' : Heap) : Prop := r = .val (.int .i64 k) ∧ H'.nb = H.nb ∧ ∀ y, y < ob ∨ hi ≤ y → H'.map y = H.map y
set_option maxHeartbeats 4000000 in
theorem Tryz.markRuleS_ok (H : Heap) (ob hi n cap k : Nat) (m : Nat → Nat) (cs : List SV) (ex e2 : Bool) (h : NSh H ob hi 3 1 0 n m cs e2) (hn : n ≤ 1048576) (hm : gs m n ≤ 1048576) (hk : k ≤ 1073741824) :
    CallS Tryz.prog 57 [.own ob 0 n cap 1 ex, .val (.int .i64 k)] H (MaQ ob hi H (k + 3 * gs m n)) := by
  refine CallS.of_body Tryz.func57 rfl (by kernel_rfl) (by simp [Tryz.ntmps57]) ?_
  refine SW_of_vc Tryz.mixed _ _ _ (by kernel_rfl) ?_
  simp (disch := omega) only [Tryz.ntmps57, Tryz.results57, go_sem]
  refine LoopW.loop (fun y : Nat × Heap => ⟨ofL [(0, .own ob 0 n cap 1 ex), (1, .val (.int .i64 (k + 3 * gs m y.1 : Nat))), (5, .val (.int .i64 y.1))], y.2⟩) (fun y => y.1 ≤ n ∧ NSh y.2 ob hi 3 1 0 n m cs e2 ∧ y.2.nb = H.nb ∧ ∀ z, z < ob ∨ hi ≤ z → y.2.map z = H.map z) (fun y => n - y.1) (0, H) ⟨by simp, h, rfl, fun _ _ => rfl⟩ (Wk.of (by simp only [go_sem, ↓List.forall_mem_cons, List.not_mem_nil, false_implies, implies_true, and_true, true_and, and_self, ri_eq, Int.natCast_add, Int.cast_ofNat_Int, show gs m 0 = 0 from rfl, Nat.add_zero, Nat.mul_zero]; try simp) rfl) ?_
  rintro ⟨i, H1⟩ ⟨hin, hS, hnb, hf⟩
  simp only at hin hS hnb hf
  have ho := hS.o
  have hl : cs.length = n := by rw [hS.ln, Nat.mul_one]
  refine SW_of_vc Tryz.mixed _ _ _ (by kernel_rfl) ?_
  by_cases hlt : i < n
  · obtain ⟨s, g1, g2⟩ := hS.sl i hlt
    rw [Nat.mul_one, Nat.add_zero] at g1
    have hgl := gs_le m (k := i + 1) (n := n) hlt
    have hgs : gs m (i + 1) = gs m i + m i := rfl
    have w := Tryz.markTestS_ok H1 ob hi (m i) (k + 3 * gs m i) s g2 (by omega) (by omega)
    have e1 : k + 3 * gs m i + 3 * m i = k + 3 * gs m (i + 1) := by omega
    rw [e1] at w
    rcases g2 with ⟨rfl, _⟩ | ⟨x, off, cap', z', ex', rfl, _⟩ | ⟨x, off, cap', ex', blk, rfl, _⟩
    all_goals
      simp (disch := omega) only [Tryz.ntmps57, Tryz.results57, go_sem, ho, hl, g1]
      refine w.callX ?_
      rintro r H2 ⟨rfl, q⟩
      simp (disch := omega) only [Tryz.ntmps57, Tryz.results57, go_sem, ho, hl, g1]
      exact ⟨(i + 1, H2), ⟨hlt, hS.mk2 q, by rw [q.nb, hnb], fun z hz => by rw [q.fr (by omega), hf z hz]⟩, by simp only; omega, Wk.of (by simp only [go_sem, ↓List.forall_mem_cons, List.not_mem_nil, false_implies, implies_true, and_true, true_and, and_self, ri_eq, Int.natCast_add, Int.cast_ofNat_Int]; try simp) rfl⟩
  · obtain rfl : i = n := by omega
    simp (disch := omega) only [Tryz.ntmps57, Tryz.results57, go_sem]
    exact ⟨rfl, hnb, hf⟩
set_option maxHeartbeats 4000000 in
theorem Tryz.markRuleSet_ok (H : Heap) (ob hi n cap k : Nat) (m : Nat → Nat) (cs : List SV) (ex e2 : Bool) (h : NSh H ob hi 3 1 0 n m cs e2) (hhi : hi ≤ H.nb) (hob : ob < H.nb) (hn : n ≤ 1048576) (hm : gs m n ≤ 1048576) (hk : k ≤ 1073741824) :
    CallS Tryz.prog 18 [.agg [.own ob 0 n cap 1 ex], .val (.int .i64 k)] H (MsQ ob hi H (k + 3 * gs m n)) := by
  refine CallS.of_body Tryz.func18 rfl (by kernel_rfl) (by simp [Tryz.ntmps18]) ?_
  refine SW_of_vc Tryz.mixed _ _ _ (by kernel_rfl) ?_
  have h2 : NSh (H.push ⟨[.own ob 0 n cap 1 ex], true⟩) ob hi 3 1 0 n m cs e2 := by
    refine ⟨by rw [hpush_map, if_neg (by omega), h.o], h.ln, fun i hi2 => ?_⟩
    obtain ⟨s, g1, g2⟩ := h.sl i hi2
    refine ⟨s, g1, ?_⟩
    rcases g2 with g2 | g2 | ⟨x, off, cap', ex', blk, g3, g4, g5, g6, g7⟩
    · exact .inl g2
    · exact .inr (.inl g2)
    · exact .inr (.inr ⟨x, off, cap', ex', blk, g3, g4, g5, by rw [hpush_map, if_neg (by omega), g6], g7⟩)
  have w := Tryz.markRuleS_ok _ ob hi n cap k m cs ex e2 h2 hn hm hk
  simp (disch := omega) only [Tryz.ntmps18, Tryz.results18, go_sem, hpush_map, hpush_nb]
  refine w.callX ?_
  rintro r H2 ⟨rfl, q1, q2⟩
  simp (disch := omega) only [Tryz.ntmps18, Tryz.results18, go_sem, hpush_map, hpush_nb]
  refine ⟨rfl, by rw [q1, hpush_nb]; omega, fun y hy hz => ?_⟩
  rw [q2 y hz, hpush_map, if_neg (by omega)]
set_option maxRecDepth 20000 in
set_option maxHeartbeats 8000000 in
theorem Tryz.markRecordS_ok (H : Heap) (ob hi n cap k : Nat) (m : Nat → Nat) (cs : List SV) (ex e2 : Bool) (h : NSh H ob hi 1 4 3 n m cs e2) (hobh : ob < hi) (hn : n ≤ 1048576) (hm : gs m n ≤ 1048576) (hk : k ≤ 1073741824) :
    CallS Tryz.prog 17 [.own ob 0 n cap 4 ex, .val (.int .i64 k)] H (MaQ ob hi H (k + 3 * n + gs m n)) := by
  refine CallS.of_body Tryz.func17 rfl (by kernel_rfl) (by simp [Tryz.ntmps17]) ?_
  refine SW_of_vc Tryz.mixed _ _ _ (by kernel_rfl) ?_
  simp (disch := omega) only [Tryz.ntmps17, Tryz.results17, go_sem]
  refine LoopW.loop (fun y : Nat × List SV × Heap => ⟨ofL [(0, .own ob 0 n cap 4 ex), (1, .val (.int .i64 (k + 3 * y.1 + gs m y.1 : Nat))), (5, .val (.int .i64 y.1))], y.2.2⟩) (fun y => y.1 ≤ n ∧ NSh y.2.2 ob hi 1 4 3 n m y.2.1 e2 ∧ y.2.2.nb = H.nb ∧ ∀ z, z < ob ∨ hi ≤ z → y.2.2.map z = H.map z) (fun y => n - y.1) (0, cs, H) ⟨by simp, h, rfl, fun _ _ => rfl⟩ (Wk.of (by simp only [go_sem, ↓List.forall_mem_cons, List.not_mem_nil, false_implies, implies_true, and_true, true_and, and_self, ri_eq, Int.natCast_add, Int.cast_ofNat_Int, show gs m 0 = 0 from rfl, Nat.add_zero, Nat.mul_zero]; try simp) rfl) ?_
  rintro ⟨i, cs, H1⟩ ⟨hin, hS, hnb, hf⟩
  simp only at hin hS hnb hf
  have ho := hS.o
  have hl := hS.ln
  refine SW_of_vc Tryz.mixed _ _ _ (by kernel_rfl) ?_
  by_cases hlt : i < n
  · obtain ⟨s, g1, g2⟩ := hS.sl i hlt
    have hgl := gs_le m (k := i + 1) (n := n) hlt
    have hgs : gs m (i + 1) = gs m i + m i := rfl
    have hc1 : ((k + 3 * i + gs m i : Nat) : Int) + 1 + 1 + 1 = ((k + 3 * i + gs m i + 3 : Nat) : Int) := by omega
    have hk1 : ∀ a b c : SV, (((cs.set (i * 4) a).set (i * 4 + 1) b).set (i * 4 + 2) c)[i * 4 + 3]? = some s := fun a b c => by
      rw [List.getElem?_set_ne (by omega), List.getElem?_set_ne (by omega), List.getElem?_set_ne (by omega), g1]
    have hS2 : ∀ a b c : SV, NSh (H1.set ob (some ⟨((cs.set (i * 4) a).set (i * 4 + 1) b).set (i * 4 + 2) c, e2⟩)) ob hi 1 4 3 n m (((cs.set (i * 4) a).set (i * 4 + 1) b).set (i * 4 + 2) c) e2 := fun a b c =>
      hS.outer (by simp only [List.length_set]) (fun j hj => by
        rw [List.getElem?_set_ne (by omega), List.getElem?_set_ne (by omega), List.getElem?_set_ne (by omega)])
    have hS3 := hS2 (.val (.int .i64 ((k + 3 * i + gs m i : Nat) : Int))) (.val (.int .i64 (((k + 3 * i + gs m i : Nat) : Int) + 1))) (.val (.int .i64 (((k + 3 * i + gs m i : Nat) : Int) + 1 + 1)))
    obtain ⟨s', g1', g2'⟩ := hS3.sl i hlt
    rw [hk1] at g1'
    obtain rfl : s = s' := by simpa using g1'
    have w := Tryz.markStringS_ok _ ob hi (m i) (k + 3 * i + gs m i + 3) s g2' (by omega) (by omega)
    have e1 : k + 3 * i + gs m i + 3 + m i = k + 3 * (i + 1) + gs m (i + 1) := by omega
    rw [e1] at w
    clear hS2 g2 g1' g1
    rcases g2' with ⟨rfl, _⟩ | ⟨x, off, cap', z', ex', rfl, _⟩ | ⟨x, off, cap', ex', blk, rfl, _⟩
    all_goals
      simp (disch := omega) only [Tryz.ntmps17, Tryz.results17, go_sem, ho, hl, hk1, hc1, Heap.set_at, Heap.set_set, List.length_set]
      refine w.callX ?_
      rintro r H2 ⟨rfl, q⟩
      simp (disch := omega) only [Tryz.ntmps17, Tryz.results17, go_sem, ho, hl]
      exact ⟨(i + 1, _, H2), ⟨hlt, hS3.mk2 q, by rw [q.nb, hset_nb, hnb], fun z hz => by rw [q.fr (by omega), hset_map, if_neg (by omega), hf z hz]⟩, by simp only; omega, Wk.of (by simp only [go_sem, ↓List.forall_mem_cons, List.not_mem_nil, false_implies, implies_true, and_true, true_and, and_self, ri_eq, Int.natCast_add, Int.cast_ofNat_Int]; try simp) rfl⟩
  · obtain rfl : i = n := by omega
    simp (disch := omega) only [Tryz.ntmps17, Tryz.results17, go_sem]
    exact ⟨rfl, hnb, hf⟩
end Go.Sh

/-
  Scorings copied and written over; copies seen later.
-/
namespace Go.Sh
set_option linter.unusedSimpArgs false
set_option linter.unusedVariables false
open Go Go.Proofs

theorem NIn.viewF {H H1 : Heap} {ob n z cap : Nat} {ex e : Bool} {cs : List SV} {fu : Nat} {T : List SV} (h : NIn H ob ex cs fu T) (hl : cs.length = n * z) (hm : ∀ b, ob ≤ b → b < H.nb → H1.map b = H.map b) : Sh.view H1 (fu + 1) (.own ob 0 n cap z e) = some (.row n false T) := by
  have ho : H1.map ob = some ⟨cs, ex⟩ := by rw [hm ob (Nat.le_refl _) h.lt, h.o]
  simp only [Sh.view, ho, List.drop_zero, Nat.zero_add, hl, Nat.le_refl, if_true]
  rw [← hl, List.take_length, h.vw H1 fun b b1 b2 => hm b (by omega) b2]
theorem NSh.fr {H H1 : Heap} {ob hi z st fo n : Nat} {m : Nat → Nat} {cs : List SV} {ex : Bool} (h : NSh H ob hi z st fo n m cs ex) (ho : ob < hi) (hm : ∀ b, ob ≤ b → b < hi → H1.map b = H.map b) : NSh H1 ob hi z st fo n m cs ex := by
  refine ⟨by rw [hm ob (Nat.le_refl _) ho, h.o], h.ln, fun i hi2 => ?_⟩
  obtain ⟨s, g1, g2⟩ := h.sl i hi2
  refine ⟨s, g1, ?_⟩
  rcases g2 with g2 | g2 | ⟨x, off, cap', ex', blk, g3, g4, g5, g6, g7⟩
  · exact .inl g2
  · exact .inr (.inl g2)
  · exact .inr (.inr ⟨x, off, cap', ex', blk, g3, g4, g5, by rw [hm x (by omega) g5, g6], g7⟩)
theorem Tryz.toRecordS_ok (R : List Rec) (hR : LR R) : PCall Tryz.prog 9 [rREC R] (rREC R) :=
  (Tryz.toRecordS_n R hR).pcall 4 (by rintro r H ⟨ob, ex, cs, rfl, hl, hN⟩; exact hN.view hl)
theorem Tryz.toScoring_n (L : List Int) (a : Int) (hL : L.length ≤ 1048576) : FCall Tryz.prog 11 [sS L a] (NRes (fun s => .agg [s, .val (.int .i64 a)]) L.length 1 2 (ints L)) := by
  refine FCall.of_body Tryz.func11 rfl (by kernel_rfl) (by simp [Tryz.ntmps11]) ?_
  refine SW_of_vc Tryz.mixed _ _ _ (by kernel_rfl) ?_
  simp (disch := omega) only [Tryz.ntmps11, Tryz.results11, go_sem]
  refine (Tryz.toIntS_one L hL).callOne (ints_vals L) 0 (viewL_cons_of (view_rowL (by first | rfl | simp [marks_length, canon_length] | omega)) viewL_nil_of) ?_
  simp (disch := omega) only [Tryz.ntmps11, Tryz.results11, go_sem]
  exact fin_N (wr := fun s => .agg [s, .val (.int .i64 a)]) (ex := false) (cs := ints L) (fun _ _ => by simp only [shift, shiftL]) (fun s h => by simp only [noRow, noRowL, h, Bool.and_true]) ⟨by first | rfl | simp [hp, hmap], noRowL_ints L, fun _ _ => viewL_ints _ _ _, fun b blk b1 b2 hb => by simp [hp] at b2; omega, by simp [hp]⟩ (by rw [ints_length, Nat.mul_one])
set_option maxHeartbeats 2000000 in
theorem Tryz.markScoring_ok (H : Heap) (ob cap k : Nat) (L : List Int) (a : Int) (ex e2 : Bool) (h : H.map ob = some ⟨ints L, e2⟩) (hob : ob < H.nb) (hL : L.length ≤ 1048576) (hk : k ≤ 1073741824) :
    CallS Tryz.prog 19 [.agg [.own ob 0 L.length cap 1 ex, .val (.int .i64 a)], .val (.int .i64 k)] H (MsQ ob (ob + 1) H (k + L.length)) := by
  refine CallS.of_body Tryz.func19 rfl (by kernel_rfl) (by simp [Tryz.ntmps19]) ?_
  refine SW_of_vc Tryz.mixed _ _ _ (by kernel_rfl) ?_
  have w := Tryz.markIntS_ok L k (H.push ⟨[.own ob 0 L.length cap 1 ex, .val (.int .i64 a)], true⟩) ob L.length cap ex e2 (by rw [hpush_map, if_neg (by omega), h]) rfl (by omega) (by omega) (by omega)
  have e1 : (k : Int) + L.length = ((k + L.length : Nat) : Int) := by omega
  rw [e1] at w
  simp (disch := omega) only [Tryz.ntmps19, Tryz.results19, go_sem, hpush_map, hpush_nb]
  refine w.callDet ?_
  simp (disch := omega) only [Tryz.ntmps19, Tryz.results19, go_sem, hpush_map, hpush_nb]
  refine ⟨rfl, by simp only [hset_nb, hpush_nb]; omega, fun y hy hz => ?_⟩
  simp (disch := omega) only [hset_map, hpush_map, hset_nb, hpush_nb, if_pos, if_neg, ↓reduceIte]
theorem entIn_push {H : Heap} {R : List (List SV)} : EntIn (H.pushM R) (.mat H.nb R) := by
  intro x h1 h2
  simp only [Heap.pushM]
  rw [if_pos ⟨h1, h2⟩]
theorem pushM_low {H : Heap} {R : List (List SV)} {b : Nat} (h : b < H.nb) : (H.pushM R).map b = H.map b := by
  simp only [Heap.pushM]
  rw [if_neg (by omega)]
theorem EntIn.fr {H H1 : Heap} {b : Nat} {R : List (List SV)} (h : EntIn H (.mat b R)) (hm : ∀ x, b ≤ x → x ≤ b + R.length → H1.map x = H.map x) : EntIn H1 (.mat b R) := by
  intro x h1 h2
  rw [hm x h1 h2]; exact h x h1 h2
theorem view_val_inv {H : Heap} {f : Nat} {s : SV} {k : IntKind} {x : Int} (h : view H f s = some (.val (.int k x))) : s = .val (.int k x) := by
  cases s with
  | val v =>
    cases f
    all_goals
      simp only [view, viewV] at h
      split at h
      · simp at h
      · simpa using h
  | undef => cases f <;> simp [view] at h
  | row _ _ _ => cases f <;> simp [view] at h
  | rptr _ _ => cases f <;> simp [view] at h
  | own b off n cap z ex =>
    cases f
    · simp [view] at h
    · simp only [view] at h
      split at h
      · split at h
        · split at h <;> simp at h
        · simp at h
      · simp at h
  | optr b off =>
    cases f
    · simp [view] at h
    · simp only [view] at h
      split at h
      · split at h <;> simp at h
      · simp at h
  | agg cs =>
    cases f
    · simp [view] at h
    · simp only [view] at h; split at h <;> simp at h
  | tup cs =>
    cases f
    · simp [view] at h
    · simp only [view] at h; split at h <;> simp at h
  | clos a b c =>
    cases f
    · simp [view] at h
    · simp only [view] at h; split at h <;> simp at h
  | iface a b =>
    cases f
    · simp [view] at h
    · simp only [view] at h; split at h <;> simp at h
theorem viewL_ints_inv {H : Heap} {f : Nat} {cs : List SV} {L : List Int} (h : viewL H f cs = some (ints L)) : cs = ints L := by
  have hl := viewL_len h
  apply List.ext_getElem?
  intro i
  by_cases hi : i < cs.length
  · have h1 : cs[i]? = some cs[i] := List.getElem?_eq_getElem hi
    have h2 : (ints L)[i]? = some (.val (.int .i64 (L.getD i 0))) := ints_get (by rw [← ints_length, hl]; exact hi)
    have h3 := view_val_inv (viewL_at h h1 h2)
    rw [h1, h2, h3]
  · rw [List.getElem?_eq_none (by omega), List.getElem?_eq_none (by omega)]
theorem gs_mono2 {m m' : Nat → Nat} : ∀ n, (∀ i, i < n → m i ≤ m' i) → gs m n ≤ gs m' n
  | 0, _ => Nat.le_refl _
  | n + 1, h => by
    have h1 := gs_mono2 n (fun i hi => h i (by omega))
    have h2 := h n (by omega)
    show gs m n + m n ≤ gs m' n + m' n
    omega
theorem recs_fld {R : List Rec} {i : Nat} (h : i < R.length) : (recs R)[i * 4 + 3]? = some (.row (gR R i).2.2.2.length false (strs (gR R i).2.2.2)) := by
  have e := recs_load h
  have e2 : (((recs R).drop (i * 4)).take 4)[3]? = (recs R)[i * 4 + 3]? := by rw [List.getElem?_take_of_lt (by omega), List.getElem?_drop]
  rw [← e2, e]; rfl
theorem rsum_gs (Q : List (List Con)) : ∀ k, k ≤ Q.length → (gs (fun i => (rg Q i).length) k : Int) = rsum Q k
  | 0, _ => rfl
  | k + 1, h => by
    have h1 := rsum_gs Q k (by omega)
    have h2 := rsum_succ (R := Q) (k := k) h
    have h3 : gs (fun i => (rg Q i).length) (k + 1) = gs (fun i => (rg Q i).length) k + (rg Q k).length := rfl
    omega
theorem msum_sq {n : Nat} {M : List (List Int)} (h : SqI n M) : ∀ k, k ≤ n → msum M k = (k : Int) * n
  | 0, _ => by simp [msum]
  | k + 1, hk => by
    rw [msum_succ (by rw [h.1]; omega), msum_sq h k (by omega), h.2 k (by omega), Int.natCast_add, Int.add_mul]; simp
theorem entIn_consE {H : Heap} {b : Nat} {R : List (List SV)} : EntIn (consE (.mat b R) H) (.mat b R) := by
  intro x h1 h2
  simp only [consE]
  rw [if_pos ⟨h1, h2⟩]
theorem consE_low {H : Heap} {b x : Nat} {R : List (List SV)} (h : x < b) : (consE (.mat b R) H).map x = H.map x := by
  simp only [consE]
  rw [if_neg (by omega)]
end Go.Sh

/-
  Plain law of the edit distance: the two tables agree.
-/
namespace Go.Sh
set_option linter.unusedSimpArgs false
set_option linter.unusedVariables false
open Go

/-- The distance of the first i and j bytes, as the reference reckons it. -/
def ed (a b : List UInt8) : Nat → Nat → Nat
  | 0, j => j
  | i + 1, 0 => i + 1
  | i + 1, j + 1 => if a.getD i 0 = b.getD j 0 then ed a b i j else 1 + min (min (ed a b i (j + 1)) (ed a b (i + 1) j)) (ed a b i j)
theorem ed_r0 (a b : List UInt8) (i : Nat) : ed a b i 0 = i := by cases i <;> simp [ed]
theorem ed_0 (a b : List UInt8) (j : Nat) : ed a b 0 j = j := by simp [ed]
theorem ed_eq {a b : List UInt8} {i j : Nat} (h : a.getD i 0 = b.getD j 0) : ed a b (i + 1) (j + 1) = ed a b i j := by rw [ed, if_pos h]
theorem ed_ne {a b : List UInt8} {i j : Nat} (h : a.getD i 0 ≠ b.getD j 0) : ed a b (i + 1) (j + 1) = 1 + min (min (ed a b i (j + 1)) (ed a b (i + 1) j)) (ed a b i j) := by rw [ed, if_neg h]
theorem ed_near (a b : List UInt8) : ∀ n i j, i + j ≤ n → ed a b (i + 1) j ≤ ed a b i j + 1 ∧ ed a b i (j + 1) ≤ ed a b i j + 1 ∧ ed a b i j ≤ ed a b (i + 1) j + 1 ∧ ed a b i j ≤ ed a b i (j + 1) + 1
  | 0, i, j, h => by
    obtain ⟨rfl, rfl⟩ : i = 0 ∧ j = 0 := by omega
    simp [ed_0, ed_r0]
  | n + 1, i, j, h => by
    have ih := ed_near a b n
    refine ⟨?_, ?_, ?_, ?_⟩
    · cases j with
      | zero => rw [ed_r0, ed_r0]; omega
      | succ j =>
        obtain ⟨i1, i2, i3, i4⟩ := ih i j (by omega)
        by_cases hc : a.getD i 0 = b.getD j 0
        · rw [ed_eq hc]; omega
        · rw [ed_ne hc]; omega
    · cases i with
      | zero => rw [ed_0, ed_0]; omega
      | succ i =>
        obtain ⟨i1, i2, i3, i4⟩ := ih i j (by omega)
        by_cases hc : a.getD i 0 = b.getD j 0
        · rw [ed_eq hc]; omega
        · rw [ed_ne hc]; omega
    · cases j with
      | zero => rw [ed_r0, ed_r0]; omega
      | succ j =>
        obtain ⟨i1, i2, i3, i4⟩ := ih i j (by omega)
        by_cases hc : a.getD i 0 = b.getD j 0
        · rw [ed_eq hc]; omega
        · rw [ed_ne hc]; omega
    · cases i with
      | zero => rw [ed_0, ed_0]; omega
      | succ i =>
        obtain ⟨i1, i2, i3, i4⟩ := ih i j (by omega)
        by_cases hc : a.getD i 0 = b.getD j 0
        · rw [ed_eq hc]; omega
        · rw [ed_ne hc]; omega
/-- As the program reckons it. -/
theorem ed_impl (a b : List UInt8) (i j : Nat) : ed a b (i + 1) (j + 1) = min (min (ed a b i (j + 1) + 1) (ed a b (i + 1) j + 1)) (ed a b i j + (if a.getD i 0 = b.getD j 0 then 0 else 1)) := by
  obtain ⟨i1, i2, i3, i4⟩ := ed_near a b (i + j) i j (Nat.le_refl _)
  by_cases hc : a.getD i 0 = b.getD j 0
  · rw [ed_eq hc, if_pos hc]; omega
  · rw [ed_ne hc, if_neg hc]; omega
theorem ed_le (a b : List UInt8) : ∀ i j, ed a b i j ≤ i + j
  | 0, j => by rw [ed_0]; omega
  | i + 1, 0 => by rw [ed_r0]; omega
  | i + 1, j + 1 => by
    have h1 := ed_le a b i j
    by_cases hc : a.getD i 0 = b.getD j 0
    · rw [ed_eq hc]; omega
    · rw [ed_ne hc]; omega
/-- The distance of two texts, as both return it. -/
def dist (a b : List UInt8) : Int := if a.length ≤ 40 ∧ b.length ≤ 40 then (ed a b a.length b.length : Int) else -1
def escore (a b : List UInt8) : Int := if dist a b < 0 then 0 else if max a.length b.length = 0 then 1000 else (1000 * (((max a.length b.length : Nat) : Int) - dist a b)).tdiv ((max a.length b.length : Nat) : Int)
end Go.Sh

/-
  Plain law: the sound of a word.
-/
namespace Go.Sh
set_option linter.unusedSimpArgs false
set_option linter.unusedVariables false
open Go Go.Proofs

def scTab : List Int := [0, 1, 2, 3, 0, 1, 2, -1, 0, 2, 2, 4, 5, 5, 0, 1, 2, 6, 2, 3, 0, 1, -1, 2, 0, 2]
def scode (c : UInt8) : Int := if isSm c = true then scTab.getD (c.toNat - 97) 0 else -2
theorem scTab_b : ∀ k, k < 26 → -1 ≤ scTab.getD k 0 ∧ scTab.getD k 0 ≤ 6 := by decide
theorem sm_b {c : UInt8} (h : isSm c = true) : 97 ≤ c.toNat ∧ c.toNat ≤ 122 := by simpa only [isSm, Bool.and_eq_true, decide_eq_true_eq] using h
theorem dg_b {c : UInt8} (h : isDg c = true) : 48 ≤ c.toNat ∧ c.toNat ≤ 57 := by simpa only [isDg, Bool.and_eq_true, decide_eq_true_eq] using h
theorem scode_t {c : UInt8} (h : isSm c = true) : -1 ≤ scode c ∧ scode c ≤ 6 := by
  have := sm_b h
  rw [scode, if_pos h]
  exact scTab_b _ (by omega)
theorem scode_f {c : UInt8} (h : isSm c = false) : scode c = -2 := by rw [scode, if_neg (by simp [h])]
def sdg (c : UInt8) : UInt8 := UInt8.ofNat (48 + (scode c).toNat)
def sxs (p : List UInt8 × Int) (c : UInt8) : List UInt8 × Int := (if 0 < scode c ∧ scode c ≠ p.2 then p.1 ++ [sdg c] else p.1, if 0 ≤ scode c then scode c else p.2)
/-- What has been read of a word: the code so far, the last number. -/
def sx (w : Wd) (k : Nat) : List UInt8 × Int := ((w.take k).drop 1).foldl sxs ([w.getD 0 0], scode (w.getD 0 0))
theorem sx_1 (w : Wd) : sx w 1 = ([w.getD 0 0], scode (w.getD 0 0)) := by
  have : (w.take 1).drop 1 = [] := List.eq_nil_of_length_eq_zero (by simp)
  rw [sx, this]; rfl
theorem sx_0 (w : Wd) : sx w 0 = ([w.getD 0 0], scode (w.getD 0 0)) := rfl
theorem sx_succ {w : Wd} {k : Nat} (h1 : 1 ≤ k) (h : k < w.length) : sx w (k + 1) = sxs (sx w k) (w.getD k 0) := by
  rw [sx, take_at 0 h, List.drop_append, List.length_take, show 1 - min k w.length = 0 by omega, List.drop_zero, List.foldl_append]
  rfl
theorem sdg_nat {c : UInt8} (h : -1 ≤ scode c ∧ scode c ≤ 6) : ((sdg c).toNat : Int) = if 0 ≤ scode c then 48 + scode c else 48 := by
  rw [sdg, UInt8.toNat_ofNat']
  split <;> omega
theorem sdg_dg {c : UInt8} (h : scode c ≤ 6) : isDg (sdg c) = true := by
  have e : (sdg c).toNat = 48 + (scode c).toNat := by rw [sdg, UInt8.toNat_ofNat']; omega
  rw [isDg, Bool.and_eq_true, decide_eq_true_eq, decide_eq_true_eq, e]
  omega
theorem scode_le (c : UInt8) : scode c ≤ 6 := by
  cases h : isSm c with
  | true => exact (scode_t h).2
  | false => rw [scode_f h]; omega
theorem sx_len (w : Wd) : ∀ k, 1 ≤ (sx w k).1.length ∧ (sx w k).1.length ≤ k + 1
  | 0 => by rw [sx_0]; exact ⟨Nat.le_refl _, Nat.le_refl _⟩
  | k + 1 => by
    have ih := sx_len w k
    rcases Nat.eq_zero_or_pos k with rfl | hk
    · rw [sx_1]; simp
    · rcases Nat.lt_or_ge k w.length with h | h
      · rw [sx_succ hk h, sxs]
        simp only
        split
        · simp; omega
        · omega
      · have : w.take (k + 1) = w.take k := by rw [List.take_of_length_le (by omega), List.take_of_length_le h]
        rw [show sx w (k + 1) = sx w k by rw [sx, sx, this]]; omega
theorem sx_mem {w : Wd} (h : w.all isSm = true) (h0 : w ≠ []) : ∀ k, ∀ c ∈ (sx w k).1, (isSm c || isDg c) = true
  | 0, c, hc => by
    rw [sx_0] at hc
    simp only [List.mem_singleton] at hc
    subst hc
    have hl := List.length_pos_iff.2 h0
    have : isSm (w.getD 0 0) = true := (all_getD 0).1 h 0 hl
    rw [this]; rfl
  | k + 1, c, hc => by
    rcases Nat.eq_zero_or_pos k with rfl | hk
    · rw [sx_1, ← sx_0] at hc; exact sx_mem h h0 0 c hc
    · rcases Nat.lt_or_ge k w.length with hl | hl
      · rw [sx_succ hk hl, sxs] at hc
        simp only at hc
        split at hc
        · rcases List.mem_append.1 hc with hc | hc
          · exact sx_mem h h0 k c hc
          · simp only [List.mem_singleton] at hc
            subst hc
            rw [sdg_dg (scode_le _), Bool.or_true]
        · exact sx_mem h h0 k c hc
      · have : w.take (k + 1) = w.take k := by rw [List.take_of_length_le (by omega), List.take_of_length_le hl]
        rw [show sx w (k + 1) = sx w k by rw [sx, sx, this]] at hc
        exact sx_mem h h0 k c hc
/-- The code of a word, [] if there is none. -/
def sdx (w : Wd) : Wd := if w.all isSm = true then ((sx w w.length).1 ++ [48, 48, 48]).take 4 else []
theorem sdx_len {w : Wd} (h : w.all isSm = true) : (sdx w).length = 4 := by
  have := (sx_len w w.length).1
  rw [sdx, if_pos h, List.length_take, List.length_append]
  simp; omega
theorem sdx_le (w : Wd) : (sdx w).length ≤ 4 := by
  cases h : w.all isSm with
  | true => rw [sdx_len h]; exact Nat.le_refl _
  | false => rw [sdx, if_neg (by simp [h])]; simp
theorem sdx_tk {w : Wd} (h0 : w ≠ []) (hn : sdx w ≠ []) : isTk (sdx w) = true := by
  have h : w.all isSm = true := by
    cases h : w.all isSm with
    | true => rfl
    | false => exact absurd (by rw [sdx, if_neg (by simp [h])]) hn
  rw [isTk, Bool.and_eq_true, bne_iff_ne, List.all_eq_true]
  refine ⟨hn, fun c hc => ?_⟩
  rw [sdx, if_pos h] at hc
  rcases List.mem_append.1 (List.mem_of_mem_take hc) with g | g
  · exact sx_mem h h0 _ c g
  · simp only [List.mem_cons, List.not_mem_nil, or_false, or_self] at g
    subst g; rfl
/-- The codes of all words of a text. -/
def skl (L : List Wd) : List Wd := (L.map sdx).filter fun k => k != []
def sks (s : List UInt8) : List Wd := sset (skl (sset (wds (nrm s))))
def tks (s : List UInt8) : List Wd := sset (wds (nrm s))
/-- A set of words. -/
def TS (L : List Wd) : Prop := Asc L ∧ ∀ w ∈ L, isTk w = true
theorem tks_ts (s : List UInt8) : TS (tks s) := ⟨sset_asc _, fun w hw => wds_nrm (sset_mem.1 hw)⟩
theorem tk_ne {w : Wd} (h : isTk w = true) : w ≠ [] := by
  rw [isTk, Bool.and_eq_true, bne_iff_ne] at h; exact h.1
theorem sks_ts (s : List UInt8) : TS (sks s) := ⟨sset_asc _, fun w hw => by
  obtain ⟨h1, h2⟩ := List.mem_filter.1 (sset_mem.1 hw)
  obtain ⟨x, hx, rfl⟩ := List.mem_map.1 h1
  exact sdx_tk (tk_ne ((tks_ts s).2 x hx)) (bne_iff_ne.1 h2)⟩
theorem tk_c {w : Wd} (h : isTk w = true) {k : Nat} (hk : k < w.length) : (isSm (w.getD k 0) || isDg (w.getD k 0)) = true := by
  rw [isTk, Bool.and_eq_true] at h
  exact (all_getD (p := fun c => isSm c || isDg c) 0).1 h.2 k hk
theorem tkc_nc {c : UInt8} (h : (isSm c || isDg c) = true) : isCp c = false := by
  rw [isCp, Bool.and_eq_false_iff, decide_eq_false_iff_not, decide_eq_false_iff_not]
  rcases Bool.or_eq_true_iff.1 h with g | g
  · have := sm_b g; omega
  · have := dg_b g; omega
theorem tk_fold {w : Wd} (h : isTk w = true) : w.map fc = w := by
  rw [isTk, Bool.and_eq_true, List.all_eq_true] at h
  conv => rhs; rw [← List.map_id w]
  exact List.map_congr_left fun c hc => by
    rw [fc, if_neg (by rw [tkc_nc (h.2 c hc)]; simp)]; rfl
theorem tk_wd {c : UInt8} (h : (isSm c || isDg c) = true) : isWd c = true := by
  rw [isWd]
  rcases Bool.or_eq_true_iff.1 h with g | g <;> rw [g] <;> simp
/-- How much of two sets is common. -/
def jac (A B : List Wd) : Int := if (A.length : Int) + B.length - com A B = 0 then 1000 else (1000 * (com A B : Int)).tdiv ((A.length : Int) + B.length - com A B)
def sts (A B : List Wd) : Int := if A = [] ∨ B = [] then 0 else jac A B
theorem jac_symm {A B : List Wd} (hA : Asc A) (hB : Asc B) : jac A B = jac B A := by
  rw [jac, jac, com_symm hA hB, Int.add_comm (A.length : Int) B.length]
theorem sts_symm {A B : List Wd} (hA : Asc A) (hB : Asc B) : sts A B = sts B A := by
  rw [sts, sts, jac_symm hA hB]; exact ite_congr (propext or_comm) (fun _ => rfl) (fun _ => rfl)
/-- How much of two texts is alike. -/
def tsc (a b : List UInt8) : Int := if nrm a = [] ∨ nrm b = [] then 0 else escore (nrm a) (nrm b)
end Go.Sh
