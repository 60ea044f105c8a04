/-
  Texts put together: J1, Lift, H1, K1, MX, N5, N6, V1, PP1, J2, PP2, V2, N1. What each proves stands at its own head, with its conditions.
-/
import Derived.Test.YtkmckbjgffaieaaDoorZParseMatrix2
import Derived.Test.YtkmckbjgffaieaaDoorRows
import Derived.WalkKit
import Derived.ProofKit
import Derived.OpenShut
import Derived.ShutString
import Derived.ChangeOld
import Derived.Below
import Derived.Deep.Slices

/-
  Contracts: pairs of partitions and their meet. Of the reference and of the program.
-/
namespace Go.Sh
set_option linter.unusedSimpArgs false
set_option linter.unusedVariables false
open Go Go.Proofs

def pairB (A B : List Int) : Bool := isPart A && (isPart B && decide (A.length = B.length))
theorem pairB_t {A B : List Int} (h : pairB A B = true) : isPart A = true ∧ isPart B = true ∧ A.length = B.length := by
  simpa [pairB] using h

theorem okP_bound : ∀ (L : List Int) (nx : Int), okP nx L = true → ∀ i, i < L.length → 0 ≤ L.getD i 0 ∧ L.getD i 0 ≤ nx + i
  | [], nx, _, i, hi => by simp at hi
  | x :: L, nx, h, i, hi => by
    rw [okP, Bool.and_eq_true] at h
    obtain ⟨h1, h2⟩ := inR_of h.1
    match i with
    | 0 => simp; omega
    | i + 1 =>
      have := okP_bound L (max nx (x + 1)) h.2 i (by simpa using hi)
      have e : (x :: L).getD (i + 1) 0 = L.getD i 0 := by simp
      rw [e]
      omega
theorem isPart_len {L : List Int} (h : isPart L = true) : 1 ≤ L.length ∧ L.length ≤ 8 := by
  rw [isPart, Bool.and_eq_true] at h
  have := inR_of h.2
  omega
theorem isPart_bound {L : List Int} (h : isPart L = true) {i : Nat} (hi : i < L.length) : 0 ≤ L.getD i 0 ∧ L.getD i 0 ≤ 7 := by
  have hl := isPart_len h
  rw [isPart, Bool.and_eq_true] at h
  have := okP_bound L 0 h.1 i hi
  omega

theorem Tryd.arePartitions_ok (A B : List Int) (hA : A.length ≤ 1048576) (hB : B.length ≤ 1048576) : PCall Tryd.prog 70 [ri A, ri B] (.val (.bool (pairB A B))) := by
  refine FCall.pcall (R := fun r _ => r = .val (.bool (pairB A B))) ?_ 0 (by rintro r H rfl; exact view_bool)
  refine FCall.of_body Tryd.func70 rfl (by kernel_rfl) (by simp [Tryd.ntmps70]) ?_
  refine SW_of_vc Tryd.mixed _ _ _ (by kernel_rfl) ?_
  have w1 := Tryd.implIsPartition_ok A hA
  have w2 := Tryd.implIsPartition_ok B hB
  rcases Bool.eq_false_or_eq_true (isPart A) with ha | ha
  · rcases Bool.eq_false_or_eq_true (isPart B) with hb | hb
    · rw [ha] at w1
      rw [hb] at w2
      by_cases hl : A.length = B.length
      · simp (disch := omega) only [Tryd.ntmps70, Tryd.results70, go_sem]
        refine w1.callV 0 (viewL_cons_of (view_rowL (by first | rfl | simp [marks_length, canon_length] | omega)) viewL_nil_of) ?_
        simp (disch := omega) only [Tryd.ntmps70, Tryd.results70, go_sem]
        refine w2.callV 0 (viewL_cons_of (view_rowL (by first | rfl | simp [marks_length, canon_length] | omega)) viewL_nil_of) ?_
        simp (disch := omega) only [Tryd.ntmps70, Tryd.results70, go_sem]
        exact Fin.val (by simp [pairB, ha, hb, hl])
      · simp (disch := omega) only [Tryd.ntmps70, Tryd.results70, go_sem]
        refine w1.callV 0 (viewL_cons_of (view_rowL (by first | rfl | simp [marks_length, canon_length] | omega)) viewL_nil_of) ?_
        simp (disch := omega) only [Tryd.ntmps70, Tryd.results70, go_sem]
        refine w2.callV 0 (viewL_cons_of (view_rowL (by first | rfl | simp [marks_length, canon_length] | omega)) viewL_nil_of) ?_
        simp (disch := omega) only [Tryd.ntmps70, Tryd.results70, go_sem]
        exact Fin.val (by simp [pairB, hl])
    · rw [ha] at w1
      rw [hb] at w2
      simp (disch := omega) only [Tryd.ntmps70, Tryd.results70, go_sem]
      refine w1.callV 0 (viewL_cons_of (view_rowL (by first | rfl | simp [marks_length, canon_length] | omega)) viewL_nil_of) ?_
      simp (disch := omega) only [Tryd.ntmps70, Tryd.results70, go_sem]
      refine w2.callV 0 (viewL_cons_of (view_rowL (by first | rfl | simp [marks_length, canon_length] | omega)) viewL_nil_of) ?_
      simp (disch := omega) only [Tryd.ntmps70, Tryd.results70, go_sem]
      exact Fin.val (by simp [pairB, hb])
  · rw [ha] at w1
    simp (disch := omega) only [Tryd.ntmps70, Tryd.results70, go_sem]
    refine w1.callV 0 (viewL_cons_of (view_rowL (by first | rfl | simp [marks_length, canon_length] | omega)) viewL_nil_of) ?_
    simp (disch := omega) only [Tryd.ntmps70, Tryd.results70, go_sem]
    exact Fin.val (by simp [pairB, ha])

theorem Tryd.l19Pair_ok (A B : List Int) (hA : A.length ≤ 1048576) (hB : B.length ≤ 1048576) : PCall Tryd.prog 73 [ri A, ri B] (.val (.bool (pairB A B))) := by
  refine FCall.pcall (R := fun r _ => r = .val (.bool (pairB A B))) ?_ 0 (by rintro r H rfl; exact view_bool)
  refine FCall.of_body Tryd.func73 rfl (by kernel_rfl) (by simp [Tryd.ntmps73]) ?_
  refine SW_of_vc Tryd.mixed _ _ _ (by kernel_rfl) ?_
  have w1 := Tryd.specIsPartition_ok A hA
  have w2 := Tryd.specIsPartition_ok B hB
  rcases Bool.eq_false_or_eq_true (isPart A) with ha | ha
  · rcases Bool.eq_false_or_eq_true (isPart B) with hb | hb
    · rw [ha] at w1
      rw [hb] at w2
      by_cases hl : A.length = B.length
      · simp (disch := omega) only [Tryd.ntmps73, Tryd.results73, go_sem]
        refine w1.callV 0 (viewL_cons_of (view_rowL (by first | rfl | simp [marks_length, canon_length] | omega)) viewL_nil_of) ?_
        simp (disch := omega) only [Tryd.ntmps73, Tryd.results73, go_sem]
        refine w2.callV 0 (viewL_cons_of (view_rowL (by first | rfl | simp [marks_length, canon_length] | omega)) viewL_nil_of) ?_
        simp (disch := omega) only [Tryd.ntmps73, Tryd.results73, go_sem]
        exact Fin.val (by simp [pairB, ha, hb, hl])
      · simp (disch := omega) only [Tryd.ntmps73, Tryd.results73, go_sem]
        refine w1.callV 0 (viewL_cons_of (view_rowL (by first | rfl | simp [marks_length, canon_length] | omega)) viewL_nil_of) ?_
        simp (disch := omega) only [Tryd.ntmps73, Tryd.results73, go_sem]
        refine w2.callV 0 (viewL_cons_of (view_rowL (by first | rfl | simp [marks_length, canon_length] | omega)) viewL_nil_of) ?_
        simp (disch := omega) only [Tryd.ntmps73, Tryd.results73, go_sem]
        exact Fin.val (by simp [pairB, hl])
    · rw [ha] at w1
      rw [hb] at w2
      simp (disch := omega) only [Tryd.ntmps73, Tryd.results73, go_sem]
      refine w1.callV 0 (viewL_cons_of (view_rowL (by first | rfl | simp [marks_length, canon_length] | omega)) viewL_nil_of) ?_
      simp (disch := omega) only [Tryd.ntmps73, Tryd.results73, go_sem]
      refine w2.callV 0 (viewL_cons_of (view_rowL (by first | rfl | simp [marks_length, canon_length] | omega)) viewL_nil_of) ?_
      simp (disch := omega) only [Tryd.ntmps73, Tryd.results73, go_sem]
      exact Fin.val (by simp [pairB, hb])
  · rw [ha] at w1
    simp (disch := omega) only [Tryd.ntmps73, Tryd.results73, go_sem]
    refine w1.callV 0 (viewL_cons_of (view_rowL (by first | rfl | simp [marks_length, canon_length] | omega)) viewL_nil_of) ?_
    simp (disch := omega) only [Tryd.ntmps73, Tryd.results73, go_sem]
    exact Fin.val (by simp [pairB, ha])

def both (A B : List Int) : List Int := List.zipWith (fun x y => x * 8 + y) A B
theorem both_length {A B : List Int} (h : A.length = B.length) : (both A B).length = A.length := by simp [both, h]
theorem both_take {A B : List Int} {k : Nat} (h : A.length = B.length) (hk : k < A.length) : (both A B).take (k + 1) = (both A B).take k ++ [A.getD k 0 * 8 + B.getD k 0] := by
  have hb : k < (both A B).length := by rw [both_length h]; exact hk
  rw [List.take_succ_eq_append_getElem hb]
  congr 2
  have hk2 : k < B.length := by omega
  simp [both, hk, hk2]
theorem both_take_len {A B : List Int} {k : Nat} (h : A.length = B.length) (hk : k ≤ A.length) : ((both A B).take k).length = k := by
  rw [List.length_take, both_length h]; omega
def meet (A B : List Int) : List Int := canon (if pairB A B = true then both A B else [])

def meetF (A B : List Int) : Nat × Nat × Nat → St
  | (0, _, nb) => ⟨ofL [(0, ri A), (1, ri B), (5, .val (.slice none 0 0)), (12, .val (.int .i64 A.length)), (13, .val (.int .i64 0))], hp [] nb⟩
  | (k + 1, b, nb) => ⟨ofL [(0, ri A), (1, ri B), (5, .own b 0 (k + 1) (k + 1) 1 false), (12, .val (.int .i64 A.length)), (13, .val (.int .i64 ((k + 1 : Nat) : Int)))], hp [(b, ⟨ints ((both A B).take (k + 1)), false⟩)] nb⟩

set_option maxHeartbeats 2000000 in
theorem Tryd.implMeet_f (A B : List Int) (hA : A.length ≤ 1048576) (hB : B.length ≤ 1048576) (h : pairB A B = true) : FCall Tryd.prog 34 [ri A, ri B] (FlatRes A.length 1 (ints (meet A B))) := by
  obtain ⟨pa, pb, hl⟩ := pairB_t h
  obtain ⟨l1, l2⟩ := isPart_len pa
  have w := Tryd.arePartitions_ok A B hA hB
  rw [h] at w
  refine FCall.of_body Tryd.func34 rfl (by kernel_rfl) (by simp [Tryd.ntmps34]) ?_
  refine SW_of_vc Tryd.mixed _ _ _ (by kernel_rfl) ?_
  simp (disch := omega) only [Tryd.ntmps34, Tryd.results34, go_sem]
  refine w.callV 0 (viewL_cons_of (view_rowL (by first | rfl | simp [marks_length, canon_length] | omega)) (viewL_cons_of (view_rowL (by first | rfl | simp [marks_length, canon_length] | omega)) viewL_nil_of)) ?_
  simp (disch := omega) only [Tryd.ntmps34, Tryd.results34, go_sem]
  refine LoopW.loop (meetF A B) (fun p => p.1 ≤ A.length ∧ (0 < p.1 → p.2.1 < p.2.2)) (fun p => A.length - p.1) (0, 0, 0) ⟨by simp, by simp⟩ (Wk.of (by simp only [go_sem, ↓List.forall_mem_cons, List.not_mem_nil, false_implies, implies_true, and_true, true_and, and_self, ri_eq, Int.natCast_add, Int.cast_ofNat_Int]; try simp) rfl) ?_
  rintro ⟨k, b, nb⟩ ⟨hk, hb⟩
  simp only at hk hb
  refine SW_of_vc Tryd.mixed _ _ _ (by kernel_rfl) ?_
  by_cases hlt : k < A.length
  · obtain ⟨a1, a2⟩ := isPart_bound pa hlt
    obtain ⟨b1, b2⟩ := isPart_bound pb (i := k) (by omega)
    have ht := both_take hl hlt
    have htl := both_take_len hl hk
    cases k with
    | zero =>
      rw [meetF]
      simp (disch := omega) only [Tryd.ntmps34, Tryd.results34, go_sem]
      refine ⟨(1, nb + 1, nb + 2), ⟨l1, fun _ => by simp⟩, by simp; omega, ?_⟩
      exact Wk.ofH (by simp only [go_sem, ↓List.forall_mem_cons, List.not_mem_nil, false_implies, implies_true, and_true, true_and, and_self, ri_eq, Int.natCast_add, Int.cast_ofNat_Int]; try simp) (by simp (disch := omega) only [go_sem, ↓List.forall_mem_cons, List.not_mem_nil, false_implies, implies_true, and_true, true_and, and_self, ri_eq, Int.natCast_add, Int.cast_ofNat_Int, if_pos, if_neg, Nat.reduceAdd, List.nil_append, ht, ints_one]; try simp) (by simp [hp])
    | succ k =>
      have hb := hb (by omega)
      rw [meetF]
      simp (disch := omega) only [Tryd.ntmps34, Tryd.results34, go_sem, htl, ints_take_of htl]
      refine ⟨(k + 1 + 1, nb + 1, nb + 1 + 1), ⟨hlt, fun _ => by simp⟩, by show A.length - (k + 1 + 1) < A.length - (k + 1); omega, ?_⟩
      exact Wk.ofH (by simp only [go_sem, ↓List.forall_mem_cons, List.not_mem_nil, false_implies, implies_true, and_true, true_and, and_self, ri_eq, Int.natCast_add, Int.cast_ofNat_Int]; try simp) (by simp (disch := omega) only [go_sem, ↓List.forall_mem_cons, List.not_mem_nil, false_implies, implies_true, and_true, true_and, and_self, ri_eq, Int.natCast_add, Int.cast_ofNat_Int, if_pos, if_neg, Nat.reduceAdd, List.nil_append, ht]; try simp) (by simp [hp])
  · obtain rfl : k = A.length := by omega
    have hm : meet A B = canon (both A B) := by rw [meet, if_pos h]
    have hbl := both_length hl
    have htk : (both A B).take A.length = both A B := List.take_of_length_le (by omega)
    have hcl : (canon (both A B)).length = A.length := by rw [canon_length, hbl]
    have w2 := (Tryd.implCanon_f (both A B) (by omega) (fun e => by rw [e] at hbl; simp at hbl; omega)).one
    rw [hbl] at w2
    have hb := hb (by omega)
    obtain ⟨m, hm1⟩ : ∃ m, A.length = m + 1 := ⟨A.length - 1, by omega⟩
    rw [hm1] at htk w2 ⊢
    rw [meetF, htk]
    simp (disch := omega) only [Tryd.ntmps34, Tryd.results34, go_sem]
    refine w2.callOne (ints_vals _) 1 (viewL_cons_of (view_own (by rw [hp_map, hmap_cons, if_pos rfl]) (by omega)) viewL_nil_of) ?_
    simp (disch := omega) only [Tryd.ntmps34, Tryd.results34, go_sem]
    rw [hm]
    exact fin_ints (by omega) (by rw [hp_map, hmap_cons, if_pos rfl])

theorem Tryd.implMeet_nil (A B : List Int) (hA : A.length ≤ 1048576) (hB : B.length ≤ 1048576) (h : pairB A B = false) : FCall Tryd.prog 34 [ri A, ri B] (fun r _ => r = .val (.slice none 0 0)) := by
  have w := Tryd.arePartitions_ok A B hA hB
  rw [h] at w
  refine FCall.of_body Tryd.func34 rfl (by kernel_rfl) (by simp [Tryd.ntmps34]) ?_
  refine SW_of_vc Tryd.mixed _ _ _ (by kernel_rfl) ?_
  simp (disch := omega) only [Tryd.ntmps34, Tryd.results34, go_sem]
  refine w.callV 0 (viewL_cons_of (view_rowL (by first | rfl | simp [marks_length, canon_length] | omega)) (viewL_cons_of (view_rowL (by first | rfl | simp [marks_length, canon_length] | omega)) viewL_nil_of)) ?_
  simp (disch := omega) only [Tryd.ntmps34, Tryd.results34, go_sem]
  exact Fin.val rfl

theorem meet_f {A B : List Int} (h : pairB A B = false) : meet A B = [] := by rw [meet, if_neg (by simp [h])]; rfl
theorem meet_length {A B : List Int} (h : pairB A B = true) : (meet A B).length = A.length := by
  rw [meet, if_pos h, canon_length, both_length (pairB_t h).2.2]

theorem Tryd.implMeet_ok (A B : List Int) (hA : A.length ≤ 1048576) (hB : B.length ≤ 1048576) : PCall Tryd.prog 34 [ri A, ri B] (ri (meet A B)) := by
  rcases Bool.eq_false_or_eq_true (pairB A B) with h | h
  · exact (Tryd.implMeet_f A B hA hB h).pcall 2 (fun _ _ h => flat_view h)
  · rw [meet_f h]
    exact (Tryd.implMeet_nil A B hA hB h).pcall 0 (by rintro r H rfl; exact view_nil)

set_option maxHeartbeats 2000000 in
theorem Tryd.specMeet_ok (A B : List Int) (hA : A.length ≤ 1048576) (hB : B.length ≤ 1048576) : PCall Tryd.prog 37 [ri A, ri B] (ri (meet A B)) := by
  have w := Tryd.l19Pair_ok A B hA hB
  refine FCall.pcall (R := FlatRes (meet A B).length 1 (ints (meet A B))) ?_ 2 (fun _ _ h => flat_view h)
  refine FCall.of_body Tryd.func37 rfl (by kernel_rfl) (by simp [Tryd.ntmps37]) ?_
  refine SW_of_vc Tryd.mixed _ _ _ (by kernel_rfl) ?_
  simp (disch := omega) only [Tryd.ntmps37, Tryd.results37, go_sem]
  rcases Bool.eq_false_or_eq_true (pairB A B) with h | h
  · obtain ⟨pa, pb, hl⟩ := pairB_t h
    obtain ⟨l1, l2⟩ := isPart_len pa
    rw [h] at w
    refine LoopW.loop (fun p : Nat × Nat × Nat => ⟨ofL [(0, ri A), (1, ri B), (5, .own p.2.1 0 p.1 p.1 1 false), (6, .val (.int .i64 p.1))], hp [(p.2.1, ⟨ints ((both A B).take p.1), false⟩)] p.2.2⟩) (fun p => p.1 ≤ A.length ∧ p.2.1 < p.2.2) (fun p => A.length - p.1) (0, 0, 1) ⟨by simp, by simp⟩
      (Wk.ofH (by simp only [go_sem, ↓List.forall_mem_cons, List.not_mem_nil, false_implies, implies_true, and_true, true_and, and_self, ri_eq, Int.natCast_add, Int.cast_ofNat_Int]; try simp) (by simp (disch := omega) only [go_sem, ↓List.forall_mem_cons, List.not_mem_nil, false_implies, implies_true, and_true, true_and, and_self, ri_eq, Int.natCast_add, Int.cast_ofNat_Int, if_pos, if_neg, Nat.reduceAdd, List.nil_append, List.take_zero, ints_nil]; try simp) (by simp [hp])) ?_
    rintro ⟨k, b, nb⟩ ⟨hk, hb⟩
    simp only at hk hb
    have htl := both_take_len hl hk
    refine SW_of_vc Tryd.mixed _ _ _ (by kernel_rfl) ?_
    by_cases hlt : k < A.length
    · obtain ⟨a1, a2⟩ := isPart_bound pa hlt
      obtain ⟨b1, b2⟩ := isPart_bound pb (i := k) (by omega)
      have ht := both_take hl hlt
      simp (disch := omega) only [Tryd.ntmps37, Tryd.results37, go_sem]
      refine w.callV 0 (viewL_cons_of (view_rowL (by first | rfl | simp [marks_length, canon_length] | omega)) (viewL_cons_of (view_rowL (by first | rfl | simp [marks_length, canon_length] | omega)) viewL_nil_of)) ?_
      simp (disch := omega) only [Tryd.ntmps37, Tryd.results37, go_sem, htl, ints_take_of htl]
      refine ⟨(k + 1, nb + 1, nb + 1 + 1), ⟨hlt, by simp⟩, by show A.length - (k + 1) < A.length - k; omega, ?_⟩
      exact Wk.ofH (by simp only [go_sem, ↓List.forall_mem_cons, List.not_mem_nil, false_implies, implies_true, and_true, true_and, and_self, ri_eq, Int.natCast_add, Int.cast_ofNat_Int]; try simp) (by simp (disch := omega) only [go_sem, ↓List.forall_mem_cons, List.not_mem_nil, false_implies, implies_true, and_true, true_and, and_self, ri_eq, Int.natCast_add, Int.cast_ofNat_Int, if_pos, if_neg, Nat.reduceAdd, List.nil_append, ht]; try simp) (by simp [hp])
    · obtain rfl : k = A.length := by omega
      have hm : meet A B = canon (both A B) := by rw [meet, if_pos h]
      have hbl := both_length hl
      have htk : (both A B).take A.length = both A B := List.take_of_length_le (by omega)
      have hcl : (canon (both A B)).length = A.length := by rw [canon_length, hbl]
      have w2 := (Tryd.specCanon_f (both A B) (by omega)).one
      rw [hbl] at w2
      rw [htk, hm]
      simp (disch := omega) only [Tryd.ntmps37, Tryd.results37, go_sem]
      refine w2.callOne (ints_vals _) 1 (viewL_cons_of (view_own (by rw [hp_map, hmap_cons, if_pos rfl]) (by omega)) viewL_nil_of) ?_
      simp (disch := omega) only [Tryd.ntmps37, Tryd.results37, go_sem]
      rw [hcl]
      exact fin_ints (by omega) (by rw [hp_map, hmap_cons, if_pos rfl])
  · rw [h] at w
    refine LoopW.loop (fun _ : Unit => ⟨ofL [(0, ri A), (1, ri B), (5, .own 0 0 0 0 1 false), (6, .val (.int .i64 0))], hp [(0, ⟨ints [], false⟩)] 1⟩) (fun _ => True) (fun _ => 0) () trivial
      (Wk.ofH (by simp only [go_sem, ↓List.forall_mem_cons, List.not_mem_nil, false_implies, implies_true, and_true, true_and, and_self, ri_eq, Int.natCast_add, Int.cast_ofNat_Int]; try simp) (by simp (disch := omega) only [go_sem, ↓List.forall_mem_cons, List.not_mem_nil, false_implies, implies_true, and_true, true_and, and_self, ri_eq, Int.natCast_add, Int.cast_ofNat_Int, if_pos, if_neg, Nat.reduceAdd, List.nil_append, ints_nil]; try simp) (by simp [hp])) ?_
    rintro _ _
    refine SW_of_vc Tryd.mixed _ _ _ (by kernel_rfl) ?_
    have w2 := (Tryd.specCanon_f [] (by simp)).one
    rw [meet_f h]
    by_cases hlt : 0 < A.length
    · simp (disch := omega) only [Tryd.ntmps37, Tryd.results37, go_sem]
      refine w.callV 0 (viewL_cons_of (view_rowL (by first | rfl | simp [marks_length, canon_length] | omega)) (viewL_cons_of (view_rowL (by first | rfl | simp [marks_length, canon_length] | omega)) viewL_nil_of)) ?_
      simp (disch := omega) only [Tryd.ntmps37, Tryd.results37, go_sem]
      refine w2.callOne (ints_vals _) 1 (viewL_cons_of (view_own (by rw [hp_map, hmap_cons, if_pos rfl]) (by simp)) viewL_nil_of) ?_
      simp (disch := omega) only [Tryd.ntmps37, Tryd.results37, go_sem]
      exact fin_ints (by simp) (by rw [hp_map, hmap_cons, if_pos rfl]; rfl)
    · simp (disch := omega) only [Tryd.ntmps37, Tryd.results37, go_sem]
      refine w2.callOne (ints_vals _) 1 (viewL_cons_of (view_own (by rw [hp_map, hmap_cons, if_pos rfl]) (by simp)) viewL_nil_of) ?_
      simp (disch := omega) only [Tryd.ntmps37, Tryd.results37, go_sem]
      exact fin_ints (by simp) (by rw [hp_map, hmap_cons, if_pos rfl]; rfl)
end Go.Sh

/-
  From the values that came in to the shadow's: slices of numbers.
-/
namespace Go.Sh
set_option linter.unusedSimpArgs false
set_option linter.unusedVariables false
open Go Go.RowKit

/-- A slice of numbers that came in, as the machine's memory has it. -/
def IsRow (k : IntKind) (w : World) (a : Option Addr) (len cap : Nat) (zs : List Int) : Prop :=
  (a = none ∧ len = 0 ∧ cap = 0 ∧ zs = []) ∨
  ∃ x, a = some x ∧ len ≤ cap ∧ cap ≤ maxLen ∧ zs.length = cap ∧ (∀ i, i < zs.length → w.cell? (x.add i) = some (.int k (zs.getD i 0))) ∧ ∀ n ∈ zs, (Lit.int k n).wf = true

theorem crel_ints {O : Nat → Prop} {w : World} : ∀ (L : List Int) (x : Addr), (L ≠ [] → ¬ O x.block) → (∀ i, i < L.length → w.cell? (x.add i) = some (.int .i64 (L.getD i 0))) → CRel O w (ints L) x
  | [], x, _, _ => by simp only [ints, List.map_nil, CRel]
  | n :: L, x, hO, h => by
    have h0 := h 0 (by simp)
    rw [Addr.add_zero'] at h0
    have hs : x.spot = none := World.cell?_spot h0
    have e : ints (n :: L) = .val (.int .i64 n) :: ints L := rfl
    rw [e]
    simp only [CRel]
    refine ⟨hs, hO (by simp), ⟨_, h0, by simp [VRel]⟩, crel_ints L ⟨x.block, x.off + 1, none⟩ (fun _ => hO (by simp)) (fun i hi => ?_)⟩
    have := h (i + 1) (by simpa using hi)
    have e2 : (⟨x.block, x.off + 1, none⟩ : Addr).add i = x.add (i + 1) := by
      rw [Addr.add_lit, Addr.add_succ']
      simp [Nat.add_assoc, Nat.add_comm 1 i]
    rw [e2, this]
    simp

theorem isRow_rel {w : World} {a : Option Addr} {len cap : Nat} {zs : List Int} (h : IsRow .i64 w a len cap zs) : VRel (fun _ => False) w noj (ri (zs.take len)) (.slice a len cap) := by
  rcases h with ⟨rfl, rfl, rfl, rfl⟩ | ⟨x, rfl, h1, h2, h3, h4, h5⟩
  · simp only [ri, VRel]
    exact ⟨none, 0, rfl, Nat.le_refl _, by simp, .inl (by simp [ints])⟩
  · have hl : (zs.take len).length = len := by simp; omega
    simp only [ri, VRel]
    refine ⟨some x, cap, by rw [hl], by omega, by simp, .inr ⟨x, rfl, crel_ints _ x (fun _ h => h) (fun i hi => ?_)⟩⟩
    have hi' : i < len := by rw [hl] at hi; exact hi
    rw [h4 i (by omega)]
    congr 2
    simp [List.getD, hi']

def i64R (n : Int) : Prop := -9223372036854775808 ≤ n ∧ n ≤ 9223372036854775807
theorem wf_i64 {n : Int} (h : (Lit.int .i64 n).wf = true) : i64R n := by
  simp [Lit.wf, IntKind.min, IntKind.max, IntKind.signed, IntKind.bits] at h
  unfold i64R
  omega

section
variable {Hh : Type} {enc : TypeId × Value → Hh} {P : Program} {w : World} {held : Bool}
open Go.ChangeShapes Go.WideShapes

theorem cell_ints {t e : TypeId} {fuel : Nat} {v : Value} {x : DataW Hh × List MemPlace} (ht : P.underlying t = some (.slice e)) (he : P.underlying e = some (.int .i64)) (hc : P.cellsOf e = 1)
    (h : DataW.trod enc P w 0 (fun _ => true) held fuel t [v] = some x) : ∃ L : List Int, VRel (fun _ => False) w noj (ri L) v ∧ (∀ n ∈ L, i64R n) ∧ L.length ≤ maxLen := by
  rcases open_ints ht he hc h with ⟨hcs, _⟩ | ⟨a, l, c, zs, hcs, _, hl, hm, hz, _, hcell, hwz⟩
  · simp at hcs
    subst hcs
    exact ⟨[], isRow_rel (zs := []) (.inl ⟨rfl, rfl, rfl, rfl⟩), by simp, by simp⟩
  · simp at hcs
    subst hcs
    exact ⟨zs.take l, isRow_rel (.inr ⟨_, rfl, hl, hm, by simpa using hz, hcell, hwz⟩), fun n hn => wf_i64 (hwz n (List.mem_of_mem_take hn)), by simp; omega⟩

/-- Numbers by rows, to read. -/
def rows (M : List (List Int)) : List SV := M.map ri
def rr (M : List (List Int)) : SV := .row M.length false (rows M)

theorem addr_at {x : Addr} (hs : x.spot = none) (i : Nat) : x.add i = ⟨x.block, x.off + i, none⟩ := by
  obtain ⟨b, o, s⟩ := x
  simp at hs; subst hs
  unfold Addr.add
  by_cases h : i = 0 <;> simp [h]

theorem crel_fn {ss : List SV} {x : Addr} (h : ∀ i s, ss[i]? = some s → ∃ v, w.cell? (x.add i) = some v ∧ VRel (fun _ => False) w noj s v) : CRel (fun _ => False) w ss x := by
  cases ss with
  | nil => simp only [CRel]
  | cons s ss =>
    obtain ⟨v, h0, _⟩ := h 0 s (by simp)
    rw [Addr.add_zero'] at h0
    have hs : x.spot = none := World.cell?_spot h0
    obtain ⟨b, o, sp⟩ := x
    simp at hs; subst hs
    exact CRel.mk (fun _ h => h) (fun i s' hi => by
      obtain ⟨v', g1, g2⟩ := h i s' hi
      rw [addr_at rfl] at g1
      exact ⟨v', g1, g2⟩)

theorem cell_rows {t e q : TypeId} {fuel : Nat} {v : Value} {x : DataW Hh × List MemPlace} (ht : P.underlying t = some (.slice e)) (he : P.underlying e = some (.slice q)) (hq : P.underlying q = some (.int .i64)) (ce : P.cellsOf e = 1) (cq : P.cellsOf q = 1)
    (h : DataW.trod enc P w 0 (fun _ => true) held fuel t [v] = some x) : ∃ M : List (List Int), VRel (fun _ => False) w noj (rr M) v ∧ (∀ L ∈ M, (∀ n ∈ L, i64R n) ∧ L.length ≤ maxLen) ∧ M.length ≤ maxLen := by
  rcases Deep.open_slice1 ht ce h with ⟨hcs, _⟩ | ⟨a, len, cap, m, n, V, D, Pl, hcs, hb, hl, hm, hmm, _, hx⟩
  · simp at hcs
    subst hcs
    refine ⟨[], ?_, by simp, by simp⟩
    simp only [rr, VRel]
    exact ⟨none, 0, rfl, Nat.le_refl _, by simp, .inl (by simp [rows])⟩
  · simp at hcs
    subst hcs
    simp only [if_true] at hmm
    subst hmm
    obtain ⟨L, hL⟩ := Deep.choose_lt (α := List Int) (p := fun i L => VRel (fun _ => False) w noj (ri L) (V i) ∧ (∀ n ∈ L, i64R n) ∧ L.length ≤ maxLen) (fun i hi => cell_ints he hq cq (hx i hi).2)
    refine ⟨(List.range len).map L, ?_, ?_, by simp; omega⟩
    · simp only [rr, VRel]
      refine ⟨some a, m, by simp, by simpa using hl, by simp, .inr ⟨a, rfl, crel_fn (fun i s hi => ?_)⟩⟩
      simp only [rows, List.map_map, List.getElem?_map, Option.map_eq_some_iff] at hi
      obtain ⟨k, hk, rfl⟩ := hi
      have hi : i < len := by
        have := (List.getElem?_eq_some_iff.1 hk).1
        simpa using this
      obtain rfl : i = k := by simpa [hi] using hk
      exact ⟨V i, (hx i (by omega)).1, (hL i (by omega)).1⟩
    · intro l hl'
      simp only [List.mem_map, List.mem_range] at hl'
      obtain ⟨i, hi, rfl⟩ := hl'
      exact (hL i (by omega)).2

/-- A constraint: two items; are they together? -/
abbrev Con := Int × Int × Bool
def con3 (c : Con) : List SV := [.val (.int .i64 c.1), .val (.int .i64 c.2.1), .val (.bool c.2.2)]
def cons (C : List Con) : List SV := C.flatMap con3
def rc (C : List Con) : SV := .row C.length false (cons C)
theorem cons_get : ∀ (C : List Con) (i : Nat) (s : SV), (cons C)[i]? = some s → ∃ c, C[i / 3]? = some c ∧ (con3 c)[i % 3]? = some s
  | [], i, s, h => by simp [cons] at h
  | c :: C, i, s, h => by
    have e : cons (c :: C) = con3 c ++ cons C := rfl
    rw [e, List.getElem?_append] at h
    have e3 : (con3 c).length = 3 := rfl
    rw [e3] at h
    split at h
    · rename_i hlt
      refine ⟨c, ?_, ?_⟩
      · rw [Nat.div_eq_of_lt hlt]; rfl
      · rw [Nat.mod_eq_of_lt hlt]; exact h
    · rename_i hge
      obtain ⟨d, h1, h2⟩ := cons_get C (i - 3) s h
      refine ⟨d, ?_, ?_⟩
      · have : i / 3 = (i - 3) / 3 + 1 := by omega
        rw [this]; simpa using h1
      · have : i % 3 = (i - 3) % 3 := by omega
        rw [this]; exact h2

theorem cell_cons {t e : TypeId} {f0 f1 f2 : Field} {fuel : Nat} {v : Value} {x : DataW Hh × List MemPlace} (ht : P.underlying t = some (.slice e)) (he : P.underlying e = some (.struct #[f0, f1, f2])) (ce : P.cellsOf e = 3)
    (o0 : f0.offset = 0) (o1 : f1.offset = 1) (o2 : f2.offset = 2) (u0 : P.underlying f0.type = some (.int .i64)) (u1 : P.underlying f1.type = some (.int .i64)) (u2 : P.underlying f2.type = some .bool) (c0 : P.cellsOf f0.type = 1) (c1 : P.cellsOf f1.type = 1) (c2 : P.cellsOf f2.type = 1)
    (h : DataW.trod enc P w 0 (fun _ => true) held fuel t [v] = some x) : ∃ C : List Con, VRel (fun _ => False) w noj (rc C) v ∧ (∀ c ∈ C, i64R c.1 ∧ i64R c.2.1) ∧ C.length ≤ maxLen := by
  rcases Deep.open_slice ht h with ⟨hcs, _⟩ | ⟨a, len, cap, m, n, D, Pl, hcs, hb, hl, hm, hmm, _, hx⟩
  · simp at hcs
    subst hcs
    refine ⟨[], ?_, by simp, by simp⟩
    simp only [rc, VRel]
    exact ⟨none, 0, rfl, Nat.le_refl _, by simp, .inl (by simp [cons])⟩
  · simp at hcs
    subst hcs
    simp only [if_true] at hmm
    subst hmm
    rw [ce] at hx
    obtain ⟨C, hC⟩ := Deep.choose_lt (α := Con) (p := fun i c => (∀ k s, (con3 c)[k]? = some s → ∃ u, w.cell? (a.add (i * 3 + k)) = some u ∧ VRel (fun _ => False) w noj s u) ∧ i64R c.1 ∧ i64R c.2.1) (fun i hi => by
      obtain ⟨cs, h1, h2⟩ := hx i hi
      obtain ⟨_, hlen, hcell⟩ := World.cells?_some h1
      obtain ⟨xs, k, hk, hxy, _, hxl, hf⟩ := DataW.trod_struct he h2
      match xs, hxl, cs, hlen with
      | [y0, y1, y2], _, [v0, v1, v2], _ =>
        have g0 := hf 0 f0 rfl
        have g1 := hf 1 f1 rfl
        have g2 := hf 2 f2 rfl
        simp [o0, o1, o2, c0, c1, c2] at g0 g1 g2
        obtain ⟨n0, q0, _, w0⟩ := DataW.trod_int u0 g0
        obtain ⟨n1, q1, _, w1⟩ := DataW.trod_int u1 g1
        obtain ⟨b2, q2, _⟩ := DataW.trod_bool u2 g2
        simp at q0 q1 q2
        subst q0 q1 q2
        have e0 := hcell 0 (by omega)
        have e1 := hcell 1 (by omega)
        have e2 := hcell 2 (by omega)
        rw [Deep.add_add] at e0 e1 e2
        refine ⟨(n0, n1, b2), ?_, wf_i64 w0, wf_i64 w1⟩
        intro k s hs
        match k, hs with
        | 0, hs => simp [con3] at hs; subst hs; exact ⟨_, by simpa using e0, by simp only [VRel]⟩
        | 1, hs => simp [con3] at hs; subst hs; exact ⟨_, by simpa using e1, by simp only [VRel]⟩
        | 2, hs => simp [con3] at hs; subst hs; exact ⟨_, by simpa using e2, by simp only [VRel]⟩
        | k + 3, hs => simp [con3] at hs)
    refine ⟨(List.range len).map C, ?_, ?_, by simp; omega⟩
    · simp only [rc, VRel]
      refine ⟨some a, m, by simp, by simpa using hl, by simp, .inr ⟨a, rfl, crel_fn (fun i s hi => ?_)⟩⟩
      obtain ⟨c, h1, h2⟩ := cons_get _ _ _ hi
      have hi3 : i / 3 < len := by
        have := (List.getElem?_eq_some_iff.1 h1).1
        simpa using this
      obtain rfl : C (i / 3) = c := by simpa [hi3] using h1
      obtain ⟨u, g1, g2⟩ := (hC (i / 3) (by omega)).1 _ _ h2
      exact ⟨u, by rw [← g1]; congr 2; omega, g2⟩
    · intro c hc
      simp only [List.mem_map, List.mem_range] at hc
      obtain ⟨i, hi, rfl⟩ := hc
      exact (hC i (by omega)).2

/-- A clustering: labels, cost, exact, gap. -/
structure Clu where
  labels : List Int
  cost : Int
  exact : Bool
  gap : Int
def sclu (c : Clu) : SV := .agg [ri c.labels, .val (.int .i64 c.cost), .val (.bool c.exact), .val (.int .i64 c.gap)]

theorem cell_clu {t e : TypeId} {f0 f1 f2 f3 : Field} {fuel : Nat} {cs : List Value} {x : DataW Hh × List MemPlace} (ht : P.underlying t = some (.struct #[f0, f1, f2, f3])) (hlen : cs.length = 4)
    (o0 : f0.offset = 0) (o1 : f1.offset = 1) (o2 : f2.offset = 2) (o3 : f3.offset = 3) (u0 : P.underlying f0.type = some (.slice e)) (ue : P.underlying e = some (.int .i64)) (ce : P.cellsOf e = 1) (u1 : P.underlying f1.type = some (.int .i64)) (u2 : P.underlying f2.type = some .bool) (u3 : P.underlying f3.type = some (.int .i64))
    (c0 : P.cellsOf f0.type = 1) (c1 : P.cellsOf f1.type = 1) (c2 : P.cellsOf f2.type = 1) (c3 : P.cellsOf f3.type = 1)
    (h : DataW.trod enc P w 0 (fun _ => true) held fuel t cs = some x) : ∃ c : Clu, LRel (fun _ => False) w noj [ri c.labels, .val (.int .i64 c.cost), .val (.bool c.exact), .val (.int .i64 c.gap)] cs ∧ (∀ n ∈ c.labels, i64R n) ∧ c.labels.length ≤ maxLen ∧ i64R c.cost ∧ i64R c.gap := by
  obtain ⟨xs, k, hk, hxy, _, hxl, hf⟩ := DataW.trod_struct ht h
  match xs, hxl, cs, hlen with
  | [y0, y1, y2, y3], _, [v0, v1, v2, v3], _ =>
    have g0 := hf 0 f0 rfl
    have g1 := hf 1 f1 rfl
    have g2 := hf 2 f2 rfl
    have g3 := hf 3 f3 rfl
    simp [o0, o1, o2, o3, c0, c1, c2, c3] at g0 g1 g2 g3
    obtain ⟨L, hL, hr, hlL⟩ := cell_ints u0 ue ce g0
    obtain ⟨n1, q1, _, w1⟩ := DataW.trod_int u1 g1
    obtain ⟨b2, q2, _⟩ := DataW.trod_bool u2 g2
    obtain ⟨n3, q3, _, w3⟩ := DataW.trod_int u3 g3
    simp at q1 q2 q3
    subst q1 q2 q3
    refine ⟨⟨L, n1, b2, n3⟩, ?_, hr, hlL, wf_i64 w1, wf_i64 w3⟩
    simp only [LRel, VRel]
    exact ⟨_, _, rfl, hL, _, _, rfl, rfl, _, _, rfl, rfl, _, _, rfl, rfl, rfl⟩
end

theorem PCall.law {P : Program} {f : FuncId} {args : List SV} {vs : List Value} {w : World} (h : PCall P f args (.val (.bool true))) (hl : LRel (fun _ => False) w noj args vs) (ht : TabOk (fun _ => False) w) :
    Calls P f vs.toArray w fun e w' => e = .returned (.bool true) ∧ Below w.heap.size w w' := by
  refine (h.2 w vs hl ht).mono ?_
  rintro e w' ⟨v, rfl, h2, h3⟩
  simp only [VRel] at h3
  subst h3
  exact ⟨rfl, h2⟩
end Go.Sh

/-
  Contracts: clusterings, copied and compared; lists compared.
-/
namespace Go.Sh
set_option linter.unusedSimpArgs false
set_option linter.unusedVariables false
open Go Go.Proofs

theorem Tryd.szIntS_ok (L : List Int) (l : Int) (hC : L.length ≤ 9223372036854775807) (h0 : 0 ≤ l) (h1 : l ≤ 1048576) : PCall Tryd.prog 55 [ri L, .val (.int .i64 l)] (.val (.int .i64 (if l < L.length then -1 else l - L.length))) := by
  refine FCall.pcall (R := fun r _ => r = .val (.int .i64 (if l < L.length then -1 else l - L.length))) ?_ 0 (by rintro r H rfl; exact view_int)
  refine FCall.of_body Tryd.func55 rfl (by kernel_rfl) (by simp [Tryd.ntmps55]) ?_
  refine SW_of_vc Tryd.mixed _ _ _ (by kernel_rfl) ?_
  by_cases hl : l < L.length
  · simp (disch := omega) only [Tryd.ntmps55, Tryd.results55, go_sem]
    exact Fin.val rfl
  · simp (disch := omega) only [Tryd.ntmps55, Tryd.results55, go_sem]
    exact Fin.val rfl

set_option maxHeartbeats 1000000 in
theorem Tryd.slicesEqual_ok (A B : List Int) (hA : A.length ≤ 1099511627776) (hB : B.length ≤ 1099511627776) : PCall Tryd.prog 76 [ri A, ri B] (.val (.bool (decide (A = B)))) := by
  refine FCall.pcall (R := fun r _ => r = .val (.bool (decide (A = B)))) ?_ 0 (by rintro r H rfl; exact view_bool)
  refine FCall.of_body Tryd.func76 rfl (by kernel_rfl) (by simp [Tryd.ntmps76]) ?_
  refine SW_of_vc Tryd.mixed _ _ _ (by kernel_rfl) ?_
  by_cases hl : A.length = B.length
  · simp (disch := omega) only [Tryd.ntmps76, Tryd.results76, go_sem]
    refine LoopW.loop (fun k : Nat => ⟨ofL [(0, ri A), (1, ri B), (12, .val (.int .i64 A.length)), (13, .val (.int .i64 k))], hp [] 0⟩) (fun k => k ≤ A.length ∧ A.take k = B.take k) (fun k => A.length - k) 0 ⟨by omega, by simp⟩ (Wk.of (by simp only [go_sem, ↓List.forall_mem_cons, List.not_mem_nil, false_implies, implies_true, and_true, true_and, and_self, ri_eq, Int.natCast_add, Int.cast_ofNat_Int, hl]; try simp) rfl) ?_
    rintro k ⟨hk, hkk⟩
    refine SW_of_vc Tryd.mixed _ _ _ (by kernel_rfl) ?_
    by_cases hlt : k < A.length
    · by_cases he : A.getD k 0 = B.getD k 0
      · simp (disch := omega) only [Tryd.ntmps76, Tryd.results76, go_sem]
        exact ⟨k + 1, ⟨by omega, eq_take_succ hlt (by omega) hkk he⟩, by omega, Wk.of (by simp only [go_sem, ↓List.forall_mem_cons, List.not_mem_nil, false_implies, implies_true, and_true, true_and, and_self, ri_eq, Int.natCast_add, Int.cast_ofNat_Int]; try simp) rfl⟩
      · simp (disch := omega) only [Tryd.ntmps76, Tryd.results76, go_sem]
        refine Fin.val ?_
        have : A ≠ B := fun e => he (by rw [e])
        simp [this]
    · simp (disch := omega) only [Tryd.ntmps76, Tryd.results76, go_sem]
      refine Fin.val ?_
      have h1 : A.take k = A := List.take_of_length_le (by omega)
      have h2 : B.take k = B := List.take_of_length_le (by omega)
      rw [h1, h2] at hkk
      simp [hkk]
  · simp (disch := omega) only [Tryd.ntmps76, Tryd.results76, go_sem]
    refine Fin.val ?_
    have : A ≠ B := fun e => hl (by rw [e])
    simp [this]

theorem view_clu {H : Heap} {f n : Nat} {ex : Bool} {L : List Int} {a g : Int} {e : Bool} (hn : n = L.length) : view H (f + 1) (.agg [.row n ex (ints L), .val (.int .i64 a), .val (.bool e), .val (.int .i64 g)]) = some (.agg [ri L, .val (.int .i64 a), .val (.bool e), .val (.int .i64 g)]) :=
  view_agg (viewL_cons_of (view_rowL hn) (viewL_cons_of view_int (viewL_cons_of view_bool (viewL_cons_of view_int viewL_nil_of))))

def ceq (L : List Int) (a : Int) (e : Bool) (g : Int) (L' : List Int) (a' : Int) (e' : Bool) (g' : Int) : Bool := decide (L = L' ∧ a = a' ∧ e = e' ∧ g = g')

end Go.Sh

/-
  Contracts: numbers by rows, copied, measured, compared.
-/
namespace Go.Sh
set_option linter.unusedSimpArgs false
set_option linter.unusedVariables false
open Go Go.Proofs

def mrow (M : List (List Int)) (i : Nat) : List Int := M.getD i []
def mat (M : List (List Int)) (i k : Nat) : Int := (mrow M i).getD k 0
theorem rows_length (M : List (List Int)) : (rows M).length = M.length := by simp [rows]
theorem rows_get {M : List (List Int)} {k : Nat} (h : k < M.length) : (rows M)[k]? = some (.row (mrow M k).length false (ints (mrow M k))) := by
  simp [rows, mrow, h, ri]
theorem rr_eq (M : List (List Int)) : rr M = .row M.length false (rows M) := rfl

def outer (M : List (List Int)) (k : Nat) : List SV := (List.range M.length).map fun i => if i < k then .own (i + 1) 0 (mrow M i).length (mrow M i).length 1 false else .val (.slice none 0 0)
theorem outer_length (M : List (List Int)) (k : Nat) : (outer M k).length = M.length := by simp [outer]
theorem outer_zero (M : List (List Int)) : outer M 0 = List.replicate M.length (.val (.slice none 0 0)) := by
  apply List.ext_getElem <;> simp [outer]
theorem outer_set {M : List (List Int)} {k : Nat} (h : k < M.length) : (outer M k).set k (.own (k + 1) 0 (mrow M k).length (mrow M k).length 1 false) = outer M (k + 1) := by
  apply List.ext_getElem?
  intro i
  simp only [outer, List.getElem?_set, List.getElem?_map, List.length_map, List.length_range]
  by_cases hi : i < M.length
  · rw [List.getElem?_range hi]
    by_cases hk : k = i
    · subst hk
      simp [h]
    · by_cases h1 : i < k
      · simp [hk, h1, show i < k + 1 by omega]
      · simp [hk, h1, show ¬ i < k + 1 by omega]
  · have : (List.range M.length)[i]? = none := by simp; omega
    rw [this]
    have hk : ¬ k = i := by omega
    simp [hk]
def HS (M : List (List Int)) (k : Nat) : Heap := ⟨fun x => if x = 0 then some ⟨outer M k, true⟩ else if x ≤ k then some ⟨ints (mrow M (x - 1)), false⟩ else none, k + 1⟩
def HSp (M : List (List Int)) (k : Nat) : Heap := (HS M k).push ⟨ints (mrow M k), false⟩
theorem HS_nb (M : List (List Int)) (k : Nat) : (HS M k).nb = k + 1 := rfl
theorem HSp_nb (M : List (List Int)) (k : Nat) : (HSp M k).nb = k + 2 := rfl
theorem HS_map (M : List (List Int)) (k : Nat) : (HS M k).map 0 = some ⟨outer M k, true⟩ := rfl
theorem HSp_map (M : List (List Int)) (k : Nat) : (HSp M k).map 0 = some ⟨outer M k, true⟩ := by
  simp only [HSp, Heap.push, HS]
  rw [if_neg (by omega)]
  rfl
theorem HSp_set {M : List (List Int)} {k : Nat} : (HSp M k).set 0 (some ⟨outer M (k + 1), true⟩) = HS M (k + 1) := by
  refine Heap.ext' (fun x => ?_) rfl
  simp only [HSp, HS, Heap.push, Heap.set]
  by_cases h0 : x = 0
  · simp [h0]
  · by_cases h1 : x = k + 1
    · simp [h1]
    · by_cases h2 : x ≤ k
      · simp [h0, h1, h2, show x ≤ k + 1 by omega]
      · simp [h0, h1, h2, show ¬ x ≤ k + 1 by omega]
theorem HS_zero (M : List (List Int)) : HS M 0 = hp [(0, ⟨List.replicate M.length (.val (.slice none 0 0)), true⟩)] 1 := by
  refine Heap.ext' (fun x => ?_) rfl
  simp only [HS, hp, hmap, outer_zero]
  by_cases h0 : x = 0
  · simp [h0]
  · simp [h0]

theorem outer_nr (M : List (List Int)) (k : Nat) : noRowL (outer M k) = true := by
  unfold outer
  generalize List.range M.length = l
  induction l with
  | nil => rfl
  | cons a l ih =>
    simp only [List.map_cons, noRowL, ih, Bool.and_true]
    split <;> rfl
theorem HS_nr (M : List (List Int)) (k : Nat) : nrHeap (HS M k) := by
  intro b blk hb
  simp only [HS] at hb
  split at hb
  · simp at hb; subst hb; exact outer_nr M k
  · split at hb
    · simp at hb; subst hb; exact noRowL_ints _
    · simp at hb
theorem viewL_fn {H : Heap} {f : Nat} {α : Type} {g h : α → SV} : ∀ (l : List α), (∀ a ∈ l, view H f (g a) = some (h a)) → viewL H f (l.map g) = some (l.map h)
  | [], _ => viewL_nil_of
  | a :: l, hv => viewL_cons_of (hv a (by simp)) (viewL_fn l (fun b hb => hv b (by simp [hb])))
theorem HS_view (M : List (List Int)) : view (HS M M.length) 3 (.own 0 0 M.length M.length 1 true) = some (rr M) := by
  simp only [view, HS_map, Nat.mul_one, List.drop_zero, outer_length, Nat.zero_add, Nat.le_refl, if_true]
  have e : (outer M M.length).take M.length = (List.range M.length).map fun i => SV.own (i + 1) 0 (mrow M i).length (mrow M i).length 1 false := by
    rw [List.take_of_length_le (by rw [outer_length]; exact Nat.le_refl _), outer]
    refine List.map_congr_left (fun i hi => ?_)
    have : i < M.length := by simpa using hi
    rw [if_pos this]
  rw [e, viewL_fn (h := fun i => ri (mrow M i)) _ (fun i hi => ?_)]
  · have : (List.range M.length).map (fun i => ri (mrow M i)) = rows M := by
      apply List.ext_getElem?
      intro i
      simp only [rows, List.getElem?_map]
      by_cases hi : i < M.length
      · rw [List.getElem?_range hi]; simp [mrow, hi]
      · have : (List.range M.length)[i]? = none := by simp; omega
        rw [this, List.getElem?_eq_none (by omega : M.length ≤ i)]; rfl
    rw [this]; rfl
  · have hi' : i < M.length := by simpa using hi
    refine view_own (e2 := false) ?_ rfl
    simp only [HS]
    rw [if_neg (by omega), if_pos (by omega)]
    simp

set_option maxHeartbeats 1000000 in
theorem Tryd.toIntSS_f (M : List (List Int)) (hM : M.length ≤ 1048576) (hR : ∀ i, i < M.length → (mrow M i).length ≤ 1048576) : FCall Tryd.prog 21 [rr M] (fun r H => r = .own 0 0 M.length M.length 1 true ∧ H = HS M M.length) := by
  refine FCall.of_body Tryd.func21 rfl (by kernel_rfl) (by simp [Tryd.ntmps21]) ?_
  refine SW_of_vc Tryd.mixed _ _ _ (by kernel_rfl) ?_
  simp (disch := omega) only [Tryd.ntmps21, Tryd.results21, go_sem, rr_eq]
  refine LoopW.loop (fun k : Nat => ⟨ofL [(0, rr M), (3, .own 0 0 M.length M.length 1 true), (4, .val (.int .i64 k))], HS M k⟩) (fun k => k ≤ M.length) (fun k => M.length - k) 0 (by omega)
    (Wk.of (by simp only [go_sem, ↓List.forall_mem_cons, List.not_mem_nil, false_implies, implies_true, and_true, true_and, and_self, ri_eq, Int.natCast_add, Int.cast_ofNat_Int, rr_eq]; try simp) (by rw [HS_zero])) ?_
  intro k hk
  have ho := outer_length M k
  refine SW_of_vc Tryd.mixed _ _ _ (by kernel_rfl) ?_
  by_cases hlt : k < M.length
  · have hos := outer_set hlt
    simp (disch := omega) only [Tryd.ntmps21, Tryd.results21, go_sem, rr_eq, rows_get]
    refine (Tryd.toIntS_one (mrow M k) (hR k hlt)).callOne (ints_vals _) 0 (viewL_cons_of (view_rowL (by first | rfl | simp [marks_length, canon_length] | omega)) viewL_nil_of) ?_
    have e : (HS M k).push ⟨ints (mrow M k), false⟩ = HSp M k := rfl
    rw [e, HS_nb]
    simp (disch := omega) only [Tryd.ntmps21, Tryd.results21, go_sem, rr_eq, HSp_map, ho, hos, HSp_set]
    exact ⟨k + 1, by omega, by omega, Wk.of (by simp only [go_sem, ↓List.forall_mem_cons, List.not_mem_nil, false_implies, implies_true, and_true, true_and, and_self, ri_eq, Int.natCast_add, Int.cast_ofNat_Int, rr_eq]; try simp) rfl⟩
  · obtain rfl : k = M.length := by omega
    simp (disch := omega) only [Tryd.ntmps21, Tryd.results21, go_sem, rr_eq]
    exact ⟨HS M M.length, ⟨rfl, fun _ => .inr rfl⟩, rfl, HS_nr M _, rfl, rfl⟩
theorem Tryd.toIntSS_ok (M : List (List Int)) (hM : M.length ≤ 1048576) (hR : ∀ i, i < M.length → (mrow M i).length ≤ 1048576) : PCall Tryd.prog 21 [rr M] (rr M) :=
  (Tryd.toIntSS_f M hM hR).pcall 3 (by rintro r H ⟨rfl, rfl⟩; exact HS_view M)

def szM (M : List (List Int)) (l : Int) : Int := l - M.length - (M.map fun r => (r.length : Int)).sum
def msum (M : List (List Int)) (k : Nat) : Int := ((M.take k).map fun r => (r.length : Int)).sum
theorem msum_succ {M : List (List Int)} {k : Nat} (h : k < M.length) : msum M (k + 1) = msum M k + (mrow M k).length := by
  have e : mrow M k = M[k] := by simp [mrow, h]
  rw [msum, List.take_succ_eq_append_getElem h, List.map_append, List.sum_append, e]
  simp only [List.map_cons, List.map_nil, List.sum_cons, List.sum_nil, Int.add_zero]
  rfl
theorem msum_nonneg (M : List (List Int)) (k : Nat) : 0 ≤ msum M k := by
  unfold msum
  induction M.take k with
  | nil => simp
  | cons a l ih => simp only [List.map_cons, List.sum_cons]; omega
theorem msum_mono {M : List (List Int)} : ∀ {k j : Nat}, k ≤ j → j ≤ M.length → msum M k ≤ msum M j := by
  intro k j h
  induction h with
  | refl => intro _; exact Int.le_refl _
  | step h ih =>
    intro hj
    have := ih (by omega)
    rw [msum_succ (by omega)]
    omega

set_option maxHeartbeats 1000000 in
theorem Tryd.szIntSS_ok (M : List (List Int)) (l : Int) (hM : M.length ≤ 9223372036854775807) (hR : ∀ i, i < M.length → (mrow M i).length ≤ 9223372036854775807) (h0 : 0 ≤ l) (h1 : l ≤ 1048576) :
    PCall Tryd.prog 19 [rr M, .val (.int .i64 l)] (.val (.int .i64 (if l < M.length + msum M M.length then -1 else l - M.length - msum M M.length))) := by
  have hnn := msum_nonneg M M.length
  refine FCall.pcall (R := fun r _ => r = .val (.int .i64 (if l < M.length + msum M M.length then -1 else l - M.length - msum M M.length))) ?_ 0 (by rintro r H rfl; exact view_int)
  refine FCall.of_body Tryd.func19 rfl (by kernel_rfl) (by simp [Tryd.ntmps19]) ?_
  refine SW_of_vc Tryd.mixed _ _ _ (by kernel_rfl) ?_
  by_cases hl : l < M.length
  · rw [if_pos (by omega)]
    simp (disch := omega) only [Tryd.ntmps19, Tryd.results19, go_sem, rr_eq]
    exact Fin.val rfl
  · simp (disch := omega) only [Tryd.ntmps19, Tryd.results19, go_sem, rr_eq]
    refine LoopW.loop (fun k : Nat => ⟨ofL [(0, rr M), (1, .val (.int .i64 (l - M.length - msum M k))), (5, .val (.int .i64 k))], hp [] 0⟩) (fun k => k ≤ M.length ∧ 0 ≤ l - M.length - msum M k) (fun k => M.length - k) 0 ⟨by omega, by simp [msum]; omega⟩
      (Wk.of (by simp only [go_sem, ↓List.forall_mem_cons, List.not_mem_nil, false_implies, implies_true, and_true, true_and, and_self, ri_eq, Int.natCast_add, Int.cast_ofNat_Int, rr_eq, msum, List.take_zero, List.map_nil, List.sum_nil, Int.sub_zero]; try simp) rfl) ?_
    rintro k ⟨hk, hkk⟩
    have hn := msum_nonneg M k
    refine SW_of_vc Tryd.mixed _ _ _ (by kernel_rfl) ?_
    by_cases hlt : k < M.length
    · have hs := Tryd.szIntS_ok (mrow M k) (l - M.length - msum M k) (hR k hlt) hkk (by omega)
      have he := msum_succ hlt
      have hmo := msum_mono (M := M) (k := k + 1) (j := M.length) (by omega) (by omega)
      by_cases hx : l - M.length - msum M k < (mrow M k).length
      · rw [if_pos hx] at hs
        simp (disch := omega) only [Tryd.ntmps19, Tryd.results19, go_sem, rr_eq, rows_get]
        refine hs.callV 0 (viewL_cons_of (view_rowL (by first | rfl | simp [marks_length, canon_length] | omega)) (viewL_cons_of (view_int) viewL_nil_of)) ?_
        rw [if_pos (by omega)]
        simp (disch := omega) only [Tryd.ntmps19, Tryd.results19, go_sem, rr_eq]
        exact Fin.val rfl
      · rw [if_neg hx] at hs
        simp (disch := omega) only [Tryd.ntmps19, Tryd.results19, go_sem, rr_eq, rows_get]
        refine hs.callV 0 (viewL_cons_of (view_rowL (by first | rfl | simp [marks_length, canon_length] | omega)) (viewL_cons_of (view_int) viewL_nil_of)) ?_
        simp (disch := omega) only [Tryd.ntmps19, Tryd.results19, go_sem, rr_eq]
        have e2 : l - (M.length : Int) - msum M k - ((mrow M k).length : Int) = l - M.length - msum M (k + 1) := by omega
        exact ⟨k + 1, ⟨by omega, by omega⟩, by omega, Wk.of (by simp only [go_sem, ↓List.forall_mem_cons, List.not_mem_nil, false_implies, implies_true, and_true, true_and, and_self, ri_eq, Int.natCast_add, Int.cast_ofNat_Int, rr_eq, e2]; try simp) rfl⟩
    · obtain rfl : k = M.length := by omega
      simp (disch := omega) only [Tryd.ntmps19, Tryd.results19, go_sem, rr_eq]
      exact Fin.val rfl

theorem mtake_succ {A B : List (List Int)} {k : Nat} (hA : k < A.length) (hB : k < B.length) (h : A.take k = B.take k) (e : mrow A k = mrow B k) : A.take (k + 1) = B.take (k + 1) := by
  rw [List.take_succ_eq_append_getElem hA, List.take_succ_eq_append_getElem hB, h]
  simp [mrow, hA, hB] at e
  rw [e]

set_option maxHeartbeats 1000000 in
theorem Tryd.eqIntSS_ok (A B : List (List Int)) (hA : A.length ≤ 1048576) (hB : B.length ≤ 1048576) (rA : ∀ i, i < A.length → (mrow A i).length ≤ 1048576) (rB : ∀ i, i < B.length → (mrow B i).length ≤ 1048576) : PCall Tryd.prog 23 [rr A, rr B] (.val (.bool (decide (A = B)))) := by
  refine FCall.pcall (R := fun r _ => r = .val (.bool (decide (A = B)))) ?_ 0 (by rintro r H rfl; exact view_bool)
  refine FCall.of_body Tryd.func23 rfl (by kernel_rfl) (by simp [Tryd.ntmps23]) ?_
  refine SW_of_vc Tryd.mixed _ _ _ (by kernel_rfl) ?_
  by_cases hl : A.length = B.length
  · simp (disch := omega) only [Tryd.ntmps23, Tryd.results23, go_sem, rr_eq]
    refine LoopW.loop (fun k : Nat => ⟨ofL [(0, rr A), (1, rr B), (5, .val (.int .i64 k))], hp [] 0⟩) (fun k => k ≤ A.length ∧ A.take k = B.take k) (fun k => A.length - k) 0 ⟨by omega, by simp⟩ (Wk.of (by simp only [go_sem, ↓List.forall_mem_cons, List.not_mem_nil, false_implies, implies_true, and_true, true_and, and_self, ri_eq, Int.natCast_add, Int.cast_ofNat_Int, rr_eq]; try simp) rfl) ?_
    rintro k ⟨hk, hkk⟩
    refine SW_of_vc Tryd.mixed _ _ _ (by kernel_rfl) ?_
    by_cases hlt : k < A.length
    · have hq := Tryd.eqIntS_ok (mrow A k) (mrow B k) (by have := rA k hlt; omega) (by have := rB k (by omega); omega)
      by_cases he : mrow A k = mrow B k
      · have he' : (mrow A k == mrow B k) = true := by simp [he]
        rw [he'] at hq
        simp (disch := omega) only [Tryd.ntmps23, Tryd.results23, go_sem, rr_eq, rows_get]
        refine hq.callDV 0 (viewL_cons_of (view_rowL (by first | rfl | simp [marks_length, canon_length] | omega)) (viewL_cons_of (view_rowL (by first | rfl | simp [marks_length, canon_length] | omega)) viewL_nil_of)) ?_
        simp (disch := omega) only [Tryd.ntmps23, Tryd.results23, go_sem, rr_eq]
        exact ⟨k + 1, ⟨by omega, mtake_succ hlt (by omega) hkk he⟩, by omega, Wk.of (by simp only [go_sem, ↓List.forall_mem_cons, List.not_mem_nil, false_implies, implies_true, and_true, true_and, and_self, ri_eq, Int.natCast_add, Int.cast_ofNat_Int, rr_eq]; try simp) rfl⟩
      · have he' : (mrow A k == mrow B k) = false := by simpa using he
        rw [he'] at hq
        simp (disch := omega) only [Tryd.ntmps23, Tryd.results23, go_sem, rr_eq, rows_get]
        refine hq.callDV 0 (viewL_cons_of (view_rowL (by first | rfl | simp [marks_length, canon_length] | omega)) (viewL_cons_of (view_rowL (by first | rfl | simp [marks_length, canon_length] | omega)) viewL_nil_of)) ?_
        simp (disch := omega) only [Tryd.ntmps23, Tryd.results23, go_sem, rr_eq]
        refine Fin.val ?_
        have : A ≠ B := fun e => he (by rw [e])
        simp [this]
    · simp (disch := omega) only [Tryd.ntmps23, Tryd.results23, go_sem, rr_eq]
      refine Fin.val ?_
      have h1 : A.take k = A := List.take_of_length_le (by omega)
      have h2 : B.take k = B := List.take_of_length_le (by omega)
      rw [h1, h2] at hkk
      simp [hkk]
  · simp (disch := omega) only [Tryd.ntmps23, Tryd.results23, go_sem, rr_eq]
    refine Fin.val ?_
    have : A ≠ B := fun e => hl (by rw [e])
    simp [this]
end Go.Sh

/-
  Matrices in memory of their own: a block of rows, each row a block of scalars.
-/
namespace Go.Sh
set_option linter.unusedSimpArgs false
set_option linter.unusedVariables false
open Go Go.Proofs

/-- What a heap holds: a block; a matrix (its outer block b, its rows b+1, b+2, ..); rows under names of any kind; a name that is gone. -/
inductive Ent where
  | blk (k : Nat) (v : Blk)
  | mat (b : Nat) (R : List (List SV))
  | rows (fl : Bool) (nr : List (Nat × List SV))
  | cut (b : Nat)

def rowAt (R : List (List SV)) (i : Nat) : List SV := R.getD i []
def outerB (b : Nat) (R : List (List SV)) : List SV := (List.range R.length).map fun i => .own (b + 1 + i) 0 (rowAt R i).length (rowAt R i).length 1 false
def outerN (fl : Bool) (nr : List (Nat × List SV)) : List SV := nr.map fun p => .own p.1 0 p.2.length p.2.length 1 fl
def matMap (b : Nat) (R : List (List SV)) (x : Nat) : Option Blk := if x = b then some ⟨outerB b R, false⟩ else some ⟨rowAt R (x - b - 1), false⟩
def nrFind : List (Nat × List SV) → Nat → Option (List SV)
  | [], _ => none
  | p :: l, x => if x = p.1 then some p.2 else nrFind l x
def xmap : List Ent → Nat → Option Blk
  | [], _ => none
  | .blk k v :: l, x => if x = k then some v else xmap l x
  | .mat b R :: l, x => if b ≤ x ∧ x ≤ b + R.length then matMap b R x else xmap l x
  | .rows fl nr :: l, x => match nrFind nr x with
    | some r => some ⟨r, fl⟩
    | none => xmap l x
  | .cut b :: l, x => if x = b then none else xmap l x
def hx (l : List Ent) (n : Nat) : Heap := ⟨xmap l, n⟩
def toE (l : List (Nat × Blk)) : List Ent := l.map fun p => .blk p.1 p.2
theorem toE_nil : toE [] = [] := rfl
theorem toE_cons (k : Nat) (v : Blk) (l : List (Nat × Blk)) : toE ((k, v) :: l) = .blk k v :: toE l := rfl
theorem hp_hx (l : List (Nat × Blk)) (n : Nat) : hp l n = hx (toE l) n := by
  refine Heap.ext' (fun x => ?_) rfl
  show hmap l x = xmap (toE l) x
  induction l with
  | nil => rfl
  | cons p l ih =>
    obtain ⟨k, v⟩ := p
    simp only [toE_cons, hmap, xmap, ih]
theorem hx_nb (l : List Ent) (n : Nat) : (hx l n).nb = n := rfl
theorem hx_map (l : List Ent) (n x : Nat) : (hx l n).map x = xmap l x := rfl
theorem hx_push (l : List Ent) (n : Nat) (k : Blk) : (hx l n).push k = hx (.blk n k :: l) (n + 1) := rfl
theorem xmap_blk (k : Nat) (v : Blk) (l : List Ent) (x : Nat) : xmap (.blk k v :: l) x = if x = k then some v else xmap l x := rfl
theorem xmap_nil (x : Nat) : xmap [] x = none := rfl

def Heap.pushM (H : Heap) (R : List (List SV)) : Heap := ⟨fun x => if H.nb ≤ x ∧ x ≤ H.nb + R.length then matMap H.nb R x else H.map x, H.nb + R.length + 1⟩
theorem hx_pushM (l : List Ent) (n : Nat) (R : List (List SV)) : (hx l n).pushM R = hx (.mat n R :: l) (n + R.length + 1) := rfl
theorem hp_pushM (l : List (Nat × Blk)) (n : Nat) (R : List (List SV)) : (hp l n).pushM R = hx (.mat n R :: toE l) (n + R.length + 1) := by rw [hp_hx, hx_pushM]

def xset : List Ent → Nat → Blk → List Ent
  | [], b, x => [.blk b x]
  | .blk k v :: l, b, x => if k = b then .blk k x :: l else .blk k v :: xset l b x
  | .mat c R :: l, b, x => if c < b ∧ b ≤ c + R.length ∧ x.cells.length = (rowAt R (b - c - 1)).length ∧ x.ex = false then .mat c (R.set (b - c - 1) x.cells) :: l else if b < c ∨ c + R.length < b then .mat c R :: xset l b x else .blk b x :: .mat c R :: l
  | .rows fl nr :: l, b, x => .blk b x :: .rows fl nr :: l
  | .cut c :: l, b, x => .blk b x :: .cut c :: l
theorem rowAt_length {R : List (List SV)} {i : Nat} (h : i < R.length) : rowAt R i = R[i] := by simp [rowAt, h]
theorem outerB_set {b : Nat} {R : List (List SV)} {i : Nat} {r : List SV} (h : r.length = (rowAt R i).length) : outerB b (R.set i r) = outerB b R := by
  unfold outerB
  rw [List.length_set]
  refine List.map_congr_left (fun k hk => ?_)
  have hk : k < R.length := by simpa using hk
  have e : (rowAt (R.set i r) k).length = (rowAt R k).length := by
    rw [rowAt_length (by simpa using hk), rowAt_length hk, List.getElem_set]
    split
    · rename_i e; subst e
      rw [h, rowAt_length hk]
    · rfl
  rw [e]
theorem xmap_set : ∀ (l : List Ent) (b : Nat) (k : Blk) (x : Nat), (if x = b then some k else xmap l x) = xmap (xset l b k) x
  | [], b, k, x => by simp only [xset, xmap]
  | .blk c v :: l, b, k, x => by
    have ih := xmap_set l b k x
    simp only [xset]
    by_cases e : c = b
    · rw [if_pos e]
      subst e
      simp only [xmap]
      by_cases hx : x = c <;> simp [hx]
    · rw [if_neg e]
      simp only [xmap, ← ih]
      by_cases hx : x = b
      · subst hx
        rw [if_pos rfl, if_neg (by omega), if_pos rfl]
      · rw [if_neg hx, if_neg hx]
  | .mat c R :: l, b, k, x => by
    have ih := xmap_set l b k x
    simp only [xset]
    by_cases h : c < b ∧ b ≤ c + R.length ∧ k.cells.length = (rowAt R (b - c - 1)).length ∧ k.ex = false
    · rw [if_pos h]
      obtain ⟨h1, h2, h3, h4⟩ := h
      obtain ⟨kc, kx⟩ := k
      simp only at h3 h4
      subst h4
      simp only [xmap, List.length_set]
      by_cases hx : x = b
      · subst hx
        rw [if_pos rfl, if_pos (by omega), matMap, if_neg (by omega), rowAt_length (by simp; omega)]
        simp
      · rw [if_neg hx]
        by_cases hr : c ≤ x ∧ x ≤ c + R.length
        · rw [if_pos hr, if_pos hr, matMap, matMap, outerB_set h3]
          by_cases hc : x = c
          · rw [if_pos hc, if_pos hc]
          · rw [if_neg hc, if_neg hc]
            rw [rowAt_length (by omega), rowAt_length (by simp; omega), List.getElem_set_ne (by omega)]
        · rw [if_neg hr, if_neg hr]
    · rw [if_neg h]
      by_cases h2 : b < c ∨ c + R.length < b
      · rw [if_pos h2]
        simp only [xmap, ← ih]
        by_cases hx : x = b
        · subst hx
          rw [if_pos rfl, if_pos rfl, if_neg (by omega)]
        · rw [if_neg hx, if_neg hx]
      · rw [if_neg h2]
        rfl
  | .rows fl nr :: l, b, k, x => rfl
  | .cut c :: l, b, k, x => rfl
theorem hx_set (l : List Ent) (n b : Nat) (k : Blk) : (hx l n).set b (some k) = hx (xset l b k) n :=
  Heap.ext' (fun x => xmap_set l b k x) rfl
def xdel : List Ent → Nat → List Ent
  | [], _ => []
  | .blk k v :: l, b => if k = b then xdel l b else .blk k v :: xdel l b
  | .mat c R :: l, b => if b < c ∨ c + R.length < b then .mat c R :: xdel l b else .cut b :: .mat c R :: l
  | .rows fl nr :: l, b => .cut b :: .rows fl nr :: l
  | .cut c :: l, b => .cut b :: .cut c :: l
theorem xmap_del : ∀ (l : List Ent) (b : Nat) (x : Nat), (if x = b then none else xmap l x) = xmap (xdel l b) x
  | [], b, x => by simp only [xdel, xmap]; split <;> rfl
  | .blk c v :: l, b, x => by
    have ih := xmap_del l b x
    simp only [xdel]
    by_cases e : c = b
    · rw [if_pos e, ← ih]
      subst e
      simp only [xmap]
      by_cases hx : x = c <;> simp [hx]
    · rw [if_neg e]
      simp only [xmap, ← ih]
      by_cases hx : x = b
      · subst hx
        rw [if_pos rfl, if_neg (by omega), if_pos rfl]
      · rw [if_neg hx, if_neg hx]
  | .mat c R :: l, b, x => by
    have ih := xmap_del l b x
    simp only [xdel]
    by_cases h2 : b < c ∨ c + R.length < b
    · rw [if_pos h2]
      simp only [xmap, ← ih]
      by_cases hx : x = b
      · subst hx
        rw [if_pos rfl, if_pos rfl, if_neg (by omega)]
      · rw [if_neg hx, if_neg hx]
    · rw [if_neg h2]; rfl
  | .rows fl nr :: l, b, x => rfl
  | .cut c :: l, b, x => rfl
theorem hx_del (l : List Ent) (n b : Nat) : (hx l n).set b none = hx (xdel l b) n :=
  Heap.ext' (fun x => xmap_del l b x) rfl
theorem xdel_blk (k : Nat) (v : Blk) (l : List Ent) (b : Nat) : xdel (.blk k v :: l) b = if k = b then xdel l b else .blk k v :: xdel l b := rfl
theorem xdel_rows (fl : Bool) (nr : List (Nat × List SV)) (l : List Ent) (b : Nat) : xdel (.rows fl nr :: l) b = .cut b :: .rows fl nr :: l := rfl
theorem xdel_nil (b : Nat) : xdel [] b = [] := rfl
theorem xset_blk (k : Nat) (v : Blk) (l : List Ent) (b : Nat) (x : Blk) : xset (.blk k v :: l) b x = if k = b then .blk k x :: l else .blk k v :: xset l b x := rfl
theorem xset_nil (b : Nat) (x : Blk) : xset [] b x = [.blk b x] := rfl

/-! ### Of ints, of bools -/
def mset (M : List (List Int)) (i c : Nat) (x : Int) : List (List Int) := M.set i ((mrow M i).set c x)
def mi (M : List (List Int)) : List (List SV) := M.map ints
theorem mi_length (M : List (List Int)) : (mi M).length = M.length := by simp [mi]
theorem mi_row {M : List (List Int)} {i : Nat} (h : i < M.length) : rowAt (mi M) i = ints (mrow M i) := by simp [rowAt, mi, mrow, h]
theorem mset_length (M : List (List Int)) (i c : Nat) (x : Int) : (mset M i c x).length = M.length := by simp [mset]
theorem mset_row_length (M : List (List Int)) (i c k : Nat) (x : Int) : (mrow (mset M i c x) k).length = (mrow M k).length := by
  simp only [mrow, mset, List.getD_eq_getElem?_getD, List.getElem?_set]
  by_cases h : i = k
  · subst h
    by_cases h2 : i < M.length
    · simp [h2]
    · simp [h2]
  · simp [h]
def bools (L : List Bool) : List SV := L.map fun x => .val (.bool x)
theorem bools_length (L : List Bool) : (bools L).length = L.length := by simp [bools]
theorem bools_get {L : List Bool} {k : Nat} (h : k < L.length) : (bools L)[k]? = some (.val (.bool (L.getD k false))) := by simp [bools, h]
theorem bools_set (L : List Bool) (k : Nat) (x : Bool) : (bools L).set k (.val (.bool x)) = bools (L.set k x) := by simp [bools, List.map_set]
theorem bools_replicate (n : Nat) (x : Bool) : List.replicate n (SV.val (.bool x)) = bools (List.replicate n x) := by simp [bools]
theorem viewL_bools (H : Heap) (f : Nat) : ∀ L : List Bool, viewL H f (bools L) = some (bools L)
  | [] => viewL_nil_of
  | x :: L => viewL_cons_of view_bool (viewL_bools H f L)
theorem bools_vals (L : List Bool) : (bools L).all isVal = true := by simp [bools, isVal]
def brow (M : List (List Bool)) (i : Nat) : List Bool := M.getD i []
def bmat (M : List (List Bool)) (i k : Nat) : Bool := (brow M i).getD k false
def bset (M : List (List Bool)) (i c : Nat) (x : Bool) : List (List Bool) := M.set i ((brow M i).set c x)
def mb (M : List (List Bool)) : List (List SV) := M.map bools
theorem mb_length (M : List (List Bool)) : (mb M).length = M.length := by simp [mb]
theorem mb_row {M : List (List Bool)} {i : Nat} (h : i < M.length) : rowAt (mb M) i = bools (brow M i) := by simp [rowAt, mb, brow, h]
theorem bset_length (M : List (List Bool)) (i c : Nat) (x : Bool) : (bset M i c x).length = M.length := by simp [bset]
theorem bset_row_length (M : List (List Bool)) (i c k : Nat) (x : Bool) : (brow (bset M i c x) k).length = (brow M k).length := by
  simp only [brow, bset, List.getD_eq_getElem?_getD, List.getElem?_set]
  by_cases h : i = k
  · subst h
    by_cases h2 : i < M.length
    · simp [h2]
    · simp [h2]
  · simp [h]
def rowsB (M : List (List Bool)) : List SV := M.map fun r => .row r.length false (bools r)
def rb (M : List (List Bool)) : SV := .row M.length false (rowsB M)
theorem rb_eq (M : List (List Bool)) : rb M = .row M.length false (rowsB M) := rfl
theorem rowsB_length (M : List (List Bool)) : (rowsB M).length = M.length := by simp [rowsB]
theorem rowsB_get {M : List (List Bool)} {k : Nat} (h : k < M.length) : (rowsB M)[k]? = some (.row (brow M k).length false (bools (brow M k))) := by
  simp [rowsB, brow, h]

theorem mset_at (M : List (List Int)) (i c : Nat) (x : Int) {k d : Nat} (hi : i < M.length) (hc : c < (mrow M i).length) : mat (mset M i c x) k d = if k = i ∧ d = c then x else mat M k d := by
  simp only [mat, mrow, mset, List.getD_eq_getElem?_getD, List.getElem?_set]
  by_cases h : i = k
  · subst h
    simp only [hi, if_true, true_and, Option.getD_some, List.getElem?_set]
    by_cases h2 : c = d
    · subst h2
      simp only [mrow, List.getD_eq_getElem?_getD] at hc
      simp [hc]
    · have : ¬ d = c := fun e => h2 e.symm
      simp [h2, this]
  · have : ¬ k = i := fun e => h e.symm
    simp [h, this]
theorem bset_at (M : List (List Bool)) (i c : Nat) (x : Bool) {k d : Nat} (hi : i < M.length) (hc : c < (brow M i).length) : bmat (bset M i c x) k d = if k = i ∧ d = c then x else bmat M k d := by
  simp only [bmat, brow, bset, List.getD_eq_getElem?_getD, List.getElem?_set]
  by_cases h : i = k
  · subst h
    simp only [hi, if_true, true_and, Option.getD_some, List.getElem?_set]
    by_cases h2 : c = d
    · subst h2
      simp only [brow, List.getD_eq_getElem?_getD] at hc
      simp [hc]
    · have : ¬ d = c := fun e => h2 e.symm
      simp [h2, this]
  · have : ¬ k = i := fun e => h e.symm
    simp [h, this]

theorem outerB_length (b : Nat) (R : List (List SV)) : (outerB b R).length = R.length := by simp [outerB]
theorem xmap_mat (b : Nat) (R : List (List SV)) (l : List Ent) : xmap (.mat b R :: l) b = some ⟨outerB b R, false⟩ := by
  simp [xmap, matMap]
theorem xmap_rowI {b i : Nat} {M : List (List Int)} {l : List Ent} (h : i < M.length) : xmap (.mat b (mi M) :: l) (b + 1 + i) = some ⟨ints (mrow M i), false⟩ := by
  rw [xmap, if_pos (by rw [mi_length]; omega), matMap, if_neg (by omega), ← mi_row h]
  congr 3; omega
theorem xmap_rowB {b i : Nat} {M : List (List Bool)} {l : List Ent} (h : i < M.length) : xmap (.mat b (mb M) :: l) (b + 1 + i) = some ⟨bools (brow M i), false⟩ := by
  rw [xmap, if_pos (by rw [mb_length]; omega), matMap, if_neg (by omega), ← mb_row h]
  congr 3; omega
theorem xmap_skipI {b x : Nat} {M : List (List Int)} {l : List Ent} (h : x < b ∨ b + M.length < x) : xmap (.mat b (mi M) :: l) x = xmap l x := by
  rw [xmap, if_neg (by rw [mi_length]; omega)]
theorem xmap_skipB {b x : Nat} {M : List (List Bool)} {l : List Ent} (h : x < b ∨ b + M.length < x) : xmap (.mat b (mb M) :: l) x = xmap l x := by
  rw [xmap, if_neg (by rw [mb_length]; omega)]
theorem outerB_getI {b k : Nat} {M : List (List Int)} (h : k < M.length) : (outerB b (mi M))[k]? = some (.own (b + 1 + k) 0 (mrow M k).length (mrow M k).length 1 false) := by
  simp only [outerB, List.getElem?_map, mi_length]
  rw [List.getElem?_range h]
  simp only [Option.map_some, mi_row h, ints_length]
theorem outerB_getB {b k : Nat} {M : List (List Bool)} (h : k < M.length) : (outerB b (mb M))[k]? = some (.own (b + 1 + k) 0 (brow M k).length (brow M k).length 1 false) := by
  simp only [outerB, List.getElem?_map, mb_length]
  rw [List.getElem?_range h]
  simp only [Option.map_some, mb_row h, bools_length]
theorem xset_rowI {b i c : Nat} {x : Int} {M : List (List Int)} {l : List Ent} (h : i < M.length) : xset (.mat b (mi M) :: l) (b + 1 + i) ⟨ints ((mrow M i).set c x), false⟩ = .mat b (mi (mset M i c x)) :: l := by
  have e : b + 1 + i - b - 1 = i := by omega
  rw [xset, e, if_pos ⟨by omega, by rw [mi_length]; omega, by rw [mi_row h, ints_length, ints_length, List.length_set], rfl⟩]
  simp [mset, mi, List.map_set]
theorem xset_rowB {b i c : Nat} {x : Bool} {M : List (List Bool)} {l : List Ent} (h : i < M.length) : xset (.mat b (mb M) :: l) (b + 1 + i) ⟨bools ((brow M i).set c x), false⟩ = .mat b (mb (bset M i c x)) :: l := by
  have e : b + 1 + i - b - 1 = i := by omega
  rw [xset, e, if_pos ⟨by omega, by rw [mb_length]; omega, by rw [mb_row h, bools_length, bools_length, List.length_set], rfl⟩]
  simp [bset, mb, List.map_set]
theorem xset_skipI {b x : Nat} {M : List (List Int)} {l : List Ent} {k : Blk} (h : x < b ∨ b + M.length < x) : xset (.mat b (mi M) :: l) x k = .mat b (mi M) :: xset l x k := by
  rw [xset, if_neg (by rw [mi_length]; omega), if_pos (by rw [mi_length]; exact h)]
theorem xset_skipB {b x : Nat} {M : List (List Bool)} {l : List Ent} {k : Blk} (h : x < b ∨ b + M.length < x) : xset (.mat b (mb M) :: l) x k = .mat b (mb M) :: xset l x k := by
  rw [xset, if_neg (by rw [mb_length]; omega), if_pos (by rw [mb_length]; exact h)]

/-! ### A round's end -/
def EntIn (H : Heap) : Ent → Prop
  | .blk k v => H.map k = some v
  | .mat b R => ∀ x, b ≤ x → x ≤ b + R.length → H.map x = matMap b R x
  | .rows fl nr => ∀ p ∈ nr, H.map p.1 = some ⟨p.2, fl⟩
  | .cut b => H.map b = none
theorem nrFind_mem : ∀ {nr : List (Nat × List SV)} {x : Nat} {r : List SV}, nrFind nr x = some r → (x, r) ∈ nr
  | [], x, r, h => by simp [nrFind] at h
  | p :: l, x, r, h => by
    rw [nrFind] at h
    split at h
    · rename_i e; subst e
      simp at h; subst h; simp
    · exact List.mem_cons_of_mem _ (nrFind_mem h)
theorem Wk.ofX {s : St} {l : List (Nat × SV)} {lb : List Ent} {n : Nat} (h : ∀ p ∈ l, s.σ p.1 = p.2) (hm : ∀ e ∈ lb, EntIn s.H e) (hn : s.H.nb ≤ n) : Wk s ⟨ofL l, hx lb n⟩ := by
  refine ⟨ofL_wk h, hn, fun b => ?_⟩
  show xmap lb b = none ∨ xmap lb b = s.H.map b
  clear h hn
  induction lb with
  | nil => exact .inl rfl
  | cons q lb ih =>
    have ih := ih (fun e he => hm e (by simp [he]))
    have hq := hm q (by simp)
    cases q with
    | blk k v =>
      rw [xmap]
      split
      · rename_i e; subst e; exact .inr hq.symm
      · exact ih
    | mat c R =>
      rw [xmap]
      split
      · rename_i e; exact .inr (hq b e.1 e.2).symm
      · exact ih
    | rows fl nr =>
      rw [xmap]
      split
      · rename_i r hr
        exact .inr (hq _ (nrFind_mem hr)).symm
      · exact ih
    | cut c =>
      rw [xmap]
      split
      · exact .inl rfl
      · exact ih
theorem EntIn.self {b : Nat} {R : List (List SV)} {l : List Ent} {n : Nat} : EntIn (hx (.mat b R :: l) n) (.mat b R) := by
  intro x h1 h2
  rw [hx_map, xmap, if_pos ⟨h1, h2⟩]
theorem EntIn.skipM {b k n : Nat} {v : Blk} {R : List (List SV)} {l : List Ent} (h : EntIn (hx l n) (.mat b R)) (hk : k < b ∨ b + R.length < k) : EntIn (hx (.blk k v :: l) n) (.mat b R) := by
  intro x h1 h2
  rw [hx_map, xmap, if_neg (by omega)]
  exact h x h1 h2
theorem EntIn.skipMM {b c n : Nat} {R S : List (List SV)} {l : List Ent} (h : EntIn (hx l n) (.mat b R)) (hk : c + S.length < b ∨ b + R.length < c) : EntIn (hx (.mat c S :: l) n) (.mat b R) := by
  intro x h1 h2
  rw [hx_map, xmap, if_neg (by omega)]
  exact h x h1 h2
theorem EntIn.skipR {k n : Nat} {v : Blk} {fl : Bool} {nr : List (Nat × List SV)} {l : List Ent} (h : EntIn (hx l n) (.rows fl nr)) (hk2 : ∀ p ∈ nr, p.1 ≠ k) : EntIn (hx (.blk k v :: l) n) (.rows fl nr) := by
  intro p hp
  rw [hx_map, xmap, if_neg (hk2 p hp)]; exact h p hp
theorem EntIn.skipC {k n : Nat} {fl : Bool} {nr : List (Nat × List SV)} {l : List Ent} (h : EntIn (hx l n) (.rows fl nr)) (hk2 : ∀ p ∈ nr, p.1 ≠ k) : EntIn (hx (.cut k :: l) n) (.rows fl nr) := by
  intro p hp
  rw [hx_map, xmap, if_neg (hk2 p hp)]; exact h p hp
theorem EntIn.snoc {H : Heap} {b : Nat} {r : List SV} {fl : Bool} {nr : List (Nat × List SV)} (h : EntIn H (.rows fl nr)) (h2 : H.map b = some ⟨r, fl⟩) : EntIn H (.rows fl (nr ++ [(b, r)])) := by
  intro p hp
  rcases List.mem_append.1 hp with hp | hp
  · exact h p hp
  · simp at hp; subst hp; exact h2
theorem outerN_snoc (fl : Bool) (nr : List (Nat × List SV)) (b : Nat) (r : List SV) : outerN fl (nr ++ [(b, r)]) = outerN fl nr ++ [.own b 0 r.length r.length 1 fl] := by simp [outerN]
theorem outerN_length (fl : Bool) (nr : List (Nat × List SV)) : (outerN fl nr).length = nr.length := by simp [outerN]
theorem outerN_flat (fl : Bool) (nr : List (Nat × List SV)) : (outerN fl nr).all flat = true := by simp [outerN, flat]
/-- No name twice. -/
def NrOk (b nb : Nat) (nr : List (Nat × List SV)) : Prop := b < nb ∧ (∀ p ∈ nr, p.1 < nb ∧ p.1 ≠ b) ∧ (nr.map (·.1)).Nodup
theorem nrFind_get : ∀ {nr : List (Nat × List SV)} {p : Nat × List SV}, (nr.map (·.1)).Nodup → p ∈ nr → nrFind nr p.1 = some p.2
  | [], p, _, h => by simp at h
  | q :: l, p, hn, h => by
    simp only [List.map_cons, List.nodup_cons] at hn
    rw [nrFind]
    rcases List.mem_cons.1 h with rfl | h
    · rw [if_pos rfl]
    · rw [if_neg (fun e => hn.1 (by rw [← e]; exact List.mem_map_of_mem h))]
      exact nrFind_get hn.2 h
theorem EntIn.selfR {n : Nat} {fl : Bool} {nr : List (Nat × List SV)} {l : List Ent} (h : (nr.map (·.1)).Nodup) : EntIn (hx (.rows fl nr :: l) n) (.rows fl nr) := by
  intro p hp
  rw [hx_map, xmap, nrFind_get h hp]
theorem NrOk.nil {b nb : Nat} (h : b < nb) : NrOk b nb [] := ⟨h, by simp, by simp⟩
theorem NrOk.snoc {b nb b' nb' x : Nat} {r : List SV} {nr : List (Nat × List SV)} (h : NrOk b nb nr) (h1 : nb ≤ x) (h2 : nb ≤ b') (h3 : x ≠ b') (h4 : x < nb') (h5 : b' < nb') : NrOk b' nb' (nr ++ [(x, r)]) := by
  refine ⟨h5, fun p hp => ?_, ?_⟩
  · rcases List.mem_append.1 hp with hp | hp
    · have := (h.2.1 p hp).1; omega
    · simp at hp; subst hp; exact ⟨h4, h3⟩
  · rw [List.map_append, List.nodup_append]
    refine ⟨h.2.2, by simp, ?_⟩
    intro a ha c hc
    obtain ⟨p, hp, rfl⟩ := List.mem_map.1 ha
    simp at hc; subst hc
    have := (h.2.1 p hp).1; omega

/-! ### Results -/
def MatRes (R : List (List SV)) (r : SV) (H : Heap) : Prop :=
  ∃ (b off cap : Nat) (ex : Bool) (blk : Blk), r = .own b off R.length cap 1 ex ∧ H.map b = some blk ∧ off + R.length ≤ blk.cells.length ∧ (∀ row ∈ R, row.all isVal = true) ∧
    ∃ nm oi : Nat → Nat, (∀ i i', i < R.length → i' < R.length → nm i = nm i' → i = i') ∧ (∀ i, i < R.length → nm i ≠ b) ∧
      ∀ i, i < R.length → ∃ capi exi blki, blk.cells[off + i]? = some (.own (nm i) (oi i) (rowAt R i).length capi 1 exi) ∧ H.map (nm i) = some blki ∧ (blki.cells.drop (oi i)).take (rowAt R i).length = rowAt R i ∧ oi i + (rowAt R i).length ≤ blki.cells.length
def MatOne (R : List (List SV)) (r : SV) (H : Heap) : Prop := r = .own 0 0 R.length R.length 1 false ∧ H = hx [.mat 0 R] (R.length + 1)

theorem outerB_get {b k : Nat} {R : List (List SV)} (h : k < R.length) : (outerB b R)[k]? = some (.own (b + 1 + k) 0 (rowAt R k).length (rowAt R k).length 1 false) := by
  simp only [outerB, List.getElem?_map]
  rw [List.getElem?_range h]
  rfl
theorem rowAt_mem {R : List (List SV)} {i : Nat} (h : i < R.length) : rowAt R i ∈ R := by rw [rowAt_length h]; exact List.getElem_mem h
theorem own_zero {O : Nat → Prop} {w : World} {j : JMap} {v : Value} {b off n cap sz : Nat} {ex : Bool} {rb base : Nat} (h : VRel O w j (.own b off n cap sz ex) v) (hj : j b = some (rb, base)) {j' : JMap} {b' : Nat} {O' : Nat → Prop} (hj' : j' b' = some (rb, base + off)) :
    VRel O' w j' (.own b' 0 n n sz false) v := by
  simp only [VRel] at h ⊢
  obtain ⟨rb', base', a, cap', c, e, fr, g1, g2, g3, g4, g5, g6, g7, g8⟩ := h
  rw [hj] at g1
  obtain ⟨rfl, rfl⟩ := (by simpa using g1 : rb = rb' ∧ base = base')
  exact ⟨rb, base + off, a, cap', c, e, fr, hj', g2, Nat.le_refl _, by omega, by simp, by simpa using g6, g7, by simpa using g8⟩

theorem mat_rel {R : List (List SV)} {j : JMap} {H : Heap} {w : World} {r : SV} {v : Value} (h : MatRes R r H) (hr : Rel j H w) (hv : VRel (OwnR j H) w j r v) :
    ∃ j', Rel j' (hx [.mat 0 R] (R.length + 1)) w ∧ VRel (OwnR j' (hx [.mat 0 R] (R.length + 1))) w j' (.own 0 0 R.length R.length 1 false) v ∧ ∀ k, OwnR j' (hx [.mat 0 R] (R.length + 1)) k → OwnR j H k := by
  obtain ⟨b, off, cap, ex, blk, rfl, hb, hlen, hval, nm, oi, hinj, hne, hrow⟩ := h
  obtain ⟨rb, base, k1, hat⟩ := hr.live b blk hb
  let j' : JMap := fun x => if x = 0 then some (rb, base + off) else if x ≤ R.length then (j (nm (x - 1))).map (fun p => (p.1, p.2 + oi (x - 1))) else none
  have j0 : j' 0 = some (rb, base + off) := rfl
  have jr : ∀ i, i < R.length → ∃ rbi basei, j (nm i) = some (rbi, basei) ∧ j' (0 + 1 + i) = some (rbi, basei + oi i) := by
    intro i hi
    obtain ⟨capi, exi, blki, q1, q2, q3, q4⟩ := hrow i hi
    obtain ⟨rbi, basei, p1, _⟩ := hr.live _ blki q2
    refine ⟨rbi, basei, p1, ?_⟩
    show (if 0 + 1 + i = 0 then _ else if 0 + 1 + i ≤ R.length then (j (nm (0 + 1 + i - 1))).map _ else none) = _
    have e : 0 + 1 + i - 1 = i := by omega
    rw [if_neg (by omega), if_pos (by omega), e, p1]
    rfl
  have hm0 : (hx [.mat 0 R] (R.length + 1)).map 0 = some ⟨outerB 0 R, false⟩ := by rw [hx_map, xmap_mat]
  have hmr : ∀ i, i < R.length → (hx [.mat 0 R] (R.length + 1)).map (0 + 1 + i) = some ⟨rowAt R i, false⟩ := by
    intro i hi
    rw [hx_map, xmap, if_pos (by omega), matMap, if_neg (by omega)]
    congr 3; omega
  have hms : ∀ x bl, (hx [.mat 0 R] (R.length + 1)).map x = some bl → (x = 0 ∧ bl = ⟨outerB 0 R, false⟩) ∨ ∃ i, i < R.length ∧ x = 0 + 1 + i ∧ bl = ⟨rowAt R i, false⟩ := by
    intro x bl hx
    rw [hx_map, xmap] at hx
    split at hx
    · rename_i hr
      rw [matMap] at hx
      split at hx
      · rename_i h0
        simp at hx
        exact .inl ⟨h0, hx.symm⟩
      · rename_i h0
        simp at hx
        exact .inr ⟨x - 1, by omega, by omega, hx.symm⟩
    · simp [xmap] at hx
  have hback : ∀ k, OwnR j' (hx [.mat 0 R] (R.length + 1)) k → OwnR j H k := by
    rintro k ⟨x, bl, bs, h1, h2⟩
    rcases hms x bl h1 with ⟨rfl, rfl⟩ | ⟨i, hi, rfl, rfl⟩
    · rw [j0] at h2
      simp at h2
      obtain ⟨rfl, _⟩ := h2
      exact ⟨b, blk, base, hb, k1⟩
    · obtain ⟨rbi, basei, p1, p2⟩ := jr i hi
      rw [p2] at h2
      simp at h2
      obtain ⟨rfl, _⟩ := h2
      obtain ⟨capi, exi, blki, q1, q2, q3, q4⟩ := hrow i hi
      exact ⟨nm i, blki, basei, q2, p1⟩
  refine ⟨j', ⟨hr.tab.tr (Tr.weaken w hback), ?_, ?_, ?_⟩, own_zero hv k1 j0, hback⟩
  · intro x p hp
    show x < R.length + 1
    by_cases h0 : x = 0
    · omega
    · have : (if x = 0 then some (rb, base + off) else if x ≤ R.length then (j (nm (x - 1))).map (fun p => (p.1, p.2 + oi (x - 1))) else none) = some p := hp
      rw [if_neg h0] at this
      split at this
      · omega
      · simp at this
  · intro x bl hx
    obtain ⟨c, e, lo, hi', q2, q3, q4, q5, q6⟩ := hat
    rcases hms x bl hx with ⟨rfl, rfl⟩ | ⟨i, hi, rfl, rfl⟩
    · refine ⟨rb, base + off, j0, c, e, lo, hi', q2, q3, ?_, by simp, ?_⟩
      · show base + off + (outerB 0 R).length ≤ c.size
        rw [outerB_length]; omega
      · intro i s hs
        have hs' : (outerB 0 R)[i]? = some s := hs
        have hi : i < R.length := by
          have := (List.getElem?_eq_some_iff.1 hs').1
          rwa [outerB_length] at this
        rw [outerB_get hi] at hs'
        simp at hs'
        subst hs'
        obtain ⟨capi, exi, blki, p1, p2, p3, p4⟩ := hrow i hi
        obtain ⟨u, g1, g2⟩ := q6 (off + i) _ p1
        obtain ⟨rbi, basei, t1, t2⟩ := jr i hi
        exact ⟨u, by simpa [Nat.add_assoc] using g1, by simpa only [Nat.zero_add] using own_zero g2 t1 t2⟩
    · obtain ⟨capi, exi, blki, p1, p2, p3, p4⟩ := hrow i hi
      obtain ⟨rbi, basei, t1, t2⟩ := jr i hi
      obtain ⟨rbi', basei', s1, c', e', lo', hi2, s2, s3, s4, s5, s6⟩ := hr.live _ blki p2
      rw [t1] at s1
      obtain ⟨rfl, rfl⟩ := (by simpa using s1 : rbi = rbi' ∧ basei = basei')
      refine ⟨rbi, basei + oi i, t2, c', e', lo', hi2, s2, s3, ?_, by simp, ?_⟩
      · show basei + oi i + (rowAt R i).length ≤ c'.size
        omega
      · intro k s hs
        have hs' : (rowAt R i)[k]? = some s := hs
        have hk : k < (rowAt R i).length := (List.getElem?_eq_some_iff.1 hs').1
        rw [← p3, List.getElem?_take, if_pos hk, List.getElem?_drop] at hs'
        obtain ⟨u, g1, g2⟩ := s6 (oi i + k) s hs'
        refine ⟨u, by simpa [Nat.add_assoc] using g1, ?_⟩
        have hsv : isVal s = true := (List.all_eq_true.1 (hval _ (rowAt_mem hi))) s (List.mem_of_getElem? hs)
        obtain ⟨z, rfl⟩ := isVal_of hsv
        simpa only [VRel] using g2
  · intro x x' bl bl' rb1 ba ba' h1 h2 h3 h4
    rcases hms x bl h1 with ⟨rfl, rfl⟩ | ⟨i, hi, rfl, rfl⟩ <;> rcases hms x' bl' h2 with ⟨rfl, rfl⟩ | ⟨i', hi', rfl, rfl⟩
    · rfl
    · obtain ⟨rbi, basei, t1, t2⟩ := jr i' hi'
      obtain ⟨capi, exi, blki, p1, p2, p3, p4⟩ := hrow i' hi'
      rw [j0] at h3
      rw [t2] at h4
      simp at h3 h4
      obtain ⟨rfl, _⟩ := h3
      obtain ⟨rfl, _⟩ := h4
      exact absurd (hr.inj _ _ _ _ _ _ _ p2 hb t1 k1) (hne i' hi')
    · obtain ⟨rbi, basei, t1, t2⟩ := jr i hi
      obtain ⟨capi, exi, blki, p1, p2, p3, p4⟩ := hrow i hi
      rw [j0] at h4
      rw [t2] at h3
      simp at h3 h4
      obtain ⟨rfl, _⟩ := h3
      obtain ⟨rfl, _⟩ := h4
      exact absurd (hr.inj _ _ _ _ _ _ _ p2 hb t1 k1) (hne i hi)
    · obtain ⟨rbi, basei, t1, t2⟩ := jr i hi
      obtain ⟨capi, exi, blki, p1, p2, p3, p4⟩ := hrow i hi
      obtain ⟨rbi', basei', t1', t2'⟩ := jr i' hi'
      obtain ⟨capi', exi', blki', p1', p2', p3', p4'⟩ := hrow i' hi'
      rw [t2] at h3
      rw [t2'] at h4
      simp at h3 h4
      obtain ⟨rfl, _⟩ := h3
      obtain ⟨rfl, _⟩ := h4
      rw [hinj i i' hi hi' (hr.inj _ _ _ _ _ _ _ p2 p2' t1 t1')]

theorem outerB_nr (b : Nat) (R : List (List SV)) : noRowL (outerB b R) = true := by
  unfold outerB
  generalize List.range R.length = l
  induction l with
  | nil => rfl
  | cons a l ih => simp only [List.map_cons, noRowL, ih, Bool.and_true, noRow]
theorem mat_nr {b n : Nat} {R : List (List SV)} (h : ∀ row ∈ R, row.all isVal = true) : nrHeap (hx [.mat b R] n) := by
  intro x blk hb
  rw [hx_map, xmap] at hb
  split at hb
  · rename_i hr
    rw [matMap] at hb
    split at hb
    · simp at hb; subst hb; exact outerB_nr b R
    · rename_i h0
      simp at hb; subst hb
      exact isVal_noRow (h _ (rowAt_mem (by omega)))
  · simp [xmap] at hb
theorem MatRes.vals {R : List (List SV)} {r : SV} {H : Heap} (h : MatRes R r H) : ∀ row ∈ R, row.all isVal = true := by
  obtain ⟨b, off, cap, ex, blk, _, _, _, h5, _⟩ := h
  exact h5
variable {P : Program}
theorem FCall.mat {f : FuncId} {args : List SV} {R : List (List SV)} (h : FCall P f args (MatRes R)) : FCall P f args (MatOne R) := by
  refine ⟨h.1, fun w vs hl ht => (h.2 w vs hl ht).mono ?_⟩
  rintro e w' ⟨v, r, j, H, h1, h2, h3, h4, h5, h6, h7, h8⟩
  obtain ⟨j', r', v', o'⟩ := mat_rel h8 h3 h4
  exact ⟨v, _, j', _, h1, h2, r', v', fun k hk => h5 k (o' k hk), rfl, mat_nr h8.vals, rfl, rfl⟩
theorem merge_mat {j : JMap} {H : Heap} {w : World} (r : Rel j H w) {R : List (List SV)} (h : ∀ row ∈ R, row.all isVal = true) : H.merge (hx [.mat 0 R] (R.length + 1)) = H.pushM R := by
  refine Heap.ext' (fun x => ?_) (by simp only [Heap.merge, Heap.pushM, hx]; omega)
  simp only [Heap.merge, Heap.pushM, hx_map, xmap]
  by_cases h1 : x < H.nb
  · rw [if_pos h1, if_neg (by omega)]
  · rw [if_neg h1]
    by_cases h2 : x ≤ H.nb + R.length
    · rw [if_pos (by omega), if_pos (by omega), matMap, matMap]
      by_cases h3 : x = H.nb
      · subst h3
        rw [if_pos (by omega), if_pos rfl]
        simp only [Option.map_some]
        congr 2
        unfold outerB
        generalize List.range R.length = l
        induction l with
        | nil => rfl
        | cons a l ih =>
          simp only [List.map_cons, shiftL, ih, shift]
          congr 2; omega
      · rw [if_neg (by omega), if_neg h3]
        simp only [Option.map_some]
        have e : x - H.nb - 0 - 1 = x - H.nb - 1 := by omega
        rw [e, isVal_shift (h _ (rowAt_mem (by omega)))]
    · rw [if_neg (by omega), if_neg (by omega), r.fresh (by omega)]
      rfl
/-- A call that gives back a matrix in memory of its own. -/
theorem FCall.callMat {f : FuncId} {args args' : List SV} {R : List (List SV)} {H : Heap} {K : SV → Heap → Prop} (h : FCall P f args' (MatOne R)) (hc : ∀ row ∈ R, row.all isVal = true) (fu : Nat) (hv : viewL H fu args = some args')
    (k : K (.own H.nb 0 R.length R.length 1 false) (H.pushM R)) : @CallX P f args H ⟨K⟩ := by
  refine ⟨h.1, fun j w vs r hl => ((h.callS fu hv).2 j w vs r hl).mono ?_⟩
  rintro e w' ⟨r1, v, j', H', h1, h2, h3, h4, r0, H0, ⟨rfl, rfl⟩, rfl, rfl⟩
  refine ⟨_, v, j', _, h1, h2, h3, h4, ?_⟩
  rw [merge_mat r hc]
  simpa only [shift, Nat.zero_add] using k
theorem mi_vals (M : List (List Int)) : ∀ row ∈ mi M, row.all isVal = true := by
  intro row h
  obtain ⟨l, _, rfl⟩ := List.mem_map.1 h
  exact ints_vals l
theorem mb_vals (M : List (List Bool)) : ∀ row ∈ mb M, row.all isVal = true := by
  intro row h
  obtain ⟨l, _, rfl⟩ := List.mem_map.1 h
  exact bools_vals l

/-! ### Seen as contents -/
theorem view_mat {H : Heap} {b n f cap : Nat} {ex : Bool} {R : List (List SV)} (h : EntIn H (.mat b R)) (hn : n = R.length) (hv : ∀ i, i < R.length → viewL H f (rowAt R i) = some (rowAt R i)) :
    view H (f + 2) (.own b 0 n cap 1 ex) = some (.row n false (R.map fun r => .row r.length false r)) := by
  subst hn
  have h0 : H.map b = some ⟨outerB b R, false⟩ := by rw [h b (by omega) (by omega), matMap, if_pos rfl]
  simp only [view, h0, Nat.mul_one, List.drop_zero, outerB_length, Nat.zero_add, Nat.le_refl, if_true]
  have e : (outerB b R).take R.length = outerB b R := List.take_of_length_le (by rw [outerB_length]; exact Nat.le_refl _)
  rw [e, outerB, viewL_fn (h := fun i => .row (rowAt R i).length false (rowAt R i)) _ (fun i hi => ?_)]
  · have : (List.range R.length).map (fun i => SV.row (rowAt R i).length false (rowAt R i)) = R.map fun r => .row r.length false r := by
      apply List.ext_getElem?
      intro i
      simp only [List.getElem?_map]
      by_cases hi : i < R.length
      · rw [List.getElem?_range hi, List.getElem?_eq_getElem hi, ← rowAt_length hi]; rfl
      · have : (List.range R.length)[i]? = none := by simp; omega
        rw [this, List.getElem?_eq_none (by omega : R.length ≤ i)]; rfl
    rw [this]
  · have hi' : i < R.length := by simpa using hi
    have hm : H.map (b + 1 + i) = some ⟨rowAt R i, false⟩ := by
      rw [h (b + 1 + i) (by omega) (by omega), matMap, if_neg (by omega)]
      congr 3; omega
    simp only [view, hm, Nat.mul_one, List.drop_zero, Nat.zero_add, Nat.le_refl, if_true, List.take_length, hv i hi']
theorem view_mi {H : Heap} {b n f cap : Nat} {ex : Bool} {M : List (List Int)} (h : EntIn H (.mat b (mi M))) (hn : n = M.length) : view H (f + 2) (.own b 0 n cap 1 ex) = some (rr M) := by
  rw [view_mat h (by rw [hn, mi_length]) (fun i hi => by rw [mi_row (by rwa [mi_length] at hi)]; exact viewL_ints _ _ _)]
  subst hn
  simp only [rr, rows, mi, List.map_map]
  congr 2
  exact List.map_congr_left (fun r _ => by simp [ri, ints_length])
theorem view_mb {H : Heap} {b n f cap : Nat} {ex : Bool} {M : List (List Bool)} (h : EntIn H (.mat b (mb M))) (hn : n = M.length) : view H (f + 2) (.own b 0 n cap 1 ex) = some (rb M) := by
  rw [view_mat h (by rw [hn, mb_length]) (fun i hi => by rw [mb_row (by rwa [mb_length] at hi)]; exact viewL_bools _ _ _)]
  subst hn
  simp only [rb, rowsB, mb, List.map_map]
  congr 2
  exact List.map_congr_left (fun r _ => by simp [bools_length])
theorem MatOne.viewI {M : List (List Int)} {r : SV} {H : Heap} (h : MatOne (mi M) r H) : view H 2 r = some (rr M) := by
  obtain ⟨rfl, rfl⟩ := h
  exact view_mi EntIn.self (mi_length M)
theorem MatOne.viewB {M : List (List Bool)} {r : SV} {H : Heap} (h : MatOne (mb M) r H) : view H 2 r = some (rb M) := by
  obtain ⟨rfl, rfl⟩ := h
  exact view_mb EntIn.self (mb_length M)
theorem rows_res {b nb : Nat} {fl : Bool} {nr : List (Nat × List SV)} {H : Heap} (h : NrOk b nb nr) (hv : ∀ p ∈ nr, p.2.all isVal = true) (h1 : H.map b = some ⟨outerN fl nr, false⟩) (h2 : EntIn H (.rows fl nr)) : MatRes (nr.map (·.2)) (.own b 0 nr.length nr.length 1 false) H := by
  have hl : (nr.map (·.2)).length = nr.length := by simp
  refine ⟨b, 0, nr.length, false, _, by rw [hl], h1, by rw [hl, outerN_length]; omega, ?_, fun i => (nr.getD i (0, [])).1, fun _ => 0, ?_, ?_, ?_⟩
  · intro row hr
    obtain ⟨p, hp, rfl⟩ := List.mem_map.1 hr
    exact hv p hp
  · intro i i' hi hi' he
    rw [hl] at hi hi'
    have hn := h.2.2
    have hi2 : i < (nr.map (·.1)).length := by simpa using hi
    have hi2' : i' < (nr.map (·.1)).length := by simpa using hi'
    have e1 : (nr.getD i (0, [])).1 = (nr.map (·.1))[i] := by simp [hi]
    have e2 : (nr.getD i' (0, [])).1 = (nr.map (·.1))[i'] := by simp [hi']
    simp only [] at he
    rw [e1, e2] at he
    have hpw := List.pairwise_iff_getElem.1 hn
    rcases Nat.lt_trichotomy i i' with g | g | g
    · exact absurd he (hpw i i' hi2 hi2' g)
    · exact g
    · exact absurd he.symm (hpw i' i hi2' hi2 g)
  · intro i hi
    rw [hl] at hi
    have : nr.getD i (0, []) ∈ nr := by simp [hi]
    exact (h.2.1 _ this).2
  · intro i hi
    rw [hl] at hi
    have hm : nr.getD i (0, []) ∈ nr := by simp [hi]
    have hr : rowAt (nr.map (·.2)) i = (nr.getD i (0, [])).2 := by simp [rowAt, hi]
    refine ⟨(rowAt (nr.map (·.2)) i).length, fl, ⟨(nr.getD i (0, [])).2, fl⟩, ?_, h2 _ hm, ?_, ?_⟩
    · rw [hr]; simp [outerN, hi]
    · rw [hr]; simp
    · rw [hr]; simp
/-- At a body's end: rows under names of any kind. -/
theorem fin_rows {b nb : Nat} {fl : Bool} {nr : List (Nat × List SV)} {H : Heap} {R : List (List SV)} (h : NrOk b nb nr) (hv : ∀ p ∈ nr, p.2.all isVal = true) (h1 : H.map b = some ⟨outerN fl nr, false⟩) (h2 : EntIn H (.rows fl nr)) (hR : R = nr.map (·.2)) :
    Fin (MatRes R) (.own b 0 nr.length nr.length 1 false) H := by
  subst hR
  have hne : ∀ p ∈ nr, p.1 ≠ b := fun p hp => (h.2.1 p hp).2
  refine ⟨hx [.blk b ⟨outerN fl nr, false⟩, .rows fl nr] H.nb, ⟨rfl, fun x => ?_⟩, rfl, ?_, rows_res h hv (by rw [hx_map, xmap, if_pos rfl]) ((EntIn.selfR h.2.2).skipR hne)⟩
  · rw [hx_map, xmap]
    by_cases hx : x = b
    · subst hx; rw [if_pos rfl]; exact .inr h1.symm
    · rw [if_neg hx, xmap]
      split
      · rename_i r hr
        exact .inr (h2 _ (nrFind_mem hr)).symm
      · exact .inl rfl
  · intro x blk hb
    rw [hx_map, xmap] at hb
    split at hb
    · simp at hb; subst hb
      show noRowL (outerN fl nr) = true
      unfold outerN
      clear h hv h1 h2 hne
      induction nr with
      | nil => rfl
      | cons a l ih => simp only [List.map_cons, noRowL, ih, Bool.and_true, noRow]
    · rw [xmap] at hb
      split at hb
      · rename_i r hr
        simp at hb; subst hb
        exact isVal_noRow (hv _ (nrFind_mem hr))
      · simp [xmap] at hb
attribute [go_sem] hx_del xdel_blk xdel_rows xdel_nil hx_nb hx_map hx_push hx_set hx_pushM hp_pushM toE_nil toE_cons xmap_blk xmap_nil xmap_mat xset_blk xset_nil mi_length mb_length outerB_length bools_length
end Go.Sh

/-
  Contracts: matrices copied into memory of their own, marked, read back.
-/
namespace Go.Sh
set_option linter.unusedSimpArgs false
set_option linter.unusedVariables false
open Go Go.Proofs
variable {P : Program}

theorem HS_res (M : List (List Int)) : MatRes (mi M) (.own 0 0 M.length M.length 1 true) (HS M M.length) := by
  have hl := mi_length M
  refine ⟨0, 0, M.length, true, _, by rw [hl], HS_map M _, by rw [hl, outer_length]; omega, mi_vals _, fun i => i + 1, fun _ => 0, fun i i' _ _ h => by simpa using h, fun i _ => by simp, fun i hi => ?_⟩
  rw [hl] at hi
  have hr : rowAt (mi M) i = ints (mrow M i) := mi_row hi
  refine ⟨(mrow M i).length, false, ⟨ints (mrow M i), false⟩, ?_, ?_, ?_, ?_⟩
  · rw [hr, Nat.zero_add, ints_length]
    simp only [outer, List.getElem?_map]
    rw [List.getElem?_range hi]
    simp only [Option.map_some]
    rw [if_pos hi]
  · simp only [HS]
    rw [if_neg (by omega), if_pos (by omega)]
    simp
  · rw [hr, List.drop_zero, List.take_length]
  · rw [hr]; simp
theorem Tryd.toIntSS_one (M : List (List Int)) (hM : M.length ≤ 1048576) (hR : ∀ i, i < M.length → (mrow M i).length ≤ 1048576) : FCall Tryd.prog 21 [rr M] (MatOne (mi M)) :=
  ((Tryd.toIntSS_f M hM hR).mono fun r H ⟨h1, h2⟩ => by subst h1; subst h2; exact HS_res M).mat

theorem CallS.sub {f : FuncId} {args : List SV} {H : Heap} {Q Q' : SV → Heap → Prop} (h : CallS P f args H Q) (hq : ∀ r H', Q r H' → ∃ H2, Sub H2 H' ∧ Q' r H2) : CallS P f args H Q' := by
  refine ⟨h.1, fun j w vs r hl => (h.2 j w vs r hl).mono ?_⟩
  rintro e w' ⟨r, v, j', H', h1, h2, h3, h4, h5⟩
  obtain ⟨H2, hs, hq2⟩ := hq r H' h5
  have hsub : ∀ k, OwnR j' H2 k → OwnR j' H' k := by
    rintro k ⟨b, blk, base, g1, g2⟩
    refine ⟨b, blk, base, ?_, g2⟩
    rcases hs.map b with e | e
    · rw [e] at g1; simp at g1
    · rw [← e]; exact g1
  refine ⟨r, v, j', H2, h1, h2.sub hs, VRel.tr (Tr.weaken w' hsub) (fun _ _ h => h) r v h3, ?_, hq2⟩
  exact ⟨h4.os, h4.tape, h4.output, h4.size, h4.keep, h4.sizes, h4.jle, by rw [hs.nb]; exact h4.nble, fun k o => h4.own k (hsub k o)⟩

def Heap.cutR (H : Heap) (a c : Nat) : Heap := ⟨fun x => if a ≤ x ∧ x ≤ c then none else H.map x, H.nb⟩
def consE (e : Ent) (H : Heap) : Heap := match e with
  | .blk k v => ⟨fun x => if x = k then some v else H.map x, H.nb⟩
  | .mat b R => ⟨fun x => if b ≤ x ∧ x ≤ b + R.length then matMap b R x else H.map x, H.nb⟩
  | .rows fl nr => ⟨fun x => match nrFind nr x with | some r => some ⟨r, fl⟩ | none => H.map x, H.nb⟩
  | .cut b => ⟨fun x => if x = b then none else H.map x, H.nb⟩
theorem consE_hx (e : Ent) (l : List Ent) (n : Nat) : consE e (hx l n) = hx (e :: l) n := by cases e <;> rfl
theorem cutR_nil (n a c : Nat) : (hx [] n).cutR a c = hx [] n := by
  refine Heap.ext' (fun x => ?_) rfl
  simp only [Heap.cutR, hx, xmap]
  split <;> rfl
theorem cutR_blk {k n a c : Nat} {v : Blk} {l : List Ent} (h : k < a ∨ c < k) : (hx (.blk k v :: l) n).cutR a c = consE (.blk k v) ((hx l n).cutR a c) := by
  refine Heap.ext' (fun x => ?_) rfl
  simp only [Heap.cutR, hx, xmap, consE]
  by_cases h1 : x = k
  · subst h1
    rw [if_neg (by omega), if_pos rfl, if_pos rfl]
  · rw [if_neg h1, if_neg h1]
theorem cutR_same {b n c : Nat} {M : List (List Int)} {l : List Ent} (h : c = b + M.length) : (hx (.mat b (mi M) :: l) n).cutR b c = (hx l n).cutR b c := by
  subst h
  refine Heap.ext' (fun x => ?_) rfl
  simp only [Heap.cutR, hx, xmap, mi_length]
  by_cases h1 : b ≤ x ∧ x ≤ b + M.length
  · rw [if_pos h1, if_pos h1]
  · rw [if_neg h1, if_neg h1, if_neg h1]
theorem cutR_other {b n a c : Nat} {M : List (List Int)} {l : List Ent} (h : c < b ∨ b + M.length < a) : (hx (.mat b (mi M) :: l) n).cutR a c = consE (.mat b (mi M)) ((hx l n).cutR a c) := by
  refine Heap.ext' (fun x => ?_) rfl
  simp only [Heap.cutR, hx, xmap, consE, mi_length]
  by_cases h1 : b ≤ x ∧ x ≤ b + M.length
  · rw [if_neg (by omega), if_pos h1, if_pos h1]
  · rw [if_neg h1, if_neg h1]
theorem cutR_map {H : Heap} {a c x : Nat} (h : x < a ∨ c < x) : (H.cutR a c).map x = H.map x := by
  simp only [Heap.cutR]; rw [if_neg (by omega)]

set_option maxHeartbeats 1000000 in
/-- A matrix marked; what it holds then is not told. -/
theorem Tryd.markIntSS_ok (M : List (List Int)) (k : Int) (H : Heap) (b n : Nat) (hb : EntIn H (.mat b (mi M))) (hn : n = M.length) (hM : M.length ≤ 1048576) (hR : ∀ i, i < M.length → (mrow M i).length ≤ 1048576) (hk : 0 ≤ k) (hk2 : k + msum M M.length ≤ 1099511627776) :
    CallS Tryd.prog 48 [.own b 0 n n 1 false, .val (.int .i64 k)] H (fun r H' => r = .val (.int .i64 (k + msum M M.length)) ∧ H' = H.cutR b (b + M.length)) := by
  subst hn
  have hb' := hb
  simp only [EntIn, mi_length] at hb'
  have h0 : H.map b = some ⟨outerB b (mi M), false⟩ := by rw [hb' b (by omega) (by omega), matMap, if_pos rfl]
  have hrow : ∀ i, i < M.length → H.map (b + 1 + i) = some ⟨ints (mrow M i), false⟩ := fun i hi => by
    rw [hb' (b + 1 + i) (by omega) (by omega), matMap, if_neg (by omega), ← mi_row hi]
    congr 3; omega
  refine CallS.sub (Q := fun r H' => r = .val (.int .i64 (k + msum M M.length)) ∧ H' = H.cutR (b + 1) (b + M.length)) ?_ (fun r H' ⟨e1, e2⟩ => ⟨_, ⟨?_, fun x => ?_⟩, e1, rfl⟩)
  · refine CallS.of_body Tryd.func48 rfl (by kernel_rfl) (by simp [Tryd.ntmps48]) ?_
    refine SW_of_vc Tryd.mixed _ _ _ (by kernel_rfl) ?_
    simp (disch := omega) only [Tryd.ntmps48, Tryd.results48, go_sem]
    refine LoopW.loop (fun i : Nat => ⟨ofL [(0, .own b 0 M.length M.length 1 false), (1, .val (.int .i64 (k + msum M i))), (5, .val (.int .i64 i))], H.cutR (b + 1) (b + i)⟩) (fun i => i ≤ M.length) (fun i => M.length - i) 0 (by omega) (Wk.of (by simp only [go_sem, ↓List.forall_mem_cons, List.not_mem_nil, false_implies, implies_true, and_true, true_and, and_self, ri_eq, Int.natCast_add, Int.cast_ofNat_Int, msum, List.take_zero, List.sum_nil, Int.add_zero]; try simp) (Heap.ext' (fun x => by simp only [Heap.cutR]; rw [if_neg (by omega)]) rfl)) ?_
    intro i hi
    refine SW_of_vc Tryd.mixed _ _ _ (by kernel_rfl) ?_
    have hm0 : (H.cutR (b + 1) (b + i)).map b = some ⟨outerB b (mi M), false⟩ := by rw [cutR_map (by omega), h0]
    have hmn := msum_nonneg M i
    by_cases hlt : i < M.length
    · have hm1 : (H.cutR (b + 1) (b + i)).map (b + 1 + i) = some ⟨ints (mrow M i), false⟩ := by rw [cutR_map (by omega), hrow i hlt]
      have hmono := msum_mono (M := M) (k := i) (j := M.length) (by omega) (by omega)
      have hs := msum_succ hlt
      simp (disch := omega) only [Tryd.ntmps48, Tryd.results48, go_sem, hm0, outerB_getI]
      refine (Tryd.markIntS_ok (mrow M i) (k + msum M i) _ (b + 1 + i) _ _ false false hm1 rfl (by have := hR i hlt; omega) (by omega) (by omega)).callDet ?_
      simp (disch := omega) only [Tryd.ntmps48, Tryd.results48, go_sem]
      refine ⟨i + 1, hlt, by omega, ⟨ofL_wk (by simp only [go_sem, ↓List.forall_mem_cons, List.not_mem_nil, false_implies, implies_true, and_true, true_and, and_self, ri_eq, Int.natCast_add, Int.cast_ofNat_Int, hs, Int.add_assoc]; try simp), Nat.le_refl _, fun x => ?_⟩⟩
      simp only [Heap.cutR, Heap.set]
      by_cases h1 : b + 1 ≤ x ∧ x ≤ b + (i + 1)
      · exact .inl (by rw [if_pos h1])
      · right
        rw [if_neg h1, if_neg (by omega), if_neg (by omega)]
    · obtain rfl : i = M.length := by omega
      simp (disch := omega) only [Tryd.ntmps48, Tryd.results48, go_sem]
  · rw [e2]; rfl
  · subst e2
    simp only [Heap.cutR]
    by_cases h1 : b ≤ x ∧ x ≤ b + M.length
    · exact .inl (by rw [if_pos h1])
    · right
      rw [if_neg h1, if_neg (by omega)]
theorem fin_mat {b n cap : Nat} {ex : Bool} {R : List (List SV)} {H : Heap} (h : EntIn H (.mat b R)) (hv : ∀ row ∈ R, row.all isVal = true) (hn : n = R.length) : Fin (MatRes R) (.own b 0 n cap 1 ex) H := by
  subst hn
  refine ⟨hx [.mat b R] H.nb, ⟨rfl, fun x => ?_⟩, rfl, mat_nr hv, b, 0, cap, ex, _, rfl, by rw [hx_map, xmap_mat], by rw [outerB_length]; omega, hv, fun i => b + 1 + i, fun _ => 0, fun i i' _ _ e => by have e : b + 1 + i = b + 1 + i' := e; omega, fun i _ => by show b + 1 + i ≠ b; omega, fun i hi => ?_⟩
  · rw [hx_map, xmap]
    by_cases hr : b ≤ x ∧ x ≤ b + R.length
    · rw [if_pos hr]; exact .inr (h x hr.1 hr.2).symm
    · rw [if_neg hr]; exact .inl rfl
  · refine ⟨(rowAt R i).length, false, ⟨rowAt R i, false⟩, ?_, ?_, ?_, ?_⟩
    · rw [Nat.zero_add, outerB_get hi]
    · show (hx [.mat b R] H.nb).map (b + 1 + i) = _
      rw [hx_map, xmap, if_pos (by omega), matMap, if_neg (by omega)]
      congr 3; omega
    · simp
    · simp
attribute [go_sem] consE_hx cutR_nil
end Go.Sh

/-
  Contracts: matrices marked, and what they hold then.
-/
namespace Go.Sh
set_option linter.unusedSimpArgs false
set_option linter.unusedVariables false
open Go Go.Proofs
variable {P : Program}

def marksM (M : List (List Int)) (k : Int) : List (List Int) := (List.range M.length).map fun i => marks (mrow M i).length (k + msum M i)
theorem marksM_length (M : List (List Int)) (k : Int) : (marksM M k).length = M.length := by simp [marksM]
theorem marksM_row {M : List (List Int)} {k : Int} {i : Nat} (h : i < M.length) : mrow (marksM M k) i = marks (mrow M i).length (k + msum M i) := by simp [mrow, marksM, h]
theorem outerB_eq {b : Nat} {R S : List (List SV)} (h : R.length = S.length) (g : ∀ i, i < R.length → (rowAt R i).length = (rowAt S i).length) : outerB b R = outerB b S := by
  unfold outerB
  rw [← h]
  refine List.map_congr_left (fun i hi => ?_)
  rw [g i (by simpa using hi)]
theorem marksM_outer (b : Nat) (M : List (List Int)) (k : Int) : outerB b (mi (marksM M k)) = outerB b (mi M) := by
  refine outerB_eq (by rw [mi_length, mi_length, marksM_length]) fun i hi => ?_
  rw [mi_length, marksM_length] at hi
  rw [mi_row (by rw [marksM_length]; exact hi), mi_row hi, ints_length, ints_length, marksM_row hi, marks_length]
def Heap.mkd (H : Heap) (b : Nat) (M : List (List Int)) (k : Int) (i : Nat) : Heap := ⟨fun x => if b + 1 ≤ x ∧ x ≤ b + i then some ⟨ints (mrow (marksM M k) (x - b - 1)), false⟩ else H.map x, H.nb⟩
theorem mkd_zero (H : Heap) (b : Nat) (M : List (List Int)) (k : Int) : H.mkd b M k 0 = H := Heap.ext' (fun x => by simp only [Heap.mkd]; rw [if_neg (by omega)]) rfl
theorem mkd_set {H : Heap} {b : Nat} {M : List (List Int)} {k : Int} {i : Nat} (h : i < M.length) : (H.mkd b M k i).set (b + 1 + i) (some ⟨ints (marks (mrow M i).length (k + msum M i)), false⟩) = H.mkd b M k (i + 1) := by
  refine Heap.ext' (fun x => ?_) rfl
  simp only [Heap.mkd, Heap.set]
  by_cases h1 : x = b + 1 + i
  · subst h1
    have e : b + 1 + i - b - 1 = i := by omega
    rw [if_pos rfl, if_pos (by omega), e, marksM_row h]
  · rw [if_neg h1]
    by_cases h2 : b + 1 ≤ x ∧ x ≤ b + i
    · rw [if_pos h2, if_pos (by omega)]
    · rw [if_neg h2, if_neg (by omega)]
theorem mkd_map {H : Heap} {b : Nat} {M : List (List Int)} {k : Int} {i x : Nat} (h : x ≤ b ∨ b + i < x) : (H.mkd b M k i).map x = H.map x := by
  simp only [Heap.mkd]; rw [if_neg (by omega)]

set_option maxHeartbeats 1000000 in
/-- A matrix marked. -/
theorem Tryd.markIntSS_keep (M : List (List Int)) (k : Int) (H : Heap) (b n : Nat) (hb : EntIn H (.mat b (mi M))) (hn : n = M.length) (hM : M.length ≤ 1048576) (hR : ∀ i, i < M.length → (mrow M i).length ≤ 1048576) (hk : 0 ≤ k) (hk2 : k + msum M M.length ≤ 1099511627776) :
    CallS Tryd.prog 48 [.own b 0 n n 1 false, .val (.int .i64 k)] H (fun r H' => r = .val (.int .i64 (k + msum M M.length)) ∧ H' = consE (.mat b (mi (marksM M k))) H) := by
  subst hn
  have hb' := hb
  simp only [EntIn, mi_length] at hb'
  have h0 : H.map b = some ⟨outerB b (mi M), false⟩ := by rw [hb' b (by omega) (by omega), matMap, if_pos rfl]
  have hrow : ∀ i, i < M.length → H.map (b + 1 + i) = some ⟨ints (mrow M i), false⟩ := fun i hi => by
    rw [hb' (b + 1 + i) (by omega) (by omega), matMap, if_neg (by omega), ← mi_row hi]
    congr 3; omega
  have hend : consE (.mat b (mi (marksM M k))) H = H.mkd b M k M.length := by
    refine Heap.ext' (fun x => ?_) rfl
    simp only [consE, Heap.mkd, mi_length, marksM_length]
    by_cases h1 : b ≤ x ∧ x ≤ b + M.length
    · rw [if_pos h1, matMap]
      by_cases h2 : x = b
      · subst h2
        rw [if_pos rfl, if_neg (by omega), marksM_outer, h0]
      · rw [if_neg h2, if_pos (by omega), mi_row (by rw [marksM_length]; omega)]
    · rw [if_neg h1, if_neg (by omega)]
  rw [hend]
  refine CallS.of_body Tryd.func48 rfl (by kernel_rfl) (by simp [Tryd.ntmps48]) ?_
  refine SW_of_vc Tryd.mixed _ _ _ (by kernel_rfl) ?_
  simp (disch := omega) only [Tryd.ntmps48, Tryd.results48, go_sem]
  refine LoopW.loop (fun i : Nat => ⟨ofL [(0, .own b 0 M.length M.length 1 false), (1, .val (.int .i64 (k + msum M i))), (5, .val (.int .i64 i))], H.mkd b M k i⟩) (fun i => i ≤ M.length) (fun i => M.length - i) 0 (by omega) (Wk.of (by simp only [go_sem, ↓List.forall_mem_cons, List.not_mem_nil, false_implies, implies_true, and_true, true_and, and_self, ri_eq, Int.natCast_add, Int.cast_ofNat_Int, msum, List.take_zero, List.sum_nil, Int.add_zero]; try simp) (mkd_zero _ _ _ _).symm) ?_
  intro i hi
  refine SW_of_vc Tryd.mixed _ _ _ (by kernel_rfl) ?_
  have hm0 : (H.mkd b M k i).map b = some ⟨outerB b (mi M), false⟩ := by rw [mkd_map (by omega), h0]
  have hmn := msum_nonneg M i
  by_cases hlt : i < M.length
  · have hm1 : (H.mkd b M k i).map (b + 1 + i) = some ⟨ints (mrow M i), false⟩ := by rw [mkd_map (by omega), hrow i hlt]
    have hmono := msum_mono (M := M) (k := i) (j := M.length) (by omega) (by omega)
    have hs := msum_succ hlt
    simp (disch := omega) only [Tryd.ntmps48, Tryd.results48, go_sem, hm0, outerB_getI]
    refine (Tryd.markIntS_ok (mrow M i) (k + msum M i) _ (b + 1 + i) _ _ false false hm1 rfl (by have := hR i hlt; omega) (by omega) (by omega)).callDet ?_
    simp (disch := omega) only [Tryd.ntmps48, Tryd.results48, go_sem]
    exact ⟨i + 1, hlt, by omega, Wk.of (by simp only [go_sem, ↓List.forall_mem_cons, List.not_mem_nil, false_implies, implies_true, and_true, true_and, and_self, ri_eq, Int.natCast_add, Int.cast_ofNat_Int, hs, Int.add_assoc]; try simp) (mkd_set hlt)⟩
  · obtain rfl : i = M.length := by omega
    simp (disch := omega) only [Tryd.ntmps48, Tryd.results48, go_sem]
theorem Tryd.markIntSS_nil (k : Int) (H : Heap) (hk : 0 ≤ k) (hk2 : k ≤ 1099511627776) : CallS Tryd.prog 48 [.val (.slice none 0 0), .val (.int .i64 k)] H (fun r H' => r = .val (.int .i64 k) ∧ H' = H) := by
  refine CallS.of_body Tryd.func48 rfl (by kernel_rfl) (by simp [Tryd.ntmps48]) ?_
  refine SW_of_vc Tryd.mixed _ _ _ (by kernel_rfl) ?_
  simp (disch := omega) only [Tryd.ntmps48, Tryd.results48, go_sem]
  refine LoopW.loop (fun _ : Unit => ⟨ofL [(0, .val (.slice none 0 0)), (1, .val (.int .i64 k)), (5, .val (.int .i64 0))], H⟩) (fun _ => True) (fun _ => 0) () trivial (Wk.of (by simp only [go_sem, ↓List.forall_mem_cons, List.not_mem_nil, false_implies, implies_true, and_true, true_and, and_self, ri_eq, Int.natCast_add, Int.cast_ofNat_Int]; try simp) rfl) ?_
  rintro _ _
  refine SW_of_vc Tryd.mixed _ _ _ (by kernel_rfl) ?_
  simp (disch := omega) only [Tryd.ntmps48, Tryd.results48, go_sem]

set_option maxHeartbeats 1000000 in
theorem Tryd.heldIntSS_marks (M : List (List Int)) (k : Int) (hM : M.length ≤ 1048576) (hR : ∀ i, i < M.length → (mrow M i).length ≤ 1048576) (hk : 0 ≤ k) (hk2 : k + msum M M.length ≤ 1099511627776) :
    PCall Tryd.prog 49 [rr (marksM M k), .val (.int .i64 k)] (.val (.int .i64 (k + msum M M.length))) := by
  refine FCall.pcall (R := fun r _ => r = .val (.int .i64 (k + msum M M.length))) ?_ 0 (by rintro r H rfl; exact view_int)
  have hl := marksM_length M k
  refine FCall.of_body Tryd.func49 rfl (by kernel_rfl) (by simp [Tryd.ntmps49]) ?_
  refine SW_of_vc Tryd.mixed _ _ _ (by kernel_rfl) ?_
  simp (disch := omega) only [Tryd.ntmps49, Tryd.results49, go_sem, rr_eq, hl]
  refine LoopW.loop (fun i : Nat => ⟨ofL [(0, rr (marksM M k)), (1, .val (.int .i64 (k + msum M i))), (5, .val (.int .i64 i))], hp [] 0⟩) (fun i => i ≤ M.length) (fun i => M.length - i) 0 (by omega) (Wk.of (by simp only [go_sem, ↓List.forall_mem_cons, List.not_mem_nil, false_implies, implies_true, and_true, true_and, and_self, ri_eq, Int.natCast_add, Int.cast_ofNat_Int, rr_eq, hl, msum, List.take_zero, List.sum_nil, Int.add_zero]; try simp) rfl) ?_
  intro i hi
  refine SW_of_vc Tryd.mixed _ _ _ (by kernel_rfl) ?_
  have hmn := msum_nonneg M i
  by_cases hlt : i < M.length
  · have hrow := marksM_row (k := k) hlt
    have hmono := msum_mono (M := M) (k := i) (j := M.length) (by omega) (by omega)
    have hmono2 := msum_mono (M := M) (k := i + 1) (j := M.length) (by omega) (by omega)
    have hs := msum_succ hlt
    have w := Tryd.heldIntS_ok (marks (mrow M i).length (k + msum M i)) (k + msum M i) (by rw [marks_length]; have := hR i hlt; omega) (by omega) (by omega)
    rw [held_marks] at w
    simp (disch := omega) only [Tryd.ntmps49, Tryd.results49, go_sem, rr_eq, hl, rows_get, hrow, marks_length]
    refine w.callV 0 (viewL_cons_of (view_rowL (by first | rfl | simp [marks_length, canon_length] | omega)) (viewL_cons_of (view_int) viewL_nil_of)) ?_
    simp (disch := omega) only [Tryd.ntmps49, Tryd.results49, go_sem, rr_eq, hl]
    exact ⟨i + 1, hlt, by omega, Wk.of (by simp only [go_sem, ↓List.forall_mem_cons, List.not_mem_nil, false_implies, implies_true, and_true, true_and, and_self, ri_eq, Int.natCast_add, Int.cast_ofNat_Int, rr_eq, hl, hs, Int.add_assoc]; try simp) rfl⟩
  · obtain rfl : i = M.length := by omega
    simp (disch := omega) only [Tryd.ntmps49, Tryd.results49, go_sem, rr_eq, hl]
    exact Fin.val rfl
theorem view_nilM {H : Heap} {f : Nat} : view H f (.val (.slice none 0 0)) = some (rr []) := view_nil
theorem view_rowM {H : Heap} {f n : Nat} {ex : Bool} {M : List (List Int)} (hn : n = M.length) : view H f (.row n ex (rows M)) = some (rr M) := by subst hn; simp only [view, rr]
end Go.Sh

/-
  Blocks of a partition: plain. Rows under names of their own, changed one by one.
-/
namespace Go.Sh
set_option linter.unusedSimpArgs false
set_option linter.unusedVariables false
open Go Go.Proofs

def blkTo (L : List Int) : Nat → List (List Int)
  | 0 => []
  | k + 1 => if L.getD k 0 = (blkTo L k).length then blkTo L k ++ [[(k : Int)]] else (blkTo L k).set (L.getD k 0).toNat ((blkTo L k).getD (L.getD k 0).toNat [] ++ [(k : Int)])
theorem blkTo_new {L : List Int} {k : Nat} (h : L.getD k 0 = (blkTo L k).length) : blkTo L (k + 1) = blkTo L k ++ [[(k : Int)]] := by rw [blkTo, if_pos h]
theorem blkTo_old {L : List Int} {k x : Nat} (hx : L.getD k 0 = x) (h : x < (blkTo L k).length) : blkTo L (k + 1) = (blkTo L k).set x (mrow (blkTo L k) x ++ [(k : Int)]) := by
  rw [blkTo, if_neg (by omega), hx, Int.toNat_natCast]; rfl
def nxt : List Int → Int → Nat → Int
  | _, n, 0 => n
  | [], n, _ + 1 => n
  | x :: L, n, k + 1 => nxt L (max n (x + 1)) k
theorem nxt_succ : ∀ (L : List Int) (n : Int) (k : Nat), k < L.length → nxt L n (k + 1) = max (nxt L n k) (L.getD k 0 + 1)
  | [], n, k, h => by simp at h
  | x :: L, n, 0, h => by cases L <;> simp [nxt]
  | x :: L, n, k + 1, h => by
    have := nxt_succ L (max n (x + 1)) k (by simpa using h)
    simpa [nxt] using this
theorem okP_nxt : ∀ (L : List Int) (n : Int), okP n L = true → ∀ k, k < L.length → 0 ≤ L.getD k 0 ∧ L.getD k 0 ≤ nxt L n k
  | [], n, _, k, h => by simp at h
  | x :: L, n, ho, 0, h => by
    rw [okP, Bool.and_eq_true] at ho
    have := inR_of ho.1
    simpa [nxt] using this
  | x :: L, n, ho, k + 1, h => by
    rw [okP, Bool.and_eq_true] at ho
    have := okP_nxt L (max n (x + 1)) ho.2 k (by simpa using h)
    simpa [nxt] using this
theorem blkTo_length {L : List Int} (h : okP 0 L = true) : ∀ k, k ≤ L.length → ((blkTo L k).length : Int) = nxt L 0 k
  | 0, _ => by simp [blkTo, nxt]
  | k + 1, hk => by
    have ih := blkTo_length h k (by omega)
    have hb := okP_nxt L 0 h k (by omega)
    rw [nxt_succ L 0 k (by omega)]
    by_cases e : L.getD k 0 = (blkTo L k).length
    · rw [blkTo_new e, List.length_append, List.length_singleton]; omega
    · rw [blkTo, if_neg e, List.length_set]; omega
theorem blk_at {L : List Int} (h : isPart L = true) {k : Nat} (hk : k < L.length) : ∃ x : Nat, L.getD k 0 = x ∧ x ≤ (blkTo L k).length := by
  rw [isPart, Bool.and_eq_true] at h
  have h1 := okP_nxt L 0 h.1 k hk
  have h2 := blkTo_length h.1 k (by omega)
  exact ⟨(L.getD k 0).toNat, by omega, by omega⟩
theorem blkTo_le (L : List Int) : ∀ k, (blkTo L k).length ≤ k
  | 0 => by simp [blkTo]
  | k + 1 => by
    have := blkTo_le L k
    rw [blkTo]
    split
    · simp; omega
    · simp; omega
theorem blkTo_row (L : List Int) : ∀ k i, (mrow (blkTo L k) i).length ≤ k
  | 0, i => by simp [blkTo, mrow]
  | k + 1, i => by
    have ih := blkTo_row L k
    rw [blkTo]
    split
    · simp only [mrow, List.getD_eq_getElem?_getD, List.getElem?_append]
      split
      · have := ih i
        simp only [mrow, List.getD_eq_getElem?_getD] at this; omega
      · cases h : i - (blkTo L k).length with
        | zero => simp
        | succ m => simp
    · simp only [mrow, List.getD_eq_getElem?_getD, List.getElem?_set]
      split
      · split
        · have := ih (L.getD k 0).toNat
          simp only [mrow, List.getD_eq_getElem?_getD] at this
          simp; omega
        · simp
      · have := ih i
        simp only [mrow, List.getD_eq_getElem?_getD] at this; omega
/-- The items of each block. -/
def blocksOf (L : List Int) : List (List Int) := if isPart L = true then blkTo L L.length else []
theorem blocksOf_t {L : List Int} (h : isPart L = true) : blocksOf L = blkTo L L.length := by rw [blocksOf, if_pos h]
theorem blocksOf_f {L : List Int} (h : isPart L = false) : blocksOf L = [] := by rw [blocksOf, if_neg (by rw [h]; simp)]

theorem mi_snoc (M : List (List Int)) (r : List Int) : mi (M ++ [r]) = mi M ++ [ints r] := by simp [mi]
theorem mi_set (M : List (List Int)) (x : Nat) (r : List Int) : mi (M.set x r) = (mi M).set x (ints r) := by simp [mi, List.map_set]
/-! ### Rows, one by one -/
theorem xdel_cut (c : Nat) (l : List Ent) (b : Nat) : xdel (.cut c :: l) b = .cut b :: .cut c :: l := rfl
theorem xmap_cut (b : Nat) (l : List Ent) (x : Nat) : xmap (.cut b :: l) x = if x = b then none else xmap l x := rfl
def nrAt (nr : List (Nat × List SV)) (x : Nat) : Nat × List SV := nr.getD x (0, [])
theorem nrAt_mem {nr : List (Nat × List SV)} {x : Nat} (h : x < nr.length) : nrAt nr x ∈ nr := by simp [nrAt, h]
theorem outerN_get {fl : Bool} {nr : List (Nat × List SV)} {x : Nat} (h : x < nr.length) : (outerN fl nr)[x]? = some (.own (nrAt nr x).1 0 (nrAt nr x).2.length (nrAt nr x).2.length 1 fl) := by simp [outerN, nrAt, h]
theorem outerN_set {fl : Bool} {nr : List (Nat × List SV)} {x nm n : Nat} {r : List SV} (hn : n = r.length) : (outerN fl nr).set x (.own nm 0 n n 1 fl) = outerN fl (nr.set x (nm, r)) := by subst hn; simp [outerN, List.map_set]
theorem xmap_rowsAt {fl : Bool} {nr : List (Nat × List SV)} {l : List Ent} {x : Nat} (h : (nr.map (·.1)).Nodup) (hx : x < nr.length) : xmap (.rows fl nr :: l) (nrAt nr x).1 = some ⟨(nrAt nr x).2, fl⟩ := by
  rw [xmap, nrFind_get h (nrAt_mem hx)]
theorem nr_ne {nr : List (Nat × List SV)} (h : (nr.map (·.1)).Nodup) {i j : Nat} (hi : i < nr.length) (hj : j < nr.length) (hne : i ≠ j) : (nrAt nr i).1 ≠ (nrAt nr j).1 := by
  have hpw := List.pairwise_iff_getElem.1 h
  have e1 : (nrAt nr i).1 = (nr.map (·.1))[i]'(by simpa using hi) := by simp [nrAt, hi]
  have e2 : (nrAt nr j).1 = (nr.map (·.1))[j]'(by simpa using hj) := by simp [nrAt, hj]
  rw [e1, e2]
  rcases Nat.lt_or_gt_of_ne hne with g | g
  · exact hpw i j _ _ g
  · exact (hpw j i _ _ g).symm
theorem mem_setN {nr : List (Nat × List SV)} {x : Nat} {q p : Nat × List SV} (h : p ∈ nr.set x q) : p = q ∨ ∃ j, j < nr.length ∧ j ≠ x ∧ p = nrAt nr j := by
  obtain ⟨j, hj, rfl⟩ := List.getElem_of_mem h
  rw [List.length_set] at hj
  rw [List.getElem_set]
  split
  · exact .inl rfl
  · rename_i hne
    exact .inr ⟨j, hj, fun e => hne e.symm, by simp [nrAt, hj]⟩
theorem NrOk.set {b nb nb' nm x : Nat} {r : List SV} {nr : List (Nat × List SV)} (h : NrOk b nb nr) (h1 : nb ≤ nm) (h2 : nm < nb') : NrOk b nb' (nr.set x (nm, r)) := by
  have hb := h.1
  refine ⟨by omega, fun p hp => ?_, ?_⟩
  · rcases mem_setN hp with rfl | ⟨j, hj, _, rfl⟩
    · exact ⟨h2, by simp only []; omega⟩
    · have := h.2.1 _ (nrAt_mem hj)
      exact ⟨by omega, this.2⟩
  · rw [List.map_set]
    refine List.pairwise_iff_getElem.2 fun i j hi hj hij => ?_
    simp only [List.length_set, List.length_map] at hi hj
    rw [List.getElem_set, List.getElem_set]
    have hlt : ∀ k (hk : k < nr.length), (nr.map (·.1))[k]'(by simpa using hk) < nb := fun k hk => by
      have := (h.2.1 _ (List.getElem_mem hk)).1
      simpa using this
    split
    · rw [if_neg (by omega)]
      have := hlt j hj
      simp only []; omega
    · split
      · have := hlt i hi
        simp only []; omega
      · exact List.pairwise_iff_getElem.1 h.2.2 i j _ _ hij
theorem EntIn.setN {H : Heap} {fl : Bool} {nr : List (Nat × List SV)} {x nm : Nat} {r : List SV} (h : ∀ j, j < nr.length → j ≠ x → H.map (nrAt nr j).1 = some ⟨(nrAt nr j).2, fl⟩) (h2 : H.map nm = some ⟨r, fl⟩) : EntIn H (.rows fl (nr.set x (nm, r))) := by
  intro p hp
  rcases mem_setN hp with rfl | ⟨j, hj, hne, rfl⟩
  · exact h2
  · exact h j hj hne
theorem nr_row {nr : List (Nat × List SV)} {M : List (List Int)} (h : nr.map (·.2) = mi M) {x : Nat} (hx : x < nr.length) : (nrAt nr x).2 = ints (mrow M x) ∧ x < M.length := by
  have hl : nr.length = M.length := by have := congrArg List.length h; simpa [mi] using this
  have e : (nr.map (·.2))[x]? = (mi M)[x]? := by rw [h]
  have hx2 : x < M.length := by omega
  refine ⟨?_, hx2⟩
  simp [mi, hx, hx2] at e
  simp [nrAt, hx, mrow, hx2, e]
theorem nr_len {nr : List (Nat × List SV)} {M : List (List Int)} (h : nr.map (·.2) = mi M) : nr.length = M.length := by have := congrArg List.length h; simpa [mi] using this
end Go.Sh

/-
  Partitions as text: plain.
-/
namespace Go.Sh
set_option linter.unusedSimpArgs false
set_option linter.unusedVariables false
open Go Go.Proofs

/-! ### Pieces between a byte -/
def cutL (c : UInt8) : List UInt8 → List (List UInt8)
  | [] => [[]]
  | x :: s => if x = c then [] :: cutL c s else match cutL c s with
    | [] => [[x]]
    | p :: ps => (x :: p) :: ps
theorem cutL_ne (c : UInt8) : ∀ s, ∃ p ps, cutL c s = p :: ps
  | [] => ⟨_, _, rfl⟩
  | x :: s => by
    rw [cutL]
    split
    · exact ⟨_, _, rfl⟩
    · obtain ⟨p, ps, h⟩ := cutL_ne c s
      rw [h]; exact ⟨_, _, rfl⟩
theorem cutL_none {c : UInt8} : ∀ {s : List UInt8}, c ∉ s → cutL c s = [s]
  | [], _ => rfl
  | x :: s, h => by
    have hx : x ≠ c := fun e => h (by simp [e])
    rw [cutL, if_neg hx, cutL_none (fun hm => h (by simp [hm]))]
theorem cutL_app {c : UInt8} : ∀ {p s : List UInt8}, c ∉ p → cutL c (p ++ c :: s) = p :: cutL c s
  | [], s, _ => by rw [List.nil_append, cutL, if_pos rfl]
  | x :: p, s, h => by
    have hx : x ≠ c := fun e => h (by simp [e])
    rw [List.cons_append, cutL, if_neg hx, cutL_app (p := p) (fun hm => h (by simp [hm]))]
theorem cutL_first {c : UInt8} {s : List UInt8} {m : Nat} (hm : m < s.length) (h : s.getD m 0 = c) (hn : ∀ k, k < m → s.getD k 0 ≠ c) : cutL c s = s.take m :: cutL c (s.drop (m + 1)) := by
  have e : s = s.take m ++ c :: s.drop (m + 1) := by
    have h1 : s.drop m = c :: s.drop (m + 1) := by
      rw [List.drop_eq_getElem_cons hm]; congr 1; simpa [hm] using h
    rw [← h1, List.take_append_drop]
  have hnot : c ∉ s.take m := by
    intro hmem
    obtain ⟨k, hk, e⟩ := List.getElem_of_mem hmem
    have hk' : k < m := by rw [List.length_take] at hk; omega
    refine hn k hk' ?_
    rw [List.getElem_take] at e
    simp [show k < s.length by omega, e]
  conv => lhs; rw [e]
  rw [cutL_app hnot]
theorem cutL_last {c : UInt8} {s : List UInt8} (hn : ∀ k, k < s.length → s.getD k 0 ≠ c) : cutL c s = [s] := by
  refine cutL_none fun hmem => ?_
  obtain ⟨k, hk, e⟩ := List.getElem_of_mem hmem
  exact hn k hk (by simp [hk, e])
theorem cutL_len (c : UInt8) : ∀ s : List UInt8, (cutL c s).length = s.count c + 1
  | [] => rfl
  | x :: s => by
    have ih := cutL_len c s
    rw [cutL]
    split
    · rename_i h; subst h; simp [ih]
    · rename_i h
      obtain ⟨p, ps, e⟩ := cutL_ne c s
      rw [e] at ih ⊢
      rw [List.count_cons_of_ne h]
      simpa using ih
theorem cutL_join {c : UInt8} : ∀ {p : List UInt8} {ps : List (List UInt8)}, (∀ q ∈ p :: ps, c ∉ q) → cutL c (Lib.join (p :: ps) [c]) = p :: ps
  | p, [], h => by rw [Lib.join_one, cutL_none (h p (by simp))]
  | p, q :: ps, h => by
    have e : Lib.join (p :: q :: ps) [c] = p ++ c :: Lib.join (q :: ps) [c] := by
      rw [Lib.join_cons, Lib.join_cons]; simp [Lib.joinTail]
    rw [e, cutL_app (h p (by simp)), cutL_join (fun r hr => h r (List.mem_cons_of_mem _ hr))]

/-! ### The text of a partition -/
theorem itoa_small {x : Nat} (h : x < 10) : Lib.itoa (x : Int) = [UInt8.ofNat (48 + x)] := by
  rw [Lib.itoa, if_neg (by omega), Int.toNat_natCast, Lib.decDigits, dif_pos h]
def fmtB (b : List Int) : List UInt8 := Lib.join (b.map Lib.itoa) []
theorem join_nilsep : ∀ (xs : List (List UInt8)), Lib.join xs [] = xs.flatten
  | [] => rfl
  | x :: xs => by rw [Lib.join_cons]; simp [Lib.joinTail]
theorem fmtB_eq (b : List Int) : fmtB b = (b.map Lib.itoa).flatten := join_nilsep _
def fmtP (L : List Int) : List UInt8 := Lib.join ((blocksOf L).map fmtB) [124]
theorem fmtP_f {L : List Int} (h : isPart L = false) : fmtP L = [] := by rw [fmtP, blocksOf_f h]; rfl

theorem blkTo_lt {L : List Int} (h : isPart L = true) {k : Nat} (hk : k < L.length) : L.getD k 0 < (blkTo L (k + 1)).length := by
  obtain ⟨x, hx, hxl⟩ := blk_at h hk
  by_cases hnew : x = (blkTo L k).length
  · rw [blkTo_new (L := L) (k := k) (by rw [hx, hnew]), List.length_append, List.length_singleton]; omega
  · rw [blkTo_old hx (by omega), List.length_set]; omega
theorem blkTo_len_mono (L : List Int) {j : Nat} : ∀ {k : Nat}, j ≤ k → (blkTo L j).length ≤ (blkTo L k).length
  | 0, h => by
    obtain rfl : j = 0 := by omega
    exact Nat.le_refl _
  | k + 1, h => by
    rcases Nat.lt_or_ge k j with g | g
    · obtain rfl : j = k + 1 := by omega
      exact Nat.le_refl _
    · refine Nat.le_trans (blkTo_len_mono L g) ?_
      rw [blkTo]; split <;> simp
theorem blk_mem {L : List Int} (h : isPart L = true) : ∀ k, k ≤ L.length → ∀ i, i < (blkTo L k).length → (mrow (blkTo L k) i ≠ []) ∧ ∀ y, y ∈ mrow (blkTo L k) i ↔ ∃ x : Nat, x < k ∧ y = x ∧ L.getD x 0 = i
  | 0, _, i, hi => by simp [blkTo] at hi
  | k + 1, hk, i, hi => by
    have ih := blk_mem h k (by omega)
    obtain ⟨x, hx, hxl⟩ := blk_at h (k := k) (by omega)
    by_cases hnew : x = (blkTo L k).length
    · have e := blkTo_new (L := L) (k := k) (by rw [hx, hnew])
      rw [e] at hi ⊢
      rw [List.length_append, List.length_singleton] at hi
      by_cases hi2 : i < (blkTo L k).length
      · have er : mrow (blkTo L k ++ [[(k : Int)]]) i = mrow (blkTo L k) i := by simp [mrow, List.getElem?_append_left hi2]
        rw [er]
        obtain ⟨n1, n2⟩ := ih i hi2
        refine ⟨n1, fun y => (n2 y).trans ?_⟩
        constructor
        · rintro ⟨z, z1, z2, z3⟩; exact ⟨z, by omega, z2, z3⟩
        · rintro ⟨z, z1, z2, z3⟩
          rcases Nat.lt_succ_iff_lt_or_eq.mp z1 with g | rfl
          · exact ⟨z, g, z2, z3⟩
          · omega
      · obtain rfl : i = (blkTo L k).length := by omega
        have er : mrow (blkTo L k ++ [[(k : Int)]]) (blkTo L k).length = [(k : Int)] := by simp [mrow]
        rw [er]
        refine ⟨by simp, fun y => ?_⟩
        simp only [List.mem_singleton]
        constructor
        · rintro rfl; exact ⟨k, by omega, rfl, by rw [hx, hnew]⟩
        · rintro ⟨z, z1, rfl, z3⟩
          rcases Nat.lt_succ_iff_lt_or_eq.mp z1 with g | rfl
          · obtain ⟨z', hz', hzl⟩ := blk_at h (k := z) (by omega)
            have := blkTo_len_mono L (j := z + 1) (k := k) (by omega)
            have := blkTo_lt h (k := z) (by omega)
            omega
          · rfl
    · have hlt : x < (blkTo L k).length := by omega
      have e := blkTo_old hx hlt
      rw [e] at hi ⊢
      rw [List.length_set] at hi
      obtain ⟨n1, n2⟩ := ih i hi
      by_cases hix : i = x
      · subst hix
        have er : mrow ((blkTo L k).set i (mrow (blkTo L k) i ++ [(k : Int)])) i = mrow (blkTo L k) i ++ [(k : Int)] := by simp [mrow, hi]
        rw [er]
        refine ⟨by simp, fun y => ?_⟩
        rw [List.mem_append, List.mem_singleton, n2 y]
        constructor
        · rintro (⟨z, z1, z2, z3⟩ | rfl)
          · exact ⟨z, by omega, z2, z3⟩
          · exact ⟨k, by omega, rfl, hx⟩
        · rintro ⟨z, z1, z2, z3⟩
          rcases Nat.lt_succ_iff_lt_or_eq.mp z1 with g | rfl
          · exact .inl ⟨z, g, z2, z3⟩
          · exact .inr z2
      · have er : mrow ((blkTo L k).set x (mrow (blkTo L k) x ++ [(k : Int)])) i = mrow (blkTo L k) i := by simp [mrow, List.getElem?_set, Ne.symm hix]
        rw [er]
        refine ⟨n1, fun y => (n2 y).trans ?_⟩
        constructor
        · rintro ⟨z, z1, z2, z3⟩; exact ⟨z, by omega, z2, z3⟩
        · rintro ⟨z, z1, z2, z3⟩
          rcases Nat.lt_succ_iff_lt_or_eq.mp z1 with g | rfl
          · exact ⟨z, g, z2, z3⟩
          · omega

theorem sum_set : ∀ {M : List (List Int)} {x : Nat} {k : Int}, x < M.length → ((M.set x (mrow M x ++ [k])).map List.length).sum = (M.map List.length).sum + 1
  | [], x, k, h => by simp at h
  | r :: M, 0, k, _ => by simp [mrow]; omega
  | r :: M, x + 1, k, h => by
    have ih := sum_set (M := M) (x := x) (k := k) (by simpa using h)
    have e : mrow (r :: M) (x + 1) = mrow M x := rfl
    rw [e, List.set_cons_succ, List.map_cons, List.map_cons, List.sum_cons, List.sum_cons, ih]; omega
/-- All items of the blocks, counted. -/
theorem blk_sum {L : List Int} (h : isPart L = true) : ∀ k, k ≤ L.length → ((blkTo L k).map List.length).sum = k
  | 0, _ => by simp [blkTo]
  | k + 1, hk => by
    have ih := blk_sum h k (by omega)
    obtain ⟨x, hx, hxl⟩ := blk_at h (k := k) (by omega)
    by_cases hnew : x = (blkTo L k).length
    · rw [blkTo_new (L := L) (k := k) (by rw [hx, hnew])]; simp [ih]
    · have hlt : x < (blkTo L k).length := by omega
      rw [blkTo_old hx hlt, sum_set hlt, ih]
/-! ### What the reference reads -/
def sput (i : Int) (p : List Int × Int) (c : UInt8) : List Int × Int :=
  if 0 ≤ (c.toNat : Int) - 48 ∧ (c.toNat : Int) - 48 ≤ 7 then (p.1.set (c.toNat - 48) i, max p.2 ((c.toNat : Int) - 48 + 1)) else p
def spc : Int → List (List UInt8) → List Int × Int → List Int × Int
  | _, [], p => p
  | i, q :: qs, p => spc (i + 1) qs (q.foldl (sput i) p)
def sdec (s : List UInt8) : List Int := let p := spc 0 ((cutL 124 s).take 8) (List.replicate 8 0, 0); p.1.take p.2.toNat
end Go.Sh

/-
  Labels by first occurrence: what they tell of the list; refinement as equality of the meet.
-/
namespace Go.Sh
set_option linter.unusedSimpArgs false
set_option linter.unusedVariables false
open Go Go.Proofs

theorem idx_append {x y : Int} {S : List Int} (h : x ∈ S) : idx x (S ++ [y]) = idx x S := by
  unfold idx
  rw [if_pos h, if_pos (List.mem_append.2 (.inl h)), List.idxOf_append, if_pos h]
theorem idx_last {x : Int} {S : List Int} (h : ¬ x ∈ S) : idx x (S ++ [x]) = S.length := by
  unfold idx
  rw [if_pos (by simp), List.idxOf_append, if_neg h]
  simp
theorem idx_inj {x y : Int} {S : List Int} (hx : x ∈ S) (hy : y ∈ S) (h : idx x S = idx y S) : x = y := by
  unfold idx at h
  rw [if_pos hx, if_pos hy] at h
  have h' : S.idxOf x = S.idxOf y := by omega
  have h1 := List.getElem_idxOf (List.idxOf_lt_length_of_mem hx)
  have h2 := List.getElem_idxOf (List.idxOf_lt_length_of_mem hy)
  rw [← h1, ← h2]
  simp only [h']

theorem cst_spec (X : List Int) : ∀ k, k ≤ X.length → (∀ i, i < k → X.getD i 0 ∈ (cst (X.take k)).1 ∧ (cst (X.take k)).2.getD i 0 = idx (X.getD i 0) (cst (X.take k)).1) ∧ ∀ z, z ∈ (cst (X.take k)).1 → ∃ i, i < k ∧ X.getD i 0 = z
  | 0, _ => by
    refine ⟨fun i hi => by omega, fun z hz => ?_⟩
    rw [List.take_zero, cst_zero] at hz
    simp at hz
  | k + 1, hk => by
    obtain ⟨h1, h2⟩ := cst_spec X k (by omega)
    have e := cst_succ (L := X) (k := k) (by omega)
    have hlen : (cst (X.take k)).2.length = k := by rw [cst_len2]; simp; omega
    rw [e]
    generalize hs : cst (X.take k) = st at *
    obtain ⟨S, O⟩ := st
    simp only at h1 h2 hlen ⊢
    unfold cstep
    simp only
    by_cases hx : X.getD k 0 ∈ S
    · rw [if_pos hx]
      refine ⟨fun i hi => ?_, fun z hz => ?_⟩
      · rcases Nat.lt_succ_iff_lt_or_eq.mp hi with h | rfl
        · obtain ⟨g1, g2⟩ := h1 i h
          refine ⟨g1, ?_⟩
          rw [← g2]
          simp [List.getD, List.getElem?_append_left (show i < O.length by omega)]
        · refine ⟨hx, ?_⟩
          simp [List.getD, List.getElem?_append_right (show O.length ≤ i by omega), hlen]
      · obtain ⟨i, g1, g2⟩ := h2 z hz
        exact ⟨i, by omega, g2⟩
    · rw [if_neg hx]
      refine ⟨fun i hi => ?_, fun z hz => ?_⟩
      · rcases Nat.lt_succ_iff_lt_or_eq.mp hi with h | rfl
        · obtain ⟨g1, g2⟩ := h1 i h
          refine ⟨List.mem_append.2 (.inl g1), ?_⟩
          show (O ++ [(S.length : Int)]).getD i 0 = idx (X.getD i 0) (S ++ [X.getD k 0])
          rw [idx_append g1, ← g2]
          simp [List.getD, List.getElem?_append_left (show i < O.length by omega)]
        · refine ⟨by simp, ?_⟩
          show (O ++ [(S.length : Int)]).getD i 0 = idx (X.getD i 0) (S ++ [X.getD i 0])
          rw [idx_last hx]
          simp [List.getD, List.getElem?_append_right (show O.length ≤ i by omega), hlen]
      · rcases List.mem_append.1 hz with h | h
        · obtain ⟨i, g1, g2⟩ := h2 z h
          exact ⟨i, by omega, g2⟩
        · simp at h
          exact ⟨k, by omega, by simpa using h.symm⟩

theorem canon_inj {X : List Int} {i k : Nat} (hi : i < X.length) (hk : k < X.length) (h : (canon X).getD i 0 = (canon X).getD k 0) : X.getD i 0 = X.getD k 0 := by
  have := (cst_spec X X.length (Nat.le_refl _)).1
  rw [List.take_length] at this
  obtain ⟨g1, g2⟩ := this i hi
  obtain ⟨q1, q2⟩ := this k hk
  refine idx_inj g1 q1 ?_
  rw [← g2, ← q2]
  exact h

theorem canon_congr {X Y : List Int} (hl : X.length = Y.length) (h : ∀ i k, i < X.length → k < X.length → (X.getD i 0 = X.getD k 0 ↔ Y.getD i 0 = Y.getD k 0)) : canon X = canon Y := by
  have key : ∀ k, k ≤ X.length → (cst (X.take k)).2 = (cst (Y.take k)).2 ∧ (cst (X.take k)).1.length = (cst (Y.take k)).1.length := by
    intro k
    induction k with
    | zero => intro _; simp
    | succ k ih =>
      intro hk
      obtain ⟨i1, i2⟩ := ih (by omega)
      obtain ⟨x1, x2⟩ := cst_spec X k (by omega)
      obtain ⟨y1, y2⟩ := cst_spec Y k (by omega)
      rw [cst_succ (L := X) (by omega), cst_succ (L := Y) (by omega)]
      generalize hs : cst (X.take k) = sx at *
      generalize ht : cst (Y.take k) = sy at *
      obtain ⟨SX, OX⟩ := sx
      obtain ⟨SY, OY⟩ := sy
      simp only at i1 i2 x1 x2 y1 y2
      subst i1
      unfold cstep
      simp only
      by_cases hx : X.getD k 0 ∈ SX
      · obtain ⟨i, g1, g2⟩ := x2 _ hx
        have hy' := (h i k (by omega) (by omega)).1 g2
        have hy : Y.getD k 0 ∈ SY := by rw [← hy']; exact (y1 i g1).1
        rw [if_pos hx, if_pos hy]
        refine ⟨?_, i2⟩
        show OX ++ [idx (X.getD k 0) SX] = OX ++ [idx (Y.getD k 0) SY]
        rw [← g2, ← hy', ← (x1 i g1).2, ← (y1 i g1).2]
      · have hy : ¬ Y.getD k 0 ∈ SY := by
          intro hy
          obtain ⟨i, g1, g2⟩ := y2 _ hy
          have hx' := (h i k (by omega) (by omega)).2 g2
          exact hx (by rw [← hx']; exact (x1 i g1).1)
        rw [if_neg hx, if_neg hy]
        refine ⟨?_, ?_⟩
        · show OX ++ [(SX.length : Int)] = OX ++ [(SY.length : Int)]
          rw [i2]
        · simp [i2]
  have := (key X.length (Nat.le_refl _)).1
  rw [List.take_length] at this
  rw [canon, this, hl, List.take_length]; rfl

def rng (n : Nat) : List Int := (List.range n).map fun x : Nat => (x : Int)
theorem rng_succ (n : Nat) : rng (n + 1) = rng n ++ [(n : Int)] := by simp [rng, List.range_succ]
theorem rng_len (n : Nat) : (rng n).length = n := by simp [rng]
theorem rng_mem {n : Nat} {x : Int} : x ∈ rng n ↔ 0 ≤ x ∧ x < n := by
  simp only [rng, List.mem_map, List.mem_range]
  constructor
  · rintro ⟨a, h, rfl⟩; omega
  · rintro ⟨h1, h2⟩; exact ⟨x.toNat, by omega, by omega⟩
theorem rng_get {n i : Nat} (h : i < n) : (rng n).getD i 0 = i := by simp [rng, h]
theorem rng_idx {n : Nat} {x : Int} (h1 : 0 ≤ x) (h2 : x < n) : idx x (rng n) = x := by
  have hk : x.toNat < (rng n).length := by rw [rng_len]; omega
  have := idx_some (x := x) hk (fun i hi => by rw [rng_get (by omega)]; omega) (by rw [rng_get (by omega)]; omega)
  rw [this]; omega
theorem fold_part : ∀ (L : List Int) (n : Nat) (out : List Int), okP n L = true → ∃ m, L.foldl cstep (rng n, out) = (rng m, out ++ L)
  | [], n, out, _ => ⟨n, by simp⟩
  | x :: L, n, out, h => by
    rw [okP, Bool.and_eq_true] at h
    obtain ⟨h1, h2⟩ := inR_of h.1
    rw [List.foldl_cons]
    by_cases hx : x < n
    · have hm : x ∈ rng n := rng_mem.2 ⟨h1, hx⟩
      have e : max (n : Int) (x + 1) = n := by omega
      have h3 := h.2
      rw [e] at h3
      obtain ⟨m, hm'⟩ := fold_part L n (out ++ [x]) h3
      refine ⟨m, ?_⟩
      have : cstep (rng n, out) x = (rng n, out ++ [x]) := by
        unfold cstep
        rw [if_pos hm, rng_idx h1 hx]
      rw [this, hm']
      simp
    · have hm : ¬ x ∈ rng n := fun h => hx (rng_mem.1 h).2
      have ex : x = n := by omega
      have e : max (n : Int) (x + 1) = ((n + 1 : Nat) : Int) := by omega
      have h3 := h.2
      rw [e] at h3
      obtain ⟨m, hm'⟩ := fold_part L (n + 1) (out ++ [x]) h3
      refine ⟨m, ?_⟩
      have : cstep (rng n, out) x = (rng (n + 1), out ++ [x]) := by
        unfold cstep
        rw [if_neg hm, rng_succ]
        simp only [rng_len, ex]
      rw [this, hm']
      simp
theorem canon_part {A : List Int} (h : isPart A = true) : canon A = A := by
  rw [isPart, Bool.and_eq_true] at h
  obtain ⟨m, hm⟩ := fold_part A 0 [] h.1
  have : rng 0 = [] := rfl
  rw [this] at hm
  rw [canon, cst, hm]
  simp

def Ref (A B : List Int) : Prop := ∀ i k, k < i → i < A.length → A.getD i 0 = A.getD k 0 → B.getD i 0 = B.getD k 0
theorem both_get {A B : List Int} {k : Nat} (hl : A.length = B.length) (hk : k < A.length) : (both A B).getD k 0 = A.getD k 0 * 8 + B.getD k 0 := by
  have hk2 : k < B.length := by omega
  simp [both, List.getElem?_zipWith, hk, hk2]
theorem meet_iff {A B : List Int} (h : pairB A B = true) : meet A B = A ↔ Ref A B := by
  obtain ⟨pa, pb, hl⟩ := pairB_t h
  have hbl := both_length hl
  rw [meet, if_pos h]
  have hpat : ∀ i k, i < A.length → k < A.length → ((both A B).getD i 0 = (both A B).getD k 0 ↔ (A.getD i 0 = A.getD k 0 ∧ B.getD i 0 = B.getD k 0)) := by
    intro i k hi hk
    rw [both_get hl hi, both_get hl hk]
    have b1 := isPart_bound pb (i := i) (by omega)
    have b2 := isPart_bound pb (i := k) (by omega)
    constructor
    · intro e; omega
    · rintro ⟨e1, e2⟩; rw [e1, e2]
  constructor
  · intro e i k hki hi ha
    have h1 : (canon (both A B)).getD i 0 = (canon (both A B)).getD k 0 := by rw [e]; exact ha
    have h2 := canon_inj (by omega) (by omega) h1
    exact ((hpat i k hi (by omega)).1 h2).2
  · intro hr
    have hr' : ∀ i k, i < A.length → k < A.length → A.getD i 0 = A.getD k 0 → B.getD i 0 = B.getD k 0 := by
      intro i k hi hk e
      rcases Nat.lt_trichotomy k i with h | h | h
      · exact hr i k h hi e
      · rw [h]
      · exact (hr k i h hk e.symm).symm
    rw [canon_congr (Y := A) (by omega) (fun i k hi hk => ?_), canon_part pa]
    rw [hpat i k (by omega) (by omega)]
    exact ⟨fun e => e.1, fun e => ⟨e, hr' i k (by omega) (by omega) e⟩⟩
end Go.Sh

/-
  Partitions read back from their text: plain.
-/
namespace Go.Sh
set_option linter.unusedSimpArgs false
set_option linter.unusedVariables false
open Go Go.Proofs

theorem listExt {A B : List Int} (hl : A.length = B.length) (h : ∀ x, x < A.length → A.getD x 0 = B.getD x 0) : A = B := by
  refine List.ext_getElem hl fun i h1 h2 => ?_
  have := h i h1
  simpa [h1, h2] using this
theorem ch_nat {x : Nat} (h : x < 10) : (UInt8.ofNat (48 + x)).toNat = 48 + x := by
  rw [UInt8.toNat_ofNat']; omega
theorem fmtB_cons {x : Nat} (h : x < 10) (b : List Int) : fmtB ((x : Int) :: b) = UInt8.ofNat (48 + x) :: fmtB b := by
  rw [fmtB_eq, fmtB_eq, List.map_cons, itoa_small h, List.flatten_cons]; rfl
theorem fmtB_no {b : List Int} (h : ∀ y ∈ b, ∃ x : Nat, y = x ∧ x < 8) : (124 : UInt8) ∉ fmtB b ∧ (fmtB b).length = b.length := by
  induction b with
  | nil => exact ⟨by simp [fmtB, Lib.join_nil], rfl⟩
  | cons y b ih =>
    obtain ⟨x, rfl, hx⟩ := h y (by simp)
    obtain ⟨h1, h2⟩ := ih fun z hz => h z (by simp [hz])
    rw [fmtB_cons (by omega)]
    refine ⟨fun hm => ?_, by simp [h2]⟩
    rcases List.mem_cons.1 hm with e | hm
    · have := congrArg UInt8.toNat e
      rw [ch_nat (by omega)] at this
      simp at this; omega
    · exact h1 hm
/-- The blocks as they stand. -/
theorem part_blk {L : List Int} (h : isPart L = true) : (1 ≤ L.length ∧ L.length ≤ 8) ∧ (blkTo L L.length).length ≤ 8 ∧ 1 ≤ (blkTo L L.length).length ∧ (∀ b ∈ blkTo L L.length, ∀ y ∈ b, ∃ x : Nat, y = x ∧ x < 8) := by
  have hl : 1 ≤ L.length ∧ L.length ≤ 8 := by
    rw [isPart, Bool.and_eq_true] at h
    have := inR_of h.2; omega
  have h1 := blkTo_le L L.length
  have h2 : 1 ≤ (blkTo L L.length).length := by
    have := blkTo_len_mono L (j := 1) (k := L.length) hl.1
    have h3 : L.getD 0 0 < (blkTo L 1).length := blkTo_lt h (k := 0) (by omega)
    obtain ⟨x, hx, _⟩ := blk_at h (k := 0) (by omega)
    rw [hx] at h3
    omega
  refine ⟨hl, by omega, h2, fun b hb y hy => ?_⟩
  obtain ⟨i, hi, rfl⟩ := List.getElem_of_mem hb
  have := (blk_mem h L.length (Nat.le_refl _) i hi).2 y
  have e : mrow (blkTo L L.length) i = (blkTo L L.length)[i] := by simp [mrow, hi]
  rw [e] at this
  obtain ⟨x, x1, x2, _⟩ := this.1 hy
  exact ⟨x, x2, by omega⟩
theorem fmtP_cut {L : List Int} (h : isPart L = true) : cutL 124 (fmtP L) = (blkTo L L.length).map fmtB := by
  obtain ⟨_, _, h2, h3⟩ := part_blk h
  rw [fmtP, blocksOf_t h]
  generalize blkTo L L.length = B at *
  cases B with
  | nil => simp at h2
  | cons b B =>
    rw [List.map_cons]
    refine cutL_join fun q hq => ?_
    rw [← List.map_cons] at hq
    obtain ⟨c, hc, rfl⟩ := List.mem_map.1 hq
    exact (fmtB_no (h3 c hc)).1

/-- What is right of a list half read. -/
structure SInv (L : List Int) (p : List Int × Int) (D : Nat → Prop) : Prop where
  ln : p.1.length = 8
  n0 : 0 ≤ p.2
  n1 : p.2 ≤ L.length
  ok : ∀ x, D x → p.1.getD x 0 = L.getD x 0 ∧ (x : Int) < p.2
theorem SInv.put {L : List Int} {p : List Int × Int} {D : Nat → Prop} (h : SInv L p D) {x : Nat} {i : Int} (hx : x < L.length) (h8 : x < 8) (hi : L.getD x 0 = i) : SInv L (sput i p (UInt8.ofNat (48 + x))) (fun y => D y ∨ y = x) := by
  have e : sput i p (UInt8.ofNat (48 + x)) = (p.1.set x i, max p.2 ((x : Int) + 1)) := by
    rw [sput, ch_nat (by omega), if_pos (by omega)]
    congr 2
    · omega
    · omega
  rw [e]
  have := h.n0
  have := h.n1
  refine ⟨by simp [h.ln], by show 0 ≤ max p.2 ((x : Int) + 1); omega, by show max p.2 ((x : Int) + 1) ≤ L.length; omega, fun y hy => ?_⟩
  show (p.1.set x i).getD y 0 = L.getD y 0 ∧ (y : Int) < max p.2 ((x : Int) + 1)
  have hl := h.ln
  by_cases hyx : y = x
  · subst hyx
    refine ⟨?_, by omega⟩
    rw [← hi]; simp [hl, h8]
  · rcases hy with hy | hy
    · obtain ⟨h1, h2⟩ := h.ok y hy
      refine ⟨?_, by omega⟩
      rw [← h1]; simp [List.getElem?_set, Ne.symm hyx]
    · exact absurd hy hyx
theorem SInv.block {L : List Int} {i : Int} : ∀ {b : List Int} {p : List Int × Int} {D : Nat → Prop}, SInv L p D → (∀ y ∈ b, ∃ x : Nat, y = x ∧ x < L.length ∧ x < 8 ∧ L.getD x 0 = i) → SInv L ((fmtB b).foldl (sput i) p) (fun x => D x ∨ (x : Int) ∈ b)
  | [], p, D, h, _ => ⟨h.ln, h.n0, h.n1, fun x hx => h.ok x (by simpa using hx)⟩
  | y :: b, p, D, h, hb => by
    obtain ⟨x, rfl, h1, h2, h3⟩ := hb y (by simp)
    rw [fmtB_cons (by omega), List.foldl_cons]
    have := SInv.block (h.put h1 h2 h3) (b := b) (fun z hz => hb z (by simp [hz]))
    refine ⟨this.ln, this.n0, this.n1, fun z hz => this.ok z ?_⟩
    rcases hz with hz | hz
    · exact .inl (.inl hz)
    · rcases List.mem_cons.1 hz with hz | hz
      · exact .inl (.inr (by exact_mod_cast hz))
      · exact .inr hz
theorem SInv.blocks {L : List Int} : ∀ {B : List (List Int)} {i : Int} {p : List Int × Int} {D : Nat → Prop}, SInv L p D → (∀ j, j < B.length → ∀ y ∈ mrow B j, ∃ x : Nat, y = x ∧ x < L.length ∧ x < 8 ∧ L.getD x 0 = i + j) → SInv L (spc i (B.map fmtB) p) (fun x => D x ∨ ∃ j, j < B.length ∧ (x : Int) ∈ mrow B j)
  | [], i, p, D, h, _ => ⟨h.ln, h.n0, h.n1, fun x hx => h.ok x (by simpa using hx)⟩
  | b :: B, i, p, D, h, hb => by
    have h1 := SInv.block h (b := b) (i := i) (fun y hy => by
      obtain ⟨x, x1, x2, x3, x4⟩ := hb 0 (by simp) y hy
      exact ⟨x, x1, x2, x3, by simpa using x4⟩)
    have h2 := SInv.blocks (B := B) (i := i + 1) h1 (fun j hj y hy => by
      obtain ⟨x, x1, x2, x3, x4⟩ := hb (j + 1) (by simpa using hj) y hy
      exact ⟨x, x1, x2, x3, by rw [x4]; omega⟩)
    rw [List.map_cons, spc]
    refine ⟨h2.ln, h2.n0, h2.n1, fun z hz => h2.ok z ?_⟩
    rcases hz with hz | ⟨j, hj, hz⟩
    · exact .inl (.inl hz)
    · cases j with
      | zero => exact .inl (.inr hz)
      | succ j => exact .inr ⟨j, by simpa using hj, hz⟩
theorem SInv.all {L : List Int} {p : List Int × Int} {D : Nat → Prop} (h : SInv L p D) (hD : ∀ x, x < L.length → D x) (h1 : 1 ≤ L.length ∧ L.length ≤ 8) : p.1.take p.2.toNat = L := by
  have hn : p.2 = L.length := by
    have := (h.ok (L.length - 1) (hD _ (by omega))).2
    have := h.n1
    omega
  rw [hn, Int.toNat_natCast]
  refine listExt (by rw [List.length_take, h.ln]; omega) fun x hx => ?_
  have hx' : x < L.length := by rw [List.length_take, h.ln] at hx; omega
  rw [← (h.ok x (hD x hx')).1]
  simp [List.getElem?_take, hx']
theorem sdec_fmt {L : List Int} (h : isPart L = true) : sdec (fmtP L) = L := by
  obtain ⟨hl, h8, _, _⟩ := part_blk h
  have hm := fun i hi => (blk_mem h L.length (Nat.le_refl _) i hi).2
  have e8 : ((blkTo L L.length).map fmtB).take 8 = (blkTo L L.length).map fmtB := List.take_of_length_le (by rw [List.length_map]; exact h8)
  rw [sdec, fmtP_cut h, e8]
  have h0 : SInv L (List.replicate 8 0, 0) (fun _ => False) := ⟨by simp, by simp, by simp, fun x hx => hx.elim⟩
  have := SInv.blocks (B := blkTo L L.length) (i := 0) h0 (fun j hj y hy => by
    obtain ⟨x, x1, x2, x3⟩ := (hm j hj y).1 hy
    exact ⟨x, x2, x1, by omega, by rw [x3]; omega⟩)
  refine this.all (fun x hx => .inr ?_) hl
  obtain ⟨q, hq, _⟩ := blk_at h hx
  have hlt := blkTo_lt h hx
  have hmn := blkTo_len_mono L (j := x + 1) (k := L.length) (by omega)
  have hq2 : q < (blkTo L L.length).length := by omega
  exact ⟨q, hq2, (hm q hq2 _).2 ⟨x, hx, rfl, hq⟩⟩

/-! ### What the program reads -/
def iput (n : Nat) (i : Int) : List UInt8 → List Int → Option (List Int)
  | [], l => some l
  | c :: cs, l => if 0 ≤ (c.toNat : Int) - 48 ∧ (c.toNat : Int) - 48 ≤ (n : Int) - 1 then iput n i cs (l.set (c.toNat - 48) i) else none
def ipc (n : Nat) : Int → List (List UInt8) → List Int → Option (List Int)
  | _, [], l => some l
  | i, q :: qs, l => match iput n i q l with
    | some l => ipc n (i + 1) qs l
    | none => none
def idec (s : List UInt8) : Option (List Int) := if 16 < s.length then none else ipc (s.length - s.count 124) 0 (cutL 124 s) (List.replicate (s.length - s.count 124) 0)
def IOk (L l : List Int) (D : Nat → Prop) : Prop := l.length = L.length ∧ ∀ x, D x → l.getD x 0 = L.getD x 0
theorem IOk.block {L : List Int} {i : Int} : ∀ {b : List Int} {l : List Int} {D : Nat → Prop}, IOk L l D → (∀ y ∈ b, ∃ x : Nat, y = x ∧ x < L.length ∧ x < 8 ∧ L.getD x 0 = i) → ∃ l', iput L.length i (fmtB b) l = some l' ∧ IOk L l' (fun x => D x ∨ (x : Int) ∈ b)
  | [], l, D, h, _ => ⟨l, rfl, h.1, fun x hx => h.2 x (by simpa using hx)⟩
  | y :: b, l, D, h, hb => by
    obtain ⟨x, rfl, h1, h2, h3⟩ := hb y (by simp)
    rw [fmtB_cons (by omega), iput, ch_nat (by omega), if_pos (by omega), show 48 + x - 48 = x by omega]
    have hset : IOk L (l.set x i) (fun z => D z ∨ z = x) := by
      refine ⟨by rw [List.length_set]; exact h.1, fun z hz => ?_⟩
      by_cases hzx : z = x
      · subst hzx; rw [← h3]; simp [h.1, h1]
      · rcases hz with hz | hz
        · rw [← h.2 z hz]; simp [List.getElem?_set, Ne.symm hzx]
        · exact absurd hz hzx
    obtain ⟨l', e, g⟩ := IOk.block hset (b := b) (fun z hz => hb z (by simp [hz]))
    refine ⟨l', e, g.1, fun z hz => g.2 z ?_⟩
    rcases hz with hz | hz
    · exact .inl (.inl hz)
    · rcases List.mem_cons.1 hz with hz | hz
      · exact .inl (.inr (by exact_mod_cast hz))
      · exact .inr hz
theorem IOk.blocks {L : List Int} : ∀ {B : List (List Int)} {i : Int} {l : List Int} {D : Nat → Prop}, IOk L l D → (∀ j, j < B.length → ∀ y ∈ mrow B j, ∃ x : Nat, y = x ∧ x < L.length ∧ x < 8 ∧ L.getD x 0 = i + j) → ∃ l', ipc L.length i (B.map fmtB) l = some l' ∧ IOk L l' (fun x => D x ∨ ∃ j, j < B.length ∧ (x : Int) ∈ mrow B j)
  | [], i, l, D, h, _ => ⟨l, rfl, h.1, fun x hx => h.2 x (by simpa using hx)⟩
  | b :: B, i, l, D, h, hb => by
    obtain ⟨l1, e1, h1⟩ := IOk.block h (b := b) (i := i) (fun y hy => by
      obtain ⟨x, x1, x2, x3, x4⟩ := hb 0 (by simp) y hy
      exact ⟨x, x1, x2, x3, by simpa using x4⟩)
    obtain ⟨l2, e2, h2⟩ := IOk.blocks (B := B) (i := i + 1) h1 (fun j hj y hy => by
      obtain ⟨x, x1, x2, x3, x4⟩ := hb (j + 1) (by simpa using hj) y hy
      exact ⟨x, x1, x2, x3, by rw [x4]; omega⟩)
    refine ⟨l2, by rw [List.map_cons, ipc, e1]; exact e2, h2.1, fun z hz => h2.2 z ?_⟩
    rcases hz with hz | ⟨j, hj, hz⟩
    · exact .inl (.inl hz)
    · cases j with
      | zero => exact .inl (.inr hz)
      | succ j => exact .inr ⟨j, by simpa using hj, hz⟩
theorem join_len {c : UInt8} : ∀ {p : List UInt8} {ps : List (List UInt8)}, (∀ q ∈ p :: ps, c ∉ q) → (Lib.join (p :: ps) [c]).length = ((p :: ps).map List.length).sum + ps.length ∧ (Lib.join (p :: ps) [c]).count c = ps.length
  | p, [], h => by rw [Lib.join_one]; simp [List.count_eq_zero.2 (h p (by simp))]
  | p, q :: ps, h => by
    have e : Lib.join (p :: q :: ps) [c] = p ++ c :: Lib.join (q :: ps) [c] := by
      rw [Lib.join_cons, Lib.join_cons]; simp [Lib.joinTail]
    obtain ⟨h1, h2⟩ := join_len (c := c) (p := q) (ps := ps) (fun r hr => h r (List.mem_cons_of_mem _ hr))
    have h0 : p.count c = 0 := List.count_eq_zero.2 (h p (by simp))
    rw [e]
    constructor
    · rw [List.length_append, List.length_cons, h1]; simp; omega
    · rw [List.count_append, List.count_cons_self, h2, h0]; simp
theorem idec_fmt {L : List Int} (h : isPart L = true) : idec (fmtP L) = some L := by
  obtain ⟨hl, h8, h1, h3⟩ := part_blk h
  have hm := fun i hi => (blk_mem h L.length (Nat.le_refl _) i hi).2
  have hsum := blk_sum h L.length (Nat.le_refl _)
  have hlen : (fmtP L).length = L.length + ((blkTo L L.length).length - 1) ∧ (fmtP L).count 124 = (blkTo L L.length).length - 1 := by
    rw [fmtP, blocksOf_t h]
    generalize blkTo L L.length = B at *
    cases B with
    | nil => simp at h1
    | cons b B =>
      rw [List.map_cons]
      obtain ⟨j1, j2⟩ := join_len (c := 124) (p := fmtB b) (ps := B.map fmtB) (fun q hq => by
        rw [← List.map_cons] at hq
        obtain ⟨c, hc, rfl⟩ := List.mem_map.1 hq
        exact (fmtB_no (h3 c hc)).1)
      have e : ((fmtB b :: B.map fmtB).map List.length) = ((b :: B).map List.length) := by
        rw [← List.map_cons, List.map_map]
        exact List.map_congr_left fun c hc => (fmtB_no (h3 c hc)).2
      rw [j1, j2, e, hsum]
      simp
  have hn : (fmtP L).length - (fmtP L).count 124 = L.length := by omega
  rw [idec, if_neg (by omega), hn, fmtP_cut h]
  have h0 : IOk L (List.replicate L.length 0) (fun _ => False) := ⟨by simp, fun x hx => hx.elim⟩
  obtain ⟨l, e, g⟩ := IOk.blocks (B := blkTo L L.length) (i := 0) h0 (fun j hj y hy => by
    obtain ⟨x, x1, x2, x3⟩ := (hm j hj y).1 hy
    exact ⟨x, x2, x1, by omega, by rw [x3]; omega⟩)
  rw [e]
  congr 1
  refine listExt g.1 fun x hx => g.2 x (.inr ?_)
  rw [g.1] at hx
  obtain ⟨q, hq, _⟩ := blk_at h hx
  have hlt := blkTo_lt h hx
  have hmn := blkTo_len_mono L (j := x + 1) (k := L.length) (by omega)
  have hq2 : q < (blkTo L L.length).length := by omega
  exact ⟨q, hq2, (hm q hq2 _).2 ⟨x, hx, rfl, hq⟩⟩
theorem fmtP_part {L : List Int} (h : fmtP L ≠ []) : isPart L = true := by
  cases hp : isPart L with
  | true => rfl
  | false => exact absurd (fmtP_f hp) h

/-- What both give. -/
def pp (s : List UInt8) : List Int × Bool := if s ≠ [] ∧ fmtP (sdec s) = s then (sdec s, true) else ([], false)
theorem pp_t {s : List UInt8} {l : List Int} (h0 : s ≠ []) (h : fmtP l = s) : pp s = (l, true) := by
  have hp := fmtP_part (L := l) (by rw [h]; exact h0)
  have e : sdec s = l := by rw [← h]; exact sdec_fmt hp
  rw [pp, if_pos ⟨h0, by rw [e, h]⟩, e]
theorem pp_f {s : List UInt8} (h : ¬ (s ≠ [] ∧ fmtP (sdec s) = s)) : pp s = ([], false) := if_neg h
theorem pp_in {s : List UInt8} (h : idec s = none) : pp s = ([], false) := by
  refine pp_f fun ⟨h0, h1⟩ => ?_
  have hp := fmtP_part (L := sdec s) (by rw [h1]; exact h0)
  have := idec_fmt hp
  rw [h1, h] at this; cases this
theorem pp_is {s : List UInt8} {l : List Int} (h : idec s = some l) (hn : fmtP l ≠ s) : pp s = ([], false) := by
  refine pp_f fun ⟨h0, h1⟩ => ?_
  have hp := fmtP_part (L := sdec s) (by rw [h1]; exact h0)
  have := idec_fmt hp
  rw [h1, h] at this
  simp at this
  exact hn (by rw [this]; exact h1)
end Go.Sh

/-
  Contracts: the blocks of a partition. Of the program.
-/
namespace Go.Sh
set_option linter.unusedSimpArgs false
set_option linter.unusedVariables false
open Go Go.Proofs

def blkF (L : List Int) : Nat × List (Nat × List SV) × Nat × Nat → St
  | (0, _, _, nb) => ⟨ofL [(3, .val (.slice none 0 0)), (6, ri L), (7, .val (.int .i64 L.length)), (8, .val (.int .i64 0))], hp [] nb⟩
  | (k + 1, nr, ob, nb) => ⟨ofL [(3, .own ob 0 nr.length nr.length 1 false), (6, ri L), (7, .val (.int .i64 L.length)), (8, .val (.int .i64 ((k + 1 : Nat) : Int)))], hx [.blk ob ⟨outerN false nr, false⟩, .rows false nr] nb⟩

set_option maxHeartbeats 4000000 in
theorem Tryd.blocks_f (L : List Int) (hp1 : isPart L = true) : FCall Tryd.prog 52 [ri L] (MatRes (mi (blkTo L L.length))) := by
  obtain ⟨l1, l2⟩ := isPart_len hp1
  refine FCall.of_body Tryd.func52 rfl (by kernel_rfl) (by simp [Tryd.ntmps52]) ?_
  refine SW_of_vc Tryd.mixed _ _ _ (by kernel_rfl) ?_
  simp (disch := omega) only [Tryd.ntmps52, Tryd.results52, go_sem]
  refine LoopW.loop (blkF L) (fun p => p.1 ≤ L.length ∧ (0 < p.1 → NrOk p.2.2.1 p.2.2.2 p.2.1 ∧ p.2.1.map (·.2) = mi (blkTo L p.1))) (fun p => L.length - p.1) (0, [], 0, 0) ⟨by simp, by simp⟩ (Wk.of (by simp only [go_sem, ↓List.forall_mem_cons, List.not_mem_nil, false_implies, implies_true, and_true, true_and, and_self, ri_eq, Int.natCast_add, Int.cast_ofNat_Int]; try simp) rfl) ?_
  rintro ⟨k, nr, ob, nb⟩ ⟨hk, hinv⟩
  simp only at hk hinv
  refine SW_of_vc Tryd.mixed _ _ _ (by kernel_rfl) ?_
  cases k with
  | zero =>
    have hlt : 0 < L.length := by omega
    obtain ⟨x, hx, hxl⟩ := blk_at hp1 hlt
    have hx0 : x = 0 := by simp [blkTo] at hxl; exact hxl
    subst hx0
    have hn := blkTo_new (L := L) (k := 0) (by rw [hx]; rfl)
    have hb1 : blkTo L 1 = [[0]] := by rw [hn]; rfl
    have g1 := ints_get hlt
    rw [hx] at g1
    rw [blkF]
    simp (disch := omega) only [Tryd.ntmps52, Tryd.results52, go_sem, g1, Int.natCast_zero]
    refine ⟨(1, [(nb + 1 + 1 + 1, ints [0])], nb + 1, nb + 1 + 1 + 1 + 1), ⟨l1, fun _ => ⟨⟨by show nb + 1 < nb + 1 + 1 + 1 + 1; omega, by intro p hp; simp at hp; subst hp; simp only []; omega, by simp⟩, ?_⟩⟩, by show L.length - 1 < L.length; omega, ?_⟩
    · show [ints [0]] = mi (blkTo L 1)
      rw [hb1]; rfl
    · rw [blkF]
      refine Wk.ofX (by simp only [go_sem, ↓List.forall_mem_cons, List.not_mem_nil, false_implies, implies_true, and_true, true_and, and_self, ri_eq, Int.natCast_add, Int.cast_ofNat_Int, List.length_singleton]; try simp) ?_ (Nat.le_refl _)
      simp only [List.forall_mem_cons]
      refine ⟨?_, ?_, by simp⟩
      · simp (disch := omega) only [EntIn, hp_map, hmap_cons, if_pos, if_neg, ↓reduceIte]; rfl
      · intro p hp
        simp at hp
        subst hp
        simp (disch := omega) only [hp_map, hmap_cons, if_pos, if_neg, ↓reduceIte]; rfl
  | succ k =>
    obtain ⟨ho, hrows⟩ := hinv (by omega)
    have hob := ho.1
    have hnl := nr_len hrows
    have hol := outerN_length false nr
    have hot : (outerN false nr).take nr.length = outerN false nr := List.take_of_length_le (by omega)
    have hble := blkTo_le L (k + 1)
    rw [blkF]
    by_cases hlt : k + 1 < L.length
    · obtain ⟨x, hx, hxl⟩ := blk_at hp1 hlt
      have g1 := ints_get hlt
      rw [hx] at g1
      by_cases hnew : x = (blkTo L (k + 1)).length
      · have hxe : x = nr.length := by omega
        subst hxe
        have hn := blkTo_new (L := L) (k := k + 1) (by rw [hx, hnew])
        have hg2 : (outerN false nr ++ [SV.val (.slice none 0 0)])[nr.length]? = some (.val (.slice none 0 0)) := by rw [List.getElem?_append_right (by omega), hol]; simp
        have hs2 : ∀ nm, (outerN false nr ++ [SV.val (.slice none 0 0)]).set nr.length (.own nm 0 1 1 1 false) = outerN false (nr ++ [(nm, ints [((k + 1 : Nat) : Int)])]) := fun nm => by
          rw [outerN_snoc, List.set_append_right _ _ (by omega), hol, Nat.sub_self]; rfl
        simp (disch := omega) only [Tryd.ntmps52, Tryd.results52, go_sem, g1, hol, hot, hg2, hs2, List.length_append, List.length_singleton]
        refine ⟨(k + 1 + 1, nr ++ [(nb + 1 + 1 + 1, ints [((k + 1 : Nat) : Int)])], nb + 1, nb + 1 + 1 + 1 + 1), ⟨hlt, fun _ => ⟨ho.snoc (by omega) (by show nb ≤ nb + 1; omega) (by show nb + 1 + 1 + 1 ≠ nb + 1; omega) (by show nb + 1 + 1 + 1 < nb + 1 + 1 + 1 + 1; omega) (by show nb + 1 < nb + 1 + 1 + 1 + 1; omega), ?_⟩⟩, by show L.length - (k + 1 + 1) < L.length - (k + 1); omega, ?_⟩
        · show (nr ++ _).map (·.2) = mi (blkTo L (k + 1 + 1))
          rw [hn, List.map_append, hrows, mi_snoc]; rfl
        · rw [blkF]
          refine Wk.ofX (by simp only [go_sem, ↓List.forall_mem_cons, List.not_mem_nil, false_implies, implies_true, and_true, true_and, and_self, ri_eq, Int.natCast_add, Int.cast_ofNat_Int, List.length_append, List.length_singleton]; try simp) ?_ (Nat.le_refl _)
          simp only [List.forall_mem_cons]
          refine ⟨?_, ?_, by simp⟩
          · simp (disch := omega) only [EntIn, hx_map, xmap_blk, if_pos, if_neg, ↓reduceIte]
          · refine EntIn.snoc ?_ ?_
            · have hne : ∀ p ∈ nr, p.1 < nb ∧ p.1 ≠ ob := ho.2.1
              refine EntIn.skipR (EntIn.skipR (EntIn.skipR (EntIn.skipR (EntIn.skipC (EntIn.selfR ho.2.2) ?_) ?_) ?_) ?_) ?_
              all_goals
                intro p hp
                have := hne p hp
                omega
            · simp (disch := omega) only [hx_map, xmap_blk, if_pos, if_neg, ↓reduceIte]; rfl
      · have hxn : x < nr.length := by omega
        obtain ⟨hr1, hr2⟩ := nr_row hrows hxn
        have hold := blkTo_old hx hr2
        have hgo := outerN_get (fl := false) hxn
        have hgr := xmap_rowsAt (fl := false) (l := []) ho.2.2 hxn
        have hlt' := ho.2.1 _ (nrAt_mem hxn)
        have hrle := blkTo_row L (k + 1) x
        have hset := fun nm => outerN_set (fl := false) (nr := nr) (x := x) (nm := nm) (r := ints (mrow (blkTo L (k + 1)) x ++ [((k + 1 : Nat) : Int)])) rfl
        rw [hr1] at hgo hgr
        rw [ints_length, List.length_append, List.length_singleton] at hset
        rw [ints_length] at hgo
        generalize hnm : (nrAt nr x).1 = nm at *
        simp (disch := omega) only [Tryd.ntmps52, Tryd.results52, go_sem, g1, hol, hot, hgo, hgr, hset]
        refine ⟨(k + 1 + 1, nr.set x (nb + 1, ints (mrow (blkTo L (k + 1)) x ++ [((k + 1 : Nat) : Int)])), ob, nb + 1 + 1), ⟨hlt, fun _ => ⟨ho.set (by omega) (by show nb + 1 < nb + 1 + 1; omega), ?_⟩⟩, by show L.length - (k + 1 + 1) < L.length - (k + 1); omega, ?_⟩
        · show (nr.set x _).map (·.2) = mi (blkTo L (k + 1 + 1))
          rw [hold, List.map_set, hrows, mi_set]
        · rw [blkF]
          refine Wk.ofX (by simp only [go_sem, ↓List.forall_mem_cons, List.not_mem_nil, false_implies, implies_true, and_true, true_and, and_self, ri_eq, Int.natCast_add, Int.cast_ofNat_Int, List.length_set]; try simp) ?_ (Nat.le_refl _)
          simp only [List.forall_mem_cons]
          refine ⟨?_, ?_, by simp⟩
          · simp (disch := omega) only [EntIn, hx_map, xmap_blk, if_pos, if_neg, ↓reduceIte]
          · refine EntIn.setN (fun j hj hne => ?_) (by rw [hx_map, xmap_blk, if_pos rfl])
            have h1 := ho.2.1 _ (nrAt_mem hj)
            have h2 := nr_ne ho.2.2 hj hxn hne
            rw [hnm] at h2
            rw [hx_map, xmap_blk, if_neg (by omega), xmap_blk, if_neg (by omega), xmap_blk, if_neg (by omega), xmap_cut, if_neg (by omega)]
            exact xmap_rowsAt ho.2.2 hj
    · have hkl : k + 1 = L.length := by omega
      rw [hkl] at hrows
      have := fin_rows (H := hx [Ent.blk ob { cells := outerN false nr, ex := false }, Ent.rows false nr] nb) (R := mi (blkTo L L.length)) ho
        (fun p hp => mi_vals (blkTo L L.length) _ (by rw [← hrows]; exact List.mem_map_of_mem hp)) (by rw [hx_map, xmap_blk, if_pos rfl])
        (EntIn.skipR (EntIn.selfR ho.2.2) (fun p hp => (ho.2.1 p hp).2)) hrows.symm
      simp (disch := omega) only [Tryd.ntmps52, Tryd.results52, go_sem]
      exact this

def sblk (L : List Int) : List (List Int) := blocksOf L
end Go.Sh

/-
  Plain: components of a graph over 0 .. n-1, numbered by their first item; that the labels are determined; what a search leaves behind.
-/
namespace Go.Sh
set_option linter.unusedSimpArgs false
set_option linter.unusedVariables false
open Go Go.Proofs

inductive Rch (n : Nat) (B : Nat → Nat → Bool) : Nat → Nat → Prop
  | refl {x : Nat} : Rch n B x x
  | tail {x y z : Nat} : Rch n B x y → y < n → z < n → B y z = true → Rch n B x z
theorem Rch.trans {n : Nat} {B : Nat → Nat → Bool} {x y z : Nat} (h : Rch n B x y) (g : Rch n B y z) : Rch n B x z := by
  induction g with
  | refl => exact h
  | tail _ h1 h2 h3 ih => exact .tail ih h1 h2 h3
theorem Rch.one {n : Nat} {B : Nat → Nat → Bool} {x y : Nat} (h1 : x < n) (h2 : y < n) (h : B x y = true) : Rch n B x y := .tail .refl h1 h2 h
theorem Rch.symm {n : Nat} {B : Nat → Nat → Bool} (hs : ∀ x y, x < n → y < n → B x y = true → B y x = true) {x y : Nat} (h : Rch n B x y) : Rch n B y x := by
  induction h with
  | refl => exact .refl
  | tail _ h1 h2 h3 ih => exact (Rch.one h2 h1 (hs _ _ h1 h2 h3)).trans ih
theorem Rch.mono {n : Nat} {B B' : Nat → Nat → Bool} (hb : ∀ x y, x < n → y < n → B x y = true → Rch n B' x y) {x y : Nat} (h : Rch n B x y) : Rch n B' x y := by
  induction h with
  | refl => exact .refl
  | tail _ h1 h2 h3 ih => exact ih.trans (hb _ _ h1 h2 h3)
theorem Rch.lt {n : Nat} {B : Nat → Nat → Bool} {x y : Nat} (h : Rch n B x y) (hx : x < n) : y < n := by
  cases h with
  | refl => exact hx
  | tail _ _ h2 _ => exact h2
def RchK (n : Nat) (B : Nat → Nat → Bool) : Nat → Nat → Nat → Prop
  | 0, x, y => x = y
  | k + 1, x, z => RchK n B k x z ∨ ∃ y, y < n ∧ z < n ∧ RchK n B k x y ∧ B y z = true
theorem RchK.rch {n : Nat} {B : Nat → Nat → Bool} : ∀ {k x y : Nat}, RchK n B k x y → Rch n B x y
  | 0, x, y, h => by rw [RchK] at h; subst h; exact .refl
  | k + 1, x, z, h => by
    rw [RchK] at h
    rcases h with h | ⟨y, h1, h2, h3, h4⟩
    · exact RchK.rch h
    · exact .tail (RchK.rch h3) h1 h2 h4
theorem RchK.self {n : Nat} {B : Nat → Nat → Bool} : ∀ {k x : Nat}, RchK n B k x x
  | 0, x => rfl
  | k + 1, x => .inl RchK.self
theorem countP_lt {α : Type} {p q : α → Bool} : ∀ {l : List α} {i : α}, (∀ x ∈ l, p x = true → q x = true) → i ∈ l → q i = true → p i = false → l.countP p < l.countP q
  | [], i, _, h, _, _ => by simp at h
  | a :: l, i, hpq, h, hq, hp => by
    have hle : l.countP p ≤ l.countP q := List.countP_mono_left (fun x hx h => hpq x (by simp [hx]) h)
    rcases List.mem_cons.1 h with rfl | h
    · rw [List.countP_cons_of_neg (by simp [hp]), List.countP_cons_of_pos hq]; omega
    · have := countP_lt (fun x hx => hpq x (by simp [hx])) h hq hp
      rw [List.countP_cons, List.countP_cons]
      have := hpq a (by simp)
      cases hpa : p a with
      | false => simp; omega
      | true => simp [this hpa]; omega
open Classical in
theorem rch_closed {n : Nat} {B : Nat → Nat → Bool} {i : Nat} (hi : i < n) : ∀ k, (∀ x y, x < n → y < n → RchK n B k i x → B x y = true → RchK n B k i y) ∨ k + 1 ≤ (List.range n).countP (fun x => decide (RchK n B k i x))
  | 0 => by
    right
    have : 0 < (List.range n).countP (fun x => decide (RchK n B 0 i x)) := List.countP_pos_iff.2 ⟨i, by simpa using hi, by simp [RchK]⟩
    omega
  | k + 1 => by
    by_cases hc : ∀ x y, x < n → y < n → RchK n B k i x → B x y = true → RchK n B k i y
    · left
      intro x y hx hy h hb
      refine .inl (hc x y hx hy ?_ hb)
      rcases h with h | ⟨z, h1, h2, h3, h4⟩
      · exact h
      · exact hc z x h1 h2 h3 h4
    · right
      have ih := (rch_closed hi k).resolve_left hc
      have : ∃ x y, x < n ∧ y < n ∧ RchK n B k i x ∧ B x y = true ∧ ¬ RchK n B k i y := by
        refine Classical.byContradiction fun hn => hc fun x y hx hy h hb => Classical.byContradiction fun h2 => hn ⟨x, y, hx, hy, h, hb, h2⟩
      obtain ⟨x, y, hx, hy, h, hb, h2⟩ := this
      have := countP_lt (p := fun x => decide (RchK n B k i x)) (q := fun x => decide (RchK n B (k + 1) i x)) (l := List.range n) (i := y)
        (fun z _ hz => decide_eq_true (.inl (of_decide_eq_true hz))) (by simpa using hy) (decide_eq_true (.inr ⟨x, hx, hy, h, hb⟩)) (decide_eq_false h2)
      omega
theorem rch_bound {n : Nat} {B : Nat → Nat → Bool} {i x : Nat} (hi : i < n) (h : Rch n B i x) : RchK n B n i x := by
  have hc := (rch_closed (B := B) hi n).resolve_right (fun h => by
    have := List.countP_le_length (l := List.range n) (p := fun x => @decide (RchK n B n i x) (Classical.propDecidable _))
    simp only [List.length_range] at this
    omega)
  induction h with
  | refl => exact RchK.self
  | tail _ h1 h2 h3 ih => exact hc _ _ h1 h2 ih h3

/-- The labels of the components. -/
structure CompL (n : Nat) (B : Nat → Nat → Bool) (L : List Int) : Prop where
  len : L.length = n
  nn : ∀ x, x < n → 0 ≤ L.getD x 0
  can : ∀ x v, x < n → 0 ≤ v → v < L.getD x 0 → ∃ y, y < x ∧ L.getD y 0 = v
  iff : ∀ x y, x < n → y < n → (L.getD x 0 = L.getD y 0 ↔ Rch n B x y)
theorem list_ext {L L' : List Int} (h : L.length = L'.length) (g : ∀ x, x < L.length → L.getD x 0 = L'.getD x 0) : L = L' := by
  refine List.ext_getElem h fun i h1 h2 => ?_
  have := g i h1
  simpa [h1, h2] using this
theorem CompL.uniq {n : Nat} {B B' : Nat → Nat → Bool} {L L' : List Int} (h : CompL n B L) (h' : CompL n B' L') (hb : ∀ x y, x < n → y < n → (Rch n B x y ↔ Rch n B' x y)) : L = L' := by
  refine list_ext (h.len.trans h'.len.symm) (fun x hx => ?_)
  rw [h.len] at hx
  induction x using Nat.strongRecOn with
  | _ x ih =>
    rcases Int.lt_trichotomy (L.getD x 0) (L'.getD x 0) with hl | he | hl
    · obtain ⟨y, hy, e⟩ := h'.can x _ hx (h.nn x hx) hl
      have e2 := ih y hy (by omega)
      have := (h.iff y x (by omega) hx).1 (by omega)
      have := (h'.iff y x (by omega) hx).2 ((hb _ _ (by omega) hx).1 this)
      omega
    · exact he
    · obtain ⟨y, hy, e⟩ := h.can x _ hx (h'.nn x hx) hl
      have e2 := ih y hy (by omega)
      have := (h'.iff y x (by omega) hx).1 (by omega)
      have := (h.iff y x (by omega) hx).2 ((hb _ _ (by omega) hx).2 this)
      omega
open Classical in
noncomputable def comp (n : Nat) (B : Nat → Nat → Bool) : List Int := if h : ∃ L, CompL n B L then Classical.choose h else []
theorem CompL.eq {n : Nat} {B : Nat → Nat → Bool} {L : List Int} (h : CompL n B L) : L = comp n B := by
  have hex : ∃ L, CompL n B L := ⟨L, h⟩
  rw [comp, dif_pos hex]
  exact h.uniq (Classical.choose_spec hex) (fun _ _ _ _ => Iff.rfl)
theorem CompL.comp {n : Nat} {B : Nat → Nat → Bool} {L : List Int} (h : CompL n B L) : CompL n B (comp n B) := by rw [← h.eq]; exact h

/-- Items before i are labelled, with whole components. -/
structure PartL (n : Nat) (B : Nat → Nat → Bool) (i : Nat) (c : Int) (O : List Int) : Prop where
  len : O.length = n
  c0 : 0 ≤ c
  ci : c ≤ i
  done : ∀ x, x < i → x < n → 0 ≤ O.getD x 0
  rng : ∀ x, x < n → O.getD x 0 < c
  vals : ∀ v, 0 ≤ v → v < c → ∃ y, y < i ∧ y < n ∧ O.getD y 0 = v
  can : ∀ x v, x < n → 0 ≤ v → v < O.getD x 0 → ∃ y, y < x ∧ O.getD y 0 = v
  clo : ∀ x y, x < n → y < n → 0 ≤ O.getD x 0 → B x y = true → O.getD y 0 = O.getD x 0
  snd : ∀ x y, x < n → y < n → 0 ≤ O.getD x 0 → O.getD x 0 = O.getD y 0 → Rch n B x y
theorem getD_rep {n x : Nat} {a : Int} (h : x < n) : (List.replicate n a).getD x 0 = a := by simp [h]
theorem PartL.zero (n : Nat) (B : Nat → Nat → Bool) : PartL n B 0 0 (List.replicate n (-1)) where
  len := by simp
  c0 := by omega
  ci := by omega
  done x h := by omega
  rng x h := by rw [getD_rep h]; omega
  vals v h1 h2 := by omega
  can x v h h1 h2 := by rw [getD_rep h] at h2; omega
  clo x y h1 _ h2 := by rw [getD_rep h1] at h2; omega
  snd x y h1 _ h2 := by rw [getD_rep h1] at h2; omega
theorem PartL.skip {n : Nat} {B : Nat → Nat → Bool} {i : Nat} {c : Int} {O : List Int} (h : PartL n B i c O) (hi : 0 ≤ O.getD i 0) : PartL n B (i + 1) c O where
  len := h.len
  c0 := h.c0
  ci := by have := h.ci; omega
  done x hx hn := by
    rcases Nat.lt_succ_iff_lt_or_eq.1 hx with g | rfl
    · exact h.done x g hn
    · exact hi
  rng := h.rng
  vals v h1 h2 := by
    obtain ⟨y, g1, g2⟩ := h.vals v h1 h2
    exact ⟨y, by omega, g2⟩
  can := h.can
  clo := h.clo
  snd := h.snd
theorem PartL.path {n : Nat} {B : Nat → Nat → Bool} {i : Nat} {c : Int} {O : List Int} (h : PartL n B i c O) {x y : Nat} (hr : Rch n B x y) (h0 : 0 ≤ O.getD x 0) : O.getD y 0 = O.getD x 0 := by
  induction hr with
  | refl => rfl
  | tail _ h1 h2 h3 ih => rw [h.clo _ _ h1 h2 (by rw [ih]; exact h0) h3, ih]
/-- O' is O with the component of i labelled c. -/
structure NewL (n : Nat) (B : Nat → Nat → Bool) (c : Int) (i : Nat) (O O' : List Int) : Prop where
  len : O'.length = n
  new : ∀ x, x < n → Rch n B i x → O'.getD x 0 = c
  old : ∀ x, x < n → ¬ Rch n B i x → 0 ≤ O.getD x 0 → O'.getD x 0 = O.getD x 0
  neg : ∀ x, x < n → ¬ Rch n B i x → O.getD x 0 < 0 → O'.getD x 0 < 0
theorem PartL.unl {n : Nat} {B : Nat → Nat → Bool} (hs : ∀ x y, x < n → y < n → B x y = true → B y x = true) {i : Nat} {c : Int} {O : List Int} (h : PartL n B i c O) {k : Nat} (h0 : O.getD k 0 < 0) {x : Nat} (hr : Rch n B k x) : O.getD x 0 < 0 := by
  refine Int.not_le.1 fun hn => ?_
  have := h.path (hr.symm hs) hn
  omega
theorem PartL.step {n : Nat} {B : Nat → Nat → Bool} (hs : ∀ x y, x < n → y < n → B x y = true → B y x = true) {i : Nat} {c : Int} {O O' : List Int} (h : PartL n B i c O) (hi : i < n) (h0 : O.getD i 0 < 0) (g : NewL n B c i O O') : PartL n B (i + 1) (c + 1) O' := by
  have hun : ∀ x, Rch n B i x → O.getD x 0 < 0 := fun x hr => h.unl hs h0 hr
  have hkeep : ∀ x, x < n → 0 ≤ O.getD x 0 → O'.getD x 0 = O.getD x 0 := fun x hx hn => g.old x hx (fun hr => by have := hun x hr; omega) hn
  have hback : ∀ x, x < n → ¬ Rch n B i x → 0 ≤ O'.getD x 0 → O'.getD x 0 = O.getD x 0 ∧ 0 ≤ O.getD x 0 := by
    intro x hx hr hn
    by_cases h1 : 0 ≤ O.getD x 0
    · exact ⟨hkeep x hx h1, h1⟩
    · have := g.neg x hx hr (by omega); omega
  have hc0 := h.c0
  have hci := h.ci
  refine ⟨g.len, by omega, by omega, ?_, ?_, ?_, ?_, ?_, ?_⟩
  · intro x hx hn
    rcases Nat.lt_succ_iff_lt_or_eq.1 hx with k | rfl
    · have := h.done x k hn
      rw [hkeep x hn this]; exact this
    · rw [g.new x hn .refl]; omega
  · intro x hx
    by_cases hr : Rch n B i x
    · rw [g.new x hx hr]; omega
    · by_cases hn : 0 ≤ O'.getD x 0
      · have := hback x hx hr hn
        have := h.rng x hx
        omega
      · omega
  · intro v h1 h2
    by_cases hv : v = c
    · exact ⟨i, by omega, hi, by rw [g.new i hi .refl, hv]⟩
    · obtain ⟨y, k1, k2, k3⟩ := h.vals v h1 (by omega)
      exact ⟨y, by omega, k2, by rw [hkeep y k2 (by omega), k3]⟩
  · intro x v hx h1 h2
    by_cases hr : Rch n B i x
    · rw [g.new x hx hr] at h2
      obtain ⟨y, k1, k2, k3⟩ := h.vals v h1 h2
      have : ¬ x < i := fun hl => by have := h.done x hl hx; have := hun x hr; omega
      exact ⟨y, by omega, by rw [hkeep y k2 (by omega), k3]⟩
    · have hb := hback x hx hr (by omega)
      rw [hb.1] at h2
      obtain ⟨y, k1, k2⟩ := h.can x v hx h1 h2
      exact ⟨y, k1, by rw [hkeep y (by omega) (by omega), k2]⟩
  · intro x y hx hy h1 hb
    by_cases hr : Rch n B i x
    · rw [g.new x hx hr, g.new y hy (.tail hr hx hy hb)]
    · have hq := hback x hx hr h1
      have := h.clo x y hx hy hq.2 hb
      rw [hkeep y hy (by omega)]
      omega
  · intro x y hx hy h1 he
    by_cases hr : Rch n B i x
    · by_cases hr2 : Rch n B i y
      · exact (hr.symm hs).trans hr2
      · have := g.new x hx hr
        have := hback y hy hr2 (by omega)
        have := h.rng y hy
        omega
    · have hq := hback x hx hr h1
      by_cases hr2 : Rch n B i y
      · have := g.new y hy hr2
        have := h.rng x hx
        omega
      · have := hback y hy hr2 (by omega)
        exact h.snd x y hx hy hq.2 (by omega)
theorem PartL.final {n : Nat} {B : Nat → Nat → Bool} {i : Nat} {c : Int} {O : List Int} (h : PartL n B i c O) (hi : n ≤ i) : CompL n B O where
  len := h.len
  nn x hx := h.done x (by omega) hx
  can := h.can
  iff x y hx hy := ⟨fun e => h.snd x y hx hy (h.done x (by omega) hx) e, fun r => (h.path r (h.done x (by omega) hx)).symm⟩

/-! ### The search that calls itself -/
structure DfsL (n : Nat) (B : Nat → Nat → Bool) (c : Int) (i : Nat) (O O' : List Int) : Prop where
  len : O'.length = n
  self : O'.getD i 0 = c
  keep : ∀ x, x < n → 0 ≤ O.getD x 0 → O'.getD x 0 = O.getD x 0
  new : ∀ x, x < n → O.getD x 0 < 0 → O'.getD x 0 < 0 ∨ (O'.getD x 0 = c ∧ Rch n B i x)
  clo : ∀ x y, x < n → y < n → O.getD x 0 < 0 → 0 ≤ O'.getD x 0 → B x y = true → 0 ≤ O'.getD y 0
structure DfsK (n : Nat) (B : Nat → Nat → Bool) (c : Int) (i : Nat) (O : List Int) (k : Nat) (O' : List Int) : Prop where
  len : O'.length = n
  self : O'.getD i 0 = c
  keep : ∀ x, x < n → 0 ≤ O.getD x 0 → O'.getD x 0 = O.getD x 0
  new : ∀ x, x < n → O.getD x 0 < 0 → O'.getD x 0 < 0 ∨ (O'.getD x 0 = c ∧ Rch n B i x)
  clo : ∀ x y, x < n → y < n → x ≠ i → O.getD x 0 < 0 → 0 ≤ O'.getD x 0 → B x y = true → 0 ≤ O'.getD y 0
  cli : ∀ y, y < n → y < k → B i y = true → 0 ≤ O'.getD y 0
theorem getD_set {L : List Int} {i x : Nat} {a : Int} (hi : i < L.length) : (L.set i a).getD x 0 = if x = i then a else L.getD x 0 := by
  simp only [List.getD_eq_getElem?_getD, List.getElem?_set]
  by_cases h : i = x
  · subst h; simp [hi]
  · have : ¬ x = i := fun e => h e.symm
    simp [h, this]
theorem DfsK.start {n : Nat} {B : Nat → Nat → Bool} {c : Int} {i : Nat} {O : List Int} (hl : O.length = n) (hi : i < n) (h0 : O.getD i 0 < 0) : DfsK n B c i O 0 (O.set i c) where
  len := by simpa using hl
  self := by rw [getD_set (by omega), if_pos rfl]
  keep x hx h := by
    rw [getD_set (by omega), if_neg (fun e => by subst e; omega)]
  new x hx h := by
    rw [getD_set (by omega)]
    by_cases e : x = i
    · subst e; rw [if_pos rfl]; exact .inr ⟨rfl, .refl⟩
    · rw [if_neg e]; exact .inl h
  clo x y hx hy hne h h2 hb := by
    rw [getD_set (by omega), if_neg hne] at h2; omega
  cli y _ h := by omega
theorem DfsK.skip {n : Nat} {B : Nat → Nat → Bool} {c : Int} {i k : Nat} {O O' : List Int} (h : DfsK n B c i O k O') (hk : B i k = true → 0 ≤ O'.getD k 0) : DfsK n B c i O (k + 1) O' := by
  refine ⟨h.len, h.self, h.keep, h.new, h.clo, fun y hy hlt hb => ?_⟩
  rcases Nat.lt_succ_iff_lt_or_eq.1 hlt with g | rfl
  · exact h.cli y hy g hb
  · exact hk hb
theorem DfsK.step {n : Nat} {B : Nat → Nat → Bool} {c : Int} (hc : 0 ≤ c) {i k : Nat} {O O1 O2 : List Int} (hi : i < n) (hk : k < n) (h : DfsK n B c i O k O1) (hb : B i k = true) (hneg : O1.getD k 0 < 0) (g : DfsL n B c k O1 O2) : DfsK n B c i O (k + 1) O2 where
  len := g.len
  self := by rw [g.keep i hi (by rw [h.self]; exact hc), h.self]
  keep x hx h1 := by rw [g.keep x hx (by rw [h.keep x hx h1]; exact h1), h.keep x hx h1]
  new x hx h1 := by
    rcases h.new x hx h1 with g1 | ⟨g1, g2⟩
    · rcases g.new x hx g1 with g3 | ⟨g3, g4⟩
      · exact .inl g3
      · exact .inr ⟨g3, (Rch.one hi hk hb).trans g4⟩
    · exact .inr ⟨by rw [g.keep x hx (by omega), g1], g2⟩
  clo x y hx hy hne h1 h2 hb := by
    by_cases h3 : 0 ≤ O1.getD x 0
    · have := h.clo x y hx hy hne h1 h3 hb
      rw [g.keep y hy this]; exact this
    · exact g.clo x y hx hy (by omega) h2 hb
  cli y hy hlt hb := by
    rcases Nat.lt_succ_iff_lt_or_eq.1 hlt with k1 | rfl
    · have := h.cli y hy k1 hb
      rw [g.keep y hy this]; exact this
    · rw [g.self]; exact hc
theorem DfsK.final {n : Nat} {B : Nat → Nat → Bool} {c : Int} {i k : Nat} {O O' : List Int} (h : DfsK n B c i O k O') (hk : n ≤ k) : DfsL n B c i O O' where
  len := h.len
  self := h.self
  keep := h.keep
  new := h.new
  clo x y hx hy h1 h2 hb := by
    by_cases e : x = i
    · subst e; exact h.cli y hy (by omega) hb
    · exact h.clo x y hx hy e h1 h2 hb
def negs (n : Nat) (O : List Int) : Nat := (List.range n).countP fun x => decide (O.getD x 0 < 0)
theorem DfsK.negs {n : Nat} {B : Nat → Nat → Bool} {c : Int} (hc : 0 ≤ c) {i k : Nat} {O O' : List Int} (h : DfsK n B c i O k O') (hi : i < n) (h0 : O.getD i 0 < 0) : negs n O' < negs n O := by
  refine countP_lt (i := i) (fun x hx hd => ?_) (by simpa using hi) (decide_eq_true h0) (decide_eq_false (by rw [h.self]; omega))
  have hx : x < n := by simpa using hx
  have := of_decide_eq_true hd
  refine decide_eq_true (Int.not_le.1 fun hn => ?_)
  rw [h.keep x hx hn] at this
  omega
theorem negs_pos {n i : Nat} {O : List Int} (hi : i < n) (h : O.getD i 0 < 0) : 0 < negs n O := List.countP_pos_iff.2 ⟨i, by simpa using hi, decide_eq_true h⟩
theorem DfsL.newL {n : Nat} {B : Nat → Nat → Bool} (hs : ∀ x y, x < n → y < n → B x y = true → B y x = true) {i j : Nat} {c : Int} {O O' : List Int} (h : PartL n B j c O) (hi : i < n) (h0 : O.getD i 0 < 0) (g : DfsL n B c i O O') : NewL n B c i O O' where
  len := g.len
  new x hx hr := by
    have hun : ∀ x, Rch n B i x → O.getD x 0 < 0 := fun x hr => h.unl hs h0 hr
    induction hr with
    | refl => exact g.self
    | tail h1 h2 h3 h4 ih =>
      have e := ih h2
      have hc0 := h.c0
      have := g.clo _ _ h2 h3 (hun _ h1) (by omega) h4
      rcases g.new _ h3 (hun _ (.tail h1 h2 h3 h4)) with k | k
      · omega
      · exact k.1
  old x hx _ h1 := g.keep x hx h1
  neg x hx hr h1 := by
    rcases g.new x hx h1 with k | k
    · exact k
    · exact absurd k.2 hr

/-! ### The search by rounds -/
structure SpI (n : Nat) (B : Nat → Nat → Bool) (c : Int) (i : Nat) (O : List Int) (s a b : Nat) (O' : List Int) : Prop where
  len : O'.length = n
  all : ∀ x, x < n → O'.getD x 0 = O.getD x 0 ∨ (O'.getD x 0 = c ∧ Rch n B i x)
  rk : ∀ x, x < n → RchK n B s i x → O'.getD x 0 = c
  rows : ∀ z y, z < a → z < n → y < n → RchK n B s i z → B z y = true → O'.getD y 0 = c
  row : ∀ y, y < b → y < n → RchK n B s i a → B a y = true → O'.getD y 0 = c
theorem SpI.start {n : Nat} {B : Nat → Nat → Bool} {c : Int} {i : Nat} {O : List Int} (hl : O.length = n) (hi : i < n) : SpI n B c i O 0 0 0 (O.set i c) where
  len := by simpa using hl
  all x hx := by
    rw [getD_set (by omega)]
    by_cases e : x = i
    · subst e; rw [if_pos rfl]; exact .inr ⟨rfl, .refl⟩
    · rw [if_neg e]; exact .inl rfl
  rk x hx hr := by
    rw [RchK] at hr; subst hr
    rw [getD_set (by omega), if_pos rfl]
  rows z y h := by omega
  row y h := by omega
theorem SpI.skip {n : Nat} {B : Nat → Nat → Bool} {c : Int} {i s a b : Nat} {O O' : List Int} (h : SpI n B c i O s a b O') (ha : a < n) (hn : ¬ (O'.getD a 0 = c ∧ B a b = true)) : SpI n B c i O s a (b + 1) O' := by
  refine ⟨h.len, h.all, h.rk, h.rows, fun y hy hyn hr hb => ?_⟩
  rcases Nat.lt_succ_iff_lt_or_eq.1 hy with g | rfl
  · exact h.row y g hyn hr hb
  · exact absurd ⟨h.rk a ha hr, hb⟩ hn
theorem SpI.put {n : Nat} {B : Nat → Nat → Bool} {c : Int} {i s a b : Nat} {O O' : List Int} (hr : ∀ x, x < n → O.getD x 0 < c) (h : SpI n B c i O s a b O') (ha : a < n) (hb : b < n) (h1 : O'.getD a 0 = c) (h2 : B a b = true) : SpI n B c i O s a (b + 1) (O'.set b c) := by
  have hl := h.len
  have g : ∀ x, (O'.set b c).getD x 0 = if x = b then c else O'.getD x 0 := fun x => getD_set (by omega)
  have ra : Rch n B i a := by
    rcases h.all a ha with e | e
    · have := hr a ha; omega
    · exact e.2
  have hk : ∀ x, O'.getD x 0 = c → (O'.set b c).getD x 0 = c := fun x e => by
    rw [g]; split
    · rfl
    · exact e
  refine ⟨by simpa using hl, fun x hx => ?_, fun x hx hr => hk x (h.rk x hx hr), fun z y h3 h4 h5 h6 h7 => hk y (h.rows z y h3 h4 h5 h6 h7), fun y hy hyn h3 h4 => ?_⟩
  · rw [g]
    by_cases e : x = b
    · subst e; rw [if_pos rfl]; exact .inr ⟨rfl, .tail ra ha hb h2⟩
    · rw [if_neg e]; exact h.all x hx
  · rcases Nat.lt_succ_iff_lt_or_eq.1 hy with k | rfl
    · exact hk y (h.row y k hyn h3 h4)
    · rw [g, if_pos rfl]
theorem SpI.next {n : Nat} {B : Nat → Nat → Bool} {c : Int} {i s a b : Nat} {O O' : List Int} (h : SpI n B c i O s a b O') (hb : n ≤ b) : SpI n B c i O s (a + 1) 0 O' := by
  refine ⟨h.len, h.all, h.rk, fun z y h1 h2 h3 h4 h5 => ?_, fun y hy => by omega⟩
  rcases Nat.lt_succ_iff_lt_or_eq.1 h1 with g | rfl
  · exact h.rows z y g h2 h3 h4 h5
  · exact h.row y (by omega) h3 h4 h5
theorem SpI.round {n : Nat} {B : Nat → Nat → Bool} {c : Int} {i s a b : Nat} {O O' : List Int} (h : SpI n B c i O s a b O') (ha : n ≤ a) : SpI n B c i O (s + 1) 0 0 O' := by
  refine ⟨h.len, h.all, fun x hx hr => ?_, fun z y h1 => by omega, fun y h1 => by omega⟩
  rcases hr with hr | ⟨y, h1, h2, h3, h4⟩
  · exact h.rk x hx hr
  · exact h.rows y x (by omega) h1 h2 h3 h4
theorem SpI.newL {n : Nat} {B : Nat → Nat → Bool} {c : Int} {i a b : Nat} {O O' : List Int} (hi : i < n) (h : SpI n B c i O n a b O') : NewL n B c i O O' where
  len := h.len
  new x hx hr := h.rk x hx (rch_bound hi hr)
  old x hx hr _ := by
    rcases h.all x hx with e | e
    · exact e
    · exact absurd e.2 hr
  neg x hx hr h0 := by
    rcases h.all x hx with e | e
    · omega
    · exact absurd e.2 hr
open Classical in
theorem PartL.ex {n : Nat} {B : Nat → Nat → Bool} (hs : ∀ x y, x < n → y < n → B x y = true → B y x = true) : ∀ i, i ≤ n → ∃ c O, PartL n B i c O
  | 0, _ => ⟨0, _, .zero n B⟩
  | i + 1, hi => by
    obtain ⟨c, O, h⟩ := PartL.ex hs i (by omega)
    by_cases h0 : 0 ≤ O.getD i 0
    · exact ⟨c, O, h.skip h0⟩
    · have e : ∀ x, x < n → ((List.range n).map fun x => if Rch n B i x then c else O.getD x 0).getD x 0 = if Rch n B i x then c else O.getD x 0 := by
        intro x hx
        simp [hx]
      refine ⟨c + 1, _, h.step hs (by omega) (by omega) (O' := (List.range n).map fun x => if Rch n B i x then c else O.getD x 0) ⟨by simp, fun x hx hr => ?_, fun x hx hr _ => ?_, fun x hx hr h1 => ?_⟩⟩
      · rw [e x hx, if_pos hr]
      · rw [e x hx, if_neg hr]
      · rw [e x hx, if_neg hr]; exact h1
theorem comp_ok {n : Nat} {B : Nat → Nat → Bool} (hs : ∀ x y, x < n → y < n → B x y = true → B y x = true) : CompL n B (comp n B) := by
  obtain ⟨c, O, h⟩ := PartL.ex hs n (Nat.le_refl _)
  exact (h.final (Nat.le_refl _)).comp
theorem comp_congr {n : Nat} {B B' : Nat → Nat → Bool} {L L' : List Int} (h : CompL n B L) (h' : CompL n B' L') (h1 : ∀ x y, x < n → y < n → B x y = true → Rch n B' x y) (h2 : ∀ x y, x < n → y < n → B' x y = true → Rch n B x y) : comp n B = comp n B' := by
  rw [← h.eq, ← h'.eq]
  exact h.uniq h' (fun x y _ _ => ⟨fun r => r.mono h1, fun r => r.mono h2⟩)
end Go.Sh
