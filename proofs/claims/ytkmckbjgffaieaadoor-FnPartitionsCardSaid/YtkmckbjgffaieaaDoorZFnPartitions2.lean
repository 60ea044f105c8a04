/-
  Texts put together: K1, MX, N5, D3, J1, M1, DA1, DA2, DA3, DA4, N1, K2, K3, N2, N3, N4, M0. What each proves stands at its own head, with its conditions.
-/
import Derived.Test.YtkmckbjgffaieaaDoorZFnPartitions1

/-
  Contracts: numbers by rows, copied, measured, compared.
-/
namespace Go.Sh
set_option linter.unusedSimpArgs false
set_option linter.unusedVariables false
open Go Go.Proofs

def mrow (M : List (List Int)) (i : Nat) : List Int := M.getD i []
def mat (M : List (List Int)) (i k : Nat) : Int := (mrow M i).getD k 0
theorem rows_length (M : List (List Int)) : (rows M).length = M.length := by simp [rows]
theorem rows_get {M : List (List Int)} {k : Nat} (h : k < M.length) : (rows M)[k]? = some (.row (mrow M k).length false (ints (mrow M k))) := by
  simp [rows, mrow, h, ri]
theorem rr_eq (M : List (List Int)) : rr M = .row M.length false (rows M) := rfl

def outer (M : List (List Int)) (k : Nat) : List SV := (List.range M.length).map fun i => if i < k then .own (i + 1) 0 (mrow M i).length (mrow M i).length 1 false else .val (.slice none 0 0)
theorem outer_length (M : List (List Int)) (k : Nat) : (outer M k).length = M.length := by simp [outer]
theorem outer_zero (M : List (List Int)) : outer M 0 = List.replicate M.length (.val (.slice none 0 0)) := by
  apply List.ext_getElem <;> simp [outer]
theorem outer_set {M : List (List Int)} {k : Nat} (h : k < M.length) : (outer M k).set k (.own (k + 1) 0 (mrow M k).length (mrow M k).length 1 false) = outer M (k + 1) := by
  apply List.ext_getElem?
  intro i
  simp only [outer, List.getElem?_set, List.getElem?_map, List.length_map, List.length_range]
  by_cases hi : i < M.length
  · rw [List.getElem?_range hi]
    by_cases hk : k = i
    · subst hk
      simp [h]
    · by_cases h1 : i < k
      · simp [hk, h1, show i < k + 1 by omega]
      · simp [hk, h1, show ¬ i < k + 1 by omega]
  · have : (List.range M.length)[i]? = none := by simp; omega
    rw [this]
    have hk : ¬ k = i := by omega
    simp [hk]
def HS (M : List (List Int)) (k : Nat) : Heap := ⟨fun x => if x = 0 then some ⟨outer M k, true⟩ else if x ≤ k then some ⟨ints (mrow M (x - 1)), false⟩ else none, k + 1⟩
def HSp (M : List (List Int)) (k : Nat) : Heap := (HS M k).push ⟨ints (mrow M k), false⟩
theorem HS_nb (M : List (List Int)) (k : Nat) : (HS M k).nb = k + 1 := rfl
theorem HSp_nb (M : List (List Int)) (k : Nat) : (HSp M k).nb = k + 2 := rfl
theorem HS_map (M : List (List Int)) (k : Nat) : (HS M k).map 0 = some ⟨outer M k, true⟩ := rfl
theorem HSp_map (M : List (List Int)) (k : Nat) : (HSp M k).map 0 = some ⟨outer M k, true⟩ := by
  simp only [HSp, Heap.push, HS]
  rw [if_neg (by omega)]
  rfl
theorem HSp_set {M : List (List Int)} {k : Nat} : (HSp M k).set 0 (some ⟨outer M (k + 1), true⟩) = HS M (k + 1) := by
  refine Heap.ext' (fun x => ?_) rfl
  simp only [HSp, HS, Heap.push, Heap.set]
  by_cases h0 : x = 0
  · simp [h0]
  · by_cases h1 : x = k + 1
    · simp [h1]
    · by_cases h2 : x ≤ k
      · simp [h0, h1, h2, show x ≤ k + 1 by omega]
      · simp [h0, h1, h2, show ¬ x ≤ k + 1 by omega]
theorem HS_zero (M : List (List Int)) : HS M 0 = hp [(0, ⟨List.replicate M.length (.val (.slice none 0 0)), true⟩)] 1 := by
  refine Heap.ext' (fun x => ?_) rfl
  simp only [HS, hp, hmap, outer_zero]
  by_cases h0 : x = 0
  · simp [h0]
  · simp [h0]

theorem outer_nr (M : List (List Int)) (k : Nat) : noRowL (outer M k) = true := by
  unfold outer
  generalize List.range M.length = l
  induction l with
  | nil => rfl
  | cons a l ih =>
    simp only [List.map_cons, noRowL, ih, Bool.and_true]
    split <;> rfl
theorem HS_nr (M : List (List Int)) (k : Nat) : nrHeap (HS M k) := by
  intro b blk hb
  simp only [HS] at hb
  split at hb
  · simp at hb; subst hb; exact outer_nr M k
  · split at hb
    · simp at hb; subst hb; exact noRowL_ints _
    · simp at hb
theorem viewL_fn {H : Heap} {f : Nat} {α : Type} {g h : α → SV} : ∀ (l : List α), (∀ a ∈ l, view H f (g a) = some (h a)) → viewL H f (l.map g) = some (l.map h)
  | [], _ => viewL_nil_of
  | a :: l, hv => viewL_cons_of (hv a (by simp)) (viewL_fn l (fun b hb => hv b (by simp [hb])))
theorem HS_view (M : List (List Int)) : view (HS M M.length) 3 (.own 0 0 M.length M.length 1 true) = some (rr M) := by
  simp only [view, HS_map, Nat.mul_one, List.drop_zero, outer_length, Nat.zero_add, Nat.le_refl, if_true]
  have e : (outer M M.length).take M.length = (List.range M.length).map fun i => SV.own (i + 1) 0 (mrow M i).length (mrow M i).length 1 false := by
    rw [List.take_of_length_le (by rw [outer_length]; exact Nat.le_refl _), outer]
    refine List.map_congr_left (fun i hi => ?_)
    have : i < M.length := by simpa using hi
    rw [if_pos this]
  rw [e, viewL_fn (h := fun i => ri (mrow M i)) _ (fun i hi => ?_)]
  · have : (List.range M.length).map (fun i => ri (mrow M i)) = rows M := by
      apply List.ext_getElem?
      intro i
      simp only [rows, List.getElem?_map]
      by_cases hi : i < M.length
      · rw [List.getElem?_range hi]; simp [mrow, hi]
      · have : (List.range M.length)[i]? = none := by simp; omega
        rw [this, List.getElem?_eq_none (by omega : M.length ≤ i)]; rfl
    rw [this]; rfl
  · have hi' : i < M.length := by simpa using hi
    refine view_own (e2 := false) ?_ rfl
    simp only [HS]
    rw [if_neg (by omega), if_pos (by omega)]
    simp

set_option maxHeartbeats 1000000 in
theorem Tryd.toIntSS_f (M : List (List Int)) (hM : M.length ≤ 1048576) (hR : ∀ i, i < M.length → (mrow M i).length ≤ 1048576) : FCall Tryd.prog 21 [rr M] (fun r H => r = .own 0 0 M.length M.length 1 true ∧ H = HS M M.length) := by
  refine FCall.of_body Tryd.func21 rfl (by kernel_rfl) (by simp [Tryd.ntmps21]) ?_
  refine SW_of_vc Tryd.mixed _ _ _ (by kernel_rfl) ?_
  simp (disch := omega) only [Tryd.ntmps21, Tryd.results21, go_sem, rr_eq]
  refine LoopW.loop (fun k : Nat => ⟨ofL [(0, rr M), (3, .own 0 0 M.length M.length 1 true), (4, .val (.int .i64 k))], HS M k⟩) (fun k => k ≤ M.length) (fun k => M.length - k) 0 (by omega)
    (Wk.of (by simp only [go_sem, ↓List.forall_mem_cons, List.not_mem_nil, false_implies, implies_true, and_true, true_and, and_self, ri_eq, Int.natCast_add, Int.cast_ofNat_Int, rr_eq]; try simp) (by rw [HS_zero])) ?_
  intro k hk
  have ho := outer_length M k
  refine SW_of_vc Tryd.mixed _ _ _ (by kernel_rfl) ?_
  by_cases hlt : k < M.length
  · have hos := outer_set hlt
    simp (disch := omega) only [Tryd.ntmps21, Tryd.results21, go_sem, rr_eq, rows_get]
    refine (Tryd.toIntS_one (mrow M k) (hR k hlt)).callOne (ints_vals _) 0 (viewL_cons_of (view_rowL (by first | rfl | simp [marks_length, canon_length] | omega)) viewL_nil_of) ?_
    have e : (HS M k).push ⟨ints (mrow M k), false⟩ = HSp M k := rfl
    rw [e, HS_nb]
    simp (disch := omega) only [Tryd.ntmps21, Tryd.results21, go_sem, rr_eq, HSp_map, ho, hos, HSp_set]
    exact ⟨k + 1, by omega, by omega, Wk.of (by simp only [go_sem, ↓List.forall_mem_cons, List.not_mem_nil, false_implies, implies_true, and_true, true_and, and_self, ri_eq, Int.natCast_add, Int.cast_ofNat_Int, rr_eq]; try simp) rfl⟩
  · obtain rfl : k = M.length := by omega
    simp (disch := omega) only [Tryd.ntmps21, Tryd.results21, go_sem, rr_eq]
    exact ⟨HS M M.length, ⟨rfl, fun _ => .inr rfl⟩, rfl, HS_nr M _, rfl, rfl⟩
theorem Tryd.toIntSS_ok (M : List (List Int)) (hM : M.length ≤ 1048576) (hR : ∀ i, i < M.length → (mrow M i).length ≤ 1048576) : PCall Tryd.prog 21 [rr M] (rr M) :=
  (Tryd.toIntSS_f M hM hR).pcall 3 (by rintro r H ⟨rfl, rfl⟩; exact HS_view M)

def szM (M : List (List Int)) (l : Int) : Int := l - M.length - (M.map fun r => (r.length : Int)).sum
def msum (M : List (List Int)) (k : Nat) : Int := ((M.take k).map fun r => (r.length : Int)).sum
theorem msum_succ {M : List (List Int)} {k : Nat} (h : k < M.length) : msum M (k + 1) = msum M k + (mrow M k).length := by
  have e : mrow M k = M[k] := by simp [mrow, h]
  rw [msum, List.take_succ_eq_append_getElem h, List.map_append, List.sum_append, e]
  simp only [List.map_cons, List.map_nil, List.sum_cons, List.sum_nil, Int.add_zero]
  rfl
theorem msum_nonneg (M : List (List Int)) (k : Nat) : 0 ≤ msum M k := by
  unfold msum
  induction M.take k with
  | nil => simp
  | cons a l ih => simp only [List.map_cons, List.sum_cons]; omega
theorem msum_mono {M : List (List Int)} : ∀ {k j : Nat}, k ≤ j → j ≤ M.length → msum M k ≤ msum M j := by
  intro k j h
  induction h with
  | refl => intro _; exact Int.le_refl _
  | step h ih =>
    intro hj
    have := ih (by omega)
    rw [msum_succ (by omega)]
    omega

set_option maxHeartbeats 1000000 in
theorem Tryd.szIntSS_ok (M : List (List Int)) (l : Int) (hM : M.length ≤ 9223372036854775807) (hR : ∀ i, i < M.length → (mrow M i).length ≤ 9223372036854775807) (h0 : 0 ≤ l) (h1 : l ≤ 1048576) :
    PCall Tryd.prog 19 [rr M, .val (.int .i64 l)] (.val (.int .i64 (if l < M.length + msum M M.length then -1 else l - M.length - msum M M.length))) := by
  have hnn := msum_nonneg M M.length
  refine FCall.pcall (R := fun r _ => r = .val (.int .i64 (if l < M.length + msum M M.length then -1 else l - M.length - msum M M.length))) ?_ 0 (by rintro r H rfl; exact view_int)
  refine FCall.of_body Tryd.func19 rfl (by kernel_rfl) (by simp [Tryd.ntmps19]) ?_
  refine SW_of_vc Tryd.mixed _ _ _ (by kernel_rfl) ?_
  by_cases hl : l < M.length
  · rw [if_pos (by omega)]
    simp (disch := omega) only [Tryd.ntmps19, Tryd.results19, go_sem, rr_eq]
    exact Fin.val rfl
  · simp (disch := omega) only [Tryd.ntmps19, Tryd.results19, go_sem, rr_eq]
    refine LoopW.loop (fun k : Nat => ⟨ofL [(0, rr M), (1, .val (.int .i64 (l - M.length - msum M k))), (5, .val (.int .i64 k))], hp [] 0⟩) (fun k => k ≤ M.length ∧ 0 ≤ l - M.length - msum M k) (fun k => M.length - k) 0 ⟨by omega, by simp [msum]; omega⟩
      (Wk.of (by simp only [go_sem, ↓List.forall_mem_cons, List.not_mem_nil, false_implies, implies_true, and_true, true_and, and_self, ri_eq, Int.natCast_add, Int.cast_ofNat_Int, rr_eq, msum, List.take_zero, List.map_nil, List.sum_nil, Int.sub_zero]; try simp) rfl) ?_
    rintro k ⟨hk, hkk⟩
    have hn := msum_nonneg M k
    refine SW_of_vc Tryd.mixed _ _ _ (by kernel_rfl) ?_
    by_cases hlt : k < M.length
    · have hs := Tryd.szIntS_ok (mrow M k) (l - M.length - msum M k) (hR k hlt) hkk (by omega)
      have he := msum_succ hlt
      have hmo := msum_mono (M := M) (k := k + 1) (j := M.length) (by omega) (by omega)
      by_cases hx : l - M.length - msum M k < (mrow M k).length
      · rw [if_pos hx] at hs
        simp (disch := omega) only [Tryd.ntmps19, Tryd.results19, go_sem, rr_eq, rows_get]
        refine hs.callV 0 (viewL_cons_of (view_rowL (by first | rfl | simp [marks_length, canon_length] | omega)) (viewL_cons_of (view_int) viewL_nil_of)) ?_
        rw [if_pos (by omega)]
        simp (disch := omega) only [Tryd.ntmps19, Tryd.results19, go_sem, rr_eq]
        exact Fin.val rfl
      · rw [if_neg hx] at hs
        simp (disch := omega) only [Tryd.ntmps19, Tryd.results19, go_sem, rr_eq, rows_get]
        refine hs.callV 0 (viewL_cons_of (view_rowL (by first | rfl | simp [marks_length, canon_length] | omega)) (viewL_cons_of (view_int) viewL_nil_of)) ?_
        simp (disch := omega) only [Tryd.ntmps19, Tryd.results19, go_sem, rr_eq]
        have e2 : l - (M.length : Int) - msum M k - ((mrow M k).length : Int) = l - M.length - msum M (k + 1) := by omega
        exact ⟨k + 1, ⟨by omega, by omega⟩, by omega, Wk.of (by simp only [go_sem, ↓List.forall_mem_cons, List.not_mem_nil, false_implies, implies_true, and_true, true_and, and_self, ri_eq, Int.natCast_add, Int.cast_ofNat_Int, rr_eq, e2]; try simp) rfl⟩
    · obtain rfl : k = M.length := by omega
      simp (disch := omega) only [Tryd.ntmps19, Tryd.results19, go_sem, rr_eq]
      exact Fin.val rfl

theorem mtake_succ {A B : List (List Int)} {k : Nat} (hA : k < A.length) (hB : k < B.length) (h : A.take k = B.take k) (e : mrow A k = mrow B k) : A.take (k + 1) = B.take (k + 1) := by
  rw [List.take_succ_eq_append_getElem hA, List.take_succ_eq_append_getElem hB, h]
  simp [mrow, hA, hB] at e
  rw [e]

set_option maxHeartbeats 1000000 in
theorem Tryd.eqIntSS_ok (A B : List (List Int)) (hA : A.length ≤ 1048576) (hB : B.length ≤ 1048576) (rA : ∀ i, i < A.length → (mrow A i).length ≤ 1048576) (rB : ∀ i, i < B.length → (mrow B i).length ≤ 1048576) : PCall Tryd.prog 23 [rr A, rr B] (.val (.bool (decide (A = B)))) := by
  refine FCall.pcall (R := fun r _ => r = .val (.bool (decide (A = B)))) ?_ 0 (by rintro r H rfl; exact view_bool)
  refine FCall.of_body Tryd.func23 rfl (by kernel_rfl) (by simp [Tryd.ntmps23]) ?_
  refine SW_of_vc Tryd.mixed _ _ _ (by kernel_rfl) ?_
  by_cases hl : A.length = B.length
  · simp (disch := omega) only [Tryd.ntmps23, Tryd.results23, go_sem, rr_eq]
    refine LoopW.loop (fun k : Nat => ⟨ofL [(0, rr A), (1, rr B), (5, .val (.int .i64 k))], hp [] 0⟩) (fun k => k ≤ A.length ∧ A.take k = B.take k) (fun k => A.length - k) 0 ⟨by omega, by simp⟩ (Wk.of (by simp only [go_sem, ↓List.forall_mem_cons, List.not_mem_nil, false_implies, implies_true, and_true, true_and, and_self, ri_eq, Int.natCast_add, Int.cast_ofNat_Int, rr_eq]; try simp) rfl) ?_
    rintro k ⟨hk, hkk⟩
    refine SW_of_vc Tryd.mixed _ _ _ (by kernel_rfl) ?_
    by_cases hlt : k < A.length
    · have hq := Tryd.eqIntS_ok (mrow A k) (mrow B k) (by have := rA k hlt; omega) (by have := rB k (by omega); omega)
      by_cases he : mrow A k = mrow B k
      · have he' : (mrow A k == mrow B k) = true := by simp [he]
        rw [he'] at hq
        simp (disch := omega) only [Tryd.ntmps23, Tryd.results23, go_sem, rr_eq, rows_get]
        refine hq.callDV 0 (viewL_cons_of (view_rowL (by first | rfl | simp [marks_length, canon_length] | omega)) (viewL_cons_of (view_rowL (by first | rfl | simp [marks_length, canon_length] | omega)) viewL_nil_of)) ?_
        simp (disch := omega) only [Tryd.ntmps23, Tryd.results23, go_sem, rr_eq]
        exact ⟨k + 1, ⟨by omega, mtake_succ hlt (by omega) hkk he⟩, by omega, Wk.of (by simp only [go_sem, ↓List.forall_mem_cons, List.not_mem_nil, false_implies, implies_true, and_true, true_and, and_self, ri_eq, Int.natCast_add, Int.cast_ofNat_Int, rr_eq]; try simp) rfl⟩
      · have he' : (mrow A k == mrow B k) = false := by simpa using he
        rw [he'] at hq
        simp (disch := omega) only [Tryd.ntmps23, Tryd.results23, go_sem, rr_eq, rows_get]
        refine hq.callDV 0 (viewL_cons_of (view_rowL (by first | rfl | simp [marks_length, canon_length] | omega)) (viewL_cons_of (view_rowL (by first | rfl | simp [marks_length, canon_length] | omega)) viewL_nil_of)) ?_
        simp (disch := omega) only [Tryd.ntmps23, Tryd.results23, go_sem, rr_eq]
        refine Fin.val ?_
        have : A ≠ B := fun e => he (by rw [e])
        simp [this]
    · simp (disch := omega) only [Tryd.ntmps23, Tryd.results23, go_sem, rr_eq]
      refine Fin.val ?_
      have h1 : A.take k = A := List.take_of_length_le (by omega)
      have h2 : B.take k = B := List.take_of_length_le (by omega)
      rw [h1, h2] at hkk
      simp [hkk]
  · simp (disch := omega) only [Tryd.ntmps23, Tryd.results23, go_sem, rr_eq]
    refine Fin.val ?_
    have : A ≠ B := fun e => hl (by rw [e])
    simp [this]
end Go.Sh

/-
  Matrices in memory of their own: a block of rows, each row a block of scalars.
-/
namespace Go.Sh
set_option linter.unusedSimpArgs false
set_option linter.unusedVariables false
open Go Go.Proofs

/-- What a heap holds: a block; a matrix (its outer block b, its rows b+1, b+2, ..); rows under names of any kind; a name that is gone. -/
inductive Ent where
  | blk (k : Nat) (v : Blk)
  | mat (b : Nat) (R : List (List SV))
  | rows (fl : Bool) (nr : List (Nat × List SV))
  | cut (b : Nat)

def rowAt (R : List (List SV)) (i : Nat) : List SV := R.getD i []
def outerB (b : Nat) (R : List (List SV)) : List SV := (List.range R.length).map fun i => .own (b + 1 + i) 0 (rowAt R i).length (rowAt R i).length 1 false
def outerN (fl : Bool) (nr : List (Nat × List SV)) : List SV := nr.map fun p => .own p.1 0 p.2.length p.2.length 1 fl
def matMap (b : Nat) (R : List (List SV)) (x : Nat) : Option Blk := if x = b then some ⟨outerB b R, false⟩ else some ⟨rowAt R (x - b - 1), false⟩
def nrFind : List (Nat × List SV) → Nat → Option (List SV)
  | [], _ => none
  | p :: l, x => if x = p.1 then some p.2 else nrFind l x
def xmap : List Ent → Nat → Option Blk
  | [], _ => none
  | .blk k v :: l, x => if x = k then some v else xmap l x
  | .mat b R :: l, x => if b ≤ x ∧ x ≤ b + R.length then matMap b R x else xmap l x
  | .rows fl nr :: l, x => match nrFind nr x with
    | some r => some ⟨r, fl⟩
    | none => xmap l x
  | .cut b :: l, x => if x = b then none else xmap l x
def hx (l : List Ent) (n : Nat) : Heap := ⟨xmap l, n⟩
def toE (l : List (Nat × Blk)) : List Ent := l.map fun p => .blk p.1 p.2
theorem toE_nil : toE [] = [] := rfl
theorem toE_cons (k : Nat) (v : Blk) (l : List (Nat × Blk)) : toE ((k, v) :: l) = .blk k v :: toE l := rfl
theorem hp_hx (l : List (Nat × Blk)) (n : Nat) : hp l n = hx (toE l) n := by
  refine Heap.ext' (fun x => ?_) rfl
  show hmap l x = xmap (toE l) x
  induction l with
  | nil => rfl
  | cons p l ih =>
    obtain ⟨k, v⟩ := p
    simp only [toE_cons, hmap, xmap, ih]
theorem hx_nb (l : List Ent) (n : Nat) : (hx l n).nb = n := rfl
theorem hx_map (l : List Ent) (n x : Nat) : (hx l n).map x = xmap l x := rfl
theorem hx_push (l : List Ent) (n : Nat) (k : Blk) : (hx l n).push k = hx (.blk n k :: l) (n + 1) := rfl
theorem xmap_blk (k : Nat) (v : Blk) (l : List Ent) (x : Nat) : xmap (.blk k v :: l) x = if x = k then some v else xmap l x := rfl
theorem xmap_nil (x : Nat) : xmap [] x = none := rfl

def Heap.pushM (H : Heap) (R : List (List SV)) : Heap := ⟨fun x => if H.nb ≤ x ∧ x ≤ H.nb + R.length then matMap H.nb R x else H.map x, H.nb + R.length + 1⟩
theorem hx_pushM (l : List Ent) (n : Nat) (R : List (List SV)) : (hx l n).pushM R = hx (.mat n R :: l) (n + R.length + 1) := rfl
theorem hp_pushM (l : List (Nat × Blk)) (n : Nat) (R : List (List SV)) : (hp l n).pushM R = hx (.mat n R :: toE l) (n + R.length + 1) := by rw [hp_hx, hx_pushM]

def xset : List Ent → Nat → Blk → List Ent
  | [], b, x => [.blk b x]
  | .blk k v :: l, b, x => if k = b then .blk k x :: l else .blk k v :: xset l b x
  | .mat c R :: l, b, x => if c < b ∧ b ≤ c + R.length ∧ x.cells.length = (rowAt R (b - c - 1)).length ∧ x.ex = false then .mat c (R.set (b - c - 1) x.cells) :: l else if b < c ∨ c + R.length < b then .mat c R :: xset l b x else .blk b x :: .mat c R :: l
  | .rows fl nr :: l, b, x => .blk b x :: .rows fl nr :: l
  | .cut c :: l, b, x => .blk b x :: .cut c :: l
theorem rowAt_length {R : List (List SV)} {i : Nat} (h : i < R.length) : rowAt R i = R[i] := by simp [rowAt, h]
theorem outerB_set {b : Nat} {R : List (List SV)} {i : Nat} {r : List SV} (h : r.length = (rowAt R i).length) : outerB b (R.set i r) = outerB b R := by
  unfold outerB
  rw [List.length_set]
  refine List.map_congr_left (fun k hk => ?_)
  have hk : k < R.length := by simpa using hk
  have e : (rowAt (R.set i r) k).length = (rowAt R k).length := by
    rw [rowAt_length (by simpa using hk), rowAt_length hk, List.getElem_set]
    split
    · rename_i e; subst e
      rw [h, rowAt_length hk]
    · rfl
  rw [e]
theorem xmap_set : ∀ (l : List Ent) (b : Nat) (k : Blk) (x : Nat), (if x = b then some k else xmap l x) = xmap (xset l b k) x
  | [], b, k, x => by simp only [xset, xmap]
  | .blk c v :: l, b, k, x => by
    have ih := xmap_set l b k x
    simp only [xset]
    by_cases e : c = b
    · rw [if_pos e]
      subst e
      simp only [xmap]
      by_cases hx : x = c <;> simp [hx]
    · rw [if_neg e]
      simp only [xmap, ← ih]
      by_cases hx : x = b
      · subst hx
        rw [if_pos rfl, if_neg (by omega), if_pos rfl]
      · rw [if_neg hx, if_neg hx]
  | .mat c R :: l, b, k, x => by
    have ih := xmap_set l b k x
    simp only [xset]
    by_cases h : c < b ∧ b ≤ c + R.length ∧ k.cells.length = (rowAt R (b - c - 1)).length ∧ k.ex = false
    · rw [if_pos h]
      obtain ⟨h1, h2, h3, h4⟩ := h
      obtain ⟨kc, kx⟩ := k
      simp only at h3 h4
      subst h4
      simp only [xmap, List.length_set]
      by_cases hx : x = b
      · subst hx
        rw [if_pos rfl, if_pos (by omega), matMap, if_neg (by omega), rowAt_length (by simp; omega)]
        simp
      · rw [if_neg hx]
        by_cases hr : c ≤ x ∧ x ≤ c + R.length
        · rw [if_pos hr, if_pos hr, matMap, matMap, outerB_set h3]
          by_cases hc : x = c
          · rw [if_pos hc, if_pos hc]
          · rw [if_neg hc, if_neg hc]
            rw [rowAt_length (by omega), rowAt_length (by simp; omega), List.getElem_set_ne (by omega)]
        · rw [if_neg hr, if_neg hr]
    · rw [if_neg h]
      by_cases h2 : b < c ∨ c + R.length < b
      · rw [if_pos h2]
        simp only [xmap, ← ih]
        by_cases hx : x = b
        · subst hx
          rw [if_pos rfl, if_pos rfl, if_neg (by omega)]
        · rw [if_neg hx, if_neg hx]
      · rw [if_neg h2]
        rfl
  | .rows fl nr :: l, b, k, x => rfl
  | .cut c :: l, b, k, x => rfl
theorem hx_set (l : List Ent) (n b : Nat) (k : Blk) : (hx l n).set b (some k) = hx (xset l b k) n :=
  Heap.ext' (fun x => xmap_set l b k x) rfl
def xdel : List Ent → Nat → List Ent
  | [], _ => []
  | .blk k v :: l, b => if k = b then xdel l b else .blk k v :: xdel l b
  | .mat c R :: l, b => if b < c ∨ c + R.length < b then .mat c R :: xdel l b else .cut b :: .mat c R :: l
  | .rows fl nr :: l, b => .cut b :: .rows fl nr :: l
  | .cut c :: l, b => .cut b :: .cut c :: l
theorem xmap_del : ∀ (l : List Ent) (b : Nat) (x : Nat), (if x = b then none else xmap l x) = xmap (xdel l b) x
  | [], b, x => by simp only [xdel, xmap]; split <;> rfl
  | .blk c v :: l, b, x => by
    have ih := xmap_del l b x
    simp only [xdel]
    by_cases e : c = b
    · rw [if_pos e, ← ih]
      subst e
      simp only [xmap]
      by_cases hx : x = c <;> simp [hx]
    · rw [if_neg e]
      simp only [xmap, ← ih]
      by_cases hx : x = b
      · subst hx
        rw [if_pos rfl, if_neg (by omega), if_pos rfl]
      · rw [if_neg hx, if_neg hx]
  | .mat c R :: l, b, x => by
    have ih := xmap_del l b x
    simp only [xdel]
    by_cases h2 : b < c ∨ c + R.length < b
    · rw [if_pos h2]
      simp only [xmap, ← ih]
      by_cases hx : x = b
      · subst hx
        rw [if_pos rfl, if_pos rfl, if_neg (by omega)]
      · rw [if_neg hx, if_neg hx]
    · rw [if_neg h2]; rfl
  | .rows fl nr :: l, b, x => rfl
  | .cut c :: l, b, x => rfl
theorem hx_del (l : List Ent) (n b : Nat) : (hx l n).set b none = hx (xdel l b) n :=
  Heap.ext' (fun x => xmap_del l b x) rfl
theorem xdel_blk (k : Nat) (v : Blk) (l : List Ent) (b : Nat) : xdel (.blk k v :: l) b = if k = b then xdel l b else .blk k v :: xdel l b := rfl
theorem xdel_rows (fl : Bool) (nr : List (Nat × List SV)) (l : List Ent) (b : Nat) : xdel (.rows fl nr :: l) b = .cut b :: .rows fl nr :: l := rfl
theorem xdel_nil (b : Nat) : xdel [] b = [] := rfl
theorem xset_blk (k : Nat) (v : Blk) (l : List Ent) (b : Nat) (x : Blk) : xset (.blk k v :: l) b x = if k = b then .blk k x :: l else .blk k v :: xset l b x := rfl
theorem xset_nil (b : Nat) (x : Blk) : xset [] b x = [.blk b x] := rfl

/-! ### Of ints, of bools -/
def mset (M : List (List Int)) (i c : Nat) (x : Int) : List (List Int) := M.set i ((mrow M i).set c x)
def mi (M : List (List Int)) : List (List SV) := M.map ints
theorem mi_length (M : List (List Int)) : (mi M).length = M.length := by simp [mi]
theorem mi_row {M : List (List Int)} {i : Nat} (h : i < M.length) : rowAt (mi M) i = ints (mrow M i) := by simp [rowAt, mi, mrow, h]
theorem mset_length (M : List (List Int)) (i c : Nat) (x : Int) : (mset M i c x).length = M.length := by simp [mset]
theorem mset_row_length (M : List (List Int)) (i c k : Nat) (x : Int) : (mrow (mset M i c x) k).length = (mrow M k).length := by
  simp only [mrow, mset, List.getD_eq_getElem?_getD, List.getElem?_set]
  by_cases h : i = k
  · subst h
    by_cases h2 : i < M.length
    · simp [h2]
    · simp [h2]
  · simp [h]
def bools (L : List Bool) : List SV := L.map fun x => .val (.bool x)
theorem bools_length (L : List Bool) : (bools L).length = L.length := by simp [bools]
theorem bools_get {L : List Bool} {k : Nat} (h : k < L.length) : (bools L)[k]? = some (.val (.bool (L.getD k false))) := by simp [bools, h]
theorem bools_set (L : List Bool) (k : Nat) (x : Bool) : (bools L).set k (.val (.bool x)) = bools (L.set k x) := by simp [bools, List.map_set]
theorem bools_replicate (n : Nat) (x : Bool) : List.replicate n (SV.val (.bool x)) = bools (List.replicate n x) := by simp [bools]
theorem viewL_bools (H : Heap) (f : Nat) : ∀ L : List Bool, viewL H f (bools L) = some (bools L)
  | [] => viewL_nil_of
  | x :: L => viewL_cons_of view_bool (viewL_bools H f L)
theorem bools_vals (L : List Bool) : (bools L).all isVal = true := by simp [bools, isVal]
def brow (M : List (List Bool)) (i : Nat) : List Bool := M.getD i []
def bmat (M : List (List Bool)) (i k : Nat) : Bool := (brow M i).getD k false
def bset (M : List (List Bool)) (i c : Nat) (x : Bool) : List (List Bool) := M.set i ((brow M i).set c x)
def mb (M : List (List Bool)) : List (List SV) := M.map bools
theorem mb_length (M : List (List Bool)) : (mb M).length = M.length := by simp [mb]
theorem mb_row {M : List (List Bool)} {i : Nat} (h : i < M.length) : rowAt (mb M) i = bools (brow M i) := by simp [rowAt, mb, brow, h]
theorem bset_length (M : List (List Bool)) (i c : Nat) (x : Bool) : (bset M i c x).length = M.length := by simp [bset]
theorem bset_row_length (M : List (List Bool)) (i c k : Nat) (x : Bool) : (brow (bset M i c x) k).length = (brow M k).length := by
  simp only [brow, bset, List.getD_eq_getElem?_getD, List.getElem?_set]
  by_cases h : i = k
  · subst h
    by_cases h2 : i < M.length
    · simp [h2]
    · simp [h2]
  · simp [h]
def rowsB (M : List (List Bool)) : List SV := M.map fun r => .row r.length false (bools r)
def rb (M : List (List Bool)) : SV := .row M.length false (rowsB M)
theorem rb_eq (M : List (List Bool)) : rb M = .row M.length false (rowsB M) := rfl
theorem rowsB_length (M : List (List Bool)) : (rowsB M).length = M.length := by simp [rowsB]
theorem rowsB_get {M : List (List Bool)} {k : Nat} (h : k < M.length) : (rowsB M)[k]? = some (.row (brow M k).length false (bools (brow M k))) := by
  simp [rowsB, brow, h]

theorem mset_at (M : List (List Int)) (i c : Nat) (x : Int) {k d : Nat} (hi : i < M.length) (hc : c < (mrow M i).length) : mat (mset M i c x) k d = if k = i ∧ d = c then x else mat M k d := by
  simp only [mat, mrow, mset, List.getD_eq_getElem?_getD, List.getElem?_set]
  by_cases h : i = k
  · subst h
    simp only [hi, if_true, true_and, Option.getD_some, List.getElem?_set]
    by_cases h2 : c = d
    · subst h2
      simp only [mrow, List.getD_eq_getElem?_getD] at hc
      simp [hc]
    · have : ¬ d = c := fun e => h2 e.symm
      simp [h2, this]
  · have : ¬ k = i := fun e => h e.symm
    simp [h, this]
theorem bset_at (M : List (List Bool)) (i c : Nat) (x : Bool) {k d : Nat} (hi : i < M.length) (hc : c < (brow M i).length) : bmat (bset M i c x) k d = if k = i ∧ d = c then x else bmat M k d := by
  simp only [bmat, brow, bset, List.getD_eq_getElem?_getD, List.getElem?_set]
  by_cases h : i = k
  · subst h
    simp only [hi, if_true, true_and, Option.getD_some, List.getElem?_set]
    by_cases h2 : c = d
    · subst h2
      simp only [brow, List.getD_eq_getElem?_getD] at hc
      simp [hc]
    · have : ¬ d = c := fun e => h2 e.symm
      simp [h2, this]
  · have : ¬ k = i := fun e => h e.symm
    simp [h, this]

theorem outerB_length (b : Nat) (R : List (List SV)) : (outerB b R).length = R.length := by simp [outerB]
theorem xmap_mat (b : Nat) (R : List (List SV)) (l : List Ent) : xmap (.mat b R :: l) b = some ⟨outerB b R, false⟩ := by
  simp [xmap, matMap]
theorem xmap_rowI {b i : Nat} {M : List (List Int)} {l : List Ent} (h : i < M.length) : xmap (.mat b (mi M) :: l) (b + 1 + i) = some ⟨ints (mrow M i), false⟩ := by
  rw [xmap, if_pos (by rw [mi_length]; omega), matMap, if_neg (by omega), ← mi_row h]
  congr 3; omega
theorem xmap_rowB {b i : Nat} {M : List (List Bool)} {l : List Ent} (h : i < M.length) : xmap (.mat b (mb M) :: l) (b + 1 + i) = some ⟨bools (brow M i), false⟩ := by
  rw [xmap, if_pos (by rw [mb_length]; omega), matMap, if_neg (by omega), ← mb_row h]
  congr 3; omega
theorem xmap_skipI {b x : Nat} {M : List (List Int)} {l : List Ent} (h : x < b ∨ b + M.length < x) : xmap (.mat b (mi M) :: l) x = xmap l x := by
  rw [xmap, if_neg (by rw [mi_length]; omega)]
theorem xmap_skipB {b x : Nat} {M : List (List Bool)} {l : List Ent} (h : x < b ∨ b + M.length < x) : xmap (.mat b (mb M) :: l) x = xmap l x := by
  rw [xmap, if_neg (by rw [mb_length]; omega)]
theorem outerB_getI {b k : Nat} {M : List (List Int)} (h : k < M.length) : (outerB b (mi M))[k]? = some (.own (b + 1 + k) 0 (mrow M k).length (mrow M k).length 1 false) := by
  simp only [outerB, List.getElem?_map, mi_length]
  rw [List.getElem?_range h]
  simp only [Option.map_some, mi_row h, ints_length]
theorem outerB_getB {b k : Nat} {M : List (List Bool)} (h : k < M.length) : (outerB b (mb M))[k]? = some (.own (b + 1 + k) 0 (brow M k).length (brow M k).length 1 false) := by
  simp only [outerB, List.getElem?_map, mb_length]
  rw [List.getElem?_range h]
  simp only [Option.map_some, mb_row h, bools_length]
theorem xset_rowI {b i c : Nat} {x : Int} {M : List (List Int)} {l : List Ent} (h : i < M.length) : xset (.mat b (mi M) :: l) (b + 1 + i) ⟨ints ((mrow M i).set c x), false⟩ = .mat b (mi (mset M i c x)) :: l := by
  have e : b + 1 + i - b - 1 = i := by omega
  rw [xset, e, if_pos ⟨by omega, by rw [mi_length]; omega, by rw [mi_row h, ints_length, ints_length, List.length_set], rfl⟩]
  simp [mset, mi, List.map_set]
theorem xset_rowB {b i c : Nat} {x : Bool} {M : List (List Bool)} {l : List Ent} (h : i < M.length) : xset (.mat b (mb M) :: l) (b + 1 + i) ⟨bools ((brow M i).set c x), false⟩ = .mat b (mb (bset M i c x)) :: l := by
  have e : b + 1 + i - b - 1 = i := by omega
  rw [xset, e, if_pos ⟨by omega, by rw [mb_length]; omega, by rw [mb_row h, bools_length, bools_length, List.length_set], rfl⟩]
  simp [bset, mb, List.map_set]
theorem xset_skipI {b x : Nat} {M : List (List Int)} {l : List Ent} {k : Blk} (h : x < b ∨ b + M.length < x) : xset (.mat b (mi M) :: l) x k = .mat b (mi M) :: xset l x k := by
  rw [xset, if_neg (by rw [mi_length]; omega), if_pos (by rw [mi_length]; exact h)]
theorem xset_skipB {b x : Nat} {M : List (List Bool)} {l : List Ent} {k : Blk} (h : x < b ∨ b + M.length < x) : xset (.mat b (mb M) :: l) x k = .mat b (mb M) :: xset l x k := by
  rw [xset, if_neg (by rw [mb_length]; omega), if_pos (by rw [mb_length]; exact h)]

/-! ### A round's end -/
def EntIn (H : Heap) : Ent → Prop
  | .blk k v => H.map k = some v
  | .mat b R => ∀ x, b ≤ x → x ≤ b + R.length → H.map x = matMap b R x
  | .rows fl nr => ∀ p ∈ nr, H.map p.1 = some ⟨p.2, fl⟩
  | .cut b => H.map b = none
theorem nrFind_mem : ∀ {nr : List (Nat × List SV)} {x : Nat} {r : List SV}, nrFind nr x = some r → (x, r) ∈ nr
  | [], x, r, h => by simp [nrFind] at h
  | p :: l, x, r, h => by
    rw [nrFind] at h
    split at h
    · rename_i e; subst e
      simp at h; subst h; simp
    · exact List.mem_cons_of_mem _ (nrFind_mem h)
theorem Wk.ofX {s : St} {l : List (Nat × SV)} {lb : List Ent} {n : Nat} (h : ∀ p ∈ l, s.σ p.1 = p.2) (hm : ∀ e ∈ lb, EntIn s.H e) (hn : s.H.nb ≤ n) : Wk s ⟨ofL l, hx lb n⟩ := by
  refine ⟨ofL_wk h, hn, fun b => ?_⟩
  show xmap lb b = none ∨ xmap lb b = s.H.map b
  clear h hn
  induction lb with
  | nil => exact .inl rfl
  | cons q lb ih =>
    have ih := ih (fun e he => hm e (by simp [he]))
    have hq := hm q (by simp)
    cases q with
    | blk k v =>
      rw [xmap]
      split
      · rename_i e; subst e; exact .inr hq.symm
      · exact ih
    | mat c R =>
      rw [xmap]
      split
      · rename_i e; exact .inr (hq b e.1 e.2).symm
      · exact ih
    | rows fl nr =>
      rw [xmap]
      split
      · rename_i r hr
        exact .inr (hq _ (nrFind_mem hr)).symm
      · exact ih
    | cut c =>
      rw [xmap]
      split
      · exact .inl rfl
      · exact ih
theorem EntIn.self {b : Nat} {R : List (List SV)} {l : List Ent} {n : Nat} : EntIn (hx (.mat b R :: l) n) (.mat b R) := by
  intro x h1 h2
  rw [hx_map, xmap, if_pos ⟨h1, h2⟩]
theorem EntIn.skipM {b k n : Nat} {v : Blk} {R : List (List SV)} {l : List Ent} (h : EntIn (hx l n) (.mat b R)) (hk : k < b ∨ b + R.length < k) : EntIn (hx (.blk k v :: l) n) (.mat b R) := by
  intro x h1 h2
  rw [hx_map, xmap, if_neg (by omega)]
  exact h x h1 h2
theorem EntIn.skipMM {b c n : Nat} {R S : List (List SV)} {l : List Ent} (h : EntIn (hx l n) (.mat b R)) (hk : c + S.length < b ∨ b + R.length < c) : EntIn (hx (.mat c S :: l) n) (.mat b R) := by
  intro x h1 h2
  rw [hx_map, xmap, if_neg (by omega)]
  exact h x h1 h2
theorem EntIn.skipR {k n : Nat} {v : Blk} {fl : Bool} {nr : List (Nat × List SV)} {l : List Ent} (h : EntIn (hx l n) (.rows fl nr)) (hk2 : ∀ p ∈ nr, p.1 ≠ k) : EntIn (hx (.blk k v :: l) n) (.rows fl nr) := by
  intro p hp
  rw [hx_map, xmap, if_neg (hk2 p hp)]; exact h p hp
theorem EntIn.skipC {k n : Nat} {fl : Bool} {nr : List (Nat × List SV)} {l : List Ent} (h : EntIn (hx l n) (.rows fl nr)) (hk2 : ∀ p ∈ nr, p.1 ≠ k) : EntIn (hx (.cut k :: l) n) (.rows fl nr) := by
  intro p hp
  rw [hx_map, xmap, if_neg (hk2 p hp)]; exact h p hp
theorem EntIn.snoc {H : Heap} {b : Nat} {r : List SV} {fl : Bool} {nr : List (Nat × List SV)} (h : EntIn H (.rows fl nr)) (h2 : H.map b = some ⟨r, fl⟩) : EntIn H (.rows fl (nr ++ [(b, r)])) := by
  intro p hp
  rcases List.mem_append.1 hp with hp | hp
  · exact h p hp
  · simp at hp; subst hp; exact h2
theorem outerN_snoc (fl : Bool) (nr : List (Nat × List SV)) (b : Nat) (r : List SV) : outerN fl (nr ++ [(b, r)]) = outerN fl nr ++ [.own b 0 r.length r.length 1 fl] := by simp [outerN]
theorem outerN_length (fl : Bool) (nr : List (Nat × List SV)) : (outerN fl nr).length = nr.length := by simp [outerN]
theorem outerN_flat (fl : Bool) (nr : List (Nat × List SV)) : (outerN fl nr).all flat = true := by simp [outerN, flat]
/-- No name twice. -/
def NrOk (b nb : Nat) (nr : List (Nat × List SV)) : Prop := b < nb ∧ (∀ p ∈ nr, p.1 < nb ∧ p.1 ≠ b) ∧ (nr.map (·.1)).Nodup
theorem nrFind_get : ∀ {nr : List (Nat × List SV)} {p : Nat × List SV}, (nr.map (·.1)).Nodup → p ∈ nr → nrFind nr p.1 = some p.2
  | [], p, _, h => by simp at h
  | q :: l, p, hn, h => by
    simp only [List.map_cons, List.nodup_cons] at hn
    rw [nrFind]
    rcases List.mem_cons.1 h with rfl | h
    · rw [if_pos rfl]
    · rw [if_neg (fun e => hn.1 (by rw [← e]; exact List.mem_map_of_mem h))]
      exact nrFind_get hn.2 h
theorem EntIn.selfR {n : Nat} {fl : Bool} {nr : List (Nat × List SV)} {l : List Ent} (h : (nr.map (·.1)).Nodup) : EntIn (hx (.rows fl nr :: l) n) (.rows fl nr) := by
  intro p hp
  rw [hx_map, xmap, nrFind_get h hp]
theorem NrOk.nil {b nb : Nat} (h : b < nb) : NrOk b nb [] := ⟨h, by simp, by simp⟩
theorem NrOk.snoc {b nb b' nb' x : Nat} {r : List SV} {nr : List (Nat × List SV)} (h : NrOk b nb nr) (h1 : nb ≤ x) (h2 : nb ≤ b') (h3 : x ≠ b') (h4 : x < nb') (h5 : b' < nb') : NrOk b' nb' (nr ++ [(x, r)]) := by
  refine ⟨h5, fun p hp => ?_, ?_⟩
  · rcases List.mem_append.1 hp with hp | hp
    · have := (h.2.1 p hp).1; omega
    · simp at hp; subst hp; exact ⟨h4, h3⟩
  · rw [List.map_append, List.nodup_append]
    refine ⟨h.2.2, by simp, ?_⟩
    intro a ha c hc
    obtain ⟨p, hp, rfl⟩ := List.mem_map.1 ha
    simp at hc; subst hc
    have := (h.2.1 p hp).1; omega

/-! ### Results -/
def MatRes (R : List (List SV)) (r : SV) (H : Heap) : Prop :=
  ∃ (b off cap : Nat) (ex : Bool) (blk : Blk), r = .own b off R.length cap 1 ex ∧ H.map b = some blk ∧ off + R.length ≤ blk.cells.length ∧ (∀ row ∈ R, row.all isVal = true) ∧
    ∃ nm oi : Nat → Nat, (∀ i i', i < R.length → i' < R.length → nm i = nm i' → i = i') ∧ (∀ i, i < R.length → nm i ≠ b) ∧
      ∀ i, i < R.length → ∃ capi exi blki, blk.cells[off + i]? = some (.own (nm i) (oi i) (rowAt R i).length capi 1 exi) ∧ H.map (nm i) = some blki ∧ (blki.cells.drop (oi i)).take (rowAt R i).length = rowAt R i ∧ oi i + (rowAt R i).length ≤ blki.cells.length
def MatOne (R : List (List SV)) (r : SV) (H : Heap) : Prop := r = .own 0 0 R.length R.length 1 false ∧ H = hx [.mat 0 R] (R.length + 1)

theorem outerB_get {b k : Nat} {R : List (List SV)} (h : k < R.length) : (outerB b R)[k]? = some (.own (b + 1 + k) 0 (rowAt R k).length (rowAt R k).length 1 false) := by
  simp only [outerB, List.getElem?_map]
  rw [List.getElem?_range h]
  rfl
theorem rowAt_mem {R : List (List SV)} {i : Nat} (h : i < R.length) : rowAt R i ∈ R := by rw [rowAt_length h]; exact List.getElem_mem h
theorem own_zero {O : Nat → Prop} {w : World} {j : JMap} {v : Value} {b off n cap sz : Nat} {ex : Bool} {rb base : Nat} (h : VRel O w j (.own b off n cap sz ex) v) (hj : j b = some (rb, base)) {j' : JMap} {b' : Nat} {O' : Nat → Prop} (hj' : j' b' = some (rb, base + off)) :
    VRel O' w j' (.own b' 0 n n sz false) v := by
  simp only [VRel] at h ⊢
  obtain ⟨rb', base', a, cap', c, e, fr, g1, g2, g3, g4, g5, g6, g7, g8⟩ := h
  rw [hj] at g1
  obtain ⟨rfl, rfl⟩ := (by simpa using g1 : rb = rb' ∧ base = base')
  exact ⟨rb, base + off, a, cap', c, e, fr, hj', g2, Nat.le_refl _, by omega, by simp, by simpa using g6, g7, by simpa using g8⟩

theorem mat_rel {R : List (List SV)} {j : JMap} {H : Heap} {w : World} {r : SV} {v : Value} (h : MatRes R r H) (hr : Rel j H w) (hv : VRel (OwnR j H) w j r v) :
    ∃ j', Rel j' (hx [.mat 0 R] (R.length + 1)) w ∧ VRel (OwnR j' (hx [.mat 0 R] (R.length + 1))) w j' (.own 0 0 R.length R.length 1 false) v ∧ ∀ k, OwnR j' (hx [.mat 0 R] (R.length + 1)) k → OwnR j H k := by
  obtain ⟨b, off, cap, ex, blk, rfl, hb, hlen, hval, nm, oi, hinj, hne, hrow⟩ := h
  obtain ⟨rb, base, k1, hat⟩ := hr.live b blk hb
  let j' : JMap := fun x => if x = 0 then some (rb, base + off) else if x ≤ R.length then (j (nm (x - 1))).map (fun p => (p.1, p.2 + oi (x - 1))) else none
  have j0 : j' 0 = some (rb, base + off) := rfl
  have jr : ∀ i, i < R.length → ∃ rbi basei, j (nm i) = some (rbi, basei) ∧ j' (0 + 1 + i) = some (rbi, basei + oi i) := by
    intro i hi
    obtain ⟨capi, exi, blki, q1, q2, q3, q4⟩ := hrow i hi
    obtain ⟨rbi, basei, p1, _⟩ := hr.live _ blki q2
    refine ⟨rbi, basei, p1, ?_⟩
    show (if 0 + 1 + i = 0 then _ else if 0 + 1 + i ≤ R.length then (j (nm (0 + 1 + i - 1))).map _ else none) = _
    have e : 0 + 1 + i - 1 = i := by omega
    rw [if_neg (by omega), if_pos (by omega), e, p1]
    rfl
  have hm0 : (hx [.mat 0 R] (R.length + 1)).map 0 = some ⟨outerB 0 R, false⟩ := by rw [hx_map, xmap_mat]
  have hmr : ∀ i, i < R.length → (hx [.mat 0 R] (R.length + 1)).map (0 + 1 + i) = some ⟨rowAt R i, false⟩ := by
    intro i hi
    rw [hx_map, xmap, if_pos (by omega), matMap, if_neg (by omega)]
    congr 3; omega
  have hms : ∀ x bl, (hx [.mat 0 R] (R.length + 1)).map x = some bl → (x = 0 ∧ bl = ⟨outerB 0 R, false⟩) ∨ ∃ i, i < R.length ∧ x = 0 + 1 + i ∧ bl = ⟨rowAt R i, false⟩ := by
    intro x bl hx
    rw [hx_map, xmap] at hx
    split at hx
    · rename_i hr
      rw [matMap] at hx
      split at hx
      · rename_i h0
        simp at hx
        exact .inl ⟨h0, hx.symm⟩
      · rename_i h0
        simp at hx
        exact .inr ⟨x - 1, by omega, by omega, hx.symm⟩
    · simp [xmap] at hx
  have hback : ∀ k, OwnR j' (hx [.mat 0 R] (R.length + 1)) k → OwnR j H k := by
    rintro k ⟨x, bl, bs, h1, h2⟩
    rcases hms x bl h1 with ⟨rfl, rfl⟩ | ⟨i, hi, rfl, rfl⟩
    · rw [j0] at h2
      simp at h2
      obtain ⟨rfl, _⟩ := h2
      exact ⟨b, blk, base, hb, k1⟩
    · obtain ⟨rbi, basei, p1, p2⟩ := jr i hi
      rw [p2] at h2
      simp at h2
      obtain ⟨rfl, _⟩ := h2
      obtain ⟨capi, exi, blki, q1, q2, q3, q4⟩ := hrow i hi
      exact ⟨nm i, blki, basei, q2, p1⟩
  refine ⟨j', ⟨hr.tab.tr (Tr.weaken w hback), ?_, ?_, ?_⟩, own_zero hv k1 j0, hback⟩
  · intro x p hp
    show x < R.length + 1
    by_cases h0 : x = 0
    · omega
    · have : (if x = 0 then some (rb, base + off) else if x ≤ R.length then (j (nm (x - 1))).map (fun p => (p.1, p.2 + oi (x - 1))) else none) = some p := hp
      rw [if_neg h0] at this
      split at this
      · omega
      · simp at this
  · intro x bl hx
    obtain ⟨c, e, lo, hi', q2, q3, q4, q5, q6⟩ := hat
    rcases hms x bl hx with ⟨rfl, rfl⟩ | ⟨i, hi, rfl, rfl⟩
    · refine ⟨rb, base + off, j0, c, e, lo, hi', q2, q3, ?_, by simp, ?_⟩
      · show base + off + (outerB 0 R).length ≤ c.size
        rw [outerB_length]; omega
      · intro i s hs
        have hs' : (outerB 0 R)[i]? = some s := hs
        have hi : i < R.length := by
          have := (List.getElem?_eq_some_iff.1 hs').1
          rwa [outerB_length] at this
        rw [outerB_get hi] at hs'
        simp at hs'
        subst hs'
        obtain ⟨capi, exi, blki, p1, p2, p3, p4⟩ := hrow i hi
        obtain ⟨u, g1, g2⟩ := q6 (off + i) _ p1
        obtain ⟨rbi, basei, t1, t2⟩ := jr i hi
        exact ⟨u, by simpa [Nat.add_assoc] using g1, by simpa only [Nat.zero_add] using own_zero g2 t1 t2⟩
    · obtain ⟨capi, exi, blki, p1, p2, p3, p4⟩ := hrow i hi
      obtain ⟨rbi, basei, t1, t2⟩ := jr i hi
      obtain ⟨rbi', basei', s1, c', e', lo', hi2, s2, s3, s4, s5, s6⟩ := hr.live _ blki p2
      rw [t1] at s1
      obtain ⟨rfl, rfl⟩ := (by simpa using s1 : rbi = rbi' ∧ basei = basei')
      refine ⟨rbi, basei + oi i, t2, c', e', lo', hi2, s2, s3, ?_, by simp, ?_⟩
      · show basei + oi i + (rowAt R i).length ≤ c'.size
        omega
      · intro k s hs
        have hs' : (rowAt R i)[k]? = some s := hs
        have hk : k < (rowAt R i).length := (List.getElem?_eq_some_iff.1 hs').1
        rw [← p3, List.getElem?_take, if_pos hk, List.getElem?_drop] at hs'
        obtain ⟨u, g1, g2⟩ := s6 (oi i + k) s hs'
        refine ⟨u, by simpa [Nat.add_assoc] using g1, ?_⟩
        have hsv : isVal s = true := (List.all_eq_true.1 (hval _ (rowAt_mem hi))) s (List.mem_of_getElem? hs)
        obtain ⟨z, rfl⟩ := isVal_of hsv
        simpa only [VRel] using g2
  · intro x x' bl bl' rb1 ba ba' h1 h2 h3 h4
    rcases hms x bl h1 with ⟨rfl, rfl⟩ | ⟨i, hi, rfl, rfl⟩ <;> rcases hms x' bl' h2 with ⟨rfl, rfl⟩ | ⟨i', hi', rfl, rfl⟩
    · rfl
    · obtain ⟨rbi, basei, t1, t2⟩ := jr i' hi'
      obtain ⟨capi, exi, blki, p1, p2, p3, p4⟩ := hrow i' hi'
      rw [j0] at h3
      rw [t2] at h4
      simp at h3 h4
      obtain ⟨rfl, _⟩ := h3
      obtain ⟨rfl, _⟩ := h4
      exact absurd (hr.inj _ _ _ _ _ _ _ p2 hb t1 k1) (hne i' hi')
    · obtain ⟨rbi, basei, t1, t2⟩ := jr i hi
      obtain ⟨capi, exi, blki, p1, p2, p3, p4⟩ := hrow i hi
      rw [j0] at h4
      rw [t2] at h3
      simp at h3 h4
      obtain ⟨rfl, _⟩ := h3
      obtain ⟨rfl, _⟩ := h4
      exact absurd (hr.inj _ _ _ _ _ _ _ p2 hb t1 k1) (hne i hi)
    · obtain ⟨rbi, basei, t1, t2⟩ := jr i hi
      obtain ⟨capi, exi, blki, p1, p2, p3, p4⟩ := hrow i hi
      obtain ⟨rbi', basei', t1', t2'⟩ := jr i' hi'
      obtain ⟨capi', exi', blki', p1', p2', p3', p4'⟩ := hrow i' hi'
      rw [t2] at h3
      rw [t2'] at h4
      simp at h3 h4
      obtain ⟨rfl, _⟩ := h3
      obtain ⟨rfl, _⟩ := h4
      rw [hinj i i' hi hi' (hr.inj _ _ _ _ _ _ _ p2 p2' t1 t1')]

theorem outerB_nr (b : Nat) (R : List (List SV)) : noRowL (outerB b R) = true := by
  unfold outerB
  generalize List.range R.length = l
  induction l with
  | nil => rfl
  | cons a l ih => simp only [List.map_cons, noRowL, ih, Bool.and_true, noRow]
theorem mat_nr {b n : Nat} {R : List (List SV)} (h : ∀ row ∈ R, row.all isVal = true) : nrHeap (hx [.mat b R] n) := by
  intro x blk hb
  rw [hx_map, xmap] at hb
  split at hb
  · rename_i hr
    rw [matMap] at hb
    split at hb
    · simp at hb; subst hb; exact outerB_nr b R
    · rename_i h0
      simp at hb; subst hb
      exact isVal_noRow (h _ (rowAt_mem (by omega)))
  · simp [xmap] at hb
theorem MatRes.vals {R : List (List SV)} {r : SV} {H : Heap} (h : MatRes R r H) : ∀ row ∈ R, row.all isVal = true := by
  obtain ⟨b, off, cap, ex, blk, _, _, _, h5, _⟩ := h
  exact h5
variable {P : Program}
theorem FCall.mat {f : FuncId} {args : List SV} {R : List (List SV)} (h : FCall P f args (MatRes R)) : FCall P f args (MatOne R) := by
  refine ⟨h.1, fun w vs hl ht => (h.2 w vs hl ht).mono ?_⟩
  rintro e w' ⟨v, r, j, H, h1, h2, h3, h4, h5, h6, h7, h8⟩
  obtain ⟨j', r', v', o'⟩ := mat_rel h8 h3 h4
  exact ⟨v, _, j', _, h1, h2, r', v', fun k hk => h5 k (o' k hk), rfl, mat_nr h8.vals, rfl, rfl⟩
theorem merge_mat {j : JMap} {H : Heap} {w : World} (r : Rel j H w) {R : List (List SV)} (h : ∀ row ∈ R, row.all isVal = true) : H.merge (hx [.mat 0 R] (R.length + 1)) = H.pushM R := by
  refine Heap.ext' (fun x => ?_) (by simp only [Heap.merge, Heap.pushM, hx]; omega)
  simp only [Heap.merge, Heap.pushM, hx_map, xmap]
  by_cases h1 : x < H.nb
  · rw [if_pos h1, if_neg (by omega)]
  · rw [if_neg h1]
    by_cases h2 : x ≤ H.nb + R.length
    · rw [if_pos (by omega), if_pos (by omega), matMap, matMap]
      by_cases h3 : x = H.nb
      · subst h3
        rw [if_pos (by omega), if_pos rfl]
        simp only [Option.map_some]
        congr 2
        unfold outerB
        generalize List.range R.length = l
        induction l with
        | nil => rfl
        | cons a l ih =>
          simp only [List.map_cons, shiftL, ih, shift]
          congr 2; omega
      · rw [if_neg (by omega), if_neg h3]
        simp only [Option.map_some]
        have e : x - H.nb - 0 - 1 = x - H.nb - 1 := by omega
        rw [e, isVal_shift (h _ (rowAt_mem (by omega)))]
    · rw [if_neg (by omega), if_neg (by omega), r.fresh (by omega)]
      rfl
/-- A call that gives back a matrix in memory of its own. -/
theorem FCall.callMat {f : FuncId} {args args' : List SV} {R : List (List SV)} {H : Heap} {K : SV → Heap → Prop} (h : FCall P f args' (MatOne R)) (hc : ∀ row ∈ R, row.all isVal = true) (fu : Nat) (hv : viewL H fu args = some args')
    (k : K (.own H.nb 0 R.length R.length 1 false) (H.pushM R)) : @CallX P f args H ⟨K⟩ := by
  refine ⟨h.1, fun j w vs r hl => ((h.callS fu hv).2 j w vs r hl).mono ?_⟩
  rintro e w' ⟨r1, v, j', H', h1, h2, h3, h4, r0, H0, ⟨rfl, rfl⟩, rfl, rfl⟩
  refine ⟨_, v, j', _, h1, h2, h3, h4, ?_⟩
  rw [merge_mat r hc]
  simpa only [shift, Nat.zero_add] using k
theorem mi_vals (M : List (List Int)) : ∀ row ∈ mi M, row.all isVal = true := by
  intro row h
  obtain ⟨l, _, rfl⟩ := List.mem_map.1 h
  exact ints_vals l
theorem mb_vals (M : List (List Bool)) : ∀ row ∈ mb M, row.all isVal = true := by
  intro row h
  obtain ⟨l, _, rfl⟩ := List.mem_map.1 h
  exact bools_vals l

/-! ### Seen as contents -/
theorem view_mat {H : Heap} {b n f cap : Nat} {ex : Bool} {R : List (List SV)} (h : EntIn H (.mat b R)) (hn : n = R.length) (hv : ∀ i, i < R.length → viewL H f (rowAt R i) = some (rowAt R i)) :
    view H (f + 2) (.own b 0 n cap 1 ex) = some (.row n false (R.map fun r => .row r.length false r)) := by
  subst hn
  have h0 : H.map b = some ⟨outerB b R, false⟩ := by rw [h b (by omega) (by omega), matMap, if_pos rfl]
  simp only [view, h0, Nat.mul_one, List.drop_zero, outerB_length, Nat.zero_add, Nat.le_refl, if_true]
  have e : (outerB b R).take R.length = outerB b R := List.take_of_length_le (by rw [outerB_length]; exact Nat.le_refl _)
  rw [e, outerB, viewL_fn (h := fun i => .row (rowAt R i).length false (rowAt R i)) _ (fun i hi => ?_)]
  · have : (List.range R.length).map (fun i => SV.row (rowAt R i).length false (rowAt R i)) = R.map fun r => .row r.length false r := by
      apply List.ext_getElem?
      intro i
      simp only [List.getElem?_map]
      by_cases hi : i < R.length
      · rw [List.getElem?_range hi, List.getElem?_eq_getElem hi, ← rowAt_length hi]; rfl
      · have : (List.range R.length)[i]? = none := by simp; omega
        rw [this, List.getElem?_eq_none (by omega : R.length ≤ i)]; rfl
    rw [this]
  · have hi' : i < R.length := by simpa using hi
    have hm : H.map (b + 1 + i) = some ⟨rowAt R i, false⟩ := by
      rw [h (b + 1 + i) (by omega) (by omega), matMap, if_neg (by omega)]
      congr 3; omega
    simp only [view, hm, Nat.mul_one, List.drop_zero, Nat.zero_add, Nat.le_refl, if_true, List.take_length, hv i hi']
theorem view_mi {H : Heap} {b n f cap : Nat} {ex : Bool} {M : List (List Int)} (h : EntIn H (.mat b (mi M))) (hn : n = M.length) : view H (f + 2) (.own b 0 n cap 1 ex) = some (rr M) := by
  rw [view_mat h (by rw [hn, mi_length]) (fun i hi => by rw [mi_row (by rwa [mi_length] at hi)]; exact viewL_ints _ _ _)]
  subst hn
  simp only [rr, rows, mi, List.map_map]
  congr 2
  exact List.map_congr_left (fun r _ => by simp [ri, ints_length])
theorem view_mb {H : Heap} {b n f cap : Nat} {ex : Bool} {M : List (List Bool)} (h : EntIn H (.mat b (mb M))) (hn : n = M.length) : view H (f + 2) (.own b 0 n cap 1 ex) = some (rb M) := by
  rw [view_mat h (by rw [hn, mb_length]) (fun i hi => by rw [mb_row (by rwa [mb_length] at hi)]; exact viewL_bools _ _ _)]
  subst hn
  simp only [rb, rowsB, mb, List.map_map]
  congr 2
  exact List.map_congr_left (fun r _ => by simp [bools_length])
theorem MatOne.viewI {M : List (List Int)} {r : SV} {H : Heap} (h : MatOne (mi M) r H) : view H 2 r = some (rr M) := by
  obtain ⟨rfl, rfl⟩ := h
  exact view_mi EntIn.self (mi_length M)
theorem MatOne.viewB {M : List (List Bool)} {r : SV} {H : Heap} (h : MatOne (mb M) r H) : view H 2 r = some (rb M) := by
  obtain ⟨rfl, rfl⟩ := h
  exact view_mb EntIn.self (mb_length M)
theorem rows_res {b nb : Nat} {fl : Bool} {nr : List (Nat × List SV)} {H : Heap} (h : NrOk b nb nr) (hv : ∀ p ∈ nr, p.2.all isVal = true) (h1 : H.map b = some ⟨outerN fl nr, false⟩) (h2 : EntIn H (.rows fl nr)) : MatRes (nr.map (·.2)) (.own b 0 nr.length nr.length 1 false) H := by
  have hl : (nr.map (·.2)).length = nr.length := by simp
  refine ⟨b, 0, nr.length, false, _, by rw [hl], h1, by rw [hl, outerN_length]; omega, ?_, fun i => (nr.getD i (0, [])).1, fun _ => 0, ?_, ?_, ?_⟩
  · intro row hr
    obtain ⟨p, hp, rfl⟩ := List.mem_map.1 hr
    exact hv p hp
  · intro i i' hi hi' he
    rw [hl] at hi hi'
    have hn := h.2.2
    have hi2 : i < (nr.map (·.1)).length := by simpa using hi
    have hi2' : i' < (nr.map (·.1)).length := by simpa using hi'
    have e1 : (nr.getD i (0, [])).1 = (nr.map (·.1))[i] := by simp [hi]
    have e2 : (nr.getD i' (0, [])).1 = (nr.map (·.1))[i'] := by simp [hi']
    simp only [] at he
    rw [e1, e2] at he
    have hpw := List.pairwise_iff_getElem.1 hn
    rcases Nat.lt_trichotomy i i' with g | g | g
    · exact absurd he (hpw i i' hi2 hi2' g)
    · exact g
    · exact absurd he.symm (hpw i' i hi2' hi2 g)
  · intro i hi
    rw [hl] at hi
    have : nr.getD i (0, []) ∈ nr := by simp [hi]
    exact (h.2.1 _ this).2
  · intro i hi
    rw [hl] at hi
    have hm : nr.getD i (0, []) ∈ nr := by simp [hi]
    have hr : rowAt (nr.map (·.2)) i = (nr.getD i (0, [])).2 := by simp [rowAt, hi]
    refine ⟨(rowAt (nr.map (·.2)) i).length, fl, ⟨(nr.getD i (0, [])).2, fl⟩, ?_, h2 _ hm, ?_, ?_⟩
    · rw [hr]; simp [outerN, hi]
    · rw [hr]; simp
    · rw [hr]; simp
/-- At a body's end: rows under names of any kind. -/
theorem fin_rows {b nb : Nat} {fl : Bool} {nr : List (Nat × List SV)} {H : Heap} {R : List (List SV)} (h : NrOk b nb nr) (hv : ∀ p ∈ nr, p.2.all isVal = true) (h1 : H.map b = some ⟨outerN fl nr, false⟩) (h2 : EntIn H (.rows fl nr)) (hR : R = nr.map (·.2)) :
    Fin (MatRes R) (.own b 0 nr.length nr.length 1 false) H := by
  subst hR
  have hne : ∀ p ∈ nr, p.1 ≠ b := fun p hp => (h.2.1 p hp).2
  refine ⟨hx [.blk b ⟨outerN fl nr, false⟩, .rows fl nr] H.nb, ⟨rfl, fun x => ?_⟩, rfl, ?_, rows_res h hv (by rw [hx_map, xmap, if_pos rfl]) ((EntIn.selfR h.2.2).skipR hne)⟩
  · rw [hx_map, xmap]
    by_cases hx : x = b
    · subst hx; rw [if_pos rfl]; exact .inr h1.symm
    · rw [if_neg hx, xmap]
      split
      · rename_i r hr
        exact .inr (h2 _ (nrFind_mem hr)).symm
      · exact .inl rfl
  · intro x blk hb
    rw [hx_map, xmap] at hb
    split at hb
    · simp at hb; subst hb
      show noRowL (outerN fl nr) = true
      unfold outerN
      clear h hv h1 h2 hne
      induction nr with
      | nil => rfl
      | cons a l ih => simp only [List.map_cons, noRowL, ih, Bool.and_true, noRow]
    · rw [xmap] at hb
      split at hb
      · rename_i r hr
        simp at hb; subst hb
        exact isVal_noRow (hv _ (nrFind_mem hr))
      · simp [xmap] at hb
attribute [go_sem] hx_del xdel_blk xdel_rows xdel_nil hx_nb hx_map hx_push hx_set hx_pushM hp_pushM toE_nil toE_cons xmap_blk xmap_nil xmap_mat xset_blk xset_nil mi_length mb_length outerB_length bools_length
end Go.Sh

/-
  Contracts: matrices copied into memory of their own, marked, read back.
-/
namespace Go.Sh
set_option linter.unusedSimpArgs false
set_option linter.unusedVariables false
open Go Go.Proofs
variable {P : Program}

theorem HS_res (M : List (List Int)) : MatRes (mi M) (.own 0 0 M.length M.length 1 true) (HS M M.length) := by
  have hl := mi_length M
  refine ⟨0, 0, M.length, true, _, by rw [hl], HS_map M _, by rw [hl, outer_length]; omega, mi_vals _, fun i => i + 1, fun _ => 0, fun i i' _ _ h => by simpa using h, fun i _ => by simp, fun i hi => ?_⟩
  rw [hl] at hi
  have hr : rowAt (mi M) i = ints (mrow M i) := mi_row hi
  refine ⟨(mrow M i).length, false, ⟨ints (mrow M i), false⟩, ?_, ?_, ?_, ?_⟩
  · rw [hr, Nat.zero_add, ints_length]
    simp only [outer, List.getElem?_map]
    rw [List.getElem?_range hi]
    simp only [Option.map_some]
    rw [if_pos hi]
  · simp only [HS]
    rw [if_neg (by omega), if_pos (by omega)]
    simp
  · rw [hr, List.drop_zero, List.take_length]
  · rw [hr]; simp
theorem Tryd.toIntSS_one (M : List (List Int)) (hM : M.length ≤ 1048576) (hR : ∀ i, i < M.length → (mrow M i).length ≤ 1048576) : FCall Tryd.prog 21 [rr M] (MatOne (mi M)) :=
  ((Tryd.toIntSS_f M hM hR).mono fun r H ⟨h1, h2⟩ => by subst h1; subst h2; exact HS_res M).mat

theorem CallS.sub {f : FuncId} {args : List SV} {H : Heap} {Q Q' : SV → Heap → Prop} (h : CallS P f args H Q) (hq : ∀ r H', Q r H' → ∃ H2, Sub H2 H' ∧ Q' r H2) : CallS P f args H Q' := by
  refine ⟨h.1, fun j w vs r hl => (h.2 j w vs r hl).mono ?_⟩
  rintro e w' ⟨r, v, j', H', h1, h2, h3, h4, h5⟩
  obtain ⟨H2, hs, hq2⟩ := hq r H' h5
  have hsub : ∀ k, OwnR j' H2 k → OwnR j' H' k := by
    rintro k ⟨b, blk, base, g1, g2⟩
    refine ⟨b, blk, base, ?_, g2⟩
    rcases hs.map b with e | e
    · rw [e] at g1; simp at g1
    · rw [← e]; exact g1
  refine ⟨r, v, j', H2, h1, h2.sub hs, VRel.tr (Tr.weaken w' hsub) (fun _ _ h => h) r v h3, ?_, hq2⟩
  exact ⟨h4.os, h4.tape, h4.output, h4.size, h4.keep, h4.sizes, h4.jle, by rw [hs.nb]; exact h4.nble, fun k o => h4.own k (hsub k o)⟩

def Heap.cutR (H : Heap) (a c : Nat) : Heap := ⟨fun x => if a ≤ x ∧ x ≤ c then none else H.map x, H.nb⟩
def consE (e : Ent) (H : Heap) : Heap := match e with
  | .blk k v => ⟨fun x => if x = k then some v else H.map x, H.nb⟩
  | .mat b R => ⟨fun x => if b ≤ x ∧ x ≤ b + R.length then matMap b R x else H.map x, H.nb⟩
  | .rows fl nr => ⟨fun x => match nrFind nr x with | some r => some ⟨r, fl⟩ | none => H.map x, H.nb⟩
  | .cut b => ⟨fun x => if x = b then none else H.map x, H.nb⟩
theorem consE_hx (e : Ent) (l : List Ent) (n : Nat) : consE e (hx l n) = hx (e :: l) n := by cases e <;> rfl
theorem cutR_nil (n a c : Nat) : (hx [] n).cutR a c = hx [] n := by
  refine Heap.ext' (fun x => ?_) rfl
  simp only [Heap.cutR, hx, xmap]
  split <;> rfl
theorem cutR_blk {k n a c : Nat} {v : Blk} {l : List Ent} (h : k < a ∨ c < k) : (hx (.blk k v :: l) n).cutR a c = consE (.blk k v) ((hx l n).cutR a c) := by
  refine Heap.ext' (fun x => ?_) rfl
  simp only [Heap.cutR, hx, xmap, consE]
  by_cases h1 : x = k
  · subst h1
    rw [if_neg (by omega), if_pos rfl, if_pos rfl]
  · rw [if_neg h1, if_neg h1]
theorem cutR_same {b n c : Nat} {M : List (List Int)} {l : List Ent} (h : c = b + M.length) : (hx (.mat b (mi M) :: l) n).cutR b c = (hx l n).cutR b c := by
  subst h
  refine Heap.ext' (fun x => ?_) rfl
  simp only [Heap.cutR, hx, xmap, mi_length]
  by_cases h1 : b ≤ x ∧ x ≤ b + M.length
  · rw [if_pos h1, if_pos h1]
  · rw [if_neg h1, if_neg h1, if_neg h1]
theorem cutR_other {b n a c : Nat} {M : List (List Int)} {l : List Ent} (h : c < b ∨ b + M.length < a) : (hx (.mat b (mi M) :: l) n).cutR a c = consE (.mat b (mi M)) ((hx l n).cutR a c) := by
  refine Heap.ext' (fun x => ?_) rfl
  simp only [Heap.cutR, hx, xmap, consE, mi_length]
  by_cases h1 : b ≤ x ∧ x ≤ b + M.length
  · rw [if_neg (by omega), if_pos h1, if_pos h1]
  · rw [if_neg h1, if_neg h1]
theorem cutR_map {H : Heap} {a c x : Nat} (h : x < a ∨ c < x) : (H.cutR a c).map x = H.map x := by
  simp only [Heap.cutR]; rw [if_neg (by omega)]

set_option maxHeartbeats 1000000 in
/-- A matrix marked; what it holds then is not told. -/
theorem Tryd.markIntSS_ok (M : List (List Int)) (k : Int) (H : Heap) (b n : Nat) (hb : EntIn H (.mat b (mi M))) (hn : n = M.length) (hM : M.length ≤ 1048576) (hR : ∀ i, i < M.length → (mrow M i).length ≤ 1048576) (hk : 0 ≤ k) (hk2 : k + msum M M.length ≤ 1099511627776) :
    CallS Tryd.prog 48 [.own b 0 n n 1 false, .val (.int .i64 k)] H (fun r H' => r = .val (.int .i64 (k + msum M M.length)) ∧ H' = H.cutR b (b + M.length)) := by
  subst hn
  have hb' := hb
  simp only [EntIn, mi_length] at hb'
  have h0 : H.map b = some ⟨outerB b (mi M), false⟩ := by rw [hb' b (by omega) (by omega), matMap, if_pos rfl]
  have hrow : ∀ i, i < M.length → H.map (b + 1 + i) = some ⟨ints (mrow M i), false⟩ := fun i hi => by
    rw [hb' (b + 1 + i) (by omega) (by omega), matMap, if_neg (by omega), ← mi_row hi]
    congr 3; omega
  refine CallS.sub (Q := fun r H' => r = .val (.int .i64 (k + msum M M.length)) ∧ H' = H.cutR (b + 1) (b + M.length)) ?_ (fun r H' ⟨e1, e2⟩ => ⟨_, ⟨?_, fun x => ?_⟩, e1, rfl⟩)
  · refine CallS.of_body Tryd.func48 rfl (by kernel_rfl) (by simp [Tryd.ntmps48]) ?_
    refine SW_of_vc Tryd.mixed _ _ _ (by kernel_rfl) ?_
    simp (disch := omega) only [Tryd.ntmps48, Tryd.results48, go_sem]
    refine LoopW.loop (fun i : Nat => ⟨ofL [(0, .own b 0 M.length M.length 1 false), (1, .val (.int .i64 (k + msum M i))), (5, .val (.int .i64 i))], H.cutR (b + 1) (b + i)⟩) (fun i => i ≤ M.length) (fun i => M.length - i) 0 (by omega) (Wk.of (by simp only [go_sem, ↓List.forall_mem_cons, List.not_mem_nil, false_implies, implies_true, and_true, true_and, and_self, ri_eq, Int.natCast_add, Int.cast_ofNat_Int, msum, List.take_zero, List.sum_nil, Int.add_zero]; try simp) (Heap.ext' (fun x => by simp only [Heap.cutR]; rw [if_neg (by omega)]) rfl)) ?_
    intro i hi
    refine SW_of_vc Tryd.mixed _ _ _ (by kernel_rfl) ?_
    have hm0 : (H.cutR (b + 1) (b + i)).map b = some ⟨outerB b (mi M), false⟩ := by rw [cutR_map (by omega), h0]
    have hmn := msum_nonneg M i
    by_cases hlt : i < M.length
    · have hm1 : (H.cutR (b + 1) (b + i)).map (b + 1 + i) = some ⟨ints (mrow M i), false⟩ := by rw [cutR_map (by omega), hrow i hlt]
      have hmono := msum_mono (M := M) (k := i) (j := M.length) (by omega) (by omega)
      have hs := msum_succ hlt
      simp (disch := omega) only [Tryd.ntmps48, Tryd.results48, go_sem, hm0, outerB_getI]
      refine (Tryd.markIntS_ok (mrow M i) (k + msum M i) _ (b + 1 + i) _ _ false false hm1 rfl (by have := hR i hlt; omega) (by omega) (by omega)).callDet ?_
      simp (disch := omega) only [Tryd.ntmps48, Tryd.results48, go_sem]
      refine ⟨i + 1, hlt, by omega, ⟨ofL_wk (by simp only [go_sem, ↓List.forall_mem_cons, List.not_mem_nil, false_implies, implies_true, and_true, true_and, and_self, ri_eq, Int.natCast_add, Int.cast_ofNat_Int, hs, Int.add_assoc]; try simp), Nat.le_refl _, fun x => ?_⟩⟩
      simp only [Heap.cutR, Heap.set]
      by_cases h1 : b + 1 ≤ x ∧ x ≤ b + (i + 1)
      · exact .inl (by rw [if_pos h1])
      · right
        rw [if_neg h1, if_neg (by omega), if_neg (by omega)]
    · obtain rfl : i = M.length := by omega
      simp (disch := omega) only [Tryd.ntmps48, Tryd.results48, go_sem]
  · rw [e2]; rfl
  · subst e2
    simp only [Heap.cutR]
    by_cases h1 : b ≤ x ∧ x ≤ b + M.length
    · exact .inl (by rw [if_pos h1])
    · right
      rw [if_neg h1, if_neg (by omega)]
theorem fin_mat {b n cap : Nat} {ex : Bool} {R : List (List SV)} {H : Heap} (h : EntIn H (.mat b R)) (hv : ∀ row ∈ R, row.all isVal = true) (hn : n = R.length) : Fin (MatRes R) (.own b 0 n cap 1 ex) H := by
  subst hn
  refine ⟨hx [.mat b R] H.nb, ⟨rfl, fun x => ?_⟩, rfl, mat_nr hv, b, 0, cap, ex, _, rfl, by rw [hx_map, xmap_mat], by rw [outerB_length]; omega, hv, fun i => b + 1 + i, fun _ => 0, fun i i' _ _ e => by have e : b + 1 + i = b + 1 + i' := e; omega, fun i _ => by show b + 1 + i ≠ b; omega, fun i hi => ?_⟩
  · rw [hx_map, xmap]
    by_cases hr : b ≤ x ∧ x ≤ b + R.length
    · rw [if_pos hr]; exact .inr (h x hr.1 hr.2).symm
    · rw [if_neg hr]; exact .inl rfl
  · refine ⟨(rowAt R i).length, false, ⟨rowAt R i, false⟩, ?_, ?_, ?_, ?_⟩
    · rw [Nat.zero_add, outerB_get hi]
    · show (hx [.mat b R] H.nb).map (b + 1 + i) = _
      rw [hx_map, xmap, if_pos (by omega), matMap, if_neg (by omega)]
      congr 3; omega
    · simp
    · simp
attribute [go_sem] consE_hx cutR_nil
end Go.Sh

/-
  Contracts: labels by first occurrence. Of the reference.
-/
namespace Go.Sh
set_option linter.unusedSimpArgs false
set_option linter.unusedVariables false
open Go Go.Proofs

theorem cstep_nodup {s : List Int × List Int} {x : Int} (h : s.1.Nodup) : (cstep s x).1.Nodup := by
  unfold cstep
  split
  · exact h
  · rename_i hx
    show (s.1 ++ [x]).Nodup
    rw [List.nodup_append]
    refine ⟨h, by simp, ?_⟩
    intro a ha b hb
    simp at hb
    subst hb
    exact fun e => hx (e ▸ ha)
theorem cst_nodup : ∀ (L : List Int) (s : List Int × List Int), s.1.Nodup → (L.foldl cstep s).1.Nodup
  | [], s, h => h
  | x :: L, s, h => cst_nodup L (cstep s x) (cstep_nodup h)
theorem idx_eq {x : Int} {L : List Int} {k : Nat} (hk : k < L.length) (hd : L.Nodup) (e : L.getD k 0 = x) : idx x (L.take (k + 1)) = k := by
  refine idx_some (by simp; omega) (fun i hi => ?_) ?_
  · intro h
    have hi' : i < L.length := by omega
    have h1 : L[i] = L[k] := by
      have h2 : (L.take (k + 1)).getD i 0 = L[i] := by simp [hi', show i < k + 1 by omega]
      have h3 : L.getD k 0 = L[k] := by simp [hk]
      rw [← h2, h, ← h3, e]
    exact List.pairwise_iff_getElem.1 hd i k hi' hk hi h1
  · rw [← e]; simp [hk]
theorem idx_ne {x : Int} {L : List Int} {k : Nat} (hk : k < L.length) (e : L.getD k 0 ≠ x) : idx x (L.take (k + 1)) = idx x (L.take k) := by
  have h3 : L.getD k 0 = L[k] := by simp [hk]
  rw [h3] at e
  rw [List.take_succ_eq_append_getElem hk]
  unfold idx
  by_cases h : x ∈ L.take k
  · rw [if_pos h, if_pos (List.mem_append.2 (.inl h)), List.idxOf_append, if_pos h]
  · rw [if_neg h, if_neg]
    simp only [List.mem_append, List.mem_singleton, not_or]
    exact ⟨h, fun h => e h.symm⟩
theorem idx_nil (x : Int) : idx x [] = -1 := by simp [idx]

set_option maxHeartbeats 2000000 in
theorem Tryd.specCanon_f (L : List Int) (hL : L.length ≤ 1048576) : FCall Tryd.prog 45 [ri L] (FlatRes L.length 1 (ints (canon L))) := by
  refine FCall.of_body Tryd.func45 rfl (by kernel_rfl) (by simp [Tryd.ntmps45]) ?_
  refine SW_of_vc Tryd.mixed _ _ _ (by kernel_rfl) ?_
  simp (disch := omega) only [Tryd.ntmps45, Tryd.results45, go_sem]
  refine LoopW.loop (fun p : Nat × Nat × Nat × Nat => ⟨ofL [(0, ri L), (3, .own p.2.1 0 (cst (L.take p.1)).2.length (cst (L.take p.1)).2.length 1 false), (4, .own p.2.2.1 0 (cst (L.take p.1)).1.length (cst (L.take p.1)).1.length 1 false), (5, .val (.int .i64 p.1))],
      hp [(p.2.1, ⟨ints (cst (L.take p.1)).2, false⟩), (p.2.2.1, ⟨ints (cst (L.take p.1)).1, false⟩)] p.2.2.2⟩)
    (fun p => p.1 ≤ L.length ∧ p.2.1 < p.2.2.2 ∧ p.2.2.1 < p.2.2.2 ∧ p.2.1 ≠ p.2.2.1) (fun p => L.length - p.1) (0, 0, 1, 2) ⟨by simp, by simp, by simp, by simp⟩
    (Wk.ofH (by simp only [go_sem, ↓List.forall_mem_cons, List.not_mem_nil, false_implies, implies_true, and_true, true_and, and_self, ri_eq, Int.natCast_add, Int.cast_ofNat_Int, List.take_zero, cst_zero, List.length_nil]; try simp) (by simp (disch := omega) only [go_sem, ↓List.forall_mem_cons, List.not_mem_nil, false_implies, implies_true, and_true, true_and, and_self, ri_eq, Int.natCast_add, Int.cast_ofNat_Int, if_pos, if_neg, Nat.reduceAdd, List.nil_append, List.take_zero, cst_zero, ints_nil]; try simp) (by simp [hp])) ?_
  rintro ⟨k, b1, b2, nb⟩ ⟨hk, hb1, hb2, hb3⟩
  simp only at hk hb1 hb2 hb3
  have l1 := cst_len1 (L.take k)
  have l2 := cst_len2 (L.take k)
  have l3 : (L.take k).length = k := by simp; omega
  have e1 := fun h => cst_succ (L := L) (k := k) h
  have hd : (cst (L.take k)).1.Nodup := cst_nodup _ _ (by simp)
  generalize he : cst (L.take k) = st at *
  obtain ⟨seen, out⟩ := st
  simp only at l1 l2 e1 hd ⊢
  refine SW_of_vc Tryd.mixed _ _ _ (by kernel_rfl) ?_
  by_cases hlt : k < L.length
  · have e1 := e1 hlt
    simp (disch := omega) only [Tryd.ntmps45, Tryd.results45, go_sem]
    refine LoopW.loop (fun i : Nat => ⟨ofL [(0, ri L), (3, .own b1 0 out.length out.length 1 false), (4, .own b2 0 seen.length seen.length 1 false), (5, .val (.int .i64 k)), (6, .val (.int .i64 (idx (L.getD k 0) (seen.take i)))), (7, .val (.int .i64 i))],
        hp [(b1, ⟨ints out, false⟩), (b2, ⟨ints seen, false⟩)] nb⟩) (fun i => i ≤ seen.length) (fun i => seen.length - i) 0 (by omega) (Wk.of (by simp only [go_sem, ↓List.forall_mem_cons, List.not_mem_nil, false_implies, implies_true, and_true, true_and, and_self, ri_eq, Int.natCast_add, Int.cast_ofNat_Int, List.take_zero, idx_nil]; try simp) rfl) ?_
    intro i hi
    refine SW_of_vc Tryd.mixed _ _ _ (by kernel_rfl) ?_
    by_cases hil : i < seen.length
    · by_cases hx : seen.getD i 0 = L.getD k 0
      · have ei := idx_eq hil hd hx
        simp (disch := omega) only [Tryd.ntmps45, Tryd.results45, go_sem]
        exact ⟨i + 1, by omega, by omega, Wk.of (by simp only [go_sem, ↓List.forall_mem_cons, List.not_mem_nil, false_implies, implies_true, and_true, true_and, and_self, ri_eq, Int.natCast_add, Int.cast_ofNat_Int, ei]; try simp) rfl⟩
      · have ei := idx_ne hil hx
        simp (disch := omega) only [Tryd.ntmps45, Tryd.results45, go_sem]
        exact ⟨i + 1, by omega, by omega, Wk.of (by simp only [go_sem, ↓List.forall_mem_cons, List.not_mem_nil, false_implies, implies_true, and_true, true_and, and_self, ri_eq, Int.natCast_add, Int.cast_ofNat_Int, ei]; try simp) rfl⟩
    · obtain rfl : i = seen.length := by omega
      rw [List.take_length]
      by_cases hm : L.getD k 0 ∈ seen
      · have hi := idx_nonneg hm
        simp (disch := omega) only [Tryd.ntmps45, Tryd.results45, go_sem]
        simp only [cstep, if_pos hm] at e1
        refine ⟨(k + 1, nb + 1, b2, nb + 1 + 1), ⟨hlt, by show nb + 1 < nb + 1 + 1; omega, by show b2 < nb + 1 + 1; omega, by show nb + 1 ≠ b2; omega⟩, by show L.length - (k + 1) < L.length - k; omega, ?_⟩
        exact Wk.ofH (by simp only [go_sem, ↓List.forall_mem_cons, List.not_mem_nil, false_implies, implies_true, and_true, true_and, and_self, ri_eq, Int.natCast_add, Int.cast_ofNat_Int, e1, List.length_append, List.length_cons, List.length_nil, Nat.zero_add]; try simp) (by simp (disch := omega) only [go_sem, ↓List.forall_mem_cons, List.not_mem_nil, false_implies, implies_true, and_true, true_and, and_self, ri_eq, Int.natCast_add, Int.cast_ofNat_Int, if_pos, if_neg, Nat.reduceAdd, List.nil_append, e1]; try simp) (by simp [hp])
      · rw [idx_neg hm]
        simp (disch := omega) only [Tryd.ntmps45, Tryd.results45, go_sem]
        simp only [cstep, if_neg hm] at e1
        refine ⟨(k + 1, nb + 1 + 1 + 1, nb + 1, nb + 1 + 1 + 1 + 1), ⟨hlt, by show nb + 1 + 1 + 1 < nb + 1 + 1 + 1 + 1; omega, by show nb + 1 < nb + 1 + 1 + 1 + 1; omega, by show nb + 1 + 1 + 1 ≠ nb + 1; omega⟩, by show L.length - (k + 1) < L.length - k; omega, ?_⟩
        exact Wk.ofH (by simp only [go_sem, ↓List.forall_mem_cons, List.not_mem_nil, false_implies, implies_true, and_true, true_and, and_self, ri_eq, Int.natCast_add, Int.cast_ofNat_Int, e1, List.length_append, List.length_cons, List.length_nil, Nat.zero_add]; try simp) (by simp (disch := omega) only [go_sem, ↓List.forall_mem_cons, List.not_mem_nil, false_implies, implies_true, and_true, true_and, and_self, ri_eq, Int.natCast_add, Int.cast_ofNat_Int, if_pos, if_neg, Nat.reduceAdd, List.nil_append, e1]; try simp) (by simp [hp])
  · simp (disch := omega) only [Tryd.ntmps45, Tryd.results45, go_sem]
    have e2 : canon L = out := by
      have : L.take k = L := List.take_of_length_le (by omega)
      rw [canon, ← this, he]
    have e3 : out.length = L.length := by rw [l2, l3]; omega
    rw [e2, e3]
    exact fin_ints e3.symm (by rw [hp_map, hmap_cons, if_pos rfl])
theorem Tryd.specCanon_ok (L : List Int) (hL : L.length ≤ 1048576) : PCall Tryd.prog 45 [ri L] (ri (canon L)) :=
  (Tryd.specCanon_f L hL).pcall 2 (fun _ _ h => flat_view h)
end Go.Sh

/-
  Contracts: pairs of partitions and their meet. Of the reference and of the program.
-/
namespace Go.Sh
set_option linter.unusedSimpArgs false
set_option linter.unusedVariables false
open Go Go.Proofs

def pairB (A B : List Int) : Bool := isPart A && (isPart B && decide (A.length = B.length))
theorem pairB_t {A B : List Int} (h : pairB A B = true) : isPart A = true ∧ isPart B = true ∧ A.length = B.length := by
  simpa [pairB] using h

theorem okP_bound : ∀ (L : List Int) (nx : Int), okP nx L = true → ∀ i, i < L.length → 0 ≤ L.getD i 0 ∧ L.getD i 0 ≤ nx + i
  | [], nx, _, i, hi => by simp at hi
  | x :: L, nx, h, i, hi => by
    rw [okP, Bool.and_eq_true] at h
    obtain ⟨h1, h2⟩ := inR_of h.1
    match i with
    | 0 => simp; omega
    | i + 1 =>
      have := okP_bound L (max nx (x + 1)) h.2 i (by simpa using hi)
      have e : (x :: L).getD (i + 1) 0 = L.getD i 0 := by simp
      rw [e]
      omega
theorem isPart_len {L : List Int} (h : isPart L = true) : 1 ≤ L.length ∧ L.length ≤ 8 := by
  rw [isPart, Bool.and_eq_true] at h
  have := inR_of h.2
  omega
theorem isPart_bound {L : List Int} (h : isPart L = true) {i : Nat} (hi : i < L.length) : 0 ≤ L.getD i 0 ∧ L.getD i 0 ≤ 7 := by
  have hl := isPart_len h
  rw [isPart, Bool.and_eq_true] at h
  have := okP_bound L 0 h.1 i hi
  omega

theorem Tryd.arePartitions_ok (A B : List Int) (hA : A.length ≤ 1048576) (hB : B.length ≤ 1048576) : PCall Tryd.prog 70 [ri A, ri B] (.val (.bool (pairB A B))) := by
  refine FCall.pcall (R := fun r _ => r = .val (.bool (pairB A B))) ?_ 0 (by rintro r H rfl; exact view_bool)
  refine FCall.of_body Tryd.func70 rfl (by kernel_rfl) (by simp [Tryd.ntmps70]) ?_
  refine SW_of_vc Tryd.mixed _ _ _ (by kernel_rfl) ?_
  have w1 := Tryd.implIsPartition_ok A hA
  have w2 := Tryd.implIsPartition_ok B hB
  rcases Bool.eq_false_or_eq_true (isPart A) with ha | ha
  · rcases Bool.eq_false_or_eq_true (isPart B) with hb | hb
    · rw [ha] at w1
      rw [hb] at w2
      by_cases hl : A.length = B.length
      · simp (disch := omega) only [Tryd.ntmps70, Tryd.results70, go_sem]
        refine w1.callV 0 (viewL_cons_of (view_rowL (by first | rfl | simp [marks_length, canon_length] | omega)) viewL_nil_of) ?_
        simp (disch := omega) only [Tryd.ntmps70, Tryd.results70, go_sem]
        refine w2.callV 0 (viewL_cons_of (view_rowL (by first | rfl | simp [marks_length, canon_length] | omega)) viewL_nil_of) ?_
        simp (disch := omega) only [Tryd.ntmps70, Tryd.results70, go_sem]
        exact Fin.val (by simp [pairB, ha, hb, hl])
      · simp (disch := omega) only [Tryd.ntmps70, Tryd.results70, go_sem]
        refine w1.callV 0 (viewL_cons_of (view_rowL (by first | rfl | simp [marks_length, canon_length] | omega)) viewL_nil_of) ?_
        simp (disch := omega) only [Tryd.ntmps70, Tryd.results70, go_sem]
        refine w2.callV 0 (viewL_cons_of (view_rowL (by first | rfl | simp [marks_length, canon_length] | omega)) viewL_nil_of) ?_
        simp (disch := omega) only [Tryd.ntmps70, Tryd.results70, go_sem]
        exact Fin.val (by simp [pairB, hl])
    · rw [ha] at w1
      rw [hb] at w2
      simp (disch := omega) only [Tryd.ntmps70, Tryd.results70, go_sem]
      refine w1.callV 0 (viewL_cons_of (view_rowL (by first | rfl | simp [marks_length, canon_length] | omega)) viewL_nil_of) ?_
      simp (disch := omega) only [Tryd.ntmps70, Tryd.results70, go_sem]
      refine w2.callV 0 (viewL_cons_of (view_rowL (by first | rfl | simp [marks_length, canon_length] | omega)) viewL_nil_of) ?_
      simp (disch := omega) only [Tryd.ntmps70, Tryd.results70, go_sem]
      exact Fin.val (by simp [pairB, hb])
  · rw [ha] at w1
    simp (disch := omega) only [Tryd.ntmps70, Tryd.results70, go_sem]
    refine w1.callV 0 (viewL_cons_of (view_rowL (by first | rfl | simp [marks_length, canon_length] | omega)) viewL_nil_of) ?_
    simp (disch := omega) only [Tryd.ntmps70, Tryd.results70, go_sem]
    exact Fin.val (by simp [pairB, ha])

theorem Tryd.l19Pair_ok (A B : List Int) (hA : A.length ≤ 1048576) (hB : B.length ≤ 1048576) : PCall Tryd.prog 73 [ri A, ri B] (.val (.bool (pairB A B))) := by
  refine FCall.pcall (R := fun r _ => r = .val (.bool (pairB A B))) ?_ 0 (by rintro r H rfl; exact view_bool)
  refine FCall.of_body Tryd.func73 rfl (by kernel_rfl) (by simp [Tryd.ntmps73]) ?_
  refine SW_of_vc Tryd.mixed _ _ _ (by kernel_rfl) ?_
  have w1 := Tryd.specIsPartition_ok A hA
  have w2 := Tryd.specIsPartition_ok B hB
  rcases Bool.eq_false_or_eq_true (isPart A) with ha | ha
  · rcases Bool.eq_false_or_eq_true (isPart B) with hb | hb
    · rw [ha] at w1
      rw [hb] at w2
      by_cases hl : A.length = B.length
      · simp (disch := omega) only [Tryd.ntmps73, Tryd.results73, go_sem]
        refine w1.callV 0 (viewL_cons_of (view_rowL (by first | rfl | simp [marks_length, canon_length] | omega)) viewL_nil_of) ?_
        simp (disch := omega) only [Tryd.ntmps73, Tryd.results73, go_sem]
        refine w2.callV 0 (viewL_cons_of (view_rowL (by first | rfl | simp [marks_length, canon_length] | omega)) viewL_nil_of) ?_
        simp (disch := omega) only [Tryd.ntmps73, Tryd.results73, go_sem]
        exact Fin.val (by simp [pairB, ha, hb, hl])
      · simp (disch := omega) only [Tryd.ntmps73, Tryd.results73, go_sem]
        refine w1.callV 0 (viewL_cons_of (view_rowL (by first | rfl | simp [marks_length, canon_length] | omega)) viewL_nil_of) ?_
        simp (disch := omega) only [Tryd.ntmps73, Tryd.results73, go_sem]
        refine w2.callV 0 (viewL_cons_of (view_rowL (by first | rfl | simp [marks_length, canon_length] | omega)) viewL_nil_of) ?_
        simp (disch := omega) only [Tryd.ntmps73, Tryd.results73, go_sem]
        exact Fin.val (by simp [pairB, hl])
    · rw [ha] at w1
      rw [hb] at w2
      simp (disch := omega) only [Tryd.ntmps73, Tryd.results73, go_sem]
      refine w1.callV 0 (viewL_cons_of (view_rowL (by first | rfl | simp [marks_length, canon_length] | omega)) viewL_nil_of) ?_
      simp (disch := omega) only [Tryd.ntmps73, Tryd.results73, go_sem]
      refine w2.callV 0 (viewL_cons_of (view_rowL (by first | rfl | simp [marks_length, canon_length] | omega)) viewL_nil_of) ?_
      simp (disch := omega) only [Tryd.ntmps73, Tryd.results73, go_sem]
      exact Fin.val (by simp [pairB, hb])
  · rw [ha] at w1
    simp (disch := omega) only [Tryd.ntmps73, Tryd.results73, go_sem]
    refine w1.callV 0 (viewL_cons_of (view_rowL (by first | rfl | simp [marks_length, canon_length] | omega)) viewL_nil_of) ?_
    simp (disch := omega) only [Tryd.ntmps73, Tryd.results73, go_sem]
    exact Fin.val (by simp [pairB, ha])

def both (A B : List Int) : List Int := List.zipWith (fun x y => x * 8 + y) A B
theorem both_length {A B : List Int} (h : A.length = B.length) : (both A B).length = A.length := by simp [both, h]
theorem both_take {A B : List Int} {k : Nat} (h : A.length = B.length) (hk : k < A.length) : (both A B).take (k + 1) = (both A B).take k ++ [A.getD k 0 * 8 + B.getD k 0] := by
  have hb : k < (both A B).length := by rw [both_length h]; exact hk
  rw [List.take_succ_eq_append_getElem hb]
  congr 2
  have hk2 : k < B.length := by omega
  simp [both, hk, hk2]
theorem both_take_len {A B : List Int} {k : Nat} (h : A.length = B.length) (hk : k ≤ A.length) : ((both A B).take k).length = k := by
  rw [List.length_take, both_length h]; omega
def meet (A B : List Int) : List Int := canon (if pairB A B = true then both A B else [])

def meetF (A B : List Int) : Nat × Nat × Nat → St
  | (0, _, nb) => ⟨ofL [(0, ri A), (1, ri B), (5, .val (.slice none 0 0)), (12, .val (.int .i64 A.length)), (13, .val (.int .i64 0))], hp [] nb⟩
  | (k + 1, b, nb) => ⟨ofL [(0, ri A), (1, ri B), (5, .own b 0 (k + 1) (k + 1) 1 false), (12, .val (.int .i64 A.length)), (13, .val (.int .i64 ((k + 1 : Nat) : Int)))], hp [(b, ⟨ints ((both A B).take (k + 1)), false⟩)] nb⟩

set_option maxHeartbeats 2000000 in
theorem Tryd.implMeet_f (A B : List Int) (hA : A.length ≤ 1048576) (hB : B.length ≤ 1048576) (h : pairB A B = true) : FCall Tryd.prog 34 [ri A, ri B] (FlatRes A.length 1 (ints (meet A B))) := by
  obtain ⟨pa, pb, hl⟩ := pairB_t h
  obtain ⟨l1, l2⟩ := isPart_len pa
  have w := Tryd.arePartitions_ok A B hA hB
  rw [h] at w
  refine FCall.of_body Tryd.func34 rfl (by kernel_rfl) (by simp [Tryd.ntmps34]) ?_
  refine SW_of_vc Tryd.mixed _ _ _ (by kernel_rfl) ?_
  simp (disch := omega) only [Tryd.ntmps34, Tryd.results34, go_sem]
  refine w.callV 0 (viewL_cons_of (view_rowL (by first | rfl | simp [marks_length, canon_length] | omega)) (viewL_cons_of (view_rowL (by first | rfl | simp [marks_length, canon_length] | omega)) viewL_nil_of)) ?_
  simp (disch := omega) only [Tryd.ntmps34, Tryd.results34, go_sem]
  refine LoopW.loop (meetF A B) (fun p => p.1 ≤ A.length ∧ (0 < p.1 → p.2.1 < p.2.2)) (fun p => A.length - p.1) (0, 0, 0) ⟨by simp, by simp⟩ (Wk.of (by simp only [go_sem, ↓List.forall_mem_cons, List.not_mem_nil, false_implies, implies_true, and_true, true_and, and_self, ri_eq, Int.natCast_add, Int.cast_ofNat_Int]; try simp) rfl) ?_
  rintro ⟨k, b, nb⟩ ⟨hk, hb⟩
  simp only at hk hb
  refine SW_of_vc Tryd.mixed _ _ _ (by kernel_rfl) ?_
  by_cases hlt : k < A.length
  · obtain ⟨a1, a2⟩ := isPart_bound pa hlt
    obtain ⟨b1, b2⟩ := isPart_bound pb (i := k) (by omega)
    have ht := both_take hl hlt
    have htl := both_take_len hl hk
    cases k with
    | zero =>
      rw [meetF]
      simp (disch := omega) only [Tryd.ntmps34, Tryd.results34, go_sem]
      refine ⟨(1, nb + 1, nb + 2), ⟨l1, fun _ => by simp⟩, by simp; omega, ?_⟩
      exact Wk.ofH (by simp only [go_sem, ↓List.forall_mem_cons, List.not_mem_nil, false_implies, implies_true, and_true, true_and, and_self, ri_eq, Int.natCast_add, Int.cast_ofNat_Int]; try simp) (by simp (disch := omega) only [go_sem, ↓List.forall_mem_cons, List.not_mem_nil, false_implies, implies_true, and_true, true_and, and_self, ri_eq, Int.natCast_add, Int.cast_ofNat_Int, if_pos, if_neg, Nat.reduceAdd, List.nil_append, ht, ints_one]; try simp) (by simp [hp])
    | succ k =>
      have hb := hb (by omega)
      rw [meetF]
      simp (disch := omega) only [Tryd.ntmps34, Tryd.results34, go_sem, htl, ints_take_of htl]
      refine ⟨(k + 1 + 1, nb + 1, nb + 1 + 1), ⟨hlt, fun _ => by simp⟩, by show A.length - (k + 1 + 1) < A.length - (k + 1); omega, ?_⟩
      exact Wk.ofH (by simp only [go_sem, ↓List.forall_mem_cons, List.not_mem_nil, false_implies, implies_true, and_true, true_and, and_self, ri_eq, Int.natCast_add, Int.cast_ofNat_Int]; try simp) (by simp (disch := omega) only [go_sem, ↓List.forall_mem_cons, List.not_mem_nil, false_implies, implies_true, and_true, true_and, and_self, ri_eq, Int.natCast_add, Int.cast_ofNat_Int, if_pos, if_neg, Nat.reduceAdd, List.nil_append, ht]; try simp) (by simp [hp])
  · obtain rfl : k = A.length := by omega
    have hm : meet A B = canon (both A B) := by rw [meet, if_pos h]
    have hbl := both_length hl
    have htk : (both A B).take A.length = both A B := List.take_of_length_le (by omega)
    have hcl : (canon (both A B)).length = A.length := by rw [canon_length, hbl]
    have w2 := (Tryd.implCanon_f (both A B) (by omega) (fun e => by rw [e] at hbl; simp at hbl; omega)).one
    rw [hbl] at w2
    have hb := hb (by omega)
    obtain ⟨m, hm1⟩ : ∃ m, A.length = m + 1 := ⟨A.length - 1, by omega⟩
    rw [hm1] at htk w2 ⊢
    rw [meetF, htk]
    simp (disch := omega) only [Tryd.ntmps34, Tryd.results34, go_sem]
    refine w2.callOne (ints_vals _) 1 (viewL_cons_of (view_own (by rw [hp_map, hmap_cons, if_pos rfl]) (by omega)) viewL_nil_of) ?_
    simp (disch := omega) only [Tryd.ntmps34, Tryd.results34, go_sem]
    rw [hm]
    exact fin_ints (by omega) (by rw [hp_map, hmap_cons, if_pos rfl])

theorem Tryd.implMeet_nil (A B : List Int) (hA : A.length ≤ 1048576) (hB : B.length ≤ 1048576) (h : pairB A B = false) : FCall Tryd.prog 34 [ri A, ri B] (fun r _ => r = .val (.slice none 0 0)) := by
  have w := Tryd.arePartitions_ok A B hA hB
  rw [h] at w
  refine FCall.of_body Tryd.func34 rfl (by kernel_rfl) (by simp [Tryd.ntmps34]) ?_
  refine SW_of_vc Tryd.mixed _ _ _ (by kernel_rfl) ?_
  simp (disch := omega) only [Tryd.ntmps34, Tryd.results34, go_sem]
  refine w.callV 0 (viewL_cons_of (view_rowL (by first | rfl | simp [marks_length, canon_length] | omega)) (viewL_cons_of (view_rowL (by first | rfl | simp [marks_length, canon_length] | omega)) viewL_nil_of)) ?_
  simp (disch := omega) only [Tryd.ntmps34, Tryd.results34, go_sem]
  exact Fin.val rfl

theorem meet_f {A B : List Int} (h : pairB A B = false) : meet A B = [] := by rw [meet, if_neg (by simp [h])]; rfl
theorem meet_length {A B : List Int} (h : pairB A B = true) : (meet A B).length = A.length := by
  rw [meet, if_pos h, canon_length, both_length (pairB_t h).2.2]

theorem Tryd.implMeet_ok (A B : List Int) (hA : A.length ≤ 1048576) (hB : B.length ≤ 1048576) : PCall Tryd.prog 34 [ri A, ri B] (ri (meet A B)) := by
  rcases Bool.eq_false_or_eq_true (pairB A B) with h | h
  · exact (Tryd.implMeet_f A B hA hB h).pcall 2 (fun _ _ h => flat_view h)
  · rw [meet_f h]
    exact (Tryd.implMeet_nil A B hA hB h).pcall 0 (by rintro r H rfl; exact view_nil)

set_option maxHeartbeats 2000000 in
theorem Tryd.specMeet_ok (A B : List Int) (hA : A.length ≤ 1048576) (hB : B.length ≤ 1048576) : PCall Tryd.prog 37 [ri A, ri B] (ri (meet A B)) := by
  have w := Tryd.l19Pair_ok A B hA hB
  refine FCall.pcall (R := FlatRes (meet A B).length 1 (ints (meet A B))) ?_ 2 (fun _ _ h => flat_view h)
  refine FCall.of_body Tryd.func37 rfl (by kernel_rfl) (by simp [Tryd.ntmps37]) ?_
  refine SW_of_vc Tryd.mixed _ _ _ (by kernel_rfl) ?_
  simp (disch := omega) only [Tryd.ntmps37, Tryd.results37, go_sem]
  rcases Bool.eq_false_or_eq_true (pairB A B) with h | h
  · obtain ⟨pa, pb, hl⟩ := pairB_t h
    obtain ⟨l1, l2⟩ := isPart_len pa
    rw [h] at w
    refine LoopW.loop (fun p : Nat × Nat × Nat => ⟨ofL [(0, ri A), (1, ri B), (5, .own p.2.1 0 p.1 p.1 1 false), (6, .val (.int .i64 p.1))], hp [(p.2.1, ⟨ints ((both A B).take p.1), false⟩)] p.2.2⟩) (fun p => p.1 ≤ A.length ∧ p.2.1 < p.2.2) (fun p => A.length - p.1) (0, 0, 1) ⟨by simp, by simp⟩
      (Wk.ofH (by simp only [go_sem, ↓List.forall_mem_cons, List.not_mem_nil, false_implies, implies_true, and_true, true_and, and_self, ri_eq, Int.natCast_add, Int.cast_ofNat_Int]; try simp) (by simp (disch := omega) only [go_sem, ↓List.forall_mem_cons, List.not_mem_nil, false_implies, implies_true, and_true, true_and, and_self, ri_eq, Int.natCast_add, Int.cast_ofNat_Int, if_pos, if_neg, Nat.reduceAdd, List.nil_append, List.take_zero, ints_nil]; try simp) (by simp [hp])) ?_
    rintro ⟨k, b, nb⟩ ⟨hk, hb⟩
    simp only at hk hb
    have htl := both_take_len hl hk
    refine SW_of_vc Tryd.mixed _ _ _ (by kernel_rfl) ?_
    by_cases hlt : k < A.length
    · obtain ⟨a1, a2⟩ := isPart_bound pa hlt
      obtain ⟨b1, b2⟩ := isPart_bound pb (i := k) (by omega)
      have ht := both_take hl hlt
      simp (disch := omega) only [Tryd.ntmps37, Tryd.results37, go_sem]
      refine w.callV 0 (viewL_cons_of (view_rowL (by first | rfl | simp [marks_length, canon_length] | omega)) (viewL_cons_of (view_rowL (by first | rfl | simp [marks_length, canon_length] | omega)) viewL_nil_of)) ?_
      simp (disch := omega) only [Tryd.ntmps37, Tryd.results37, go_sem, htl, ints_take_of htl]
      refine ⟨(k + 1, nb + 1, nb + 1 + 1), ⟨hlt, by simp⟩, by show A.length - (k + 1) < A.length - k; omega, ?_⟩
      exact Wk.ofH (by simp only [go_sem, ↓List.forall_mem_cons, List.not_mem_nil, false_implies, implies_true, and_true, true_and, and_self, ri_eq, Int.natCast_add, Int.cast_ofNat_Int]; try simp) (by simp (disch := omega) only [go_sem, ↓List.forall_mem_cons, List.not_mem_nil, false_implies, implies_true, and_true, true_and, and_self, ri_eq, Int.natCast_add, Int.cast_ofNat_Int, if_pos, if_neg, Nat.reduceAdd, List.nil_append, ht]; try simp) (by simp [hp])
    · obtain rfl : k = A.length := by omega
      have hm : meet A B = canon (both A B) := by rw [meet, if_pos h]
      have hbl := both_length hl
      have htk : (both A B).take A.length = both A B := List.take_of_length_le (by omega)
      have hcl : (canon (both A B)).length = A.length := by rw [canon_length, hbl]
      have w2 := (Tryd.specCanon_f (both A B) (by omega)).one
      rw [hbl] at w2
      rw [htk, hm]
      simp (disch := omega) only [Tryd.ntmps37, Tryd.results37, go_sem]
      refine w2.callOne (ints_vals _) 1 (viewL_cons_of (view_own (by rw [hp_map, hmap_cons, if_pos rfl]) (by omega)) viewL_nil_of) ?_
      simp (disch := omega) only [Tryd.ntmps37, Tryd.results37, go_sem]
      rw [hcl]
      exact fin_ints (by omega) (by rw [hp_map, hmap_cons, if_pos rfl])
  · rw [h] at w
    refine LoopW.loop (fun _ : Unit => ⟨ofL [(0, ri A), (1, ri B), (5, .own 0 0 0 0 1 false), (6, .val (.int .i64 0))], hp [(0, ⟨ints [], false⟩)] 1⟩) (fun _ => True) (fun _ => 0) () trivial
      (Wk.ofH (by simp only [go_sem, ↓List.forall_mem_cons, List.not_mem_nil, false_implies, implies_true, and_true, true_and, and_self, ri_eq, Int.natCast_add, Int.cast_ofNat_Int]; try simp) (by simp (disch := omega) only [go_sem, ↓List.forall_mem_cons, List.not_mem_nil, false_implies, implies_true, and_true, true_and, and_self, ri_eq, Int.natCast_add, Int.cast_ofNat_Int, if_pos, if_neg, Nat.reduceAdd, List.nil_append, ints_nil]; try simp) (by simp [hp])) ?_
    rintro _ _
    refine SW_of_vc Tryd.mixed _ _ _ (by kernel_rfl) ?_
    have w2 := (Tryd.specCanon_f [] (by simp)).one
    rw [meet_f h]
    by_cases hlt : 0 < A.length
    · simp (disch := omega) only [Tryd.ntmps37, Tryd.results37, go_sem]
      refine w.callV 0 (viewL_cons_of (view_rowL (by first | rfl | simp [marks_length, canon_length] | omega)) (viewL_cons_of (view_rowL (by first | rfl | simp [marks_length, canon_length] | omega)) viewL_nil_of)) ?_
      simp (disch := omega) only [Tryd.ntmps37, Tryd.results37, go_sem]
      refine w2.callOne (ints_vals _) 1 (viewL_cons_of (view_own (by rw [hp_map, hmap_cons, if_pos rfl]) (by simp)) viewL_nil_of) ?_
      simp (disch := omega) only [Tryd.ntmps37, Tryd.results37, go_sem]
      exact fin_ints (by simp) (by rw [hp_map, hmap_cons, if_pos rfl]; rfl)
    · simp (disch := omega) only [Tryd.ntmps37, Tryd.results37, go_sem]
      refine w2.callOne (ints_vals _) 1 (viewL_cons_of (view_own (by rw [hp_map, hmap_cons, if_pos rfl]) (by simp)) viewL_nil_of) ?_
      simp (disch := omega) only [Tryd.ntmps37, Tryd.results37, go_sem]
      exact fin_ints (by simp) (by rw [hp_map, hmap_cons, if_pos rfl]; rfl)
end Go.Sh

/-
  Contracts: an item moved to another block. Of the program.
-/
namespace Go.Sh
set_option linter.unusedSimpArgs false
set_option linter.unusedVariables false
open Go Go.Proofs

def top (L : List Int) (k : Nat) : Int := (L.take k).foldl max (-1)
theorem top_zero (L : List Int) : top L 0 = -1 := rfl
theorem top_succ {L : List Int} {k : Nat} (h : k < L.length) : top L (k + 1) = max (top L k) (L.getD k 0) := by
  rw [top, List.take_succ_eq_append_getElem h, List.foldl_append]
  simp [top, h]
theorem top_ge (L : List Int) : ∀ k, k ≤ L.length → -1 ≤ top L k
  | 0, _ => by rw [top_zero]; omega
  | k + 1, h => by
    have := top_ge L k (by omega)
    rw [top_succ (by omega)]; omega
theorem top_part {L : List Int} (h : isPart L = true) : ∀ k, k ≤ L.length → top L k ≤ 7
  | 0, _ => by rw [top_zero]; omega
  | k + 1, hk => by
    have := top_part h k (by omega)
    have := (isPart_bound h (i := k) (by omega)).2
    rw [top_succ (by omega)]; omega
def moveOk (L : List Int) (it bl : Int) : Bool := isPart L && (inR it 0 ((L.length : Int) - 1) && inR bl 0 (top L L.length + 1))
def moveTo (L : List Int) (it bl : Int) : List Int := if moveOk L it bl = true then canon (L.set it.toNat bl) else L
theorem moveTo_length (L : List Int) (it bl : Int) : (moveTo L it bl).length = L.length := by
  unfold moveTo
  split
  · rw [canon_length]; simp
  · rfl

theorem fin_tup {n z cap b : Nat} {ex e2 : Bool} {cs : List SV} {u : Value} {H : Heap} (hn : cs.length = n * z) (hv : cs.all isVal = true) (hb : H.map b = some ⟨cs, e2⟩) :
    Fin (fun r H => ∃ r0, r = .tup [r0, .val u] ∧ FlatRes n z cs r0 H) (.tup [.own b 0 n cap z ex, .val u]) H := by
  obtain ⟨H2, h1, _, h3, h4⟩ := flat_fin (ex := ex) (cap := cap) hn hv hb
  exact ⟨H2, h1, by simp [noRow, noRowL], h3, _, rfl, h4⟩

end Go.Sh

/-
  Drawing numbers from bytes: the cursor, a byte, a number below a bound, one of a list.
-/
namespace Go.Sh
set_option linter.unusedSimpArgs false
set_option linter.unusedVariables false
open Go Go.Proofs

def bys (B : List Int) : List SV := B.map fun b => .val (.int .u8 b)
def rby (B : List Int) : SV := .row B.length false (bys B)
theorem bys_length (B : List Int) : (bys B).length = B.length := by simp [bys]
theorem bys_get {B : List Int} {i : Nat} (h : i < B.length) : (bys B)[i]? = some (.val (.int .u8 (B.getD i 0))) := by simp [bys, h]
def curB (B : List Int) (i : Nat) (h : Int) : Blk := ⟨[rby B, .val (.int .i64 i), .val (.int .i64 h)], true⟩
def Cur (B : List Int) (H : Heap) (cb : Nat) : Prop := ∃ (i : Nat) (h : Int), i ≤ B.length ∧ H.map cb = some (curB B i h)
/-- The cursor has moved, nothing else. -/
def CurS (B : List Int) (H : Heap) (cb : Nat) (H' : Heap) : Prop := ∃ (i : Nat) (h : Int), i ≤ B.length ∧ H' = H.set cb (some (curB B i h))
theorem hset_set (H : Heap) (b : Nat) (x y : Option Blk) : (H.set b x).set b y = H.set b y := by
  refine Heap.ext' (fun z => ?_) rfl
  simp only [hset_map]
  split <;> rfl
theorem CurS.cur {B : List Int} {H H' : Heap} {cb : Nat} (h : CurS B H cb H') : Cur B H' cb := by
  obtain ⟨i, x, hi, rfl⟩ := h
  exact ⟨i, x, hi, by rw [hset_map, if_pos rfl]⟩
theorem CurS.trans {B : List Int} {H H' H'' : Heap} {cb : Nat} (h : CurS B H cb H') (g : CurS B H' cb H'') : CurS B H cb H'' := by
  obtain ⟨i, x, hi, rfl⟩ := h
  obtain ⟨k, y, hk, rfl⟩ := g
  exact ⟨k, y, hk, hset_set _ _ _ _⟩
theorem Cur.s {B : List Int} {H : Heap} {cb : Nat} (h : Cur B H cb) : CurS B H cb H := by
  obtain ⟨i, x, hi, e⟩ := h
  exact ⟨i, x, hi, (Heap.set_self e).symm⟩
theorem CurS.nb {B : List Int} {H H' : Heap} {cb : Nat} (h : CurS B H cb H') : H'.nb = H.nb := by obtain ⟨i, x, hi, rfl⟩ := h; rfl
theorem CurS.map {B : List Int} {H H' : Heap} {cb b : Nat} (h : CurS B H cb H') (hb : b ≠ cb) : H'.map b = H.map b := by obtain ⟨i, x, hi, rfl⟩ := h; rw [hset_map, if_neg hb]
theorem kand255 (x : Int) : 0 ≤ kand .i64 x 255 ∧ kand .i64 x 255 ≤ 255 := by
  have h : ((BitVec.ofInt 64 x) &&& (BitVec.ofInt 64 255)).toNat ≤ 255 := by
    rw [BitVec.toNat_and]
    exact Nat.le_trans Nat.and_le_right (by decide)
  generalize hn : ((BitVec.ofInt 64 x) &&& (BitVec.ofInt 64 255)).toNat = n at *
  have e : kand .i64 x 255 = IntKind.i64.wrap (n : Int) := by rw [← hn]; rfl
  rw [e, wrap_id (by omega) (by omega)]; omega

def NewQ (B : List Int) (H : Heap) (r : SV) (H' : Heap) : Prop := ∃ h, r = .optr H.nb 0 ∧ H' = H.push (curB B 0 h)
set_option maxHeartbeats 2000000 in
theorem Tryd.l1New_ok (B : List Int) (hB : B.length ≤ 1048576) (H : Heap) : CallS Tryd.prog 78 [rby B] H (NewQ B H) := by
  have hfin : ∀ h : Int, NewQ B H (SV.optr H.nb 0) (H.push ⟨[.row B.length false (bys B), .val (.int .i64 0), .val (.int .i64 h)], true⟩) := fun h => ⟨h, rfl, rfl⟩
  refine CallS.of_body Tryd.func78 rfl (by kernel_rfl) (by simp [Tryd.ntmps78]) ?_
  refine SW_of_vc Tryd.mixed _ _ _ (by kernel_rfl) ?_
  simp (disch := omega) only [Tryd.ntmps78, Tryd.results78, go_sem, rby]
  refine LoopW.loop (fun y : Nat × Int => ⟨ofL [(0, rby B), (3, .val (.int .i64 y.2)), (4, .val (.int .i64 y.1))], H⟩) (fun y => y.1 ≤ B.length) (fun y => B.length - y.1) (0, 10101 + B.length) (by simp) (Wk.of (by simp only [go_sem, ↓List.forall_mem_cons, List.not_mem_nil, false_implies, implies_true, and_true, true_and, and_self, ri_eq, Int.natCast_add, Int.cast_ofNat_Int, rby]; try simp) rfl) ?_
  rintro ⟨i, h⟩ hi
  simp only at hi
  refine SW_of_vc Tryd.mixed _ _ _ (by kernel_rfl) ?_
  by_cases hlt : i < B.length
  · have gb := bys_get hlt
    by_cases h4 : i < 4000
    · simp (disch := omega) only [Tryd.ntmps78, Tryd.results78, go_sem, rby, gb]
      exact ⟨(i + 1, kand .i64 (IntKind.i64.wrap (IntKind.i64.wrap (IntKind.i64.wrap (h * 131) + IntKind.i64.wrap (B.getD i 0)) + 7)) 1073741823), hlt, by show B.length - (i + 1) < B.length - i; omega, Wk.of (by simp only [go_sem, ↓List.forall_mem_cons, List.not_mem_nil, false_implies, implies_true, and_true, true_and, and_self, ri_eq, Int.natCast_add, Int.cast_ofNat_Int, rby]; try simp) rfl⟩
    · simp (disch := omega) only [Tryd.ntmps78, Tryd.results78, go_sem, rby, gb]
      exact hfin h
  · simp (disch := omega) only [Tryd.ntmps78, Tryd.results78, go_sem, rby]
    exact hfin h

def ByteQ (B : List Int) (H : Heap) (cb : Nat) (r : SV) (H' : Heap) : Prop := ∃ v : Int, r = .val (.int .i64 v) ∧ 0 ≤ v ∧ v ≤ 255 ∧ CurS B H cb H'
set_option maxHeartbeats 2000000 in
theorem Tryd.l1Byte_ok (B : List Int) (hB : B.length ≤ 1048576) (H : Heap) (cb : Nat) (hc : Cur B H cb) : CallS Tryd.prog 97 [.optr cb 0] H (ByteQ B H cb) := by
  obtain ⟨i, h, hi, hm⟩ := hc
  rw [curB] at hm
  refine CallS.of_body Tryd.func97 rfl (by kernel_rfl) (by simp [Tryd.ntmps97]) ?_
  refine SW_of_vc Tryd.mixed _ _ _ (by kernel_rfl) ?_
  by_cases hlt : i < B.length
  · have gb := bys_get hlt
    simp (disch := omega) only [Tryd.ntmps97, Tryd.results97, go_sem, rby, hm, hset_map, gb]
    have hk := kand255
    exact ⟨_, rfl, (hk _).1, (hk _).2, i + 1, _, hlt, hset_set _ _ _ _⟩
  · simp (disch := omega) only [Tryd.ntmps97, Tryd.results97, go_sem, rby, hm, hset_map]
    have hk := kand255
    exact ⟨_, rfl, (hk _).1, (hk _).2, i, _, hi, rfl⟩

def BelowQ (B : List Int) (n : Int) (H : Heap) (cb : Nat) (r : SV) (H' : Heap) : Prop := ∃ v : Int, r = .val (.int .i64 v) ∧ 0 ≤ v ∧ (0 < n → v < n) ∧ (n ≤ 0 → v = 0) ∧ CurS B H cb H'
set_option maxHeartbeats 2000000 in
theorem Tryd.l1Below_ok (B : List Int) (hB : B.length ≤ 1048576) (n : Int) (hn : n ≤ 256) (H : Heap) (cb : Nat) (hc : Cur B H cb) : CallS Tryd.prog 79 [.optr cb 0, .val (.int .i64 n)] H (BelowQ B n H cb) := by
  have w := Tryd.l1Byte_ok B hB H cb hc
  refine CallS.of_body Tryd.func79 rfl (by kernel_rfl) (by simp [Tryd.ntmps79]) ?_
  refine SW_of_vc Tryd.mixed _ _ _ (by kernel_rfl) ?_
  by_cases h0 : n ≤ 0
  · have hfin : BelowQ B n H cb (.val (.int .i64 0)) H := ⟨0, rfl, by omega, by omega, fun _ => rfl, hc.s⟩
    simp (disch := omega) only [Tryd.ntmps79, Tryd.results79, go_sem]
    exact hfin
  · simp (disch := omega) only [Tryd.ntmps79, Tryd.results79, go_sem]
    refine w.callX ?_
    rintro r H' ⟨v, rfl, v0, v1, hs⟩
    have h1 : 0 ≤ v.tmod n := Int.tmod_nonneg n v0
    have h2 : v.tmod n < n := Int.tmod_lt_of_pos v (by omega)
    have hfin : BelowQ B n H cb (.val (.int .i64 (v.tmod n))) H' := ⟨_, rfl, h1, fun _ => h2, fun h => by omega, hs⟩
    have hne : ¬ n = 0 := by omega
    simp (disch := omega) only [Tryd.ntmps79, Tryd.results79, go_sem, hne]
    exact hfin
theorem BelowQ.ne {B : List Int} {n : Int} {H : Heap} {cb : Nat} (hc : Cur B H cb) : ∃ r H', BelowQ B n H cb r H' := ⟨_, H, 0, rfl, by omega, fun h => h, fun _ => rfl, hc.s⟩

def OnceQ (B : List Int) (H : Heap) (cb : Nat) (r : SV) (H' : Heap) : Prop := ∃ b : Bool, r = .val (.bool b) ∧ CurS B H cb H'
theorem OnceQ.ne {B : List Int} {H : Heap} {cb : Nat} (hc : Cur B H cb) : ∃ r H', OnceQ B H cb r H' := ⟨_, H, true, rfl, hc.s⟩
theorem Tryd.l1Once_ok (B : List Int) (hB : B.length ≤ 1048576) (n : Int) (hn : n ≤ 256) (H : Heap) (cb : Nat) (hc : Cur B H cb) : CallS Tryd.prog 94 [.optr cb 0, .val (.int .i64 n)] H (OnceQ B H cb) := by
  have w := Tryd.l1Below_ok B hB n hn H cb hc
  refine CallS.of_body Tryd.func94 rfl (by kernel_rfl) (by simp [Tryd.ntmps94]) ?_
  refine SW_of_vc Tryd.mixed _ _ _ (by kernel_rfl) ?_
  simp (disch := omega) only [Tryd.ntmps94, Tryd.results94, go_sem]
  refine w.callX ?_
  rintro r H' ⟨v, rfl, v0, v1, v2, hs⟩
  have hfin : ∀ b, OnceQ B H cb (.val (.bool b)) H' := fun b => ⟨b, rfl, hs⟩
  simp (disch := omega) only [Tryd.ntmps94, Tryd.results94, go_sem]
  exact hfin _

def PickQ (B : List Int) (L : List Int) (H : Heap) (cb : Nat) (r : SV) (H' : Heap) : Prop := ∃ v : Int, r = .val (.int .i64 v) ∧ v ∈ L ∧ CurS B H cb H'
theorem PickQ.ne {B L : List Int} {H : Heap} {cb : Nat} (hL : L ≠ []) (hc : Cur B H cb) : ∃ r H', PickQ B L H cb r H' := ⟨_, H, L.head hL, rfl, List.head_mem hL, hc.s⟩
theorem Tryd.l1Pick_ok (B : List Int) (hB : B.length ≤ 1048576) (L : List Int) (hL : L ≠ []) (hl : L.length ≤ 256) (H : Heap) (cb lb : Nat) (ex e2 : Bool) (hc : Cur B H cb) (hb : H.map lb = some ⟨ints L, e2⟩) (hne : lb ≠ cb) :
    CallS Tryd.prog 80 [.optr cb 0, .own lb 0 L.length L.length 1 ex] H (PickQ B L H cb) := by
  have w := Tryd.l1Below_ok B hB L.length (by omega) H cb hc
  have hl0 : 0 < L.length := List.length_pos_iff.2 hL
  refine CallS.of_body Tryd.func80 rfl (by kernel_rfl) (by simp [Tryd.ntmps80]) ?_
  refine SW_of_vc Tryd.mixed _ _ _ (by kernel_rfl) ?_
  simp (disch := omega) only [Tryd.ntmps80, Tryd.results80, go_sem]
  refine w.callX ?_
  rintro r H' ⟨v, rfl, v0, v1, v2, hs⟩
  have v1 := v1 (by omega)
  obtain ⟨x, rfl⟩ := Int.eq_ofNat_of_zero_le v0
  have hx : x < L.length := by omega
  have hm : H'.map lb = some ⟨ints L, e2⟩ := by rw [hs.map hne, hb]
  have gx : (ints L)[x]? = some (.val (.int .i64 (L.getD x 0))) := ints_get hx
  have hfin : PickQ B L H cb (.val (.int .i64 (L.getD x 0))) H' := ⟨_, rfl, by simp [hx], hs⟩
  simp (disch := omega) only [Tryd.ntmps80, Tryd.results80, go_sem, hm, gx]
  exact hfin
end Go.Sh

/-
  Drawing a matrix.
-/
namespace Go.Sh
set_option linter.unusedSimpArgs false
set_option linter.unusedVariables false
open Go Go.Proofs

/-- A list of rows in memory of its own, from the name lo on. -/
structure MatH (H : Heap) (lo ob : Nat) (cs : List SV) (nm : Nat → Nat) (M : List (List Int)) : Prop where
  ln : cs.length = M.length
  o : H.map ob = some ⟨cs, false⟩
  row : ∀ i, i < M.length → ∃ e e2, cs[i]? = some (.own (nm i) 0 (mrow M i).length (mrow M i).length 1 e) ∧ H.map (nm i) = some ⟨ints (mrow M i), e2⟩
  inj : ∀ i j, i < M.length → j < M.length → nm i = nm j → i = j
  lo1 : lo ≤ ob ∧ ob < H.nb
  lo2 : ∀ i, i < M.length → lo ≤ nm i ∧ nm i < H.nb ∧ nm i ≠ ob
theorem MatH.fr {H H' : Heap} {lo ob : Nat} {cs : List SV} {nm : Nat → Nat} {M : List (List Int)} (h : MatH H lo ob cs nm M) (hn : H.nb ≤ H'.nb) (hf : ∀ b, lo ≤ b → b < H.nb → H'.map b = H.map b) : MatH H' lo ob cs nm M := by
  refine ⟨h.ln, by rw [hf _ h.lo1.1 h.lo1.2, h.o], fun i hi => ?_, h.inj, ⟨h.lo1.1, by have := h.lo1.2; omega⟩, fun i hi => ?_⟩
  · obtain ⟨e, e2, h1, h2⟩ := h.row i hi
    obtain ⟨k1, k2, k3⟩ := h.lo2 i hi
    exact ⟨e, e2, h1, by rw [hf _ k1 k2, h2]⟩
  · obtain ⟨k1, k2, k3⟩ := h.lo2 i hi
    exact ⟨k1, by omega, k3⟩
theorem MatH.low {H : Heap} {lo lo2 ob : Nat} {cs : List SV} {nm : Nat → Nat} {M : List (List Int)} (h : MatH H lo ob cs nm M) (hl : lo2 ≤ lo) : MatH H lo2 ob cs nm M :=
  ⟨h.ln, h.o, h.row, h.inj, ⟨by have := h.lo1; omega, h.lo1.2⟩, fun i hi => by have := h.lo2 i hi; exact ⟨by omega, this.2⟩⟩
theorem mrow_lt {M N : List (List Int)} {i : Nat} (h : i < M.length) : mrow (M ++ N) i = mrow M i := by simp [mrow, h, List.getElem?_append_left h]
theorem mrow_at {M : List (List Int)} {L : List Int} : mrow (M ++ [L]) M.length = L := by simp [mrow]
theorem MatH.snoc {H H' : Heap} {lo ob ob' r l : Nat} {cs : List SV} {nm : Nat → Nat} {M : List (List Int)} {L : List Int} {e e2 : Bool} (h : MatH H lo ob cs nm M) (hl : l = L.length) (ho : H'.map ob' = some ⟨cs ++ [.own r 0 l l 1 e], false⟩) (hr : H'.map r = some ⟨ints L, e2⟩)
    (hf : ∀ b, lo ≤ b → b < H.nb → b ≠ ob → H'.map b = H.map b) (hn : H.nb ≤ H'.nb) (h1 : H.nb ≤ ob' ∧ ob' < H'.nb) (h2 : H.nb ≤ r ∧ r < H'.nb) (hne : r ≠ ob') : MatH H' lo ob' (cs ++ [.own r 0 l l 1 e]) (fun i => if i < M.length then nm i else r) (M ++ [L]) := by
  subst hl
  have hlo := h.lo1
  refine ⟨by simp [h.ln], ho, fun i hi => ?_, fun i j hi hj hij => ?_, ⟨by omega, h1.2⟩, fun i hi => ?_⟩
  · by_cases hlt : i < M.length
    · obtain ⟨e, e2, g1, g2⟩ := h.row i hlt
      obtain ⟨k1, k2, k3⟩ := h.lo2 i hlt
      refine ⟨e, e2, ?_, ?_⟩
      · rw [List.getElem?_append_left (by rw [h.ln]; exact hlt), g1, mrow_lt hlt, if_pos hlt]
      · rw [if_pos hlt, mrow_lt hlt, hf _ k1 k2 k3, g2]
    · have : i = M.length := by simp at hi; omega
      subst this
      exact ⟨e, e2, by rw [mrow_at, if_neg (by omega), ← h.ln]; simp, by rw [if_neg (by omega), mrow_at, hr]⟩
  · simp only [List.length_append, List.length_singleton] at hi hj
    by_cases a : i < M.length <;> by_cases b : j < M.length
    · simp only [a, b, if_true] at hij; exact h.inj i j a b hij
    · simp only [a, b, if_true, if_false] at hij
      have := h.lo2 i a; omega
    · simp only [a, b, if_true, if_false] at hij
      have := h.lo2 j b; omega
    · omega
  · simp only [List.length_append, List.length_singleton] at hi
    show lo ≤ (if i < M.length then nm i else r) ∧ (if i < M.length then nm i else r) < H'.nb ∧ (if i < M.length then nm i else r) ≠ ob'
    split
    · rename_i a
      have := h.lo2 i a
      exact ⟨this.1, by omega, by omega⟩
    · exact ⟨by omega, h2.2, hne⟩
theorem mset_row_ne {M : List (List Int)} {i k j : Nat} {x : Int} (h : j ≠ i) : mrow (mset M i k x) j = mrow M j := by
  simp [mrow, mset, List.getElem?_set, Ne.symm h]
theorem mset_row_eq {M : List (List Int)} {i k : Nat} {x : Int} (h : i < M.length) : mrow (mset M i k x) i = (mrow M i).set k x := by
  simp [mrow, mset, List.getElem?_set, h]
theorem MatH.set {H : Heap} {lo ob i k : Nat} {cs : List SV} {nm : Nat → Nat} {M : List (List Int)} {x : Int} {e2 : Bool} (h : MatH H lo ob cs nm M) (hi : i < M.length) : MatH (H.set (nm i) (some ⟨ints ((mrow M i).set k x), e2⟩)) lo ob cs nm (mset M i k x) := by
  have hl : (mset M i k x).length = M.length := mset_length ..
  have hi2 := h.lo2 i hi
  refine ⟨by rw [hl, h.ln], by rw [hset_map, if_neg (by omega), h.o], fun j hj => ?_, fun a b ha hb => h.inj a b (by omega) (by omega), h.lo1, fun j hj => h.lo2 j (by omega)⟩
  rw [hl] at hj
  obtain ⟨e, e3, h1, h2⟩ := h.row j hj
  by_cases hji : j = i
  · subst hji
    rw [mset_row_eq hi, List.length_set]
    exact ⟨e, e2, h1, by rw [hset_map, if_pos rfl]⟩
  · rw [mset_row_ne hji]
    exact ⟨e, e3, h1, by rw [hset_map, if_neg (fun g => hji (h.inj _ _ hj hi g)), h2]⟩
/-- The part of a heap from a name on. -/
def Heap.frm (H : Heap) (n : Nat) : Heap := ⟨fun b => if n ≤ b then H.map b else none, H.nb⟩
theorem frm_map (H : Heap) (n b : Nat) : (H.frm n).map b = if n ≤ b then H.map b else none := rfl
theorem MatH.view {H : Heap} {lo ob : Nat} {cs : List SV} {nm : Nat → Nat} {M : List (List Int)} {f cap : Nat} {e : Bool} (h : MatH H lo ob cs nm M) : view (H.frm lo) (f + 2) (.own ob 0 M.length cap 1 e) = some (rr M) := by
  have ho : (H.frm lo).map ob = some ⟨cs, false⟩ := by rw [frm_map, if_pos h.lo1.1, h.o]
  have hL : viewL (H.frm lo) (f + 1) cs = some (rows M) := by
    have hr : ∀ i, i < M.length → ∃ s, cs[i]? = some s ∧ Sh.view (H.frm lo) (f + 1) s = some (ri (mrow M i)) := fun i hi => by
      obtain ⟨e, e2, h1, h2⟩ := h.row i hi
      have k := h.lo2 i hi
      exact ⟨_, h1, view_own (L := mrow M i) (e2 := e2) (by rw [frm_map, if_pos k.1, h2]) rfl⟩
    have hln := h.ln
    clear h ho
    induction cs generalizing M with
    | nil =>
      have : M = [] := List.length_eq_zero_iff.1 hln.symm
      subst this
      exact viewL_nil_of
    | cons s cs ih =>
      cases M with
      | nil => simp at hln
      | cons L M =>
        refine viewL_cons_of ?_ (ih (M := M) (fun i hi => ?_) (by simpa using hln))
        · obtain ⟨s', h1, h2⟩ := hr 0 (by simp)
          simp at h1; subst h1
          exact h2
        · obtain ⟨s', h1, h2⟩ := hr (i + 1) (by simpa using hi)
          exact ⟨s', by simpa using h1, h2⟩
  simp only [Sh.view, ho, Nat.mul_one, List.drop_zero]
  have hle : M.length ≤ cs.length := by rw [h.ln]; omega
  rw [if_pos (by omega), ← h.ln, List.take_length, hL]
  simp only [rr, h.ln]
/-- What a drawing leaves behind. -/
structure DS (B : List Int) (cb : Nat) (H H' : Heap) : Prop where
  cur : Cur B H' cb
  nb : H.nb ≤ H'.nb
  fr : ∀ b, b < H.nb → b ≠ cb → H'.map b = H.map b
theorem DS.refl {B : List Int} {cb : Nat} {H : Heap} (h : Cur B H cb) : DS B cb H H := ⟨h, Nat.le_refl _, fun _ _ _ => rfl⟩
theorem DS.trans {B : List Int} {cb : Nat} {H H1 H2 : Heap} (h : DS B cb H H1) (g : DS B cb H1 H2) : DS B cb H H2 :=
  ⟨g.cur, Nat.le_trans h.nb g.nb, fun b hb hc => by rw [g.fr b (Nat.lt_of_lt_of_le hb h.nb) hc, h.fr b hb hc]⟩
theorem CurS.ds {B : List Int} {cb : Nat} {H H' : Heap} (h : CurS B H cb H') : DS B cb H H' := ⟨h.cur, by rw [h.nb]; exact Nat.le_refl _, fun b _ hc => h.map hc⟩
theorem DS.push {B : List Int} {cb : Nat} {H : Heap} (h : Cur B H cb) (hc : cb < H.nb) (k : Blk) : DS B cb H (H.push k) := by
  obtain ⟨i, x, hi, e⟩ := h
  exact ⟨⟨i, x, hi, by rw [hpush_map, if_neg (by omega), e]⟩, by rw [hpush_nb]; omega, fun b hb _ => by rw [hpush_map, if_neg (by omega)]⟩
theorem DS.setF {B : List Int} {cb : Nat} {H H1 : Heap} (h : DS B cb H H1) (b : Nat) (hb : H.nb ≤ b) (hc : b ≠ cb) (k : Option Blk) : DS B cb H (H1.set b k) := by
  obtain ⟨i, x, hi, e⟩ := h.cur
  exact ⟨⟨i, x, hi, by rw [hset_map, if_neg (Ne.symm hc), e]⟩, h.nb, fun z hz hzc => by rw [hset_map, if_neg (by omega), h.fr z hz hzc]⟩
theorem repI2 : rep [SV.val (.int .i64 0)] 2 = [SV.val (.int .i64 0), SV.val (.int .i64 0)] := rfl
theorem repI3 : rep [SV.val (.int .i64 0)] 3 = [SV.val (.int .i64 0), SV.val (.int .i64 0), SV.val (.int .i64 0)] := rfl
theorem repI6 : rep [SV.val (.int .i64 0)] 6 = [SV.val (.int .i64 0), SV.val (.int .i64 0), SV.val (.int .i64 0), SV.val (.int .i64 0), SV.val (.int .i64 0), SV.val (.int .i64 0)] := rfl
theorem repI10 : rep [SV.val (.int .i64 0)] 10 = [SV.val (.int .i64 0), SV.val (.int .i64 0), SV.val (.int .i64 0), SV.val (.int .i64 0), SV.val (.int .i64 0), SV.val (.int .i64 0), SV.val (.int .i64 0), SV.val (.int .i64 0), SV.val (.int .i64 0), SV.val (.int .i64 0)] := rfl
attribute [go_sem high] repI2 repI3 repI6 repI10
end Go.Sh

/-
  Drawing a matrix: the walks.
-/
namespace Go.Sh
set_option linter.unusedSimpArgs false
set_option linter.unusedVariables false
open Go Go.Proofs

def Rect (M : List (List Int)) (n : Nat) : Prop := ∀ i, i < M.length → (mrow M i).length = n
theorem Rect.set {M : List (List Int)} {n i k : Nat} {x : Int} (h : Rect M n) : Rect (mset M i k x) n := fun j hj => by
  rw [mset_length] at hj
  rw [mset_row_length]; exact h j hj
theorem Rect.snoc {M : List (List Int)} {n : Nat} {L : List Int} (h : Rect M n) (hL : L.length = n) : Rect (M ++ [L]) n := fun j hj => by
  by_cases hlt : j < M.length
  · rw [mrow_lt hlt]; exact h j hlt
  · have : j = M.length := by simp at hj; omega
    subst this; rw [mrow_at]; exact hL
def MQ (B : List Int) (cb : Nat) (H : Heap) (r : SV) (H' : Heap) : Prop :=
  ∃ ob cs nm M, r = .own ob 0 M.length M.length 1 false ∧ MatH H' H.nb ob cs nm M ∧ DS B cb H H' ∧ 1 ≤ M.length ∧ M.length ≤ 6 ∧ Rect M M.length

end Go.Sh

/-
  Drawing a matrix that may be none.
-/
namespace Go.Sh
set_option linter.unusedSimpArgs false
set_option linter.unusedVariables false
open Go Go.Proofs

def AQ (B : List Int) (cb : Nat) (H : Heap) (r : SV) (H' : Heap) : Prop :=
  ∃ ob cs nm M, r = .own ob 0 M.length M.length 1 false ∧ MatH H' H.nb ob cs nm M ∧ DS B cb H H' ∧ (1 ≤ M.length ∧ M.length ≤ 7) ∧ ∀ i, i < M.length → (mrow M i).length ≤ 6

end Go.Sh

/-
  Plain: components of a graph over 0 .. n-1, numbered by their first item; that the labels are determined; what a search leaves behind.
-/
namespace Go.Sh
set_option linter.unusedSimpArgs false
set_option linter.unusedVariables false
open Go Go.Proofs

inductive Rch (n : Nat) (B : Nat → Nat → Bool) : Nat → Nat → Prop
  | refl {x : Nat} : Rch n B x x
  | tail {x y z : Nat} : Rch n B x y → y < n → z < n → B y z = true → Rch n B x z
theorem Rch.trans {n : Nat} {B : Nat → Nat → Bool} {x y z : Nat} (h : Rch n B x y) (g : Rch n B y z) : Rch n B x z := by
  induction g with
  | refl => exact h
  | tail _ h1 h2 h3 ih => exact .tail ih h1 h2 h3
theorem Rch.one {n : Nat} {B : Nat → Nat → Bool} {x y : Nat} (h1 : x < n) (h2 : y < n) (h : B x y = true) : Rch n B x y := .tail .refl h1 h2 h
theorem Rch.symm {n : Nat} {B : Nat → Nat → Bool} (hs : ∀ x y, x < n → y < n → B x y = true → B y x = true) {x y : Nat} (h : Rch n B x y) : Rch n B y x := by
  induction h with
  | refl => exact .refl
  | tail _ h1 h2 h3 ih => exact (Rch.one h2 h1 (hs _ _ h1 h2 h3)).trans ih
theorem Rch.mono {n : Nat} {B B' : Nat → Nat → Bool} (hb : ∀ x y, x < n → y < n → B x y = true → Rch n B' x y) {x y : Nat} (h : Rch n B x y) : Rch n B' x y := by
  induction h with
  | refl => exact .refl
  | tail _ h1 h2 h3 ih => exact ih.trans (hb _ _ h1 h2 h3)
theorem Rch.lt {n : Nat} {B : Nat → Nat → Bool} {x y : Nat} (h : Rch n B x y) (hx : x < n) : y < n := by
  cases h with
  | refl => exact hx
  | tail _ _ h2 _ => exact h2
def RchK (n : Nat) (B : Nat → Nat → Bool) : Nat → Nat → Nat → Prop
  | 0, x, y => x = y
  | k + 1, x, z => RchK n B k x z ∨ ∃ y, y < n ∧ z < n ∧ RchK n B k x y ∧ B y z = true
theorem RchK.rch {n : Nat} {B : Nat → Nat → Bool} : ∀ {k x y : Nat}, RchK n B k x y → Rch n B x y
  | 0, x, y, h => by rw [RchK] at h; subst h; exact .refl
  | k + 1, x, z, h => by
    rw [RchK] at h
    rcases h with h | ⟨y, h1, h2, h3, h4⟩
    · exact RchK.rch h
    · exact .tail (RchK.rch h3) h1 h2 h4
theorem RchK.self {n : Nat} {B : Nat → Nat → Bool} : ∀ {k x : Nat}, RchK n B k x x
  | 0, x => rfl
  | k + 1, x => .inl RchK.self
theorem countP_lt {α : Type} {p q : α → Bool} : ∀ {l : List α} {i : α}, (∀ x ∈ l, p x = true → q x = true) → i ∈ l → q i = true → p i = false → l.countP p < l.countP q
  | [], i, _, h, _, _ => by simp at h
  | a :: l, i, hpq, h, hq, hp => by
    have hle : l.countP p ≤ l.countP q := List.countP_mono_left (fun x hx h => hpq x (by simp [hx]) h)
    rcases List.mem_cons.1 h with rfl | h
    · rw [List.countP_cons_of_neg (by simp [hp]), List.countP_cons_of_pos hq]; omega
    · have := countP_lt (fun x hx => hpq x (by simp [hx])) h hq hp
      rw [List.countP_cons, List.countP_cons]
      have := hpq a (by simp)
      cases hpa : p a with
      | false => simp; omega
      | true => simp [this hpa]; omega
open Classical in
theorem rch_closed {n : Nat} {B : Nat → Nat → Bool} {i : Nat} (hi : i < n) : ∀ k, (∀ x y, x < n → y < n → RchK n B k i x → B x y = true → RchK n B k i y) ∨ k + 1 ≤ (List.range n).countP (fun x => decide (RchK n B k i x))
  | 0 => by
    right
    have : 0 < (List.range n).countP (fun x => decide (RchK n B 0 i x)) := List.countP_pos_iff.2 ⟨i, by simpa using hi, by simp [RchK]⟩
    omega
  | k + 1 => by
    by_cases hc : ∀ x y, x < n → y < n → RchK n B k i x → B x y = true → RchK n B k i y
    · left
      intro x y hx hy h hb
      refine .inl (hc x y hx hy ?_ hb)
      rcases h with h | ⟨z, h1, h2, h3, h4⟩
      · exact h
      · exact hc z x h1 h2 h3 h4
    · right
      have ih := (rch_closed hi k).resolve_left hc
      have : ∃ x y, x < n ∧ y < n ∧ RchK n B k i x ∧ B x y = true ∧ ¬ RchK n B k i y := by
        refine Classical.byContradiction fun hn => hc fun x y hx hy h hb => Classical.byContradiction fun h2 => hn ⟨x, y, hx, hy, h, hb, h2⟩
      obtain ⟨x, y, hx, hy, h, hb, h2⟩ := this
      have := countP_lt (p := fun x => decide (RchK n B k i x)) (q := fun x => decide (RchK n B (k + 1) i x)) (l := List.range n) (i := y)
        (fun z _ hz => decide_eq_true (.inl (of_decide_eq_true hz))) (by simpa using hy) (decide_eq_true (.inr ⟨x, hx, hy, h, hb⟩)) (decide_eq_false h2)
      omega
theorem rch_bound {n : Nat} {B : Nat → Nat → Bool} {i x : Nat} (hi : i < n) (h : Rch n B i x) : RchK n B n i x := by
  have hc := (rch_closed (B := B) hi n).resolve_right (fun h => by
    have := List.countP_le_length (l := List.range n) (p := fun x => @decide (RchK n B n i x) (Classical.propDecidable _))
    simp only [List.length_range] at this
    omega)
  induction h with
  | refl => exact RchK.self
  | tail _ h1 h2 h3 ih => exact hc _ _ h1 h2 ih h3

/-- The labels of the components. -/
structure CompL (n : Nat) (B : Nat → Nat → Bool) (L : List Int) : Prop where
  len : L.length = n
  nn : ∀ x, x < n → 0 ≤ L.getD x 0
  can : ∀ x v, x < n → 0 ≤ v → v < L.getD x 0 → ∃ y, y < x ∧ L.getD y 0 = v
  iff : ∀ x y, x < n → y < n → (L.getD x 0 = L.getD y 0 ↔ Rch n B x y)
theorem list_ext {L L' : List Int} (h : L.length = L'.length) (g : ∀ x, x < L.length → L.getD x 0 = L'.getD x 0) : L = L' := by
  refine List.ext_getElem h fun i h1 h2 => ?_
  have := g i h1
  simpa [h1, h2] using this
theorem CompL.uniq {n : Nat} {B B' : Nat → Nat → Bool} {L L' : List Int} (h : CompL n B L) (h' : CompL n B' L') (hb : ∀ x y, x < n → y < n → (Rch n B x y ↔ Rch n B' x y)) : L = L' := by
  refine list_ext (h.len.trans h'.len.symm) (fun x hx => ?_)
  rw [h.len] at hx
  induction x using Nat.strongRecOn with
  | _ x ih =>
    rcases Int.lt_trichotomy (L.getD x 0) (L'.getD x 0) with hl | he | hl
    · obtain ⟨y, hy, e⟩ := h'.can x _ hx (h.nn x hx) hl
      have e2 := ih y hy (by omega)
      have := (h.iff y x (by omega) hx).1 (by omega)
      have := (h'.iff y x (by omega) hx).2 ((hb _ _ (by omega) hx).1 this)
      omega
    · exact he
    · obtain ⟨y, hy, e⟩ := h.can x _ hx (h'.nn x hx) hl
      have e2 := ih y hy (by omega)
      have := (h'.iff y x (by omega) hx).1 (by omega)
      have := (h.iff y x (by omega) hx).2 ((hb _ _ (by omega) hx).2 this)
      omega
open Classical in
noncomputable def comp (n : Nat) (B : Nat → Nat → Bool) : List Int := if h : ∃ L, CompL n B L then Classical.choose h else []
theorem CompL.eq {n : Nat} {B : Nat → Nat → Bool} {L : List Int} (h : CompL n B L) : L = comp n B := by
  have hex : ∃ L, CompL n B L := ⟨L, h⟩
  rw [comp, dif_pos hex]
  exact h.uniq (Classical.choose_spec hex) (fun _ _ _ _ => Iff.rfl)
theorem CompL.comp {n : Nat} {B : Nat → Nat → Bool} {L : List Int} (h : CompL n B L) : CompL n B (comp n B) := by rw [← h.eq]; exact h

/-- Items before i are labelled, with whole components. -/
structure PartL (n : Nat) (B : Nat → Nat → Bool) (i : Nat) (c : Int) (O : List Int) : Prop where
  len : O.length = n
  c0 : 0 ≤ c
  ci : c ≤ i
  done : ∀ x, x < i → x < n → 0 ≤ O.getD x 0
  rng : ∀ x, x < n → O.getD x 0 < c
  vals : ∀ v, 0 ≤ v → v < c → ∃ y, y < i ∧ y < n ∧ O.getD y 0 = v
  can : ∀ x v, x < n → 0 ≤ v → v < O.getD x 0 → ∃ y, y < x ∧ O.getD y 0 = v
  clo : ∀ x y, x < n → y < n → 0 ≤ O.getD x 0 → B x y = true → O.getD y 0 = O.getD x 0
  snd : ∀ x y, x < n → y < n → 0 ≤ O.getD x 0 → O.getD x 0 = O.getD y 0 → Rch n B x y
theorem getD_rep {n x : Nat} {a : Int} (h : x < n) : (List.replicate n a).getD x 0 = a := by simp [h]
theorem PartL.zero (n : Nat) (B : Nat → Nat → Bool) : PartL n B 0 0 (List.replicate n (-1)) where
  len := by simp
  c0 := by omega
  ci := by omega
  done x h := by omega
  rng x h := by rw [getD_rep h]; omega
  vals v h1 h2 := by omega
  can x v h h1 h2 := by rw [getD_rep h] at h2; omega
  clo x y h1 _ h2 := by rw [getD_rep h1] at h2; omega
  snd x y h1 _ h2 := by rw [getD_rep h1] at h2; omega
theorem PartL.skip {n : Nat} {B : Nat → Nat → Bool} {i : Nat} {c : Int} {O : List Int} (h : PartL n B i c O) (hi : 0 ≤ O.getD i 0) : PartL n B (i + 1) c O where
  len := h.len
  c0 := h.c0
  ci := by have := h.ci; omega
  done x hx hn := by
    rcases Nat.lt_succ_iff_lt_or_eq.1 hx with g | rfl
    · exact h.done x g hn
    · exact hi
  rng := h.rng
  vals v h1 h2 := by
    obtain ⟨y, g1, g2⟩ := h.vals v h1 h2
    exact ⟨y, by omega, g2⟩
  can := h.can
  clo := h.clo
  snd := h.snd
theorem PartL.path {n : Nat} {B : Nat → Nat → Bool} {i : Nat} {c : Int} {O : List Int} (h : PartL n B i c O) {x y : Nat} (hr : Rch n B x y) (h0 : 0 ≤ O.getD x 0) : O.getD y 0 = O.getD x 0 := by
  induction hr with
  | refl => rfl
  | tail _ h1 h2 h3 ih => rw [h.clo _ _ h1 h2 (by rw [ih]; exact h0) h3, ih]
/-- O' is O with the component of i labelled c. -/
structure NewL (n : Nat) (B : Nat → Nat → Bool) (c : Int) (i : Nat) (O O' : List Int) : Prop where
  len : O'.length = n
  new : ∀ x, x < n → Rch n B i x → O'.getD x 0 = c
  old : ∀ x, x < n → ¬ Rch n B i x → 0 ≤ O.getD x 0 → O'.getD x 0 = O.getD x 0
  neg : ∀ x, x < n → ¬ Rch n B i x → O.getD x 0 < 0 → O'.getD x 0 < 0
theorem PartL.unl {n : Nat} {B : Nat → Nat → Bool} (hs : ∀ x y, x < n → y < n → B x y = true → B y x = true) {i : Nat} {c : Int} {O : List Int} (h : PartL n B i c O) {k : Nat} (h0 : O.getD k 0 < 0) {x : Nat} (hr : Rch n B k x) : O.getD x 0 < 0 := by
  refine Int.not_le.1 fun hn => ?_
  have := h.path (hr.symm hs) hn
  omega
theorem PartL.step {n : Nat} {B : Nat → Nat → Bool} (hs : ∀ x y, x < n → y < n → B x y = true → B y x = true) {i : Nat} {c : Int} {O O' : List Int} (h : PartL n B i c O) (hi : i < n) (h0 : O.getD i 0 < 0) (g : NewL n B c i O O') : PartL n B (i + 1) (c + 1) O' := by
  have hun : ∀ x, Rch n B i x → O.getD x 0 < 0 := fun x hr => h.unl hs h0 hr
  have hkeep : ∀ x, x < n → 0 ≤ O.getD x 0 → O'.getD x 0 = O.getD x 0 := fun x hx hn => g.old x hx (fun hr => by have := hun x hr; omega) hn
  have hback : ∀ x, x < n → ¬ Rch n B i x → 0 ≤ O'.getD x 0 → O'.getD x 0 = O.getD x 0 ∧ 0 ≤ O.getD x 0 := by
    intro x hx hr hn
    by_cases h1 : 0 ≤ O.getD x 0
    · exact ⟨hkeep x hx h1, h1⟩
    · have := g.neg x hx hr (by omega); omega
  have hc0 := h.c0
  have hci := h.ci
  refine ⟨g.len, by omega, by omega, ?_, ?_, ?_, ?_, ?_, ?_⟩
  · intro x hx hn
    rcases Nat.lt_succ_iff_lt_or_eq.1 hx with k | rfl
    · have := h.done x k hn
      rw [hkeep x hn this]; exact this
    · rw [g.new x hn .refl]; omega
  · intro x hx
    by_cases hr : Rch n B i x
    · rw [g.new x hx hr]; omega
    · by_cases hn : 0 ≤ O'.getD x 0
      · have := hback x hx hr hn
        have := h.rng x hx
        omega
      · omega
  · intro v h1 h2
    by_cases hv : v = c
    · exact ⟨i, by omega, hi, by rw [g.new i hi .refl, hv]⟩
    · obtain ⟨y, k1, k2, k3⟩ := h.vals v h1 (by omega)
      exact ⟨y, by omega, k2, by rw [hkeep y k2 (by omega), k3]⟩
  · intro x v hx h1 h2
    by_cases hr : Rch n B i x
    · rw [g.new x hx hr] at h2
      obtain ⟨y, k1, k2, k3⟩ := h.vals v h1 h2
      have : ¬ x < i := fun hl => by have := h.done x hl hx; have := hun x hr; omega
      exact ⟨y, by omega, by rw [hkeep y k2 (by omega), k3]⟩
    · have hb := hback x hx hr (by omega)
      rw [hb.1] at h2
      obtain ⟨y, k1, k2⟩ := h.can x v hx h1 h2
      exact ⟨y, k1, by rw [hkeep y (by omega) (by omega), k2]⟩
  · intro x y hx hy h1 hb
    by_cases hr : Rch n B i x
    · rw [g.new x hx hr, g.new y hy (.tail hr hx hy hb)]
    · have hq := hback x hx hr h1
      have := h.clo x y hx hy hq.2 hb
      rw [hkeep y hy (by omega)]
      omega
  · intro x y hx hy h1 he
    by_cases hr : Rch n B i x
    · by_cases hr2 : Rch n B i y
      · exact (hr.symm hs).trans hr2
      · have := g.new x hx hr
        have := hback y hy hr2 (by omega)
        have := h.rng y hy
        omega
    · have hq := hback x hx hr h1
      by_cases hr2 : Rch n B i y
      · have := g.new y hy hr2
        have := h.rng x hx
        omega
      · have := hback y hy hr2 (by omega)
        exact h.snd x y hx hy hq.2 (by omega)
theorem PartL.final {n : Nat} {B : Nat → Nat → Bool} {i : Nat} {c : Int} {O : List Int} (h : PartL n B i c O) (hi : n ≤ i) : CompL n B O where
  len := h.len
  nn x hx := h.done x (by omega) hx
  can := h.can
  iff x y hx hy := ⟨fun e => h.snd x y hx hy (h.done x (by omega) hx) e, fun r => (h.path r (h.done x (by omega) hx)).symm⟩

/-! ### The search that calls itself -/
structure DfsL (n : Nat) (B : Nat → Nat → Bool) (c : Int) (i : Nat) (O O' : List Int) : Prop where
  len : O'.length = n
  self : O'.getD i 0 = c
  keep : ∀ x, x < n → 0 ≤ O.getD x 0 → O'.getD x 0 = O.getD x 0
  new : ∀ x, x < n → O.getD x 0 < 0 → O'.getD x 0 < 0 ∨ (O'.getD x 0 = c ∧ Rch n B i x)
  clo : ∀ x y, x < n → y < n → O.getD x 0 < 0 → 0 ≤ O'.getD x 0 → B x y = true → 0 ≤ O'.getD y 0
structure DfsK (n : Nat) (B : Nat → Nat → Bool) (c : Int) (i : Nat) (O : List Int) (k : Nat) (O' : List Int) : Prop where
  len : O'.length = n
  self : O'.getD i 0 = c
  keep : ∀ x, x < n → 0 ≤ O.getD x 0 → O'.getD x 0 = O.getD x 0
  new : ∀ x, x < n → O.getD x 0 < 0 → O'.getD x 0 < 0 ∨ (O'.getD x 0 = c ∧ Rch n B i x)
  clo : ∀ x y, x < n → y < n → x ≠ i → O.getD x 0 < 0 → 0 ≤ O'.getD x 0 → B x y = true → 0 ≤ O'.getD y 0
  cli : ∀ y, y < n → y < k → B i y = true → 0 ≤ O'.getD y 0
theorem getD_set {L : List Int} {i x : Nat} {a : Int} (hi : i < L.length) : (L.set i a).getD x 0 = if x = i then a else L.getD x 0 := by
  simp only [List.getD_eq_getElem?_getD, List.getElem?_set]
  by_cases h : i = x
  · subst h; simp [hi]
  · have : ¬ x = i := fun e => h e.symm
    simp [h, this]
theorem DfsK.start {n : Nat} {B : Nat → Nat → Bool} {c : Int} {i : Nat} {O : List Int} (hl : O.length = n) (hi : i < n) (h0 : O.getD i 0 < 0) : DfsK n B c i O 0 (O.set i c) where
  len := by simpa using hl
  self := by rw [getD_set (by omega), if_pos rfl]
  keep x hx h := by
    rw [getD_set (by omega), if_neg (fun e => by subst e; omega)]
  new x hx h := by
    rw [getD_set (by omega)]
    by_cases e : x = i
    · subst e; rw [if_pos rfl]; exact .inr ⟨rfl, .refl⟩
    · rw [if_neg e]; exact .inl h
  clo x y hx hy hne h h2 hb := by
    rw [getD_set (by omega), if_neg hne] at h2; omega
  cli y _ h := by omega
theorem DfsK.skip {n : Nat} {B : Nat → Nat → Bool} {c : Int} {i k : Nat} {O O' : List Int} (h : DfsK n B c i O k O') (hk : B i k = true → 0 ≤ O'.getD k 0) : DfsK n B c i O (k + 1) O' := by
  refine ⟨h.len, h.self, h.keep, h.new, h.clo, fun y hy hlt hb => ?_⟩
  rcases Nat.lt_succ_iff_lt_or_eq.1 hlt with g | rfl
  · exact h.cli y hy g hb
  · exact hk hb
theorem DfsK.step {n : Nat} {B : Nat → Nat → Bool} {c : Int} (hc : 0 ≤ c) {i k : Nat} {O O1 O2 : List Int} (hi : i < n) (hk : k < n) (h : DfsK n B c i O k O1) (hb : B i k = true) (hneg : O1.getD k 0 < 0) (g : DfsL n B c k O1 O2) : DfsK n B c i O (k + 1) O2 where
  len := g.len
  self := by rw [g.keep i hi (by rw [h.self]; exact hc), h.self]
  keep x hx h1 := by rw [g.keep x hx (by rw [h.keep x hx h1]; exact h1), h.keep x hx h1]
  new x hx h1 := by
    rcases h.new x hx h1 with g1 | ⟨g1, g2⟩
    · rcases g.new x hx g1 with g3 | ⟨g3, g4⟩
      · exact .inl g3
      · exact .inr ⟨g3, (Rch.one hi hk hb).trans g4⟩
    · exact .inr ⟨by rw [g.keep x hx (by omega), g1], g2⟩
  clo x y hx hy hne h1 h2 hb := by
    by_cases h3 : 0 ≤ O1.getD x 0
    · have := h.clo x y hx hy hne h1 h3 hb
      rw [g.keep y hy this]; exact this
    · exact g.clo x y hx hy (by omega) h2 hb
  cli y hy hlt hb := by
    rcases Nat.lt_succ_iff_lt_or_eq.1 hlt with k1 | rfl
    · have := h.cli y hy k1 hb
      rw [g.keep y hy this]; exact this
    · rw [g.self]; exact hc
theorem DfsK.final {n : Nat} {B : Nat → Nat → Bool} {c : Int} {i k : Nat} {O O' : List Int} (h : DfsK n B c i O k O') (hk : n ≤ k) : DfsL n B c i O O' where
  len := h.len
  self := h.self
  keep := h.keep
  new := h.new
  clo x y hx hy h1 h2 hb := by
    by_cases e : x = i
    · subst e; exact h.cli y hy (by omega) hb
    · exact h.clo x y hx hy e h1 h2 hb
def negs (n : Nat) (O : List Int) : Nat := (List.range n).countP fun x => decide (O.getD x 0 < 0)
theorem DfsK.negs {n : Nat} {B : Nat → Nat → Bool} {c : Int} (hc : 0 ≤ c) {i k : Nat} {O O' : List Int} (h : DfsK n B c i O k O') (hi : i < n) (h0 : O.getD i 0 < 0) : negs n O' < negs n O := by
  refine countP_lt (i := i) (fun x hx hd => ?_) (by simpa using hi) (decide_eq_true h0) (decide_eq_false (by rw [h.self]; omega))
  have hx : x < n := by simpa using hx
  have := of_decide_eq_true hd
  refine decide_eq_true (Int.not_le.1 fun hn => ?_)
  rw [h.keep x hx hn] at this
  omega
theorem negs_pos {n i : Nat} {O : List Int} (hi : i < n) (h : O.getD i 0 < 0) : 0 < negs n O := List.countP_pos_iff.2 ⟨i, by simpa using hi, decide_eq_true h⟩
theorem DfsL.newL {n : Nat} {B : Nat → Nat → Bool} (hs : ∀ x y, x < n → y < n → B x y = true → B y x = true) {i j : Nat} {c : Int} {O O' : List Int} (h : PartL n B j c O) (hi : i < n) (h0 : O.getD i 0 < 0) (g : DfsL n B c i O O') : NewL n B c i O O' where
  len := g.len
  new x hx hr := by
    have hun : ∀ x, Rch n B i x → O.getD x 0 < 0 := fun x hr => h.unl hs h0 hr
    induction hr with
    | refl => exact g.self
    | tail h1 h2 h3 h4 ih =>
      have e := ih h2
      have hc0 := h.c0
      have := g.clo _ _ h2 h3 (hun _ h1) (by omega) h4
      rcases g.new _ h3 (hun _ (.tail h1 h2 h3 h4)) with k | k
      · omega
      · exact k.1
  old x hx _ h1 := g.keep x hx h1
  neg x hx hr h1 := by
    rcases g.new x hx h1 with k | k
    · exact k
    · exact absurd k.2 hr

/-! ### The search by rounds -/
structure SpI (n : Nat) (B : Nat → Nat → Bool) (c : Int) (i : Nat) (O : List Int) (s a b : Nat) (O' : List Int) : Prop where
  len : O'.length = n
  all : ∀ x, x < n → O'.getD x 0 = O.getD x 0 ∨ (O'.getD x 0 = c ∧ Rch n B i x)
  rk : ∀ x, x < n → RchK n B s i x → O'.getD x 0 = c
  rows : ∀ z y, z < a → z < n → y < n → RchK n B s i z → B z y = true → O'.getD y 0 = c
  row : ∀ y, y < b → y < n → RchK n B s i a → B a y = true → O'.getD y 0 = c
theorem SpI.start {n : Nat} {B : Nat → Nat → Bool} {c : Int} {i : Nat} {O : List Int} (hl : O.length = n) (hi : i < n) : SpI n B c i O 0 0 0 (O.set i c) where
  len := by simpa using hl
  all x hx := by
    rw [getD_set (by omega)]
    by_cases e : x = i
    · subst e; rw [if_pos rfl]; exact .inr ⟨rfl, .refl⟩
    · rw [if_neg e]; exact .inl rfl
  rk x hx hr := by
    rw [RchK] at hr; subst hr
    rw [getD_set (by omega), if_pos rfl]
  rows z y h := by omega
  row y h := by omega
theorem SpI.skip {n : Nat} {B : Nat → Nat → Bool} {c : Int} {i s a b : Nat} {O O' : List Int} (h : SpI n B c i O s a b O') (ha : a < n) (hn : ¬ (O'.getD a 0 = c ∧ B a b = true)) : SpI n B c i O s a (b + 1) O' := by
  refine ⟨h.len, h.all, h.rk, h.rows, fun y hy hyn hr hb => ?_⟩
  rcases Nat.lt_succ_iff_lt_or_eq.1 hy with g | rfl
  · exact h.row y g hyn hr hb
  · exact absurd ⟨h.rk a ha hr, hb⟩ hn
theorem SpI.put {n : Nat} {B : Nat → Nat → Bool} {c : Int} {i s a b : Nat} {O O' : List Int} (hr : ∀ x, x < n → O.getD x 0 < c) (h : SpI n B c i O s a b O') (ha : a < n) (hb : b < n) (h1 : O'.getD a 0 = c) (h2 : B a b = true) : SpI n B c i O s a (b + 1) (O'.set b c) := by
  have hl := h.len
  have g : ∀ x, (O'.set b c).getD x 0 = if x = b then c else O'.getD x 0 := fun x => getD_set (by omega)
  have ra : Rch n B i a := by
    rcases h.all a ha with e | e
    · have := hr a ha; omega
    · exact e.2
  have hk : ∀ x, O'.getD x 0 = c → (O'.set b c).getD x 0 = c := fun x e => by
    rw [g]; split
    · rfl
    · exact e
  refine ⟨by simpa using hl, fun x hx => ?_, fun x hx hr => hk x (h.rk x hx hr), fun z y h3 h4 h5 h6 h7 => hk y (h.rows z y h3 h4 h5 h6 h7), fun y hy hyn h3 h4 => ?_⟩
  · rw [g]
    by_cases e : x = b
    · subst e; rw [if_pos rfl]; exact .inr ⟨rfl, .tail ra ha hb h2⟩
    · rw [if_neg e]; exact h.all x hx
  · rcases Nat.lt_succ_iff_lt_or_eq.1 hy with k | rfl
    · exact hk y (h.row y k hyn h3 h4)
    · rw [g, if_pos rfl]
theorem SpI.next {n : Nat} {B : Nat → Nat → Bool} {c : Int} {i s a b : Nat} {O O' : List Int} (h : SpI n B c i O s a b O') (hb : n ≤ b) : SpI n B c i O s (a + 1) 0 O' := by
  refine ⟨h.len, h.all, h.rk, fun z y h1 h2 h3 h4 h5 => ?_, fun y hy => by omega⟩
  rcases Nat.lt_succ_iff_lt_or_eq.1 h1 with g | rfl
  · exact h.rows z y g h2 h3 h4 h5
  · exact h.row y (by omega) h3 h4 h5
theorem SpI.round {n : Nat} {B : Nat → Nat → Bool} {c : Int} {i s a b : Nat} {O O' : List Int} (h : SpI n B c i O s a b O') (ha : n ≤ a) : SpI n B c i O (s + 1) 0 0 O' := by
  refine ⟨h.len, h.all, fun x hx hr => ?_, fun z y h1 => by omega, fun y h1 => by omega⟩
  rcases hr with hr | ⟨y, h1, h2, h3, h4⟩
  · exact h.rk x hx hr
  · exact h.rows y x (by omega) h1 h2 h3 h4
theorem SpI.newL {n : Nat} {B : Nat → Nat → Bool} {c : Int} {i a b : Nat} {O O' : List Int} (hi : i < n) (h : SpI n B c i O n a b O') : NewL n B c i O O' where
  len := h.len
  new x hx hr := h.rk x hx (rch_bound hi hr)
  old x hx hr _ := by
    rcases h.all x hx with e | e
    · exact e
    · exact absurd e.2 hr
  neg x hx hr h0 := by
    rcases h.all x hx with e | e
    · omega
    · exact absurd e.2 hr
open Classical in
theorem PartL.ex {n : Nat} {B : Nat → Nat → Bool} (hs : ∀ x y, x < n → y < n → B x y = true → B y x = true) : ∀ i, i ≤ n → ∃ c O, PartL n B i c O
  | 0, _ => ⟨0, _, .zero n B⟩
  | i + 1, hi => by
    obtain ⟨c, O, h⟩ := PartL.ex hs i (by omega)
    by_cases h0 : 0 ≤ O.getD i 0
    · exact ⟨c, O, h.skip h0⟩
    · have e : ∀ x, x < n → ((List.range n).map fun x => if Rch n B i x then c else O.getD x 0).getD x 0 = if Rch n B i x then c else O.getD x 0 := by
        intro x hx
        simp [hx]
      refine ⟨c + 1, _, h.step hs (by omega) (by omega) (O' := (List.range n).map fun x => if Rch n B i x then c else O.getD x 0) ⟨by simp, fun x hx hr => ?_, fun x hx hr _ => ?_, fun x hx hr h1 => ?_⟩⟩
      · rw [e x hx, if_pos hr]
      · rw [e x hx, if_neg hr]
      · rw [e x hx, if_neg hr]; exact h1
theorem comp_ok {n : Nat} {B : Nat → Nat → Bool} (hs : ∀ x y, x < n → y < n → B x y = true → B y x = true) : CompL n B (comp n B) := by
  obtain ⟨c, O, h⟩ := PartL.ex hs n (Nat.le_refl _)
  exact (h.final (Nat.le_refl _)).comp
theorem comp_congr {n : Nat} {B B' : Nat → Nat → Bool} {L L' : List Int} (h : CompL n B L) (h' : CompL n B' L') (h1 : ∀ x y, x < n → y < n → B x y = true → Rch n B' x y) (h2 : ∀ x y, x < n → y < n → B' x y = true → Rch n B x y) : comp n B = comp n B' := by
  rw [← h.eq, ← h'.eq]
  exact h.uniq h' (fun x y _ _ => ⟨fun r => r.mono h1, fun r => r.mono h2⟩)
end Go.Sh

/-
  Contracts: is it a weight matrix? Of the reference and of the program.
-/
namespace Go.Sh
set_option linter.unusedSimpArgs false
set_option linter.unusedVariables false
open Go Go.Proofs

def WM (M : List (List Int)) : Prop := (1 ≤ M.length ∧ M.length ≤ 8) ∧ (∀ i, i < M.length → (mrow M i).length = M.length) ∧ (∀ i k, i < M.length → k < M.length → (-1000 ≤ mat M i k ∧ mat M i k ≤ 1000) ∧ mat M i k = mat M k i) ∧ ∀ i, i < M.length → mat M i i = 0
open Classical in
noncomputable def isWM (M : List (List Int)) : Bool := decide (WM M)
open Classical in
theorem isWM_f {M : List (List Int)} (h : ¬ WM M) : isWM M = false := decide_eq_false h
open Classical in
theorem isWM_t {M : List (List Int)} (h : WM M) : isWM M = true := decide_eq_true h

open Classical in
theorem WM_of {M : List (List Int)} (h : isWM M = true) : WM M := by
  unfold isWM at h
  exact of_decide_eq_true h
theorem inR_not {x a b : Int} (h : inR x a b = false) : ¬ (a ≤ x ∧ x ≤ b) := by
  rintro ⟨h1, h2⟩
  rw [inR_tt h1 h2] at h
  cases h
theorem ints_get' {L : List Int} {k n : Nat} (hl : L.length = n) (h : k < n) : (ints L)[k]? = some (.val (.int .i64 (L.getD k 0))) := ints_get (by omega)

set_option maxHeartbeats 4000000 in
theorem Tryd.specIsWM_ok (M : List (List Int)) (hM : M.length ≤ 1048576) (hR : ∀ i, i < M.length → (mrow M i).length ≤ 1048576) : PCall Tryd.prog 59 [rr M] (.val (.bool (isWM M))) := by
  refine FCall.pcall (R := fun r _ => r = .val (.bool (isWM M))) ?_ 0 (by rintro r H rfl; exact view_bool)
  refine FCall.of_body Tryd.func59 rfl (by kernel_rfl) (by simp [Tryd.ntmps59]) ?_
  refine SW_of_vc Tryd.mixed _ _ _ (by kernel_rfl) ?_
  simp (disch := omega) only [Tryd.ntmps59, Tryd.results59, go_sem, rr_eq]
  refine LoopW.loop (fun i : Nat => ⟨ofL [(0, rr M), (3, .val (.int .i64 i))], hp [] 0⟩) (fun i => i ≤ M.length ∧ ∀ x, x < i → (mrow M x).length = M.length) (fun i => M.length - i) 0 ⟨by omega, by intro x h; omega⟩ (Wk.of (by simp only [go_sem, ↓List.forall_mem_cons, List.not_mem_nil, false_implies, implies_true, and_true, true_and, and_self, ri_eq, Int.natCast_add, Int.cast_ofNat_Int, rr_eq]; try simp) rfl) ?_
  rintro i ⟨hi, hii⟩
  refine SW_of_vc Tryd.mixed _ _ _ (by kernel_rfl) ?_
  by_cases hlt : i < M.length
  · by_cases hr : (mrow M i).length = M.length
    · simp (disch := omega) only [Tryd.ntmps59, Tryd.results59, go_sem, rr_eq, rows_get, hr]
      refine ⟨i + 1, ⟨by omega, fun x hx => ?_⟩, by omega, Wk.of (by simp only [go_sem, ↓List.forall_mem_cons, List.not_mem_nil, false_implies, implies_true, and_true, true_and, and_self, ri_eq, Int.natCast_add, Int.cast_ofNat_Int, rr_eq]; try simp) rfl⟩
      rcases Nat.lt_succ_iff_lt_or_eq.mp hx with h | rfl
      · exact hii x h
      · exact hr
    · have hri := hR i hlt
      simp (disch := omega) only [Tryd.ntmps59, Tryd.results59, go_sem, rr_eq, rows_get]
      exact Fin.val (by rw [isWM_f (fun h => hr (h.2.1 i hlt))])
  · obtain rfl : i = M.length := by omega
    simp (disch := omega) only [Tryd.ntmps59, Tryd.results59, go_sem, rr_eq]
    refine LoopW.loop (fun i : Nat => ⟨ofL [(0, rr M), (4, .val (.int .i64 i))], hp [] 0⟩) (fun i => i ≤ M.length ∧ ∀ x k, x < i → k < M.length → (-1000 ≤ mat M x k ∧ mat M x k ≤ 1000) ∧ mat M x k = mat M k x ∧ (x = k → mat M x k = 0)) (fun i => M.length - i) 0 ⟨by omega, by intro x k h; omega⟩ (Wk.of (by simp only [go_sem, ↓List.forall_mem_cons, List.not_mem_nil, false_implies, implies_true, and_true, true_and, and_self, ri_eq, Int.natCast_add, Int.cast_ofNat_Int, rr_eq]; try simp) rfl) ?_
    rintro i ⟨hi1, hi2⟩
    refine SW_of_vc Tryd.mixed _ _ _ (by kernel_rfl) ?_
    by_cases hlt1 : i < M.length
    · simp (disch := omega) only [Tryd.ntmps59, Tryd.results59, go_sem, rr_eq]
      refine LoopW.loop (fun k : Nat => ⟨ofL [(0, rr M), (4, .val (.int .i64 i)), (5, .val (.int .i64 k))], hp [] 0⟩) (fun k => k ≤ M.length ∧ ∀ y, y < k → (-1000 ≤ mat M i y ∧ mat M i y ≤ 1000) ∧ mat M i y = mat M y i ∧ (i = y → mat M i y = 0)) (fun k => M.length - k) 0 ⟨by omega, by intro y h; omega⟩ (Wk.of (by simp only [go_sem, ↓List.forall_mem_cons, List.not_mem_nil, false_implies, implies_true, and_true, true_and, and_self, ri_eq, Int.natCast_add, Int.cast_ofNat_Int, rr_eq]; try simp) rfl) ?_
      rintro k ⟨hk1, hk2⟩
      refine SW_of_vc Tryd.mixed _ _ _ (by kernel_rfl) ?_
      by_cases hlt2 : k < M.length
      · have hri := hii i hlt1
        have hrk := hii k hlt2
        have g1 : (ints (mrow M i))[k]? = some (.val (.int .i64 (mat M i k))) := ints_get' hri hlt2
        have g2 : (ints (mrow M k))[i]? = some (.val (.int .i64 (mat M k i))) := ints_get' hrk hlt1
        obtain ⟨a, ha⟩ : ∃ a, mat M i k = a := ⟨_, rfl⟩
        obtain ⟨b, hb⟩ : ∃ b, mat M k i = b := ⟨_, rfl⟩
        rw [ha] at g1
        rw [hb] at g2
        have w := Tryd.l1In_ok a (-1000) 1000
        rcases Bool.eq_false_or_eq_true (inR a (-1000) 1000) with h1 | h1
        · obtain ⟨r1, r2⟩ := inR_of h1
          rw [h1] at w
          by_cases h2 : a = b
          · by_cases h3 : i = k
            · by_cases h4 : a = 0
              · simp (disch := omega) only [Tryd.ntmps59, Tryd.results59, go_sem, rr_eq, rows_get, hri, hrk, g1, g2]
                refine w.callDV 0 (viewL_cons_of (view_int) (viewL_cons_of (view_int) (viewL_cons_of (view_int) viewL_nil_of))) ?_
                simp (disch := omega) only [Tryd.ntmps59, Tryd.results59, go_sem, rr_eq, rows_get, hri, hrk, g1, g2]
                refine ⟨k + 1, ⟨by omega, fun y hy => ?_⟩, by omega, Wk.of (by simp only [go_sem, ↓List.forall_mem_cons, List.not_mem_nil, false_implies, implies_true, and_true, true_and, and_self, ri_eq, Int.natCast_add, Int.cast_ofNat_Int, rr_eq]; try simp) rfl⟩
                rcases Nat.lt_succ_iff_lt_or_eq.mp hy with h | rfl
                · exact hk2 y h
                · rw [ha, hb]; exact ⟨⟨r1, r2⟩, h2, fun _ => h4⟩
              · simp (disch := omega) only [Tryd.ntmps59, Tryd.results59, go_sem, rr_eq, rows_get, hri, hrk, g1, g2]
                refine w.callDV 0 (viewL_cons_of (view_int) (viewL_cons_of (view_int) (viewL_cons_of (view_int) viewL_nil_of))) ?_
                simp (disch := omega) only [Tryd.ntmps59, Tryd.results59, go_sem, rr_eq, rows_get, hri, hrk, g1, g2]
                exact Fin.val (by rw [isWM_f (fun h => h4 (by have := h.2.2.2 i hlt1; rw [← ha, ← h3]; exact this))])
            · simp (disch := omega) only [Tryd.ntmps59, Tryd.results59, go_sem, rr_eq, rows_get, hri, hrk, g1, g2]
              refine w.callDV 0 (viewL_cons_of (view_int) (viewL_cons_of (view_int) (viewL_cons_of (view_int) viewL_nil_of))) ?_
              simp (disch := omega) only [Tryd.ntmps59, Tryd.results59, go_sem, rr_eq, rows_get, hri, hrk, g1, g2]
              refine ⟨k + 1, ⟨by omega, fun y hy => ?_⟩, by omega, Wk.of (by simp only [go_sem, ↓List.forall_mem_cons, List.not_mem_nil, false_implies, implies_true, and_true, true_and, and_self, ri_eq, Int.natCast_add, Int.cast_ofNat_Int, rr_eq]; try simp) rfl⟩
              rcases Nat.lt_succ_iff_lt_or_eq.mp hy with h | rfl
              · exact hk2 y h
              · rw [ha, hb]; exact ⟨⟨r1, r2⟩, h2, fun e => absurd e h3⟩
          · simp (disch := omega) only [Tryd.ntmps59, Tryd.results59, go_sem, rr_eq, rows_get, hri, hrk, g1, g2]
            refine w.callDV 0 (viewL_cons_of (view_int) (viewL_cons_of (view_int) (viewL_cons_of (view_int) viewL_nil_of))) ?_
            simp (disch := omega) only [Tryd.ntmps59, Tryd.results59, go_sem, rr_eq, rows_get, hri, hrk, g1, g2]
            exact Fin.val (by rw [isWM_f (fun h => h2 (by have := (h.2.2.1 i k hlt1 hlt2).2; rw [ha, hb] at this; exact this))])
        · rw [h1] at w
          simp (disch := omega) only [Tryd.ntmps59, Tryd.results59, go_sem, rr_eq, rows_get, hri, hrk, g1, g2]
          refine w.callDV 0 (viewL_cons_of (view_int) (viewL_cons_of (view_int) (viewL_cons_of (view_int) viewL_nil_of))) ?_
          simp (disch := omega) only [Tryd.ntmps59, Tryd.results59, go_sem, rr_eq]
          exact Fin.val (by rw [isWM_f (fun h => inR_not h1 (by have := (h.2.2.1 i k hlt1 hlt2).1; rw [ha] at this; exact this))])
      · obtain rfl : k = M.length := by omega
        simp (disch := omega) only [Tryd.ntmps59, Tryd.results59, go_sem, rr_eq]
        refine ⟨i + 1, ⟨by omega, fun x y hx hy => ?_⟩, by omega, Wk.of (by simp only [go_sem, ↓List.forall_mem_cons, List.not_mem_nil, false_implies, implies_true, and_true, true_and, and_self, ri_eq, Int.natCast_add, Int.cast_ofNat_Int, rr_eq]; try simp) rfl⟩
        rcases Nat.lt_succ_iff_lt_or_eq.mp hx with h | rfl
        · exact hi2 x y h hy
        · exact hk2 y hy
    · obtain rfl : i = M.length := by omega
      have w := Tryd.l1In_ok (M.length : Int) 1 8
      rcases Bool.eq_false_or_eq_true (inR (M.length : Int) 1 8) with h1 | h1
      · obtain ⟨r1, r2⟩ := inR_of h1
        rw [h1] at w
        simp (disch := omega) only [Tryd.ntmps59, Tryd.results59, go_sem, rr_eq]
        refine w.callV 0 (viewL_cons_of (view_int) (viewL_cons_of (view_int) (viewL_cons_of (view_int) viewL_nil_of))) ?_
        simp (disch := omega) only [Tryd.ntmps59, Tryd.results59, go_sem, rr_eq]
        exact Fin.val (by rw [isWM_t ⟨⟨by omega, by omega⟩, hii, fun x y hx hy => ⟨(hi2 x y hx hy).1, (hi2 x y hx hy).2.1⟩, fun x hx => (hi2 x x hx hx).2.2 rfl⟩])
      · rw [h1] at w
        simp (disch := omega) only [Tryd.ntmps59, Tryd.results59, go_sem, rr_eq]
        refine w.callV 0 (viewL_cons_of (view_int) (viewL_cons_of (view_int) (viewL_cons_of (view_int) viewL_nil_of))) ?_
        simp (disch := omega) only [Tryd.ntmps59, Tryd.results59, go_sem, rr_eq]
        exact Fin.val (by rw [isWM_f (fun h => inR_not h1 (by have := h.1; omega))])

set_option maxHeartbeats 4000000 in
theorem Tryd.implIsWM_ok (M : List (List Int)) (hM : M.length ≤ 1048576) (hR : ∀ i, i < M.length → (mrow M i).length ≤ 1048576) : PCall Tryd.prog 60 [rr M] (.val (.bool (isWM M))) := by
  refine FCall.pcall (R := fun r _ => r = .val (.bool (isWM M))) ?_ 0 (by rintro r H rfl; exact view_bool)
  refine FCall.of_body Tryd.func60 rfl (by kernel_rfl) (by simp [Tryd.ntmps60]) ?_
  refine SW_of_vc Tryd.mixed _ _ _ (by kernel_rfl) ?_
  have w := Tryd.within_ok (M.length : Int) 1 8
  rcases Bool.eq_false_or_eq_true (inR (M.length : Int) 1 8) with hn | hn
  · obtain ⟨n1, n2⟩ := inR_of hn
    rw [hn] at w
    simp (disch := omega) only [Tryd.ntmps60, Tryd.results60, go_sem, rr_eq]
    refine w.callV 0 (viewL_cons_of (view_int) (viewL_cons_of (view_int) (viewL_cons_of (view_int) viewL_nil_of))) ?_
    simp (disch := omega) only [Tryd.ntmps60, Tryd.results60, go_sem, rr_eq]
    refine LoopW.loop (fun i : Nat => ⟨ofL [(0, rr M), (11, rr M), (12, .val (.int .i64 M.length)), (13, .val (.int .i64 i))], hp [] 0⟩) (fun i => i ≤ M.length ∧ ∀ x, x < i → (mrow M x).length = M.length ∧ mat M x x = 0 ∧ ∀ y, y < x → (-1000 ≤ mat M x y ∧ mat M x y ≤ 1000) ∧ mat M y x = mat M x y) (fun i => M.length - i) 0 ⟨by omega, by intro x h; omega⟩ (Wk.of (by simp only [go_sem, ↓List.forall_mem_cons, List.not_mem_nil, false_implies, implies_true, and_true, true_and, and_self, ri_eq, Int.natCast_add, Int.cast_ofNat_Int, rr_eq]; try simp) rfl) ?_
    rintro i ⟨hi, hii⟩
    refine SW_of_vc Tryd.mixed _ _ _ (by kernel_rfl) ?_
    by_cases hlt : i < M.length
    · have hrm := hR i hlt
      by_cases hr : (mrow M i).length = M.length
      · have g0 : (ints (mrow M i))[i]? = some (.val (.int .i64 (mat M i i))) := ints_get' hr hlt
        by_cases hd : mat M i i = 0
        · rw [hd] at g0
          simp (disch := omega) only [Tryd.ntmps60, Tryd.results60, go_sem, rr_eq, rows_get, hr, g0]
          have hlt' : ((mrow M i).take i).length = i := by simp; omega
          refine LoopW.loop (fun k : Nat => ⟨ofL [(0, rr M), (3, .val (.int .i64 i)), (11, rr M), (12, .val (.int .i64 M.length)), (13, .val (.int .i64 i)), (32, .row i false ((ints (mrow M i)).take i)), (33, .val (.int .i64 i)), (34, .val (.int .i64 k))], hp [] 0⟩)
            (fun k => k ≤ i ∧ ∀ y, y < k → (-1000 ≤ mat M i y ∧ mat M i y ≤ 1000) ∧ mat M y i = mat M i y) (fun k => i - k) 0 ⟨by omega, by intro y h; omega⟩ (Wk.of (by simp only [go_sem, ↓List.forall_mem_cons, List.not_mem_nil, false_implies, implies_true, and_true, true_and, and_self, ri_eq, Int.natCast_add, Int.cast_ofNat_Int, rr_eq]; try simp) rfl) ?_
          rintro k ⟨hk, hkk⟩
          refine SW_of_vc Tryd.mixed _ _ _ (by kernel_rfl) ?_
          by_cases hki : k < i
          · have hrk := (hii k hki).1
            have g1 : ((ints (mrow M i)).take i)[k]? = some (.val (.int .i64 (mat M i k))) := by
              rw [List.getElem?_take, if_pos hki]; exact ints_get' hr (by omega)
            have g2 : (ints (mrow M k))[i]? = some (.val (.int .i64 (mat M k i))) := ints_get' hrk hlt
            obtain ⟨a, ha⟩ : ∃ a, mat M i k = a := ⟨_, rfl⟩
            obtain ⟨b, hb⟩ : ∃ b, mat M k i = b := ⟨_, rfl⟩
            rw [ha] at g1
            rw [hb] at g2
            have w2 := Tryd.within_ok a (-1000) 1000
            rcases Bool.eq_false_or_eq_true (inR a (-1000) 1000) with h1 | h1
            · obtain ⟨r1, r2⟩ := inR_of h1
              rw [h1] at w2
              by_cases h2 : b = a
              · simp (disch := omega) only [Tryd.ntmps60, Tryd.results60, go_sem, rr_eq, rows_get, hrk, g1, g2]
                refine w2.callV 0 (viewL_cons_of (view_int) (viewL_cons_of (view_int) (viewL_cons_of (view_int) viewL_nil_of))) ?_
                simp (disch := omega) only [Tryd.ntmps60, Tryd.results60, go_sem, rr_eq, rows_get, hrk, g1, g2]
                refine ⟨k + 1, ⟨by omega, fun y hy => ?_⟩, by omega, Wk.of (by simp only [go_sem, ↓List.forall_mem_cons, List.not_mem_nil, false_implies, implies_true, and_true, true_and, and_self, ri_eq, Int.natCast_add, Int.cast_ofNat_Int, rr_eq]; try simp) rfl⟩
                rcases Nat.lt_succ_iff_lt_or_eq.mp hy with h | rfl
                · exact hkk y h
                · rw [ha, hb]; exact ⟨⟨r1, r2⟩, h2⟩
              · simp (disch := omega) only [Tryd.ntmps60, Tryd.results60, go_sem, rr_eq, rows_get, hrk, g1, g2]
                refine w2.callV 0 (viewL_cons_of (view_int) (viewL_cons_of (view_int) (viewL_cons_of (view_int) viewL_nil_of))) ?_
                simp (disch := omega) only [Tryd.ntmps60, Tryd.results60, go_sem, rr_eq, rows_get, hrk, g1, g2]
                exact Fin.val (by rw [isWM_f (fun h => h2 (by have := (h.2.2.1 k i (by omega) hlt).2; rw [ha, hb] at this; exact this))])
            · rw [h1] at w2
              simp (disch := omega) only [Tryd.ntmps60, Tryd.results60, go_sem, rr_eq, rows_get, hrk, g1, g2]
              refine w2.callV 0 (viewL_cons_of (view_int) (viewL_cons_of (view_int) (viewL_cons_of (view_int) viewL_nil_of))) ?_
              simp (disch := omega) only [Tryd.ntmps60, Tryd.results60, go_sem, rr_eq]
              exact Fin.val (by rw [isWM_f (fun h => inR_not h1 (by have := (h.2.2.1 i k hlt (by omega)).1; rw [ha] at this; exact this))])
          · obtain rfl : k = i := by omega
            simp (disch := omega) only [Tryd.ntmps60, Tryd.results60, go_sem, rr_eq]
            refine ⟨k + 1, ⟨by omega, fun x hx => ?_⟩, by omega, Wk.of (by simp only [go_sem, ↓List.forall_mem_cons, List.not_mem_nil, false_implies, implies_true, and_true, true_and, and_self, ri_eq, Int.natCast_add, Int.cast_ofNat_Int, rr_eq]; try simp) rfl⟩
            rcases Nat.lt_succ_iff_lt_or_eq.mp hx with h | rfl
            · exact hii x h
            · exact ⟨hr, hd, hkk⟩
        · obtain ⟨d, hd'⟩ : ∃ d, mat M i i = d := ⟨_, rfl⟩
          rw [hd'] at g0 hd
          simp (disch := omega) only [Tryd.ntmps60, Tryd.results60, go_sem, rr_eq, rows_get, hr, g0]
          exact Fin.val (by rw [isWM_f (fun h => hd (by rw [← hd']; exact h.2.2.2 i hlt))])
      · simp (disch := omega) only [Tryd.ntmps60, Tryd.results60, go_sem, rr_eq, rows_get]
        exact Fin.val (by rw [isWM_f (fun h => hr (h.2.1 i hlt))])
    · obtain rfl : i = M.length := by omega
      simp (disch := omega) only [Tryd.ntmps60, Tryd.results60, go_sem, rr_eq]
      refine Fin.val ?_
      rw [isWM_t ⟨⟨by omega, by omega⟩, fun x hx => (hii x hx).1, fun x y hx hy => ?_, fun x hx => (hii x hx).2.1⟩]
      rcases Nat.lt_trichotomy y x with h | h | h
      · obtain ⟨q1, q2⟩ := (hii x hx).2.2 y h
        exact ⟨q1, q2.symm⟩
      · subst h
        have := (hii y hy).2.1
        exact ⟨by omega, rfl⟩
      · obtain ⟨q1, q2⟩ := (hii y hy).2.2 x h
        exact ⟨by omega, q2⟩
  · rw [hn] at w
    simp (disch := omega) only [Tryd.ntmps60, Tryd.results60, go_sem, rr_eq]
    refine w.callV 0 (viewL_cons_of (view_int) (viewL_cons_of (view_int) (viewL_cons_of (view_int) viewL_nil_of))) ?_
    simp (disch := omega) only [Tryd.ntmps60, Tryd.results60, go_sem, rr_eq]
    exact Fin.val (by rw [isWM_f (fun h => inR_not hn (by have := h.1; omega))])
end Go.Sh

/-
  What comes in as a matrix: its measures.
-/
namespace Go.Sh
set_option linter.unusedSimpArgs false
set_option linter.unusedVariables false
open Go Go.Proofs

theorem mrow_le {M : List (List Int)} {i : Nat} (h : i < M.length) : ((mrow M i).length : Int) ≤ msum M M.length := by
  have h1 := msum_succ h
  have h2 := msum_nonneg M i
  have h3 := msum_mono (M := M) (k := i + 1) (j := M.length) (by omega) (Nat.le_refl _)
  omega
theorem mrow_max {M : List (List Int)} (hw : (∀ l ∈ M, (∀ n ∈ l, i64R n) ∧ l.length ≤ maxLen) ∧ M.length ≤ maxLen) : M.length ≤ 9223372036854775807 ∧ ∀ i, i < M.length → (mrow M i).length ≤ 9223372036854775807 := by
  refine ⟨hw.2, fun i hi => ?_⟩
  have := (hw.1 M[i] (List.getElem_mem hi)).2
  have e : mrow M i = M[i] := by simp [mrow, hi]
  rw [e]
  exact this
end Go.Sh

/-
  Contracts: a square of zeros; the components of a graph of positive weights. Of the program.
-/
namespace Go.Sh
set_option linter.unusedSimpArgs false
set_option linter.unusedVariables false
open Go Go.Proofs

def zs (n : Nat) : List (List Int) := List.replicate n (List.replicate n 0)
theorem zs_length (n : Nat) : (zs n).length = n := by simp [zs]
theorem zs_row {n i : Nat} (h : i < n) : mrow (zs n) i = List.replicate n 0 := by simp [zs, mrow, h]
theorem zs_at {n i k : Nat} : mat (zs n) i k = 0 := by
  simp only [zs, mat, mrow, List.getD_eq_getElem?_getD, List.getElem?_replicate]
  by_cases h : i < n
  · by_cases h2 : k < n <;> simp [h, h2]
  · simp [h]
def outerQ (n k : Nat) : List SV := (List.range n).map fun i => if i < k then .own (i + 1) 0 n n 1 true else .val (.slice none 0 0)
theorem outerQ_length (n k : Nat) : (outerQ n k).length = n := by simp [outerQ]
theorem outerQ_zero (n : Nat) : outerQ n 0 = List.replicate n (.val (.slice none 0 0)) := by
  apply List.ext_getElem <;> simp [outerQ]
theorem outerQ_get {n k i : Nat} (h : i < n) : (outerQ n k)[i]? = some (if i < k then .own (i + 1) 0 n n 1 true else .val (.slice none 0 0)) := by
  simp only [outerQ, List.getElem?_map]
  rw [List.getElem?_range h]; rfl
theorem outerQ_set {n k : Nat} (h : k < n) : (outerQ n k).set k (.own (k + 1) 0 n n 1 true) = outerQ n (k + 1) := by
  apply List.ext_getElem?
  intro i
  by_cases hi : i < n
  · rw [outerQ_get hi, List.getElem?_set, outerQ_length, outerQ_get hi]
    by_cases hk : k = i
    · subst hk; simp [h]
    · by_cases h1 : i < k
      · simp [hk, h1, show i < k + 1 by omega]
      · simp [hk, h1, show ¬ i < k + 1 by omega]
  · rw [List.getElem?_eq_none (by rw [List.length_set, outerQ_length]; omega), List.getElem?_eq_none (by rw [outerQ_length]; omega)]
def HQ (n k : Nat) : Heap := ⟨fun x => if x = 0 then some ⟨outerQ n k, true⟩ else if x ≤ k then some ⟨ints (List.replicate n 0), true⟩ else none, k + 1⟩
def HQp (n k : Nat) : Heap := (HQ n k).push ⟨ints (List.replicate n 0), true⟩
theorem HQ_nb (n k : Nat) : (HQ n k).nb = k + 1 := rfl
theorem HQ_map (n k : Nat) : (HQ n k).map 0 = some ⟨outerQ n k, true⟩ := rfl
theorem HQp_map (n k : Nat) : (HQp n k).map 0 = some ⟨outerQ n k, true⟩ := by
  simp only [HQp, Heap.push, HQ]
  rw [if_neg (by omega)]
  rfl
theorem HQp_set {n k : Nat} : (HQp n k).set 0 (some ⟨outerQ n (k + 1), true⟩) = HQ n (k + 1) := by
  refine Heap.ext' (fun x => ?_) rfl
  simp only [HQp, HQ, Heap.push, Heap.set]
  by_cases h0 : x = 0
  · simp [h0]
  · by_cases h1 : x = k + 1
    · simp [h1]
    · by_cases h2 : x ≤ k
      · simp [h0, h1, h2, show x ≤ k + 1 by omega]
      · simp [h0, h1, h2, show ¬ x ≤ k + 1 by omega]
theorem HQ_zero (n : Nat) : HQ n 0 = hp [(0, ⟨List.replicate n (.val (.slice none 0 0)), true⟩)] 1 := by
  refine Heap.ext' (fun x => ?_) rfl
  simp only [HQ, hp, hmap, outerQ_zero]
  by_cases h0 : x = 0
  · simp [h0]
  · simp [h0]
theorem outerQ_nr (n k : Nat) : noRowL (outerQ n k) = true := by
  unfold outerQ
  generalize List.range n = l
  induction l with
  | nil => rfl
  | cons a l ih =>
    simp only [List.map_cons, noRowL, ih, Bool.and_true]
    split <;> rfl
theorem HQ_nr (n k : Nat) : nrHeap (HQ n k) := by
  intro b blk hb
  simp only [HQ] at hb
  split at hb
  · simp at hb; subst hb; exact outerQ_nr n k
  · split at hb
    · simp at hb; subst hb; exact noRowL_ints _
    · simp at hb
theorem HQ_res (n : Nat) : MatRes (mi (zs n)) (.own 0 0 n n 1 true) (HQ n n) := by
  have hl : (mi (zs n)).length = n := by rw [mi_length, zs_length]
  refine ⟨0, 0, n, true, _, by rw [hl], HQ_map n n, by rw [hl, outerQ_length]; omega, mi_vals _, fun i => i + 1, fun _ => 0, fun i i' _ _ h => by simpa using h, fun i _ => by simp, fun i hi => ?_⟩
  rw [hl] at hi
  have hr : rowAt (mi (zs n)) i = ints (List.replicate n 0) := by rw [mi_row (by rwa [zs_length]), zs_row hi]
  refine ⟨n, true, ⟨ints (List.replicate n 0), true⟩, ?_, ?_, ?_, ?_⟩
  · rw [hr, Nat.zero_add, outerQ_get hi, if_pos hi, ints_length, List.length_replicate]
  · simp only [HQ]
    rw [if_neg (by omega), if_pos (by omega)]
  · rw [hr]; simp
  · rw [hr]; simp

set_option maxHeartbeats 1000000 in
theorem Tryd.square_f (n : Nat) (hn : n ≤ 1048576) : FCall Tryd.prog 71 [.val (.int .i64 n)] (MatRes (mi (zs n))) := by
  refine FCall.of_body Tryd.func71 rfl (by kernel_rfl) (by simp [Tryd.ntmps71]) ?_
  refine SW_of_vc Tryd.mixed _ _ _ (by kernel_rfl) ?_
  simp (disch := omega) only [Tryd.ntmps71, Tryd.results71, go_sem]
  refine LoopW.loop (fun k : Nat => ⟨ofL [(0, .val (.int .i64 n)), (3, .own 0 0 n n 1 true), (8, .val (.int .i64 n)), (9, .val (.int .i64 k))], HQ n k⟩) (fun k => k ≤ n) (fun k => n - k) 0 (by omega)
    (Wk.of (by simp only [go_sem, ↓List.forall_mem_cons, List.not_mem_nil, false_implies, implies_true, and_true, true_and, and_self, ri_eq, Int.natCast_add, Int.cast_ofNat_Int]; try simp) (by rw [HQ_zero])) ?_
  intro k hk
  have ho := outerQ_length n k
  refine SW_of_vc Tryd.mixed _ _ _ (by kernel_rfl) ?_
  by_cases hlt : k < n
  · have hos := outerQ_set hlt
    have e : (HQ n k).push ⟨ints (List.replicate n 0), true⟩ = HQp n k := rfl
    simp (disch := omega) only [Tryd.ntmps71, Tryd.results71, go_sem, HQ_nb, e, HQp_map, ho, hos, HQp_set]
    exact ⟨k + 1, by omega, by omega, Wk.of (by simp only [go_sem, ↓List.forall_mem_cons, List.not_mem_nil, false_implies, implies_true, and_true, true_and, and_self, ri_eq, Int.natCast_add, Int.cast_ofNat_Int]; try simp) rfl⟩
  · obtain rfl : k = n := by omega
    simp (disch := omega) only [Tryd.ntmps71, Tryd.results71, go_sem]
    exact ⟨HQ k k, ⟨rfl, fun _ => .inr rfl⟩, rfl, HQ_nr k _, HQ_res k⟩
theorem Tryd.square_one (n : Nat) (hn : n ≤ 1048576) : FCall Tryd.prog 71 [.val (.int .i64 n)] (MatOne (mi (zs n))) := (Tryd.square_f n hn).mat

/-! ### The search -/
def pB (M : List (List Int)) (x y : Nat) : Bool := decide (0 < mat M x y)
theorem WM.sym {M : List (List Int)} (h : WM M) : ∀ x y, x < M.length → y < M.length → pB M x y = true → pB M y x = true := by
  intro x y hx hy hb
  have := (h.2.2.1 x y hx hy).2
  rw [pB] at hb ⊢
  rw [← this]; exact hb
def vClos : SV := .clos (.func 96) [] [.optr 3 0, .optr 2 0, .optr 0 0, .optr 4 0]
def vHeap (M : List (List Int)) (O : List Int) (c : Int) : List (Nat × Blk) := [(4, ⟨[vClos], true⟩), (3, ⟨[.val (.int .i64 c)], true⟩), (2, ⟨[.own 1 0 M.length M.length 1 true], true⟩), (1, ⟨ints O, true⟩), (0, ⟨[rr M], true⟩)]

set_option maxHeartbeats 4000000 in
theorem Tryd.visit_ok {M : List (List Int)} (hw : WM M) {c : Int} (hc : 0 ≤ c) : ∀ (fu : Nat) (O : List Int) (i : Nat), O.length = M.length → i < M.length → O.getD i 0 < 0 → negs M.length O ≤ fu →
    CallS Tryd.prog 96 [.val (.int .i64 i), .optr 3 0, .optr 2 0, .optr 0 0, .optr 4 0] (hp (vHeap M O c) 5) (fun r H' => ∃ O', r = .tup [] ∧ H' = hp (vHeap M O' c) 5 ∧ DfsL M.length (pB M) c i O O')
  | 0, O, i, hl, hi, h0, hf => by have := negs_pos hi h0; omega
  | fu + 1, O, i, hl, hi, h0, hf => by
    have hln := hw.1
    have hri := hw.2.1 i hi
    refine CallS.of_body Tryd.func96 rfl (by kernel_rfl) (by simp [Tryd.ntmps96]) ?_
    refine SW_of_vc Tryd.mixed _ _ _ (by kernel_rfl) ?_
    rw [vHeap]
    simp (disch := omega) only [Tryd.ntmps96, Tryd.results96, go_sem, rr_eq, hl, rows_get, hri]
    refine LoopW.loop (fun p : Nat × List Int => ⟨ofL [(1, .optr 3 0), (2, .optr 2 0), (3, .optr 0 0), (4, .optr 4 0), (15, .row M.length false (ints (mrow M i))), (16, .val (.int .i64 M.length)), (17, .val (.int .i64 p.1))], hp (vHeap M p.2 c) 5⟩)
      (fun p => p.1 ≤ M.length ∧ DfsK M.length (pB M) c i O p.1 p.2) (fun p => M.length - p.1) (0, O.set i c) ⟨by simp, .start hl hi h0⟩ (Wk.of (by simp only [go_sem, ↓List.forall_mem_cons, List.not_mem_nil, false_implies, implies_true, and_true, true_and, and_self, ri_eq, Int.natCast_add, Int.cast_ofNat_Int, rr_eq, hri]; try simp) rfl) ?_
    rintro ⟨k, O1⟩ ⟨hk, hd⟩
    simp only at hk hd
    have hl1 := hd.len
    refine SW_of_vc Tryd.mixed _ _ _ (by kernel_rfl) ?_
    rw [vHeap]
    by_cases hlt : k < M.length
    · have g1 : (ints (mrow M i))[k]? = some (.val (.int .i64 (mat M i k))) := ints_get' hri hlt
      have g2 : (ints O1)[k]? = some (.val (.int .i64 (O1.getD k 0))) := ints_get' hl1 hlt
      obtain ⟨a, ha⟩ : ∃ a, mat M i k = a := ⟨_, rfl⟩
      obtain ⟨b, hb⟩ : ∃ b, O1.getD k 0 = b := ⟨_, rfl⟩
      have hpb : pB M i k = decide (0 < a) := by rw [pB, ha]
      rw [ha] at g1
      rw [hb] at g2
      by_cases h1 : 0 < a
      · by_cases h2 : b < 0
        · have w := Tryd.visit_ok hw hc fu O1 k hl1 hlt (by omega) (by have := hd.negs hc hi h0; omega)
          rw [vHeap, vClos] at w
          simp (disch := omega) only [Tryd.ntmps96, Tryd.results96, go_sem, vClos, g1, g2, hl1, ints_length]
          refine w.callX ?_
          rintro r H' ⟨O2, rfl, rfl, hd2⟩
          simp (disch := omega) only [Tryd.ntmps96, Tryd.results96, go_sem]
          exact ⟨(k + 1, O2), ⟨hlt, hd.step hc hi hlt (by rw [hpb]; exact decide_eq_true h1) (by omega) hd2⟩, by show M.length - (k + 1) < M.length - k; omega, Wk.of (by simp only [go_sem, ↓List.forall_mem_cons, List.not_mem_nil, false_implies, implies_true, and_true, true_and, and_self, ri_eq, Int.natCast_add, Int.cast_ofNat_Int]; try simp) rfl⟩
        · simp (disch := omega) only [Tryd.ntmps96, Tryd.results96, go_sem, vClos, g1, g2, hl1, ints_length]
          exact ⟨(k + 1, O1), ⟨hlt, hd.skip (fun _ => by omega)⟩, by show M.length - (k + 1) < M.length - k; omega, Wk.of (by simp only [go_sem, ↓List.forall_mem_cons, List.not_mem_nil, false_implies, implies_true, and_true, true_and, and_self, ri_eq, Int.natCast_add, Int.cast_ofNat_Int]; try simp) rfl⟩
      · simp (disch := omega) only [Tryd.ntmps96, Tryd.results96, go_sem, vClos, g1, g2, hl1, ints_length]
        exact ⟨(k + 1, O1), ⟨hlt, hd.skip (fun h => by rw [hpb] at h; exact absurd (of_decide_eq_true h) h1)⟩, by show M.length - (k + 1) < M.length - k; omega, Wk.of (by simp only [go_sem, ↓List.forall_mem_cons, List.not_mem_nil, false_implies, implies_true, and_true, true_and, and_self, ri_eq, Int.natCast_add, Int.cast_ofNat_Int]; try simp) rfl⟩
    · simp (disch := omega) only [Tryd.ntmps96, Tryd.results96, go_sem]
      exact ⟨O1, rfl, hd.final (by omega)⟩

def fillN (n k : Nat) : List Int := List.replicate k (-1) ++ List.replicate (n - k) 0
theorem fillN_zero (n : Nat) : fillN n 0 = List.replicate n 0 := by simp [fillN]
theorem fillN_length {n k : Nat} (h : k ≤ n) : (fillN n k).length = n := by simp [fillN]; omega
theorem fillN_set {n k : Nat} (h : k < n) : (fillN n k).set k (-1) = fillN n (k + 1) := by
  apply List.ext_getElem?
  intro i
  simp [fillN, List.getElem?_set, List.getElem?_append, List.getElem?_replicate]
  grind
theorem fillN_all (n : Nat) : fillN n n = List.replicate n (-1) := by simp [fillN]

theorem Fin.imp {R R' : SV → Heap → Prop} {r : SV} {H : Heap} (h : ∀ r H, R r H → R' r H) (f : Fin R r H) : Fin R' r H := by
  obtain ⟨H2, a, b, c, d⟩ := f
  exact ⟨H2, a, b, c, h _ _ d⟩
set_option maxHeartbeats 4000000 in
theorem Tryd.implPC_f (M : List (List Int)) (hM : M.length ≤ 1048576) (hR : ∀ i, i < M.length → (mrow M i).length ≤ 1048576) (hw : WM M) : FCall Tryd.prog 72 [rr M] (fun r H => CompL M.length (pB M) (comp M.length (pB M)) ∧ FlatRes M.length 1 (ints (comp M.length (pB M))) r H) := by
  have hln := hw.1
  have w1 := Tryd.implIsWM_ok M hM hR
  rw [isWM_t hw] at w1
  refine FCall.of_body Tryd.func72 rfl (by kernel_rfl) (by simp [Tryd.ntmps72]) ?_
  refine SW_of_vc Tryd.mixed _ _ _ (by kernel_rfl) ?_
  simp (disch := omega) only [Tryd.ntmps72, Tryd.results72, go_sem, rr_eq]
  refine w1.callV 0 (viewL_cons_of (view_row) viewL_nil_of) ?_
  simp (disch := omega) only [Tryd.ntmps72, Tryd.results72, go_sem, rr_eq]
  refine LoopW.loop (fun k : Nat => ⟨ofL [(1, .optr 0 0), (3, .optr 2 0), (15, .val (.int .i64 M.length)), (16, .val (.int .i64 k))], hp [(2, ⟨[.own 1 0 M.length M.length 1 true], true⟩), (1, ⟨ints (fillN M.length k), true⟩), (0, ⟨[rr M], true⟩)] 3⟩) (fun k => k ≤ M.length) (fun k => M.length - k) 0 (by omega)
    (Wk.of (by simp only [go_sem, ↓List.forall_mem_cons, List.not_mem_nil, false_implies, implies_true, and_true, true_and, and_self, ri_eq, Int.natCast_add, Int.cast_ofNat_Int]; try simp) (by rw [fillN_zero]; rfl)) ?_
  intro k hk
  have hfl := fillN_length hk
  refine SW_of_vc Tryd.mixed _ _ _ (by kernel_rfl) ?_
  by_cases hlt : k < M.length
  · have hfs := fillN_set hlt
    simp (disch := omega) only [Tryd.ntmps72, Tryd.results72, go_sem, rr_eq, hfl, hfs]
    exact ⟨k + 1, by omega, by omega, Wk.of (by simp only [go_sem, ↓List.forall_mem_cons, List.not_mem_nil, false_implies, implies_true, and_true, true_and, and_self, ri_eq, Int.natCast_add, Int.cast_ofNat_Int]; try simp) rfl⟩
  · obtain rfl : k = M.length := by omega
    simp (disch := omega) only [Tryd.ntmps72, Tryd.results72, go_sem, rr_eq, fillN_all]
    refine LoopW.loop (fun p : Nat × List Int × Int => ⟨ofL [(3, .optr 2 0), (5, .optr 3 0), (6, .optr 4 0), (25, .val (.int .i64 M.length)), (26, .val (.int .i64 p.1))], hp (vHeap M p.2.1 p.2.2) 5⟩)
      (fun p => p.1 ≤ M.length ∧ PartL M.length (pB M) p.1 p.2.2 p.2.1) (fun p => M.length - p.1) (0, List.replicate M.length (-1), 0) ⟨by simp, .zero _ _⟩ (Wk.of (by simp only [go_sem, ↓List.forall_mem_cons, List.not_mem_nil, false_implies, implies_true, and_true, true_and, and_self, ri_eq, Int.natCast_add, Int.cast_ofNat_Int]; try simp) rfl) ?_
    rintro ⟨i, O, c⟩ ⟨hi, hpl⟩
    simp only at hi hpl
    have hl := hpl.len
    have hc0 := hpl.c0
    have hci := hpl.ci
    refine SW_of_vc Tryd.mixed _ _ _ (by kernel_rfl) ?_
    rw [vHeap]
    by_cases hlt : i < M.length
    · have g2 : (ints O)[i]? = some (.val (.int .i64 (O.getD i 0))) := ints_get' hl hlt
      obtain ⟨b, hb⟩ : ∃ b, O.getD i 0 = b := ⟨_, rfl⟩
      rw [hb] at g2
      by_cases h2 : b < 0
      · have w := Tryd.visit_ok hw hc0 (negs M.length O) O i hl hlt (by omega) (Nat.le_refl _)
        rw [vHeap, vClos] at w
        simp (disch := omega) only [Tryd.ntmps72, Tryd.results72, go_sem, vClos, g2, hl]
        refine w.callX ?_
        rintro r H' ⟨O2, rfl, rfl, hd⟩
        rw [vHeap]
        simp (disch := omega) only [Tryd.ntmps72, Tryd.results72, go_sem, vClos]
        exact ⟨(i + 1, O2, c + 1), ⟨hlt, hpl.step hw.sym hlt (by omega) (hd.newL hw.sym hpl hlt (by omega))⟩, by show M.length - (i + 1) < M.length - i; omega, Wk.of (by simp only [go_sem, ↓List.forall_mem_cons, List.not_mem_nil, false_implies, implies_true, and_true, true_and, and_self, ri_eq, Int.natCast_add, Int.cast_ofNat_Int]; try simp) rfl⟩
      · simp (disch := omega) only [Tryd.ntmps72, Tryd.results72, go_sem, vClos, g2, hl]
        exact ⟨(i + 1, O, c), ⟨hlt, hpl.skip (by omega)⟩, by show M.length - (i + 1) < M.length - i; omega, Wk.of (by simp only [go_sem, ↓List.forall_mem_cons, List.not_mem_nil, false_implies, implies_true, and_true, true_and, and_self, ri_eq, Int.natCast_add, Int.cast_ofNat_Int]; try simp) rfl⟩
    · have hC := hpl.final (by omega)
      have hc2 := hC.comp
      rw [← hC.eq] at hc2 ⊢
      simp (disch := omega) only [Tryd.ntmps72, Tryd.results72, go_sem, vClos]
      exact Fin.imp (fun _ _ h => ⟨hc2, h⟩) (fin_ints hl.symm (by rw [hp_map]; simp only [hmap_cons]; rfl))
theorem Tryd.implPC_nil (M : List (List Int)) (hM : M.length ≤ 1048576) (hR : ∀ i, i < M.length → (mrow M i).length ≤ 1048576) (hw : ¬ WM M) : FCall Tryd.prog 72 [rr M] (fun r _ => r = .val (.slice none 0 0)) := by
  have w1 := Tryd.implIsWM_ok M hM hR
  rw [isWM_f hw] at w1
  refine FCall.of_body Tryd.func72 rfl (by kernel_rfl) (by simp [Tryd.ntmps72]) ?_
  refine SW_of_vc Tryd.mixed _ _ _ (by kernel_rfl) ?_
  simp (disch := omega) only [Tryd.ntmps72, Tryd.results72, go_sem, rr_eq]
  refine w1.callV 0 (viewL_cons_of (view_row) viewL_nil_of) ?_
  simp (disch := omega) only [Tryd.ntmps72, Tryd.results72, go_sem, rr_eq]
  exact Fin.val rfl
end Go.Sh

/-
  Contracts: links, labels by rounds, the components of a graph of positive weights. Of the reference.
-/
namespace Go.Sh
set_option linter.unusedSimpArgs false
set_option linter.unusedVariables false
open Go Go.Proofs

def nrF (n : Nat) (l : List Nat) : List (Nat × List SV) := l.map fun x => (x, bools (List.replicate n false))
def bz (n : Nat) : List (List Bool) := List.replicate n (List.replicate n false)
theorem bz_length (n : Nat) : (bz n).length = n := by simp [bz]
theorem bz_row {n i : Nat} (h : i < n) : brow (bz n) i = List.replicate n false := by simp [bz, brow, h]
theorem bz_at {n i k : Nat} : bmat (bz n) i k = false := by
  simp only [bz, bmat, brow, List.getD_eq_getElem?_getD, List.getElem?_replicate]
  by_cases h : i < n
  · by_cases h2 : k < n <;> simp [h, h2]
  · simp [h]
theorem nrF_length (n : Nat) (l : List Nat) : (nrF n l).length = l.length := by simp [nrF]
theorem nrF_snd (n : Nat) : ∀ l : List Nat, (nrF n l).map (·.2) = List.replicate l.length (bools (List.replicate n false))
  | [] => rfl
  | x :: l => by
    have := nrF_snd n l
    simp only [nrF, List.map_cons, List.length_cons, List.replicate_succ] at this ⊢
    rw [this]
theorem nrF_snoc (n : Nat) (l : List Nat) (x : Nat) : nrF n (l ++ [x]) = nrF n l ++ [(x, bools (List.replicate n false))] := by simp [nrF]

set_option maxHeartbeats 1000000 in
theorem Tryd.l17Links_f (n : Nat) (hn : n ≤ 1048576) : FCall Tryd.prog 74 [.val (.int .i64 n)] (MatRes (mb (bz n))) := by
  refine FCall.of_body Tryd.func74 rfl (by kernel_rfl) (by simp [Tryd.ntmps74]) ?_
  refine SW_of_vc Tryd.mixed _ _ _ (by kernel_rfl) ?_
  simp (disch := omega) only [Tryd.ntmps74, Tryd.results74, go_sem]
  refine LoopW.loop (fun p : List Nat × Nat × Nat => ⟨ofL [(0, .val (.int .i64 n)), (3, .own p.2.1 0 p.1.length p.1.length 1 false), (4, .val (.int .i64 p.1.length))], hx [.blk p.2.1 ⟨outerN true (nrF n p.1), false⟩, .rows true (nrF n p.1)] p.2.2⟩)
    (fun p => p.1.length ≤ n ∧ NrOk p.2.1 p.2.2 (nrF n p.1)) (fun p => n - p.1.length) ([], 0, 1) ⟨by simp, .nil (by simp)⟩ (Wk.ofX (by simp only [go_sem, ↓List.forall_mem_cons, List.not_mem_nil, false_implies, implies_true, and_true, true_and, and_self, ri_eq, Int.natCast_add, Int.cast_ofNat_Int]; try simp) (by simp [EntIn, nrF, outerN, hp, hmap]) (by simp [hp])) ?_
  rintro ⟨l, ob, nb⟩ ⟨hk, ho⟩
  simp only at hk ho
  have hob := ho.1
  refine SW_of_vc Tryd.mixed _ _ _ (by kernel_rfl) ?_
  have hl1 := outerN_length true (nrF n l)
  have hl2 := nrF_length n l
  have hl3 : (outerN true (nrF n l)).take l.length = outerN true (nrF n l) := List.take_of_length_le (by omega)
  by_cases hlt : l.length < n
  · simp (disch := omega) only [Tryd.ntmps74, Tryd.results74, go_sem, hl1, hl2, hl3]
    have hlt' : ∀ p ∈ nrF n l, p.1 < nb := fun p hp => (ho.2.1 p hp).1
    have hne : ∀ p ∈ nrF n l, p.1 ≠ ob := fun p hp => (ho.2.1 p hp).2
    refine ⟨(l ++ [nb], nb + 1 + 1, nb + 1 + 1 + 1), ⟨by simp; omega, ?_⟩, by simp; omega, Wk.ofX (by simp only [go_sem, ↓List.forall_mem_cons, List.not_mem_nil, false_implies, implies_true, and_true, true_and, and_self, ri_eq, Int.natCast_add, Int.cast_ofNat_Int, List.length_append, List.length_singleton]; try simp) ?_ (by simp [hx])⟩
    · rw [nrF_snoc]
      exact ho.snoc (Nat.le_refl _) (by show nb ≤ nb + 1 + 1; omega) (by show nb ≠ nb + 1 + 1; omega) (by show nb < nb + 1 + 1 + 1; omega) (by show nb + 1 + 1 < nb + 1 + 1 + 1; omega)
    · simp only [List.forall_mem_cons]
      refine ⟨?_, ?_, by simp⟩
      · simp only [EntIn, hx_map, xmap_blk, if_pos, nrF_snoc, outerN_snoc, bools_length, List.length_replicate]
      · simp only [nrF_snoc]
        refine EntIn.snoc (((EntIn.skipC (EntIn.selfR ho.2.2) hne).skipR ?_).skipR ?_ |>.skipR ?_) ?_
        · intro p hp; have := hlt' p hp; omega
        · intro p hp; have := hlt' p hp; omega
        · intro p hp; have := hlt' p hp; omega
        · simp only [hx_map, xmap_blk]; rw [if_neg (by omega), if_neg (by omega), if_pos trivial, bools_replicate]
  · simp (disch := omega) only [Tryd.ntmps74, Tryd.results74, go_sem, hl1, hl2, hl3]
    have hk : l.length = n := by omega
    have := fin_rows (H := hx [Ent.blk ob { cells := outerN true (nrF n l), ex := false }, Ent.rows true (nrF n l)] nb) (R := mb (bz n)) ho
      (fun p hp => by obtain ⟨x, _, rfl⟩ := List.mem_map.1 hp; exact bools_vals _) (by simp [hx, xmap])
      (EntIn.skipR (EntIn.selfR ho.2.2) (fun p hp => (ho.2.1 p hp).2)) (by rw [nrF_snd, hk]; simp [mb, bz])
    rw [nrF_length] at this
    exact this
theorem Tryd.l17Links_one (n : Nat) (hn : n ≤ 1048576) : FCall Tryd.prog 74 [.val (.int .i64 n)] (MatOne (mb (bz n))) := (Tryd.l17Links_f n hn).mat

theorem rep_snoc (k : Nat) (a : Int) : List.replicate k a ++ [a] = List.replicate (k + 1) a := by
  rw [List.replicate_succ']
set_option maxHeartbeats 4000000 in
theorem Tryd.l17Labels_f (n : Nat) (X : List (List Bool)) (hn : n ≤ 1048576) (hX : X.length = n) (hR : ∀ i, i < n → (brow X i).length = n) (hs : ∀ x y, x < n → y < n → bmat X x y = true → bmat X y x = true) :
    FCall Tryd.prog 75 [.val (.int .i64 n), rb X] (fun r H => CompL n (bmat X) (comp n (bmat X)) ∧ FlatRes n 1 (ints (comp n (bmat X))) r H) := by
  refine FCall.of_body Tryd.func75 rfl (by kernel_rfl) (by simp [Tryd.ntmps75]) ?_
  refine SW_of_vc Tryd.mixed _ _ _ (by kernel_rfl) ?_
  simp (disch := omega) only [Tryd.ntmps75, Tryd.results75, go_sem, rb_eq]
  refine LoopW.loop (fun p : Nat × Nat × Nat => ⟨ofL [(0, .val (.int .i64 n)), (1, rb X), (5, .own p.2.1 0 p.1 p.1 1 false), (6, .val (.int .i64 p.1))], hp [(p.2.1, ⟨ints (List.replicate p.1 (-1)), false⟩)] p.2.2⟩) (fun p => p.1 ≤ n ∧ p.2.1 < p.2.2) (fun p => n - p.1) (0, 0, 1) ⟨by simp, by simp⟩
    (Wk.ofH (by simp only [go_sem, ↓List.forall_mem_cons, List.not_mem_nil, false_implies, implies_true, and_true, true_and, and_self, ri_eq, Int.natCast_add, Int.cast_ofNat_Int, rb_eq]; try simp) (by simp (disch := omega) only [go_sem, ↓List.forall_mem_cons, List.not_mem_nil, false_implies, implies_true, and_true, true_and, and_self, ri_eq, Int.natCast_add, Int.cast_ofNat_Int, if_pos, if_neg, Nat.reduceAdd, List.nil_append, List.replicate_zero, ints_nil]; try simp) (by simp [hp])) ?_
  rintro ⟨k, b, nb⟩ ⟨hk, hb⟩
  simp only at hk hb
  refine SW_of_vc Tryd.mixed _ _ _ (by kernel_rfl) ?_
  by_cases hlt : k < n
  · have hl := rep_snoc k (-1)
    have ht : (ints (List.replicate k (-1))).take k = ints (List.replicate k (-1)) := ints_take_of (by simp)
    simp (disch := omega) only [Tryd.ntmps75, Tryd.results75, go_sem, rb_eq, List.length_replicate, ht]
    refine ⟨(k + 1, nb + 1, nb + 1 + 1), ⟨hlt, by simp⟩, by show n - (k + 1) < n - k; omega, ?_⟩
    exact Wk.ofH (by simp only [go_sem, ↓List.forall_mem_cons, List.not_mem_nil, false_implies, implies_true, and_true, true_and, and_self, ri_eq, Int.natCast_add, Int.cast_ofNat_Int, rb_eq]; try simp) (by simp (disch := omega) only [go_sem, ↓List.forall_mem_cons, List.not_mem_nil, false_implies, implies_true, and_true, true_and, and_self, ri_eq, Int.natCast_add, Int.cast_ofNat_Int, if_pos, if_neg, Nat.reduceAdd, List.nil_append, hl]; try simp) (by simp [hp])
  obtain rfl : k = n := by omega
  simp (disch := omega) only [Tryd.ntmps75, Tryd.results75, go_sem, rb_eq]
  refine LoopW.loop (fun p : Nat × List Int × Int => ⟨ofL [(0, .val (.int .i64 k)), (1, rb X), (5, .own b 0 k k 1 false), (7, .val (.int .i64 p.2.2)), (8, .val (.int .i64 p.1))], hp [(b, ⟨ints p.2.1, false⟩)] nb⟩)
    (fun p => p.1 ≤ k ∧ PartL k (bmat X) p.1 p.2.2 p.2.1) (fun p => k - p.1) (0, List.replicate k (-1), 0) ⟨by simp, .zero _ _⟩ (Wk.ofH (by simp only [go_sem, ↓List.forall_mem_cons, List.not_mem_nil, false_implies, implies_true, and_true, true_and, and_self, ri_eq, Int.natCast_add, Int.cast_ofNat_Int, rb_eq]; try simp) (by simp (disch := omega) only [go_sem, ↓List.forall_mem_cons, List.not_mem_nil, false_implies, implies_true, and_true, true_and, and_self, ri_eq, Int.natCast_add, Int.cast_ofNat_Int, if_pos, if_neg, Nat.reduceAdd, List.nil_append]; try simp) (by simp [hp])) ?_
  rintro ⟨i, O, c⟩ ⟨hi, hpl⟩
  simp only at hi hpl
  have hl := hpl.len
  have hc0 := hpl.c0
  have hci := hpl.ci
  refine SW_of_vc Tryd.mixed _ _ _ (by kernel_rfl) ?_
  by_cases hlt2 : i < k
  · have g2 : (ints O)[i]? = some (.val (.int .i64 (O.getD i 0))) := ints_get' hl hlt2
    obtain ⟨v, hv⟩ : ∃ v, O.getD i 0 = v := ⟨_, rfl⟩
    rw [hv] at g2
    by_cases h0 : 0 ≤ v
    · simp (disch := omega) only [Tryd.ntmps75, Tryd.results75, go_sem, rb_eq, hl, g2]
      exact ⟨(i + 1, O, c), ⟨hlt2, hpl.skip (by omega)⟩, by show k - (i + 1) < k - i; omega, Wk.ofH (by simp only [go_sem, ↓List.forall_mem_cons, List.not_mem_nil, false_implies, implies_true, and_true, true_and, and_self, ri_eq, Int.natCast_add, Int.cast_ofNat_Int, rb_eq]; try simp) (by simp (disch := omega) only [go_sem, ↓List.forall_mem_cons, List.not_mem_nil, false_implies, implies_true, and_true, true_and, and_self, ri_eq, Int.natCast_add, Int.cast_ofNat_Int, if_pos, if_neg, Nat.reduceAdd, List.nil_append]; try simp) (by simp [hp])⟩
    · simp (disch := omega) only [Tryd.ntmps75, Tryd.results75, go_sem, rb_eq, hl, g2]
      refine LoopW.loop (fun p : Nat × List Int => ⟨ofL [(0, .val (.int .i64 k)), (1, rb X), (5, .own b 0 k k 1 false), (7, .val (.int .i64 c)), (8, .val (.int .i64 i)), (9, .val (.int .i64 p.1))], hp [(b, ⟨ints p.2, false⟩)] nb⟩)
        (fun p => p.1 ≤ k ∧ SpI k (bmat X) c i O p.1 0 0 p.2) (fun p => k - p.1) (0, O.set i c) ⟨by simp, .start hl hlt2⟩ (Wk.ofH (by simp only [go_sem, ↓List.forall_mem_cons, List.not_mem_nil, false_implies, implies_true, and_true, true_and, and_self, ri_eq, Int.natCast_add, Int.cast_ofNat_Int, rb_eq]; try simp) (by simp (disch := omega) only [go_sem, ↓List.forall_mem_cons, List.not_mem_nil, false_implies, implies_true, and_true, true_and, and_self, ri_eq, Int.natCast_add, Int.cast_ofNat_Int, if_pos, if_neg, Nat.reduceAdd, List.nil_append]; try simp) (by simp [hp])) ?_
      rintro ⟨s, O1⟩ ⟨hs1, hq1⟩
      simp only at hs1 hq1
      refine SW_of_vc Tryd.mixed _ _ _ (by kernel_rfl) ?_
      by_cases hlt3 : s < k
      · simp (disch := omega) only [Tryd.ntmps75, Tryd.results75, go_sem, rb_eq]
        refine LoopW.loop (fun p : Nat × List Int => ⟨ofL [(0, .val (.int .i64 k)), (1, rb X), (5, .own b 0 k k 1 false), (7, .val (.int .i64 c)), (8, .val (.int .i64 i)), (9, .val (.int .i64 s)), (10, .val (.int .i64 p.1))], hp [(b, ⟨ints p.2, false⟩)] nb⟩)
          (fun p => p.1 ≤ k ∧ SpI k (bmat X) c i O s p.1 0 p.2) (fun p => k - p.1) (0, O1) ⟨by simp, hq1⟩ (Wk.ofH (by simp only [go_sem, ↓List.forall_mem_cons, List.not_mem_nil, false_implies, implies_true, and_true, true_and, and_self, ri_eq, Int.natCast_add, Int.cast_ofNat_Int, rb_eq]; try simp) (by simp (disch := omega) only [go_sem, ↓List.forall_mem_cons, List.not_mem_nil, false_implies, implies_true, and_true, true_and, and_self, ri_eq, Int.natCast_add, Int.cast_ofNat_Int, if_pos, if_neg, Nat.reduceAdd, List.nil_append]; try simp) (by simp [hp])) ?_
        rintro ⟨a, O2⟩ ⟨ha1, hq2⟩
        simp only at ha1 hq2
        refine SW_of_vc Tryd.mixed _ _ _ (by kernel_rfl) ?_
        by_cases hlt4 : a < k
        · simp (disch := omega) only [Tryd.ntmps75, Tryd.results75, go_sem, rb_eq]
          refine LoopW.loop (fun p : Nat × List Int => ⟨ofL [(0, .val (.int .i64 k)), (1, rb X), (5, .own b 0 k k 1 false), (7, .val (.int .i64 c)), (8, .val (.int .i64 i)), (9, .val (.int .i64 s)), (10, .val (.int .i64 a)), (11, .val (.int .i64 p.1))], hp [(b, ⟨ints p.2, false⟩)] nb⟩)
            (fun p => p.1 ≤ k ∧ SpI k (bmat X) c i O s a p.1 p.2) (fun p => k - p.1) (0, O2) ⟨by simp, hq2⟩ (Wk.ofH (by simp only [go_sem, ↓List.forall_mem_cons, List.not_mem_nil, false_implies, implies_true, and_true, true_and, and_self, ri_eq, Int.natCast_add, Int.cast_ofNat_Int, rb_eq]; try simp) (by simp (disch := omega) only [go_sem, ↓List.forall_mem_cons, List.not_mem_nil, false_implies, implies_true, and_true, true_and, and_self, ri_eq, Int.natCast_add, Int.cast_ofNat_Int, if_pos, if_neg, Nat.reduceAdd, List.nil_append]; try simp) (by simp [hp])) ?_
          rintro ⟨z, O3⟩ ⟨hz1, hq3⟩
          simp only at hz1 hq3
          have hl3 := hq3.len
          have hXa := hR a hlt4
          refine SW_of_vc Tryd.mixed _ _ _ (by kernel_rfl) ?_
          by_cases hlt5 : z < k
          · have g3 : (ints O3)[a]? = some (.val (.int .i64 (O3.getD a 0))) := ints_get' hl3 hlt4
            have g4 : (bools (brow X a))[z]? = some (.val (.bool (bmat X a z))) := bools_get (by omega)
            obtain ⟨v3, hv3⟩ : ∃ v, O3.getD a 0 = v := ⟨_, rfl⟩
            rw [hv3] at g3
            by_cases h5 : v3 = c
            · rcases Bool.eq_false_or_eq_true (bmat X a z) with h6 | h6
              · rw [h6] at g4
                simp (disch := omega) only [Tryd.ntmps75, Tryd.results75, go_sem, rb_eq, hl3, g3, g4, hX, hXa, rowsB_get, rowsB_length]
                exact ⟨(z + 1, O3.set z c), ⟨hlt5, hq3.put hpl.rng hlt4 hlt5 (by omega) h6⟩, by show k - (z + 1) < k - z; omega, Wk.ofH (by simp only [go_sem, ↓List.forall_mem_cons, List.not_mem_nil, false_implies, implies_true, and_true, true_and, and_self, ri_eq, Int.natCast_add, Int.cast_ofNat_Int, rb_eq]; try simp) (by simp (disch := omega) only [go_sem, ↓List.forall_mem_cons, List.not_mem_nil, false_implies, implies_true, and_true, true_and, and_self, ri_eq, Int.natCast_add, Int.cast_ofNat_Int, if_pos, if_neg, Nat.reduceAdd, List.nil_append]; try simp) (by simp [hp])⟩
              · rw [h6] at g4
                simp (disch := omega) only [Tryd.ntmps75, Tryd.results75, go_sem, rb_eq, hl3, g3, g4, hX, hXa, rowsB_get, rowsB_length]
                exact ⟨(z + 1, O3), ⟨hlt5, hq3.skip hlt4 (by simp [h6])⟩, by show k - (z + 1) < k - z; omega, Wk.ofH (by simp only [go_sem, ↓List.forall_mem_cons, List.not_mem_nil, false_implies, implies_true, and_true, true_and, and_self, ri_eq, Int.natCast_add, Int.cast_ofNat_Int, rb_eq]; try simp) (by simp (disch := omega) only [go_sem, ↓List.forall_mem_cons, List.not_mem_nil, false_implies, implies_true, and_true, true_and, and_self, ri_eq, Int.natCast_add, Int.cast_ofNat_Int, if_pos, if_neg, Nat.reduceAdd, List.nil_append]; try simp) (by simp [hp])⟩
            · simp (disch := omega) only [Tryd.ntmps75, Tryd.results75, go_sem, rb_eq, hl3, g3, hX, hXa, rowsB_get, rowsB_length]
              exact ⟨(z + 1, O3), ⟨hlt5, hq3.skip hlt4 (by intro h; omega)⟩, by show k - (z + 1) < k - z; omega, Wk.ofH (by simp only [go_sem, ↓List.forall_mem_cons, List.not_mem_nil, false_implies, implies_true, and_true, true_and, and_self, ri_eq, Int.natCast_add, Int.cast_ofNat_Int, rb_eq]; try simp) (by simp (disch := omega) only [go_sem, ↓List.forall_mem_cons, List.not_mem_nil, false_implies, implies_true, and_true, true_and, and_self, ri_eq, Int.natCast_add, Int.cast_ofNat_Int, if_pos, if_neg, Nat.reduceAdd, List.nil_append]; try simp) (by simp [hp])⟩
          · simp (disch := omega) only [Tryd.ntmps75, Tryd.results75, go_sem, rb_eq]
            exact ⟨(a + 1, O3), ⟨hlt4, hq3.next (by omega)⟩, by show k - (a + 1) < k - a; omega, Wk.ofH (by simp only [go_sem, ↓List.forall_mem_cons, List.not_mem_nil, false_implies, implies_true, and_true, true_and, and_self, ri_eq, Int.natCast_add, Int.cast_ofNat_Int, rb_eq]; try simp) (by simp (disch := omega) only [go_sem, ↓List.forall_mem_cons, List.not_mem_nil, false_implies, implies_true, and_true, true_and, and_self, ri_eq, Int.natCast_add, Int.cast_ofNat_Int, if_pos, if_neg, Nat.reduceAdd, List.nil_append]; try simp) (by simp [hp])⟩
        · simp (disch := omega) only [Tryd.ntmps75, Tryd.results75, go_sem, rb_eq]
          exact ⟨(s + 1, O2), ⟨hlt3, hq2.round (by omega)⟩, by show k - (s + 1) < k - s; omega, Wk.ofH (by simp only [go_sem, ↓List.forall_mem_cons, List.not_mem_nil, false_implies, implies_true, and_true, true_and, and_self, ri_eq, Int.natCast_add, Int.cast_ofNat_Int, rb_eq]; try simp) (by simp (disch := omega) only [go_sem, ↓List.forall_mem_cons, List.not_mem_nil, false_implies, implies_true, and_true, true_and, and_self, ri_eq, Int.natCast_add, Int.cast_ofNat_Int, if_pos, if_neg, Nat.reduceAdd, List.nil_append]; try simp) (by simp [hp])⟩
      · obtain rfl : s = k := by omega
        simp (disch := omega) only [Tryd.ntmps75, Tryd.results75, go_sem, rb_eq]
        exact ⟨(i + 1, O1, c + 1), ⟨hlt2, hpl.step hs hlt2 (by omega) (hq1.newL hlt2)⟩, by show s - (i + 1) < s - i; omega, Wk.ofH (by simp only [go_sem, ↓List.forall_mem_cons, List.not_mem_nil, false_implies, implies_true, and_true, true_and, and_self, ri_eq, Int.natCast_add, Int.cast_ofNat_Int, rb_eq]; try simp) (by simp (disch := omega) only [go_sem, ↓List.forall_mem_cons, List.not_mem_nil, false_implies, implies_true, and_true, true_and, and_self, ri_eq, Int.natCast_add, Int.cast_ofNat_Int, if_pos, if_neg, Nat.reduceAdd, List.nil_append]; try simp) (by simp [hp])⟩
  · have hC := hpl.final (by omega)
    have hc2 := hC.comp
    rw [← hC.eq] at hc2 ⊢
    simp (disch := omega) only [Tryd.ntmps75, Tryd.results75, go_sem, rb_eq]
    exact Fin.imp (fun _ _ h => ⟨hc2, h⟩) (fin_ints hl.symm (by rw [hp_map]; simp only [hmap_cons]; rfl))
end Go.Sh

/-
  Contracts: the components of a graph of positive weights, of the reference; both as one.
-/
namespace Go.Sh
set_option linter.unusedSimpArgs false
set_option linter.unusedVariables false
open Go Go.Proofs

theorem CompL.congr {n : Nat} {B B' : Nat → Nat → Bool} {L : List Int} (h : CompL n B L) (hb : ∀ x y, x < n → y < n → B x y = B' x y) : CompL n B' L := by
  have hr : ∀ x y, Rch n B x y ↔ Rch n B' x y := fun x y => ⟨fun r => r.mono fun x y hx hy h => .one hx hy (by rw [← hb x y hx hy]; exact h), fun r => r.mono fun x y hx hy h => .one hx hy (by rw [hb x y hx hy]; exact h)⟩
  exact ⟨h.len, h.nn, h.can, fun x y hx hy => (h.iff x y hx hy).trans (hr x y)⟩
/-- A square of bools. -/
def Sq (n : Nat) (X : List (List Bool)) : Prop := X.length = n ∧ ∀ i, i < n → (brow X i).length = n
theorem Sq.bz (n : Nat) : Sq n (bz n) := ⟨bz_length n, fun i h => by rw [bz_row h]; simp⟩
theorem Sq.set {n : Nat} {X : List (List Bool)} (h : Sq n X) (i c : Nat) (x : Bool) : Sq n (bset X i c x) := ⟨by rw [bset_length, h.1], fun k hk => by rw [bset_row_length]; exact h.2 k hk⟩

noncomputable def pcomp (M : List (List Int)) : List Int := if isWM M = true then comp M.length (pB M) else []
theorem pcomp_t {M : List (List Int)} (h : WM M) : pcomp M = comp M.length (pB M) := by rw [pcomp, if_pos (isWM_t h)]
theorem pcomp_f {M : List (List Int)} (h : ¬ WM M) : pcomp M = [] := by rw [pcomp, if_neg (by rw [isWM_f h]; simp)]
theorem pcomp_length {M : List (List Int)} (h : WM M) : (pcomp M).length = M.length := by rw [pcomp_t h]; exact (comp_ok h.sym).len
theorem Tryd.implPC_one (M : List (List Int)) (hM : M.length ≤ 1048576) (hR : ∀ i, i < M.length → (mrow M i).length ≤ 1048576) (h : WM M) : FCall Tryd.prog 72 [rr M] (OneRes M.length 1 (ints (pcomp M))) := by
  rw [pcomp_t h]
  exact ((Tryd.implPC_f M hM hR h).mono fun _ _ h => h.2).one
theorem Tryd.implPC_ok (M : List (List Int)) (hM : M.length ≤ 1048576) (hR : ∀ i, i < M.length → (mrow M i).length ≤ 1048576) : PCall Tryd.prog 72 [rr M] (ri (pcomp M)) := by
  by_cases h : WM M
  · exact (Tryd.implPC_one M hM hR h).pcall 2 (fun _ _ g => one_view g (pcomp_length h).symm)
  · rw [pcomp_f h]; exact (Tryd.implPC_nil M hM hR h).pcall 0 (by rintro r H rfl; exact view_nil)
end Go.Sh

/-
  Squares of numbers, by their entries.
-/
namespace Go.Sh
set_option linter.unusedSimpArgs false
set_option linter.unusedVariables false
open Go Go.Proofs

/-- A square of numbers. -/
def SqI (n : Nat) (M : List (List Int)) : Prop := M.length = n ∧ ∀ i, i < n → (mrow M i).length = n
theorem SqI.zs (n : Nat) : SqI n (zs n) := ⟨zs_length n, fun i h => by rw [zs_row h]; simp⟩
theorem SqI.set {n : Nat} {M : List (List Int)} (h : SqI n M) (i c : Nat) (x : Int) : SqI n (mset M i c x) := ⟨by rw [mset_length, h.1], fun k hk => by rw [mset_row_length]; exact h.2 k hk⟩
theorem SqI.ext {n : Nat} {M M' : List (List Int)} (h : SqI n M) (h' : SqI n M') (e : ∀ x y, x < n → y < n → mat M x y = mat M' x y) : M = M' := by
  refine List.ext_getElem (h.1.trans h'.1.symm) fun i h1 h2 => ?_
  have hi : i < n := by rw [← h.1]; exact h1
  have e1 : M[i] = mrow M i := by simp [mrow, h1]
  have e2 : M'[i] = mrow M' i := by simp [mrow, h2]
  rw [e1, e2]
  exact list_ext ((h.2 i hi).trans (h'.2 i hi).symm) fun k hk => e i k hi (by rw [← h.2 i hi]; exact hk)
def genM (n : Nat) (f : Nat → Nat → Int) : List (List Int) := (List.range n).map fun x => (List.range n).map fun y => f x y
theorem genM_row {n : Nat} {f : Nat → Nat → Int} {x : Nat} (h : x < n) : mrow (genM n f) x = (List.range n).map fun y => f x y := by simp [mrow, genM, h]
theorem genM_sq (n : Nat) (f : Nat → Nat → Int) : SqI n (genM n f) := ⟨by simp [genM], fun i h => by rw [genM_row h]; simp⟩
theorem genM_at {n : Nat} {f : Nat → Nat → Int} {x y : Nat} (hx : x < n) (hy : y < n) : mat (genM n f) x y = f x y := by rw [mat, genM_row hx]; simp [hy]
def bint (b : Bool) : Int := if b = true then 1 else 0
end Go.Sh
