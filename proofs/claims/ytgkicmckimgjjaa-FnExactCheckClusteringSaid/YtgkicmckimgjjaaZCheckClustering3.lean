/-
  Texts put together: N2, M0, Y1, W1, N5, Y2, W2, AB1, AB2, AB3, Y3, P1, AA2. What each proves stands at its own head, with its conditions.
-/
import Derived.Test.YtgkicmckimgjjaaZCheckClustering2

/-
  Contracts: a square of zeros; the components of a graph of positive weights. Of the program.
-/
namespace Go.Sh
set_option linter.unusedSimpArgs false
set_option linter.unusedVariables false
open Go Go.Proofs

def zs (n : Nat) : List (List Int) := List.replicate n (List.replicate n 0)
theorem zs_length (n : Nat) : (zs n).length = n := by simp [zs]
theorem zs_row {n i : Nat} (h : i < n) : mrow (zs n) i = List.replicate n 0 := by simp [zs, mrow, h]
theorem zs_at {n i k : Nat} : mat (zs n) i k = 0 := by
  simp only [zs, mat, mrow, List.getD_eq_getElem?_getD, List.getElem?_replicate]
  by_cases h : i < n
  · by_cases h2 : k < n <;> simp [h, h2]
  · simp [h]
def outerQ (n k : Nat) : List SV := (List.range n).map fun i => if i < k then .own (i + 1) 0 n n 1 true else .val (.slice none 0 0)
theorem outerQ_length (n k : Nat) : (outerQ n k).length = n := by simp [outerQ]
theorem outerQ_zero (n : Nat) : outerQ n 0 = List.replicate n (.val (.slice none 0 0)) := by
  apply List.ext_getElem <;> simp [outerQ]
theorem outerQ_get {n k i : Nat} (h : i < n) : (outerQ n k)[i]? = some (if i < k then .own (i + 1) 0 n n 1 true else .val (.slice none 0 0)) := by
  simp only [outerQ, List.getElem?_map]
  rw [List.getElem?_range h]; rfl
theorem outerQ_set {n k : Nat} (h : k < n) : (outerQ n k).set k (.own (k + 1) 0 n n 1 true) = outerQ n (k + 1) := by
  apply List.ext_getElem?
  intro i
  by_cases hi : i < n
  · rw [outerQ_get hi, List.getElem?_set, outerQ_length, outerQ_get hi]
    by_cases hk : k = i
    · subst hk; simp [h]
    · by_cases h1 : i < k
      · simp [hk, h1, show i < k + 1 by omega]
      · simp [hk, h1, show ¬ i < k + 1 by omega]
  · rw [List.getElem?_eq_none (by rw [List.length_set, outerQ_length]; omega), List.getElem?_eq_none (by rw [outerQ_length]; omega)]
def HQ (n k : Nat) : Heap := ⟨fun x => if x = 0 then some ⟨outerQ n k, true⟩ else if x ≤ k then some ⟨ints (List.replicate n 0), true⟩ else none, k + 1⟩
def HQp (n k : Nat) : Heap := (HQ n k).push ⟨ints (List.replicate n 0), true⟩
theorem HQ_nb (n k : Nat) : (HQ n k).nb = k + 1 := rfl
theorem HQ_map (n k : Nat) : (HQ n k).map 0 = some ⟨outerQ n k, true⟩ := rfl
theorem HQp_map (n k : Nat) : (HQp n k).map 0 = some ⟨outerQ n k, true⟩ := by
  simp only [HQp, Heap.push, HQ]
  rw [if_neg (by omega)]
  rfl
theorem HQp_set {n k : Nat} : (HQp n k).set 0 (some ⟨outerQ n (k + 1), true⟩) = HQ n (k + 1) := by
  refine Heap.ext' (fun x => ?_) rfl
  simp only [HQp, HQ, Heap.push, Heap.set]
  by_cases h0 : x = 0
  · simp [h0]
  · by_cases h1 : x = k + 1
    · simp [h1]
    · by_cases h2 : x ≤ k
      · simp [h0, h1, h2, show x ≤ k + 1 by omega]
      · simp [h0, h1, h2, show ¬ x ≤ k + 1 by omega]
theorem HQ_zero (n : Nat) : HQ n 0 = hp [(0, ⟨List.replicate n (.val (.slice none 0 0)), true⟩)] 1 := by
  refine Heap.ext' (fun x => ?_) rfl
  simp only [HQ, hp, hmap, outerQ_zero]
  by_cases h0 : x = 0
  · simp [h0]
  · simp [h0]
theorem outerQ_nr (n k : Nat) : noRowL (outerQ n k) = true := by
  unfold outerQ
  generalize List.range n = l
  induction l with
  | nil => rfl
  | cons a l ih =>
    simp only [List.map_cons, noRowL, ih, Bool.and_true]
    split <;> rfl
theorem HQ_nr (n k : Nat) : nrHeap (HQ n k) := by
  intro b blk hb
  simp only [HQ] at hb
  split at hb
  · simp at hb; subst hb; exact outerQ_nr n k
  · split at hb
    · simp at hb; subst hb; exact noRowL_ints _
    · simp at hb
theorem HQ_res (n : Nat) : MatRes (mi (zs n)) (.own 0 0 n n 1 true) (HQ n n) := by
  have hl : (mi (zs n)).length = n := by rw [mi_length, zs_length]
  refine ⟨0, 0, n, true, _, by rw [hl], HQ_map n n, by rw [hl, outerQ_length]; omega, mi_vals _, fun i => i + 1, fun _ => 0, fun i i' _ _ h => by simpa using h, fun i _ => by simp, fun i hi => ?_⟩
  rw [hl] at hi
  have hr : rowAt (mi (zs n)) i = ints (List.replicate n 0) := by rw [mi_row (by rwa [zs_length]), zs_row hi]
  refine ⟨n, true, ⟨ints (List.replicate n 0), true⟩, ?_, ?_, ?_, ?_⟩
  · rw [hr, Nat.zero_add, outerQ_get hi, if_pos hi, ints_length, List.length_replicate]
  · simp only [HQ]
    rw [if_neg (by omega), if_pos (by omega)]
  · rw [hr]; simp
  · rw [hr]; simp

set_option maxHeartbeats 1000000 in
theorem Try.square_f (n : Nat) (hn : n ≤ 1048576) : FCall Try.prog 64 [.val (.int .i64 n)] (MatRes (mi (zs n))) := by
  refine FCall.of_body Try.func64 rfl (by kernel_rfl) (by simp [Try.ntmps64]) ?_
  refine SW_of_vc Try.mixed _ _ _ (by kernel_rfl) ?_
  simp (disch := omega) only [Try.ntmps64, Try.results64, go_sem]
  refine LoopW.loop (fun k : Nat => ⟨ofL [(0, .val (.int .i64 n)), (3, .own 0 0 n n 1 true), (8, .val (.int .i64 n)), (9, .val (.int .i64 k))], HQ n k⟩) (fun k => k ≤ n) (fun k => n - k) 0 (by omega)
    (Wk.of (by simp only [go_sem, ↓List.forall_mem_cons, List.not_mem_nil, false_implies, implies_true, and_true, true_and, and_self, ri_eq, Int.natCast_add, Int.cast_ofNat_Int]; try simp) (by rw [HQ_zero])) ?_
  intro k hk
  have ho := outerQ_length n k
  refine SW_of_vc Try.mixed _ _ _ (by kernel_rfl) ?_
  by_cases hlt : k < n
  · have hos := outerQ_set hlt
    have e : (HQ n k).push ⟨ints (List.replicate n 0), true⟩ = HQp n k := rfl
    simp (disch := omega) only [Try.ntmps64, Try.results64, go_sem, HQ_nb, e, HQp_map, ho, hos, HQp_set]
    exact ⟨k + 1, by omega, by omega, Wk.of (by simp only [go_sem, ↓List.forall_mem_cons, List.not_mem_nil, false_implies, implies_true, and_true, true_and, and_self, ri_eq, Int.natCast_add, Int.cast_ofNat_Int]; try simp) rfl⟩
  · obtain rfl : k = n := by omega
    simp (disch := omega) only [Try.ntmps64, Try.results64, go_sem]
    exact ⟨HQ k k, ⟨rfl, fun _ => .inr rfl⟩, rfl, HQ_nr k _, HQ_res k⟩
theorem Try.square_one (n : Nat) (hn : n ≤ 1048576) : FCall Try.prog 64 [.val (.int .i64 n)] (MatOne (mi (zs n))) := (Try.square_f n hn).mat

/-! ### The search -/
def pB (M : List (List Int)) (x y : Nat) : Bool := decide (0 < mat M x y)
theorem WM.sym {M : List (List Int)} (h : WM M) : ∀ x y, x < M.length → y < M.length → pB M x y = true → pB M y x = true := by
  intro x y hx hy hb
  have := (h.2.2.1 x y hx hy).2
  rw [pB] at hb ⊢
  rw [← this]; exact hb
def vClos : SV := .clos (.func 175) [] [.optr 3 0, .optr 2 0, .optr 0 0, .optr 4 0]
def vHeap (M : List (List Int)) (O : List Int) (c : Int) : List (Nat × Blk) := [(4, ⟨[vClos], true⟩), (3, ⟨[.val (.int .i64 c)], true⟩), (2, ⟨[.own 1 0 M.length M.length 1 true], true⟩), (1, ⟨ints O, true⟩), (0, ⟨[rr M], true⟩)]

set_option maxHeartbeats 4000000 in
theorem Try.visit_ok {M : List (List Int)} (hw : WM M) {c : Int} (hc : 0 ≤ c) : ∀ (fu : Nat) (O : List Int) (i : Nat), O.length = M.length → i < M.length → O.getD i 0 < 0 → negs M.length O ≤ fu →
    CallS Try.prog 175 [.val (.int .i64 i), .optr 3 0, .optr 2 0, .optr 0 0, .optr 4 0] (hp (vHeap M O c) 5) (fun r H' => ∃ O', r = .tup [] ∧ H' = hp (vHeap M O' c) 5 ∧ DfsL M.length (pB M) c i O O')
  | 0, O, i, hl, hi, h0, hf => by have := negs_pos hi h0; omega
  | fu + 1, O, i, hl, hi, h0, hf => by
    have hln := hw.1
    have hri := hw.2.1 i hi
    refine CallS.of_body Try.func175 rfl (by kernel_rfl) (by simp [Try.ntmps175]) ?_
    refine SW_of_vc Try.mixed _ _ _ (by kernel_rfl) ?_
    rw [vHeap]
    simp (disch := omega) only [Try.ntmps175, Try.results175, go_sem, rr_eq, hl, rows_get, hri]
    refine LoopW.loop (fun p : Nat × List Int => ⟨ofL [(1, .optr 3 0), (2, .optr 2 0), (3, .optr 0 0), (4, .optr 4 0), (15, .row M.length false (ints (mrow M i))), (16, .val (.int .i64 M.length)), (17, .val (.int .i64 p.1))], hp (vHeap M p.2 c) 5⟩)
      (fun p => p.1 ≤ M.length ∧ DfsK M.length (pB M) c i O p.1 p.2) (fun p => M.length - p.1) (0, O.set i c) ⟨by simp, .start hl hi h0⟩ (Wk.of (by simp only [go_sem, ↓List.forall_mem_cons, List.not_mem_nil, false_implies, implies_true, and_true, true_and, and_self, ri_eq, Int.natCast_add, Int.cast_ofNat_Int, rr_eq, hri]; try simp) rfl) ?_
    rintro ⟨k, O1⟩ ⟨hk, hd⟩
    simp only at hk hd
    have hl1 := hd.len
    refine SW_of_vc Try.mixed _ _ _ (by kernel_rfl) ?_
    rw [vHeap]
    by_cases hlt : k < M.length
    · have g1 : (ints (mrow M i))[k]? = some (.val (.int .i64 (mat M i k))) := ints_get' hri hlt
      have g2 : (ints O1)[k]? = some (.val (.int .i64 (O1.getD k 0))) := ints_get' hl1 hlt
      obtain ⟨a, ha⟩ : ∃ a, mat M i k = a := ⟨_, rfl⟩
      obtain ⟨b, hb⟩ : ∃ b, O1.getD k 0 = b := ⟨_, rfl⟩
      have hpb : pB M i k = decide (0 < a) := by rw [pB, ha]
      rw [ha] at g1
      rw [hb] at g2
      by_cases h1 : 0 < a
      · by_cases h2 : b < 0
        · have w := Try.visit_ok hw hc fu O1 k hl1 hlt (by omega) (by have := hd.negs hc hi h0; omega)
          rw [vHeap, vClos] at w
          simp (disch := omega) only [Try.ntmps175, Try.results175, go_sem, vClos, g1, g2, hl1, ints_length]
          refine w.callX ?_
          rintro r H' ⟨O2, rfl, rfl, hd2⟩
          simp (disch := omega) only [Try.ntmps175, Try.results175, go_sem]
          exact ⟨(k + 1, O2), ⟨hlt, hd.step hc hi hlt (by rw [hpb]; exact decide_eq_true h1) (by omega) hd2⟩, by show M.length - (k + 1) < M.length - k; omega, Wk.of (by simp only [go_sem, ↓List.forall_mem_cons, List.not_mem_nil, false_implies, implies_true, and_true, true_and, and_self, ri_eq, Int.natCast_add, Int.cast_ofNat_Int]; try simp) rfl⟩
        · simp (disch := omega) only [Try.ntmps175, Try.results175, go_sem, vClos, g1, g2, hl1, ints_length]
          exact ⟨(k + 1, O1), ⟨hlt, hd.skip (fun _ => by omega)⟩, by show M.length - (k + 1) < M.length - k; omega, Wk.of (by simp only [go_sem, ↓List.forall_mem_cons, List.not_mem_nil, false_implies, implies_true, and_true, true_and, and_self, ri_eq, Int.natCast_add, Int.cast_ofNat_Int]; try simp) rfl⟩
      · simp (disch := omega) only [Try.ntmps175, Try.results175, go_sem, vClos, g1, g2, hl1, ints_length]
        exact ⟨(k + 1, O1), ⟨hlt, hd.skip (fun h => by rw [hpb] at h; exact absurd (of_decide_eq_true h) h1)⟩, by show M.length - (k + 1) < M.length - k; omega, Wk.of (by simp only [go_sem, ↓List.forall_mem_cons, List.not_mem_nil, false_implies, implies_true, and_true, true_and, and_self, ri_eq, Int.natCast_add, Int.cast_ofNat_Int]; try simp) rfl⟩
    · simp (disch := omega) only [Try.ntmps175, Try.results175, go_sem]
      exact ⟨O1, rfl, hd.final (by omega)⟩

def fillN (n k : Nat) : List Int := List.replicate k (-1) ++ List.replicate (n - k) 0
theorem fillN_zero (n : Nat) : fillN n 0 = List.replicate n 0 := by simp [fillN]
theorem fillN_length {n k : Nat} (h : k ≤ n) : (fillN n k).length = n := by simp [fillN]; omega
theorem fillN_set {n k : Nat} (h : k < n) : (fillN n k).set k (-1) = fillN n (k + 1) := by
  apply List.ext_getElem?
  intro i
  simp [fillN, List.getElem?_set, List.getElem?_append, List.getElem?_replicate]
  grind
theorem fillN_all (n : Nat) : fillN n n = List.replicate n (-1) := by simp [fillN]

theorem Fin.imp {R R' : SV → Heap → Prop} {r : SV} {H : Heap} (h : ∀ r H, R r H → R' r H) (f : Fin R r H) : Fin R' r H := by
  obtain ⟨H2, a, b, c, d⟩ := f
  exact ⟨H2, a, b, c, h _ _ d⟩
set_option maxHeartbeats 4000000 in
theorem Try.implPC_f (M : List (List Int)) (hM : M.length ≤ 1048576) (hR : ∀ i, i < M.length → (mrow M i).length ≤ 1048576) (hw : WM M) : FCall Try.prog 173 [rr M] (fun r H => CompL M.length (pB M) (comp M.length (pB M)) ∧ FlatRes M.length 1 (ints (comp M.length (pB M))) r H) := by
  have hln := hw.1
  have w1 := Try.implIsWM_ok M hM hR
  rw [isWM_t hw] at w1
  refine FCall.of_body Try.func173 rfl (by kernel_rfl) (by simp [Try.ntmps173]) ?_
  refine SW_of_vc Try.mixed _ _ _ (by kernel_rfl) ?_
  simp (disch := omega) only [Try.ntmps173, Try.results173, go_sem, rr_eq]
  refine w1.callV 0 (viewL_cons_of (view_row) viewL_nil_of) ?_
  simp (disch := omega) only [Try.ntmps173, Try.results173, go_sem, rr_eq]
  refine LoopW.loop (fun k : Nat => ⟨ofL [(1, .optr 0 0), (3, .optr 2 0), (15, .val (.int .i64 M.length)), (16, .val (.int .i64 k))], hp [(2, ⟨[.own 1 0 M.length M.length 1 true], true⟩), (1, ⟨ints (fillN M.length k), true⟩), (0, ⟨[rr M], true⟩)] 3⟩) (fun k => k ≤ M.length) (fun k => M.length - k) 0 (by omega)
    (Wk.of (by simp only [go_sem, ↓List.forall_mem_cons, List.not_mem_nil, false_implies, implies_true, and_true, true_and, and_self, ri_eq, Int.natCast_add, Int.cast_ofNat_Int]; try simp) (by rw [fillN_zero]; rfl)) ?_
  intro k hk
  have hfl := fillN_length hk
  refine SW_of_vc Try.mixed _ _ _ (by kernel_rfl) ?_
  by_cases hlt : k < M.length
  · have hfs := fillN_set hlt
    simp (disch := omega) only [Try.ntmps173, Try.results173, go_sem, rr_eq, hfl, hfs]
    exact ⟨k + 1, by omega, by omega, Wk.of (by simp only [go_sem, ↓List.forall_mem_cons, List.not_mem_nil, false_implies, implies_true, and_true, true_and, and_self, ri_eq, Int.natCast_add, Int.cast_ofNat_Int]; try simp) rfl⟩
  · obtain rfl : k = M.length := by omega
    simp (disch := omega) only [Try.ntmps173, Try.results173, go_sem, rr_eq, fillN_all]
    refine LoopW.loop (fun p : Nat × List Int × Int => ⟨ofL [(3, .optr 2 0), (5, .optr 3 0), (6, .optr 4 0), (25, .val (.int .i64 M.length)), (26, .val (.int .i64 p.1))], hp (vHeap M p.2.1 p.2.2) 5⟩)
      (fun p => p.1 ≤ M.length ∧ PartL M.length (pB M) p.1 p.2.2 p.2.1) (fun p => M.length - p.1) (0, List.replicate M.length (-1), 0) ⟨by simp, .zero _ _⟩ (Wk.of (by simp only [go_sem, ↓List.forall_mem_cons, List.not_mem_nil, false_implies, implies_true, and_true, true_and, and_self, ri_eq, Int.natCast_add, Int.cast_ofNat_Int]; try simp) rfl) ?_
    rintro ⟨i, O, c⟩ ⟨hi, hpl⟩
    simp only at hi hpl
    have hl := hpl.len
    have hc0 := hpl.c0
    have hci := hpl.ci
    refine SW_of_vc Try.mixed _ _ _ (by kernel_rfl) ?_
    rw [vHeap]
    by_cases hlt : i < M.length
    · have g2 : (ints O)[i]? = some (.val (.int .i64 (O.getD i 0))) := ints_get' hl hlt
      obtain ⟨b, hb⟩ : ∃ b, O.getD i 0 = b := ⟨_, rfl⟩
      rw [hb] at g2
      by_cases h2 : b < 0
      · have w := Try.visit_ok hw hc0 (negs M.length O) O i hl hlt (by omega) (Nat.le_refl _)
        rw [vHeap, vClos] at w
        simp (disch := omega) only [Try.ntmps173, Try.results173, go_sem, vClos, g2, hl]
        refine w.callX ?_
        rintro r H' ⟨O2, rfl, rfl, hd⟩
        rw [vHeap]
        simp (disch := omega) only [Try.ntmps173, Try.results173, go_sem, vClos]
        exact ⟨(i + 1, O2, c + 1), ⟨hlt, hpl.step hw.sym hlt (by omega) (hd.newL hw.sym hpl hlt (by omega))⟩, by show M.length - (i + 1) < M.length - i; omega, Wk.of (by simp only [go_sem, ↓List.forall_mem_cons, List.not_mem_nil, false_implies, implies_true, and_true, true_and, and_self, ri_eq, Int.natCast_add, Int.cast_ofNat_Int]; try simp) rfl⟩
      · simp (disch := omega) only [Try.ntmps173, Try.results173, go_sem, vClos, g2, hl]
        exact ⟨(i + 1, O, c), ⟨hlt, hpl.skip (by omega)⟩, by show M.length - (i + 1) < M.length - i; omega, Wk.of (by simp only [go_sem, ↓List.forall_mem_cons, List.not_mem_nil, false_implies, implies_true, and_true, true_and, and_self, ri_eq, Int.natCast_add, Int.cast_ofNat_Int]; try simp) rfl⟩
    · have hC := hpl.final (by omega)
      have hc2 := hC.comp
      rw [← hC.eq] at hc2 ⊢
      simp (disch := omega) only [Try.ntmps173, Try.results173, go_sem, vClos]
      exact Fin.imp (fun _ _ h => ⟨hc2, h⟩) (fin_ints hl.symm (by rw [hp_map]; simp only [hmap_cons]; rfl))
theorem Try.implPC_nil (M : List (List Int)) (hM : M.length ≤ 1048576) (hR : ∀ i, i < M.length → (mrow M i).length ≤ 1048576) (hw : ¬ WM M) : FCall Try.prog 173 [rr M] (fun r _ => r = .val (.slice none 0 0)) := by
  have w1 := Try.implIsWM_ok M hM hR
  rw [isWM_f hw] at w1
  refine FCall.of_body Try.func173 rfl (by kernel_rfl) (by simp [Try.ntmps173]) ?_
  refine SW_of_vc Try.mixed _ _ _ (by kernel_rfl) ?_
  simp (disch := omega) only [Try.ntmps173, Try.results173, go_sem, rr_eq]
  refine w1.callV 0 (viewL_cons_of (view_row) viewL_nil_of) ?_
  simp (disch := omega) only [Try.ntmps173, Try.results173, go_sem, rr_eq]
  exact Fin.val rfl
end Go.Sh

/-
  Squares of numbers, by their entries.
-/
namespace Go.Sh
set_option linter.unusedSimpArgs false
set_option linter.unusedVariables false
open Go Go.Proofs

/-- A square of numbers. -/
def SqI (n : Nat) (M : List (List Int)) : Prop := M.length = n ∧ ∀ i, i < n → (mrow M i).length = n
theorem SqI.zs (n : Nat) : SqI n (zs n) := ⟨zs_length n, fun i h => by rw [zs_row h]; simp⟩
theorem SqI.set {n : Nat} {M : List (List Int)} (h : SqI n M) (i c : Nat) (x : Int) : SqI n (mset M i c x) := ⟨by rw [mset_length, h.1], fun k hk => by rw [mset_row_length]; exact h.2 k hk⟩
theorem SqI.ext {n : Nat} {M M' : List (List Int)} (h : SqI n M) (h' : SqI n M') (e : ∀ x y, x < n → y < n → mat M x y = mat M' x y) : M = M' := by
  refine List.ext_getElem (h.1.trans h'.1.symm) fun i h1 h2 => ?_
  have hi : i < n := by rw [← h.1]; exact h1
  have e1 : M[i] = mrow M i := by simp [mrow, h1]
  have e2 : M'[i] = mrow M' i := by simp [mrow, h2]
  rw [e1, e2]
  exact list_ext ((h.2 i hi).trans (h'.2 i hi).symm) fun k hk => e i k hi (by rw [← h.2 i hi]; exact hk)
def genM (n : Nat) (f : Nat → Nat → Int) : List (List Int) := (List.range n).map fun x => (List.range n).map fun y => f x y
theorem genM_row {n : Nat} {f : Nat → Nat → Int} {x : Nat} (h : x < n) : mrow (genM n f) x = (List.range n).map fun y => f x y := by simp [mrow, genM, h]
theorem genM_sq (n : Nat) (f : Nat → Nat → Int) : SqI n (genM n f) := ⟨by simp [genM], fun i h => by rw [genM_row h]; simp⟩
theorem genM_at {n : Nat} {f : Nat → Nat → Int} {x y : Nat} (hx : x < n) (hy : y < n) : mat (genM n f) x y = f x y := by rw [mat, genM_row hx]; simp [hy]
def bint (b : Bool) : Int := if b = true then 1 else 0
end Go.Sh

/-
  Packings: what a pair bears. Plain; and the reference's sum.
-/
namespace Go.Sh
set_option linter.unusedSimpArgs false
set_option linter.unusedVariables false
open Go Go.Proofs

def hitT (t : Tri) (x y : Nat) : Bool := (decide (t.1 = x) && decide (t.2.1 = y)) || ((decide (t.1 = x) && decide (t.2.2.1 = y)) || (decide (t.2.1 = x) && decide (t.2.2.1 = y)))
def usedT (T : List Tri) (x y : Nat) : Int := (T.map fun t => if hitT t x y = true then t.2.2.2 else 0).sum
theorem usedT_nil (x y : Nat) : usedT [] x y = 0 := rfl
theorem tg_get {T : List Tri} {k : Nat} (h : k < T.length) : tg T k = T[k] := by simp [tg, h]
theorem usedT_succ {T : List Tri} {k : Nat} (h : k < T.length) (x y : Nat) : usedT (T.take (k + 1)) x y = usedT (T.take k) x y + (if hitT (tg T k) x y = true then (tg T k).2.2.2 else 0) := by
  rw [tg_get h, usedT, List.take_succ_eq_append_getElem h, List.map_append, List.sum_append]
  simp [usedT]
def wOk (T : List Tri) : Prop := ∀ k, k < T.length → 1 ≤ (tg T k).2.2.2 ∧ (tg T k).2.2.2 ≤ 1000
theorem usedT_r {T : List Tri} (h : wOk T) (x y : Nat) : ∀ k, k ≤ T.length → 0 ≤ usedT (T.take k) x y ∧ usedT (T.take k) x y ≤ 1000 * (k : Int)
  | 0, _ => by simp [usedT]
  | k + 1, hk => by
    have ih := usedT_r h x y k (by omega)
    have := h k (by omega)
    rw [usedT_succ (by omega)]
    split <;> omega
theorem usedT_mono {T : List Tri} (h : wOk T) (x y : Nat) : ∀ {j k : Nat}, k ≤ j → j ≤ T.length → usedT (T.take k) x y ≤ usedT (T.take j) x y := by
  intro j k hkj
  induction hkj with
  | refl => intro _; exact Int.le_refl _
  | step hs ih =>
    intro hj
    have := ih (by omega)
    rename_i m
    have := h m (by omega)
    rw [usedT_succ (by omega)]
    split <;> omega
def packP (M : List (List Int)) (T : List Tri) : Prop :=
  WM M ∧ T.length ≤ 100 ∧ (∀ k, k < T.length → isBT M (tg T k).1 (tg T k).2.1 (tg T k).2.2.1 = true ∧ 1 ≤ (tg T k).2.2.2 ∧ (tg T k).2.2.2 ≤ 1000) ∧ ∀ x y, x < y → y < M.length → usedT T x y ≤ absI (mat M x y)
open Classical in
noncomputable def isPk (M : List (List Int)) (T : List Tri) : Bool := decide (packP M T)
open Classical in
theorem isPk_t {M : List (List Int)} {T : List Tri} (h : packP M T) : isPk M T = true := decide_eq_true h
open Classical in
theorem isPk_f {M : List (List Int)} {T : List Tri} (h : ¬ packP M T) : isPk M T = false := decide_eq_false h
theorem packP.w {M : List (List Int)} {T : List Tri} (h : packP M T) : wOk T := fun k hk => (h.2.2.1 k hk).2
/-- One pair that bears too much, in the first k + 1 triangles. -/
theorem pack_over {M : List (List Int)} {T : List Tri} {k x y : Nat} (hk : k < T.length) (hxy : x < y) (hy : y < M.length) (h : absI (mat M x y) < usedT (T.take (k + 1)) x y) : isPk M T = false := by
  refine isPk_f fun g => ?_
  have h1 := usedT_mono g.w x y (k := k + 1) (j := T.length) (by omega) (Nat.le_refl _)
  rw [List.take_length] at h1
  have := g.2.2.2 x y hxy hy
  omega
theorem absI_nonneg (x : Int) : 0 ≤ absI x := by unfold absI; split <;> omega
theorem triB_of {M : List (List Int)} {a b c : Int} (h : isBT M a b c = true) : ∃ x y z : Nat, a = x ∧ b = y ∧ c = z ∧ x < y ∧ y < z ∧ z < M.length ∧ badB (mat M x y) (mat M x z) (mat M y z) = true := by
  simp only [isBT, Bool.and_eq_true] at h
  have ht := of_decide_eq_true h.2.1
  refine ⟨a.toNat, b.toNat, c.toNat, by omega, by omega, by omega, by omega, by omega, by omega, h.2.2⟩

set_option maxRecDepth 20000 in
set_option maxHeartbeats 4000000 in
theorem Try.l21Used_ok (T : List Tri) (x y : Nat) (hT : T.length ≤ 1048576) (hw : wOk T) : PCall Try.prog 72 [rt T, .val (.int .i64 x), .val (.int .i64 y)] (.val (.int .i64 (usedT T x y))) := by
  refine FCall.pcall (R := fun r _ => r = .val (.int .i64 (usedT T x y))) ?_ 0 (by rintro r H rfl; exact view_int)
  refine FCall.of_body Try.func72 rfl (by kernel_rfl) (by simp [Try.ntmps72]) ?_
  refine SW_of_vc Try.mixed _ _ _ (by kernel_rfl) ?_
  have lT := encL_length (enc := tri4) (z := 4) tri4_z T
  simp (disch := omega) only [Try.ntmps72, Try.results72, go_sem, rt]
  refine LoopW.loop (fun p : Nat × Nat => ⟨ofL [(0, rt T), (1, .val (.int .i64 x)), (2, .val (.int .i64 y)), (7, .val (.int .i64 (usedT (T.take p.1) x y))), (8, .val (.int .i64 p.1))], hp [] p.2⟩) (fun p => p.1 ≤ T.length) (fun p => T.length - p.1) (0, 0) (by simp)
    (Wk.of (by simp only [go_sem, ↓List.forall_mem_cons, List.not_mem_nil, false_implies, implies_true, and_true, true_and, and_self, ri_eq, Int.natCast_add, Int.cast_ofNat_Int, rt, List.take_zero, usedT_nil]; try simp) rfl) ?_
  rintro ⟨k, nb⟩ hk
  simp only at hk
  refine SW_of_vc Try.mixed _ _ _ (by kernel_rfl) ?_
  by_cases hlt : k < T.length
  · obtain ⟨a, b, c, w, ht⟩ := tri_ex T k
    obtain ⟨_, _, _, _, q⟩ := tri_of hlt ht
    have hs := usedT_succ hlt x y
    have hr := usedT_r hw x y k hk
    have hwk := hw k hlt
    rw [ht] at hs hwk
    simp only [hitT] at hs hwk
    generalize usedT (T.take k) x y = u at *
    by_cases h1 : a = x
    · by_cases h2 : b = y
      · have e : usedT (T.take (k + 1)) x y = u + w := by rw [hs]; simp [h1, h2]
        simp (disch := omega) only [Try.ntmps72, Try.results72, go_sem, rt, lT, q]
        exact ⟨(k + 1, nb + 1), hlt, by show T.length - (k + 1) < T.length - k; omega, Wk.ofH (by simp only [go_sem, ↓List.forall_mem_cons, List.not_mem_nil, false_implies, implies_true, and_true, true_and, and_self, ri_eq, Int.natCast_add, Int.cast_ofNat_Int, rt, e]; try simp) (by simp (disch := omega) only [go_sem, ↓List.forall_mem_cons, List.not_mem_nil, false_implies, implies_true, and_true, true_and, and_self, ri_eq, Int.natCast_add, Int.cast_ofNat_Int, if_pos, if_neg, Nat.reduceAdd, List.nil_append]; try simp) (Nat.le_refl _)⟩
      · by_cases h3 : c = y
        · have e : usedT (T.take (k + 1)) x y = u + w := by rw [hs]; simp [h1, h3]
          simp (disch := omega) only [Try.ntmps72, Try.results72, go_sem, rt, lT, q]
          exact ⟨(k + 1, nb + 1), hlt, by show T.length - (k + 1) < T.length - k; omega, Wk.ofH (by simp only [go_sem, ↓List.forall_mem_cons, List.not_mem_nil, false_implies, implies_true, and_true, true_and, and_self, ri_eq, Int.natCast_add, Int.cast_ofNat_Int, rt, e]; try simp) (by simp (disch := omega) only [go_sem, ↓List.forall_mem_cons, List.not_mem_nil, false_implies, implies_true, and_true, true_and, and_self, ri_eq, Int.natCast_add, Int.cast_ofNat_Int, if_pos, if_neg, Nat.reduceAdd, List.nil_append]; try simp) (Nat.le_refl _)⟩
        · have e : usedT (T.take (k + 1)) x y = u := by rw [hs]; simp [h2, h3]
          by_cases h4 : b = x
          · simp (disch := omega) only [Try.ntmps72, Try.results72, go_sem, rt, lT, q]
            exact ⟨(k + 1, nb + 1), hlt, by show T.length - (k + 1) < T.length - k; omega, Wk.ofH (by simp only [go_sem, ↓List.forall_mem_cons, List.not_mem_nil, false_implies, implies_true, and_true, true_and, and_self, ri_eq, Int.natCast_add, Int.cast_ofNat_Int, rt, e]; try simp) (by simp (disch := omega) only [go_sem, ↓List.forall_mem_cons, List.not_mem_nil, false_implies, implies_true, and_true, true_and, and_self, ri_eq, Int.natCast_add, Int.cast_ofNat_Int, if_pos, if_neg, Nat.reduceAdd, List.nil_append]; try simp) (Nat.le_refl _)⟩
          · simp (disch := omega) only [Try.ntmps72, Try.results72, go_sem, rt, lT, q]
            exact ⟨(k + 1, nb + 1), hlt, by show T.length - (k + 1) < T.length - k; omega, Wk.ofH (by simp only [go_sem, ↓List.forall_mem_cons, List.not_mem_nil, false_implies, implies_true, and_true, true_and, and_self, ri_eq, Int.natCast_add, Int.cast_ofNat_Int, rt, e]; try simp) (by simp (disch := omega) only [go_sem, ↓List.forall_mem_cons, List.not_mem_nil, false_implies, implies_true, and_true, true_and, and_self, ri_eq, Int.natCast_add, Int.cast_ofNat_Int, if_pos, if_neg, Nat.reduceAdd, List.nil_append]; try simp) (Nat.le_refl _)⟩
    · by_cases h4 : b = x
      · by_cases h3 : c = y
        · have e : usedT (T.take (k + 1)) x y = u + w := by rw [hs]; simp [h3, h4]
          simp (disch := omega) only [Try.ntmps72, Try.results72, go_sem, rt, lT, q]
          exact ⟨(k + 1, nb + 1), hlt, by show T.length - (k + 1) < T.length - k; omega, Wk.ofH (by simp only [go_sem, ↓List.forall_mem_cons, List.not_mem_nil, false_implies, implies_true, and_true, true_and, and_self, ri_eq, Int.natCast_add, Int.cast_ofNat_Int, rt, e]; try simp) (by simp (disch := omega) only [go_sem, ↓List.forall_mem_cons, List.not_mem_nil, false_implies, implies_true, and_true, true_and, and_self, ri_eq, Int.natCast_add, Int.cast_ofNat_Int, if_pos, if_neg, Nat.reduceAdd, List.nil_append]; try simp) (Nat.le_refl _)⟩
        · have e : usedT (T.take (k + 1)) x y = u := by rw [hs]; simp [h1, h3]
          simp (disch := omega) only [Try.ntmps72, Try.results72, go_sem, rt, lT, q]
          exact ⟨(k + 1, nb + 1), hlt, by show T.length - (k + 1) < T.length - k; omega, Wk.ofH (by simp only [go_sem, ↓List.forall_mem_cons, List.not_mem_nil, false_implies, implies_true, and_true, true_and, and_self, ri_eq, Int.natCast_add, Int.cast_ofNat_Int, rt, e]; try simp) (by simp (disch := omega) only [go_sem, ↓List.forall_mem_cons, List.not_mem_nil, false_implies, implies_true, and_true, true_and, and_self, ri_eq, Int.natCast_add, Int.cast_ofNat_Int, if_pos, if_neg, Nat.reduceAdd, List.nil_append]; try simp) (Nat.le_refl _)⟩
      · have e : usedT (T.take (k + 1)) x y = u := by rw [hs]; simp [h1, h4]
        simp (disch := omega) only [Try.ntmps72, Try.results72, go_sem, rt, lT, q]
        exact ⟨(k + 1, nb + 1), hlt, by show T.length - (k + 1) < T.length - k; omega, Wk.ofH (by simp only [go_sem, ↓List.forall_mem_cons, List.not_mem_nil, false_implies, implies_true, and_true, true_and, and_self, ri_eq, Int.natCast_add, Int.cast_ofNat_Int, rt, e]; try simp) (by simp (disch := omega) only [go_sem, ↓List.forall_mem_cons, List.not_mem_nil, false_implies, implies_true, and_true, true_and, and_self, ri_eq, Int.natCast_add, Int.cast_ofNat_Int, if_pos, if_neg, Nat.reduceAdd, List.nil_append]; try simp) (Nat.le_refl _)⟩
  · obtain rfl : k = T.length := by omega
    simp (disch := omega) only [Try.ntmps72, Try.results72, go_sem, rt]
    exact Fin.val (by rw [List.take_length])
end Go.Sh

/-
  Contracts: all bad triangles. Of the program.
-/
namespace Go.Sh
set_option linter.unusedSimpArgs false
set_option linter.unusedVariables false
open Go Go.Proofs

def mn2 (x y : Int) : Int := if y < x then y else x
theorem ite_mn2 (x y : Int) : (if y < x then y else x) = mn2 x y := rfl
def badC (M : List (List Int)) (a b c : Nat) : List Tri := if badB (mat M a b) (mat M a c) (mat M b c) = true then [((a : Int), (b : Int), (c : Int), mn2 (mn2 (absI (mat M a b)) (absI (mat M a c))) (absI (mat M b c)))] else []
def Tc (M : List (List Int)) (a b k : Nat) : List Tri := (List.range k).flatMap fun c => if b < c then badC M a b c else []
def Tb (M : List (List Int)) (a k : Nat) : List Tri := (List.range k).flatMap fun b => if a < b then Tc M a b M.length else []
def Ta (M : List (List Int)) (k : Nat) : List Tri := (List.range k).flatMap fun a => Tb M a M.length
theorem badC_len (M : List (List Int)) (a b c : Nat) : (badC M a b c).length ≤ 1 := by rw [badC]; split <;> simp
theorem Tc_succ (M : List (List Int)) (a b k : Nat) : Tc M a b (k + 1) = Tc M a b k ++ (if b < k then badC M a b k else []) := by simp [Tc, List.range_succ, List.flatMap_append]
theorem Tb_succ (M : List (List Int)) (a k : Nat) : Tb M a (k + 1) = Tb M a k ++ (if a < k then Tc M a k M.length else []) := by simp [Tb, List.range_succ, List.flatMap_append]
theorem Ta_succ (M : List (List Int)) (k : Nat) : Ta M (k + 1) = Ta M k ++ Tb M k M.length := by simp [Ta, List.range_succ, List.flatMap_append]
theorem Tc_start (M : List (List Int)) (a b : Nat) : ∀ k, k ≤ b + 1 → Tc M a b k = []
  | 0, _ => rfl
  | k + 1, h => by rw [Tc_succ, Tc_start M a b k (by omega), if_neg (by omega)]; rfl
theorem Tb_start (M : List (List Int)) (a : Nat) : ∀ k, k ≤ a + 1 → Tb M a k = []
  | 0, _ => rfl
  | k + 1, h => by rw [Tb_succ, Tb_start M a k (by omega), if_neg (by omega)]; rfl
theorem Tc_len (M : List (List Int)) (a b : Nat) : ∀ k, (Tc M a b k).length ≤ k
  | 0 => by simp [Tc]
  | k + 1 => by
    have ih := Tc_len M a b k
    have h2 := badC_len M a b k
    rw [Tc_succ, List.length_append]
    split
    · omega
    · simp; omega
theorem Tb_len {M : List (List Int)} (h : M.length ≤ 8) (a : Nat) : ∀ k, (Tb M a k).length ≤ 8 * k
  | 0 => by simp [Tb]
  | k + 1 => by
    have ih := Tb_len h a k
    have h2 := Tc_len M a k M.length
    rw [Tb_succ, List.length_append]
    split
    · omega
    · simp; omega
theorem Ta_len {M : List (List Int)} (h : M.length ≤ 8) : ∀ k, (Ta M k).length ≤ 64 * k
  | 0 => by simp [Ta]
  | k + 1 => by
    have ih := Ta_len h k
    have h2 := Tb_len h k M.length
    rw [Ta_succ, List.length_append]
    omega
noncomputable def badT (M : List (List Int)) : List Tri := if isWM M = true then Ta M M.length else []
theorem badT_t {M : List (List Int)} (h : WM M) : badT M = Ta M M.length := by rw [badT, if_pos (isWM_t h)]
theorem badT_f {M : List (List Int)} (h : ¬ WM M) : badT M = [] := by rw [badT, if_neg (by rw [isWM_f h]; simp)]
theorem badT_len (M : List (List Int)) : (badT M).length ≤ 512 := by
  by_cases h : WM M
  · rw [badT_t h]
    have := Ta_len h.1.2 M.length
    have := h.1.2
    omega
  · rw [badT_f h]; simp

theorem tri_snoc (T : List Tri) (a b c w : Int) : encL tri4 T ++ [.val (.int .i64 a), .val (.int .i64 b), .val (.int .i64 c), .val (.int .i64 w)] = encL tri4 (T ++ [(a, b, c, w)]) := by
  rw [← encL_append]; rfl
def slT (b : Nat) (T : List Tri) : SV := if T.length = 0 then .val (.slice none 0 0) else .own b 0 T.length T.length 4 false
def slTH (b : Nat) (T : List Tri) : List (Nat × Blk) := if T.length = 0 then [] else [(b, ⟨encL tri4 T, false⟩)]
theorem slT_snoc (b : Nat) (T : List Tri) (x : Tri) : slT b (T ++ [x]) = .own b 0 (T.length + 1) (T.length + 1) 4 false := by simp [slT]
theorem slTH_snoc (b : Nat) (T : List Tri) (x : Tri) : slTH b (T ++ [x]) = [(b, ⟨encL tri4 (T ++ [x]), false⟩)] := by simp [slTH]
theorem slT_f {b : Nat} {T : List Tri} (h : T.length ≠ 0) : slT b T = .own b 0 T.length T.length 4 false := if_neg h
theorem slTH_f {b : Nat} {T : List Tri} (h : T.length ≠ 0) : slTH b T = [(b, ⟨encL tri4 T, false⟩)] := if_neg h
theorem slT_t {b : Nat} {T : List Tri} (h : T.length = 0) : slT b T = .val (.slice none 0 0) := if_pos h
theorem slTH_t {b : Nat} {T : List Tri} (h : T.length = 0) : slTH b T = [] := if_pos h
theorem slTH_one (b : Nat) (p q r t : Int) : slTH b [(p, q, r, t)] = [(b, ⟨[.val (.int .i64 p), .val (.int .i64 q), .val (.int .i64 r), .val (.int .i64 t)], false⟩)] := rfl
theorem rep4c (a b c d : SV) : rep [a, b, c, d] 4 = [a, b, c, d] := rfl
/-- What a slice's block is found under, and the rest. -/
def SlOk (b nb : Nat) (T : List Tri) : Prop := T.length ≠ 0 → b < nb
theorem wk_slT {s : St} {b nb : Nat} {T : List Tri} {l : List (Nat × SV)} (h : ∀ p ∈ l, s.σ p.1 = p.2) (hm : T.length ≠ 0 → s.H.map b = some ⟨encL tri4 T, false⟩) (hn : s.H.nb ≤ nb) : Wk s ⟨ofL l, hp (slTH b T) nb⟩ := by
  refine Wk.ofH h ?_ hn
  intro q hq
  unfold slTH at hq
  split at hq
  · simp at hq
  · rename_i h0
    simp at hq; subst hq
    exact hm h0
theorem slTH_map {b nb : Nat} {T : List Tri} (h : T.length ≠ 0) : (hp (slTH b T) nb).map b = some ⟨encL tri4 T, false⟩ := by rw [slTH_f h, hp_map, hmap_cons, if_pos rfl]
def ResT (T : List Tri) (r : SV) (H : Heap) : Prop := (T.length = 0 → r = .val (.slice none 0 0)) ∧ (T.length ≠ 0 → FlatRes T.length 4 (encL tri4 T) r H)
theorem fin_slT {b : Nat} {T : List Tri} {H : Heap} (h : T.length ≠ 0 → H.map b = some ⟨encL tri4 T, false⟩) : Fin (ResT T) (slT b T) H := by
  by_cases h0 : T.length = 0
  · rw [slT_t h0]
    exact Fin.val ⟨fun _ => rfl, fun g => absurd h0 g⟩
  · rw [slT_f h0]
    exact Fin.imp (fun _ _ g => ⟨fun e => absurd e h0, fun _ => g⟩) (flat_fin (encL_length (z := 4) tri4_z T) (encL_vals tri4_v T) (h h0))

set_option maxHeartbeats 8000000 in
theorem Try.implBadT_f (M : List (List Int)) (hM : M.length ≤ 1048576) (hR : ∀ i, i < M.length → (mrow M i).length ≤ 1048576) (hw : WM M) : FCall Try.prog 19 [rr M] (ResT (badT M)) := by
  have hln := hw.1
  have w1 := Try.implIsWM_ok M hM hR
  rw [isWM_t hw] at w1
  rw [badT_t hw]
  refine FCall.of_body Try.func19 rfl (by kernel_rfl) (by simp [Try.ntmps19]) ?_
  refine SW_of_vc2 (onD 13 [(37, 37), (40, 40), (45, 45), (48, 48), (53, 53), (56, 56)] [10, 18, 26]) Try.mixed _ _ _ (by kernel_rfl) ?_
  simp (disch := omega) only [Try.ntmps19, Try.results19, go_sem, rr_eq]
  refine w1.callV 0 (viewL_cons_of (view_row) viewL_nil_of) ?_
  simp (disch := omega) only [Try.ntmps19, Try.results19, go_sem, rr_eq]
  refine LoopW.loop (fun p : Nat × Nat × Nat => ⟨ofL [(0, rr M), (3, slT p.2.1 (Ta M p.1)), (12, .val (.int .i64 M.length)), (13, .val (.int .i64 p.1))], hp (slTH p.2.1 (Ta M p.1)) p.2.2⟩)
    (fun p => p.1 ≤ M.length ∧ SlOk p.2.1 p.2.2 (Ta M p.1)) (fun p => M.length - p.1) (0, 0, 0) ⟨by simp, fun h => absurd rfl h⟩ (wk_slT (by simp only [go_sem, ↓List.forall_mem_cons, List.not_mem_nil, false_implies, implies_true, and_true, true_and, and_self, ri_eq, Int.natCast_add, Int.cast_ofNat_Int, rr_eq, slT_t (T := Ta M 0) rfl]; try simp) (fun h => absurd rfl h) (by simp [hp])) ?_
  rintro ⟨a, ob, nb⟩ ⟨ha, hob⟩
  simp only at ha hob
  refine SW_of_vc2 (onD 13 [(37, 37), (40, 40), (45, 45), (48, 48), (53, 53), (56, 56)] [10, 18, 26]) Try.mixed _ _ _ (by kernel_rfl) ?_
  by_cases hlt : a < M.length
  · simp (disch := omega) only [Try.ntmps19, Try.results19, go_sem, rr_eq]
    refine LoopW.loop (fun p : Nat × Nat × Nat => ⟨ofL [(0, rr M), (3, slT p.2.1 (Ta M a ++ Tb M a p.1)), (4, .val (.int .i64 a)), (5, .val (.int .i64 p.1)), (12, .val (.int .i64 M.length)), (13, .val (.int .i64 a))], hp (slTH p.2.1 (Ta M a ++ Tb M a p.1)) p.2.2⟩)
      (fun p => a < p.1 ∧ p.1 ≤ M.length ∧ SlOk p.2.1 p.2.2 (Ta M a ++ Tb M a p.1)) (fun p => M.length - p.1) (a + 1, ob, nb) ⟨by simp, hlt, by rw [Tb_start M a (a + 1) (Nat.le_refl _), List.append_nil]; exact hob⟩
      (by
        have e : Tb M a (a + 1) = [] := Tb_start M a (a + 1) (Nat.le_refl _)
        exact wk_slT (by simp only [go_sem, ↓List.forall_mem_cons, List.not_mem_nil, false_implies, implies_true, and_true, true_and, and_self, ri_eq, Int.natCast_add, Int.cast_ofNat_Int, rr_eq, e, List.append_nil]; try simp) (fun h => by rw [e, List.append_nil] at h ⊢; exact slTH_map h) (Nat.le_refl _)) ?_
    rintro ⟨b, ob, nb⟩ ⟨hab, hb, hob⟩
    simp only at hab hb hob
    refine SW_of_vc2 (onD 13 [(37, 37), (40, 40), (45, 45), (48, 48), (53, 53), (56, 56)] [10, 18, 26]) Try.mixed _ _ _ (by kernel_rfl) ?_
    by_cases hlt2 : b < M.length
    · simp (disch := omega) only [Try.ntmps19, Try.results19, go_sem, rr_eq]
      refine LoopW.loop (fun p : Nat × Nat × Nat => ⟨ofL [(0, rr M), (3, slT p.2.1 (Ta M a ++ Tb M a b ++ Tc M a b p.1)), (4, .val (.int .i64 a)), (5, .val (.int .i64 b)), (6, .val (.int .i64 p.1)), (12, .val (.int .i64 M.length)), (13, .val (.int .i64 a))], hp (slTH p.2.1 (Ta M a ++ Tb M a b ++ Tc M a b p.1)) p.2.2⟩)
        (fun p => b < p.1 ∧ p.1 ≤ M.length ∧ SlOk p.2.1 p.2.2 (Ta M a ++ Tb M a b ++ Tc M a b p.1)) (fun p => M.length - p.1) (b + 1, ob, nb) ⟨by simp, hlt2, by rw [Tc_start M a b (b + 1) (Nat.le_refl _), List.append_nil]; exact hob⟩
        (by
          have e : Tc M a b (b + 1) = [] := Tc_start M a b (b + 1) (Nat.le_refl _)
          exact wk_slT (by simp only [go_sem, ↓List.forall_mem_cons, List.not_mem_nil, false_implies, implies_true, and_true, true_and, and_self, ri_eq, Int.natCast_add, Int.cast_ofNat_Int, rr_eq, e, List.append_nil]; try simp) (fun h => by rw [e, List.append_nil] at h ⊢; exact slTH_map h) (Nat.le_refl _)) ?_
      rintro ⟨c, ob, nb⟩ ⟨hbc, hc, hob⟩
      simp only at hbc hc hob
      refine SW_of_vc2 (onD 13 [(37, 37), (40, 40), (45, 45), (48, 48), (53, 53), (56, 56)] [10, 18, 26]) Try.mixed _ _ _ (by kernel_rfl) ?_
      by_cases hlt3 : c < M.length
      · have ra := hw.2.1 a hlt
        have rb := hw.2.1 b hlt2
        have g1 : (ints (mrow M a))[b]? = some (.val (.int .i64 (mat M a b))) := ints_get' ra hlt2
        have g2 : (ints (mrow M a))[c]? = some (.val (.int .i64 (mat M a c))) := ints_get' ra hlt3
        have g3 : (ints (mrow M b))[c]? = some (.val (.int .i64 (mat M b c))) := ints_get' rb hlt3
        have k1 := (hw.2.2.1 a b hlt hlt2).1
        have k2 := (hw.2.2.1 a c hlt hlt3).1
        have k3 := (hw.2.2.1 b c hlt2 hlt3).1
        have wa := Try.absolute_ok (mat M a b) (by omega) (by omega)
        have wb := Try.absolute_ok (mat M a c) (by omega) (by omega)
        have wc := Try.absolute_ok (mat M b c) (by omega) (by omega)
        have wd := Try.isBad_ok M a b c (mn2 (mn2 (absI (mat M a b)) (absI (mat M a c))) (absI (mat M b c))) hln.2 hw.2.1 (decide_eq_true (by omega))
        simp only [Int.toNat_natCast] at wd
        have hsucc := Tc_succ M a b c
        rw [if_pos hbc] at hsucc
        have hlen : (Ta M a ++ Tb M a b ++ Tc M a b c).length ≤ 1000 := by
          have := Ta_len hln.2 a
          have := Tb_len hln.2 a b
          have := Tc_len M a b c
          simp only [List.length_append]; omega
        rcases Bool.eq_false_or_eq_true (badB (mat M a b) (mat M a c) (mat M b c)) with hbad | hbad
        · have hbc2 : badC M a b c = [((a : Int), (b : Int), (c : Int), mn2 (mn2 (absI (mat M a b)) (absI (mat M a c))) (absI (mat M b c)))] := by rw [badC, if_pos hbad]
          rw [hbad] at wd
          rw [hbc2] at hsucc
          have hnew : Ta M a ++ Tb M a b ++ Tc M a b (c + 1) = (Ta M a ++ Tb M a b ++ Tc M a b c) ++ [((a : Int), (b : Int), (c : Int), mn2 (mn2 (absI (mat M a b)) (absI (mat M a c))) (absI (mat M b c)))] := by rw [hsucc, List.append_assoc, List.append_assoc, List.append_assoc]
          have sn := fun nm => slT_snoc nm (Ta M a ++ Tb M a b ++ Tc M a b c) ((a : Int), (b : Int), (c : Int), mn2 (mn2 (absI (mat M a b)) (absI (mat M a c))) (absI (mat M b c)))
          rw [← hnew] at sn
          have ts := tri_snoc (Ta M a ++ Tb M a b ++ Tc M a b c) a b c (mn2 (mn2 (absI (mat M a b)) (absI (mat M a c))) (absI (mat M b c)))
          rw [← hnew] at ts
          clear hsucc hbc2 hnew hbad
          generalize Ta M a ++ Tb M a b ++ Tc M a b c = T at *
          generalize hT' : Ta M a ++ Tb M a b ++ Tc M a b (c + 1) = T' at *
          generalize mat M a b = x at *
          generalize mat M a c = y at *
          generalize mat M b c = z at *
          generalize hax : absI x = ax at *
          generalize hay : absI y = ay at *
          generalize haz : absI z = az at *
          have p1 : AnyC Try.prog 69 [.val (.int .i64 x)] (.val (.int .i64 ax)) = True := eq_true (wa.anyC 0 fun H => (viewL_cons_of (view_int) viewL_nil_of))
          have p2 : AnyC Try.prog 69 [.val (.int .i64 y)] (.val (.int .i64 ay)) = True := eq_true (wb.anyC 0 fun H => (viewL_cons_of (view_int) viewL_nil_of))
          have p3 : AnyC Try.prog 69 [.val (.int .i64 z)] (.val (.int .i64 az)) = True := eq_true (wc.anyC 0 fun H => (viewL_cons_of (view_int) viewL_nil_of))
          by_cases hz : T.length = 0
          · have hT : T = [] := List.length_eq_zero_iff.1 hz
            subst hT
            have eC := slT_t (b := ob) (T := []) rfl
            have eH := slTH_t (b := ob) (T := []) rfl
            simp (disch := omega) only [Try.ntmps19, Try.results19, go_sem, rr_eq, rows_get, ra, rb, g1, g2, g3, eC, eH]
            refine wa.callDV 0 (viewL_cons_of (view_int) viewL_nil_of) ?_
            simp (disch := omega) only [Try.ntmps19, Try.results19, go_sem, rr_eq, rows_get, ra, rb, g1, g2, g3, eC, eH]
            refine wb.callDV 0 (viewL_cons_of (view_int) viewL_nil_of) ?_
            simp (disch := omega) only [Try.ntmps19, Try.results19, go_sem, rr_eq, rows_get, ra, rb, g1, g2, g3, eC, eH]
            refine wc.callDV 0 (viewL_cons_of (view_int) viewL_nil_of) ?_
            simp (disch := omega) only [Try.ntmps19, Try.results19, go_sem, rr_eq, rows_get, ra, rb, g1, g2, g3, eC, eH, ite_mn2, p1, p2, p3]
            refine wd.callV 1 (viewL_cons_of view_tri (viewL_cons_of view_row viewL_nil_of)) ?_
            simp only [encL_nil, List.nil_append, List.length_nil, Nat.zero_add] at ts sn
            simp (disch := omega) only [Try.ntmps19, Try.results19, go_sem, rr_eq, eC, eH, rep4c]
            refine ⟨(c + 1, nb + 1 + 1, nb + 1 + 1 + 1), ⟨by show b < c + 1; omega, hlt3, fun _ => by show nb + 1 + 1 < nb + 1 + 1 + 1; omega⟩, by show M.length - (c + 1) < M.length - c; omega, ?_⟩
            exact wk_slT (by simp only [go_sem, ↓List.forall_mem_cons, List.not_mem_nil, false_implies, implies_true, and_true, true_and, and_self, ri_eq, Int.natCast_add, Int.cast_ofNat_Int, rr_eq, hT', sn]; try simp) (fun _ => by rw [hT', ← ts]; simp (disch := omega) only [hp_map, hmap_cons, if_pos, if_neg, ↓reduceIte]) (Nat.le_refl _)
          · have eC := slT_f (b := ob) hz
            have eH := slTH_f (b := ob) hz
            have hobb := hob hz
            have hTl := encL_length (enc := tri4) (z := 4) tri4_z T
            have hTt := encL_take_self (enc := tri4) (z := 4) tri4_z T
            simp (disch := omega) only [Try.ntmps19, Try.results19, go_sem, rr_eq, rows_get, ra, rb, g1, g2, g3, eC, eH]
            refine wa.callDV 0 (viewL_cons_of (view_int) viewL_nil_of) ?_
            simp (disch := omega) only [Try.ntmps19, Try.results19, go_sem, rr_eq, rows_get, ra, rb, g1, g2, g3, eC, eH]
            refine wb.callDV 0 (viewL_cons_of (view_int) viewL_nil_of) ?_
            simp (disch := omega) only [Try.ntmps19, Try.results19, go_sem, rr_eq, rows_get, ra, rb, g1, g2, g3, eC, eH]
            refine wc.callDV 0 (viewL_cons_of (view_int) viewL_nil_of) ?_
            simp (disch := omega) only [Try.ntmps19, Try.results19, go_sem, rr_eq, rows_get, ra, rb, g1, g2, g3, ite_mn2, p1, p2, p3, eC, eH]
            refine wd.callV 1 (viewL_cons_of view_tri (viewL_cons_of view_row viewL_nil_of)) ?_
            simp (disch := omega) only [Try.ntmps19, Try.results19, go_sem, rr_eq, eC, eH, rep4c, hTl, hTt, ts]
            refine ⟨(c + 1, nb + 1 + 1, nb + 1 + 1 + 1), ⟨by show b < c + 1; omega, hlt3, fun _ => by show nb + 1 + 1 < nb + 1 + 1 + 1; omega⟩, by show M.length - (c + 1) < M.length - c; omega, ?_⟩
            exact wk_slT (by simp only [go_sem, ↓List.forall_mem_cons, List.not_mem_nil, false_implies, implies_true, and_true, true_and, and_self, ri_eq, Int.natCast_add, Int.cast_ofNat_Int, rr_eq, hT', sn]; try simp) (fun _ => by rw [hT']; simp (disch := omega) only [hp_map, hmap_cons, if_pos, if_neg, ↓reduceIte]) (Nat.le_refl _)
        · have hbc2 : badC M a b c = [] := by rw [badC, if_neg (by rw [hbad]; simp)]
          rw [hbad] at wd
          rw [hbc2, List.append_nil] at hsucc
          generalize hax : absI (mat M a b) = ax at *
          generalize hay : absI (mat M a c) = ay at *
          generalize haz : absI (mat M b c) = az at *
          generalize mat M a b = x at *
          generalize mat M a c = y at *
          generalize mat M b c = z at *
          have p1 : AnyC Try.prog 69 [.val (.int .i64 x)] (.val (.int .i64 ax)) = True := eq_true (wa.anyC 0 fun H => (viewL_cons_of (view_int) viewL_nil_of))
          have p2 : AnyC Try.prog 69 [.val (.int .i64 y)] (.val (.int .i64 ay)) = True := eq_true (wb.anyC 0 fun H => (viewL_cons_of (view_int) viewL_nil_of))
          have p3 : AnyC Try.prog 69 [.val (.int .i64 z)] (.val (.int .i64 az)) = True := eq_true (wc.anyC 0 fun H => (viewL_cons_of (view_int) viewL_nil_of))
          simp (disch := omega) only [Try.ntmps19, Try.results19, go_sem, rr_eq, rows_get, ra, rb, g1, g2, g3]
          refine wa.callDV 0 (viewL_cons_of (view_int) viewL_nil_of) ?_
          simp (disch := omega) only [Try.ntmps19, Try.results19, go_sem, rr_eq, rows_get, ra, rb, g1, g2, g3]
          refine wb.callDV 0 (viewL_cons_of (view_int) viewL_nil_of) ?_
          simp (disch := omega) only [Try.ntmps19, Try.results19, go_sem, rr_eq, rows_get, ra, rb, g1, g2, g3]
          refine wc.callDV 0 (viewL_cons_of (view_int) viewL_nil_of) ?_
          simp (disch := omega) only [Try.ntmps19, Try.results19, go_sem, rr_eq, rows_get, ra, rb, g1, g2, g3, ite_mn2, p1, p2, p3]
          refine wd.callV 1 (viewL_cons_of view_tri (viewL_cons_of view_row viewL_nil_of)) ?_
          simp (disch := omega) only [Try.ntmps19, Try.results19, go_sem, rr_eq]
          refine ⟨(c + 1, ob, nb + 1), ⟨by show b < c + 1; omega, hlt3, fun h => by rw [hsucc] at h; exact Nat.lt_succ_of_lt (hob h)⟩, by show M.length - (c + 1) < M.length - c; omega, ?_⟩
          exact wk_slT (b := ob) (by simp only [go_sem, ↓List.forall_mem_cons, List.not_mem_nil, false_implies, implies_true, and_true, true_and, and_self, ri_eq, Int.natCast_add, Int.cast_ofNat_Int, rr_eq, hsucc]; try simp) (fun h => by rw [hsucc] at h ⊢; have := hob h; rw [hp_map, hmap_cons, if_neg (by omega)]; exact slTH_map (nb := nb) h) (Nat.le_refl _)
      · obtain rfl : c = M.length := by omega
        have e : Ta M a ++ Tb M a b ++ Tc M a b M.length = Ta M a ++ Tb M a (b + 1) := by rw [Tb_succ, if_pos hab, List.append_assoc]
        rw [e] at hob ⊢
        simp (disch := omega) only [Try.ntmps19, Try.results19, go_sem, rr_eq]
        exact ⟨(b + 1, ob, nb), ⟨by show a < b + 1; omega, hlt2, hob⟩, by show M.length - (b + 1) < M.length - b; omega, wk_slT (by simp only [go_sem, ↓List.forall_mem_cons, List.not_mem_nil, false_implies, implies_true, and_true, true_and, and_self, ri_eq, Int.natCast_add, Int.cast_ofNat_Int, rr_eq]; try simp) (fun h => slTH_map h) (Nat.le_refl _)⟩
    · obtain rfl : b = M.length := by omega
      have e : Ta M a ++ Tb M a M.length = Ta M (a + 1) := (Ta_succ M a).symm
      rw [e] at hob ⊢
      simp (disch := omega) only [Try.ntmps19, Try.results19, go_sem, rr_eq]
      exact ⟨(a + 1, ob, nb), ⟨hlt, hob⟩, by show M.length - (a + 1) < M.length - a; omega, wk_slT (by simp only [go_sem, ↓List.forall_mem_cons, List.not_mem_nil, false_implies, implies_true, and_true, true_and, and_self, ri_eq, Int.natCast_add, Int.cast_ofNat_Int, rr_eq]; try simp) (fun h => slTH_map h) (Nat.le_refl _)⟩
  · obtain rfl : a = M.length := by omega
    simp (disch := omega) only [Try.ntmps19, Try.results19, go_sem, rr_eq]
    exact fin_slT (fun h => slTH_map h)

theorem Try.implBadT_n (M : List (List Int)) (hM : M.length ≤ 1048576) (hR : ∀ i, i < M.length → (mrow M i).length ≤ 1048576) (hz : (badT M).length = 0) : FCall Try.prog 19 [rr M] (fun r _ => r = .val (.slice none 0 0)) := by
  by_cases hw : WM M
  · exact (Try.implBadT_f M hM hR hw).mono fun _ _ h => h.1 hz
  · have w1 := Try.implIsWM_ok M hM hR
    rw [isWM_f hw] at w1
    refine FCall.of_body Try.func19 rfl (by kernel_rfl) (by simp [Try.ntmps19]) ?_
    refine SW_of_vc2 (onD 13 [(37, 37), (40, 40), (45, 45), (48, 48), (53, 53), (56, 56)] [10, 18, 26]) Try.mixed _ _ _ (by kernel_rfl) ?_
    simp (disch := omega) only [Try.ntmps19, Try.results19, go_sem, rr_eq]
    refine w1.callV 0 (viewL_cons_of (view_row) viewL_nil_of) ?_
    simp (disch := omega) only [Try.ntmps19, Try.results19, go_sem, rr_eq]
    exact Fin.val rfl
theorem badT_wm {M : List (List Int)} (h : (badT M).length ≠ 0) : WM M := Classical.byContradiction fun g => h (by rw [badT_f g]; rfl)
theorem Try.implBadT_o (M : List (List Int)) (hM : M.length ≤ 1048576) (hR : ∀ i, i < M.length → (mrow M i).length ≤ 1048576) (hz : (badT M).length ≠ 0) : FCall Try.prog 19 [rr M] (OneRes (badT M).length 4 (encL tri4 (badT M))) :=
  ((Try.implBadT_f M hM hR (badT_wm hz)).mono fun _ _ h => h.2 hz).one
theorem one_viewT {n : Nat} {T : List Tri} {r : SV} {H : Heap} (h : OneRes n 4 (encL tri4 T) r H) (hn : n = T.length) : view H 2 r = some (rt T) := by
  obtain ⟨rfl, rfl⟩ := h
  exact view_ownT (e2 := false) (by simp [Heap.one]) hn
theorem Try.implBadT_ok (M : List (List Int)) (hM : M.length ≤ 1048576) (hR : ∀ i, i < M.length → (mrow M i).length ≤ 1048576) : PCall Try.prog 19 [rr M] (rt (badT M)) := by
  by_cases hz : (badT M).length = 0
  · have e : badT M = [] := List.length_eq_zero_iff.1 hz
    rw [e]
    exact (Try.implBadT_n M hM hR hz).pcall 0 (by rintro r H rfl; exact view_nilT)
  · exact (Try.implBadT_o M hM hR hz).pcall 2 (fun _ _ h => one_viewT h rfl)
end Go.Sh

/-
  Contracts: matrices copied into memory of their own, marked, read back.
-/
namespace Go.Sh
set_option linter.unusedSimpArgs false
set_option linter.unusedVariables false
open Go Go.Proofs
variable {P : Program}

theorem HS_res (M : List (List Int)) : MatRes (mi M) (.own 0 0 M.length M.length 1 true) (HS M M.length) := by
  have hl := mi_length M
  refine ⟨0, 0, M.length, true, _, by rw [hl], HS_map M _, by rw [hl, outer_length]; omega, mi_vals _, fun i => i + 1, fun _ => 0, fun i i' _ _ h => by simpa using h, fun i _ => by simp, fun i hi => ?_⟩
  rw [hl] at hi
  have hr : rowAt (mi M) i = ints (mrow M i) := mi_row hi
  refine ⟨(mrow M i).length, false, ⟨ints (mrow M i), false⟩, ?_, ?_, ?_, ?_⟩
  · rw [hr, Nat.zero_add, ints_length]
    simp only [outer, List.getElem?_map]
    rw [List.getElem?_range hi]
    simp only [Option.map_some]
    rw [if_pos hi]
  · simp only [HS]
    rw [if_neg (by omega), if_pos (by omega)]
    simp
  · rw [hr, List.drop_zero, List.take_length]
  · rw [hr]; simp
theorem Try.toIntSS_one (M : List (List Int)) (hM : M.length ≤ 1048576) (hR : ∀ i, i < M.length → (mrow M i).length ≤ 1048576) : FCall Try.prog 26 [rr M] (MatOne (mi M)) :=
  ((Try.toIntSS_f M hM hR).mono fun r H ⟨h1, h2⟩ => by subst h1; subst h2; exact HS_res M).mat

theorem CallS.sub {f : FuncId} {args : List SV} {H : Heap} {Q Q' : SV → Heap → Prop} (h : CallS P f args H Q) (hq : ∀ r H', Q r H' → ∃ H2, Sub H2 H' ∧ Q' r H2) : CallS P f args H Q' := by
  refine ⟨h.1, fun j w vs r hl => (h.2 j w vs r hl).mono ?_⟩
  rintro e w' ⟨r, v, j', H', h1, h2, h3, h4, h5⟩
  obtain ⟨H2, hs, hq2⟩ := hq r H' h5
  have hsub : ∀ k, OwnR j' H2 k → OwnR j' H' k := by
    rintro k ⟨b, blk, base, g1, g2⟩
    refine ⟨b, blk, base, ?_, g2⟩
    rcases hs.map b with e | e
    · rw [e] at g1; simp at g1
    · rw [← e]; exact g1
  refine ⟨r, v, j', H2, h1, h2.sub hs, VRel.tr (Tr.weaken w' hsub) (fun _ _ h => h) r v h3, ?_, hq2⟩
  exact ⟨h4.os, h4.tape, h4.output, h4.size, h4.keep, h4.sizes, h4.jle, by rw [hs.nb]; exact h4.nble, fun k o => h4.own k (hsub k o)⟩

def Heap.cutR (H : Heap) (a c : Nat) : Heap := ⟨fun x => if a ≤ x ∧ x ≤ c then none else H.map x, H.nb⟩
def consE (e : Ent) (H : Heap) : Heap := match e with
  | .blk k v => ⟨fun x => if x = k then some v else H.map x, H.nb⟩
  | .mat b R => ⟨fun x => if b ≤ x ∧ x ≤ b + R.length then matMap b R x else H.map x, H.nb⟩
  | .rows fl nr => ⟨fun x => match nrFind nr x with | some r => some ⟨r, fl⟩ | none => H.map x, H.nb⟩
  | .cut b => ⟨fun x => if x = b then none else H.map x, H.nb⟩
theorem consE_hx (e : Ent) (l : List Ent) (n : Nat) : consE e (hx l n) = hx (e :: l) n := by cases e <;> rfl
theorem cutR_nil (n a c : Nat) : (hx [] n).cutR a c = hx [] n := by
  refine Heap.ext' (fun x => ?_) rfl
  simp only [Heap.cutR, hx, xmap]
  split <;> rfl
theorem cutR_blk {k n a c : Nat} {v : Blk} {l : List Ent} (h : k < a ∨ c < k) : (hx (.blk k v :: l) n).cutR a c = consE (.blk k v) ((hx l n).cutR a c) := by
  refine Heap.ext' (fun x => ?_) rfl
  simp only [Heap.cutR, hx, xmap, consE]
  by_cases h1 : x = k
  · subst h1
    rw [if_neg (by omega), if_pos rfl, if_pos rfl]
  · rw [if_neg h1, if_neg h1]
theorem cutR_same {b n c : Nat} {M : List (List Int)} {l : List Ent} (h : c = b + M.length) : (hx (.mat b (mi M) :: l) n).cutR b c = (hx l n).cutR b c := by
  subst h
  refine Heap.ext' (fun x => ?_) rfl
  simp only [Heap.cutR, hx, xmap, mi_length]
  by_cases h1 : b ≤ x ∧ x ≤ b + M.length
  · rw [if_pos h1, if_pos h1]
  · rw [if_neg h1, if_neg h1, if_neg h1]
theorem cutR_other {b n a c : Nat} {M : List (List Int)} {l : List Ent} (h : c < b ∨ b + M.length < a) : (hx (.mat b (mi M) :: l) n).cutR a c = consE (.mat b (mi M)) ((hx l n).cutR a c) := by
  refine Heap.ext' (fun x => ?_) rfl
  simp only [Heap.cutR, hx, xmap, consE, mi_length]
  by_cases h1 : b ≤ x ∧ x ≤ b + M.length
  · rw [if_neg (by omega), if_pos h1, if_pos h1]
  · rw [if_neg h1, if_neg h1]
theorem cutR_map {H : Heap} {a c x : Nat} (h : x < a ∨ c < x) : (H.cutR a c).map x = H.map x := by
  simp only [Heap.cutR]; rw [if_neg (by omega)]

set_option maxHeartbeats 1000000 in
/-- A matrix marked; what it holds then is not told. -/
theorem Try.markIntSS_ok (M : List (List Int)) (k : Int) (H : Heap) (b n : Nat) (hb : EntIn H (.mat b (mi M))) (hn : n = M.length) (hM : M.length ≤ 1048576) (hR : ∀ i, i < M.length → (mrow M i).length ≤ 1048576) (hk : 0 ≤ k) (hk2 : k + msum M M.length ≤ 1099511627776) :
    CallS Try.prog 30 [.own b 0 n n 1 false, .val (.int .i64 k)] H (fun r H' => r = .val (.int .i64 (k + msum M M.length)) ∧ H' = H.cutR b (b + M.length)) := by
  subst hn
  have hb' := hb
  simp only [EntIn, mi_length] at hb'
  have h0 : H.map b = some ⟨outerB b (mi M), false⟩ := by rw [hb' b (by omega) (by omega), matMap, if_pos rfl]
  have hrow : ∀ i, i < M.length → H.map (b + 1 + i) = some ⟨ints (mrow M i), false⟩ := fun i hi => by
    rw [hb' (b + 1 + i) (by omega) (by omega), matMap, if_neg (by omega), ← mi_row hi]
    congr 3; omega
  refine CallS.sub (Q := fun r H' => r = .val (.int .i64 (k + msum M M.length)) ∧ H' = H.cutR (b + 1) (b + M.length)) ?_ (fun r H' ⟨e1, e2⟩ => ⟨_, ⟨?_, fun x => ?_⟩, e1, rfl⟩)
  · refine CallS.of_body Try.func30 rfl (by kernel_rfl) (by simp [Try.ntmps30]) ?_
    refine SW_of_vc Try.mixed _ _ _ (by kernel_rfl) ?_
    simp (disch := omega) only [Try.ntmps30, Try.results30, go_sem]
    refine LoopW.loop (fun i : Nat => ⟨ofL [(0, .own b 0 M.length M.length 1 false), (1, .val (.int .i64 (k + msum M i))), (5, .val (.int .i64 i))], H.cutR (b + 1) (b + i)⟩) (fun i => i ≤ M.length) (fun i => M.length - i) 0 (by omega) (Wk.of (by simp only [go_sem, ↓List.forall_mem_cons, List.not_mem_nil, false_implies, implies_true, and_true, true_and, and_self, ri_eq, Int.natCast_add, Int.cast_ofNat_Int, msum, List.take_zero, List.sum_nil, Int.add_zero]; try simp) (Heap.ext' (fun x => by simp only [Heap.cutR]; rw [if_neg (by omega)]) rfl)) ?_
    intro i hi
    refine SW_of_vc Try.mixed _ _ _ (by kernel_rfl) ?_
    have hm0 : (H.cutR (b + 1) (b + i)).map b = some ⟨outerB b (mi M), false⟩ := by rw [cutR_map (by omega), h0]
    have hmn := msum_nonneg M i
    by_cases hlt : i < M.length
    · have hm1 : (H.cutR (b + 1) (b + i)).map (b + 1 + i) = some ⟨ints (mrow M i), false⟩ := by rw [cutR_map (by omega), hrow i hlt]
      have hmono := msum_mono (M := M) (k := i) (j := M.length) (by omega) (by omega)
      have hs := msum_succ hlt
      simp (disch := omega) only [Try.ntmps30, Try.results30, go_sem, hm0, outerB_getI]
      refine (Try.markIntS_ok (mrow M i) (k + msum M i) _ (b + 1 + i) _ _ false false hm1 rfl (by have := hR i hlt; omega) (by omega) (by omega)).callDet ?_
      simp (disch := omega) only [Try.ntmps30, Try.results30, go_sem]
      refine ⟨i + 1, hlt, by omega, ⟨ofL_wk (by simp only [go_sem, ↓List.forall_mem_cons, List.not_mem_nil, false_implies, implies_true, and_true, true_and, and_self, ri_eq, Int.natCast_add, Int.cast_ofNat_Int, hs, Int.add_assoc]; try simp), Nat.le_refl _, fun x => ?_⟩⟩
      simp only [Heap.cutR, Heap.set]
      by_cases h1 : b + 1 ≤ x ∧ x ≤ b + (i + 1)
      · exact .inl (by rw [if_pos h1])
      · right
        rw [if_neg h1, if_neg (by omega), if_neg (by omega)]
    · obtain rfl : i = M.length := by omega
      simp (disch := omega) only [Try.ntmps30, Try.results30, go_sem]
  · rw [e2]; rfl
  · subst e2
    simp only [Heap.cutR]
    by_cases h1 : b ≤ x ∧ x ≤ b + M.length
    · exact .inl (by rw [if_pos h1])
    · right
      rw [if_neg h1, if_neg (by omega)]
theorem fin_mat {b n cap : Nat} {ex : Bool} {R : List (List SV)} {H : Heap} (h : EntIn H (.mat b R)) (hv : ∀ row ∈ R, row.all isVal = true) (hn : n = R.length) : Fin (MatRes R) (.own b 0 n cap 1 ex) H := by
  subst hn
  refine ⟨hx [.mat b R] H.nb, ⟨rfl, fun x => ?_⟩, rfl, mat_nr hv, b, 0, cap, ex, _, rfl, by rw [hx_map, xmap_mat], by rw [outerB_length]; omega, hv, fun i => b + 1 + i, fun _ => 0, fun i i' _ _ e => by have e : b + 1 + i = b + 1 + i' := e; omega, fun i _ => by show b + 1 + i ≠ b; omega, fun i hi => ?_⟩
  · rw [hx_map, xmap]
    by_cases hr : b ≤ x ∧ x ≤ b + R.length
    · rw [if_pos hr]; exact .inr (h x hr.1 hr.2).symm
    · rw [if_neg hr]; exact .inl rfl
  · refine ⟨(rowAt R i).length, false, ⟨rowAt R i, false⟩, ?_, ?_, ?_, ?_⟩
    · rw [Nat.zero_add, outerB_get hi]
    · show (hx [.mat b R] H.nb).map (b + 1 + i) = _
      rw [hx_map, xmap, if_pos (by omega), matMap, if_neg (by omega)]
      congr 3; omega
    · simp
    · simp
attribute [go_sem] consE_hx cutR_nil
end Go.Sh

/-
  Is a list of triangles a packing? Of the program.
-/
namespace Go.Sh
set_option linter.unusedSimpArgs false
set_option linter.unusedVariables false
open Go Go.Proofs

/-- The matrix after j of a triangle's three pairs. -/
def U3 (U : List (List Int)) (a b c : Nat) (w : Int) : Nat → List (List Int)
  | 0 => U
  | 1 => mset U a b (mat U a b + w)
  | 2 => mset (mset U a b (mat U a b + w)) a c (mat U a c + w)
  | _ => mset (mset (mset U a b (mat U a b + w)) a c (mat U a c + w)) b c (mat U b c + w)
theorem U3_0 (U : List (List Int)) (a b c : Nat) (w : Int) : U3 U a b c w 0 = U := rfl
theorem U3_1 (U : List (List Int)) (a b c : Nat) (w : Int) : U3 U a b c w 1 = mset (U3 U a b c w 0) a b (mat U a b + w) := rfl
theorem U3_2 (U : List (List Int)) (a b c : Nat) (w : Int) : U3 U a b c w 2 = mset (U3 U a b c w 1) a c (mat U a c + w) := rfl
theorem U3_3 (U : List (List Int)) (a b c : Nat) (w : Int) : U3 U a b c w 3 = mset (U3 U a b c w 2) b c (mat U b c + w) := rfl
theorem U3_sq {n : Nat} {U : List (List Int)} (h : SqI n U) (a b c : Nat) (w : Int) : ∀ j, SqI n (U3 U a b c w j)
  | 0 => h
  | 1 => h.set _ _ _
  | 2 => (h.set _ _ _).set _ _ _
  | _ + 3 => ((h.set _ _ _).set _ _ _).set _ _ _
theorem U3_a1 {n : Nat} {U : List (List Int)} (h : SqI n U) {a b c : Nat} (hab : a < b) (hbc : b < c) (hc : c < n) (w : Int) : mat (U3 U a b c w 1) a c = mat U a c := by
  have h1 := h.1
  have h2 := h.2 a (by omega)
  rw [U3_1, U3_0, mset_at _ _ _ _ (by omega) (by omega), if_neg (by omega)]
theorem U3_a2 {n : Nat} {U : List (List Int)} (h : SqI n U) {a b c : Nat} (hab : a < b) (hbc : b < c) (hc : c < n) (w : Int) : mat (U3 U a b c w 2) b c = mat U b c := by
  have hs := U3_sq h a b c w 1
  have h1 := hs.1
  have h2 := hs.2 a (by omega)
  have g1 := h.1
  have g2 := h.2 a (by omega)
  rw [U3_2, mset_at _ _ _ _ (by omega) (by omega), if_neg (by omega), U3_1, U3_0, mset_at _ _ _ _ (by omega) (by omega), if_neg (by omega)]
theorem U3_end {n : Nat} {U : List (List Int)} (h : SqI n U) {a b c : Nat} (hab : a < b) (hbc : b < c) (hc : c < n) (w : Int) (x y : Nat) :
    mat (U3 U a b c w 3) x y = mat U x y + (if hitT ((a : Int), (b : Int), (c : Int), w) x y = true then w else 0) := by
  have s1 := U3_sq h a b c w 1
  have s2 := U3_sq h a b c w 2
  have q0 := h.1
  have q1 := s1.1
  have q2 := s2.1
  have r0 := h.2 a (by omega)
  have r1 := s1.2 a (by omega)
  have r2 := s2.2 b (by omega)
  rw [U3_3, mset_at _ _ _ _ (by omega) (by omega), U3_2, mset_at _ _ _ _ (by omega) (by omega), U3_1, U3_0, mset_at _ _ _ _ (by omega) (by omega)]
  have e : hitT ((a : Int), (b : Int), (c : Int), w) x y = (decide (a = x ∧ b = y) || (decide (a = x ∧ c = y) || decide (b = x ∧ c = y))) := by
    simp only [hitT, ← Bool.decide_and]
    congr 1
    · exact decide_eq_decide.2 (by omega)
    · congr 1
      · exact decide_eq_decide.2 (by omega)
      · exact decide_eq_decide.2 (by omega)
  rw [e]
  by_cases e1 : x = b ∧ y = c
  · rw [if_pos e1, e1.1, e1.2, if_pos (by simp)]
  · rw [if_neg e1]
    by_cases e2 : x = a ∧ y = c
    · rw [if_pos e2, e2.1, e2.2, if_pos (by simp)]
    · rw [if_neg e2]
      by_cases e3 : x = a ∧ y = b
      · rw [if_pos e3, e3.1, e3.2, if_pos (by simp)]
      · rw [if_neg e3, if_neg (by simp; omega)]; omega

set_option maxRecDepth 20000 in
set_option maxHeartbeats 8000000 in
theorem Try.implPack_ok (M : List (List Int)) (T : List Tri) (hM : M.length ≤ 1048576) (hR : ∀ i, i < M.length → (mrow M i).length ≤ 1048576) (hT : T.length ≤ 1048576) : PCall Try.prog 12 [rr M, rt T] (.val (.bool (isPk M T))) := by
  refine FCall.pcall (R := fun r _ => r = .val (.bool (isPk M T))) ?_ 0 (by rintro r H rfl; exact view_bool)
  have w1 := Try.implIsWM_ok M hM hR
  have lT := encL_length (enc := tri4) (z := 4) tri4_z T
  refine FCall.of_body Try.func12 rfl (by kernel_rfl) (by simp [Try.ntmps12]) ?_
  refine SW_of_vc Try.mixed _ _ _ (by kernel_rfl) ?_
  by_cases hw : WM M
  case neg =>
    rw [isWM_f hw] at w1
    simp (disch := omega) only [Try.ntmps12, Try.results12, go_sem, rr_eq, rt]
    refine w1.callV 0 (viewL_cons_of (view_row) viewL_nil_of) ?_
    simp (disch := omega) only [Try.ntmps12, Try.results12, go_sem, rr_eq, rt]
    exact Fin.val (by rw [isPk_f (fun g => hw g.1)])
  rw [isWM_t hw] at w1
  by_cases hl : 100 < T.length
  · simp (disch := omega) only [Try.ntmps12, Try.results12, go_sem, rr_eq, rt]
    refine w1.callV 0 (viewL_cons_of (view_row) viewL_nil_of) ?_
    simp (disch := omega) only [Try.ntmps12, Try.results12, go_sem, rr_eq, rt]
    exact Fin.val (by rw [isPk_f (fun g => by have := g.2.1; omega)])
  have hln := hw.1
  simp (disch := omega) only [Try.ntmps12, Try.results12, go_sem, rr_eq, rt]
  refine w1.callV 0 (viewL_cons_of (view_row) viewL_nil_of) ?_
  simp (disch := omega) only [Try.ntmps12, Try.results12, go_sem, rr_eq, rt]
  refine (Try.square_one M.length hM).callMat (mi_vals _) 0 (viewL_cons_of (view_int) viewL_nil_of) ?_
  simp (disch := omega) only [Try.ntmps12, Try.results12, go_sem, rr_eq, rt, zs_length]
  refine LoopW.loop (fun p : Nat × List (List Int) × Nat => ⟨ofL [(0, rr M), (5, .own 0 0 M.length M.length 1 false), (21, rt T), (22, .val (.int .i64 T.length)), (23, .val (.int .i64 p.1))], hx [.mat 0 (mi p.2.1)] p.2.2⟩)
    (fun p => p.1 ≤ T.length ∧ SqI M.length p.2.1 ∧ M.length < p.2.2 ∧ (∀ k, k < p.1 → isBT M (tg T k).1 (tg T k).2.1 (tg T k).2.2.1 = true ∧ 1 ≤ (tg T k).2.2.2 ∧ (tg T k).2.2.2 ≤ 1000) ∧ (∀ x y, mat p.2.1 x y = usedT (T.take p.1) x y) ∧ ∀ x y, x < y → y < M.length → mat p.2.1 x y ≤ absI (mat M x y)) (fun p => T.length - p.1) (0, zs M.length, M.length + 1)
    ⟨by simp, .zs _, by simp, fun k h => by simp at h, fun x y => by rw [zs_at]; rfl, fun x y _ _ => by rw [zs_at]; exact absI_nonneg _⟩
    (Wk.ofX (by simp only [go_sem, ↓List.forall_mem_cons, List.not_mem_nil, false_implies, implies_true, and_true, true_and, and_self, ri_eq, Int.natCast_add, Int.cast_ofNat_Int, rr_eq, rt]; try simp) (by simp only [List.forall_mem_cons]; exact ⟨.self, by simp⟩) (Nat.le_refl _)) ?_
  rintro ⟨k, U, nb⟩ ⟨hk, hU, hnb, hok, hused, hle⟩
  simp only at hk hU hnb hok hused hle
  refine SW_of_vc Try.mixed _ _ _ (by kernel_rfl) ?_
  by_cases hlt : k < T.length
  case neg =>
    have hkl : k = T.length := by omega
    simp (disch := omega) only [Try.ntmps12, Try.results12, go_sem, rr_eq, rt]
    refine Fin.val ?_
    rw [isPk_t ⟨hw, by omega, by rw [← hkl]; exact hok, fun x y hxy hy => ?_⟩]
    have := hle x y hxy hy
    rw [hused, hkl, List.take_length] at this
    exact this
  obtain ⟨a, b, c, w, ht⟩ := tri_ex T k
  obtain ⟨_, _, _, _, q⟩ := tri_of hlt ht
  have hbad : ¬ (isBT M a b c = true ∧ 1 ≤ w ∧ w ≤ 1000) → isPk M T = false := fun h => isPk_f fun g => h (by have := g.2.2.1 k hlt; rw [ht] at this; exact this)
  have w2 := Try.isTriangle_ok a b c w M.length (by omega) (by omega)
  rcases Bool.eq_false_or_eq_true (triB M.length a b c) with h2 | h2
  case inr =>
    rw [h2] at w2
    simp (disch := omega) only [Try.ntmps12, Try.results12, go_sem, rr_eq, rt, lT, q, rep4c]
    refine w2.callV 1 (viewL_cons_of view_tri (viewL_cons_of view_int viewL_nil_of)) ?_
    simp (disch := omega) only [Try.ntmps12, Try.results12, go_sem, rr_eq, rt, lT, q]
    exact Fin.val (by rw [hbad (fun g => by have := g.1; rw [isBT, h2, Bool.false_and, Bool.and_false] at this; cases this)])
  rw [h2] at w2
  have w3 := Try.isBad_ok M a b c w hln.2 hw.2.1 h2
  rcases Bool.eq_false_or_eq_true (badB (mat M a.toNat b.toNat) (mat M a.toNat c.toNat) (mat M b.toNat c.toNat)) with h3 | h3
  case inr =>
    rw [h3] at w3
    simp (disch := omega) only [Try.ntmps12, Try.results12, go_sem, rr_eq, rt, lT, q, rep4c]
    refine w2.callV 1 (viewL_cons_of view_tri (viewL_cons_of view_int viewL_nil_of)) ?_
    simp (disch := omega) only [Try.ntmps12, Try.results12, go_sem, rr_eq, rt, lT, q]
    refine w3.callV 1 (viewL_cons_of view_tri (viewL_cons_of view_row viewL_nil_of)) ?_
    simp (disch := omega) only [Try.ntmps12, Try.results12, go_sem, rr_eq, rt, lT, q]
    exact Fin.val (by rw [hbad (fun g => by have := g.1; rw [isBT, h3, Bool.and_false, Bool.and_false] at this; cases this)])
  rw [h3] at w3
  have w4 := Try.within_ok w 1 1000
  rcases Bool.eq_false_or_eq_true (inR w 1 1000) with h4 | h4
  case inr =>
    rw [h4] at w4
    simp (disch := omega) only [Try.ntmps12, Try.results12, go_sem, rr_eq, rt, lT, q, rep4c]
    refine w2.callV 1 (viewL_cons_of view_tri (viewL_cons_of view_int viewL_nil_of)) ?_
    simp (disch := omega) only [Try.ntmps12, Try.results12, go_sem, rr_eq, rt, lT, q]
    refine w3.callV 1 (viewL_cons_of view_tri (viewL_cons_of view_row viewL_nil_of)) ?_
    simp (disch := omega) only [Try.ntmps12, Try.results12, go_sem, rr_eq, rt, lT, q]
    refine w4.callV 0 (viewL_cons_of (view_int) (viewL_cons_of (view_int) (viewL_cons_of (view_int) viewL_nil_of))) ?_
    simp (disch := omega) only [Try.ntmps12, Try.results12, go_sem, rr_eq, rt, lT, q]
    exact Fin.val (by rw [hbad (fun g => inR_not h4 g.2)])
  rw [h4] at w4
  obtain ⟨v1, v2⟩ := inR_of h4
  have hbt : isBT M a b c = true := by rw [isBT, isWM_t hw, h2, h3]; rfl
  obtain ⟨a', b', c', rfl, rfl, rfl, hab, hbc, hcn, _⟩ := triB_of hbt
  have w5 := Try.pairs_ok a' b' c' w
  clear hbad h3 w1
  simp (disch := omega) only [Try.ntmps12, Try.results12, go_sem, rr_eq, rt, lT, q, rep4c]
  refine w2.callV 1 (viewL_cons_of view_tri (viewL_cons_of view_int viewL_nil_of)) ?_
  simp (disch := omega) only [Try.ntmps12, Try.results12, go_sem, rr_eq, rt, lT, q]
  refine w3.callV 1 (viewL_cons_of view_tri (viewL_cons_of view_row viewL_nil_of)) ?_
  simp (disch := omega) only [Try.ntmps12, Try.results12, go_sem, rr_eq, rt, lT, q]
  refine w4.callV 0 (viewL_cons_of (view_int) (viewL_cons_of (view_int) (viewL_cons_of (view_int) viewL_nil_of))) ?_
  simp (disch := omega) only [Try.ntmps12, Try.results12, go_sem, rr_eq, rt, lT, q]
  refine w5.callV 1 (viewL_cons_of view_tri viewL_nil_of) ?_
  simp (disch := omega) only [Try.ntmps12, Try.results12, go_sem, rr_eq, rt, lT, q]
  have hsucc := fun x y => usedT_succ hlt x y
  rw [ht] at hsucc
  refine LoopW.loop (fun p : Nat × Nat => ⟨ofL [(0, rr M), (5, .own 0 0 M.length M.length 1 false), (7, .optr nb 0), (21, rt T), (22, .val (.int .i64 T.length)), (23, .val (.int .i64 k)), (45, .agg [.val (.int .i64 a'), .val (.int .i64 b'), .val (.int .i64 a'), .val (.int .i64 c'), .val (.int .i64 b'), .val (.int .i64 c')]), (46, .val (.int .i64 p.1))],
      hx [.blk nb ⟨[.val (.int .i64 a'), .val (.int .i64 b'), .val (.int .i64 c'), .val (.int .i64 w)], true⟩, .mat 0 (mi (U3 U a' b' c' w p.1))] p.2⟩)
    (fun p => p.1 ≤ 3 ∧ nb < p.2 ∧ (0 < p.1 → mat U a' b' + w ≤ absI (mat M a' b')) ∧ (1 < p.1 → mat U a' c' + w ≤ absI (mat M a' c')) ∧ (2 < p.1 → mat U b' c' + w ≤ absI (mat M b' c'))) (fun p => 3 - p.1) (0, nb + 1) ⟨by simp, by simp, by simp, by simp, by simp⟩
    (Wk.ofX (by simp only [go_sem, ↓List.forall_mem_cons, List.not_mem_nil, false_implies, implies_true, and_true, true_and, and_self, ri_eq, Int.natCast_add, Int.cast_ofNat_Int, rr_eq, rt]; try simp) (by simp only [List.forall_mem_cons]; exact ⟨by simp [EntIn, hx_map, xmap_blk], EntIn.self.skipM (by have := hU.1; simp only [mi_length, U3_0]; omega), by simp⟩) (Nat.le_refl _)) ?_
  rintro ⟨j, nb2⟩ ⟨hj, hnb2, hc1, hc2, hc3⟩
  simp only at hj hnb2 hc1 hc2 hc3
  have hsq := fun j => U3_sq hU a' b' c' w j
  have ke := U3_end hU hab hbc hcn w
  have hnn : ∀ x y, 0 ≤ mat U x y := fun x y => by
    rw [hused]
    exact (usedT_r (T := T.take k) (fun i hi => by
      have hi2 : i < k := by rw [List.length_take] at hi; omega
      have := (hok i hi2).2
      have e : tg (T.take k) i = tg T i := by simp [tg, List.getElem?_take, hi2]
      rw [e]; exact this) x y (T.take k).length (Nat.le_refl _)).1 |> fun h => by rwa [List.take_length] at h
  have hMle : ∀ x y, x < M.length → y < M.length → absI (mat M x y) ≤ 1000 := fun x y hx hy => by
    have := (hw.2.2.1 x y hx hy).1
    unfold absI; split <;> omega
  refine SW_of_vc Try.mixed _ _ _ (by kernel_rfl) ?_
  rcases (by omega : j = 0 ∨ j = 1 ∨ j = 2 ∨ j = 3) with rfl | rfl | rfl | rfl
  · have hV := hsq 0
    have hv : mat (U3 U a' b' c' w 0) a' b' = mat U a' b' := rfl
    have hnext := U3_1 U a' b' c' w
    have hhit : hitT ((a' : Int), (b' : Int), (c' : Int), w) a' b' = true := by simp [hitT]
    have hov : absI (mat M a' b') < mat U a' b' + w → isPk M T = false := fun h => pack_over hlt (x := a') (y := b') (by omega) (by omega) (by rw [hsucc, if_pos hhit, ← hused]; exact h)
    have hU1 := hnn a' b'
    have hU2 := hle a' b' (by omega) (by omega)
    have hm1 := hMle a' b' (by omega) (by omega)
    have wab := Try.absolute_ok (mat M a' b') (by have := (hw.2.2.1 a' b' (by omega) (by omega)).1; omega) (by have := (hw.2.2.1 a' b' (by omega) (by omega)).1; omega)
    have rM := hw.2.1 a' (by omega)
    have gM : (ints (mrow M a'))[b']? = some (.val (.int .i64 (mat M a' b'))) := ints_get' rM (by omega)
    generalize U3 U a' b' c' w 0 = V at *
    have hV1 := hV.1
    have rV := hV.2 a' (by omega)
    have gV : (ints (mrow V a'))[b']? = some (.val (.int .i64 (mat V a' b'))) := ints_get' rV (by omega)
    rw [hv] at gV
    have l2 : (mset V a' b' (mat U a' b' + w)).length = M.length := by rw [mset_length, hV1]
    have r2 : (mrow (mset V a' b' (mat U a' b' + w)) a').length = M.length := by rw [mset_row_length, rV]
    have g2 : (ints (mrow (mset V a' b' (mat U a' b' + w)) a'))[b']? = some (.val (.int .i64 (mat U a' b' + w))) := by
      rw [ints_get' r2 (by omega)]
      have := mset_at V a' b' (mat U a' b' + w) (k := a') (d := b') (by omega) (by omega)
      rw [if_pos ⟨rfl, rfl⟩] at this
      exact congrArg (fun z => some (SV.val (Value.int IntKind.i64 z))) this
    by_cases hover : absI (mat M a' b') < mat U a' b' + w
    · have hov2 := hov hover
      clear hov
      generalize absI (mat M a' b') = am at *
      generalize mat M a' b' = mm at *
      generalize mat U a' b' = u at *
      simp (disch := omega) only [Try.ntmps12, Try.results12, go_sem, rr_eq, rt, xmap_skipI, xmap_rowI, xset_rowI, outerB_getI, rV, gV, hV1, l2, r2, g2, rows_get, rM, gM]
      refine wab.callDV 0 (viewL_cons_of (view_int) viewL_nil_of) ?_
      simp (disch := omega) only [Try.ntmps12, Try.results12, go_sem, rr_eq, rt, xmap_skipI, xmap_rowI, xset_rowI, outerB_getI, rV, gV, hV1, l2, r2, g2, rows_get, rM, gM]
      exact Fin.val (by rw [hov2])
    · have hstep : mat U a' b' + w ≤ absI (mat M a' b') := by omega
      have hend : ∀ nb3, EntIn (hx [.blk nb2 ⟨[.val (.int .i64 a'), .val (.int .i64 b')], true⟩, .blk nb ⟨[.val (.int .i64 a'), .val (.int .i64 b'), .val (.int .i64 c'), .val (.int .i64 w)], true⟩, .mat 0 (mi (mset V a' b' (mat U a' b' + w)))] nb3) (.mat 0 (mi (mset V a' b' (mat U a' b' + w)))) := fun nb3 => (EntIn.self.skipM (by simp only [mi_length]; omega)).skipM (by simp only [mi_length]; omega)
      clear ke hused hov hv hle hnn
      generalize absI (mat M a' b') = am at *
      generalize mat M a' b' = mm at *
      generalize mat U a' b' = u at *
      simp (disch := omega) only [Try.ntmps12, Try.results12, go_sem, rr_eq, rt, xmap_skipI, xmap_rowI, xset_rowI, outerB_getI, rV, gV, hV1, l2, r2, g2, rows_get, rM, gM]
      refine wab.callDV 0 (viewL_cons_of (view_int) viewL_nil_of) ?_
      simp (disch := omega) only [Try.ntmps12, Try.results12, go_sem, rr_eq, rt, xmap_skipI, xmap_rowI, xset_rowI, outerB_getI, rV, gV, hV1, l2, r2, g2, rows_get, rM, gM]
      refine ⟨(1, nb2 + 1), ⟨by simp, by show nb < nb2 + 1; omega, fun _ => hstep, fun h => absurd h (by simp), fun h => absurd h (by simp)⟩, by simp, ?_⟩
      refine Wk.ofX (by simp only [go_sem, ↓List.forall_mem_cons, List.not_mem_nil, false_implies, implies_true, and_true, true_and, and_self, ri_eq, Int.natCast_add, Int.cast_ofNat_Int, rr_eq, rt]; try simp) ?_ (Nat.le_refl _)
      simp only [List.forall_mem_cons]
      refine ⟨?_, ?_, by simp⟩
      · simp (disch := omega) only [EntIn, hx_map, xmap_blk, if_pos, if_neg, ↓reduceIte]
      · rw [hnext]; exact hend _
  · have hV := hsq 1
    have hv : mat (U3 U a' b' c' w 1) a' c' = mat U a' c' := U3_a1 hU hab hbc hcn w
    have hnext := U3_2 U a' b' c' w
    have hhit : hitT ((a' : Int), (b' : Int), (c' : Int), w) a' c' = true := by simp [hitT]
    have hov : absI (mat M a' c') < mat U a' c' + w → isPk M T = false := fun h => pack_over hlt (x := a') (y := c') (by omega) (by omega) (by rw [hsucc, if_pos hhit, ← hused]; exact h)
    have hU1 := hnn a' c'
    have hU2 := hle a' c' (by omega) (by omega)
    have hm1 := hMle a' c' (by omega) (by omega)
    have wab := Try.absolute_ok (mat M a' c') (by have := (hw.2.2.1 a' c' (by omega) (by omega)).1; omega) (by have := (hw.2.2.1 a' c' (by omega) (by omega)).1; omega)
    have rM := hw.2.1 a' (by omega)
    have gM : (ints (mrow M a'))[c']? = some (.val (.int .i64 (mat M a' c'))) := ints_get' rM (by omega)
    generalize U3 U a' b' c' w 1 = V at *
    have hV1 := hV.1
    have rV := hV.2 a' (by omega)
    have gV : (ints (mrow V a'))[c']? = some (.val (.int .i64 (mat V a' c'))) := ints_get' rV (by omega)
    rw [hv] at gV
    have l2 : (mset V a' c' (mat U a' c' + w)).length = M.length := by rw [mset_length, hV1]
    have r2 : (mrow (mset V a' c' (mat U a' c' + w)) a').length = M.length := by rw [mset_row_length, rV]
    have g2 : (ints (mrow (mset V a' c' (mat U a' c' + w)) a'))[c']? = some (.val (.int .i64 (mat U a' c' + w))) := by
      rw [ints_get' r2 (by omega)]
      have := mset_at V a' c' (mat U a' c' + w) (k := a') (d := c') (by omega) (by omega)
      rw [if_pos ⟨rfl, rfl⟩] at this
      exact congrArg (fun z => some (SV.val (Value.int IntKind.i64 z))) this
    by_cases hover : absI (mat M a' c') < mat U a' c' + w
    · have hov2 := hov hover
      clear hov
      generalize absI (mat M a' c') = am at *
      generalize mat M a' c' = mm at *
      generalize mat U a' c' = u at *
      simp (disch := omega) only [Try.ntmps12, Try.results12, go_sem, rr_eq, rt, xmap_skipI, xmap_rowI, xset_rowI, outerB_getI, rV, gV, hV1, l2, r2, g2, rows_get, rM, gM]
      refine wab.callDV 0 (viewL_cons_of (view_int) viewL_nil_of) ?_
      simp (disch := omega) only [Try.ntmps12, Try.results12, go_sem, rr_eq, rt, xmap_skipI, xmap_rowI, xset_rowI, outerB_getI, rV, gV, hV1, l2, r2, g2, rows_get, rM, gM]
      exact Fin.val (by rw [hov2])
    · have hstep : mat U a' c' + w ≤ absI (mat M a' c') := by omega
      have hend : ∀ nb3, EntIn (hx [.blk nb2 ⟨[.val (.int .i64 a'), .val (.int .i64 c')], true⟩, .blk nb ⟨[.val (.int .i64 a'), .val (.int .i64 b'), .val (.int .i64 c'), .val (.int .i64 w)], true⟩, .mat 0 (mi (mset V a' c' (mat U a' c' + w)))] nb3) (.mat 0 (mi (mset V a' c' (mat U a' c' + w)))) := fun nb3 => (EntIn.self.skipM (by simp only [mi_length]; omega)).skipM (by simp only [mi_length]; omega)
      clear ke hused hov hv hle hnn
      generalize absI (mat M a' c') = am at *
      generalize mat M a' c' = mm at *
      generalize mat U a' c' = u at *
      simp (disch := omega) only [Try.ntmps12, Try.results12, go_sem, rr_eq, rt, xmap_skipI, xmap_rowI, xset_rowI, outerB_getI, rV, gV, hV1, l2, r2, g2, rows_get, rM, gM]
      refine wab.callDV 0 (viewL_cons_of (view_int) viewL_nil_of) ?_
      simp (disch := omega) only [Try.ntmps12, Try.results12, go_sem, rr_eq, rt, xmap_skipI, xmap_rowI, xset_rowI, outerB_getI, rV, gV, hV1, l2, r2, g2, rows_get, rM, gM]
      refine ⟨(2, nb2 + 1), ⟨by simp, by show nb < nb2 + 1; omega, fun _ => hc1 (by omega), fun _ => hstep, fun h => absurd h (by simp)⟩, by simp, ?_⟩
      refine Wk.ofX (by simp only [go_sem, ↓List.forall_mem_cons, List.not_mem_nil, false_implies, implies_true, and_true, true_and, and_self, ri_eq, Int.natCast_add, Int.cast_ofNat_Int, rr_eq, rt]; try simp) ?_ (Nat.le_refl _)
      simp only [List.forall_mem_cons]
      refine ⟨?_, ?_, by simp⟩
      · simp (disch := omega) only [EntIn, hx_map, xmap_blk, if_pos, if_neg, ↓reduceIte]
      · rw [hnext]; exact hend _
  · have hV := hsq 2
    have hv : mat (U3 U a' b' c' w 2) b' c' = mat U b' c' := U3_a2 hU hab hbc hcn w
    have hnext := U3_3 U a' b' c' w
    have hhit : hitT ((a' : Int), (b' : Int), (c' : Int), w) b' c' = true := by simp [hitT]
    have hov : absI (mat M b' c') < mat U b' c' + w → isPk M T = false := fun h => pack_over hlt (x := b') (y := c') (by omega) (by omega) (by rw [hsucc, if_pos hhit, ← hused]; exact h)
    have hU1 := hnn b' c'
    have hU2 := hle b' c' (by omega) (by omega)
    have hm1 := hMle b' c' (by omega) (by omega)
    have wab := Try.absolute_ok (mat M b' c') (by have := (hw.2.2.1 b' c' (by omega) (by omega)).1; omega) (by have := (hw.2.2.1 b' c' (by omega) (by omega)).1; omega)
    have rM := hw.2.1 b' (by omega)
    have gM : (ints (mrow M b'))[c']? = some (.val (.int .i64 (mat M b' c'))) := ints_get' rM (by omega)
    generalize U3 U a' b' c' w 2 = V at *
    have hV1 := hV.1
    have rV := hV.2 b' (by omega)
    have gV : (ints (mrow V b'))[c']? = some (.val (.int .i64 (mat V b' c'))) := ints_get' rV (by omega)
    rw [hv] at gV
    have l2 : (mset V b' c' (mat U b' c' + w)).length = M.length := by rw [mset_length, hV1]
    have r2 : (mrow (mset V b' c' (mat U b' c' + w)) b').length = M.length := by rw [mset_row_length, rV]
    have g2 : (ints (mrow (mset V b' c' (mat U b' c' + w)) b'))[c']? = some (.val (.int .i64 (mat U b' c' + w))) := by
      rw [ints_get' r2 (by omega)]
      have := mset_at V b' c' (mat U b' c' + w) (k := b') (d := c') (by omega) (by omega)
      rw [if_pos ⟨rfl, rfl⟩] at this
      exact congrArg (fun z => some (SV.val (Value.int IntKind.i64 z))) this
    by_cases hover : absI (mat M b' c') < mat U b' c' + w
    · have hov2 := hov hover
      clear hov
      generalize absI (mat M b' c') = am at *
      generalize mat M b' c' = mm at *
      generalize mat U b' c' = u at *
      simp (disch := omega) only [Try.ntmps12, Try.results12, go_sem, rr_eq, rt, xmap_skipI, xmap_rowI, xset_rowI, outerB_getI, rV, gV, hV1, l2, r2, g2, rows_get, rM, gM]
      refine wab.callDV 0 (viewL_cons_of (view_int) viewL_nil_of) ?_
      simp (disch := omega) only [Try.ntmps12, Try.results12, go_sem, rr_eq, rt, xmap_skipI, xmap_rowI, xset_rowI, outerB_getI, rV, gV, hV1, l2, r2, g2, rows_get, rM, gM]
      exact Fin.val (by rw [hov2])
    · have hstep : mat U b' c' + w ≤ absI (mat M b' c') := by omega
      have hend : ∀ nb3, EntIn (hx [.blk nb2 ⟨[.val (.int .i64 b'), .val (.int .i64 c')], true⟩, .blk nb ⟨[.val (.int .i64 a'), .val (.int .i64 b'), .val (.int .i64 c'), .val (.int .i64 w)], true⟩, .mat 0 (mi (mset V b' c' (mat U b' c' + w)))] nb3) (.mat 0 (mi (mset V b' c' (mat U b' c' + w)))) := fun nb3 => (EntIn.self.skipM (by simp only [mi_length]; omega)).skipM (by simp only [mi_length]; omega)
      clear ke hused hov hv hle hnn
      generalize absI (mat M b' c') = am at *
      generalize mat M b' c' = mm at *
      generalize mat U b' c' = u at *
      simp (disch := omega) only [Try.ntmps12, Try.results12, go_sem, rr_eq, rt, xmap_skipI, xmap_rowI, xset_rowI, outerB_getI, rV, gV, hV1, l2, r2, g2, rows_get, rM, gM]
      refine wab.callDV 0 (viewL_cons_of (view_int) viewL_nil_of) ?_
      simp (disch := omega) only [Try.ntmps12, Try.results12, go_sem, rr_eq, rt, xmap_skipI, xmap_rowI, xset_rowI, outerB_getI, rV, gV, hV1, l2, r2, g2, rows_get, rM, gM]
      refine ⟨(3, nb2 + 1), ⟨by simp, by show nb < nb2 + 1; omega, fun _ => hc1 (by omega), fun _ => hc2 (by omega), fun _ => hstep⟩, by simp, ?_⟩
      refine Wk.ofX (by simp only [go_sem, ↓List.forall_mem_cons, List.not_mem_nil, false_implies, implies_true, and_true, true_and, and_self, ri_eq, Int.natCast_add, Int.cast_ofNat_Int, rr_eq, rt]; try simp) ?_ (Nat.le_refl _)
      simp only [List.forall_mem_cons]
      refine ⟨?_, ?_, by simp⟩
      · simp (disch := omega) only [EntIn, hx_map, xmap_blk, if_pos, if_neg, ↓reduceIte]
      · rw [hnext]; exact hend _
  · have h3 := ke
    have hV := hsq 3
    have hc1 := hc1 (by omega)
    have hc2 := hc2 (by omega)
    have hc3 := hc3 (by omega)
    simp (disch := omega) only [Try.ntmps12, Try.results12, go_sem, rr_eq, rt]
    refine ⟨(k + 1, U3 U a' b' c' w 3, nb2), ⟨hlt, hV, by show M.length < nb2; omega, fun i hi => ?_, fun x y => ?_, fun x y hxy hy => ?_⟩, by show T.length - (k + 1) < T.length - k; omega, ?_⟩
    · rcases Nat.lt_succ_iff_lt_or_eq.1 hi with g | rfl
      · exact hok i g
      · rw [ht]; exact ⟨hbt, v1, v2⟩
    · show mat (U3 U a' b' c' w 3) x y = _
      rw [h3, hsucc, hused]
    · show mat (U3 U a' b' c' w 3) x y ≤ _
      rw [h3]
      split
      · rename_i hh
        simp only [hitT, Bool.or_eq_true, Bool.and_eq_true, decide_eq_true_eq] at hh
        rcases hh with ⟨e1, e2⟩ | ⟨e1, e2⟩ | ⟨e1, e2⟩
        · have e1 : x = a' := by omega
          have e2 : y = b' := by omega
          rw [e1, e2]; exact hc1
        · have e1 : x = a' := by omega
          have e2 : y = c' := by omega
          rw [e1, e2]; exact hc2
        · have e1 : x = b' := by omega
          have e2 : y = c' := by omega
          rw [e1, e2]; exact hc3
      · rw [Int.add_zero]; exact hle x y hxy hy
    · refine Wk.ofX (by simp only [go_sem, ↓List.forall_mem_cons, List.not_mem_nil, false_implies, implies_true, and_true, true_and, and_self, ri_eq, Int.natCast_add, Int.cast_ofNat_Int, rr_eq, rt]; try simp) ?_ (Nat.le_refl _)
      simp only [List.forall_mem_cons]
      exact ⟨EntIn.self.skipM (by have := hV.1; simp only [mi_length]; omega), by simp⟩
end Go.Sh

/-
  Contracts: all bad triangles. Of the reference.
-/
namespace Go.Sh
set_option linter.unusedSimpArgs false
set_option linter.unusedVariables false
open Go Go.Proofs

theorem rep_zero (zs : List SV) : rep zs 0 = [] := rfl
theorem isBT_at {M : List (List Int)} (hw : WM M) {a b c : Nat} (h1 : a < b) (h2 : b < c) (h3 : c < M.length) : isBT M a b c = badB (mat M a b) (mat M a c) (mat M b c) := by
  have : triB M.length a b c = true := decide_eq_true (by omega)
  rw [isBT, isWM_t hw, this]; rfl
set_option maxHeartbeats 8000000 in
theorem Try.specBadT_f (M : List (List Int)) (hM : M.length ≤ 1048576) (hR : ∀ i, i < M.length → (mrow M i).length ≤ 1048576) (hw : WM M) : FCall Try.prog 20 [rr M] (FlatRes (badT M).length 4 (encL tri4 (badT M))) := by
  have hln := hw.1
  rw [badT_t hw]
  refine FCall.of_body Try.func20 rfl (by kernel_rfl) (by simp [Try.ntmps20]) ?_
  refine SW_of_vc Try.mixed _ _ _ (by kernel_rfl) ?_
  simp (disch := omega) only [Try.ntmps20, Try.results20, go_sem, rr_eq]
  refine LoopW.loop (fun p : Nat × Nat × Nat => ⟨ofL [(0, rr M), (3, .own p.2.1 0 (Ta M p.1).length (Ta M p.1).length 4 false), (4, .val (.int .i64 p.1))], hp [(p.2.1, ⟨encL tri4 (Ta M p.1), false⟩)] p.2.2⟩)
    (fun p => p.1 ≤ M.length ∧ p.2.1 < p.2.2) (fun p => M.length - p.1) (0, 0, 1) ⟨by simp, by simp⟩ (Wk.ofH (by simp only [go_sem, ↓List.forall_mem_cons, List.not_mem_nil, false_implies, implies_true, and_true, true_and, and_self, ri_eq, Int.natCast_add, Int.cast_ofNat_Int, rr_eq, Ta, List.range_zero, List.flatMap_nil, List.length_nil]; try simp) (by simp [Ta, encL, hp, hmap, rep_zero]) (by simp [hp])) ?_
  rintro ⟨a, ob, nb⟩ ⟨ha, hob⟩
  simp only at ha hob
  refine SW_of_vc Try.mixed _ _ _ (by kernel_rfl) ?_
  by_cases hlt : a < M.length
  · simp (disch := omega) only [Try.ntmps20, Try.results20, go_sem, rr_eq]
    refine LoopW.loop (fun p : Nat × Nat × Nat => ⟨ofL [(0, rr M), (3, .own p.2.1 0 (Ta M a ++ Tb M a p.1).length (Ta M a ++ Tb M a p.1).length 4 false), (4, .val (.int .i64 a)), (5, .val (.int .i64 p.1))], hp [(p.2.1, ⟨encL tri4 (Ta M a ++ Tb M a p.1), false⟩)] p.2.2⟩)
      (fun p => a < p.1 ∧ p.1 ≤ M.length ∧ p.2.1 < p.2.2) (fun p => M.length - p.1) (a + 1, ob, nb) ⟨by simp, hlt, hob⟩
      (by
        have e : Tb M a (a + 1) = [] := Tb_start M a (a + 1) (Nat.le_refl _)
        exact Wk.ofH (by simp only [go_sem, ↓List.forall_mem_cons, List.not_mem_nil, false_implies, implies_true, and_true, true_and, and_self, ri_eq, Int.natCast_add, Int.cast_ofNat_Int, rr_eq, e, List.append_nil]; try simp) (by simp (disch := omega) only [go_sem, ↓List.forall_mem_cons, List.not_mem_nil, false_implies, implies_true, and_true, true_and, and_self, ri_eq, Int.natCast_add, Int.cast_ofNat_Int, if_pos, if_neg, Nat.reduceAdd, List.nil_append, e, List.append_nil]; try simp) (Nat.le_refl _)) ?_
    rintro ⟨b, ob, nb⟩ ⟨hab, hb, hob⟩
    simp only at hab hb hob
    refine SW_of_vc Try.mixed _ _ _ (by kernel_rfl) ?_
    by_cases hlt2 : b < M.length
    · simp (disch := omega) only [Try.ntmps20, Try.results20, go_sem, rr_eq]
      refine LoopW.loop (fun p : Nat × Nat × Nat => ⟨ofL [(0, rr M), (3, .own p.2.1 0 (Ta M a ++ Tb M a b ++ Tc M a b p.1).length (Ta M a ++ Tb M a b ++ Tc M a b p.1).length 4 false), (4, .val (.int .i64 a)), (5, .val (.int .i64 b)), (6, .val (.int .i64 p.1))], hp [(p.2.1, ⟨encL tri4 (Ta M a ++ Tb M a b ++ Tc M a b p.1), false⟩)] p.2.2⟩)
        (fun p => b < p.1 ∧ p.1 ≤ M.length ∧ p.2.1 < p.2.2) (fun p => M.length - p.1) (b + 1, ob, nb) ⟨by simp, hlt2, hob⟩
        (by
          have e : Tc M a b (b + 1) = [] := Tc_start M a b (b + 1) (Nat.le_refl _)
          exact Wk.ofH (by simp only [go_sem, ↓List.forall_mem_cons, List.not_mem_nil, false_implies, implies_true, and_true, true_and, and_self, ri_eq, Int.natCast_add, Int.cast_ofNat_Int, rr_eq, e, List.append_nil]; try simp) (by simp (disch := omega) only [go_sem, ↓List.forall_mem_cons, List.not_mem_nil, false_implies, implies_true, and_true, true_and, and_self, ri_eq, Int.natCast_add, Int.cast_ofNat_Int, if_pos, if_neg, Nat.reduceAdd, List.nil_append, e, List.append_nil]; try simp) (Nat.le_refl _)) ?_
      rintro ⟨c, ob, nb⟩ ⟨hbc, hc, hob⟩
      simp only at hbc hc hob
      refine SW_of_vc Try.mixed _ _ _ (by kernel_rfl) ?_
      by_cases hlt3 : c < M.length
      · have ra := hw.2.1 a hlt
        have rb := hw.2.1 b hlt2
        have g1 : (ints (mrow M a))[b]? = some (.val (.int .i64 (mat M a b))) := ints_get' ra hlt2
        have g2 : (ints (mrow M a))[c]? = some (.val (.int .i64 (mat M a c))) := ints_get' ra hlt3
        have g3 : (ints (mrow M b))[c]? = some (.val (.int .i64 (mat M b c))) := ints_get' rb hlt3
        have k1 := (hw.2.2.1 a b hlt hlt2).1
        have k2 := (hw.2.2.1 a c hlt hlt3).1
        have k3 := (hw.2.2.1 b c hlt2 hlt3).1
        have wa := Try.l21Size_ok (mat M a b) (by omega) (by omega)
        have wb := Try.l21Size_ok (mat M a c) (by omega) (by omega)
        have wc := Try.l21Size_ok (mat M b c) (by omega) (by omega)
        have wd := Try.specIsBT_ok M a b c hM hR
        rw [isBT_at hw hab hbc hlt3] at wd
        have hsucc := Tc_succ M a b c
        rw [if_pos hbc] at hsucc
        have hlen : (Ta M a ++ Tb M a b ++ Tc M a b c).length ≤ 1000 := by
          have := Ta_len hln.2 a
          have := Tb_len hln.2 a b
          have := Tc_len M a b c
          simp only [List.length_append]; omega
        rcases Bool.eq_false_or_eq_true (badB (mat M a b) (mat M a c) (mat M b c)) with hbad | hbad
        · have hbc2 : badC M a b c = [((a : Int), (b : Int), (c : Int), mn2 (mn2 (absI (mat M a b)) (absI (mat M a c))) (absI (mat M b c)))] := by rw [badC, if_pos hbad]
          rw [hbad] at wd
          rw [hbc2] at hsucc
          have hnew : Ta M a ++ Tb M a b ++ Tc M a b (c + 1) = (Ta M a ++ Tb M a b ++ Tc M a b c) ++ [((a : Int), (b : Int), (c : Int), mn2 (mn2 (absI (mat M a b)) (absI (mat M a c))) (absI (mat M b c)))] := by rw [hsucc, List.append_assoc, List.append_assoc, List.append_assoc]
          have hl2 : (Ta M a ++ Tb M a b ++ Tc M a b (c + 1)).length = (Ta M a ++ Tb M a b ++ Tc M a b c).length + 1 := by rw [hnew, List.length_append]; rfl
          have ts := tri_snoc (Ta M a ++ Tb M a b ++ Tc M a b c) a b c (mn2 (mn2 (absI (mat M a b)) (absI (mat M a c))) (absI (mat M b c)))
          rw [← hnew] at ts
          clear hsucc hbc2 hnew hbad
          generalize Ta M a ++ Tb M a b ++ Tc M a b c = T at *
          generalize hT' : Ta M a ++ Tb M a b ++ Tc M a b (c + 1) = T' at *
          generalize mat M a b = x at *
          generalize mat M a c = y at *
          generalize mat M b c = z at *
          generalize hax : absI x = ax at *
          generalize hay : absI y = ay at *
          generalize haz : absI z = az at *
          have hTl := encL_length (enc := tri4) (z := 4) tri4_z T
          have hTt := encL_take_self (enc := tri4) (z := 4) tri4_z T
          simp (disch := omega) only [Try.ntmps20, Try.results20, go_sem, rr_eq]
          refine wd.callV 0 (viewL_cons_of (view_row) (viewL_cons_of (view_int) (viewL_cons_of (view_int) (viewL_cons_of (view_int) viewL_nil_of)))) ?_
          simp (disch := omega) only [Try.ntmps20, Try.results20, go_sem, rr_eq, rows_get, ra, rb, g1, g2, g3]
          refine wa.callDV 0 (viewL_cons_of (view_int) viewL_nil_of) ?_
          simp (disch := omega) only [Try.ntmps20, Try.results20, go_sem, rr_eq, rows_get, ra, rb, g1, g2, g3]
          refine wb.callDV 0 (viewL_cons_of (view_int) viewL_nil_of) ?_
          simp (disch := omega) only [Try.ntmps20, Try.results20, go_sem, rr_eq, rows_get, ra, rb, g1, g2, g3]
          refine wc.callDV 0 (viewL_cons_of (view_int) viewL_nil_of) ?_
          simp (disch := omega) only [Try.ntmps20, Try.results20, go_sem, rr_eq, rows_get, ra, rb, g1, g2, g3, ite_mn2, rep4c, hTl, hTt, ts]
          refine ⟨(c + 1, nb + 1, nb + 1 + 1), ⟨by show b < c + 1; omega, hlt3, by show nb + 1 < nb + 1 + 1; omega⟩, by show M.length - (c + 1) < M.length - c; omega, ?_⟩
          exact Wk.ofH (by simp only [go_sem, ↓List.forall_mem_cons, List.not_mem_nil, false_implies, implies_true, and_true, true_and, and_self, ri_eq, Int.natCast_add, Int.cast_ofNat_Int, rr_eq, hT', hl2]; try simp) (by simp (disch := omega) only [go_sem, ↓List.forall_mem_cons, List.not_mem_nil, false_implies, implies_true, and_true, true_and, and_self, ri_eq, Int.natCast_add, Int.cast_ofNat_Int, if_pos, if_neg, Nat.reduceAdd, List.nil_append, hT']; try simp) (Nat.le_refl _)
        · have hbc2 : badC M a b c = [] := by rw [badC, if_neg (by rw [hbad]; simp)]
          rw [hbad] at wd
          rw [hbc2, List.append_nil] at hsucc
          simp (disch := omega) only [Try.ntmps20, Try.results20, go_sem, rr_eq]
          refine wd.callV 0 (viewL_cons_of (view_row) (viewL_cons_of (view_int) (viewL_cons_of (view_int) (viewL_cons_of (view_int) viewL_nil_of)))) ?_
          simp (disch := omega) only [Try.ntmps20, Try.results20, go_sem, rr_eq]
          refine ⟨(c + 1, ob, nb), ⟨by show b < c + 1; omega, hlt3, hob⟩, by show M.length - (c + 1) < M.length - c; omega, ?_⟩
          exact Wk.ofH (by simp only [go_sem, ↓List.forall_mem_cons, List.not_mem_nil, false_implies, implies_true, and_true, true_and, and_self, ri_eq, Int.natCast_add, Int.cast_ofNat_Int, rr_eq, hsucc]; try simp) (by simp (disch := omega) only [go_sem, ↓List.forall_mem_cons, List.not_mem_nil, false_implies, implies_true, and_true, true_and, and_self, ri_eq, Int.natCast_add, Int.cast_ofNat_Int, if_pos, if_neg, Nat.reduceAdd, List.nil_append, hsucc]; try simp) (Nat.le_refl _)
      · obtain rfl : c = M.length := by omega
        have e : Ta M a ++ Tb M a b ++ Tc M a b M.length = Ta M a ++ Tb M a (b + 1) := by rw [Tb_succ, if_pos hab, List.append_assoc]
        rw [e]
        simp (disch := omega) only [Try.ntmps20, Try.results20, go_sem, rr_eq]
        exact ⟨(b + 1, ob, nb), ⟨by show a < b + 1; omega, hlt2, hob⟩, by show M.length - (b + 1) < M.length - b; omega, Wk.ofH (by simp only [go_sem, ↓List.forall_mem_cons, List.not_mem_nil, false_implies, implies_true, and_true, true_and, and_self, ri_eq, Int.natCast_add, Int.cast_ofNat_Int, rr_eq]; try simp) (by simp (disch := omega) only [go_sem, ↓List.forall_mem_cons, List.not_mem_nil, false_implies, implies_true, and_true, true_and, and_self, ri_eq, Int.natCast_add, Int.cast_ofNat_Int, if_pos, if_neg, Nat.reduceAdd, List.nil_append]; try simp) (Nat.le_refl _)⟩
    · obtain rfl : b = M.length := by omega
      have e : Ta M a ++ Tb M a M.length = Ta M (a + 1) := (Ta_succ M a).symm
      rw [e]
      simp (disch := omega) only [Try.ntmps20, Try.results20, go_sem, rr_eq]
      exact ⟨(a + 1, ob, nb), ⟨hlt, hob⟩, by show M.length - (a + 1) < M.length - a; omega, Wk.ofH (by simp only [go_sem, ↓List.forall_mem_cons, List.not_mem_nil, false_implies, implies_true, and_true, true_and, and_self, ri_eq, Int.natCast_add, Int.cast_ofNat_Int, rr_eq]; try simp) (by simp (disch := omega) only [go_sem, ↓List.forall_mem_cons, List.not_mem_nil, false_implies, implies_true, and_true, true_and, and_self, ri_eq, Int.natCast_add, Int.cast_ofNat_Int, if_pos, if_neg, Nat.reduceAdd, List.nil_append]; try simp) (Nat.le_refl _)⟩
  · obtain rfl : a = M.length := by omega
    simp (disch := omega) only [Try.ntmps20, Try.results20, go_sem, rr_eq]
    exact flat_fin (encL_length (z := 4) tri4_z _) (encL_vals tri4_v _) (by rw [hp_map, hmap_cons, if_pos rfl])

set_option maxHeartbeats 4000000 in
theorem Try.specBadT_not (M : List (List Int)) (hM : M.length ≤ 1048576) (hR : ∀ i, i < M.length → (mrow M i).length ≤ 1048576) (hw : ¬ WM M) : FCall Try.prog 20 [rr M] (FlatRes 0 4 (encL tri4 [])) := by
  have wd := fun a b c => Try.specIsBT_ok M a b c hM hR
  have hf : ∀ a b c, isBT M a b c = false := fun a b c => by rw [isBT, isWM_f hw]; rfl
  simp only [hf] at wd
  refine FCall.of_body Try.func20 rfl (by kernel_rfl) (by simp [Try.ntmps20]) ?_
  refine SW_of_vc Try.mixed _ _ _ (by kernel_rfl) ?_
  simp (disch := omega) only [Try.ntmps20, Try.results20, go_sem, rr_eq]
  refine LoopW.loop (fun a : Nat => ⟨ofL [(0, rr M), (3, .own 0 0 0 0 4 false), (4, .val (.int .i64 a))], hp [(0, ⟨[], false⟩)] 1⟩) (fun a => a ≤ M.length) (fun a => M.length - a) 0 (by omega) (Wk.ofH (by simp only [go_sem, ↓List.forall_mem_cons, List.not_mem_nil, false_implies, implies_true, and_true, true_and, and_self, ri_eq, Int.natCast_add, Int.cast_ofNat_Int, rr_eq]; try simp) (by simp [hp, hmap, rep_zero]) (by simp [hp])) ?_
  intro a ha
  refine SW_of_vc Try.mixed _ _ _ (by kernel_rfl) ?_
  by_cases hlt : a < M.length
  · simp (disch := omega) only [Try.ntmps20, Try.results20, go_sem, rr_eq]
    refine LoopW.loop (fun b : Nat => ⟨ofL [(0, rr M), (3, .own 0 0 0 0 4 false), (4, .val (.int .i64 a)), (5, .val (.int .i64 b))], hp [(0, ⟨[], false⟩)] 1⟩) (fun b => b ≤ M.length) (fun b => M.length - b) (a + 1) (by omega) (Wk.ofH (by simp only [go_sem, ↓List.forall_mem_cons, List.not_mem_nil, false_implies, implies_true, and_true, true_and, and_self, ri_eq, Int.natCast_add, Int.cast_ofNat_Int, rr_eq]; try simp) (by simp (disch := omega) only [go_sem, ↓List.forall_mem_cons, List.not_mem_nil, false_implies, implies_true, and_true, true_and, and_self, ri_eq, Int.natCast_add, Int.cast_ofNat_Int, if_pos, if_neg, Nat.reduceAdd, List.nil_append]; try simp) (Nat.le_refl _)) ?_
    intro b hb
    refine SW_of_vc Try.mixed _ _ _ (by kernel_rfl) ?_
    by_cases hlt2 : b < M.length
    · simp (disch := omega) only [Try.ntmps20, Try.results20, go_sem, rr_eq]
      refine LoopW.loop (fun c : Nat => ⟨ofL [(0, rr M), (3, .own 0 0 0 0 4 false), (4, .val (.int .i64 a)), (5, .val (.int .i64 b)), (6, .val (.int .i64 c))], hp [(0, ⟨[], false⟩)] 1⟩) (fun c => c ≤ M.length) (fun c => M.length - c) (b + 1) (by omega) (Wk.ofH (by simp only [go_sem, ↓List.forall_mem_cons, List.not_mem_nil, false_implies, implies_true, and_true, true_and, and_self, ri_eq, Int.natCast_add, Int.cast_ofNat_Int, rr_eq]; try simp) (by simp (disch := omega) only [go_sem, ↓List.forall_mem_cons, List.not_mem_nil, false_implies, implies_true, and_true, true_and, and_self, ri_eq, Int.natCast_add, Int.cast_ofNat_Int, if_pos, if_neg, Nat.reduceAdd, List.nil_append]; try simp) (Nat.le_refl _)) ?_
      intro c hc
      refine SW_of_vc Try.mixed _ _ _ (by kernel_rfl) ?_
      by_cases hlt3 : c < M.length
      · simp (disch := omega) only [Try.ntmps20, Try.results20, go_sem, rr_eq]
        refine (wd a b c).callV 0 (viewL_cons_of (view_row) (viewL_cons_of (view_int) (viewL_cons_of (view_int) (viewL_cons_of (view_int) viewL_nil_of)))) ?_
        simp (disch := omega) only [Try.ntmps20, Try.results20, go_sem, rr_eq]
        exact ⟨c + 1, by omega, by omega, Wk.ofH (by simp only [go_sem, ↓List.forall_mem_cons, List.not_mem_nil, false_implies, implies_true, and_true, true_and, and_self, ri_eq, Int.natCast_add, Int.cast_ofNat_Int, rr_eq]; try simp) (by simp (disch := omega) only [go_sem, ↓List.forall_mem_cons, List.not_mem_nil, false_implies, implies_true, and_true, true_and, and_self, ri_eq, Int.natCast_add, Int.cast_ofNat_Int, if_pos, if_neg, Nat.reduceAdd, List.nil_append]; try simp) (Nat.le_refl _)⟩
      · simp (disch := omega) only [Try.ntmps20, Try.results20, go_sem, rr_eq]
        exact ⟨b + 1, by omega, by omega, Wk.ofH (by simp only [go_sem, ↓List.forall_mem_cons, List.not_mem_nil, false_implies, implies_true, and_true, true_and, and_self, ri_eq, Int.natCast_add, Int.cast_ofNat_Int, rr_eq]; try simp) (by simp (disch := omega) only [go_sem, ↓List.forall_mem_cons, List.not_mem_nil, false_implies, implies_true, and_true, true_and, and_self, ri_eq, Int.natCast_add, Int.cast_ofNat_Int, if_pos, if_neg, Nat.reduceAdd, List.nil_append]; try simp) (Nat.le_refl _)⟩
    · simp (disch := omega) only [Try.ntmps20, Try.results20, go_sem, rr_eq]
      exact ⟨a + 1, by omega, by omega, Wk.ofH (by simp only [go_sem, ↓List.forall_mem_cons, List.not_mem_nil, false_implies, implies_true, and_true, true_and, and_self, ri_eq, Int.natCast_add, Int.cast_ofNat_Int, rr_eq]; try simp) (by simp (disch := omega) only [go_sem, ↓List.forall_mem_cons, List.not_mem_nil, false_implies, implies_true, and_true, true_and, and_self, ri_eq, Int.natCast_add, Int.cast_ofNat_Int, if_pos, if_neg, Nat.reduceAdd, List.nil_append]; try simp) (Nat.le_refl _)⟩
  · simp (disch := omega) only [Try.ntmps20, Try.results20, go_sem, rr_eq]
    exact flat_fin (cs := encL tri4 []) rfl rfl (by rw [hp_map, hmap_cons, if_pos rfl]; rfl)
theorem Try.specBadT_ok (M : List (List Int)) (hM : M.length ≤ 1048576) (hR : ∀ i, i < M.length → (mrow M i).length ≤ 1048576) : PCall Try.prog 20 [rr M] (rt (badT M)) := by
  by_cases hw : WM M
  · exact (Try.specBadT_f M hM hR hw).pcall 2 (fun _ _ h => flat_viewT h)
  · rw [badT_f hw]
    exact (Try.specBadT_not M hM hR hw).pcall 2 (fun _ _ h => flat_viewT h)
end Go.Sh

/-
  The greedy packing: plain; of the reference.
-/
namespace Go.Sh
set_option linter.unusedSimpArgs false
set_option linter.unusedVariables false
open Go Go.Proofs

theorem mn2_min (x y : Int) : mn2 x y = min x y := by unfold mn2; split <;> omega
def gw (M : List (List Int)) (R : List Tri) (a b c : Nat) : Int := mn2 (mn2 (absI (mat M a b) - usedT R a b) (absI (mat M a c) - usedT R a c)) (absI (mat M b c) - usedT R b c)
/-- What the first k bad triangles leave in the packing. -/
noncomputable def grTo (M : List (List Int)) : Nat → List Tri
  | 0 => []
  | k + 1 => if 0 < gw M (grTo M k) (tg (badT M) k).1.toNat (tg (badT M) k).2.1.toNat (tg (badT M) k).2.2.1.toNat then grTo M k ++ [((tg (badT M) k).1, (tg (badT M) k).2.1, (tg (badT M) k).2.2.1, gw M (grTo M k) (tg (badT M) k).1.toNat (tg (badT M) k).2.1.toNat (tg (badT M) k).2.2.1.toNat)] else grTo M k
noncomputable def gr (M : List (List Int)) : List Tri := grTo M (badT M).length
theorem badT_mem {M : List (List Int)} {t : Tri} (h : t ∈ badT M) : WM M ∧ ∃ a b c : Nat, t = ((a : Int), (b : Int), (c : Int), mn2 (mn2 (absI (mat M a b)) (absI (mat M a c))) (absI (mat M b c))) ∧ a < b ∧ b < c ∧ c < M.length := by
  have hw : WM M := badT_wm (fun e => by rw [List.length_eq_zero_iff.1 e] at h; simp at h)
  refine ⟨hw, ?_⟩
  rw [badT_t hw, Ta, List.mem_flatMap] at h
  obtain ⟨a, _, h⟩ := h
  rw [Tb, List.mem_flatMap] at h
  obtain ⟨b, _, h⟩ := h
  by_cases hab : a < b
  · rw [if_pos hab, Tc, List.mem_flatMap] at h
    obtain ⟨c, hc, h⟩ := h
    have hc : c < M.length := by simpa using hc
    by_cases hbc : b < c
    · rw [if_pos hbc, badC] at h
      split at h
      · simp at h
        exact ⟨a, b, c, h, hab, hbc, hc⟩
      · simp at h
    · rw [if_neg hbc] at h; simp at h
  · rw [if_neg hab] at h; simp at h
theorem badT_at {M : List (List Int)} {k : Nat} (h : k < (badT M).length) : ∃ a b c : Nat, tg (badT M) k = ((a : Int), (b : Int), (c : Int), mn2 (mn2 (absI (mat M a b)) (absI (mat M a c))) (absI (mat M b c))) ∧ a < b ∧ b < c ∧ c < M.length := by
  have : tg (badT M) k ∈ badT M := by rw [tg_get h]; exact List.getElem_mem h
  exact (badT_mem this).2
theorem grTo_put {M : List (List Int)} {k a b c : Nat} {w : Int} (ht : tg (badT M) k = ((a : Int), (b : Int), (c : Int), w)) (h : 0 < gw M (grTo M k) a b c) : grTo M (k + 1) = grTo M k ++ [((a : Int), (b : Int), (c : Int), gw M (grTo M k) a b c)] := by
  rw [grTo, ht]
  simp only [Int.toNat_natCast]
  rw [if_pos h]
theorem grTo_skip {M : List (List Int)} {k a b c : Nat} {w : Int} (ht : tg (badT M) k = ((a : Int), (b : Int), (c : Int), w)) (h : ¬ 0 < gw M (grTo M k) a b c) : grTo M (k + 1) = grTo M k := by
  rw [grTo, ht]
  simp only [Int.toNat_natCast]
  rw [if_neg h]
theorem grTo_len (M : List (List Int)) : ∀ k, (grTo M k).length ≤ k
  | 0 => by simp [grTo]
  | k + 1 => by
    have := grTo_len M k
    rw [grTo]
    split
    · simp; omega
    · omega
theorem absI_le {M : List (List Int)} (hw : WM M) {x y : Nat} (hx : x < M.length) (hy : y < M.length) : absI (mat M x y) ≤ 1000 := by
  have := (hw.2.2.1 x y hx hy).1
  unfold absI; split <;> omega
theorem usedT_snoc (R : List Tri) (t : Tri) (x y : Nat) : usedT (R ++ [t]) x y = usedT R x y + (if hitT t x y = true then t.2.2.2 else 0) := by
  simp [usedT]
theorem gw_le {M : List (List Int)} {R : List Tri} {a b c : Nat} (h : ∀ x y, 0 ≤ usedT R x y) : gw M R a b c ≤ absI (mat M a b) - usedT R a b ∧ gw M R a b c ≤ absI (mat M a c) - usedT R a c ∧ gw M R a b c ≤ absI (mat M b c) - usedT R b c := by
  simp only [gw, mn2_min]; omega
/-- Each of a packing's sums stays between 0 and the weight's size; each weight is 1 .. 1000. -/
theorem grTo_inv {M : List (List Int)} : ∀ k, k ≤ (badT M).length → (∀ x y, 0 ≤ usedT (grTo M k) x y) ∧ (∀ x y, x < y → y < M.length → usedT (grTo M k) x y ≤ absI (mat M x y)) ∧ wOk (grTo M k)
  | 0, _ => ⟨fun x y => by simp [grTo, usedT], fun x y _ _ => by simp only [grTo, usedT, List.map_nil, List.sum_nil]; exact absI_nonneg _, fun k hk => by simp [grTo] at hk⟩
  | k + 1, hk => by
    obtain ⟨h1, h2, h3⟩ := grTo_inv (M := M) k (by omega)
    obtain ⟨a, b, c, ht, hab, hbc, hc⟩ := badT_at (M := M) (k := k) (by omega)
    have hkl : k < (badT M).length := by omega
    have hmem : tg (badT M) k ∈ badT M := by rw [tg_get hkl]; exact List.getElem_mem _
    have hw := (badT_mem hmem).1
    by_cases hg : 0 < gw M (grTo M k) a b c
    · have hle := gw_le (M := M) (R := grTo M k) (a := a) (b := b) (c := c) h1
      have hm1 := absI_le hw (x := a) (y := b) (by omega) (by omega)
      have u1 := h1 a b
      rw [grTo_put ht hg]
      refine ⟨fun x y => ?_, fun x y hxy hy => ?_, fun i hi => ?_⟩
      · rw [usedT_snoc]
        have := h1 x y
        split
        · simp only []; omega
        · omega
      · rw [usedT_snoc]
        split
        · rename_i hh
          simp only [hitT, Bool.or_eq_true, Bool.and_eq_true, decide_eq_true_eq] at hh
          simp only []
          rcases hh with ⟨e1, e2⟩ | ⟨e1, e2⟩ | ⟨e1, e2⟩
          · have e1 : x = a := by omega
            have e2 : y = b := by omega
            subst e1 e2; omega
          · have e1 : x = a := by omega
            have e2 : y = c := by omega
            subst e1 e2; omega
          · have e1 : x = b := by omega
            have e2 : y = c := by omega
            subst e1 e2; omega
        · have := h2 x y hxy hy; omega
      · rw [List.length_append, List.length_singleton] at hi
        by_cases hl : i < (grTo M k).length
        · have := h3 i hl
          have e : tg (grTo M k ++ [((a : Int), (b : Int), (c : Int), gw M (grTo M k) a b c)]) i = tg (grTo M k) i := by simp [tg, List.getElem?_append, hl]
          rw [e]; exact this
        · have e : i = (grTo M k).length := by omega
          have e2 : tg (grTo M k ++ [((a : Int), (b : Int), (c : Int), gw M (grTo M k) a b c)]) i = ((a : Int), (b : Int), (c : Int), gw M (grTo M k) a b c) := by subst e; simp [tg]
          rw [e2]
          simp only []
          omega
    · rw [grTo_skip ht hg]
      exact ⟨h1, h2, h3⟩
end Go.Sh

/-
  The greedy packing, of the reference.
-/
namespace Go.Sh
set_option linter.unusedSimpArgs false
set_option linter.unusedVariables false
open Go Go.Proofs

theorem grTo_w {M : List (List Int)} {k : Nat} (hk : k ≤ (badT M).length) : wOk (grTo M k) := (grTo_inv k hk).2.2
set_option maxRecDepth 20000 in
set_option maxHeartbeats 8000000 in
theorem Try.specGr_f (M : List (List Int)) (hM : M.length ≤ 1048576) (hR : ∀ i, i < M.length → (mrow M i).length ≤ 1048576) : FCall Try.prog 18 [rr M] (FlatRes (gr M).length 4 (encL tri4 (gr M))) := by
  have w1 := Try.specBadT_ok M hM hR
  have hT := badT_len M
  have lT := encL_length (enc := tri4) (z := 4) tri4_z (badT M)
  refine FCall.of_body Try.func18 rfl (by kernel_rfl) (by simp [Try.ntmps18]) ?_
  refine SW_of_vc Try.mixed _ _ _ (by kernel_rfl) ?_
  simp (disch := omega) only [Try.ntmps18, Try.results18, go_sem, rr_eq, rep_zero]
  refine w1.callV 0 (viewL_cons_of (view_row) viewL_nil_of) ?_
  simp (disch := omega) only [Try.ntmps18, Try.results18, go_sem, rr_eq, rt, rep_zero]
  refine LoopW.loop (fun p : Nat × Nat × Nat => ⟨ofL [(0, rr M), (3, .own p.2.1 0 (grTo M p.1).length (grTo M p.1).length 4 false), (4, rt (badT M)), (5, .val (.int .i64 p.1))], hp [(p.2.1, ⟨encL tri4 (grTo M p.1), false⟩)] p.2.2⟩)
    (fun p => p.1 ≤ (badT M).length ∧ p.2.1 < p.2.2) (fun p => (badT M).length - p.1) (0, 0, 1) ⟨by simp, by simp⟩ (Wk.ofH (by simp only [go_sem, ↓List.forall_mem_cons, List.not_mem_nil, false_implies, implies_true, and_true, true_and, and_self, ri_eq, Int.natCast_add, Int.cast_ofNat_Int, rr_eq, rt, grTo, List.length_nil]; try simp) (by simp [grTo, encL, hp, hmap]) (by simp [hp])) ?_
  rintro ⟨k, ob, nb⟩ ⟨hk, hob⟩
  simp only at hk hob
  refine SW_of_vc Try.mixed _ _ _ (by kernel_rfl) ?_
  by_cases hlt : k < (badT M).length
  · obtain ⟨a, b, c, ht, hab, hbc, hcn⟩ := badT_at hlt
    have hw := (badT_mem (M := M) (t := tg (badT M) k) (by rw [tg_get hlt]; exact List.getElem_mem _)).1
    obtain ⟨_, _, _, _, q⟩ := tri_of hlt ht
    obtain ⟨i1, i2, i3⟩ := grTo_inv k hk
    have hgl := grTo_len M k
    have ra := hw.2.1 a (by omega)
    have rb := hw.2.1 b (by omega)
    have g1 : (ints (mrow M a))[b]? = some (.val (.int .i64 (mat M a b))) := ints_get' ra (by omega)
    have g2 : (ints (mrow M a))[c]? = some (.val (.int .i64 (mat M a c))) := ints_get' ra (by omega)
    have g3 : (ints (mrow M b))[c]? = some (.val (.int .i64 (mat M b c))) := ints_get' rb (by omega)
    have k1 := (hw.2.2.1 a b (by omega) (by omega)).1
    have k2 := (hw.2.2.1 a c (by omega) (by omega)).1
    have k3 := (hw.2.2.1 b c (by omega) (by omega)).1
    have wa := Try.l21Size_ok (mat M a b) (by omega) (by omega)
    have wb := Try.l21Size_ok (mat M a c) (by omega) (by omega)
    have wc := Try.l21Size_ok (mat M b c) (by omega) (by omega)
    have ua := Try.l21Used_ok (grTo M k) a b (by omega) i3
    have ub := Try.l21Used_ok (grTo M k) a c (by omega) i3
    have uc := Try.l21Used_ok (grTo M k) b c (by omega) i3
    have za := i2 a b hab (by omega)
    have zb := i2 a c (by omega) (by omega)
    have zc := i2 b c hbc (by omega)
    have ya := i1 a b
    have yb := i1 a c
    have yc := i1 b c
    have ma := absI_le hw (x := a) (y := b) (by omega) (by omega)
    have mb := absI_le hw (x := a) (y := c) (by omega) (by omega)
    have mc := absI_le hw (x := b) (y := c) (by omega) (by omega)
    have hput := grTo_put ht
    have hskip := grTo_skip ht
    have hgw : gw M (grTo M k) a b c = mn2 (mn2 (absI (mat M a b) - usedT (grTo M k) a b) (absI (mat M a c) - usedT (grTo M k) a c)) (absI (mat M b c) - usedT (grTo M k) b c) := rfl
    have lG := encL_length (enc := tri4) (z := 4) tri4_z (grTo M k)
    have tG := encL_take_self (enc := tri4) (z := 4) tri4_z (grTo M k)
    have ts := fun w => tri_snoc (grTo M k) a b c w
    clear i1 i2 i3
    generalize hG : gw M (grTo M k) a b c = w at *
    replace hgw := hgw.symm
    generalize usedT (grTo M k) a b = va at *
    generalize usedT (grTo M k) a c = vb at *
    generalize usedT (grTo M k) b c = vc at *
    generalize absI (mat M a b) = aa at *
    generalize absI (mat M a c) = ab at *
    generalize absI (mat M b c) = ac at *
    generalize mat M a b = x at *
    generalize mat M a c = y at *
    generalize mat M b c = z at *
    generalize hold : mn2 (mn2 aa ab) ac = w0 at *
    by_cases hpos : 0 < w
    · have hput := hput hpos
      have hl2 : (grTo M (k + 1)).length = (grTo M k).length + 1 := by rw [hput, List.length_append]; rfl
      have ts := ts w
      rw [← hput] at ts
      simp (disch := omega) only [Try.ntmps18, Try.results18, go_sem, rr_eq, rt, lT, q, rep4c, rows_get, ra, rb, g1, g2, g3]
      refine wa.callDV 0 (viewL_cons_of (view_int) viewL_nil_of) ?_
      simp (disch := omega) only [Try.ntmps18, Try.results18, go_sem, rr_eq, rt, lT, q, rep4c, rows_get, ra, rb, g1, g2, g3]
      refine ua.callDV 1 (viewL_cons_of (view_ownT (e2 := false) (by rw [hp_map, hmap_cons, if_neg (by omega), hmap_cons, if_pos rfl]) rfl) (viewL_cons_of view_int (viewL_cons_of view_int viewL_nil_of))) ?_
      simp (disch := omega) only [Try.ntmps18, Try.results18, go_sem, rr_eq, rt, lT, q, rep4c, rows_get, ra, rb, g1, g2, g3]
      refine wb.callDV 0 (viewL_cons_of (view_int) viewL_nil_of) ?_
      simp (disch := omega) only [Try.ntmps18, Try.results18, go_sem, rr_eq, rt, lT, q, rep4c, rows_get, ra, rb, g1, g2, g3]
      refine ub.callDV 1 (viewL_cons_of (view_ownT (e2 := false) (by rw [hp_map, hmap_cons, if_neg (by omega), hmap_cons, if_pos rfl]) rfl) (viewL_cons_of view_int (viewL_cons_of view_int viewL_nil_of))) ?_
      simp (disch := omega) only [Try.ntmps18, Try.results18, go_sem, rr_eq, rt, lT, q, rep4c, rows_get, ra, rb, g1, g2, g3]
      refine wc.callDV 0 (viewL_cons_of (view_int) viewL_nil_of) ?_
      simp (disch := omega) only [Try.ntmps18, Try.results18, go_sem, rr_eq, rt, lT, q, rep4c, rows_get, ra, rb, g1, g2, g3]
      refine uc.callDV 1 (viewL_cons_of (view_ownT (e2 := false) (by rw [hp_map, hmap_cons, if_neg (by omega), hmap_cons, if_pos rfl]) rfl) (viewL_cons_of view_int (viewL_cons_of view_int viewL_nil_of))) ?_
      simp (disch := omega) only [Try.ntmps18, Try.results18, go_sem, rr_eq, rt, lT, q, rep4c, rows_get, ra, rb, g1, g2, g3, ite_mn2, hgw, lG, tG, ts]
      refine ⟨(k + 1, nb + 1 + 1, nb + 1 + 1 + 1), ⟨hlt, by show nb + 1 + 1 < nb + 1 + 1 + 1; omega⟩, by show (badT M).length - (k + 1) < (badT M).length - k; omega, ?_⟩
      exact Wk.ofH (by simp only [go_sem, ↓List.forall_mem_cons, List.not_mem_nil, false_implies, implies_true, and_true, true_and, and_self, ri_eq, Int.natCast_add, Int.cast_ofNat_Int, rr_eq, rt, hl2]; try simp) (by simp (disch := omega) only [go_sem, ↓List.forall_mem_cons, List.not_mem_nil, false_implies, implies_true, and_true, true_and, and_self, ri_eq, Int.natCast_add, Int.cast_ofNat_Int, if_pos, if_neg, Nat.reduceAdd, List.nil_append]; try simp) (Nat.le_refl _)
    · have hskip := hskip hpos
      simp (disch := omega) only [Try.ntmps18, Try.results18, go_sem, rr_eq, rt, lT, q, rep4c, rows_get, ra, rb, g1, g2, g3]
      refine wa.callDV 0 (viewL_cons_of (view_int) viewL_nil_of) ?_
      simp (disch := omega) only [Try.ntmps18, Try.results18, go_sem, rr_eq, rt, lT, q, rep4c, rows_get, ra, rb, g1, g2, g3]
      refine ua.callDV 1 (viewL_cons_of (view_ownT (e2 := false) (by rw [hp_map, hmap_cons, if_neg (by omega), hmap_cons, if_pos rfl]) rfl) (viewL_cons_of view_int (viewL_cons_of view_int viewL_nil_of))) ?_
      simp (disch := omega) only [Try.ntmps18, Try.results18, go_sem, rr_eq, rt, lT, q, rep4c, rows_get, ra, rb, g1, g2, g3]
      refine wb.callDV 0 (viewL_cons_of (view_int) viewL_nil_of) ?_
      simp (disch := omega) only [Try.ntmps18, Try.results18, go_sem, rr_eq, rt, lT, q, rep4c, rows_get, ra, rb, g1, g2, g3]
      refine ub.callDV 1 (viewL_cons_of (view_ownT (e2 := false) (by rw [hp_map, hmap_cons, if_neg (by omega), hmap_cons, if_pos rfl]) rfl) (viewL_cons_of view_int (viewL_cons_of view_int viewL_nil_of))) ?_
      simp (disch := omega) only [Try.ntmps18, Try.results18, go_sem, rr_eq, rt, lT, q, rep4c, rows_get, ra, rb, g1, g2, g3]
      refine wc.callDV 0 (viewL_cons_of (view_int) viewL_nil_of) ?_
      simp (disch := omega) only [Try.ntmps18, Try.results18, go_sem, rr_eq, rt, lT, q, rep4c, rows_get, ra, rb, g1, g2, g3]
      refine uc.callDV 1 (viewL_cons_of (view_ownT (e2 := false) (by rw [hp_map, hmap_cons, if_neg (by omega), hmap_cons, if_pos rfl]) rfl) (viewL_cons_of view_int (viewL_cons_of view_int viewL_nil_of))) ?_
      simp (disch := omega) only [Try.ntmps18, Try.results18, go_sem, rr_eq, rt, lT, q, rep4c, rows_get, ra, rb, g1, g2, g3, ite_mn2, hgw, lG, tG]
      refine ⟨(k + 1, ob, nb + 1), ⟨hlt, by show ob < nb + 1; omega⟩, by show (badT M).length - (k + 1) < (badT M).length - k; omega, ?_⟩
      exact Wk.ofH (by simp only [go_sem, ↓List.forall_mem_cons, List.not_mem_nil, false_implies, implies_true, and_true, true_and, and_self, ri_eq, Int.natCast_add, Int.cast_ofNat_Int, rr_eq, rt, hskip]; try simp) (by simp (disch := omega) only [go_sem, ↓List.forall_mem_cons, List.not_mem_nil, false_implies, implies_true, and_true, true_and, and_self, ri_eq, Int.natCast_add, Int.cast_ofNat_Int, if_pos, if_neg, Nat.reduceAdd, List.nil_append, hskip]; try simp) (Nat.le_refl _)
  · have hkl : k = (badT M).length := by omega
    subst hkl
    simp (disch := omega) only [Try.ntmps18, Try.results18, go_sem, rr_eq, rt]
    exact flat_fin (encL_length (z := 4) tri4_z _) (encL_vals tri4_v _) (by rw [hp_map, hmap_cons, if_pos rfl]; rfl)
theorem Try.specGr_ok (M : List (List Int)) (hM : M.length ≤ 1048576) (hR : ∀ i, i < M.length → (mrow M i).length ≤ 1048576) : PCall Try.prog 18 [rr M] (rt (gr M)) :=
  (Try.specGr_f M hM hR).one.pcall 2 (fun _ _ h => one_viewT h rfl)
end Go.Sh

/-
  The greedy packing, of the program.
-/
namespace Go.Sh
set_option linter.unusedSimpArgs false
set_option linter.unusedVariables false
open Go Go.Proofs

def slTX (b : Nat) (T : List Tri) : List Ent := if T.length = 0 then [] else [.blk b ⟨encL tri4 T, false⟩]
theorem slTX_f {b : Nat} {T : List Tri} (h : T.length ≠ 0) : slTX b T = [.blk b ⟨encL tri4 T, false⟩] := if_neg h
theorem slTX_t {b : Nat} {T : List Tri} (h : T.length = 0) : slTX b T = [] := if_pos h
theorem slTX_map {b : Nat} {T : List Tri} (h : T.length ≠ 0) : xmap (slTX b T) b = some ⟨encL tri4 T, false⟩ := by rw [slTX_f h, xmap_blk, if_pos rfl]
theorem slTX_in {b : Nat} {T : List Tri} {H : Heap} (h : T.length ≠ 0 → H.map b = some ⟨encL tri4 T, false⟩) : ∀ e ∈ slTX b T, EntIn H e := by
  intro e he
  unfold slTX at he
  split at he
  · simp at he
  · rename_i h0
    simp at he; subst he
    exact h h0
theorem xdel_skipI {b x : Nat} {M : List (List Int)} {l : List Ent} (h : x < b ∨ b + M.length < x) : xdel (.mat b (mi M) :: l) x = .mat b (mi M) :: xdel l x := by
  rw [xdel, if_pos (by rw [mi_length]; exact h)]
theorem gr_weight {M : List (List Int)} {k a b c : Nat} (h : ∀ x y, 0 ≤ usedT (grTo M k) x y) :
    ∃ W : Nat → Int, W 0 = mn2 (mn2 (absI (mat M a b)) (absI (mat M a c))) (absI (mat M b c)) ∧ W 1 = mn2 (W 0) (absI (mat M a b) - usedT (grTo M k) a b) ∧ W 2 = mn2 (W 1) (absI (mat M a c) - usedT (grTo M k) a c) ∧ W 3 = mn2 (W 2) (absI (mat M b c) - usedT (grTo M k) b c) ∧ W 3 = gw M (grTo M k) a b c := by
  have h1 := h a b
  have h2 := h a c
  have h3 := h b c
  refine ⟨fun j => match j with
    | 0 => mn2 (mn2 (absI (mat M a b)) (absI (mat M a c))) (absI (mat M b c))
    | 1 => mn2 (mn2 (mn2 (absI (mat M a b)) (absI (mat M a c))) (absI (mat M b c))) (absI (mat M a b) - usedT (grTo M k) a b)
    | 2 => mn2 (mn2 (mn2 (mn2 (absI (mat M a b)) (absI (mat M a c))) (absI (mat M b c))) (absI (mat M a b) - usedT (grTo M k) a b)) (absI (mat M a c) - usedT (grTo M k) a c)
    | _ => mn2 (mn2 (mn2 (mn2 (mn2 (absI (mat M a b)) (absI (mat M a c))) (absI (mat M b c))) (absI (mat M a b) - usedT (grTo M k) a b)) (absI (mat M a c) - usedT (grTo M k) a c)) (absI (mat M b c) - usedT (grTo M k) b c), rfl, rfl, rfl, rfl, ?_⟩
  simp only [gw, mn2_min]
  omega

set_option maxRecDepth 20000 in
set_option maxHeartbeats 16000000 in
theorem Try.implGr_f (M : List (List Int)) (hM : M.length ≤ 1048576) (hR : ∀ i, i < M.length → (mrow M i).length ≤ 1048576) : FCall Try.prog 17 [rr M] (ResT (gr M)) := by
  have w1 := Try.implBadT_ok M hM hR
  have hT := badT_len M
  have lT := encL_length (enc := tri4) (z := 4) tri4_z (badT M)
  refine FCall.of_body Try.func17 rfl (by kernel_rfl) (by simp [Try.ntmps17]) ?_
  refine SW_of_vc Try.mixed _ _ _ (by kernel_rfl) ?_
  simp (disch := omega) only [Try.ntmps17, Try.results17, go_sem, rr_eq, rt]
  refine (Try.square_one M.length hM).callMat (mi_vals _) 0 (viewL_cons_of (view_int) viewL_nil_of) ?_
  simp (disch := omega) only [Try.ntmps17, Try.results17, go_sem, rr_eq, rt, zs_length]
  refine w1.callV 0 (viewL_cons_of (view_row) viewL_nil_of) ?_
  simp (disch := omega) only [Try.ntmps17, Try.results17, go_sem, rr_eq, rt, zs_length]
  refine LoopW.loop (fun p : Nat × List (List Int) × Nat × Nat => ⟨ofL [(0, rr M), (3, slT p.2.2.1 (grTo M p.1)), (4, .own 0 0 M.length M.length 1 false), (15, rt (badT M)), (16, .val (.int .i64 (badT M).length)), (17, .val (.int .i64 p.1))], hx (.mat 0 (mi p.2.1) :: slTX p.2.2.1 (grTo M p.1)) p.2.2.2⟩)
    (fun p => p.1 ≤ (badT M).length ∧ SqI M.length p.2.1 ∧ M.length < p.2.2.2 ∧ ((grTo M p.1).length ≠ 0 → M.length < p.2.2.1 ∧ p.2.2.1 < p.2.2.2) ∧ (∀ x y, mat p.2.1 x y = usedT (grTo M p.1) x y)) (fun p => (badT M).length - p.1) (0, zs M.length, 0, M.length + 1)
    ⟨by simp, .zs _, by simp, fun h => absurd rfl h, fun x y => by rw [zs_at]; rfl⟩
    (Wk.ofX (by simp only [go_sem, ↓List.forall_mem_cons, List.not_mem_nil, false_implies, implies_true, and_true, true_and, and_self, ri_eq, Int.natCast_add, Int.cast_ofNat_Int, rr_eq, rt, slT_t (T := grTo M 0) rfl]; try simp) (by simp only [List.forall_mem_cons]; exact ⟨.self, by simp [slTX, grTo]⟩) (Nat.le_refl _)) ?_
  rintro ⟨k, U, ob, nb⟩ ⟨hk, hU, hnb, hob, hused⟩
  simp only at hk hU hnb hob hused
  refine SW_of_vc Try.mixed _ _ _ (by kernel_rfl) ?_
  by_cases hlt : k < (badT M).length
  case neg =>
    have hkl : k = (badT M).length := by omega
    subst hkl
    have hU1 := hU.1
    simp (disch := omega) only [Try.ntmps17, Try.results17, go_sem, rr_eq, rt]
    exact fin_slT (fun h => by
      obtain ⟨o1, o2⟩ := hob h
      show xmap _ ob = _
      rw [xmap_skipI (by omega)]
      exact slTX_map (T := grTo M (badT M).length) h)
  obtain ⟨a, b, c, ht, hab, hbc, hcn⟩ := badT_at hlt
  have hw := (badT_mem (M := M) (t := tg (badT M) k) (by rw [tg_get hlt]; exact List.getElem_mem _)).1
  obtain ⟨_, _, _, _, q⟩ := tri_of hlt ht
  obtain ⟨i1, i2, i3⟩ := grTo_inv k hk
  have hgl := grTo_len M k
  have hsl := hw.1.2
  have hput := grTo_put ht
  have hskip := grTo_skip ht
  obtain ⟨W, hW0, hW1, hW2, hW3, hWg⟩ := gr_weight (M := M) (k := k) (a := a) (b := b) (c := c) i1
  rw [← hW0] at ht q
  rw [← hWg] at hput hskip
  simp only [← hused] at hW1 hW2 hW3
  have w5 := fun w => Try.pairs_ok a b c w
  have hU1 := hU.1
  have hMle : ∀ x y, x < M.length → y < M.length → absI (mat M x y) ≤ 1000 := fun x y hx hy => absI_le hw hx hy
  have hnn : ∀ x y, 0 ≤ mat U x y := fun x y => by rw [hused]; exact i1 x y
  have hle : ∀ x y, x < y → y < M.length → mat U x y ≤ absI (mat M x y) := fun x y h1 h2 => by rw [hused]; exact i2 x y h1 h2
  have hwle : W 3 ≤ absI (mat M a b) - mat U a b ∧ W 3 ≤ absI (mat M a c) - mat U a c ∧ W 3 ≤ absI (mat M b c) - mat U b c := by
    have := gw_le (M := M) (R := grTo M k) (a := a) (b := b) (c := c) i1
    rw [hWg]; simpa only [hused] using this
  simp (disch := omega) only [Try.ntmps17, Try.results17, go_sem, rr_eq, rt, lT, q, rep4c]
  refine (w5 (W 0)).callV 1 (viewL_cons_of view_tri viewL_nil_of) ?_
  simp (disch := omega) only [Try.ntmps17, Try.results17, go_sem, rr_eq, rt, lT, q]
  refine LoopW.loop (fun p : Nat × Nat => ⟨ofL [(0, rr M), (3, slT ob (grTo M k)), (4, .own 0 0 M.length M.length 1 false), (6, .optr nb 0), (15, rt (badT M)), (16, .val (.int .i64 (badT M).length)), (17, .val (.int .i64 k)), (22, .agg [.val (.int .i64 a), .val (.int .i64 b), .val (.int .i64 a), .val (.int .i64 c), .val (.int .i64 b), .val (.int .i64 c)]), (23, .val (.int .i64 p.1))],
      hx (.blk nb ⟨[.val (.int .i64 a), .val (.int .i64 b), .val (.int .i64 c), .val (.int .i64 (W p.1))], true⟩ :: .mat 0 (mi U) :: slTX ob (grTo M k)) p.2⟩)
    (fun p => p.1 ≤ 3 ∧ nb < p.2) (fun p => 3 - p.1) (0, nb + 1) ⟨by simp, by simp⟩
    (Wk.ofX (by simp only [go_sem, ↓List.forall_mem_cons, List.not_mem_nil, false_implies, implies_true, and_true, true_and, and_self, ri_eq, Int.natCast_add, Int.cast_ofNat_Int, rr_eq, rt]; try simp) (by
      simp only [List.forall_mem_cons]
      refine ⟨by simp [EntIn, hx_map, xmap_blk], EntIn.self.skipM (by simp only [mi_length]; omega), slTX_in fun h => ?_⟩
      obtain ⟨o1, o2⟩ := hob h
      show xmap _ ob = _
      rw [xmap_blk, if_neg (by omega), xmap_skipI (by omega), slTX_map h]) (Nat.le_refl _)) ?_
  rintro ⟨j, nb2⟩ ⟨hj, hnb2⟩
  simp only at hj hnb2
  refine SW_of_vc Try.mixed _ _ _ (by kernel_rfl) ?_
  rcases (by omega : j = 0 ∨ j = 1 ∨ j = 2 ∨ j = 3) with rfl | rfl | rfl | rfl
  · have rM := hw.2.1 a (by omega)
    have gM : (ints (mrow M a))[b]? = some (.val (.int .i64 (mat M a b))) := ints_get' rM (by omega)
    have rU := hU.2 a (by omega)
    have gU : (ints (mrow U a))[b]? = some (.val (.int .i64 (mat U a b))) := ints_get' rU (by omega)
    have u1 := hnn a b
    have u2 := hle a b (by omega) (by omega)
    have m1 := hMle a b (by omega) (by omega)
    have wab := Try.absolute_ok (mat M a b) (by have := (hw.2.2.1 a b (by omega) (by omega)).1; omega) (by have := (hw.2.2.1 a b (by omega) (by omega)).1; omega)
    clear i1 i2 i3 hused hMle hnn hle hwle hW0 hput hskip hWg w1 w5 hW2 hW3
    generalize absI (mat M a b) = am at *
    generalize mat M a b = mm at *
    generalize mat U a b = u at *
    simp (disch := omega) only [Try.ntmps17, Try.results17, go_sem, rr_eq, rt, xmap_skipI, xmap_rowI, outerB_getI, rU, gU, hU1, rows_get, rM, gM]
    refine wab.callDV 0 (viewL_cons_of (view_int) viewL_nil_of) ?_
    simp (disch := omega) only [Try.ntmps17, Try.results17, go_sem, rr_eq, rt, xmap_skipI, xmap_rowI, outerB_getI, rU, gU, hU1, rows_get, rM, gM, ite_mn2]
    refine ⟨(1, nb2 + 1), ⟨by simp, by show nb < nb2 + 1; omega⟩, by simp, ?_⟩
    refine Wk.ofX (by simp only [go_sem, ↓List.forall_mem_cons, List.not_mem_nil, false_implies, implies_true, and_true, true_and, and_self, ri_eq, Int.natCast_add, Int.cast_ofNat_Int, rr_eq, rt]; try simp) ?_ (Nat.le_refl _)
    simp only [List.forall_mem_cons]
    refine ⟨?_, ?_, slTX_in fun h => ?_⟩
    · simp (disch := omega) only [EntIn, hx_map, xmap_blk, if_pos, if_neg, ↓reduceIte, hW1]
    · exact (EntIn.self.skipM (by simp only [mi_length]; omega)).skipM (by simp only [mi_length]; omega)
    · obtain ⟨o1, o2⟩ := hob h
      show xmap _ ob = _
      rw [xmap_blk, if_neg (by omega), xmap_blk, if_neg (by omega), xmap_skipI (by omega), slTX_map h]
  · have rM := hw.2.1 a (by omega)
    have gM : (ints (mrow M a))[c]? = some (.val (.int .i64 (mat M a c))) := ints_get' rM (by omega)
    have rU := hU.2 a (by omega)
    have gU : (ints (mrow U a))[c]? = some (.val (.int .i64 (mat U a c))) := ints_get' rU (by omega)
    have u1 := hnn a c
    have u2 := hle a c (by omega) (by omega)
    have m1 := hMle a c (by omega) (by omega)
    have wab := Try.absolute_ok (mat M a c) (by have := (hw.2.2.1 a c (by omega) (by omega)).1; omega) (by have := (hw.2.2.1 a c (by omega) (by omega)).1; omega)
    clear i1 i2 i3 hused hMle hnn hle hwle hW0 hput hskip hWg w1 w5 hW1 hW3
    generalize absI (mat M a c) = am at *
    generalize mat M a c = mm at *
    generalize mat U a c = u at *
    simp (disch := omega) only [Try.ntmps17, Try.results17, go_sem, rr_eq, rt, xmap_skipI, xmap_rowI, outerB_getI, rU, gU, hU1, rows_get, rM, gM]
    refine wab.callDV 0 (viewL_cons_of (view_int) viewL_nil_of) ?_
    simp (disch := omega) only [Try.ntmps17, Try.results17, go_sem, rr_eq, rt, xmap_skipI, xmap_rowI, outerB_getI, rU, gU, hU1, rows_get, rM, gM, ite_mn2]
    refine ⟨(2, nb2 + 1), ⟨by simp, by show nb < nb2 + 1; omega⟩, by simp, ?_⟩
    refine Wk.ofX (by simp only [go_sem, ↓List.forall_mem_cons, List.not_mem_nil, false_implies, implies_true, and_true, true_and, and_self, ri_eq, Int.natCast_add, Int.cast_ofNat_Int, rr_eq, rt]; try simp) ?_ (Nat.le_refl _)
    simp only [List.forall_mem_cons]
    refine ⟨?_, ?_, slTX_in fun h => ?_⟩
    · simp (disch := omega) only [EntIn, hx_map, xmap_blk, if_pos, if_neg, ↓reduceIte, hW2]
    · exact (EntIn.self.skipM (by simp only [mi_length]; omega)).skipM (by simp only [mi_length]; omega)
    · obtain ⟨o1, o2⟩ := hob h
      show xmap _ ob = _
      rw [xmap_blk, if_neg (by omega), xmap_blk, if_neg (by omega), xmap_skipI (by omega), slTX_map h]
  · have rM := hw.2.1 b (by omega)
    have gM : (ints (mrow M b))[c]? = some (.val (.int .i64 (mat M b c))) := ints_get' rM (by omega)
    have rU := hU.2 b (by omega)
    have gU : (ints (mrow U b))[c]? = some (.val (.int .i64 (mat U b c))) := ints_get' rU (by omega)
    have u1 := hnn b c
    have u2 := hle b c (by omega) (by omega)
    have m1 := hMle b c (by omega) (by omega)
    have wab := Try.absolute_ok (mat M b c) (by have := (hw.2.2.1 b c (by omega) (by omega)).1; omega) (by have := (hw.2.2.1 b c (by omega) (by omega)).1; omega)
    clear i1 i2 i3 hused hMle hnn hle hwle hW0 hput hskip hWg w1 w5 hW1 hW2
    generalize absI (mat M b c) = am at *
    generalize mat M b c = mm at *
    generalize mat U b c = u at *
    simp (disch := omega) only [Try.ntmps17, Try.results17, go_sem, rr_eq, rt, xmap_skipI, xmap_rowI, outerB_getI, rU, gU, hU1, rows_get, rM, gM]
    refine wab.callDV 0 (viewL_cons_of (view_int) viewL_nil_of) ?_
    simp (disch := omega) only [Try.ntmps17, Try.results17, go_sem, rr_eq, rt, xmap_skipI, xmap_rowI, outerB_getI, rU, gU, hU1, rows_get, rM, gM, ite_mn2]
    refine ⟨(3, nb2 + 1), ⟨by simp, by show nb < nb2 + 1; omega⟩, by simp, ?_⟩
    refine Wk.ofX (by simp only [go_sem, ↓List.forall_mem_cons, List.not_mem_nil, false_implies, implies_true, and_true, true_and, and_self, ri_eq, Int.natCast_add, Int.cast_ofNat_Int, rr_eq, rt]; try simp) ?_ (Nat.le_refl _)
    simp only [List.forall_mem_cons]
    refine ⟨?_, ?_, slTX_in fun h => ?_⟩
    · simp (disch := omega) only [EntIn, hx_map, xmap_blk, if_pos, if_neg, ↓reduceIte, hW3]
    · exact (EntIn.self.skipM (by simp only [mi_length]; omega)).skipM (by simp only [mi_length]; omega)
    · obtain ⟨o1, o2⟩ := hob h
      show xmap _ ob = _
      rw [xmap_blk, if_neg (by omega), xmap_blk, if_neg (by omega), xmap_skipI (by omega), slTX_map h]
  · clear hW0 hW1 hW2 hW3 w1
    by_cases hpos : 0 < W 3
    case neg =>
      replace hskip := hskip hpos
      generalize W 3 = w at *
      simp (disch := omega) only [Try.ntmps17, Try.results17, go_sem, rr_eq, rt]
      refine ⟨(k + 1, U, ob, nb2), ⟨hlt, hU, by show M.length < nb2; omega, fun h => ?_, fun x y => ?_⟩, by show (badT M).length - (k + 1) < (badT M).length - k; omega, ?_⟩
      · rw [hskip] at h; have := hob h; exact ⟨this.1, by show ob < nb2; omega⟩
      · show mat U x y = usedT (grTo M (k + 1)) x y
        rw [hskip]; exact hused x y
      · refine Wk.ofX (by simp only [go_sem, ↓List.forall_mem_cons, List.not_mem_nil, false_implies, implies_true, and_true, true_and, and_self, ri_eq, Int.natCast_add, Int.cast_ofNat_Int, rr_eq, rt, hskip]; try simp) ?_ (Nat.le_refl _)
        simp only [List.forall_mem_cons]
        rw [hskip]
        refine ⟨EntIn.self.skipM (by simp only [mi_length]; omega), slTX_in fun h => ?_⟩
        obtain ⟨o1, o2⟩ := hob h
        show xmap _ ob = _
        rw [xmap_blk, if_neg (by omega), xmap_skipI (by omega), slTX_map h]
    replace hput := hput hpos
    clear hskip hWg
    generalize W 3 = w at *
    simp (disch := omega) only [Try.ntmps17, Try.results17, go_sem, rr_eq, rt]
    refine (w5 w).callV 1 (viewL_cons_of view_tri viewL_nil_of) ?_
    simp (disch := omega) only [Try.ntmps17, Try.results17, go_sem, rr_eq, rt]
    refine LoopW.loop (fun p : Nat × Nat => ⟨ofL [(0, rr M), (3, slT ob (grTo M k)), (4, .own 0 0 M.length M.length 1 false), (6, .optr nb 0), (15, rt (badT M)), (16, .val (.int .i64 (badT M).length)), (17, .val (.int .i64 k)), (55, .agg [.val (.int .i64 a), .val (.int .i64 b), .val (.int .i64 a), .val (.int .i64 c), .val (.int .i64 b), .val (.int .i64 c)]), (56, .val (.int .i64 p.1))],
        hx (.blk nb ⟨[.val (.int .i64 a), .val (.int .i64 b), .val (.int .i64 c), .val (.int .i64 w)], true⟩ :: .mat 0 (mi (U3 U a b c w p.1)) :: slTX ob (grTo M k)) p.2⟩)
      (fun p => p.1 ≤ 3 ∧ nb < p.2) (fun p => 3 - p.1) (0, nb2) ⟨by simp, hnb2⟩
      (Wk.ofX (by simp only [go_sem, ↓List.forall_mem_cons, List.not_mem_nil, false_implies, implies_true, and_true, true_and, and_self, ri_eq, Int.natCast_add, Int.cast_ofNat_Int, rr_eq, rt]; try simp) (by
        simp only [List.forall_mem_cons]
        refine ⟨by simp [EntIn, hx_map, xmap_blk], EntIn.self.skipM (by simp only [mi_length, U3_0]; omega), slTX_in fun h => ?_⟩
        obtain ⟨o1, o2⟩ := hob h
        show xmap _ ob = _
        rw [xmap_blk, if_neg (by omega), xmap_skipI (by omega), slTX_map h]) (Nat.le_refl _)) ?_
    rintro ⟨j, nb3⟩ ⟨hj, hnb3⟩
    simp only at hj hnb3
    have hsq := fun j => U3_sq hU a b c w j
    have ke := U3_end hU hab hbc hcn w
    refine SW_of_vc Try.mixed _ _ _ (by kernel_rfl) ?_
    rcases (by omega : j = 0 ∨ j = 1 ∨ j = 2 ∨ j = 3) with rfl | rfl | rfl | rfl
    · have hV := hsq 0
      have hv : mat (U3 U a b c w 0) a b = mat U a b := rfl
      have hnext := U3_1 U a b c w
      have hU1 := hnn a b
      have hU2 := hle a b (by omega) (by omega)
      have hm1 := hMle a b (by omega) (by omega)
      generalize U3 U a b c w 0 = V at *
      have hV1 := hV.1
      have rV := hV.2 a (by omega)
      have gV : (ints (mrow V a))[b]? = some (.val (.int .i64 (mat V a b))) := ints_get' rV (by omega)
      rw [hv] at gV
      have hend : ∀ nb4, EntIn (hx (.blk nb3 ⟨[.val (.int .i64 a), .val (.int .i64 b)], true⟩ :: .blk nb ⟨[.val (.int .i64 a), .val (.int .i64 b), .val (.int .i64 c), .val (.int .i64 w)], true⟩ :: .mat 0 (mi (mset V a b (mat U a b + w))) :: slTX ob (grTo M k)) nb4) (.mat 0 (mi (mset V a b (mat U a b + w)))) := fun nb4 => (EntIn.self.skipM (by simp only [mi_length, mset_length]; omega)).skipM (by simp only [mi_length, mset_length]; omega)
      clear ke hused hv hle hnn i1 i2 i3 hput w5 hsq
      generalize absI (mat M a b) = am at *
      generalize mat U a b = u at *
      simp (disch := omega) only [Try.ntmps17, Try.results17, go_sem, rr_eq, rt, xmap_skipI, xmap_rowI, xset_rowI, outerB_getI, rV, gV, hV1, rows_get]
      refine ⟨(1, nb3 + 1), ⟨by simp, by show nb < nb3 + 1; omega⟩, by simp, ?_⟩
      refine Wk.ofX (by simp only [go_sem, ↓List.forall_mem_cons, List.not_mem_nil, false_implies, implies_true, and_true, true_and, and_self, ri_eq, Int.natCast_add, Int.cast_ofNat_Int, rr_eq, rt]; try simp) ?_ (Nat.le_refl _)
      simp only [List.forall_mem_cons]
      refine ⟨?_, ?_, slTX_in fun h => ?_⟩
      · simp (disch := omega) only [EntIn, hx_map, xmap_blk, if_pos, if_neg, ↓reduceIte]
      · rw [hnext]; exact hend _
      · obtain ⟨o1, o2⟩ := hob h
        show xmap _ ob = _
        rw [xmap_blk, if_neg (by omega), xmap_blk, if_neg (by omega), xmap_skipI (by rw [mset_length]; omega), slTX_map h]
    · have hV := hsq 1
      have hv : mat (U3 U a b c w 1) a c = mat U a c := U3_a1 hU hab hbc hcn w
      have hnext := U3_2 U a b c w
      have hU1 := hnn a c
      have hU2 := hle a c (by omega) (by omega)
      have hm1 := hMle a c (by omega) (by omega)
      generalize U3 U a b c w 1 = V at *
      have hV1 := hV.1
      have rV := hV.2 a (by omega)
      have gV : (ints (mrow V a))[c]? = some (.val (.int .i64 (mat V a c))) := ints_get' rV (by omega)
      rw [hv] at gV
      have hend : ∀ nb4, EntIn (hx (.blk nb3 ⟨[.val (.int .i64 a), .val (.int .i64 c)], true⟩ :: .blk nb ⟨[.val (.int .i64 a), .val (.int .i64 b), .val (.int .i64 c), .val (.int .i64 w)], true⟩ :: .mat 0 (mi (mset V a c (mat U a c + w))) :: slTX ob (grTo M k)) nb4) (.mat 0 (mi (mset V a c (mat U a c + w)))) := fun nb4 => (EntIn.self.skipM (by simp only [mi_length, mset_length]; omega)).skipM (by simp only [mi_length, mset_length]; omega)
      clear ke hused hv hle hnn i1 i2 i3 hput w5 hsq
      generalize absI (mat M a c) = am at *
      generalize mat U a c = u at *
      simp (disch := omega) only [Try.ntmps17, Try.results17, go_sem, rr_eq, rt, xmap_skipI, xmap_rowI, xset_rowI, outerB_getI, rV, gV, hV1, rows_get]
      refine ⟨(2, nb3 + 1), ⟨by simp, by show nb < nb3 + 1; omega⟩, by simp, ?_⟩
      refine Wk.ofX (by simp only [go_sem, ↓List.forall_mem_cons, List.not_mem_nil, false_implies, implies_true, and_true, true_and, and_self, ri_eq, Int.natCast_add, Int.cast_ofNat_Int, rr_eq, rt]; try simp) ?_ (Nat.le_refl _)
      simp only [List.forall_mem_cons]
      refine ⟨?_, ?_, slTX_in fun h => ?_⟩
      · simp (disch := omega) only [EntIn, hx_map, xmap_blk, if_pos, if_neg, ↓reduceIte]
      · rw [hnext]; exact hend _
      · obtain ⟨o1, o2⟩ := hob h
        show xmap _ ob = _
        rw [xmap_blk, if_neg (by omega), xmap_blk, if_neg (by omega), xmap_skipI (by rw [mset_length]; omega), slTX_map h]
    · have hV := hsq 2
      have hv : mat (U3 U a b c w 2) b c = mat U b c := U3_a2 hU hab hbc hcn w
      have hnext := U3_3 U a b c w
      have hU1 := hnn b c
      have hU2 := hle b c (by omega) (by omega)
      have hm1 := hMle b c (by omega) (by omega)
      generalize U3 U a b c w 2 = V at *
      have hV1 := hV.1
      have rV := hV.2 b (by omega)
      have gV : (ints (mrow V b))[c]? = some (.val (.int .i64 (mat V b c))) := ints_get' rV (by omega)
      rw [hv] at gV
      have hend : ∀ nb4, EntIn (hx (.blk nb3 ⟨[.val (.int .i64 b), .val (.int .i64 c)], true⟩ :: .blk nb ⟨[.val (.int .i64 a), .val (.int .i64 b), .val (.int .i64 c), .val (.int .i64 w)], true⟩ :: .mat 0 (mi (mset V b c (mat U b c + w))) :: slTX ob (grTo M k)) nb4) (.mat 0 (mi (mset V b c (mat U b c + w)))) := fun nb4 => (EntIn.self.skipM (by simp only [mi_length, mset_length]; omega)).skipM (by simp only [mi_length, mset_length]; omega)
      clear ke hused hv hle hnn i1 i2 i3 hput w5 hsq
      generalize absI (mat M b c) = am at *
      generalize mat U b c = u at *
      simp (disch := omega) only [Try.ntmps17, Try.results17, go_sem, rr_eq, rt, xmap_skipI, xmap_rowI, xset_rowI, outerB_getI, rV, gV, hV1, rows_get]
      refine ⟨(3, nb3 + 1), ⟨by simp, by show nb < nb3 + 1; omega⟩, by simp, ?_⟩
      refine Wk.ofX (by simp only [go_sem, ↓List.forall_mem_cons, List.not_mem_nil, false_implies, implies_true, and_true, true_and, and_self, ri_eq, Int.natCast_add, Int.cast_ofNat_Int, rr_eq, rt]; try simp) ?_ (Nat.le_refl _)
      simp only [List.forall_mem_cons]
      refine ⟨?_, ?_, slTX_in fun h => ?_⟩
      · simp (disch := omega) only [EntIn, hx_map, xmap_blk, if_pos, if_neg, ↓reduceIte]
      · rw [hnext]; exact hend _
      · obtain ⟨o1, o2⟩ := hob h
        show xmap _ ob = _
        rw [xmap_blk, if_neg (by omega), xmap_blk, if_neg (by omega), xmap_skipI (by rw [mset_length]; omega), slTX_map h]
    · have hV := hsq 3
      have hV1 := hV.1
      have lG := encL_length (enc := tri4) (z := 4) tri4_z (grTo M k)
      have tG := encL_take_self (enc := tri4) (z := 4) tri4_z (grTo M k)
      have ts := tri_snoc (grTo M k) a b c w
      rw [← hput] at ts
      have l2 : (grTo M (k + 1)).length = (grTo M k).length + 1 := by rw [hput, List.length_append]; rfl
      have eS : ∀ b, slT b (grTo M (k + 1)) = .own b 0 ((grTo M k).length + 1) ((grTo M k).length + 1) 4 false := fun b => by rw [hput, slT_snoc]
      clear i1 i2 i3 hle hnn hMle hwle w5 hsq
      by_cases hz : (grTo M k).length = 0
      · have eC := slT_t (b := ob) hz
        have eX := slTX_t (b := ob) hz
        have hT0 : grTo M k = [] := List.length_eq_zero_iff.1 hz
        simp only [hT0, encL_nil, List.nil_append, List.length_nil, Nat.zero_add] at ts l2
        simp (disch := omega) only [Try.ntmps17, Try.results17, go_sem, rr_eq, rt, eC, eX, rep4c, xmap_skipI, xdel_skipI]
        refine ⟨(k + 1, U3 U a b c w 3, nb3 + 1, nb3 + 1 + 1), ⟨hlt, hV, by show M.length < nb3 + 1 + 1; omega, fun _ => ⟨by show M.length < nb3 + 1; omega, by show nb3 + 1 < nb3 + 1 + 1; omega⟩, fun x y => ?_⟩, by show (badT M).length - (k + 1) < (badT M).length - k; omega, ?_⟩
        · show mat (U3 U a b c w 3) x y = usedT (grTo M (k + 1)) x y
          rw [ke, hput, usedT_snoc, hused]
        · refine Wk.ofX (by simp only [go_sem, ↓List.forall_mem_cons, List.not_mem_nil, false_implies, implies_true, and_true, true_and, and_self, ri_eq, Int.natCast_add, Int.cast_ofNat_Int, rr_eq, rt, eS, l2, hz, Nat.zero_add]; try simp) ?_ (Nat.le_refl _)
          simp only [List.forall_mem_cons]
          refine ⟨?_, slTX_in fun h => ?_⟩
          · show EntIn _ (.mat 0 (mi (U3 U a b c w 3)))
            have hl3 : (mi (U3 U a b c w 3)).length = M.length := by rw [mi_length, hV1]
            refine EntIn.skipM (EntIn.skipM (EntIn.skipM EntIn.self ?_) ?_) ?_ <;> omega
          · show xmap _ _ = _
            rw [← ts]
            simp (disch := omega) only [xmap_blk, if_pos, if_neg, ↓reduceIte]
      · have eC := slT_f (b := ob) hz
        have eX := slTX_f (b := ob) hz
        obtain ⟨o1, o2⟩ := hob hz
        skip
        simp (disch := omega) only [Try.ntmps17, Try.results17, go_sem, rr_eq, rt, eC, eX, rep4c, lG, tG, ts, xmap_skipI, xdel_skipI]
        refine ⟨(k + 1, U3 U a b c w 3, nb3 + 1, nb3 + 1 + 1), ⟨hlt, hV, by show M.length < nb3 + 1 + 1; omega, fun _ => ⟨by show M.length < nb3 + 1; omega, by show nb3 + 1 < nb3 + 1 + 1; omega⟩, fun x y => ?_⟩, by show (badT M).length - (k + 1) < (badT M).length - k; omega, ?_⟩
        · show mat (U3 U a b c w 3) x y = usedT (grTo M (k + 1)) x y
          rw [ke, hput, usedT_snoc, hused]
        · refine Wk.ofX (by simp only [go_sem, ↓List.forall_mem_cons, List.not_mem_nil, false_implies, implies_true, and_true, true_and, and_self, ri_eq, Int.natCast_add, Int.cast_ofNat_Int, rr_eq, rt, eS, l2]; try simp) ?_ (Nat.le_refl _)
          simp only [List.forall_mem_cons]
          refine ⟨?_, slTX_in fun h => ?_⟩
          · show EntIn _ (.mat 0 (mi (U3 U a b c w 3)))
            have hl3 : (mi (U3 U a b c w 3)).length = M.length := by rw [mi_length, hV1]
            refine EntIn.skipM (EntIn.skipM (EntIn.skipM EntIn.self ?_) ?_) ?_ <;> omega
          · show xmap _ _ = _
            skip
            simp (disch := omega) only [xmap_blk, if_pos, if_neg, ↓reduceIte]
theorem gr_len (M : List (List Int)) : (gr M).length ≤ 512 := Nat.le_trans (grTo_len M _) (badT_len M)
theorem Try.implGr_n (M : List (List Int)) (hM : M.length ≤ 1048576) (hR : ∀ i, i < M.length → (mrow M i).length ≤ 1048576) (hz : (gr M).length = 0) : FCall Try.prog 17 [rr M] (fun r _ => r = .val (.slice none 0 0)) :=
  (Try.implGr_f M hM hR).mono fun _ _ h => h.1 hz
theorem Try.implGr_o (M : List (List Int)) (hM : M.length ≤ 1048576) (hR : ∀ i, i < M.length → (mrow M i).length ≤ 1048576) (hz : (gr M).length ≠ 0) : FCall Try.prog 17 [rr M] (OneRes (gr M).length 4 (encL tri4 (gr M))) :=
  ((Try.implGr_f M hM hR).mono fun _ _ h => h.2 hz).one
theorem Try.implGr_ok (M : List (List Int)) (hM : M.length ≤ 1048576) (hR : ∀ i, i < M.length → (mrow M i).length ≤ 1048576) : PCall Try.prog 17 [rr M] (rt (gr M)) := by
  by_cases hz : (gr M).length = 0
  · have e : gr M = [] := List.length_eq_zero_iff.1 hz
    rw [e]
    exact (Try.implGr_n M hM hR hz).pcall 0 (by rintro r H rfl; exact view_nilT)
  · exact (Try.implGr_o M hM hR hz).pcall 2 (fun _ _ h => one_viewT h rfl)
end Go.Sh

/-
  Is a list of triangles a packing, and its bound? Of the reference and of the program.
-/
namespace Go.Sh
set_option linter.unusedSimpArgs false
set_option linter.unusedVariables false
open Go Go.Proofs

set_option maxRecDepth 20000 in
set_option maxHeartbeats 8000000 in
theorem Try.specPack_ok (M : List (List Int)) (T : List Tri) (hM : M.length ≤ 1048576) (hR : ∀ i, i < M.length → (mrow M i).length ≤ 1048576) (hT : T.length ≤ 1048576) : PCall Try.prog 13 [rr M, rt T] (.val (.bool (isPk M T))) := by
  refine FCall.pcall (R := fun r _ => r = .val (.bool (isPk M T))) ?_ 0 (by rintro r H rfl; exact view_bool)
  have w1 := Try.specIsWM_ok M hM hR
  have lT := encL_length (enc := tri4) (z := 4) tri4_z T
  refine FCall.of_body Try.func13 rfl (by kernel_rfl) (by simp [Try.ntmps13]) ?_
  refine SW_of_vc Try.mixed _ _ _ (by kernel_rfl) ?_
  simp (disch := omega) only [Try.ntmps13, Try.results13, go_sem, rr_eq, rt]
  refine LoopW.loop (fun k : Nat => ⟨ofL [(0, rr M), (1, rt T), (5, .val (.int .i64 k))], hp [] 0⟩)
    (fun k => k ≤ T.length ∧ ∀ i, i < k → isBT M (tg T i).1 (tg T i).2.1 (tg T i).2.2.1 = true ∧ 1 ≤ (tg T i).2.2.2 ∧ (tg T i).2.2.2 ≤ 1000) (fun k => T.length - k) 0 ⟨by simp, fun i h => by simp at h⟩ (Wk.of (by simp only [go_sem, ↓List.forall_mem_cons, List.not_mem_nil, false_implies, implies_true, and_true, true_and, and_self, ri_eq, Int.natCast_add, Int.cast_ofNat_Int, rr_eq, rt]; try simp) rfl) ?_
  rintro k ⟨hk, hok⟩
  refine SW_of_vc Try.mixed _ _ _ (by kernel_rfl) ?_
  by_cases hlt : k < T.length
  · obtain ⟨a, b, c, w, ht⟩ := tri_ex T k
    obtain ⟨q0, q1, q2, q3, _⟩ := tri_of hlt ht
    have hbad : ¬ (isBT M a b c = true ∧ 1 ≤ w ∧ w ≤ 1000) → isPk M T = false := fun h => isPk_f fun g => h (by have := g.2.2.1 k hlt; rw [ht] at this; exact this)
    have w2 := Try.specIsBT_ok M a b c hM hR
    have w3 := Try.l1In_ok w 1 1000
    have hnew : isBT M a b c = true → 1 ≤ w ∧ w ≤ 1000 → ∀ i, i < k + 1 → isBT M (tg T i).1 (tg T i).2.1 (tg T i).2.2.1 = true ∧ 1 ≤ (tg T i).2.2.2 ∧ (tg T i).2.2.2 ≤ 1000 := fun h1 h2 i hi => by
      rcases Nat.lt_succ_iff_lt_or_eq.1 hi with g | rfl
      · exact hok i g
      · rw [ht]; exact ⟨h1, h2⟩
    rcases Bool.eq_false_or_eq_true (isBT M a b c) with h2 | h2
    · rw [h2] at w2
      rcases Bool.eq_false_or_eq_true (inR w 1 1000) with h3 | h3
      · rw [h3] at w3
        simp (disch := omega) only [Try.ntmps13, Try.results13, go_sem, rr_eq, rt, lT, q0, q1, q2, q3]
        refine w2.callDV 0 (viewL_cons_of (view_row) (viewL_cons_of (view_int) (viewL_cons_of (view_int) (viewL_cons_of (view_int) viewL_nil_of)))) ?_
        simp (disch := omega) only [Try.ntmps13, Try.results13, go_sem, rr_eq, rt, lT, q0, q1, q2, q3]
        refine w3.callDV 0 (viewL_cons_of (view_int) (viewL_cons_of (view_int) (viewL_cons_of (view_int) viewL_nil_of))) ?_
        simp (disch := omega) only [Try.ntmps13, Try.results13, go_sem, rr_eq, rt]
        exact ⟨k + 1, ⟨hlt, hnew h2 (inR_of h3)⟩, by omega, Wk.of (by simp only [go_sem, ↓List.forall_mem_cons, List.not_mem_nil, false_implies, implies_true, and_true, true_and, and_self, ri_eq, Int.natCast_add, Int.cast_ofNat_Int, rr_eq, rt]; try simp) rfl⟩
      · rw [h3] at w3
        simp (disch := omega) only [Try.ntmps13, Try.results13, go_sem, rr_eq, rt, lT, q0, q1, q2, q3]
        refine w2.callDV 0 (viewL_cons_of (view_row) (viewL_cons_of (view_int) (viewL_cons_of (view_int) (viewL_cons_of (view_int) viewL_nil_of)))) ?_
        simp (disch := omega) only [Try.ntmps13, Try.results13, go_sem, rr_eq, rt, lT, q0, q1, q2, q3]
        refine w3.callDV 0 (viewL_cons_of (view_int) (viewL_cons_of (view_int) (viewL_cons_of (view_int) viewL_nil_of))) ?_
        simp (disch := omega) only [Try.ntmps13, Try.results13, go_sem, rr_eq, rt]
        exact Fin.val (by rw [hbad (fun g => inR_not h3 g.2)])
    · rw [h2] at w2
      simp (disch := omega) only [Try.ntmps13, Try.results13, go_sem, rr_eq, rt, lT, q0, q1, q2, q3]
      refine w2.callDV 0 (viewL_cons_of (view_row) (viewL_cons_of (view_int) (viewL_cons_of (view_int) (viewL_cons_of (view_int) viewL_nil_of)))) ?_
      simp (disch := omega) only [Try.ntmps13, Try.results13, go_sem, rr_eq, rt, lT, q0, q1, q2, q3]
      exact Fin.val (by rw [hbad (fun g => by rw [h2] at g; cases g.1)])
  obtain rfl : k = T.length := by omega
  by_cases hw : WM M
  · rw [isWM_t hw] at w1
    have hln := hw.1
    have hwk : wOk T := fun i hi => (hok i hi).2
    simp (disch := omega) only [Try.ntmps13, Try.results13, go_sem, rr_eq, rt]
    refine LoopW.loop (fun x : Nat => ⟨ofL [(0, rr M), (1, rt T), (6, .val (.int .i64 x))], hp [] 0⟩) (fun x => x ≤ M.length ∧ ∀ x' y, x' < x → x' < y → y < M.length → usedT T x' y ≤ absI (mat M x' y)) (fun x => M.length - x) 0 ⟨by simp, fun x y h => by simp at h⟩ (Wk.of (by simp only [go_sem, ↓List.forall_mem_cons, List.not_mem_nil, false_implies, implies_true, and_true, true_and, and_self, ri_eq, Int.natCast_add, Int.cast_ofNat_Int, rr_eq, rt]; try simp) rfl) ?_
    rintro x ⟨hx, hxx⟩
    refine SW_of_vc Try.mixed _ _ _ (by kernel_rfl) ?_
    by_cases hlx : x < M.length
    · simp (disch := omega) only [Try.ntmps13, Try.results13, go_sem, rr_eq, rt]
      refine LoopW.loop (fun y : Nat => ⟨ofL [(0, rr M), (1, rt T), (6, .val (.int .i64 x)), (7, .val (.int .i64 y))], hp [] 0⟩) (fun y => x < y ∧ y ≤ M.length ∧ ∀ y', x < y' → y' < y → usedT T x y' ≤ absI (mat M x y')) (fun y => M.length - y) (x + 1) ⟨by omega, by omega, fun y h1 h2 => by omega⟩ (Wk.of (by simp only [go_sem, ↓List.forall_mem_cons, List.not_mem_nil, false_implies, implies_true, and_true, true_and, and_self, ri_eq, Int.natCast_add, Int.cast_ofNat_Int, rr_eq, rt]; try simp) rfl) ?_
      rintro y ⟨hxy, hy, hyy⟩
      refine SW_of_vc Try.mixed _ _ _ (by kernel_rfl) ?_
      by_cases hly : y < M.length
      · have w4 := Try.l21Used_ok T x y hT hwk
        have ra := hw.2.1 x hlx
        have g1 : (ints (mrow M x))[y]? = some (.val (.int .i64 (mat M x y))) := ints_get' ra hly
        have k1 := (hw.2.2.1 x y hlx hly).1
        have w5 := Try.l21Size_ok (mat M x y) (by omega) (by omega)
        have hfalse : absI (mat M x y) < usedT T x y → isPk M T = false := fun h => isPk_f fun g => by have := g.2.2.2 x y hxy hly; omega
        have hnext : usedT T x y ≤ absI (mat M x y) → ∀ y', x < y' → y' < y + 1 → usedT T x y' ≤ absI (mat M x y') := fun h y' h1 h2 => by
          rcases Nat.lt_succ_iff_lt_or_eq.1 h2 with g | rfl
          · exact hyy y' h1 g
          · exact h
        by_cases hov : absI (mat M x y) < usedT T x y
        · have hfalse2 := hfalse hov
          clear hfalse
          clear hnext
          generalize usedT T x y = u at *
          generalize absI (mat M x y) = am at *
          generalize mat M x y = mm at *
          simp (disch := omega) only [Try.ntmps13, Try.results13, go_sem, rr_eq, rt, rows_get, ra, g1]
          refine w1.callDV 0 (viewL_cons_of (view_row) viewL_nil_of) ?_
          simp (disch := omega) only [Try.ntmps13, Try.results13, go_sem, rr_eq, rt, rows_get, ra, g1]
          refine w4.callDV 0 (viewL_cons_of (view_row) (viewL_cons_of (view_int) (viewL_cons_of (view_int) viewL_nil_of))) ?_
          simp (disch := omega) only [Try.ntmps13, Try.results13, go_sem, rr_eq, rt, rows_get, ra, g1]
          refine w5.callDV 0 (viewL_cons_of (view_int) viewL_nil_of) ?_
          simp (disch := omega) only [Try.ntmps13, Try.results13, go_sem, rr_eq, rt, rows_get, ra, g1]
          exact Fin.val (by rw [hfalse2])
        · have hnext := hnext (by omega)
          clear hfalse
          simp (disch := omega) only [Try.ntmps13, Try.results13, go_sem, rr_eq, rt, rows_get, ra, g1]
          refine w1.callDV 0 (viewL_cons_of (view_row) viewL_nil_of) ?_
          simp (disch := omega) only [Try.ntmps13, Try.results13, go_sem, rr_eq, rt, rows_get, ra, g1]
          refine w4.callDV 0 (viewL_cons_of (view_row) (viewL_cons_of (view_int) (viewL_cons_of (view_int) viewL_nil_of))) ?_
          simp (disch := omega) only [Try.ntmps13, Try.results13, go_sem, rr_eq, rt, rows_get, ra, g1]
          refine w5.callDV 0 (viewL_cons_of (view_int) viewL_nil_of) ?_
          simp (disch := omega) only [Try.ntmps13, Try.results13, go_sem, rr_eq, rt, rows_get, ra, g1]
          exact ⟨y + 1, ⟨by omega, by omega, hnext⟩, by omega, Wk.of (by simp only [go_sem, ↓List.forall_mem_cons, List.not_mem_nil, false_implies, implies_true, and_true, true_and, and_self, ri_eq, Int.natCast_add, Int.cast_ofNat_Int, rr_eq, rt]; try simp) rfl⟩
      · simp (disch := omega) only [Try.ntmps13, Try.results13, go_sem, rr_eq, rt]
        refine ⟨x + 1, ⟨by omega, fun x' y' h1 h2 h3 => ?_⟩, by omega, Wk.of (by simp only [go_sem, ↓List.forall_mem_cons, List.not_mem_nil, false_implies, implies_true, and_true, true_and, and_self, ri_eq, Int.natCast_add, Int.cast_ofNat_Int, rr_eq, rt]; try simp) rfl⟩
        rcases Nat.lt_succ_iff_lt_or_eq.1 h1 with g | rfl
        · exact hxx x' y' g h2 h3
        · exact hyy y' h2 (by omega)
    · by_cases hl : T.length ≤ 100
      · simp (disch := omega) only [Try.ntmps13, Try.results13, go_sem, rr_eq, rt]
        refine w1.callV 0 (viewL_cons_of (view_row) viewL_nil_of) ?_
        simp (disch := omega) only [Try.ntmps13, Try.results13, go_sem, rr_eq, rt]
        exact Fin.val (by rw [isPk_t ⟨hw, hl, hok, fun x' y' h1 h2 => hxx x' y' (by omega) h1 h2⟩])
      · simp (disch := omega) only [Try.ntmps13, Try.results13, go_sem, rr_eq, rt]
        refine w1.callV 0 (viewL_cons_of (view_row) viewL_nil_of) ?_
        simp (disch := omega) only [Try.ntmps13, Try.results13, go_sem, rr_eq, rt]
        exact Fin.val (by rw [isPk_f (fun g => hl g.2.1)])
  · rw [isWM_f hw] at w1
    simp (disch := omega) only [Try.ntmps13, Try.results13, go_sem, rr_eq, rt]
    refine LoopW.loop (fun x : Nat => ⟨ofL [(0, rr M), (1, rt T), (6, .val (.int .i64 x))], hp [] 0⟩) (fun x => x ≤ M.length) (fun x => M.length - x) 0 (by omega) (Wk.of (by simp only [go_sem, ↓List.forall_mem_cons, List.not_mem_nil, false_implies, implies_true, and_true, true_and, and_self, ri_eq, Int.natCast_add, Int.cast_ofNat_Int, rr_eq, rt]; try simp) rfl) ?_
    intro x hx
    refine SW_of_vc Try.mixed _ _ _ (by kernel_rfl) ?_
    by_cases hlx : x < M.length
    · simp (disch := omega) only [Try.ntmps13, Try.results13, go_sem, rr_eq, rt]
      refine LoopW.loop (fun y : Nat => ⟨ofL [(0, rr M), (1, rt T), (6, .val (.int .i64 x)), (7, .val (.int .i64 y))], hp [] 0⟩) (fun y => y ≤ M.length) (fun y => M.length - y) (x + 1) (by omega) (Wk.of (by simp only [go_sem, ↓List.forall_mem_cons, List.not_mem_nil, false_implies, implies_true, and_true, true_and, and_self, ri_eq, Int.natCast_add, Int.cast_ofNat_Int, rr_eq, rt]; try simp) rfl) ?_
      intro y hy
      refine SW_of_vc Try.mixed _ _ _ (by kernel_rfl) ?_
      by_cases hly : y < M.length
      · simp (disch := omega) only [Try.ntmps13, Try.results13, go_sem, rr_eq, rt]
        refine w1.callDV 0 (viewL_cons_of (view_row) viewL_nil_of) ?_
        simp (disch := omega) only [Try.ntmps13, Try.results13, go_sem, rr_eq, rt]
        exact ⟨y + 1, by omega, by omega, Wk.of (by simp only [go_sem, ↓List.forall_mem_cons, List.not_mem_nil, false_implies, implies_true, and_true, true_and, and_self, ri_eq, Int.natCast_add, Int.cast_ofNat_Int, rr_eq, rt]; try simp) rfl⟩
      · simp (disch := omega) only [Try.ntmps13, Try.results13, go_sem, rr_eq, rt]
        exact ⟨x + 1, by omega, by omega, Wk.of (by simp only [go_sem, ↓List.forall_mem_cons, List.not_mem_nil, false_implies, implies_true, and_true, true_and, and_self, ri_eq, Int.natCast_add, Int.cast_ofNat_Int, rr_eq, rt]; try simp) rfl⟩
    · simp (disch := omega) only [Try.ntmps13, Try.results13, go_sem, rr_eq, rt]
      refine w1.callV 0 (viewL_cons_of (view_row) viewL_nil_of) ?_
      simp (disch := omega) only [Try.ntmps13, Try.results13, go_sem, rr_eq, rt]
      exact Fin.val (by rw [isPk_f (fun g => hw g.1)])

def wsum (T : List Tri) (k : Nat) : Int := ((T.take k).map fun t => t.2.2.2).sum
theorem wsum_succ {T : List Tri} {k : Nat} (h : k < T.length) : wsum T (k + 1) = wsum T k + (tg T k).2.2.2 := by
  rw [tg_get h, wsum, List.take_succ_eq_append_getElem h, List.map_append, List.sum_append]
  simp [wsum]
theorem wsum_r {T : List Tri} (h : wOk T) : ∀ k, k ≤ T.length → 0 ≤ wsum T k ∧ wsum T k ≤ 1000 * (k : Int)
  | 0, _ => by simp [wsum]
  | k + 1, hk => by
    have ih := wsum_r h k (by omega)
    have := h k (by omega)
    rw [wsum_succ (by omega)]
    omega
noncomputable def boundOf (M : List (List Int)) (T : List Tri) : Int := if isPk M T = true then wsum T T.length else -1
open Classical in
theorem packP_of {M : List (List Int)} {T : List Tri} (h : isPk M T = true) : packP M T := by
  unfold isPk at h
  exact of_decide_eq_true h
set_option maxHeartbeats 4000000 in
theorem Try.implBound_ok (M : List (List Int)) (T : List Tri) (hM : M.length ≤ 1048576) (hR : ∀ i, i < M.length → (mrow M i).length ≤ 1048576) (hT : T.length ≤ 1048576) : PCall Try.prog 10 [rr M, rt T] (.val (.int .i64 (boundOf M T))) := by
  refine FCall.pcall (R := fun r _ => r = .val (.int .i64 (boundOf M T))) ?_ 0 (by rintro r H rfl; exact view_int)
  have w1 := Try.implPack_ok M T hM hR hT
  have lT := encL_length (enc := tri4) (z := 4) tri4_z T
  refine FCall.of_body Try.func10 rfl (by kernel_rfl) (by simp [Try.ntmps10]) ?_
  refine SW_of_vc Try.mixed _ _ _ (by kernel_rfl) ?_
  rcases Bool.eq_false_or_eq_true (isPk M T) with h | h
  · have hwk := (packP_of h).w
    have hb : boundOf M T = wsum T T.length := by rw [boundOf, if_pos h]
    rw [h] at w1
    simp (disch := omega) only [Try.ntmps10, Try.results10, go_sem, rr_eq, rt]
    refine w1.callV 0 (viewL_cons_of (view_row) (viewL_cons_of (view_row) viewL_nil_of)) ?_
    simp (disch := omega) only [Try.ntmps10, Try.results10, go_sem, rr_eq, rt]
    refine LoopW.loop (fun p : Nat × Nat => ⟨ofL [(5, .val (.int .i64 (wsum T p.1))), (12, rt T), (13, .val (.int .i64 T.length)), (14, .val (.int .i64 p.1))], hp [] p.2⟩) (fun p => p.1 ≤ T.length) (fun p => T.length - p.1) (0, 0) (by simp) (Wk.of (by simp only [go_sem, ↓List.forall_mem_cons, List.not_mem_nil, false_implies, implies_true, and_true, true_and, and_self, ri_eq, Int.natCast_add, Int.cast_ofNat_Int, rt, wsum, List.take_zero, List.map_nil, List.sum_nil]; try simp) rfl) ?_
    rintro ⟨k, nb⟩ hk
    simp only at hk
    refine SW_of_vc Try.mixed _ _ _ (by kernel_rfl) ?_
    by_cases hlt : k < T.length
    · obtain ⟨a, b, c, w, ht⟩ := tri_ex T k
      obtain ⟨_, _, _, _, q⟩ := tri_of hlt ht
      have hs := wsum_succ hlt
      have hr := wsum_r hwk k hk
      have hwk2 := hwk k hlt
      rw [ht] at hs hwk2
      simp only at hs hwk2
      simp (disch := omega) only [Try.ntmps10, Try.results10, go_sem, rt, lT, q]
      exact ⟨(k + 1, nb + 1), hlt, by show T.length - (k + 1) < T.length - k; omega, Wk.ofH (by simp only [go_sem, ↓List.forall_mem_cons, List.not_mem_nil, false_implies, implies_true, and_true, true_and, and_self, ri_eq, Int.natCast_add, Int.cast_ofNat_Int, rt, hs]; try simp) (by simp (disch := omega) only [go_sem, ↓List.forall_mem_cons, List.not_mem_nil, false_implies, implies_true, and_true, true_and, and_self, ri_eq, Int.natCast_add, Int.cast_ofNat_Int, if_pos, if_neg, Nat.reduceAdd, List.nil_append]; try simp) (Nat.le_refl _)⟩
    · obtain rfl : k = T.length := by omega
      simp (disch := omega) only [Try.ntmps10, Try.results10, go_sem, rt]
      exact Fin.val (by rw [hb])
  · have hb : boundOf M T = -1 := by rw [boundOf, if_neg (by rw [h]; simp)]
    rw [h] at w1
    simp (disch := omega) only [Try.ntmps10, Try.results10, go_sem, rr_eq, rt]
    refine w1.callV 0 (viewL_cons_of (view_row) (viewL_cons_of (view_row) viewL_nil_of)) ?_
    simp (disch := omega) only [Try.ntmps10, Try.results10, go_sem, rr_eq, rt]
    exact Fin.val (by rw [hb])
set_option maxHeartbeats 4000000 in
theorem Try.specBound_ok (M : List (List Int)) (T : List Tri) (hM : M.length ≤ 1048576) (hR : ∀ i, i < M.length → (mrow M i).length ≤ 1048576) (hT : T.length ≤ 1048576) : PCall Try.prog 11 [rr M, rt T] (.val (.int .i64 (boundOf M T))) := by
  refine FCall.pcall (R := fun r _ => r = .val (.int .i64 (boundOf M T))) ?_ 0 (by rintro r H rfl; exact view_int)
  have w1 := Try.specPack_ok M T hM hR hT
  have lT := encL_length (enc := tri4) (z := 4) tri4_z T
  refine FCall.of_body Try.func11 rfl (by kernel_rfl) (by simp [Try.ntmps11]) ?_
  refine SW_of_vc Try.mixed _ _ _ (by kernel_rfl) ?_
  rcases Bool.eq_false_or_eq_true (isPk M T) with h | h
  · have hwk := (packP_of h).w
    have hb : boundOf M T = wsum T T.length := by rw [boundOf, if_pos h]
    rw [h] at w1
    simp (disch := omega) only [Try.ntmps11, Try.results11, go_sem, rr_eq, rt]
    refine w1.callV 0 (viewL_cons_of (view_row) (viewL_cons_of (view_row) viewL_nil_of)) ?_
    simp (disch := omega) only [Try.ntmps11, Try.results11, go_sem, rr_eq, rt]
    refine LoopW.loop (fun k : Nat => ⟨ofL [(1, rt T), (5, .val (.int .i64 (wsum T k))), (6, .val (.int .i64 k))], hp [] 0⟩) (fun k => k ≤ T.length) (fun k => T.length - k) 0 (by simp) (Wk.of (by simp only [go_sem, ↓List.forall_mem_cons, List.not_mem_nil, false_implies, implies_true, and_true, true_and, and_self, ri_eq, Int.natCast_add, Int.cast_ofNat_Int, rt, wsum, List.take_zero, List.map_nil, List.sum_nil]; try simp) rfl) ?_
    intro k hk
    refine SW_of_vc Try.mixed _ _ _ (by kernel_rfl) ?_
    by_cases hlt : k < T.length
    · obtain ⟨a, b, c, w, ht⟩ := tri_ex T k
      obtain ⟨_, _, _, q3, _⟩ := tri_of hlt ht
      have hs := wsum_succ hlt
      have hr := wsum_r hwk k hk
      have hwk2 := hwk k hlt
      rw [ht] at hs hwk2
      simp only at hs hwk2
      simp (disch := omega) only [Try.ntmps11, Try.results11, go_sem, rt, lT, q3]
      exact ⟨k + 1, hlt, by omega, Wk.of (by simp only [go_sem, ↓List.forall_mem_cons, List.not_mem_nil, false_implies, implies_true, and_true, true_and, and_self, ri_eq, Int.natCast_add, Int.cast_ofNat_Int, rt, hs]; try simp) rfl⟩
    · obtain rfl : k = T.length := by omega
      simp (disch := omega) only [Try.ntmps11, Try.results11, go_sem, rt]
      exact Fin.val (by rw [hb])
  · have hb : boundOf M T = -1 := by rw [boundOf, if_neg (by rw [h]; simp)]
    rw [h] at w1
    simp (disch := omega) only [Try.ntmps11, Try.results11, go_sem, rr_eq, rt]
    refine w1.callV 0 (viewL_cons_of (view_row) (viewL_cons_of (view_row) viewL_nil_of)) ?_
    simp (disch := omega) only [Try.ntmps11, Try.results11, go_sem, rr_eq, rt]
    exact Fin.val (by rw [hb])
end Go.Sh

/-
  Contracts: what a partition costs. Of the reference and of the program; the law.
-/
namespace Go.Sh
set_option linter.unusedSimpArgs false
set_option linter.unusedVariables false
open Go Go.Proofs

def ct (M : List (List Int)) (L : List Int) (i k : Nat) : Int := if L.getD i 0 = L.getD k 0 then max 0 (-mat M i k) else max 0 (mat M i k)
def cr (M : List (List Int)) (L : List Int) (i : Nat) : Nat → Int
  | 0 => 0
  | k + 1 => cr M L i k + ct M L i k
def cc (M : List (List Int)) (L : List Int) : Nat → Int
  | 0 => 0
  | i + 1 => cc M L i + cr M L i i
theorem ct_b {M : List (List Int)} {L : List Int} (h : WM M) {i k : Nat} (hi : i < M.length) (hk : k < M.length) : 0 ≤ ct M L i k ∧ ct M L i k ≤ 1000 := by
  have := (h.2.2.1 i k hi hk).1
  unfold ct
  split <;> omega
theorem cr_b {M : List (List Int)} {L : List Int} (h : WM M) {i : Nat} (hi : i < M.length) : ∀ k, k ≤ M.length → 0 ≤ cr M L i k ∧ cr M L i k ≤ 1000 * k
  | 0, _ => by simp [cr]
  | k + 1, hk => by
    have h1 := cr_b h hi (L := L) k (by omega)
    have h2 := ct_b (L := L) h hi (k := k) (by omega)
    rw [cr]; omega
theorem cc_b {M : List (List Int)} {L : List Int} (h : WM M) : ∀ i, i ≤ M.length → 0 ≤ cc M L i ∧ cc M L i ≤ 8000 * i
  | 0, _ => by simp [cc]
  | i + 1, hi => by
    have h1 := cc_b h (L := L) i (by omega)
    have h2 := cr_b (L := L) h (i := i) (by omega) i (by omega)
    have := h.1
    rw [cc]; omega
noncomputable def pcost (M : List (List Int)) (L : List Int) : Int := if isWM M = true ∧ isPart L = true ∧ L.length = M.length then cc M L L.length else -1
set_option maxHeartbeats 4000000 in
set_option maxRecDepth 100000 in
theorem Try.implCost_ok (M : List (List Int)) (L : List Int) (hw : WM M) (hl : L.length = M.length) : PCall Try.prog 99 [rr M, ri L] (.val (.int .i64 (cc M L L.length))) := by
  have hM8 := hw.1.2
  have c1 := cc_b (L := L) hw
  refine FCall.pcall (R := fun r _ => r = .val (.int .i64 (cc M L L.length))) ?_ 0 (by rintro r H rfl; exact view_int)
  refine FCall.of_body Try.func99 rfl (by kernel_rfl) (by simp [Try.ntmps99]) ?_
  refine SW_of_vc Try.mixed _ _ _ (by kernel_rfl) ?_
  simp (disch := omega) only [Try.ntmps99, Try.results99, go_sem, rr_eq]
  refine LoopW.loop (fun i : Nat => ⟨ofL [(0, rr M), (1, ri L), (5, .val (.int .i64 (cc M L i))), (8, ri L), (9, .val (.int .i64 L.length)), (10, .val (.int .i64 i))], hp [] 0⟩) (fun i => i ≤ L.length) (fun i => L.length - i) 0 (by omega) (Wk.of (by simp only [go_sem, ↓List.forall_mem_cons, List.not_mem_nil, false_implies, implies_true, and_true, true_and, and_self, ri_eq, Int.natCast_add, Int.cast_ofNat_Int, rr_eq, cc]; try simp) rfl) ?_
  intro i hi
  refine SW_of_vc Try.mixed _ _ _ (by kernel_rfl) ?_
  by_cases hlt : i < L.length
  · simp (disch := omega) only [Try.ntmps99, Try.results99, go_sem, rr_eq]
    refine LoopW.loop (fun k : Nat => ⟨ofL [(0, rr M), (1, ri L), (5, .val (.int .i64 (cc M L i + cr M L i k))), (6, .val (.int .i64 i)), (8, ri L), (9, .val (.int .i64 L.length)), (10, .val (.int .i64 i)), (13, .val (.int .i64 i)), (14, .val (.int .i64 k))], hp [] 0⟩) (fun k => k ≤ i) (fun k => i - k) 0 (by omega) (Wk.of (by simp only [go_sem, ↓List.forall_mem_cons, List.not_mem_nil, false_implies, implies_true, and_true, true_and, and_self, ri_eq, Int.natCast_add, Int.cast_ofNat_Int, rr_eq, cr, Int.add_zero]; try simp) rfl) ?_
    intro k hk
    refine SW_of_vc Try.mixed _ _ _ (by kernel_rfl) ?_
    by_cases hki : k < i
    · skip
      have hri := hw.2.1 i (by omega)
      have c2 := c1 i (by omega)
      have c3 := cr_b (L := L) hw (i := i) (by omega)
      have c4 := c3 k (by omega)
      have c5 := (hw.2.2.1 i k (by omega) (by omega)).1
      have g1 : (ints (mrow M i))[k]? = some (.val (.int .i64 (mat M i k))) := ints_get' hri (by omega)
      have hct : cr M L i (k + 1) = cr M L i k + ct M L i k := rfl
      unfold ct at hct
      by_cases he : L.getD i 0 = L.getD k 0
      · rw [if_pos he] at hct
        generalize mat M i k = a at *
        by_cases p1 : 0 < a
        · have e : cc M L i + cr M L i (k + 1) = cc M L i + cr M L i k + 0 := by omega
          simp (disch := omega) only [Try.ntmps99, Try.results99, go_sem, rr_eq, rows_get, hri, g1, he]
          exact ⟨k + 1, by omega, by omega, Wk.of (by simp only [go_sem, ↓List.forall_mem_cons, List.not_mem_nil, false_implies, implies_true, and_true, true_and, and_self, ri_eq, Int.natCast_add, Int.cast_ofNat_Int, rr_eq, e, Int.add_zero, Int.sub_eq_add_neg]; try simp) rfl⟩
        · by_cases p2 : a < 0
          · have e : cc M L i + cr M L i (k + 1) = cc M L i + cr M L i k + -a := by omega
            simp (disch := omega) only [Try.ntmps99, Try.results99, go_sem, rr_eq, rows_get, hri, g1, he]
            exact ⟨k + 1, by omega, by omega, Wk.of (by simp only [go_sem, ↓List.forall_mem_cons, List.not_mem_nil, false_implies, implies_true, and_true, true_and, and_self, ri_eq, Int.natCast_add, Int.cast_ofNat_Int, rr_eq, e, Int.add_zero, Int.sub_eq_add_neg]; try simp) rfl⟩
          · have e : cc M L i + cr M L i (k + 1) = cc M L i + cr M L i k + 0 := by omega
            simp (disch := omega) only [Try.ntmps99, Try.results99, go_sem, rr_eq, rows_get, hri, g1, he]
            exact ⟨k + 1, by omega, by omega, Wk.of (by simp only [go_sem, ↓List.forall_mem_cons, List.not_mem_nil, false_implies, implies_true, and_true, true_and, and_self, ri_eq, Int.natCast_add, Int.cast_ofNat_Int, rr_eq, e, Int.add_zero, Int.sub_eq_add_neg]; try simp) rfl⟩
      · rw [if_neg he] at hct
        generalize mat M i k = a at *
        by_cases p1 : 0 < a
        · have e : cc M L i + cr M L i (k + 1) = cc M L i + cr M L i k + a := by omega
          simp (disch := omega) only [Try.ntmps99, Try.results99, go_sem, rr_eq, rows_get, hri, g1]
          exact ⟨k + 1, by omega, by omega, Wk.of (by simp only [go_sem, ↓List.forall_mem_cons, List.not_mem_nil, false_implies, implies_true, and_true, true_and, and_self, ri_eq, Int.natCast_add, Int.cast_ofNat_Int, rr_eq, e, Int.add_zero, Int.sub_eq_add_neg]; try simp) rfl⟩
        · by_cases p2 : a < 0
          · have e : cc M L i + cr M L i (k + 1) = cc M L i + cr M L i k + 0 := by omega
            simp (disch := omega) only [Try.ntmps99, Try.results99, go_sem, rr_eq, rows_get, hri, g1]
            exact ⟨k + 1, by omega, by omega, Wk.of (by simp only [go_sem, ↓List.forall_mem_cons, List.not_mem_nil, false_implies, implies_true, and_true, true_and, and_self, ri_eq, Int.natCast_add, Int.cast_ofNat_Int, rr_eq, e, Int.add_zero, Int.sub_eq_add_neg]; try simp) rfl⟩
          · have e : cc M L i + cr M L i (k + 1) = cc M L i + cr M L i k + 0 := by omega
            simp (disch := omega) only [Try.ntmps99, Try.results99, go_sem, rr_eq, rows_get, hri, g1]
            exact ⟨k + 1, by omega, by omega, Wk.of (by simp only [go_sem, ↓List.forall_mem_cons, List.not_mem_nil, false_implies, implies_true, and_true, true_and, and_self, ri_eq, Int.natCast_add, Int.cast_ofNat_Int, rr_eq, e, Int.add_zero, Int.sub_eq_add_neg]; try simp) rfl⟩
    · obtain rfl : k = i := by omega
      have ec : cc M L (k + 1) = cc M L k + cr M L k k := rfl
      simp (disch := omega) only [Try.ntmps99, Try.results99, go_sem, rr_eq]
      exact ⟨k + 1, by omega, by omega, Wk.of (by simp only [go_sem, ↓List.forall_mem_cons, List.not_mem_nil, false_implies, implies_true, and_true, true_and, and_self, ri_eq, Int.natCast_add, Int.cast_ofNat_Int, rr_eq, ec]; try simp) rfl⟩
  · obtain rfl : i = L.length := by omega
    simp (disch := omega) only [Try.ntmps99, Try.results99, go_sem, rr_eq]
    exact Fin.val rfl

set_option maxHeartbeats 4000000 in
set_option maxRecDepth 100000 in
theorem Try.specCost_ok (M : List (List Int)) (L : List Int) (hw : WM M) (hl : L.length = M.length) : PCall Try.prog 75 [rr M, ri L] (.val (.int .i64 (cc M L L.length))) := by
  have hM8 := hw.1.2
  have c1 := cc_b (L := L) hw
  refine FCall.pcall (R := fun r _ => r = .val (.int .i64 (cc M L L.length))) ?_ 0 (by rintro r H rfl; exact view_int)
  refine FCall.of_body Try.func75 rfl (by kernel_rfl) (by simp [Try.ntmps75]) ?_
  refine SW_of_vc Try.mixed _ _ _ (by kernel_rfl) ?_
  simp (disch := omega) only [Try.ntmps75, Try.results75, go_sem, rr_eq]
  refine LoopW.loop (fun i : Nat => ⟨ofL [(0, rr M), (1, ri L), (5, .val (.int .i64 (cc M L i))), (6, .val (.int .i64 i))], hp [] 0⟩) (fun i => i ≤ L.length) (fun i => L.length - i) 0 (by omega) (Wk.of (by simp only [go_sem, ↓List.forall_mem_cons, List.not_mem_nil, false_implies, implies_true, and_true, true_and, and_self, ri_eq, Int.natCast_add, Int.cast_ofNat_Int, rr_eq, cc]; try simp) rfl) ?_
  intro i hi
  refine SW_of_vc Try.mixed _ _ _ (by kernel_rfl) ?_
  by_cases hlt : i < L.length
  · simp (disch := omega) only [Try.ntmps75, Try.results75, go_sem, rr_eq]
    refine LoopW.loop (fun k : Nat => ⟨ofL [(0, rr M), (1, ri L), (5, .val (.int .i64 (cc M L i + cr M L i k))), (6, .val (.int .i64 i)), (7, .val (.int .i64 k))], hp [] 0⟩) (fun k => k ≤ i) (fun k => i - k) 0 (by omega) (Wk.of (by simp only [go_sem, ↓List.forall_mem_cons, List.not_mem_nil, false_implies, implies_true, and_true, true_and, and_self, ri_eq, Int.natCast_add, Int.cast_ofNat_Int, rr_eq, cr, Int.add_zero]; try simp) rfl) ?_
    intro k hk
    refine SW_of_vc Try.mixed _ _ _ (by kernel_rfl) ?_
    by_cases hki : k < i
    · skip
      have hri := hw.2.1 i (by omega)
      have c2 := c1 i (by omega)
      have c3 := cr_b (L := L) hw (i := i) (by omega)
      have c4 := c3 k (by omega)
      have c5 := (hw.2.2.1 i k (by omega) (by omega)).1
      have g1 : (ints (mrow M i))[k]? = some (.val (.int .i64 (mat M i k))) := ints_get' hri (by omega)
      have hct : cr M L i (k + 1) = cr M L i k + ct M L i k := rfl
      unfold ct at hct
      by_cases he : L.getD i 0 = L.getD k 0
      · rw [if_pos he] at hct
        generalize mat M i k = a at *
        by_cases p1 : 0 < a
        · have e : cc M L i + cr M L i (k + 1) = cc M L i + cr M L i k + 0 := by omega
          simp (disch := omega) only [Try.ntmps75, Try.results75, go_sem, rr_eq, rows_get, hri, g1, he]
          exact ⟨k + 1, by omega, by omega, Wk.of (by simp only [go_sem, ↓List.forall_mem_cons, List.not_mem_nil, false_implies, implies_true, and_true, true_and, and_self, ri_eq, Int.natCast_add, Int.cast_ofNat_Int, rr_eq, e, Int.add_zero, Int.sub_eq_add_neg]; try simp) rfl⟩
        · by_cases p2 : a < 0
          · have e : cc M L i + cr M L i (k + 1) = cc M L i + cr M L i k + -a := by omega
            simp (disch := omega) only [Try.ntmps75, Try.results75, go_sem, rr_eq, rows_get, hri, g1, he]
            exact ⟨k + 1, by omega, by omega, Wk.of (by simp only [go_sem, ↓List.forall_mem_cons, List.not_mem_nil, false_implies, implies_true, and_true, true_and, and_self, ri_eq, Int.natCast_add, Int.cast_ofNat_Int, rr_eq, e, Int.add_zero, Int.sub_eq_add_neg]; try simp) rfl⟩
          · have e : cc M L i + cr M L i (k + 1) = cc M L i + cr M L i k + 0 := by omega
            simp (disch := omega) only [Try.ntmps75, Try.results75, go_sem, rr_eq, rows_get, hri, g1, he]
            exact ⟨k + 1, by omega, by omega, Wk.of (by simp only [go_sem, ↓List.forall_mem_cons, List.not_mem_nil, false_implies, implies_true, and_true, true_and, and_self, ri_eq, Int.natCast_add, Int.cast_ofNat_Int, rr_eq, e, Int.add_zero, Int.sub_eq_add_neg]; try simp) rfl⟩
      · rw [if_neg he] at hct
        generalize mat M i k = a at *
        by_cases p1 : 0 < a
        · have e : cc M L i + cr M L i (k + 1) = cc M L i + cr M L i k + a := by omega
          simp (disch := omega) only [Try.ntmps75, Try.results75, go_sem, rr_eq, rows_get, hri, g1]
          exact ⟨k + 1, by omega, by omega, Wk.of (by simp only [go_sem, ↓List.forall_mem_cons, List.not_mem_nil, false_implies, implies_true, and_true, true_and, and_self, ri_eq, Int.natCast_add, Int.cast_ofNat_Int, rr_eq, e, Int.add_zero, Int.sub_eq_add_neg]; try simp) rfl⟩
        · by_cases p2 : a < 0
          · have e : cc M L i + cr M L i (k + 1) = cc M L i + cr M L i k + 0 := by omega
            simp (disch := omega) only [Try.ntmps75, Try.results75, go_sem, rr_eq, rows_get, hri, g1]
            exact ⟨k + 1, by omega, by omega, Wk.of (by simp only [go_sem, ↓List.forall_mem_cons, List.not_mem_nil, false_implies, implies_true, and_true, true_and, and_self, ri_eq, Int.natCast_add, Int.cast_ofNat_Int, rr_eq, e, Int.add_zero, Int.sub_eq_add_neg]; try simp) rfl⟩
          · have e : cc M L i + cr M L i (k + 1) = cc M L i + cr M L i k + 0 := by omega
            simp (disch := omega) only [Try.ntmps75, Try.results75, go_sem, rr_eq, rows_get, hri, g1]
            exact ⟨k + 1, by omega, by omega, Wk.of (by simp only [go_sem, ↓List.forall_mem_cons, List.not_mem_nil, false_implies, implies_true, and_true, true_and, and_self, ri_eq, Int.natCast_add, Int.cast_ofNat_Int, rr_eq, e, Int.add_zero, Int.sub_eq_add_neg]; try simp) rfl⟩
    · obtain rfl : k = i := by omega
      have ec : cc M L (k + 1) = cc M L k + cr M L k k := rfl
      simp (disch := omega) only [Try.ntmps75, Try.results75, go_sem, rr_eq]
      exact ⟨k + 1, by omega, by omega, Wk.of (by simp only [go_sem, ↓List.forall_mem_cons, List.not_mem_nil, false_implies, implies_true, and_true, true_and, and_self, ri_eq, Int.natCast_add, Int.cast_ofNat_Int, rr_eq, ec]; try simp) rfl⟩
  · obtain rfl : i = L.length := by omega
    simp (disch := omega) only [Try.ntmps75, Try.results75, go_sem, rr_eq]
    exact Fin.val rfl

set_option maxHeartbeats 1000000 in
theorem Try.implPartitionCost_ok (M : List (List Int)) (L : List Int) (hM : M.length ≤ 1048576) (hR : ∀ i, i < M.length → (mrow M i).length ≤ 1048576) (hL : L.length ≤ 1048576) : PCall Try.prog 51 [rr M, ri L] (.val (.int .i64 (pcost M L))) := by
  refine FCall.pcall (R := fun r _ => r = .val (.int .i64 (pcost M L))) ?_ 0 (by rintro r H rfl; exact view_int)
  refine FCall.of_body Try.func51 rfl (by kernel_rfl) (by simp [Try.ntmps51]) ?_
  refine SW_of_vc Try.mixed _ _ _ (by kernel_rfl) ?_
  have w1 := Try.implIsWM_ok M hM hR
  have w2 := Try.implIsPartition_ok L hL
  rcases Bool.eq_false_or_eq_true (isWM M) with h1 | h1
  · rw [h1] at w1
    have hw := WM_of h1
    rcases Bool.eq_false_or_eq_true (isPart L) with h2 | h2
    · rw [h2] at w2
      by_cases h3 : L.length = M.length
      · have hp : pcost M L = cc M L L.length := if_pos ⟨h1, h2, h3⟩
        rw [hp]
        have w3 := Try.implCost_ok M L hw h3
        simp (disch := omega) only [Try.ntmps51, Try.results51, go_sem, rr_eq]
        refine w1.callV 0 (viewL_cons_of (view_row) viewL_nil_of) ?_
        simp (disch := omega) only [Try.ntmps51, Try.results51, go_sem, rr_eq]
        refine w2.callV 0 (viewL_cons_of (view_rowL (by first | rfl | simp [marks_length, canon_length] | omega)) viewL_nil_of) ?_
        simp (disch := omega) only [Try.ntmps51, Try.results51, go_sem, rr_eq]
        refine w3.callV 0 (viewL_cons_of (view_row) (viewL_cons_of (view_rowL (by first | rfl | simp [marks_length, canon_length] | omega)) viewL_nil_of)) ?_
        simp (disch := omega) only [Try.ntmps51, Try.results51, go_sem, rr_eq]
        exact Fin.val rfl
      · have hp : pcost M L = -1 := if_neg (fun h => h3 h.2.2)
        rw [hp]
        simp (disch := omega) only [Try.ntmps51, Try.results51, go_sem, rr_eq]
        refine w1.callV 0 (viewL_cons_of (view_row) viewL_nil_of) ?_
        simp (disch := omega) only [Try.ntmps51, Try.results51, go_sem, rr_eq]
        refine w2.callV 0 (viewL_cons_of (view_rowL (by first | rfl | simp [marks_length, canon_length] | omega)) viewL_nil_of) ?_
        simp (disch := omega) only [Try.ntmps51, Try.results51, go_sem, rr_eq]
        exact Fin.val rfl
    · rw [h2] at w2
      have hp : pcost M L = -1 := if_neg (fun h => by rw [h2] at h; cases h.2.1)
      rw [hp]
      simp (disch := omega) only [Try.ntmps51, Try.results51, go_sem, rr_eq]
      refine w1.callV 0 (viewL_cons_of (view_row) viewL_nil_of) ?_
      simp (disch := omega) only [Try.ntmps51, Try.results51, go_sem, rr_eq]
      refine w2.callV 0 (viewL_cons_of (view_rowL (by first | rfl | simp [marks_length, canon_length] | omega)) viewL_nil_of) ?_
      simp (disch := omega) only [Try.ntmps51, Try.results51, go_sem, rr_eq]
      exact Fin.val rfl
  · rw [h1] at w1
    have hp : pcost M L = -1 := if_neg (fun h => by rw [h1] at h; cases h.1)
    rw [hp]
    simp (disch := omega) only [Try.ntmps51, Try.results51, go_sem, rr_eq]
    refine w1.callV 0 (viewL_cons_of (view_row) viewL_nil_of) ?_
    simp (disch := omega) only [Try.ntmps51, Try.results51, go_sem, rr_eq]
    exact Fin.val rfl

set_option maxHeartbeats 1000000 in
theorem Try.specPartitionCost_ok (M : List (List Int)) (L : List Int) (hM : M.length ≤ 1048576) (hR : ∀ i, i < M.length → (mrow M i).length ≤ 1048576) (hL : L.length ≤ 1048576) : PCall Try.prog 16 [rr M, ri L] (.val (.int .i64 (pcost M L))) := by
  refine FCall.pcall (R := fun r _ => r = .val (.int .i64 (pcost M L))) ?_ 0 (by rintro r H rfl; exact view_int)
  refine FCall.of_body Try.func16 rfl (by kernel_rfl) (by simp [Try.ntmps16]) ?_
  refine SW_of_vc Try.mixed _ _ _ (by kernel_rfl) ?_
  have w1 := Try.specIsWM_ok M hM hR
  have w2 := Try.specIsPartition_ok L hL
  rcases Bool.eq_false_or_eq_true (isWM M) with h1 | h1
  · rw [h1] at w1
    have hw := WM_of h1
    rcases Bool.eq_false_or_eq_true (isPart L) with h2 | h2
    · rw [h2] at w2
      by_cases h3 : L.length = M.length
      · have hp : pcost M L = cc M L L.length := if_pos ⟨h1, h2, h3⟩
        rw [hp]
        have w3 := Try.specCost_ok M L hw h3
        simp (disch := omega) only [Try.ntmps16, Try.results16, go_sem, rr_eq]
        refine w1.callV 0 (viewL_cons_of (view_row) viewL_nil_of) ?_
        simp (disch := omega) only [Try.ntmps16, Try.results16, go_sem, rr_eq]
        refine w2.callV 0 (viewL_cons_of (view_rowL (by first | rfl | simp [marks_length, canon_length] | omega)) viewL_nil_of) ?_
        simp (disch := omega) only [Try.ntmps16, Try.results16, go_sem, rr_eq]
        refine w3.callV 0 (viewL_cons_of (view_row) (viewL_cons_of (view_rowL (by first | rfl | simp [marks_length, canon_length] | omega)) viewL_nil_of)) ?_
        simp (disch := omega) only [Try.ntmps16, Try.results16, go_sem, rr_eq]
        exact Fin.val rfl
      · have hp : pcost M L = -1 := if_neg (fun h => h3 h.2.2)
        rw [hp]
        simp (disch := omega) only [Try.ntmps16, Try.results16, go_sem, rr_eq]
        refine w1.callV 0 (viewL_cons_of (view_row) viewL_nil_of) ?_
        simp (disch := omega) only [Try.ntmps16, Try.results16, go_sem, rr_eq]
        refine w2.callV 0 (viewL_cons_of (view_rowL (by first | rfl | simp [marks_length, canon_length] | omega)) viewL_nil_of) ?_
        simp (disch := omega) only [Try.ntmps16, Try.results16, go_sem, rr_eq]
        exact Fin.val rfl
    · rw [h2] at w2
      have hp : pcost M L = -1 := if_neg (fun h => by rw [h2] at h; cases h.2.1)
      rw [hp]
      simp (disch := omega) only [Try.ntmps16, Try.results16, go_sem, rr_eq]
      refine w1.callV 0 (viewL_cons_of (view_row) viewL_nil_of) ?_
      simp (disch := omega) only [Try.ntmps16, Try.results16, go_sem, rr_eq]
      refine w2.callV 0 (viewL_cons_of (view_rowL (by first | rfl | simp [marks_length, canon_length] | omega)) viewL_nil_of) ?_
      simp (disch := omega) only [Try.ntmps16, Try.results16, go_sem, rr_eq]
      exact Fin.val rfl
  · rw [h1] at w1
    have hp : pcost M L = -1 := if_neg (fun h => by rw [h1] at h; cases h.1)
    rw [hp]
    simp (disch := omega) only [Try.ntmps16, Try.results16, go_sem, rr_eq]
    refine w1.callV 0 (viewL_cons_of (view_row) viewL_nil_of) ?_
    simp (disch := omega) only [Try.ntmps16, Try.results16, go_sem, rr_eq]
    exact Fin.val rfl

end Go.Sh

/-
  Contracts: how far a partition is from a bound. Of the program and the reference.
-/
namespace Go.Sh
set_option linter.unusedSimpArgs false
set_option linter.unusedVariables false
open Go Go.Proofs

noncomputable def gapOf (M : List (List Int)) (L : List Int) (T : List Tri) : Int := if pcost M L < 0 ∨ boundOf M T < 0 then -1 else pcost M L - boundOf M T
theorem pcost_r (M : List (List Int)) (L : List Int) : -1 ≤ pcost M L ∧ pcost M L ≤ 64000 := by
  unfold pcost
  split
  · rename_i h
    have hw := WM_of h.1
    have := cc_b (L := L) hw L.length (by omega)
    have := hw.1
    omega
  · omega
theorem bound_r (M : List (List Int)) (T : List Tri) : -1 ≤ boundOf M T ∧ boundOf M T ≤ 100000 := by
  unfold boundOf
  split
  · rename_i h
    have hp := packP_of h
    have := wsum_r hp.w T.length (Nat.le_refl _)
    have := hp.2.1
    omega
  · omega
theorem Try.implGap_ok (M : List (List Int)) (L : List Int) (T : List Tri) (hM : M.length ≤ 1048576) (hR : ∀ i, i < M.length → (mrow M i).length ≤ 1048576) (hL : L.length ≤ 1048576) (hT : T.length ≤ 1048576) : PCall Try.prog 14 [rr M, ri L, rt T] (.val (.int .i64 (gapOf M L T))) := by
  refine FCall.pcall (R := fun r _ => r = .val (.int .i64 (gapOf M L T))) ?_ 0 (by rintro r H rfl; exact view_int)
  have w1 := Try.implPartitionCost_ok M L hM hR hL
  have w2 := Try.implBound_ok M T hM hR hT
  have r1 := pcost_r M L
  have r2 := bound_r M T
  have hg : gapOf M L T = if pcost M L < 0 ∨ boundOf M T < 0 then -1 else pcost M L - boundOf M T := rfl
  generalize pcost M L = x at *
  generalize boundOf M T = y at *
  refine FCall.of_body Try.func14 rfl (by kernel_rfl) (by simp [Try.ntmps14]) ?_
  refine SW_of_vc Try.mixed _ _ _ (by kernel_rfl) ?_
  by_cases h1 : x < 0
  · simp (disch := omega) only [Try.ntmps14, Try.results14, go_sem, rr_eq, rt]
    refine w1.callV 0 (viewL_cons_of (view_row) (viewL_cons_of (view_rowL (by first | rfl | simp [marks_length, canon_length] | omega)) viewL_nil_of)) ?_
    simp (disch := omega) only [Try.ntmps14, Try.results14, go_sem, rr_eq, rt]
    refine w2.callV 0 (viewL_cons_of (view_row) (viewL_cons_of (view_row) viewL_nil_of)) ?_
    simp (disch := omega) only [Try.ntmps14, Try.results14, go_sem, rr_eq, rt]
    exact Fin.val (by rw [hg, if_pos (.inl h1)])
  · by_cases h2 : y < 0
    · simp (disch := omega) only [Try.ntmps14, Try.results14, go_sem, rr_eq, rt]
      refine w1.callV 0 (viewL_cons_of (view_row) (viewL_cons_of (view_rowL (by first | rfl | simp [marks_length, canon_length] | omega)) viewL_nil_of)) ?_
      simp (disch := omega) only [Try.ntmps14, Try.results14, go_sem, rr_eq, rt]
      refine w2.callV 0 (viewL_cons_of (view_row) (viewL_cons_of (view_row) viewL_nil_of)) ?_
      simp (disch := omega) only [Try.ntmps14, Try.results14, go_sem, rr_eq, rt]
      exact Fin.val (by rw [hg, if_pos (.inr h2)])
    · simp (disch := omega) only [Try.ntmps14, Try.results14, go_sem, rr_eq, rt]
      refine w1.callV 0 (viewL_cons_of (view_row) (viewL_cons_of (view_rowL (by first | rfl | simp [marks_length, canon_length] | omega)) viewL_nil_of)) ?_
      simp (disch := omega) only [Try.ntmps14, Try.results14, go_sem, rr_eq, rt]
      refine w2.callV 0 (viewL_cons_of (view_row) (viewL_cons_of (view_row) viewL_nil_of)) ?_
      simp (disch := omega) only [Try.ntmps14, Try.results14, go_sem, rr_eq, rt]
      exact Fin.val (by rw [hg, if_neg (by omega)])
theorem Try.specGap_ok (M : List (List Int)) (L : List Int) (T : List Tri) (hM : M.length ≤ 1048576) (hR : ∀ i, i < M.length → (mrow M i).length ≤ 1048576) (hL : L.length ≤ 1048576) (hT : T.length ≤ 1048576) : PCall Try.prog 15 [rr M, ri L, rt T] (.val (.int .i64 (gapOf M L T))) := by
  refine FCall.pcall (R := fun r _ => r = .val (.int .i64 (gapOf M L T))) ?_ 0 (by rintro r H rfl; exact view_int)
  have w1 := Try.specPartitionCost_ok M L hM hR hL
  have w2 := Try.specBound_ok M T hM hR hT
  have r1 := pcost_r M L
  have r2 := bound_r M T
  have hg : gapOf M L T = if pcost M L < 0 ∨ boundOf M T < 0 then -1 else pcost M L - boundOf M T := rfl
  generalize pcost M L = x at *
  generalize boundOf M T = y at *
  refine FCall.of_body Try.func15 rfl (by kernel_rfl) (by simp [Try.ntmps15]) ?_
  refine SW_of_vc Try.mixed _ _ _ (by kernel_rfl) ?_
  by_cases h1 : x < 0
  · simp (disch := omega) only [Try.ntmps15, Try.results15, go_sem, rr_eq, rt]
    refine w1.callV 0 (viewL_cons_of (view_row) (viewL_cons_of (view_rowL (by first | rfl | simp [marks_length, canon_length] | omega)) viewL_nil_of)) ?_
    simp (disch := omega) only [Try.ntmps15, Try.results15, go_sem, rr_eq, rt]
    refine w2.callV 0 (viewL_cons_of (view_row) (viewL_cons_of (view_row) viewL_nil_of)) ?_
    simp (disch := omega) only [Try.ntmps15, Try.results15, go_sem, rr_eq, rt]
    exact Fin.val (by rw [hg, if_pos (.inl h1)])
  · by_cases h2 : y < 0
    · simp (disch := omega) only [Try.ntmps15, Try.results15, go_sem, rr_eq, rt]
      refine w1.callV 0 (viewL_cons_of (view_row) (viewL_cons_of (view_rowL (by first | rfl | simp [marks_length, canon_length] | omega)) viewL_nil_of)) ?_
      simp (disch := omega) only [Try.ntmps15, Try.results15, go_sem, rr_eq, rt]
      refine w2.callV 0 (viewL_cons_of (view_row) (viewL_cons_of (view_row) viewL_nil_of)) ?_
      simp (disch := omega) only [Try.ntmps15, Try.results15, go_sem, rr_eq, rt]
      exact Fin.val (by rw [hg, if_pos (.inr h2)])
    · simp (disch := omega) only [Try.ntmps15, Try.results15, go_sem, rr_eq, rt]
      refine w1.callV 0 (viewL_cons_of (view_row) (viewL_cons_of (view_rowL (by first | rfl | simp [marks_length, canon_length] | omega)) viewL_nil_of)) ?_
      simp (disch := omega) only [Try.ntmps15, Try.results15, go_sem, rr_eq, rt]
      refine w2.callV 0 (viewL_cons_of (view_row) (viewL_cons_of (view_row) viewL_nil_of)) ?_
      simp (disch := omega) only [Try.ntmps15, Try.results15, go_sem, rr_eq, rt]
      exact Fin.val (by rw [hg, if_neg (by omega)])
end Go.Sh
