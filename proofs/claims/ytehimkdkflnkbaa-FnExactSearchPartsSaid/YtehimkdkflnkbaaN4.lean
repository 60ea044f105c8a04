/-
  Contracts: the components of a graph of positive weights, of the reference; both as one.
-/
import Derived.Test.YtehimkdkflnkbaaN3
namespace Go.Sh
set_option linter.unusedSimpArgs false
set_option linter.unusedVariables false
open Go Go.Proofs

theorem CompL.congr {n : Nat} {B B' : Nat → Nat → Bool} {L : List Int} (h : CompL n B L) (hb : ∀ x y, x < n → y < n → B x y = B' x y) : CompL n B' L := by
  have hr : ∀ x y, Rch n B x y ↔ Rch n B' x y := fun x y => ⟨fun r => r.mono fun x y hx hy h => .one hx hy (by rw [← hb x y hx hy]; exact h), fun r => r.mono fun x y hx hy h => .one hx hy (by rw [hb x y hx hy]; exact h)⟩
  exact ⟨h.len, h.nn, h.can, fun x y hx hy => (h.iff x y hx hy).trans (hr x y)⟩
/-- A square of bools. -/
def Sq (n : Nat) (X : List (List Bool)) : Prop := X.length = n ∧ ∀ i, i < n → (brow X i).length = n
theorem Sq.bz (n : Nat) : Sq n (bz n) := ⟨bz_length n, fun i h => by rw [bz_row h]; simp⟩
theorem Sq.set {n : Nat} {X : List (List Bool)} (h : Sq n X) (i c : Nat) (x : Bool) : Sq n (bset X i c x) := ⟨by rw [bset_length, h.1], fun k hk => by rw [bset_row_length]; exact h.2 k hk⟩

set_option maxHeartbeats 4000000 in
theorem Try.specPC_f (M : List (List Int)) (hM : M.length ≤ 1048576) (hR : ∀ i, i < M.length → (mrow M i).length ≤ 1048576) (hw : WM M) : FCall Try.prog 67 [rr M] (FlatRes M.length 1 (ints (comp M.length (pB M)))) := by
  have hln := hw.1
  have w1 := Try.specIsWM_ok M hM hR
  rw [isWM_t hw] at w1
  refine FCall.of_body Try.func67 rfl (by kernel_rfl) (by simp [Try.ntmps67]) ?_
  refine SW_of_vc Try.mixed _ _ _ (by kernel_rfl) ?_
  simp (disch := omega) only [Try.ntmps67, Try.results67, go_sem, Nat.reduceLT, Nat.reduceLeDiff, Nat.reduceEqDiff, Nat.reduceAdd, Nat.reduceSub, Nat.reduceMul, reduceIte, ↓reduceIte, reduceCtorEq, Int.reduceToNat, Int.reduceLE, Int.reduceLT, Int.reduceNeg, Int.reduceSub, Int.reduceAdd, Int.reduceMul, rr_eq]
  refine w1.callV 0 (viewL_cons_of (view_row) viewL_nil_of) ?_
  simp (disch := omega) only [Try.ntmps67, Try.results67, go_sem, Nat.reduceLT, Nat.reduceLeDiff, Nat.reduceEqDiff, Nat.reduceAdd, Nat.reduceSub, Nat.reduceMul, reduceIte, ↓reduceIte, reduceCtorEq, Int.reduceToNat, Int.reduceLE, Int.reduceLT, Int.reduceNeg, Int.reduceSub, Int.reduceAdd, Int.reduceMul, rr_eq]
  refine (Try.l17Links_one M.length hM).callMat (mb_vals _) 0 (viewL_cons_of (view_int) viewL_nil_of) ?_
  simp (disch := omega) only [Try.ntmps67, Try.results67, go_sem, Nat.reduceLT, Nat.reduceLeDiff, Nat.reduceEqDiff, Nat.reduceAdd, Nat.reduceSub, Nat.reduceMul, reduceIte, ↓reduceIte, reduceCtorEq, Int.reduceToNat, Int.reduceLE, Int.reduceLT, Int.reduceNeg, Int.reduceSub, Int.reduceAdd, Int.reduceMul, rr_eq, bz_length]
  refine LoopW.loop (fun p : Nat × List (List Bool) => ⟨ofL [(0, rr M), (3, .own 0 0 M.length M.length 1 false), (4, .val (.int .i64 p.1))], hx [.mat 0 (mb p.2)] (M.length + 1)⟩)
    (fun p => p.1 ≤ M.length ∧ Sq M.length p.2 ∧ ∀ x y, x < p.1 → y < M.length → bmat p.2 x y = pB M x y) (fun p => M.length - p.1) (0, bz M.length) ⟨by simp, .bz _, fun x y h => by simp at h⟩
    (Wk.ofX (by simp only [go_sem, ↓List.forall_mem_cons, List.not_mem_nil, false_implies, implies_true, and_true, true_and, and_self, Nat.reduceEqDiff, reduceIte, ↓reduceIte, ri_eq, Int.natCast_add, Int.cast_ofNat_Int, rr_eq]; try simp) (by simp only [List.forall_mem_cons]; exact ⟨.self, by simp⟩) (by simp [hx])) ?_
  rintro ⟨i, X⟩ ⟨hi, hX, hXX⟩
  simp only at hi hX hXX
  refine SW_of_vc Try.mixed _ _ _ (by kernel_rfl) ?_
  by_cases hlt : i < M.length
  · simp (disch := omega) only [Try.ntmps67, Try.results67, go_sem, Nat.reduceLT, Nat.reduceLeDiff, Nat.reduceEqDiff, Nat.reduceAdd, Nat.reduceSub, Nat.reduceMul, reduceIte, ↓reduceIte, reduceCtorEq, Int.reduceToNat, Int.reduceLE, Int.reduceLT, Int.reduceNeg, Int.reduceSub, Int.reduceAdd, Int.reduceMul, rr_eq]
    refine LoopW.loop (fun p : Nat × List (List Bool) => ⟨ofL [(0, rr M), (3, .own 0 0 M.length M.length 1 false), (4, .val (.int .i64 i)), (5, .val (.int .i64 p.1))], hx [.mat 0 (mb p.2)] (M.length + 1)⟩)
      (fun p => p.1 ≤ M.length ∧ Sq M.length p.2 ∧ ∀ x y, (x < i ∨ (x = i ∧ y < p.1)) → y < M.length → bmat p.2 x y = pB M x y) (fun p => M.length - p.1) (0, X) ⟨by simp, hX, fun x y h => hXX x y (by simpa using h)⟩
      (Wk.ofX (by simp only [go_sem, ↓List.forall_mem_cons, List.not_mem_nil, false_implies, implies_true, and_true, true_and, and_self, Nat.reduceEqDiff, reduceIte, ↓reduceIte, ri_eq, Int.natCast_add, Int.cast_ofNat_Int, rr_eq]; try simp) (by simp only [List.forall_mem_cons]; exact ⟨.self, by simp⟩) (by simp [hx])) ?_
    rintro ⟨k, Y⟩ ⟨hk, hY, hYY⟩
    simp only at hk hY hYY
    have hYi := hY.2 i hlt
    have hY1 := hY.1
    have hri := hw.2.1 i hlt
    refine SW_of_vc Try.mixed _ _ _ (by kernel_rfl) ?_
    by_cases hlt2 : k < M.length
    · have g1 : (ints (mrow M i))[k]? = some (.val (.int .i64 (mat M i k))) := ints_get' hri hlt2
      have hset := fun x y => bset_at Y i k (pB M i k) (k := x) (d := y) (by omega) (by omega)
      have hfin : ∀ x y, (x < i ∨ (x = i ∧ y < k + 1)) → y < M.length → bmat (bset Y i k (pB M i k)) x y = pB M x y := by
        intro x y h hy
        rw [hset]
        split
        · rename_i e; rw [e.1, e.2]
        · exact hYY x y (by omega) hy
      by_cases hp : 0 < mat M i k
      · have e : pB M i k = true := decide_eq_true hp
        rw [e] at hfin
        generalize mat M i k = v at *
        simp (disch := omega) only [Try.ntmps67, Try.results67, go_sem, Nat.reduceLT, Nat.reduceLeDiff, Nat.reduceEqDiff, Nat.reduceAdd, Nat.reduceSub, Nat.reduceMul, reduceIte, ↓reduceIte, reduceCtorEq, Int.reduceToNat, Int.reduceLE, Int.reduceLT, Int.reduceNeg, Int.reduceSub, Int.reduceAdd, Int.reduceMul, rr_eq, rows_get, hri, g1, outerB_getB, hYi, xmap_rowB, xset_rowB, bools_set, bset_length, hY1]
        exact ⟨(k + 1, bset Y i k true), ⟨hlt2, hY.set _ _ _, hfin⟩, by show M.length - (k + 1) < M.length - k; omega, (Wk.ofX (by simp only [go_sem, ↓List.forall_mem_cons, List.not_mem_nil, false_implies, implies_true, and_true, true_and, and_self, Nat.reduceEqDiff, reduceIte, ↓reduceIte, ri_eq, Int.natCast_add, Int.cast_ofNat_Int, rr_eq]; try simp) (by simp only [List.forall_mem_cons]; exact ⟨.self, by simp⟩) (by simp [hx]))⟩
      · have e : pB M i k = false := decide_eq_false hp
        rw [e] at hfin
        generalize mat M i k = v at *
        simp (disch := omega) only [Try.ntmps67, Try.results67, go_sem, Nat.reduceLT, Nat.reduceLeDiff, Nat.reduceEqDiff, Nat.reduceAdd, Nat.reduceSub, Nat.reduceMul, reduceIte, ↓reduceIte, reduceCtorEq, Int.reduceToNat, Int.reduceLE, Int.reduceLT, Int.reduceNeg, Int.reduceSub, Int.reduceAdd, Int.reduceMul, rr_eq, rows_get, hri, g1, outerB_getB, hYi, xmap_rowB, xset_rowB, bools_set, bset_length, hY1]
        exact ⟨(k + 1, bset Y i k false), ⟨hlt2, hY.set _ _ _, hfin⟩, by show M.length - (k + 1) < M.length - k; omega, (Wk.ofX (by simp only [go_sem, ↓List.forall_mem_cons, List.not_mem_nil, false_implies, implies_true, and_true, true_and, and_self, Nat.reduceEqDiff, reduceIte, ↓reduceIte, ri_eq, Int.natCast_add, Int.cast_ofNat_Int, rr_eq]; try simp) (by simp only [List.forall_mem_cons]; exact ⟨.self, by simp⟩) (by simp [hx]))⟩
    · simp (disch := omega) only [Try.ntmps67, Try.results67, go_sem, Nat.reduceLT, Nat.reduceLeDiff, Nat.reduceEqDiff, Nat.reduceAdd, Nat.reduceSub, Nat.reduceMul, reduceIte, ↓reduceIte, reduceCtorEq, Int.reduceToNat, Int.reduceLE, Int.reduceLT, Int.reduceNeg, Int.reduceSub, Int.reduceAdd, Int.reduceMul, rr_eq]
      exact ⟨(i + 1, Y), ⟨hlt, hY, fun x y h hy => hYY x y (by omega) hy⟩, by show M.length - (i + 1) < M.length - i; omega, (Wk.ofX (by simp only [go_sem, ↓List.forall_mem_cons, List.not_mem_nil, false_implies, implies_true, and_true, true_and, and_self, Nat.reduceEqDiff, reduceIte, ↓reduceIte, ri_eq, Int.natCast_add, Int.cast_ofNat_Int, rr_eq]; try simp) (by simp only [List.forall_mem_cons]; exact ⟨.self, by simp⟩) (by simp [hx]))⟩
  · have hB : ∀ x y, x < M.length → y < M.length → bmat X x y = pB M x y := fun x y hx hy => hXX x y (by omega) hy
    have w := Try.l17Labels_f M.length X hM hX.1 hX.2 (fun x y hx hy h => by rw [hB y x hy hx]; rw [hB x y hx hy] at h; exact hw.sym x y hx hy h)
    have w2 : FCall Try.prog 116 [.val (.int .i64 M.length), rb X] (FlatRes M.length 1 (ints (comp M.length (pB M)))) := w.mono fun r H ⟨h1, h2⟩ => by
      rw [(h1.congr hB).eq] at h2; exact h2
    simp (disch := omega) only [Try.ntmps67, Try.results67, go_sem, Nat.reduceLT, Nat.reduceLeDiff, Nat.reduceEqDiff, Nat.reduceAdd, Nat.reduceSub, Nat.reduceMul, reduceIte, ↓reduceIte, reduceCtorEq, Int.reduceToNat, Int.reduceLE, Int.reduceLT, Int.reduceNeg, Int.reduceSub, Int.reduceAdd, Int.reduceMul, rr_eq]
    refine w2.one.callOne (ints_vals _) 2 (viewL_cons_of view_int (viewL_cons_of (view_mb .self hX.1.symm) viewL_nil_of)) ?_
    simp (disch := omega) only [Try.ntmps67, Try.results67, go_sem, Nat.reduceLT, Nat.reduceLeDiff, Nat.reduceEqDiff, Nat.reduceAdd, Nat.reduceSub, Nat.reduceMul, reduceIte, ↓reduceIte, reduceCtorEq, Int.reduceToNat, Int.reduceLE, Int.reduceLT, Int.reduceNeg, Int.reduceSub, Int.reduceAdd, Int.reduceMul, rr_eq]
    exact fin_ints (comp_ok hw.sym).len.symm (by rw [hx_map, xmap_blk, if_pos rfl])
theorem Try.specPC_not (M : List (List Int)) (hM : M.length ≤ 1048576) (hR : ∀ i, i < M.length → (mrow M i).length ≤ 1048576) (hw : ¬ WM M) : FCall Try.prog 67 [rr M] (FlatRes 0 1 (ints [])) := by
  have w1 := Try.specIsWM_ok M hM hR
  rw [isWM_f hw] at w1
  refine FCall.of_body Try.func67 rfl (by kernel_rfl) (by simp [Try.ntmps67]) ?_
  refine SW_of_vc Try.mixed _ _ _ (by kernel_rfl) ?_
  simp (disch := omega) only [Try.ntmps67, Try.results67, go_sem, Nat.reduceLT, Nat.reduceLeDiff, Nat.reduceEqDiff, Nat.reduceAdd, Nat.reduceSub, Nat.reduceMul, reduceIte, ↓reduceIte, reduceCtorEq, Int.reduceToNat, Int.reduceLE, Int.reduceLT, Int.reduceNeg, Int.reduceSub, Int.reduceAdd, Int.reduceMul, rr_eq]
  refine w1.callV 0 (viewL_cons_of (view_row) viewL_nil_of) ?_
  simp (disch := omega) only [Try.ntmps67, Try.results67, go_sem, Nat.reduceLT, Nat.reduceLeDiff, Nat.reduceEqDiff, Nat.reduceAdd, Nat.reduceSub, Nat.reduceMul, reduceIte, ↓reduceIte, reduceCtorEq, Int.reduceToNat, Int.reduceLE, Int.reduceLT, Int.reduceNeg, Int.reduceSub, Int.reduceAdd, Int.reduceMul, rr_eq]
  exact fin_ints (L := []) (b := 0) (e2 := false) rfl rfl

noncomputable def pcomp (M : List (List Int)) : List Int := if isWM M = true then comp M.length (pB M) else []
theorem pcomp_t {M : List (List Int)} (h : WM M) : pcomp M = comp M.length (pB M) := by rw [pcomp, if_pos (isWM_t h)]
theorem pcomp_f {M : List (List Int)} (h : ¬ WM M) : pcomp M = [] := by rw [pcomp, if_neg (by rw [isWM_f h]; simp)]
theorem pcomp_length {M : List (List Int)} (h : WM M) : (pcomp M).length = M.length := by rw [pcomp_t h]; exact (comp_ok h.sym).len
theorem Try.specPC_ok (M : List (List Int)) (hM : M.length ≤ 1048576) (hR : ∀ i, i < M.length → (mrow M i).length ≤ 1048576) : PCall Try.prog 67 [rr M] (ri (pcomp M)) := by
  by_cases h : WM M
  · rw [pcomp_t h]; exact (Try.specPC_f M hM hR h).pcall 2 (fun _ _ h => flat_view h)
  · rw [pcomp_f h]; exact (Try.specPC_not M hM hR h).pcall 2 (fun _ _ h => flat_view h)
theorem Try.implPC_one (M : List (List Int)) (hM : M.length ≤ 1048576) (hR : ∀ i, i < M.length → (mrow M i).length ≤ 1048576) (h : WM M) : FCall Try.prog 73 [rr M] (OneRes M.length 1 (ints (pcomp M))) := by
  rw [pcomp_t h]
  exact ((Try.implPC_f M hM hR h).mono fun _ _ h => h.2).one
theorem Try.implPC_ok (M : List (List Int)) (hM : M.length ≤ 1048576) (hR : ∀ i, i < M.length → (mrow M i).length ≤ 1048576) : PCall Try.prog 73 [rr M] (ri (pcomp M)) := by
  by_cases h : WM M
  · exact (Try.implPC_one M hM hR h).pcall 2 (fun _ _ g => one_view g (pcomp_length h).symm)
  · rw [pcomp_f h]; exact (Try.implPC_nil M hM hR h).pcall 0 (by rintro r H rfl; exact view_nil)
end Go.Sh
