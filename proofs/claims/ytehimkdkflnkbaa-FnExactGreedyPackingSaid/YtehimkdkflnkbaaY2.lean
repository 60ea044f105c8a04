/-
  Is a list of triangles a packing? Of the program.
-/
import Derived.Test.YtehimkdkflnkbaaY1
import Derived.Test.YtehimkdkflnkbaaW1
import Derived.Test.YtehimkdkflnkbaaN5
namespace Go.Sh
set_option linter.unusedSimpArgs false
set_option linter.unusedVariables false
open Go Go.Proofs

/-- The matrix after j of a triangle's three pairs. -/
def U3 (U : List (List Int)) (a b c : Nat) (w : Int) : Nat → List (List Int)
  | 0 => U
  | 1 => mset U a b (mat U a b + w)
  | 2 => mset (mset U a b (mat U a b + w)) a c (mat U a c + w)
  | _ => mset (mset (mset U a b (mat U a b + w)) a c (mat U a c + w)) b c (mat U b c + w)
theorem U3_0 (U : List (List Int)) (a b c : Nat) (w : Int) : U3 U a b c w 0 = U := rfl
theorem U3_1 (U : List (List Int)) (a b c : Nat) (w : Int) : U3 U a b c w 1 = mset (U3 U a b c w 0) a b (mat U a b + w) := rfl
theorem U3_2 (U : List (List Int)) (a b c : Nat) (w : Int) : U3 U a b c w 2 = mset (U3 U a b c w 1) a c (mat U a c + w) := rfl
theorem U3_3 (U : List (List Int)) (a b c : Nat) (w : Int) : U3 U a b c w 3 = mset (U3 U a b c w 2) b c (mat U b c + w) := rfl
theorem U3_sq {n : Nat} {U : List (List Int)} (h : SqI n U) (a b c : Nat) (w : Int) : ∀ j, SqI n (U3 U a b c w j)
  | 0 => h
  | 1 => h.set _ _ _
  | 2 => (h.set _ _ _).set _ _ _
  | _ + 3 => ((h.set _ _ _).set _ _ _).set _ _ _
theorem U3_a1 {n : Nat} {U : List (List Int)} (h : SqI n U) {a b c : Nat} (hab : a < b) (hbc : b < c) (hc : c < n) (w : Int) : mat (U3 U a b c w 1) a c = mat U a c := by
  have h1 := h.1
  have h2 := h.2 a (by omega)
  rw [U3_1, U3_0, mset_at _ _ _ _ (by omega) (by omega), if_neg (by omega)]
theorem U3_a2 {n : Nat} {U : List (List Int)} (h : SqI n U) {a b c : Nat} (hab : a < b) (hbc : b < c) (hc : c < n) (w : Int) : mat (U3 U a b c w 2) b c = mat U b c := by
  have hs := U3_sq h a b c w 1
  have h1 := hs.1
  have h2 := hs.2 a (by omega)
  have g1 := h.1
  have g2 := h.2 a (by omega)
  rw [U3_2, mset_at _ _ _ _ (by omega) (by omega), if_neg (by omega), U3_1, U3_0, mset_at _ _ _ _ (by omega) (by omega), if_neg (by omega)]
theorem U3_end {n : Nat} {U : List (List Int)} (h : SqI n U) {a b c : Nat} (hab : a < b) (hbc : b < c) (hc : c < n) (w : Int) (x y : Nat) :
    mat (U3 U a b c w 3) x y = mat U x y + (if hitT ((a : Int), (b : Int), (c : Int), w) x y = true then w else 0) := by
  have s1 := U3_sq h a b c w 1
  have s2 := U3_sq h a b c w 2
  have q0 := h.1
  have q1 := s1.1
  have q2 := s2.1
  have r0 := h.2 a (by omega)
  have r1 := s1.2 a (by omega)
  have r2 := s2.2 b (by omega)
  rw [U3_3, mset_at _ _ _ _ (by omega) (by omega), U3_2, mset_at _ _ _ _ (by omega) (by omega), U3_1, U3_0, mset_at _ _ _ _ (by omega) (by omega)]
  have e : hitT ((a : Int), (b : Int), (c : Int), w) x y = (decide (a = x ∧ b = y) || (decide (a = x ∧ c = y) || decide (b = x ∧ c = y))) := by
    simp only [hitT, ← Bool.decide_and]
    congr 1
    · exact decide_eq_decide.2 (by omega)
    · congr 1
      · exact decide_eq_decide.2 (by omega)
      · exact decide_eq_decide.2 (by omega)
  rw [e]
  by_cases e1 : x = b ∧ y = c
  · rw [if_pos e1, e1.1, e1.2, if_pos (by simp)]
  · rw [if_neg e1]
    by_cases e2 : x = a ∧ y = c
    · rw [if_pos e2, e2.1, e2.2, if_pos (by simp)]
    · rw [if_neg e2]
      by_cases e3 : x = a ∧ y = b
      · rw [if_pos e3, e3.1, e3.2, if_pos (by simp)]
      · rw [if_neg e3, if_neg (by simp; omega)]; omega

set_option maxRecDepth 20000 in
set_option maxHeartbeats 8000000 in
theorem Try.implPack_ok (M : List (List Int)) (T : List Tri) (hM : M.length ≤ 1048576) (hR : ∀ i, i < M.length → (mrow M i).length ≤ 1048576) (hT : T.length ≤ 1048576) : PCall Try.prog 112 [rr M, rt T] (.val (.bool (isPk M T))) := by
  refine FCall.pcall (R := fun r _ => r = .val (.bool (isPk M T))) ?_ 0 (by rintro r H rfl; exact view_bool)
  have w1 := Try.implIsWM_ok M hM hR
  have lT := encL_length (enc := tri4) (z := 4) tri4_z T
  refine FCall.of_body Try.func112 rfl (by kernel_rfl) (by simp [Try.ntmps112]) ?_
  refine SW_of_vc Try.mixed _ _ _ (by kernel_rfl) ?_
  by_cases hw : WM M
  case neg =>
    rw [isWM_f hw] at w1
    simp (disch := omega) only [Try.ntmps112, Try.results112, go_sem, Nat.reduceLT, Nat.reduceLeDiff, Nat.reduceEqDiff, Nat.reduceAdd, Nat.reduceSub, Nat.reduceMul, reduceIte, ↓reduceIte, reduceCtorEq, Int.reduceToNat, Int.reduceLE, Int.reduceLT, Int.reduceNeg, Int.reduceSub, Int.reduceAdd, Int.reduceMul, rr_eq, rt]
    refine w1.callV 0 (viewL_cons_of (view_row) viewL_nil_of) ?_
    simp (disch := omega) only [Try.ntmps112, Try.results112, go_sem, Nat.reduceLT, Nat.reduceLeDiff, Nat.reduceEqDiff, Nat.reduceAdd, Nat.reduceSub, Nat.reduceMul, reduceIte, ↓reduceIte, reduceCtorEq, Int.reduceToNat, Int.reduceLE, Int.reduceLT, Int.reduceNeg, Int.reduceSub, Int.reduceAdd, Int.reduceMul, rr_eq, rt]
    exact Fin.val (by rw [isPk_f (fun g => hw g.1)])
  rw [isWM_t hw] at w1
  by_cases hl : 100 < T.length
  · simp (disch := omega) only [Try.ntmps112, Try.results112, go_sem, Nat.reduceLT, Nat.reduceLeDiff, Nat.reduceEqDiff, Nat.reduceAdd, Nat.reduceSub, Nat.reduceMul, reduceIte, ↓reduceIte, reduceCtorEq, Int.reduceToNat, Int.reduceLE, Int.reduceLT, Int.reduceNeg, Int.reduceSub, Int.reduceAdd, Int.reduceMul, rr_eq, rt]
    refine w1.callV 0 (viewL_cons_of (view_row) viewL_nil_of) ?_
    simp (disch := omega) only [Try.ntmps112, Try.results112, go_sem, Nat.reduceLT, Nat.reduceLeDiff, Nat.reduceEqDiff, Nat.reduceAdd, Nat.reduceSub, Nat.reduceMul, reduceIte, ↓reduceIte, reduceCtorEq, Int.reduceToNat, Int.reduceLE, Int.reduceLT, Int.reduceNeg, Int.reduceSub, Int.reduceAdd, Int.reduceMul, rr_eq, rt]
    exact Fin.val (by rw [isPk_f (fun g => by have := g.2.1; omega)])
  have hln := hw.1
  simp (disch := omega) only [Try.ntmps112, Try.results112, go_sem, Nat.reduceLT, Nat.reduceLeDiff, Nat.reduceEqDiff, Nat.reduceAdd, Nat.reduceSub, Nat.reduceMul, reduceIte, ↓reduceIte, reduceCtorEq, Int.reduceToNat, Int.reduceLE, Int.reduceLT, Int.reduceNeg, Int.reduceSub, Int.reduceAdd, Int.reduceMul, rr_eq, rt]
  refine w1.callV 0 (viewL_cons_of (view_row) viewL_nil_of) ?_
  simp (disch := omega) only [Try.ntmps112, Try.results112, go_sem, Nat.reduceLT, Nat.reduceLeDiff, Nat.reduceEqDiff, Nat.reduceAdd, Nat.reduceSub, Nat.reduceMul, reduceIte, ↓reduceIte, reduceCtorEq, Int.reduceToNat, Int.reduceLE, Int.reduceLT, Int.reduceNeg, Int.reduceSub, Int.reduceAdd, Int.reduceMul, rr_eq, rt]
  refine (Try.square_one M.length hM).callMat (mi_vals _) 0 (viewL_cons_of (view_int) viewL_nil_of) ?_
  simp (disch := omega) only [Try.ntmps112, Try.results112, go_sem, Nat.reduceLT, Nat.reduceLeDiff, Nat.reduceEqDiff, Nat.reduceAdd, Nat.reduceSub, Nat.reduceMul, reduceIte, ↓reduceIte, reduceCtorEq, Int.reduceToNat, Int.reduceLE, Int.reduceLT, Int.reduceNeg, Int.reduceSub, Int.reduceAdd, Int.reduceMul, rr_eq, rt, zs_length]
  refine LoopW.loop (fun p : Nat × List (List Int) × Nat => ⟨ofL [(0, rr M), (5, .own 0 0 M.length M.length 1 false), (21, rt T), (22, .val (.int .i64 T.length)), (23, .val (.int .i64 p.1))], hx [.mat 0 (mi p.2.1)] p.2.2⟩)
    (fun p => p.1 ≤ T.length ∧ SqI M.length p.2.1 ∧ M.length < p.2.2 ∧ (∀ k, k < p.1 → isBT M (tg T k).1 (tg T k).2.1 (tg T k).2.2.1 = true ∧ 1 ≤ (tg T k).2.2.2 ∧ (tg T k).2.2.2 ≤ 1000) ∧ (∀ x y, mat p.2.1 x y = usedT (T.take p.1) x y) ∧ ∀ x y, x < y → y < M.length → mat p.2.1 x y ≤ absI (mat M x y)) (fun p => T.length - p.1) (0, zs M.length, M.length + 1)
    ⟨by simp, .zs _, by simp, fun k h => by simp at h, fun x y => by rw [zs_at]; rfl, fun x y _ _ => by rw [zs_at]; exact absI_nonneg _⟩
    (Wk.ofX (by simp only [go_sem, ↓List.forall_mem_cons, List.not_mem_nil, false_implies, implies_true, and_true, true_and, and_self, Nat.reduceEqDiff, reduceIte, ↓reduceIte, ri_eq, Int.natCast_add, Int.cast_ofNat_Int, rr_eq, rt]; try simp) (by simp only [List.forall_mem_cons]; exact ⟨.self, by simp⟩) (Nat.le_refl _)) ?_
  rintro ⟨k, U, nb⟩ ⟨hk, hU, hnb, hok, hused, hle⟩
  simp only at hk hU hnb hok hused hle
  refine SW_of_vc Try.mixed _ _ _ (by kernel_rfl) ?_
  by_cases hlt : k < T.length
  case neg =>
    have hkl : k = T.length := by omega
    simp (disch := omega) only [Try.ntmps112, Try.results112, go_sem, Nat.reduceLT, Nat.reduceLeDiff, Nat.reduceEqDiff, Nat.reduceAdd, Nat.reduceSub, Nat.reduceMul, reduceIte, ↓reduceIte, reduceCtorEq, Int.reduceToNat, Int.reduceLE, Int.reduceLT, Int.reduceNeg, Int.reduceSub, Int.reduceAdd, Int.reduceMul, rr_eq, rt]
    refine Fin.val ?_
    rw [isPk_t ⟨hw, by omega, by rw [← hkl]; exact hok, fun x y hxy hy => ?_⟩]
    have := hle x y hxy hy
    rw [hused, hkl, List.take_length] at this
    exact this
  obtain ⟨a, b, c, w, ht⟩ := tri_ex T k
  obtain ⟨_, _, _, _, q⟩ := tri_of hlt ht
  have hbad : ¬ (isBT M a b c = true ∧ 1 ≤ w ∧ w ≤ 1000) → isPk M T = false := fun h => isPk_f fun g => h (by have := g.2.2.1 k hlt; rw [ht] at this; exact this)
  have w2 := Try.isTriangle_ok a b c w M.length (by omega) (by omega)
  rcases Bool.eq_false_or_eq_true (triB M.length a b c) with h2 | h2
  case inr =>
    rw [h2] at w2
    simp (disch := omega) only [Try.ntmps112, Try.results112, go_sem, Nat.reduceLT, Nat.reduceLeDiff, Nat.reduceEqDiff, Nat.reduceAdd, Nat.reduceSub, Nat.reduceMul, reduceIte, ↓reduceIte, reduceCtorEq, Int.reduceToNat, Int.reduceLE, Int.reduceLT, Int.reduceNeg, Int.reduceSub, Int.reduceAdd, Int.reduceMul, rr_eq, rt, lT, q, rep4c]
    refine w2.callV 1 (viewL_cons_of view_tri (viewL_cons_of view_int viewL_nil_of)) ?_
    simp (disch := omega) only [Try.ntmps112, Try.results112, go_sem, Nat.reduceLT, Nat.reduceLeDiff, Nat.reduceEqDiff, Nat.reduceAdd, Nat.reduceSub, Nat.reduceMul, reduceIte, ↓reduceIte, reduceCtorEq, Int.reduceToNat, Int.reduceLE, Int.reduceLT, Int.reduceNeg, Int.reduceSub, Int.reduceAdd, Int.reduceMul, rr_eq, rt, lT, q]
    exact Fin.val (by rw [hbad (fun g => by have := g.1; rw [isBT, h2, Bool.false_and, Bool.and_false] at this; cases this)])
  rw [h2] at w2
  have w3 := Try.isBad_ok M a b c w hln.2 hw.2.1 h2
  rcases Bool.eq_false_or_eq_true (badB (mat M a.toNat b.toNat) (mat M a.toNat c.toNat) (mat M b.toNat c.toNat)) with h3 | h3
  case inr =>
    rw [h3] at w3
    simp (disch := omega) only [Try.ntmps112, Try.results112, go_sem, Nat.reduceLT, Nat.reduceLeDiff, Nat.reduceEqDiff, Nat.reduceAdd, Nat.reduceSub, Nat.reduceMul, reduceIte, ↓reduceIte, reduceCtorEq, Int.reduceToNat, Int.reduceLE, Int.reduceLT, Int.reduceNeg, Int.reduceSub, Int.reduceAdd, Int.reduceMul, rr_eq, rt, lT, q, rep4c]
    refine w2.callV 1 (viewL_cons_of view_tri (viewL_cons_of view_int viewL_nil_of)) ?_
    simp (disch := omega) only [Try.ntmps112, Try.results112, go_sem, Nat.reduceLT, Nat.reduceLeDiff, Nat.reduceEqDiff, Nat.reduceAdd, Nat.reduceSub, Nat.reduceMul, reduceIte, ↓reduceIte, reduceCtorEq, Int.reduceToNat, Int.reduceLE, Int.reduceLT, Int.reduceNeg, Int.reduceSub, Int.reduceAdd, Int.reduceMul, rr_eq, rt, lT, q]
    refine w3.callV 1 (viewL_cons_of view_tri (viewL_cons_of view_row viewL_nil_of)) ?_
    simp (disch := omega) only [Try.ntmps112, Try.results112, go_sem, Nat.reduceLT, Nat.reduceLeDiff, Nat.reduceEqDiff, Nat.reduceAdd, Nat.reduceSub, Nat.reduceMul, reduceIte, ↓reduceIte, reduceCtorEq, Int.reduceToNat, Int.reduceLE, Int.reduceLT, Int.reduceNeg, Int.reduceSub, Int.reduceAdd, Int.reduceMul, rr_eq, rt, lT, q]
    exact Fin.val (by rw [hbad (fun g => by have := g.1; rw [isBT, h3, Bool.and_false, Bool.and_false] at this; cases this)])
  rw [h3] at w3
  have w4 := Try.within_ok w 1 1000
  rcases Bool.eq_false_or_eq_true (inR w 1 1000) with h4 | h4
  case inr =>
    rw [h4] at w4
    simp (disch := omega) only [Try.ntmps112, Try.results112, go_sem, Nat.reduceLT, Nat.reduceLeDiff, Nat.reduceEqDiff, Nat.reduceAdd, Nat.reduceSub, Nat.reduceMul, reduceIte, ↓reduceIte, reduceCtorEq, Int.reduceToNat, Int.reduceLE, Int.reduceLT, Int.reduceNeg, Int.reduceSub, Int.reduceAdd, Int.reduceMul, rr_eq, rt, lT, q, rep4c]
    refine w2.callV 1 (viewL_cons_of view_tri (viewL_cons_of view_int viewL_nil_of)) ?_
    simp (disch := omega) only [Try.ntmps112, Try.results112, go_sem, Nat.reduceLT, Nat.reduceLeDiff, Nat.reduceEqDiff, Nat.reduceAdd, Nat.reduceSub, Nat.reduceMul, reduceIte, ↓reduceIte, reduceCtorEq, Int.reduceToNat, Int.reduceLE, Int.reduceLT, Int.reduceNeg, Int.reduceSub, Int.reduceAdd, Int.reduceMul, rr_eq, rt, lT, q]
    refine w3.callV 1 (viewL_cons_of view_tri (viewL_cons_of view_row viewL_nil_of)) ?_
    simp (disch := omega) only [Try.ntmps112, Try.results112, go_sem, Nat.reduceLT, Nat.reduceLeDiff, Nat.reduceEqDiff, Nat.reduceAdd, Nat.reduceSub, Nat.reduceMul, reduceIte, ↓reduceIte, reduceCtorEq, Int.reduceToNat, Int.reduceLE, Int.reduceLT, Int.reduceNeg, Int.reduceSub, Int.reduceAdd, Int.reduceMul, rr_eq, rt, lT, q]
    refine w4.callV 0 (viewL_cons_of (view_int) (viewL_cons_of (view_int) (viewL_cons_of (view_int) viewL_nil_of))) ?_
    simp (disch := omega) only [Try.ntmps112, Try.results112, go_sem, Nat.reduceLT, Nat.reduceLeDiff, Nat.reduceEqDiff, Nat.reduceAdd, Nat.reduceSub, Nat.reduceMul, reduceIte, ↓reduceIte, reduceCtorEq, Int.reduceToNat, Int.reduceLE, Int.reduceLT, Int.reduceNeg, Int.reduceSub, Int.reduceAdd, Int.reduceMul, rr_eq, rt, lT, q]
    exact Fin.val (by rw [hbad (fun g => inR_not h4 g.2)])
  rw [h4] at w4
  obtain ⟨v1, v2⟩ := inR_of h4
  have hbt : isBT M a b c = true := by rw [isBT, isWM_t hw, h2, h3]; rfl
  obtain ⟨a', b', c', rfl, rfl, rfl, hab, hbc, hcn, _⟩ := triB_of hbt
  have w5 := Try.pairs_ok a' b' c' w
  clear hbad h3 w1
  simp (disch := omega) only [Try.ntmps112, Try.results112, go_sem, Nat.reduceLT, Nat.reduceLeDiff, Nat.reduceEqDiff, Nat.reduceAdd, Nat.reduceSub, Nat.reduceMul, reduceIte, ↓reduceIte, reduceCtorEq, Int.reduceToNat, Int.reduceLE, Int.reduceLT, Int.reduceNeg, Int.reduceSub, Int.reduceAdd, Int.reduceMul, rr_eq, rt, lT, q, rep4c]
  refine w2.callV 1 (viewL_cons_of view_tri (viewL_cons_of view_int viewL_nil_of)) ?_
  simp (disch := omega) only [Try.ntmps112, Try.results112, go_sem, Nat.reduceLT, Nat.reduceLeDiff, Nat.reduceEqDiff, Nat.reduceAdd, Nat.reduceSub, Nat.reduceMul, reduceIte, ↓reduceIte, reduceCtorEq, Int.reduceToNat, Int.reduceLE, Int.reduceLT, Int.reduceNeg, Int.reduceSub, Int.reduceAdd, Int.reduceMul, rr_eq, rt, lT, q]
  refine w3.callV 1 (viewL_cons_of view_tri (viewL_cons_of view_row viewL_nil_of)) ?_
  simp (disch := omega) only [Try.ntmps112, Try.results112, go_sem, Nat.reduceLT, Nat.reduceLeDiff, Nat.reduceEqDiff, Nat.reduceAdd, Nat.reduceSub, Nat.reduceMul, reduceIte, ↓reduceIte, reduceCtorEq, Int.reduceToNat, Int.reduceLE, Int.reduceLT, Int.reduceNeg, Int.reduceSub, Int.reduceAdd, Int.reduceMul, rr_eq, rt, lT, q]
  refine w4.callV 0 (viewL_cons_of (view_int) (viewL_cons_of (view_int) (viewL_cons_of (view_int) viewL_nil_of))) ?_
  simp (disch := omega) only [Try.ntmps112, Try.results112, go_sem, Nat.reduceLT, Nat.reduceLeDiff, Nat.reduceEqDiff, Nat.reduceAdd, Nat.reduceSub, Nat.reduceMul, reduceIte, ↓reduceIte, reduceCtorEq, Int.reduceToNat, Int.reduceLE, Int.reduceLT, Int.reduceNeg, Int.reduceSub, Int.reduceAdd, Int.reduceMul, rr_eq, rt, lT, q]
  refine w5.callV 1 (viewL_cons_of view_tri viewL_nil_of) ?_
  simp (disch := omega) only [Try.ntmps112, Try.results112, go_sem, Nat.reduceLT, Nat.reduceLeDiff, Nat.reduceEqDiff, Nat.reduceAdd, Nat.reduceSub, Nat.reduceMul, reduceIte, ↓reduceIte, reduceCtorEq, Int.reduceToNat, Int.reduceLE, Int.reduceLT, Int.reduceNeg, Int.reduceSub, Int.reduceAdd, Int.reduceMul, rr_eq, rt, lT, q]
  have hsucc := fun x y => usedT_succ hlt x y
  rw [ht] at hsucc
  refine LoopW.loop (fun p : Nat × Nat => ⟨ofL [(0, rr M), (5, .own 0 0 M.length M.length 1 false), (7, .optr nb 0), (21, rt T), (22, .val (.int .i64 T.length)), (23, .val (.int .i64 k)), (45, .agg [.val (.int .i64 a'), .val (.int .i64 b'), .val (.int .i64 a'), .val (.int .i64 c'), .val (.int .i64 b'), .val (.int .i64 c')]), (46, .val (.int .i64 p.1))],
      hx [.blk nb ⟨[.val (.int .i64 a'), .val (.int .i64 b'), .val (.int .i64 c'), .val (.int .i64 w)], true⟩, .mat 0 (mi (U3 U a' b' c' w p.1))] p.2⟩)
    (fun p => p.1 ≤ 3 ∧ nb < p.2 ∧ (0 < p.1 → mat U a' b' + w ≤ absI (mat M a' b')) ∧ (1 < p.1 → mat U a' c' + w ≤ absI (mat M a' c')) ∧ (2 < p.1 → mat U b' c' + w ≤ absI (mat M b' c'))) (fun p => 3 - p.1) (0, nb + 1) ⟨by simp, by simp, by simp, by simp, by simp⟩
    (Wk.ofX (by simp only [go_sem, ↓List.forall_mem_cons, List.not_mem_nil, false_implies, implies_true, and_true, true_and, and_self, Nat.reduceEqDiff, reduceIte, ↓reduceIte, ri_eq, Int.natCast_add, Int.cast_ofNat_Int, rr_eq, rt]; try simp) (by simp only [List.forall_mem_cons]; exact ⟨by simp [EntIn, hx_map, xmap_blk], EntIn.self.skipM (by have := hU.1; simp only [mi_length, U3_0]; omega), by simp⟩) (Nat.le_refl _)) ?_
  rintro ⟨j, nb2⟩ ⟨hj, hnb2, hc1, hc2, hc3⟩
  simp only at hj hnb2 hc1 hc2 hc3
  have hsq := fun j => U3_sq hU a' b' c' w j
  have ke := U3_end hU hab hbc hcn w
  have hnn : ∀ x y, 0 ≤ mat U x y := fun x y => by
    rw [hused]
    exact (usedT_r (T := T.take k) (fun i hi => by
      have hi2 : i < k := by rw [List.length_take] at hi; omega
      have := (hok i hi2).2
      have e : tg (T.take k) i = tg T i := by simp [tg, List.getElem?_take, hi2]
      rw [e]; exact this) x y (T.take k).length (Nat.le_refl _)).1 |> fun h => by rwa [List.take_length] at h
  have hMle : ∀ x y, x < M.length → y < M.length → absI (mat M x y) ≤ 1000 := fun x y hx hy => by
    have := (hw.2.2.1 x y hx hy).1
    unfold absI; split <;> omega
  refine SW_of_vc Try.mixed _ _ _ (by kernel_rfl) ?_
  rcases (by omega : j = 0 ∨ j = 1 ∨ j = 2 ∨ j = 3) with rfl | rfl | rfl | rfl
  · have hV := hsq 0
    have hv : mat (U3 U a' b' c' w 0) a' b' = mat U a' b' := rfl
    have hnext := U3_1 U a' b' c' w
    have hhit : hitT ((a' : Int), (b' : Int), (c' : Int), w) a' b' = true := by simp [hitT]
    have hov : absI (mat M a' b') < mat U a' b' + w → isPk M T = false := fun h => pack_over hlt (x := a') (y := b') (by omega) (by omega) (by rw [hsucc, if_pos hhit, ← hused]; exact h)
    have hU1 := hnn a' b'
    have hU2 := hle a' b' (by omega) (by omega)
    have hm1 := hMle a' b' (by omega) (by omega)
    have wab := Try.absolute_ok (mat M a' b') (by have := (hw.2.2.1 a' b' (by omega) (by omega)).1; omega) (by have := (hw.2.2.1 a' b' (by omega) (by omega)).1; omega)
    have rM := hw.2.1 a' (by omega)
    have gM : (ints (mrow M a'))[b']? = some (.val (.int .i64 (mat M a' b'))) := ints_get' rM (by omega)
    generalize U3 U a' b' c' w 0 = V at *
    have hV1 := hV.1
    have rV := hV.2 a' (by omega)
    have gV : (ints (mrow V a'))[b']? = some (.val (.int .i64 (mat V a' b'))) := ints_get' rV (by omega)
    rw [hv] at gV
    have l2 : (mset V a' b' (mat U a' b' + w)).length = M.length := by rw [mset_length, hV1]
    have r2 : (mrow (mset V a' b' (mat U a' b' + w)) a').length = M.length := by rw [mset_row_length, rV]
    have g2 : (ints (mrow (mset V a' b' (mat U a' b' + w)) a'))[b']? = some (.val (.int .i64 (mat U a' b' + w))) := by
      rw [ints_get' r2 (by omega)]
      have := mset_at V a' b' (mat U a' b' + w) (k := a') (d := b') (by omega) (by omega)
      rw [if_pos ⟨rfl, rfl⟩] at this
      exact congrArg (fun z => some (SV.val (Value.int IntKind.i64 z))) this
    by_cases hover : absI (mat M a' b') < mat U a' b' + w
    · have hov2 := hov hover
      clear hov
      generalize absI (mat M a' b') = am at *
      generalize mat M a' b' = mm at *
      generalize mat U a' b' = u at *
      simp (disch := omega) only [Try.ntmps112, Try.results112, go_sem, Nat.reduceLT, Nat.reduceLeDiff, Nat.reduceEqDiff, Nat.reduceAdd, Nat.reduceSub, Nat.reduceMul, reduceIte, ↓reduceIte, reduceCtorEq, Int.reduceToNat, Int.reduceLE, Int.reduceLT, Int.reduceNeg, Int.reduceSub, Int.reduceAdd, Int.reduceMul, rr_eq, rt, xmap_skipI, xmap_rowI, xset_rowI, outerB_getI, rV, gV, hV1, l2, r2, g2, rows_get, rM, gM]
      refine wab.callDV 0 (viewL_cons_of (view_int) viewL_nil_of) ?_
      simp (disch := omega) only [Try.ntmps112, Try.results112, go_sem, Nat.reduceLT, Nat.reduceLeDiff, Nat.reduceEqDiff, Nat.reduceAdd, Nat.reduceSub, Nat.reduceMul, reduceIte, ↓reduceIte, reduceCtorEq, Int.reduceToNat, Int.reduceLE, Int.reduceLT, Int.reduceNeg, Int.reduceSub, Int.reduceAdd, Int.reduceMul, rr_eq, rt, xmap_skipI, xmap_rowI, xset_rowI, outerB_getI, rV, gV, hV1, l2, r2, g2, rows_get, rM, gM]
      exact Fin.val (by rw [hov2])
    · have hstep : mat U a' b' + w ≤ absI (mat M a' b') := by omega
      have hend : ∀ nb3, EntIn (hx [.blk nb2 ⟨[.val (.int .i64 a'), .val (.int .i64 b')], true⟩, .blk nb ⟨[.val (.int .i64 a'), .val (.int .i64 b'), .val (.int .i64 c'), .val (.int .i64 w)], true⟩, .mat 0 (mi (mset V a' b' (mat U a' b' + w)))] nb3) (.mat 0 (mi (mset V a' b' (mat U a' b' + w)))) := fun nb3 => (EntIn.self.skipM (by simp only [mi_length]; omega)).skipM (by simp only [mi_length]; omega)
      clear ke hused hov hv hle hnn
      generalize absI (mat M a' b') = am at *
      generalize mat M a' b' = mm at *
      generalize mat U a' b' = u at *
      simp (disch := omega) only [Try.ntmps112, Try.results112, go_sem, Nat.reduceLT, Nat.reduceLeDiff, Nat.reduceEqDiff, Nat.reduceAdd, Nat.reduceSub, Nat.reduceMul, reduceIte, ↓reduceIte, reduceCtorEq, Int.reduceToNat, Int.reduceLE, Int.reduceLT, Int.reduceNeg, Int.reduceSub, Int.reduceAdd, Int.reduceMul, rr_eq, rt, xmap_skipI, xmap_rowI, xset_rowI, outerB_getI, rV, gV, hV1, l2, r2, g2, rows_get, rM, gM]
      refine wab.callDV 0 (viewL_cons_of (view_int) viewL_nil_of) ?_
      simp (disch := omega) only [Try.ntmps112, Try.results112, go_sem, Nat.reduceLT, Nat.reduceLeDiff, Nat.reduceEqDiff, Nat.reduceAdd, Nat.reduceSub, Nat.reduceMul, reduceIte, ↓reduceIte, reduceCtorEq, Int.reduceToNat, Int.reduceLE, Int.reduceLT, Int.reduceNeg, Int.reduceSub, Int.reduceAdd, Int.reduceMul, rr_eq, rt, xmap_skipI, xmap_rowI, xset_rowI, outerB_getI, rV, gV, hV1, l2, r2, g2, rows_get, rM, gM]
      refine ⟨(1, nb2 + 1), ⟨by simp, by show nb < nb2 + 1; omega, fun _ => hstep, fun h => absurd h (by simp), fun h => absurd h (by simp)⟩, by simp, ?_⟩
      refine Wk.ofX (by simp only [go_sem, ↓List.forall_mem_cons, List.not_mem_nil, false_implies, implies_true, and_true, true_and, and_self, Nat.reduceEqDiff, reduceIte, ↓reduceIte, ri_eq, Int.natCast_add, Int.cast_ofNat_Int, rr_eq, rt]; try simp) ?_ (Nat.le_refl _)
      simp only [List.forall_mem_cons]
      refine ⟨?_, ?_, by simp⟩
      · simp (disch := omega) only [EntIn, hx_map, xmap_blk, if_pos, if_neg, ↓reduceIte]
      · rw [hnext]; exact hend _
  · have hV := hsq 1
    have hv : mat (U3 U a' b' c' w 1) a' c' = mat U a' c' := U3_a1 hU hab hbc hcn w
    have hnext := U3_2 U a' b' c' w
    have hhit : hitT ((a' : Int), (b' : Int), (c' : Int), w) a' c' = true := by simp [hitT]
    have hov : absI (mat M a' c') < mat U a' c' + w → isPk M T = false := fun h => pack_over hlt (x := a') (y := c') (by omega) (by omega) (by rw [hsucc, if_pos hhit, ← hused]; exact h)
    have hU1 := hnn a' c'
    have hU2 := hle a' c' (by omega) (by omega)
    have hm1 := hMle a' c' (by omega) (by omega)
    have wab := Try.absolute_ok (mat M a' c') (by have := (hw.2.2.1 a' c' (by omega) (by omega)).1; omega) (by have := (hw.2.2.1 a' c' (by omega) (by omega)).1; omega)
    have rM := hw.2.1 a' (by omega)
    have gM : (ints (mrow M a'))[c']? = some (.val (.int .i64 (mat M a' c'))) := ints_get' rM (by omega)
    generalize U3 U a' b' c' w 1 = V at *
    have hV1 := hV.1
    have rV := hV.2 a' (by omega)
    have gV : (ints (mrow V a'))[c']? = some (.val (.int .i64 (mat V a' c'))) := ints_get' rV (by omega)
    rw [hv] at gV
    have l2 : (mset V a' c' (mat U a' c' + w)).length = M.length := by rw [mset_length, hV1]
    have r2 : (mrow (mset V a' c' (mat U a' c' + w)) a').length = M.length := by rw [mset_row_length, rV]
    have g2 : (ints (mrow (mset V a' c' (mat U a' c' + w)) a'))[c']? = some (.val (.int .i64 (mat U a' c' + w))) := by
      rw [ints_get' r2 (by omega)]
      have := mset_at V a' c' (mat U a' c' + w) (k := a') (d := c') (by omega) (by omega)
      rw [if_pos ⟨rfl, rfl⟩] at this
      exact congrArg (fun z => some (SV.val (Value.int IntKind.i64 z))) this
    by_cases hover : absI (mat M a' c') < mat U a' c' + w
    · have hov2 := hov hover
      clear hov
      generalize absI (mat M a' c') = am at *
      generalize mat M a' c' = mm at *
      generalize mat U a' c' = u at *
      simp (disch := omega) only [Try.ntmps112, Try.results112, go_sem, Nat.reduceLT, Nat.reduceLeDiff, Nat.reduceEqDiff, Nat.reduceAdd, Nat.reduceSub, Nat.reduceMul, reduceIte, ↓reduceIte, reduceCtorEq, Int.reduceToNat, Int.reduceLE, Int.reduceLT, Int.reduceNeg, Int.reduceSub, Int.reduceAdd, Int.reduceMul, rr_eq, rt, xmap_skipI, xmap_rowI, xset_rowI, outerB_getI, rV, gV, hV1, l2, r2, g2, rows_get, rM, gM]
      refine wab.callDV 0 (viewL_cons_of (view_int) viewL_nil_of) ?_
      simp (disch := omega) only [Try.ntmps112, Try.results112, go_sem, Nat.reduceLT, Nat.reduceLeDiff, Nat.reduceEqDiff, Nat.reduceAdd, Nat.reduceSub, Nat.reduceMul, reduceIte, ↓reduceIte, reduceCtorEq, Int.reduceToNat, Int.reduceLE, Int.reduceLT, Int.reduceNeg, Int.reduceSub, Int.reduceAdd, Int.reduceMul, rr_eq, rt, xmap_skipI, xmap_rowI, xset_rowI, outerB_getI, rV, gV, hV1, l2, r2, g2, rows_get, rM, gM]
      exact Fin.val (by rw [hov2])
    · have hstep : mat U a' c' + w ≤ absI (mat M a' c') := by omega
      have hend : ∀ nb3, EntIn (hx [.blk nb2 ⟨[.val (.int .i64 a'), .val (.int .i64 c')], true⟩, .blk nb ⟨[.val (.int .i64 a'), .val (.int .i64 b'), .val (.int .i64 c'), .val (.int .i64 w)], true⟩, .mat 0 (mi (mset V a' c' (mat U a' c' + w)))] nb3) (.mat 0 (mi (mset V a' c' (mat U a' c' + w)))) := fun nb3 => (EntIn.self.skipM (by simp only [mi_length]; omega)).skipM (by simp only [mi_length]; omega)
      clear ke hused hov hv hle hnn
      generalize absI (mat M a' c') = am at *
      generalize mat M a' c' = mm at *
      generalize mat U a' c' = u at *
      simp (disch := omega) only [Try.ntmps112, Try.results112, go_sem, Nat.reduceLT, Nat.reduceLeDiff, Nat.reduceEqDiff, Nat.reduceAdd, Nat.reduceSub, Nat.reduceMul, reduceIte, ↓reduceIte, reduceCtorEq, Int.reduceToNat, Int.reduceLE, Int.reduceLT, Int.reduceNeg, Int.reduceSub, Int.reduceAdd, Int.reduceMul, rr_eq, rt, xmap_skipI, xmap_rowI, xset_rowI, outerB_getI, rV, gV, hV1, l2, r2, g2, rows_get, rM, gM]
      refine wab.callDV 0 (viewL_cons_of (view_int) viewL_nil_of) ?_
      simp (disch := omega) only [Try.ntmps112, Try.results112, go_sem, Nat.reduceLT, Nat.reduceLeDiff, Nat.reduceEqDiff, Nat.reduceAdd, Nat.reduceSub, Nat.reduceMul, reduceIte, ↓reduceIte, reduceCtorEq, Int.reduceToNat, Int.reduceLE, Int.reduceLT, Int.reduceNeg, Int.reduceSub, Int.reduceAdd, Int.reduceMul, rr_eq, rt, xmap_skipI, xmap_rowI, xset_rowI, outerB_getI, rV, gV, hV1, l2, r2, g2, rows_get, rM, gM]
      refine ⟨(2, nb2 + 1), ⟨by simp, by show nb < nb2 + 1; omega, fun _ => hc1 (by omega), fun _ => hstep, fun h => absurd h (by simp)⟩, by simp, ?_⟩
      refine Wk.ofX (by simp only [go_sem, ↓List.forall_mem_cons, List.not_mem_nil, false_implies, implies_true, and_true, true_and, and_self, Nat.reduceEqDiff, reduceIte, ↓reduceIte, ri_eq, Int.natCast_add, Int.cast_ofNat_Int, rr_eq, rt]; try simp) ?_ (Nat.le_refl _)
      simp only [List.forall_mem_cons]
      refine ⟨?_, ?_, by simp⟩
      · simp (disch := omega) only [EntIn, hx_map, xmap_blk, if_pos, if_neg, ↓reduceIte]
      · rw [hnext]; exact hend _
  · have hV := hsq 2
    have hv : mat (U3 U a' b' c' w 2) b' c' = mat U b' c' := U3_a2 hU hab hbc hcn w
    have hnext := U3_3 U a' b' c' w
    have hhit : hitT ((a' : Int), (b' : Int), (c' : Int), w) b' c' = true := by simp [hitT]
    have hov : absI (mat M b' c') < mat U b' c' + w → isPk M T = false := fun h => pack_over hlt (x := b') (y := c') (by omega) (by omega) (by rw [hsucc, if_pos hhit, ← hused]; exact h)
    have hU1 := hnn b' c'
    have hU2 := hle b' c' (by omega) (by omega)
    have hm1 := hMle b' c' (by omega) (by omega)
    have wab := Try.absolute_ok (mat M b' c') (by have := (hw.2.2.1 b' c' (by omega) (by omega)).1; omega) (by have := (hw.2.2.1 b' c' (by omega) (by omega)).1; omega)
    have rM := hw.2.1 b' (by omega)
    have gM : (ints (mrow M b'))[c']? = some (.val (.int .i64 (mat M b' c'))) := ints_get' rM (by omega)
    generalize U3 U a' b' c' w 2 = V at *
    have hV1 := hV.1
    have rV := hV.2 b' (by omega)
    have gV : (ints (mrow V b'))[c']? = some (.val (.int .i64 (mat V b' c'))) := ints_get' rV (by omega)
    rw [hv] at gV
    have l2 : (mset V b' c' (mat U b' c' + w)).length = M.length := by rw [mset_length, hV1]
    have r2 : (mrow (mset V b' c' (mat U b' c' + w)) b').length = M.length := by rw [mset_row_length, rV]
    have g2 : (ints (mrow (mset V b' c' (mat U b' c' + w)) b'))[c']? = some (.val (.int .i64 (mat U b' c' + w))) := by
      rw [ints_get' r2 (by omega)]
      have := mset_at V b' c' (mat U b' c' + w) (k := b') (d := c') (by omega) (by omega)
      rw [if_pos ⟨rfl, rfl⟩] at this
      exact congrArg (fun z => some (SV.val (Value.int IntKind.i64 z))) this
    by_cases hover : absI (mat M b' c') < mat U b' c' + w
    · have hov2 := hov hover
      clear hov
      generalize absI (mat M b' c') = am at *
      generalize mat M b' c' = mm at *
      generalize mat U b' c' = u at *
      simp (disch := omega) only [Try.ntmps112, Try.results112, go_sem, Nat.reduceLT, Nat.reduceLeDiff, Nat.reduceEqDiff, Nat.reduceAdd, Nat.reduceSub, Nat.reduceMul, reduceIte, ↓reduceIte, reduceCtorEq, Int.reduceToNat, Int.reduceLE, Int.reduceLT, Int.reduceNeg, Int.reduceSub, Int.reduceAdd, Int.reduceMul, rr_eq, rt, xmap_skipI, xmap_rowI, xset_rowI, outerB_getI, rV, gV, hV1, l2, r2, g2, rows_get, rM, gM]
      refine wab.callDV 0 (viewL_cons_of (view_int) viewL_nil_of) ?_
      simp (disch := omega) only [Try.ntmps112, Try.results112, go_sem, Nat.reduceLT, Nat.reduceLeDiff, Nat.reduceEqDiff, Nat.reduceAdd, Nat.reduceSub, Nat.reduceMul, reduceIte, ↓reduceIte, reduceCtorEq, Int.reduceToNat, Int.reduceLE, Int.reduceLT, Int.reduceNeg, Int.reduceSub, Int.reduceAdd, Int.reduceMul, rr_eq, rt, xmap_skipI, xmap_rowI, xset_rowI, outerB_getI, rV, gV, hV1, l2, r2, g2, rows_get, rM, gM]
      exact Fin.val (by rw [hov2])
    · have hstep : mat U b' c' + w ≤ absI (mat M b' c') := by omega
      have hend : ∀ nb3, EntIn (hx [.blk nb2 ⟨[.val (.int .i64 b'), .val (.int .i64 c')], true⟩, .blk nb ⟨[.val (.int .i64 a'), .val (.int .i64 b'), .val (.int .i64 c'), .val (.int .i64 w)], true⟩, .mat 0 (mi (mset V b' c' (mat U b' c' + w)))] nb3) (.mat 0 (mi (mset V b' c' (mat U b' c' + w)))) := fun nb3 => (EntIn.self.skipM (by simp only [mi_length]; omega)).skipM (by simp only [mi_length]; omega)
      clear ke hused hov hv hle hnn
      generalize absI (mat M b' c') = am at *
      generalize mat M b' c' = mm at *
      generalize mat U b' c' = u at *
      simp (disch := omega) only [Try.ntmps112, Try.results112, go_sem, Nat.reduceLT, Nat.reduceLeDiff, Nat.reduceEqDiff, Nat.reduceAdd, Nat.reduceSub, Nat.reduceMul, reduceIte, ↓reduceIte, reduceCtorEq, Int.reduceToNat, Int.reduceLE, Int.reduceLT, Int.reduceNeg, Int.reduceSub, Int.reduceAdd, Int.reduceMul, rr_eq, rt, xmap_skipI, xmap_rowI, xset_rowI, outerB_getI, rV, gV, hV1, l2, r2, g2, rows_get, rM, gM]
      refine wab.callDV 0 (viewL_cons_of (view_int) viewL_nil_of) ?_
      simp (disch := omega) only [Try.ntmps112, Try.results112, go_sem, Nat.reduceLT, Nat.reduceLeDiff, Nat.reduceEqDiff, Nat.reduceAdd, Nat.reduceSub, Nat.reduceMul, reduceIte, ↓reduceIte, reduceCtorEq, Int.reduceToNat, Int.reduceLE, Int.reduceLT, Int.reduceNeg, Int.reduceSub, Int.reduceAdd, Int.reduceMul, rr_eq, rt, xmap_skipI, xmap_rowI, xset_rowI, outerB_getI, rV, gV, hV1, l2, r2, g2, rows_get, rM, gM]
      refine ⟨(3, nb2 + 1), ⟨by simp, by show nb < nb2 + 1; omega, fun _ => hc1 (by omega), fun _ => hc2 (by omega), fun _ => hstep⟩, by simp, ?_⟩
      refine Wk.ofX (by simp only [go_sem, ↓List.forall_mem_cons, List.not_mem_nil, false_implies, implies_true, and_true, true_and, and_self, Nat.reduceEqDiff, reduceIte, ↓reduceIte, ri_eq, Int.natCast_add, Int.cast_ofNat_Int, rr_eq, rt]; try simp) ?_ (Nat.le_refl _)
      simp only [List.forall_mem_cons]
      refine ⟨?_, ?_, by simp⟩
      · simp (disch := omega) only [EntIn, hx_map, xmap_blk, if_pos, if_neg, ↓reduceIte]
      · rw [hnext]; exact hend _
  · have h3 := ke
    have hV := hsq 3
    have hc1 := hc1 (by omega)
    have hc2 := hc2 (by omega)
    have hc3 := hc3 (by omega)
    simp (disch := omega) only [Try.ntmps112, Try.results112, go_sem, Nat.reduceLT, Nat.reduceLeDiff, Nat.reduceEqDiff, Nat.reduceAdd, Nat.reduceSub, Nat.reduceMul, reduceIte, ↓reduceIte, reduceCtorEq, Int.reduceToNat, Int.reduceLE, Int.reduceLT, Int.reduceNeg, Int.reduceSub, Int.reduceAdd, Int.reduceMul, rr_eq, rt]
    refine ⟨(k + 1, U3 U a' b' c' w 3, nb2), ⟨hlt, hV, by show M.length < nb2; omega, fun i hi => ?_, fun x y => ?_, fun x y hxy hy => ?_⟩, by show T.length - (k + 1) < T.length - k; omega, ?_⟩
    · rcases Nat.lt_succ_iff_lt_or_eq.1 hi with g | rfl
      · exact hok i g
      · rw [ht]; exact ⟨hbt, v1, v2⟩
    · show mat (U3 U a' b' c' w 3) x y = _
      rw [h3, hsucc, hused]
    · show mat (U3 U a' b' c' w 3) x y ≤ _
      rw [h3]
      split
      · rename_i hh
        simp only [hitT, Bool.or_eq_true, Bool.and_eq_true, decide_eq_true_eq] at hh
        rcases hh with ⟨e1, e2⟩ | ⟨e1, e2⟩ | ⟨e1, e2⟩
        · have e1 : x = a' := by omega
          have e2 : y = b' := by omega
          rw [e1, e2]; exact hc1
        · have e1 : x = a' := by omega
          have e2 : y = c' := by omega
          rw [e1, e2]; exact hc2
        · have e1 : x = b' := by omega
          have e2 : y = c' := by omega
          rw [e1, e2]; exact hc3
      · rw [Int.add_zero]; exact hle x y hxy hy
    · refine Wk.ofX (by simp only [go_sem, ↓List.forall_mem_cons, List.not_mem_nil, false_implies, implies_true, and_true, true_and, and_self, Nat.reduceEqDiff, reduceIte, ↓reduceIte, ri_eq, Int.natCast_add, Int.cast_ofNat_Int, rr_eq, rt]; try simp) ?_ (Nat.le_refl _)
      simp only [List.forall_mem_cons]
      exact ⟨EntIn.self.skipM (by have := hV.1; simp only [mi_length]; omega), by simp⟩
end Go.Sh
