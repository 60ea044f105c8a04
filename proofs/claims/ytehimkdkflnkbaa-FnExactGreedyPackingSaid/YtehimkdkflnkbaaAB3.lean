/-
  The greedy packing, of the program.
-/
import Derived.Test.YtehimkdkflnkbaaAB1
namespace Go.Sh
set_option linter.unusedSimpArgs false
set_option linter.unusedVariables false
open Go Go.Proofs

def slTX (b : Nat) (T : List Tri) : List Ent := if T.length = 0 then [] else [.blk b ⟨encL tri4 T, false⟩]
theorem slTX_f {b : Nat} {T : List Tri} (h : T.length ≠ 0) : slTX b T = [.blk b ⟨encL tri4 T, false⟩] := if_neg h
theorem slTX_t {b : Nat} {T : List Tri} (h : T.length = 0) : slTX b T = [] := if_pos h
theorem slTX_map {b : Nat} {T : List Tri} (h : T.length ≠ 0) : xmap (slTX b T) b = some ⟨encL tri4 T, false⟩ := by rw [slTX_f h, xmap_blk, if_pos rfl]
theorem slTX_in {b : Nat} {T : List Tri} {H : Heap} (h : T.length ≠ 0 → H.map b = some ⟨encL tri4 T, false⟩) : ∀ e ∈ slTX b T, EntIn H e := by
  intro e he
  unfold slTX at he
  split at he
  · simp at he
  · rename_i h0
    simp at he; subst he
    exact h h0
theorem xdel_skipI {b x : Nat} {M : List (List Int)} {l : List Ent} (h : x < b ∨ b + M.length < x) : xdel (.mat b (mi M) :: l) x = .mat b (mi M) :: xdel l x := by
  rw [xdel, if_pos (by rw [mi_length]; exact h)]
theorem gr_weight {M : List (List Int)} {k a b c : Nat} (h : ∀ x y, 0 ≤ usedT (grTo M k) x y) :
    ∃ W : Nat → Int, W 0 = mn2 (mn2 (absI (mat M a b)) (absI (mat M a c))) (absI (mat M b c)) ∧ W 1 = mn2 (W 0) (absI (mat M a b) - usedT (grTo M k) a b) ∧ W 2 = mn2 (W 1) (absI (mat M a c) - usedT (grTo M k) a c) ∧ W 3 = mn2 (W 2) (absI (mat M b c) - usedT (grTo M k) b c) ∧ W 3 = gw M (grTo M k) a b c := by
  have h1 := h a b
  have h2 := h a c
  have h3 := h b c
  refine ⟨fun j => match j with
    | 0 => mn2 (mn2 (absI (mat M a b)) (absI (mat M a c))) (absI (mat M b c))
    | 1 => mn2 (mn2 (mn2 (absI (mat M a b)) (absI (mat M a c))) (absI (mat M b c))) (absI (mat M a b) - usedT (grTo M k) a b)
    | 2 => mn2 (mn2 (mn2 (mn2 (absI (mat M a b)) (absI (mat M a c))) (absI (mat M b c))) (absI (mat M a b) - usedT (grTo M k) a b)) (absI (mat M a c) - usedT (grTo M k) a c)
    | _ => mn2 (mn2 (mn2 (mn2 (mn2 (absI (mat M a b)) (absI (mat M a c))) (absI (mat M b c))) (absI (mat M a b) - usedT (grTo M k) a b)) (absI (mat M a c) - usedT (grTo M k) a c)) (absI (mat M b c) - usedT (grTo M k) b c), rfl, rfl, rfl, rfl, ?_⟩
  simp only [gw, mn2_min]
  omega

set_option maxRecDepth 20000 in
set_option maxHeartbeats 16000000 in
theorem Try.implGr_f (M : List (List Int)) (hM : M.length ≤ 1048576) (hR : ∀ i, i < M.length → (mrow M i).length ≤ 1048576) : FCall Try.prog 35 [rr M] (ResT (gr M)) := by
  have w1 := Try.implBadT_ok M hM hR
  have hT := badT_len M
  have lT := encL_length (enc := tri4) (z := 4) tri4_z (badT M)
  refine FCall.of_body Try.func35 rfl (by kernel_rfl) (by simp [Try.ntmps35]) ?_
  refine SW_of_vc Try.mixed _ _ _ (by kernel_rfl) ?_
  simp (disch := omega) only [Try.ntmps35, Try.results35, go_sem, Nat.reduceLT, Nat.reduceLeDiff, Nat.reduceEqDiff, Nat.reduceAdd, Nat.reduceSub, Nat.reduceMul, reduceIte, ↓reduceIte, reduceCtorEq, Int.reduceToNat, Int.reduceLE, Int.reduceLT, Int.reduceNeg, Int.reduceSub, Int.reduceAdd, Int.reduceMul, rr_eq, rt]
  refine (Try.square_one M.length hM).callMat (mi_vals _) 0 (viewL_cons_of (view_int) viewL_nil_of) ?_
  simp (disch := omega) only [Try.ntmps35, Try.results35, go_sem, Nat.reduceLT, Nat.reduceLeDiff, Nat.reduceEqDiff, Nat.reduceAdd, Nat.reduceSub, Nat.reduceMul, reduceIte, ↓reduceIte, reduceCtorEq, Int.reduceToNat, Int.reduceLE, Int.reduceLT, Int.reduceNeg, Int.reduceSub, Int.reduceAdd, Int.reduceMul, rr_eq, rt, zs_length]
  refine w1.callV 0 (viewL_cons_of (view_row) viewL_nil_of) ?_
  simp (disch := omega) only [Try.ntmps35, Try.results35, go_sem, Nat.reduceLT, Nat.reduceLeDiff, Nat.reduceEqDiff, Nat.reduceAdd, Nat.reduceSub, Nat.reduceMul, reduceIte, ↓reduceIte, reduceCtorEq, Int.reduceToNat, Int.reduceLE, Int.reduceLT, Int.reduceNeg, Int.reduceSub, Int.reduceAdd, Int.reduceMul, rr_eq, rt, zs_length]
  refine LoopW.loop (fun p : Nat × List (List Int) × Nat × Nat => ⟨ofL [(0, rr M), (3, slT p.2.2.1 (grTo M p.1)), (4, .own 0 0 M.length M.length 1 false), (15, rt (badT M)), (16, .val (.int .i64 (badT M).length)), (17, .val (.int .i64 p.1))], hx (.mat 0 (mi p.2.1) :: slTX p.2.2.1 (grTo M p.1)) p.2.2.2⟩)
    (fun p => p.1 ≤ (badT M).length ∧ SqI M.length p.2.1 ∧ M.length < p.2.2.2 ∧ ((grTo M p.1).length ≠ 0 → M.length < p.2.2.1 ∧ p.2.2.1 < p.2.2.2) ∧ (∀ x y, mat p.2.1 x y = usedT (grTo M p.1) x y)) (fun p => (badT M).length - p.1) (0, zs M.length, 0, M.length + 1)
    ⟨by simp, .zs _, by simp, fun h => absurd rfl h, fun x y => by rw [zs_at]; rfl⟩
    (Wk.ofX (by simp only [go_sem, ↓List.forall_mem_cons, List.not_mem_nil, false_implies, implies_true, and_true, true_and, and_self, Nat.reduceEqDiff, reduceIte, ↓reduceIte, ri_eq, Int.natCast_add, Int.cast_ofNat_Int, rr_eq, rt, slT_t (T := grTo M 0) rfl]; try simp) (by simp only [List.forall_mem_cons]; exact ⟨.self, by simp [slTX, grTo]⟩) (Nat.le_refl _)) ?_
  rintro ⟨k, U, ob, nb⟩ ⟨hk, hU, hnb, hob, hused⟩
  simp only at hk hU hnb hob hused
  refine SW_of_vc Try.mixed _ _ _ (by kernel_rfl) ?_
  by_cases hlt : k < (badT M).length
  case neg =>
    have hkl : k = (badT M).length := by omega
    subst hkl
    have hU1 := hU.1
    simp (disch := omega) only [Try.ntmps35, Try.results35, go_sem, Nat.reduceLT, Nat.reduceLeDiff, Nat.reduceEqDiff, Nat.reduceAdd, Nat.reduceSub, Nat.reduceMul, reduceIte, ↓reduceIte, reduceCtorEq, Int.reduceToNat, Int.reduceLE, Int.reduceLT, Int.reduceNeg, Int.reduceSub, Int.reduceAdd, Int.reduceMul, rr_eq, rt]
    exact fin_slT (fun h => by
      obtain ⟨o1, o2⟩ := hob h
      show xmap _ ob = _
      rw [xmap_skipI (by omega)]
      exact slTX_map (T := grTo M (badT M).length) h)
  obtain ⟨a, b, c, ht, hab, hbc, hcn⟩ := badT_at hlt
  have hw := (badT_mem (M := M) (t := tg (badT M) k) (by rw [tg_get hlt]; exact List.getElem_mem _)).1
  obtain ⟨_, _, _, _, q⟩ := tri_of hlt ht
  obtain ⟨i1, i2, i3⟩ := grTo_inv k hk
  have hgl := grTo_len M k
  have hsl := hw.1.2
  have hput := grTo_put ht
  have hskip := grTo_skip ht
  obtain ⟨W, hW0, hW1, hW2, hW3, hWg⟩ := gr_weight (M := M) (k := k) (a := a) (b := b) (c := c) i1
  rw [← hW0] at ht q
  rw [← hWg] at hput hskip
  simp only [← hused] at hW1 hW2 hW3
  have w5 := fun w => Try.pairs_ok a b c w
  have hU1 := hU.1
  have hMle : ∀ x y, x < M.length → y < M.length → absI (mat M x y) ≤ 1000 := fun x y hx hy => absI_le hw hx hy
  have hnn : ∀ x y, 0 ≤ mat U x y := fun x y => by rw [hused]; exact i1 x y
  have hle : ∀ x y, x < y → y < M.length → mat U x y ≤ absI (mat M x y) := fun x y h1 h2 => by rw [hused]; exact i2 x y h1 h2
  have hwle : W 3 ≤ absI (mat M a b) - mat U a b ∧ W 3 ≤ absI (mat M a c) - mat U a c ∧ W 3 ≤ absI (mat M b c) - mat U b c := by
    have := gw_le (M := M) (R := grTo M k) (a := a) (b := b) (c := c) i1
    rw [hWg]; simpa only [hused] using this
  simp (disch := omega) only [Try.ntmps35, Try.results35, go_sem, Nat.reduceLT, Nat.reduceLeDiff, Nat.reduceEqDiff, Nat.reduceAdd, Nat.reduceSub, Nat.reduceMul, reduceIte, ↓reduceIte, reduceCtorEq, Int.reduceToNat, Int.reduceLE, Int.reduceLT, Int.reduceNeg, Int.reduceSub, Int.reduceAdd, Int.reduceMul, rr_eq, rt, lT, q, rep4c]
  refine (w5 (W 0)).callV 1 (viewL_cons_of view_tri viewL_nil_of) ?_
  simp (disch := omega) only [Try.ntmps35, Try.results35, go_sem, Nat.reduceLT, Nat.reduceLeDiff, Nat.reduceEqDiff, Nat.reduceAdd, Nat.reduceSub, Nat.reduceMul, reduceIte, ↓reduceIte, reduceCtorEq, Int.reduceToNat, Int.reduceLE, Int.reduceLT, Int.reduceNeg, Int.reduceSub, Int.reduceAdd, Int.reduceMul, rr_eq, rt, lT, q]
  refine LoopW.loop (fun p : Nat × Nat => ⟨ofL [(0, rr M), (3, slT ob (grTo M k)), (4, .own 0 0 M.length M.length 1 false), (6, .optr nb 0), (15, rt (badT M)), (16, .val (.int .i64 (badT M).length)), (17, .val (.int .i64 k)), (22, .agg [.val (.int .i64 a), .val (.int .i64 b), .val (.int .i64 a), .val (.int .i64 c), .val (.int .i64 b), .val (.int .i64 c)]), (23, .val (.int .i64 p.1))],
      hx (.blk nb ⟨[.val (.int .i64 a), .val (.int .i64 b), .val (.int .i64 c), .val (.int .i64 (W p.1))], true⟩ :: .mat 0 (mi U) :: slTX ob (grTo M k)) p.2⟩)
    (fun p => p.1 ≤ 3 ∧ nb < p.2) (fun p => 3 - p.1) (0, nb + 1) ⟨by simp, by simp⟩
    (Wk.ofX (by simp only [go_sem, ↓List.forall_mem_cons, List.not_mem_nil, false_implies, implies_true, and_true, true_and, and_self, Nat.reduceEqDiff, reduceIte, ↓reduceIte, ri_eq, Int.natCast_add, Int.cast_ofNat_Int, rr_eq, rt]; try simp) (by
      simp only [List.forall_mem_cons]
      refine ⟨by simp [EntIn, hx_map, xmap_blk], EntIn.self.skipM (by simp only [mi_length]; omega), slTX_in fun h => ?_⟩
      obtain ⟨o1, o2⟩ := hob h
      show xmap _ ob = _
      rw [xmap_blk, if_neg (by omega), xmap_skipI (by omega), slTX_map h]) (Nat.le_refl _)) ?_
  rintro ⟨j, nb2⟩ ⟨hj, hnb2⟩
  simp only at hj hnb2
  refine SW_of_vc Try.mixed _ _ _ (by kernel_rfl) ?_
  rcases (by omega : j = 0 ∨ j = 1 ∨ j = 2 ∨ j = 3) with rfl | rfl | rfl | rfl
  · have rM := hw.2.1 a (by omega)
    have gM : (ints (mrow M a))[b]? = some (.val (.int .i64 (mat M a b))) := ints_get' rM (by omega)
    have rU := hU.2 a (by omega)
    have gU : (ints (mrow U a))[b]? = some (.val (.int .i64 (mat U a b))) := ints_get' rU (by omega)
    have u1 := hnn a b
    have u2 := hle a b (by omega) (by omega)
    have m1 := hMle a b (by omega) (by omega)
    have wab := Try.absolute_ok (mat M a b) (by have := (hw.2.2.1 a b (by omega) (by omega)).1; omega) (by have := (hw.2.2.1 a b (by omega) (by omega)).1; omega)
    clear i1 i2 i3 hused hMle hnn hle hwle hW0 hput hskip hWg w1 w5 hW2 hW3
    generalize absI (mat M a b) = am at *
    generalize mat M a b = mm at *
    generalize mat U a b = u at *
    simp (disch := omega) only [Try.ntmps35, Try.results35, go_sem, Nat.reduceLT, Nat.reduceLeDiff, Nat.reduceEqDiff, Nat.reduceAdd, Nat.reduceSub, Nat.reduceMul, reduceIte, ↓reduceIte, reduceCtorEq, Int.reduceToNat, Int.reduceLE, Int.reduceLT, Int.reduceNeg, Int.reduceSub, Int.reduceAdd, Int.reduceMul, rr_eq, rt, xmap_skipI, xmap_rowI, outerB_getI, rU, gU, hU1, rows_get, rM, gM]
    refine wab.callDV 0 (viewL_cons_of (view_int) viewL_nil_of) ?_
    simp (disch := omega) only [Try.ntmps35, Try.results35, go_sem, Nat.reduceLT, Nat.reduceLeDiff, Nat.reduceEqDiff, Nat.reduceAdd, Nat.reduceSub, Nat.reduceMul, reduceIte, ↓reduceIte, reduceCtorEq, Int.reduceToNat, Int.reduceLE, Int.reduceLT, Int.reduceNeg, Int.reduceSub, Int.reduceAdd, Int.reduceMul, rr_eq, rt, xmap_skipI, xmap_rowI, outerB_getI, rU, gU, hU1, rows_get, rM, gM, ite_mn2]
    refine ⟨(1, nb2 + 1), ⟨by simp, by show nb < nb2 + 1; omega⟩, by simp, ?_⟩
    refine Wk.ofX (by simp only [go_sem, ↓List.forall_mem_cons, List.not_mem_nil, false_implies, implies_true, and_true, true_and, and_self, Nat.reduceEqDiff, reduceIte, ↓reduceIte, ri_eq, Int.natCast_add, Int.cast_ofNat_Int, rr_eq, rt]; try simp) ?_ (Nat.le_refl _)
    simp only [List.forall_mem_cons]
    refine ⟨?_, ?_, slTX_in fun h => ?_⟩
    · simp (disch := omega) only [EntIn, hx_map, xmap_blk, if_pos, if_neg, ↓reduceIte, hW1]
    · exact (EntIn.self.skipM (by simp only [mi_length]; omega)).skipM (by simp only [mi_length]; omega)
    · obtain ⟨o1, o2⟩ := hob h
      show xmap _ ob = _
      rw [xmap_blk, if_neg (by omega), xmap_blk, if_neg (by omega), xmap_skipI (by omega), slTX_map h]
  · have rM := hw.2.1 a (by omega)
    have gM : (ints (mrow M a))[c]? = some (.val (.int .i64 (mat M a c))) := ints_get' rM (by omega)
    have rU := hU.2 a (by omega)
    have gU : (ints (mrow U a))[c]? = some (.val (.int .i64 (mat U a c))) := ints_get' rU (by omega)
    have u1 := hnn a c
    have u2 := hle a c (by omega) (by omega)
    have m1 := hMle a c (by omega) (by omega)
    have wab := Try.absolute_ok (mat M a c) (by have := (hw.2.2.1 a c (by omega) (by omega)).1; omega) (by have := (hw.2.2.1 a c (by omega) (by omega)).1; omega)
    clear i1 i2 i3 hused hMle hnn hle hwle hW0 hput hskip hWg w1 w5 hW1 hW3
    generalize absI (mat M a c) = am at *
    generalize mat M a c = mm at *
    generalize mat U a c = u at *
    simp (disch := omega) only [Try.ntmps35, Try.results35, go_sem, Nat.reduceLT, Nat.reduceLeDiff, Nat.reduceEqDiff, Nat.reduceAdd, Nat.reduceSub, Nat.reduceMul, reduceIte, ↓reduceIte, reduceCtorEq, Int.reduceToNat, Int.reduceLE, Int.reduceLT, Int.reduceNeg, Int.reduceSub, Int.reduceAdd, Int.reduceMul, rr_eq, rt, xmap_skipI, xmap_rowI, outerB_getI, rU, gU, hU1, rows_get, rM, gM]
    refine wab.callDV 0 (viewL_cons_of (view_int) viewL_nil_of) ?_
    simp (disch := omega) only [Try.ntmps35, Try.results35, go_sem, Nat.reduceLT, Nat.reduceLeDiff, Nat.reduceEqDiff, Nat.reduceAdd, Nat.reduceSub, Nat.reduceMul, reduceIte, ↓reduceIte, reduceCtorEq, Int.reduceToNat, Int.reduceLE, Int.reduceLT, Int.reduceNeg, Int.reduceSub, Int.reduceAdd, Int.reduceMul, rr_eq, rt, xmap_skipI, xmap_rowI, outerB_getI, rU, gU, hU1, rows_get, rM, gM, ite_mn2]
    refine ⟨(2, nb2 + 1), ⟨by simp, by show nb < nb2 + 1; omega⟩, by simp, ?_⟩
    refine Wk.ofX (by simp only [go_sem, ↓List.forall_mem_cons, List.not_mem_nil, false_implies, implies_true, and_true, true_and, and_self, Nat.reduceEqDiff, reduceIte, ↓reduceIte, ri_eq, Int.natCast_add, Int.cast_ofNat_Int, rr_eq, rt]; try simp) ?_ (Nat.le_refl _)
    simp only [List.forall_mem_cons]
    refine ⟨?_, ?_, slTX_in fun h => ?_⟩
    · simp (disch := omega) only [EntIn, hx_map, xmap_blk, if_pos, if_neg, ↓reduceIte, hW2]
    · exact (EntIn.self.skipM (by simp only [mi_length]; omega)).skipM (by simp only [mi_length]; omega)
    · obtain ⟨o1, o2⟩ := hob h
      show xmap _ ob = _
      rw [xmap_blk, if_neg (by omega), xmap_blk, if_neg (by omega), xmap_skipI (by omega), slTX_map h]
  · have rM := hw.2.1 b (by omega)
    have gM : (ints (mrow M b))[c]? = some (.val (.int .i64 (mat M b c))) := ints_get' rM (by omega)
    have rU := hU.2 b (by omega)
    have gU : (ints (mrow U b))[c]? = some (.val (.int .i64 (mat U b c))) := ints_get' rU (by omega)
    have u1 := hnn b c
    have u2 := hle b c (by omega) (by omega)
    have m1 := hMle b c (by omega) (by omega)
    have wab := Try.absolute_ok (mat M b c) (by have := (hw.2.2.1 b c (by omega) (by omega)).1; omega) (by have := (hw.2.2.1 b c (by omega) (by omega)).1; omega)
    clear i1 i2 i3 hused hMle hnn hle hwle hW0 hput hskip hWg w1 w5 hW1 hW2
    generalize absI (mat M b c) = am at *
    generalize mat M b c = mm at *
    generalize mat U b c = u at *
    simp (disch := omega) only [Try.ntmps35, Try.results35, go_sem, Nat.reduceLT, Nat.reduceLeDiff, Nat.reduceEqDiff, Nat.reduceAdd, Nat.reduceSub, Nat.reduceMul, reduceIte, ↓reduceIte, reduceCtorEq, Int.reduceToNat, Int.reduceLE, Int.reduceLT, Int.reduceNeg, Int.reduceSub, Int.reduceAdd, Int.reduceMul, rr_eq, rt, xmap_skipI, xmap_rowI, outerB_getI, rU, gU, hU1, rows_get, rM, gM]
    refine wab.callDV 0 (viewL_cons_of (view_int) viewL_nil_of) ?_
    simp (disch := omega) only [Try.ntmps35, Try.results35, go_sem, Nat.reduceLT, Nat.reduceLeDiff, Nat.reduceEqDiff, Nat.reduceAdd, Nat.reduceSub, Nat.reduceMul, reduceIte, ↓reduceIte, reduceCtorEq, Int.reduceToNat, Int.reduceLE, Int.reduceLT, Int.reduceNeg, Int.reduceSub, Int.reduceAdd, Int.reduceMul, rr_eq, rt, xmap_skipI, xmap_rowI, outerB_getI, rU, gU, hU1, rows_get, rM, gM, ite_mn2]
    refine ⟨(3, nb2 + 1), ⟨by simp, by show nb < nb2 + 1; omega⟩, by simp, ?_⟩
    refine Wk.ofX (by simp only [go_sem, ↓List.forall_mem_cons, List.not_mem_nil, false_implies, implies_true, and_true, true_and, and_self, Nat.reduceEqDiff, reduceIte, ↓reduceIte, ri_eq, Int.natCast_add, Int.cast_ofNat_Int, rr_eq, rt]; try simp) ?_ (Nat.le_refl _)
    simp only [List.forall_mem_cons]
    refine ⟨?_, ?_, slTX_in fun h => ?_⟩
    · simp (disch := omega) only [EntIn, hx_map, xmap_blk, if_pos, if_neg, ↓reduceIte, hW3]
    · exact (EntIn.self.skipM (by simp only [mi_length]; omega)).skipM (by simp only [mi_length]; omega)
    · obtain ⟨o1, o2⟩ := hob h
      show xmap _ ob = _
      rw [xmap_blk, if_neg (by omega), xmap_blk, if_neg (by omega), xmap_skipI (by omega), slTX_map h]
  · clear hW0 hW1 hW2 hW3 w1
    by_cases hpos : 0 < W 3
    case neg =>
      replace hskip := hskip hpos
      generalize W 3 = w at *
      simp (disch := omega) only [Try.ntmps35, Try.results35, go_sem, Nat.reduceLT, Nat.reduceLeDiff, Nat.reduceEqDiff, Nat.reduceAdd, Nat.reduceSub, Nat.reduceMul, reduceIte, ↓reduceIte, reduceCtorEq, Int.reduceToNat, Int.reduceLE, Int.reduceLT, Int.reduceNeg, Int.reduceSub, Int.reduceAdd, Int.reduceMul, rr_eq, rt]
      refine ⟨(k + 1, U, ob, nb2), ⟨hlt, hU, by show M.length < nb2; omega, fun h => ?_, fun x y => ?_⟩, by show (badT M).length - (k + 1) < (badT M).length - k; omega, ?_⟩
      · rw [hskip] at h; have := hob h; exact ⟨this.1, by show ob < nb2; omega⟩
      · show mat U x y = usedT (grTo M (k + 1)) x y
        rw [hskip]; exact hused x y
      · refine Wk.ofX (by simp only [go_sem, ↓List.forall_mem_cons, List.not_mem_nil, false_implies, implies_true, and_true, true_and, and_self, Nat.reduceEqDiff, reduceIte, ↓reduceIte, ri_eq, Int.natCast_add, Int.cast_ofNat_Int, rr_eq, rt, hskip]; try simp) ?_ (Nat.le_refl _)
        simp only [List.forall_mem_cons]
        rw [hskip]
        refine ⟨EntIn.self.skipM (by simp only [mi_length]; omega), slTX_in fun h => ?_⟩
        obtain ⟨o1, o2⟩ := hob h
        show xmap _ ob = _
        rw [xmap_blk, if_neg (by omega), xmap_skipI (by omega), slTX_map h]
    replace hput := hput hpos
    clear hskip hWg
    generalize W 3 = w at *
    simp (disch := omega) only [Try.ntmps35, Try.results35, go_sem, Nat.reduceLT, Nat.reduceLeDiff, Nat.reduceEqDiff, Nat.reduceAdd, Nat.reduceSub, Nat.reduceMul, reduceIte, ↓reduceIte, reduceCtorEq, Int.reduceToNat, Int.reduceLE, Int.reduceLT, Int.reduceNeg, Int.reduceSub, Int.reduceAdd, Int.reduceMul, rr_eq, rt]
    refine (w5 w).callV 1 (viewL_cons_of view_tri viewL_nil_of) ?_
    simp (disch := omega) only [Try.ntmps35, Try.results35, go_sem, Nat.reduceLT, Nat.reduceLeDiff, Nat.reduceEqDiff, Nat.reduceAdd, Nat.reduceSub, Nat.reduceMul, reduceIte, ↓reduceIte, reduceCtorEq, Int.reduceToNat, Int.reduceLE, Int.reduceLT, Int.reduceNeg, Int.reduceSub, Int.reduceAdd, Int.reduceMul, rr_eq, rt]
    refine LoopW.loop (fun p : Nat × Nat => ⟨ofL [(0, rr M), (3, slT ob (grTo M k)), (4, .own 0 0 M.length M.length 1 false), (6, .optr nb 0), (15, rt (badT M)), (16, .val (.int .i64 (badT M).length)), (17, .val (.int .i64 k)), (55, .agg [.val (.int .i64 a), .val (.int .i64 b), .val (.int .i64 a), .val (.int .i64 c), .val (.int .i64 b), .val (.int .i64 c)]), (56, .val (.int .i64 p.1))],
        hx (.blk nb ⟨[.val (.int .i64 a), .val (.int .i64 b), .val (.int .i64 c), .val (.int .i64 w)], true⟩ :: .mat 0 (mi (U3 U a b c w p.1)) :: slTX ob (grTo M k)) p.2⟩)
      (fun p => p.1 ≤ 3 ∧ nb < p.2) (fun p => 3 - p.1) (0, nb2) ⟨by simp, hnb2⟩
      (Wk.ofX (by simp only [go_sem, ↓List.forall_mem_cons, List.not_mem_nil, false_implies, implies_true, and_true, true_and, and_self, Nat.reduceEqDiff, reduceIte, ↓reduceIte, ri_eq, Int.natCast_add, Int.cast_ofNat_Int, rr_eq, rt]; try simp) (by
        simp only [List.forall_mem_cons]
        refine ⟨by simp [EntIn, hx_map, xmap_blk], EntIn.self.skipM (by simp only [mi_length, U3_0]; omega), slTX_in fun h => ?_⟩
        obtain ⟨o1, o2⟩ := hob h
        show xmap _ ob = _
        rw [xmap_blk, if_neg (by omega), xmap_skipI (by omega), slTX_map h]) (Nat.le_refl _)) ?_
    rintro ⟨j, nb3⟩ ⟨hj, hnb3⟩
    simp only at hj hnb3
    have hsq := fun j => U3_sq hU a b c w j
    have ke := U3_end hU hab hbc hcn w
    refine SW_of_vc Try.mixed _ _ _ (by kernel_rfl) ?_
    rcases (by omega : j = 0 ∨ j = 1 ∨ j = 2 ∨ j = 3) with rfl | rfl | rfl | rfl
    · have hV := hsq 0
      have hv : mat (U3 U a b c w 0) a b = mat U a b := rfl
      have hnext := U3_1 U a b c w
      have hU1 := hnn a b
      have hU2 := hle a b (by omega) (by omega)
      have hm1 := hMle a b (by omega) (by omega)
      generalize U3 U a b c w 0 = V at *
      have hV1 := hV.1
      have rV := hV.2 a (by omega)
      have gV : (ints (mrow V a))[b]? = some (.val (.int .i64 (mat V a b))) := ints_get' rV (by omega)
      rw [hv] at gV
      have hend : ∀ nb4, EntIn (hx (.blk nb3 ⟨[.val (.int .i64 a), .val (.int .i64 b)], true⟩ :: .blk nb ⟨[.val (.int .i64 a), .val (.int .i64 b), .val (.int .i64 c), .val (.int .i64 w)], true⟩ :: .mat 0 (mi (mset V a b (mat U a b + w))) :: slTX ob (grTo M k)) nb4) (.mat 0 (mi (mset V a b (mat U a b + w)))) := fun nb4 => (EntIn.self.skipM (by simp only [mi_length, mset_length]; omega)).skipM (by simp only [mi_length, mset_length]; omega)
      clear ke hused hv hle hnn i1 i2 i3 hput w5 hsq
      generalize absI (mat M a b) = am at *
      generalize mat U a b = u at *
      simp (disch := omega) only [Try.ntmps35, Try.results35, go_sem, Nat.reduceLT, Nat.reduceLeDiff, Nat.reduceEqDiff, Nat.reduceAdd, Nat.reduceSub, Nat.reduceMul, reduceIte, ↓reduceIte, reduceCtorEq, Int.reduceToNat, Int.reduceLE, Int.reduceLT, Int.reduceNeg, Int.reduceSub, Int.reduceAdd, Int.reduceMul, rr_eq, rt, xmap_skipI, xmap_rowI, xset_rowI, outerB_getI, rV, gV, hV1, rows_get]
      refine ⟨(1, nb3 + 1), ⟨by simp, by show nb < nb3 + 1; omega⟩, by simp, ?_⟩
      refine Wk.ofX (by simp only [go_sem, ↓List.forall_mem_cons, List.not_mem_nil, false_implies, implies_true, and_true, true_and, and_self, Nat.reduceEqDiff, reduceIte, ↓reduceIte, ri_eq, Int.natCast_add, Int.cast_ofNat_Int, rr_eq, rt]; try simp) ?_ (Nat.le_refl _)
      simp only [List.forall_mem_cons]
      refine ⟨?_, ?_, slTX_in fun h => ?_⟩
      · simp (disch := omega) only [EntIn, hx_map, xmap_blk, if_pos, if_neg, ↓reduceIte]
      · rw [hnext]; exact hend _
      · obtain ⟨o1, o2⟩ := hob h
        show xmap _ ob = _
        rw [xmap_blk, if_neg (by omega), xmap_blk, if_neg (by omega), xmap_skipI (by rw [mset_length]; omega), slTX_map h]
    · have hV := hsq 1
      have hv : mat (U3 U a b c w 1) a c = mat U a c := U3_a1 hU hab hbc hcn w
      have hnext := U3_2 U a b c w
      have hU1 := hnn a c
      have hU2 := hle a c (by omega) (by omega)
      have hm1 := hMle a c (by omega) (by omega)
      generalize U3 U a b c w 1 = V at *
      have hV1 := hV.1
      have rV := hV.2 a (by omega)
      have gV : (ints (mrow V a))[c]? = some (.val (.int .i64 (mat V a c))) := ints_get' rV (by omega)
      rw [hv] at gV
      have hend : ∀ nb4, EntIn (hx (.blk nb3 ⟨[.val (.int .i64 a), .val (.int .i64 c)], true⟩ :: .blk nb ⟨[.val (.int .i64 a), .val (.int .i64 b), .val (.int .i64 c), .val (.int .i64 w)], true⟩ :: .mat 0 (mi (mset V a c (mat U a c + w))) :: slTX ob (grTo M k)) nb4) (.mat 0 (mi (mset V a c (mat U a c + w)))) := fun nb4 => (EntIn.self.skipM (by simp only [mi_length, mset_length]; omega)).skipM (by simp only [mi_length, mset_length]; omega)
      clear ke hused hv hle hnn i1 i2 i3 hput w5 hsq
      generalize absI (mat M a c) = am at *
      generalize mat U a c = u at *
      simp (disch := omega) only [Try.ntmps35, Try.results35, go_sem, Nat.reduceLT, Nat.reduceLeDiff, Nat.reduceEqDiff, Nat.reduceAdd, Nat.reduceSub, Nat.reduceMul, reduceIte, ↓reduceIte, reduceCtorEq, Int.reduceToNat, Int.reduceLE, Int.reduceLT, Int.reduceNeg, Int.reduceSub, Int.reduceAdd, Int.reduceMul, rr_eq, rt, xmap_skipI, xmap_rowI, xset_rowI, outerB_getI, rV, gV, hV1, rows_get]
      refine ⟨(2, nb3 + 1), ⟨by simp, by show nb < nb3 + 1; omega⟩, by simp, ?_⟩
      refine Wk.ofX (by simp only [go_sem, ↓List.forall_mem_cons, List.not_mem_nil, false_implies, implies_true, and_true, true_and, and_self, Nat.reduceEqDiff, reduceIte, ↓reduceIte, ri_eq, Int.natCast_add, Int.cast_ofNat_Int, rr_eq, rt]; try simp) ?_ (Nat.le_refl _)
      simp only [List.forall_mem_cons]
      refine ⟨?_, ?_, slTX_in fun h => ?_⟩
      · simp (disch := omega) only [EntIn, hx_map, xmap_blk, if_pos, if_neg, ↓reduceIte]
      · rw [hnext]; exact hend _
      · obtain ⟨o1, o2⟩ := hob h
        show xmap _ ob = _
        rw [xmap_blk, if_neg (by omega), xmap_blk, if_neg (by omega), xmap_skipI (by rw [mset_length]; omega), slTX_map h]
    · have hV := hsq 2
      have hv : mat (U3 U a b c w 2) b c = mat U b c := U3_a2 hU hab hbc hcn w
      have hnext := U3_3 U a b c w
      have hU1 := hnn b c
      have hU2 := hle b c (by omega) (by omega)
      have hm1 := hMle b c (by omega) (by omega)
      generalize U3 U a b c w 2 = V at *
      have hV1 := hV.1
      have rV := hV.2 b (by omega)
      have gV : (ints (mrow V b))[c]? = some (.val (.int .i64 (mat V b c))) := ints_get' rV (by omega)
      rw [hv] at gV
      have hend : ∀ nb4, EntIn (hx (.blk nb3 ⟨[.val (.int .i64 b), .val (.int .i64 c)], true⟩ :: .blk nb ⟨[.val (.int .i64 a), .val (.int .i64 b), .val (.int .i64 c), .val (.int .i64 w)], true⟩ :: .mat 0 (mi (mset V b c (mat U b c + w))) :: slTX ob (grTo M k)) nb4) (.mat 0 (mi (mset V b c (mat U b c + w)))) := fun nb4 => (EntIn.self.skipM (by simp only [mi_length, mset_length]; omega)).skipM (by simp only [mi_length, mset_length]; omega)
      clear ke hused hv hle hnn i1 i2 i3 hput w5 hsq
      generalize absI (mat M b c) = am at *
      generalize mat U b c = u at *
      simp (disch := omega) only [Try.ntmps35, Try.results35, go_sem, Nat.reduceLT, Nat.reduceLeDiff, Nat.reduceEqDiff, Nat.reduceAdd, Nat.reduceSub, Nat.reduceMul, reduceIte, ↓reduceIte, reduceCtorEq, Int.reduceToNat, Int.reduceLE, Int.reduceLT, Int.reduceNeg, Int.reduceSub, Int.reduceAdd, Int.reduceMul, rr_eq, rt, xmap_skipI, xmap_rowI, xset_rowI, outerB_getI, rV, gV, hV1, rows_get]
      refine ⟨(3, nb3 + 1), ⟨by simp, by show nb < nb3 + 1; omega⟩, by simp, ?_⟩
      refine Wk.ofX (by simp only [go_sem, ↓List.forall_mem_cons, List.not_mem_nil, false_implies, implies_true, and_true, true_and, and_self, Nat.reduceEqDiff, reduceIte, ↓reduceIte, ri_eq, Int.natCast_add, Int.cast_ofNat_Int, rr_eq, rt]; try simp) ?_ (Nat.le_refl _)
      simp only [List.forall_mem_cons]
      refine ⟨?_, ?_, slTX_in fun h => ?_⟩
      · simp (disch := omega) only [EntIn, hx_map, xmap_blk, if_pos, if_neg, ↓reduceIte]
      · rw [hnext]; exact hend _
      · obtain ⟨o1, o2⟩ := hob h
        show xmap _ ob = _
        rw [xmap_blk, if_neg (by omega), xmap_blk, if_neg (by omega), xmap_skipI (by rw [mset_length]; omega), slTX_map h]
    · have hV := hsq 3
      have hV1 := hV.1
      have lG := encL_length (enc := tri4) (z := 4) tri4_z (grTo M k)
      have tG := encL_take_self (enc := tri4) (z := 4) tri4_z (grTo M k)
      have ts := tri_snoc (grTo M k) a b c w
      rw [← hput] at ts
      have l2 : (grTo M (k + 1)).length = (grTo M k).length + 1 := by rw [hput, List.length_append]; rfl
      have eS : ∀ b, slT b (grTo M (k + 1)) = .own b 0 ((grTo M k).length + 1) ((grTo M k).length + 1) 4 false := fun b => by rw [hput, slT_snoc]
      clear i1 i2 i3 hle hnn hMle hwle w5 hsq
      by_cases hz : (grTo M k).length = 0
      · have eC := slT_t (b := ob) hz
        have eX := slTX_t (b := ob) hz
        have hT0 : grTo M k = [] := List.length_eq_zero_iff.1 hz
        simp only [hT0, encL_nil, List.nil_append, List.length_nil, Nat.zero_add] at ts l2
        simp (disch := omega) only [Try.ntmps35, Try.results35, go_sem, Nat.reduceLT, Nat.reduceLeDiff, Nat.reduceEqDiff, Nat.reduceAdd, Nat.reduceSub, Nat.reduceMul, reduceIte, ↓reduceIte, reduceCtorEq, Int.reduceToNat, Int.reduceLE, Int.reduceLT, Int.reduceNeg, Int.reduceSub, Int.reduceAdd, Int.reduceMul, rr_eq, rt, eC, eX, rep4c, xmap_skipI, xdel_skipI]
        refine ⟨(k + 1, U3 U a b c w 3, nb3 + 1, nb3 + 1 + 1), ⟨hlt, hV, by show M.length < nb3 + 1 + 1; omega, fun _ => ⟨by show M.length < nb3 + 1; omega, by show nb3 + 1 < nb3 + 1 + 1; omega⟩, fun x y => ?_⟩, by show (badT M).length - (k + 1) < (badT M).length - k; omega, ?_⟩
        · show mat (U3 U a b c w 3) x y = usedT (grTo M (k + 1)) x y
          rw [ke, hput, usedT_snoc, hused]
        · refine Wk.ofX (by simp only [go_sem, ↓List.forall_mem_cons, List.not_mem_nil, false_implies, implies_true, and_true, true_and, and_self, Nat.reduceEqDiff, reduceIte, ↓reduceIte, ri_eq, Int.natCast_add, Int.cast_ofNat_Int, rr_eq, rt, eS, l2, hz, Nat.zero_add]; try simp) ?_ (Nat.le_refl _)
          simp only [List.forall_mem_cons]
          refine ⟨?_, slTX_in fun h => ?_⟩
          · show EntIn _ (.mat 0 (mi (U3 U a b c w 3)))
            have hl3 : (mi (U3 U a b c w 3)).length = M.length := by rw [mi_length, hV1]
            refine EntIn.skipM (EntIn.skipM (EntIn.skipM EntIn.self ?_) ?_) ?_ <;> omega
          · show xmap _ _ = _
            rw [← ts]
            simp (disch := omega) only [xmap_blk, if_pos, if_neg, ↓reduceIte]
      · have eC := slT_f (b := ob) hz
        have eX := slTX_f (b := ob) hz
        obtain ⟨o1, o2⟩ := hob hz
        skip
        simp (disch := omega) only [Try.ntmps35, Try.results35, go_sem, Nat.reduceLT, Nat.reduceLeDiff, Nat.reduceEqDiff, Nat.reduceAdd, Nat.reduceSub, Nat.reduceMul, reduceIte, ↓reduceIte, reduceCtorEq, Int.reduceToNat, Int.reduceLE, Int.reduceLT, Int.reduceNeg, Int.reduceSub, Int.reduceAdd, Int.reduceMul, rr_eq, rt, eC, eX, rep4c, lG, tG, ts, xmap_skipI, xdel_skipI]
        refine ⟨(k + 1, U3 U a b c w 3, nb3 + 1, nb3 + 1 + 1), ⟨hlt, hV, by show M.length < nb3 + 1 + 1; omega, fun _ => ⟨by show M.length < nb3 + 1; omega, by show nb3 + 1 < nb3 + 1 + 1; omega⟩, fun x y => ?_⟩, by show (badT M).length - (k + 1) < (badT M).length - k; omega, ?_⟩
        · show mat (U3 U a b c w 3) x y = usedT (grTo M (k + 1)) x y
          rw [ke, hput, usedT_snoc, hused]
        · refine Wk.ofX (by simp only [go_sem, ↓List.forall_mem_cons, List.not_mem_nil, false_implies, implies_true, and_true, true_and, and_self, Nat.reduceEqDiff, reduceIte, ↓reduceIte, ri_eq, Int.natCast_add, Int.cast_ofNat_Int, rr_eq, rt, eS, l2]; try simp) ?_ (Nat.le_refl _)
          simp only [List.forall_mem_cons]
          refine ⟨?_, slTX_in fun h => ?_⟩
          · show EntIn _ (.mat 0 (mi (U3 U a b c w 3)))
            have hl3 : (mi (U3 U a b c w 3)).length = M.length := by rw [mi_length, hV1]
            refine EntIn.skipM (EntIn.skipM (EntIn.skipM EntIn.self ?_) ?_) ?_ <;> omega
          · show xmap _ _ = _
            skip
            simp (disch := omega) only [xmap_blk, if_pos, if_neg, ↓reduceIte]
theorem gr_len (M : List (List Int)) : (gr M).length ≤ 512 := Nat.le_trans (grTo_len M _) (badT_len M)
theorem Try.implGr_n (M : List (List Int)) (hM : M.length ≤ 1048576) (hR : ∀ i, i < M.length → (mrow M i).length ≤ 1048576) (hz : (gr M).length = 0) : FCall Try.prog 35 [rr M] (fun r _ => r = .val (.slice none 0 0)) :=
  (Try.implGr_f M hM hR).mono fun _ _ h => h.1 hz
theorem Try.implGr_o (M : List (List Int)) (hM : M.length ≤ 1048576) (hR : ∀ i, i < M.length → (mrow M i).length ≤ 1048576) (hz : (gr M).length ≠ 0) : FCall Try.prog 35 [rr M] (OneRes (gr M).length 4 (encL tri4 (gr M))) :=
  ((Try.implGr_f M hM hR).mono fun _ _ h => h.2 hz).one
theorem Try.implGr_ok (M : List (List Int)) (hM : M.length ≤ 1048576) (hR : ∀ i, i < M.length → (mrow M i).length ≤ 1048576) : PCall Try.prog 35 [rr M] (rt (gr M)) := by
  by_cases hz : (gr M).length = 0
  · have e : gr M = [] := List.length_eq_zero_iff.1 hz
    rw [e]
    exact (Try.implGr_n M hM hR hz).pcall 0 (by rintro r H rfl; exact view_nilT)
  · exact (Try.implGr_o M hM hR hz).pcall 2 (fun _ _ h => one_viewT h rfl)
end Go.Sh
