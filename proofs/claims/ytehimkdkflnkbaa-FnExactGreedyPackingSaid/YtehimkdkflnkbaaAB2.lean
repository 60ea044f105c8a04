/-
  The greedy packing, of the reference.
-/
import Derived.Test.YtehimkdkflnkbaaAB1
namespace Go.Sh
set_option linter.unusedSimpArgs false
set_option linter.unusedVariables false
open Go Go.Proofs

theorem grTo_w {M : List (List Int)} {k : Nat} (hk : k ≤ (badT M).length) : wOk (grTo M k) := (grTo_inv k hk).2.2
set_option maxRecDepth 20000 in
set_option maxHeartbeats 8000000 in
theorem Try.specGr_f (M : List (List Int)) (hM : M.length ≤ 1048576) (hR : ∀ i, i < M.length → (mrow M i).length ≤ 1048576) : FCall Try.prog 34 [rr M] (FlatRes (gr M).length 4 (encL tri4 (gr M))) := by
  have w1 := Try.specBadT_ok M hM hR
  have hT := badT_len M
  have lT := encL_length (enc := tri4) (z := 4) tri4_z (badT M)
  refine FCall.of_body Try.func34 rfl (by kernel_rfl) (by simp [Try.ntmps34]) ?_
  refine SW_of_vc Try.mixed _ _ _ (by kernel_rfl) ?_
  simp (disch := omega) only [Try.ntmps34, Try.results34, go_sem, Nat.reduceLT, Nat.reduceLeDiff, Nat.reduceEqDiff, Nat.reduceAdd, Nat.reduceSub, Nat.reduceMul, reduceIte, ↓reduceIte, reduceCtorEq, Int.reduceToNat, Int.reduceLE, Int.reduceLT, Int.reduceNeg, Int.reduceSub, Int.reduceAdd, Int.reduceMul, rr_eq, rep_zero]
  refine w1.callV 0 (viewL_cons_of (view_row) viewL_nil_of) ?_
  simp (disch := omega) only [Try.ntmps34, Try.results34, go_sem, Nat.reduceLT, Nat.reduceLeDiff, Nat.reduceEqDiff, Nat.reduceAdd, Nat.reduceSub, Nat.reduceMul, reduceIte, ↓reduceIte, reduceCtorEq, Int.reduceToNat, Int.reduceLE, Int.reduceLT, Int.reduceNeg, Int.reduceSub, Int.reduceAdd, Int.reduceMul, rr_eq, rt, rep_zero]
  refine LoopW.loop (fun p : Nat × Nat × Nat => ⟨ofL [(0, rr M), (3, .own p.2.1 0 (grTo M p.1).length (grTo M p.1).length 4 false), (4, rt (badT M)), (5, .val (.int .i64 p.1))], hp [(p.2.1, ⟨encL tri4 (grTo M p.1), false⟩)] p.2.2⟩)
    (fun p => p.1 ≤ (badT M).length ∧ p.2.1 < p.2.2) (fun p => (badT M).length - p.1) (0, 0, 1) ⟨by simp, by simp⟩ (Wk.ofH (by simp only [go_sem, ↓List.forall_mem_cons, List.not_mem_nil, false_implies, implies_true, and_true, true_and, and_self, Nat.reduceEqDiff, reduceIte, ↓reduceIte, ri_eq, Int.natCast_add, Int.cast_ofNat_Int, rr_eq, rt, grTo, List.length_nil]; try simp) (by simp [grTo, encL, hp, hmap]) (by simp [hp])) ?_
  rintro ⟨k, ob, nb⟩ ⟨hk, hob⟩
  simp only at hk hob
  refine SW_of_vc Try.mixed _ _ _ (by kernel_rfl) ?_
  by_cases hlt : k < (badT M).length
  · obtain ⟨a, b, c, ht, hab, hbc, hcn⟩ := badT_at hlt
    have hw := (badT_mem (M := M) (t := tg (badT M) k) (by rw [tg_get hlt]; exact List.getElem_mem _)).1
    obtain ⟨_, _, _, _, q⟩ := tri_of hlt ht
    obtain ⟨i1, i2, i3⟩ := grTo_inv k hk
    have hgl := grTo_len M k
    have ra := hw.2.1 a (by omega)
    have rb := hw.2.1 b (by omega)
    have g1 : (ints (mrow M a))[b]? = some (.val (.int .i64 (mat M a b))) := ints_get' ra (by omega)
    have g2 : (ints (mrow M a))[c]? = some (.val (.int .i64 (mat M a c))) := ints_get' ra (by omega)
    have g3 : (ints (mrow M b))[c]? = some (.val (.int .i64 (mat M b c))) := ints_get' rb (by omega)
    have k1 := (hw.2.2.1 a b (by omega) (by omega)).1
    have k2 := (hw.2.2.1 a c (by omega) (by omega)).1
    have k3 := (hw.2.2.1 b c (by omega) (by omega)).1
    have wa := Try.l21Size_ok (mat M a b) (by omega) (by omega)
    have wb := Try.l21Size_ok (mat M a c) (by omega) (by omega)
    have wc := Try.l21Size_ok (mat M b c) (by omega) (by omega)
    have ua := Try.l21Used_ok (grTo M k) a b (by omega) i3
    have ub := Try.l21Used_ok (grTo M k) a c (by omega) i3
    have uc := Try.l21Used_ok (grTo M k) b c (by omega) i3
    have za := i2 a b hab (by omega)
    have zb := i2 a c (by omega) (by omega)
    have zc := i2 b c hbc (by omega)
    have ya := i1 a b
    have yb := i1 a c
    have yc := i1 b c
    have ma := absI_le hw (x := a) (y := b) (by omega) (by omega)
    have mb := absI_le hw (x := a) (y := c) (by omega) (by omega)
    have mc := absI_le hw (x := b) (y := c) (by omega) (by omega)
    have hput := grTo_put ht
    have hskip := grTo_skip ht
    have hgw : gw M (grTo M k) a b c = mn2 (mn2 (absI (mat M a b) - usedT (grTo M k) a b) (absI (mat M a c) - usedT (grTo M k) a c)) (absI (mat M b c) - usedT (grTo M k) b c) := rfl
    have lG := encL_length (enc := tri4) (z := 4) tri4_z (grTo M k)
    have tG := encL_take_self (enc := tri4) (z := 4) tri4_z (grTo M k)
    have ts := fun w => tri_snoc (grTo M k) a b c w
    clear i1 i2 i3
    generalize hG : gw M (grTo M k) a b c = w at *
    replace hgw := hgw.symm
    generalize usedT (grTo M k) a b = va at *
    generalize usedT (grTo M k) a c = vb at *
    generalize usedT (grTo M k) b c = vc at *
    generalize absI (mat M a b) = aa at *
    generalize absI (mat M a c) = ab at *
    generalize absI (mat M b c) = ac at *
    generalize mat M a b = x at *
    generalize mat M a c = y at *
    generalize mat M b c = z at *
    generalize hold : mn2 (mn2 aa ab) ac = w0 at *
    by_cases hpos : 0 < w
    · have hput := hput hpos
      have hl2 : (grTo M (k + 1)).length = (grTo M k).length + 1 := by rw [hput, List.length_append]; rfl
      have ts := ts w
      rw [← hput] at ts
      simp (disch := omega) only [Try.ntmps34, Try.results34, go_sem, Nat.reduceLT, Nat.reduceLeDiff, Nat.reduceEqDiff, Nat.reduceAdd, Nat.reduceSub, Nat.reduceMul, reduceIte, ↓reduceIte, reduceCtorEq, Int.reduceToNat, Int.reduceLE, Int.reduceLT, Int.reduceNeg, Int.reduceSub, Int.reduceAdd, Int.reduceMul, rr_eq, rt, lT, q, rep4c, rows_get, ra, rb, g1, g2, g3]
      refine wa.callDV 0 (viewL_cons_of (view_int) viewL_nil_of) ?_
      simp (disch := omega) only [Try.ntmps34, Try.results34, go_sem, Nat.reduceLT, Nat.reduceLeDiff, Nat.reduceEqDiff, Nat.reduceAdd, Nat.reduceSub, Nat.reduceMul, reduceIte, ↓reduceIte, reduceCtorEq, Int.reduceToNat, Int.reduceLE, Int.reduceLT, Int.reduceNeg, Int.reduceSub, Int.reduceAdd, Int.reduceMul, rr_eq, rt, lT, q, rep4c, rows_get, ra, rb, g1, g2, g3]
      refine ua.callDV 1 (viewL_cons_of (view_ownT (e2 := false) (by rw [hp_map, hmap_cons, if_neg (by omega), hmap_cons, if_pos rfl]) rfl) (viewL_cons_of view_int (viewL_cons_of view_int viewL_nil_of))) ?_
      simp (disch := omega) only [Try.ntmps34, Try.results34, go_sem, Nat.reduceLT, Nat.reduceLeDiff, Nat.reduceEqDiff, Nat.reduceAdd, Nat.reduceSub, Nat.reduceMul, reduceIte, ↓reduceIte, reduceCtorEq, Int.reduceToNat, Int.reduceLE, Int.reduceLT, Int.reduceNeg, Int.reduceSub, Int.reduceAdd, Int.reduceMul, rr_eq, rt, lT, q, rep4c, rows_get, ra, rb, g1, g2, g3]
      refine wb.callDV 0 (viewL_cons_of (view_int) viewL_nil_of) ?_
      simp (disch := omega) only [Try.ntmps34, Try.results34, go_sem, Nat.reduceLT, Nat.reduceLeDiff, Nat.reduceEqDiff, Nat.reduceAdd, Nat.reduceSub, Nat.reduceMul, reduceIte, ↓reduceIte, reduceCtorEq, Int.reduceToNat, Int.reduceLE, Int.reduceLT, Int.reduceNeg, Int.reduceSub, Int.reduceAdd, Int.reduceMul, rr_eq, rt, lT, q, rep4c, rows_get, ra, rb, g1, g2, g3]
      refine ub.callDV 1 (viewL_cons_of (view_ownT (e2 := false) (by rw [hp_map, hmap_cons, if_neg (by omega), hmap_cons, if_pos rfl]) rfl) (viewL_cons_of view_int (viewL_cons_of view_int viewL_nil_of))) ?_
      simp (disch := omega) only [Try.ntmps34, Try.results34, go_sem, Nat.reduceLT, Nat.reduceLeDiff, Nat.reduceEqDiff, Nat.reduceAdd, Nat.reduceSub, Nat.reduceMul, reduceIte, ↓reduceIte, reduceCtorEq, Int.reduceToNat, Int.reduceLE, Int.reduceLT, Int.reduceNeg, Int.reduceSub, Int.reduceAdd, Int.reduceMul, rr_eq, rt, lT, q, rep4c, rows_get, ra, rb, g1, g2, g3]
      refine wc.callDV 0 (viewL_cons_of (view_int) viewL_nil_of) ?_
      simp (disch := omega) only [Try.ntmps34, Try.results34, go_sem, Nat.reduceLT, Nat.reduceLeDiff, Nat.reduceEqDiff, Nat.reduceAdd, Nat.reduceSub, Nat.reduceMul, reduceIte, ↓reduceIte, reduceCtorEq, Int.reduceToNat, Int.reduceLE, Int.reduceLT, Int.reduceNeg, Int.reduceSub, Int.reduceAdd, Int.reduceMul, rr_eq, rt, lT, q, rep4c, rows_get, ra, rb, g1, g2, g3]
      refine uc.callDV 1 (viewL_cons_of (view_ownT (e2 := false) (by rw [hp_map, hmap_cons, if_neg (by omega), hmap_cons, if_pos rfl]) rfl) (viewL_cons_of view_int (viewL_cons_of view_int viewL_nil_of))) ?_
      simp (disch := omega) only [Try.ntmps34, Try.results34, go_sem, Nat.reduceLT, Nat.reduceLeDiff, Nat.reduceEqDiff, Nat.reduceAdd, Nat.reduceSub, Nat.reduceMul, reduceIte, ↓reduceIte, reduceCtorEq, Int.reduceToNat, Int.reduceLE, Int.reduceLT, Int.reduceNeg, Int.reduceSub, Int.reduceAdd, Int.reduceMul, rr_eq, rt, lT, q, rep4c, rows_get, ra, rb, g1, g2, g3, ite_mn2, hgw, lG, tG, ts]
      refine ⟨(k + 1, nb + 1 + 1, nb + 1 + 1 + 1), ⟨hlt, by show nb + 1 + 1 < nb + 1 + 1 + 1; omega⟩, by show (badT M).length - (k + 1) < (badT M).length - k; omega, ?_⟩
      exact Wk.ofH (by simp only [go_sem, ↓List.forall_mem_cons, List.not_mem_nil, false_implies, implies_true, and_true, true_and, and_self, Nat.reduceEqDiff, reduceIte, ↓reduceIte, ri_eq, Int.natCast_add, Int.cast_ofNat_Int, rr_eq, rt, hl2]; try simp) (by simp (disch := omega) only [go_sem, ↓List.forall_mem_cons, List.not_mem_nil, false_implies, implies_true, and_true, true_and, and_self, Nat.reduceEqDiff, reduceIte, ↓reduceIte, ri_eq, Int.natCast_add, Int.cast_ofNat_Int, if_pos, if_neg, Nat.reduceAdd, List.nil_append]; try simp) (Nat.le_refl _)
    · have hskip := hskip hpos
      simp (disch := omega) only [Try.ntmps34, Try.results34, go_sem, Nat.reduceLT, Nat.reduceLeDiff, Nat.reduceEqDiff, Nat.reduceAdd, Nat.reduceSub, Nat.reduceMul, reduceIte, ↓reduceIte, reduceCtorEq, Int.reduceToNat, Int.reduceLE, Int.reduceLT, Int.reduceNeg, Int.reduceSub, Int.reduceAdd, Int.reduceMul, rr_eq, rt, lT, q, rep4c, rows_get, ra, rb, g1, g2, g3]
      refine wa.callDV 0 (viewL_cons_of (view_int) viewL_nil_of) ?_
      simp (disch := omega) only [Try.ntmps34, Try.results34, go_sem, Nat.reduceLT, Nat.reduceLeDiff, Nat.reduceEqDiff, Nat.reduceAdd, Nat.reduceSub, Nat.reduceMul, reduceIte, ↓reduceIte, reduceCtorEq, Int.reduceToNat, Int.reduceLE, Int.reduceLT, Int.reduceNeg, Int.reduceSub, Int.reduceAdd, Int.reduceMul, rr_eq, rt, lT, q, rep4c, rows_get, ra, rb, g1, g2, g3]
      refine ua.callDV 1 (viewL_cons_of (view_ownT (e2 := false) (by rw [hp_map, hmap_cons, if_neg (by omega), hmap_cons, if_pos rfl]) rfl) (viewL_cons_of view_int (viewL_cons_of view_int viewL_nil_of))) ?_
      simp (disch := omega) only [Try.ntmps34, Try.results34, go_sem, Nat.reduceLT, Nat.reduceLeDiff, Nat.reduceEqDiff, Nat.reduceAdd, Nat.reduceSub, Nat.reduceMul, reduceIte, ↓reduceIte, reduceCtorEq, Int.reduceToNat, Int.reduceLE, Int.reduceLT, Int.reduceNeg, Int.reduceSub, Int.reduceAdd, Int.reduceMul, rr_eq, rt, lT, q, rep4c, rows_get, ra, rb, g1, g2, g3]
      refine wb.callDV 0 (viewL_cons_of (view_int) viewL_nil_of) ?_
      simp (disch := omega) only [Try.ntmps34, Try.results34, go_sem, Nat.reduceLT, Nat.reduceLeDiff, Nat.reduceEqDiff, Nat.reduceAdd, Nat.reduceSub, Nat.reduceMul, reduceIte, ↓reduceIte, reduceCtorEq, Int.reduceToNat, Int.reduceLE, Int.reduceLT, Int.reduceNeg, Int.reduceSub, Int.reduceAdd, Int.reduceMul, rr_eq, rt, lT, q, rep4c, rows_get, ra, rb, g1, g2, g3]
      refine ub.callDV 1 (viewL_cons_of (view_ownT (e2 := false) (by rw [hp_map, hmap_cons, if_neg (by omega), hmap_cons, if_pos rfl]) rfl) (viewL_cons_of view_int (viewL_cons_of view_int viewL_nil_of))) ?_
      simp (disch := omega) only [Try.ntmps34, Try.results34, go_sem, Nat.reduceLT, Nat.reduceLeDiff, Nat.reduceEqDiff, Nat.reduceAdd, Nat.reduceSub, Nat.reduceMul, reduceIte, ↓reduceIte, reduceCtorEq, Int.reduceToNat, Int.reduceLE, Int.reduceLT, Int.reduceNeg, Int.reduceSub, Int.reduceAdd, Int.reduceMul, rr_eq, rt, lT, q, rep4c, rows_get, ra, rb, g1, g2, g3]
      refine wc.callDV 0 (viewL_cons_of (view_int) viewL_nil_of) ?_
      simp (disch := omega) only [Try.ntmps34, Try.results34, go_sem, Nat.reduceLT, Nat.reduceLeDiff, Nat.reduceEqDiff, Nat.reduceAdd, Nat.reduceSub, Nat.reduceMul, reduceIte, ↓reduceIte, reduceCtorEq, Int.reduceToNat, Int.reduceLE, Int.reduceLT, Int.reduceNeg, Int.reduceSub, Int.reduceAdd, Int.reduceMul, rr_eq, rt, lT, q, rep4c, rows_get, ra, rb, g1, g2, g3]
      refine uc.callDV 1 (viewL_cons_of (view_ownT (e2 := false) (by rw [hp_map, hmap_cons, if_neg (by omega), hmap_cons, if_pos rfl]) rfl) (viewL_cons_of view_int (viewL_cons_of view_int viewL_nil_of))) ?_
      simp (disch := omega) only [Try.ntmps34, Try.results34, go_sem, Nat.reduceLT, Nat.reduceLeDiff, Nat.reduceEqDiff, Nat.reduceAdd, Nat.reduceSub, Nat.reduceMul, reduceIte, ↓reduceIte, reduceCtorEq, Int.reduceToNat, Int.reduceLE, Int.reduceLT, Int.reduceNeg, Int.reduceSub, Int.reduceAdd, Int.reduceMul, rr_eq, rt, lT, q, rep4c, rows_get, ra, rb, g1, g2, g3, ite_mn2, hgw, lG, tG]
      refine ⟨(k + 1, ob, nb + 1), ⟨hlt, by show ob < nb + 1; omega⟩, by show (badT M).length - (k + 1) < (badT M).length - k; omega, ?_⟩
      exact Wk.ofH (by simp only [go_sem, ↓List.forall_mem_cons, List.not_mem_nil, false_implies, implies_true, and_true, true_and, and_self, Nat.reduceEqDiff, reduceIte, ↓reduceIte, ri_eq, Int.natCast_add, Int.cast_ofNat_Int, rr_eq, rt, hskip]; try simp) (by simp (disch := omega) only [go_sem, ↓List.forall_mem_cons, List.not_mem_nil, false_implies, implies_true, and_true, true_and, and_self, Nat.reduceEqDiff, reduceIte, ↓reduceIte, ri_eq, Int.natCast_add, Int.cast_ofNat_Int, if_pos, if_neg, Nat.reduceAdd, List.nil_append, hskip]; try simp) (Nat.le_refl _)
  · have hkl : k = (badT M).length := by omega
    subst hkl
    simp (disch := omega) only [Try.ntmps34, Try.results34, go_sem, Nat.reduceLT, Nat.reduceLeDiff, Nat.reduceEqDiff, Nat.reduceAdd, Nat.reduceSub, Nat.reduceMul, reduceIte, ↓reduceIte, reduceCtorEq, Int.reduceToNat, Int.reduceLE, Int.reduceLT, Int.reduceNeg, Int.reduceSub, Int.reduceAdd, Int.reduceMul, rr_eq, rt]
    exact flat_fin (encL_length (z := 4) tri4_z _) (encL_vals tri4_v _) (by rw [hp_map, hmap_cons, if_pos rfl]; rfl)
theorem Try.specGr_ok (M : List (List Int)) (hM : M.length ≤ 1048576) (hR : ∀ i, i < M.length → (mrow M i).length ≤ 1048576) : PCall Try.prog 34 [rr M] (rt (gr M)) :=
  (Try.specGr_f M hM hR).one.pcall 2 (fun _ _ h => one_viewT h rfl)
end Go.Sh
