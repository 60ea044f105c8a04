/-
  Contracts: the blocks of a partition. Of the program.
-/
import Derived.Test.YtjgplijipbnjcaaV1
namespace Go.Sh
set_option linter.unusedSimpArgs false
set_option linter.unusedVariables false
open Go Go.Proofs

def blkF (L : List Int) : Nat × List (Nat × List SV) × Nat × Nat → St
  | (0, _, _, nb) => ⟨ofL [(3, .val (.slice none 0 0)), (6, ri L), (7, .val (.int .i64 L.length)), (8, .val (.int .i64 0))], hp [] nb⟩
  | (k + 1, nr, ob, nb) => ⟨ofL [(3, .own ob 0 nr.length nr.length 1 false), (6, ri L), (7, .val (.int .i64 L.length)), (8, .val (.int .i64 ((k + 1 : Nat) : Int)))], hx [.blk ob ⟨outerN false nr, false⟩, .rows false nr] nb⟩

set_option maxHeartbeats 4000000 in
theorem Try.blocks_f (L : List Int) (hp1 : isPart L = true) : FCall Try.prog 59 [ri L] (MatRes (mi (blkTo L L.length))) := by
  obtain ⟨l1, l2⟩ := isPart_len hp1
  refine FCall.of_body Try.func59 rfl (by kernel_rfl) (by simp [Try.ntmps59]) ?_
  refine SW_of_vc Try.mixed _ _ _ (by kernel_rfl) ?_
  simp (disch := omega) only [Try.ntmps59, Try.results59, go_sem, List.map_cons, List.map_nil, true_and, and_true, Nat.reduceLT, Nat.reduceLeDiff, Nat.reduceEqDiff, Nat.reduceAdd, Nat.reduceSub, Nat.reduceMul, reduceIte, ↓reduceIte, reduceCtorEq, if_pos, if_neg, decide_eq_true, decide_eq_false, ibeq_t, ibeq_f, ibne_t, ibne_f, Int.toNat_natCast, Int.reduceToNat, Int.reduceLE, Int.reduceLT, Int.reduceNeg, Int.reduceSub, Int.reduceAdd, Int.reduceMul, Nat.mul_one, Nat.zero_add, Nat.add_zero, wrap_id, ge_iff_le, gt_iff_lt, beq_iff_eq, bne_iff_ne, decide_eq_true_eq, decide_eq_false_iff_not, ints_get, ints_set, ints_length, ints_append, ints_replicate, ri_eq, List.length_cons, List.length_nil, List.all_cons, List.all_nil, List.cons_append, List.nil_append, List.append_nil, Value.oneCell', Bool.and_self, Bool.true_and, Bool.and_true, Bool.not_true, Bool.not_false, and_self, implies_true, true_implies, false_implies, forall_const, false_and, and_false, IntKind.bits, Bool.true_eq_false, Bool.false_eq_true, not_true_eq_false, not_false_eq_true, Option.map_some, Option.map_none, Option.isNone_some, Option.isNone_none, Option.isSome_some, Option.isSome_none, Nat.sub_zero, Nat.zero_mul, List.drop_zero, Bool.false_and, Bool.and_false, Nat.sub_self, List.replicate_one, List.set_cons_zero, List.set_cons_succ, ints_take_self, ints_snoc, decide_true, decide_false, List.take_succ_cons, List.take_zero, List.take_nil, List.drop_succ_cons, List.drop_nil, List.replicate_zero, List.getElem?_cons_zero, List.getElem?_cons_succ, tbf, fbt, tbt, fbf]
  refine LoopW.loop (blkF L) (fun p => p.1 ≤ L.length ∧ (0 < p.1 → NrOk p.2.2.1 p.2.2.2 p.2.1 ∧ p.2.1.map (·.2) = mi (blkTo L p.1))) (fun p => L.length - p.1) (0, [], 0, 0) ⟨by simp, by simp⟩ (Wk.of (by simp only [go_sem, ↓List.forall_mem_cons, List.not_mem_nil, false_implies, implies_true, and_true, true_and, and_self, Nat.reduceEqDiff, reduceIte, ↓reduceIte, ri_eq, Int.natCast_add, Int.cast_ofNat_Int]; try simp) rfl) ?_
  rintro ⟨k, nr, ob, nb⟩ ⟨hk, hinv⟩
  simp only at hk hinv
  refine SW_of_vc Try.mixed _ _ _ (by kernel_rfl) ?_
  cases k with
  | zero =>
    have hlt : 0 < L.length := by omega
    obtain ⟨x, hx, hxl⟩ := blk_at hp1 hlt
    have hx0 : x = 0 := by simp [blkTo] at hxl; exact hxl
    subst hx0
    have hn := blkTo_new (L := L) (k := 0) (by rw [hx]; rfl)
    have hb1 : blkTo L 1 = [[0]] := by rw [hn]; rfl
    have g1 := ints_get hlt
    rw [hx] at g1
    rw [blkF]
    simp (disch := omega) only [Try.ntmps59, Try.results59, go_sem, List.map_cons, List.map_nil, true_and, and_true, Nat.reduceLT, Nat.reduceLeDiff, Nat.reduceEqDiff, Nat.reduceAdd, Nat.reduceSub, Nat.reduceMul, reduceIte, ↓reduceIte, reduceCtorEq, if_pos, if_neg, decide_eq_true, decide_eq_false, ibeq_t, ibeq_f, ibne_t, ibne_f, Int.toNat_natCast, Int.reduceToNat, Int.reduceLE, Int.reduceLT, Int.reduceNeg, Int.reduceSub, Int.reduceAdd, Int.reduceMul, Nat.mul_one, Nat.zero_add, Nat.add_zero, wrap_id, ge_iff_le, gt_iff_lt, beq_iff_eq, bne_iff_ne, decide_eq_true_eq, decide_eq_false_iff_not, ints_get, ints_set, ints_length, ints_append, ints_replicate, ri_eq, List.length_cons, List.length_nil, List.all_cons, List.all_nil, List.cons_append, List.nil_append, List.append_nil, Value.oneCell', Bool.and_self, Bool.true_and, Bool.and_true, Bool.not_true, Bool.not_false, and_self, implies_true, true_implies, false_implies, forall_const, false_and, and_false, IntKind.bits, Bool.true_eq_false, Bool.false_eq_true, not_true_eq_false, not_false_eq_true, Option.map_some, Option.map_none, Option.isNone_some, Option.isNone_none, Option.isSome_some, Option.isSome_none, Nat.sub_zero, Nat.zero_mul, List.drop_zero, Bool.false_and, Bool.and_false, Nat.sub_self, List.replicate_one, List.set_cons_zero, List.set_cons_succ, ints_take_self, ints_snoc, decide_true, decide_false, List.take_succ_cons, List.take_zero, List.take_nil, List.drop_succ_cons, List.drop_nil, List.replicate_zero, List.getElem?_cons_zero, List.getElem?_cons_succ, tbf, fbt, tbt, fbf, g1, Int.natCast_zero]
    refine ⟨(1, [(nb + 1 + 1 + 1, ints [0])], nb + 1, nb + 1 + 1 + 1 + 1), ⟨l1, fun _ => ⟨⟨by show nb + 1 < nb + 1 + 1 + 1 + 1; omega, by intro p hp; simp at hp; subst hp; simp only []; omega, by simp⟩, ?_⟩⟩, by show L.length - 1 < L.length; omega, ?_⟩
    · show [ints [0]] = mi (blkTo L 1)
      rw [hb1]; rfl
    · rw [blkF]
      refine Wk.ofX (by simp only [go_sem, ↓List.forall_mem_cons, List.not_mem_nil, false_implies, implies_true, and_true, true_and, and_self, Nat.reduceEqDiff, reduceIte, ↓reduceIte, ri_eq, Int.natCast_add, Int.cast_ofNat_Int, List.length_singleton]; try simp) ?_ (Nat.le_refl _)
      simp only [List.forall_mem_cons]
      refine ⟨?_, ?_, by simp⟩
      · simp (disch := omega) only [EntIn, hp_map, hmap_cons, if_pos, if_neg, ↓reduceIte]; rfl
      · intro p hp
        simp at hp
        subst hp
        simp (disch := omega) only [hp_map, hmap_cons, if_pos, if_neg, ↓reduceIte]; rfl
  | succ k =>
    obtain ⟨ho, hrows⟩ := hinv (by omega)
    have hob := ho.1
    have hnl := nr_len hrows
    have hol := outerN_length false nr
    have hot : (outerN false nr).take nr.length = outerN false nr := List.take_of_length_le (by omega)
    have hble := blkTo_le L (k + 1)
    rw [blkF]
    by_cases hlt : k + 1 < L.length
    · obtain ⟨x, hx, hxl⟩ := blk_at hp1 hlt
      have g1 := ints_get hlt
      rw [hx] at g1
      by_cases hnew : x = (blkTo L (k + 1)).length
      · have hxe : x = nr.length := by omega
        subst hxe
        have hn := blkTo_new (L := L) (k := k + 1) (by rw [hx, hnew])
        have hg2 : (outerN false nr ++ [SV.val (.slice none 0 0)])[nr.length]? = some (.val (.slice none 0 0)) := by rw [List.getElem?_append_right (by omega), hol]; simp
        have hs2 : ∀ nm, (outerN false nr ++ [SV.val (.slice none 0 0)]).set nr.length (.own nm 0 1 1 1 false) = outerN false (nr ++ [(nm, ints [((k + 1 : Nat) : Int)])]) := fun nm => by
          rw [outerN_snoc, List.set_append_right _ _ (by omega), hol, Nat.sub_self]; rfl
        simp (disch := omega) only [Try.ntmps59, Try.results59, go_sem, List.map_cons, List.map_nil, true_and, and_true, Nat.reduceLT, Nat.reduceLeDiff, Nat.reduceEqDiff, Nat.reduceAdd, Nat.reduceSub, Nat.reduceMul, reduceIte, ↓reduceIte, reduceCtorEq, if_pos, if_neg, decide_eq_true, decide_eq_false, ibeq_t, ibeq_f, ibne_t, ibne_f, Int.toNat_natCast, Int.reduceToNat, Int.reduceLE, Int.reduceLT, Int.reduceNeg, Int.reduceSub, Int.reduceAdd, Int.reduceMul, Nat.mul_one, Nat.zero_add, Nat.add_zero, wrap_id, ge_iff_le, gt_iff_lt, beq_iff_eq, bne_iff_ne, decide_eq_true_eq, decide_eq_false_iff_not, ints_get, ints_set, ints_length, ints_append, ints_replicate, ri_eq, List.length_cons, List.length_nil, List.all_cons, List.all_nil, List.cons_append, List.nil_append, List.append_nil, Value.oneCell', Bool.and_self, Bool.true_and, Bool.and_true, Bool.not_true, Bool.not_false, and_self, implies_true, true_implies, false_implies, forall_const, false_and, and_false, IntKind.bits, Bool.true_eq_false, Bool.false_eq_true, not_true_eq_false, not_false_eq_true, Option.map_some, Option.map_none, Option.isNone_some, Option.isNone_none, Option.isSome_some, Option.isSome_none, Nat.sub_zero, Nat.zero_mul, List.drop_zero, Bool.false_and, Bool.and_false, Nat.sub_self, List.replicate_one, List.set_cons_zero, List.set_cons_succ, ints_take_self, ints_snoc, decide_true, decide_false, List.take_succ_cons, List.take_zero, List.take_nil, List.drop_succ_cons, List.drop_nil, List.replicate_zero, List.getElem?_cons_zero, List.getElem?_cons_succ, tbf, fbt, tbt, fbf, g1, hol, hot, hg2, hs2, List.length_append, List.length_singleton]
        refine ⟨(k + 1 + 1, nr ++ [(nb + 1 + 1 + 1, ints [((k + 1 : Nat) : Int)])], nb + 1, nb + 1 + 1 + 1 + 1), ⟨hlt, fun _ => ⟨ho.snoc (by omega) (by show nb ≤ nb + 1; omega) (by show nb + 1 + 1 + 1 ≠ nb + 1; omega) (by show nb + 1 + 1 + 1 < nb + 1 + 1 + 1 + 1; omega) (by show nb + 1 < nb + 1 + 1 + 1 + 1; omega), ?_⟩⟩, by show L.length - (k + 1 + 1) < L.length - (k + 1); omega, ?_⟩
        · show (nr ++ _).map (·.2) = mi (blkTo L (k + 1 + 1))
          rw [hn, List.map_append, hrows, mi_snoc]; rfl
        · rw [blkF]
          refine Wk.ofX (by simp only [go_sem, ↓List.forall_mem_cons, List.not_mem_nil, false_implies, implies_true, and_true, true_and, and_self, Nat.reduceEqDiff, reduceIte, ↓reduceIte, ri_eq, Int.natCast_add, Int.cast_ofNat_Int, List.length_append, List.length_singleton]; try simp) ?_ (Nat.le_refl _)
          simp only [List.forall_mem_cons]
          refine ⟨?_, ?_, by simp⟩
          · simp (disch := omega) only [EntIn, hx_map, xmap_blk, if_pos, if_neg, ↓reduceIte]
          · refine EntIn.snoc ?_ ?_
            · have hne : ∀ p ∈ nr, p.1 < nb ∧ p.1 ≠ ob := ho.2.1
              refine EntIn.skipR (EntIn.skipR (EntIn.skipR (EntIn.skipR (EntIn.skipC (EntIn.selfR ho.2.2) ?_) ?_) ?_) ?_) ?_
              all_goals
                intro p hp
                have := hne p hp
                omega
            · simp (disch := omega) only [hx_map, xmap_blk, if_pos, if_neg, ↓reduceIte]; rfl
      · have hxn : x < nr.length := by omega
        obtain ⟨hr1, hr2⟩ := nr_row hrows hxn
        have hold := blkTo_old hx hr2
        have hgo := outerN_get (fl := false) hxn
        have hgr := xmap_rowsAt (fl := false) (l := []) ho.2.2 hxn
        have hlt' := ho.2.1 _ (nrAt_mem hxn)
        have hrle := blkTo_row L (k + 1) x
        have hset := fun nm => outerN_set (fl := false) (nr := nr) (x := x) (nm := nm) (r := ints (mrow (blkTo L (k + 1)) x ++ [((k + 1 : Nat) : Int)])) rfl
        rw [hr1] at hgo hgr
        rw [ints_length, List.length_append, List.length_singleton] at hset
        rw [ints_length] at hgo
        generalize hnm : (nrAt nr x).1 = nm at *
        simp (disch := omega) only [Try.ntmps59, Try.results59, go_sem, List.map_cons, List.map_nil, true_and, and_true, Nat.reduceLT, Nat.reduceLeDiff, Nat.reduceEqDiff, Nat.reduceAdd, Nat.reduceSub, Nat.reduceMul, reduceIte, ↓reduceIte, reduceCtorEq, if_pos, if_neg, decide_eq_true, decide_eq_false, ibeq_t, ibeq_f, ibne_t, ibne_f, Int.toNat_natCast, Int.reduceToNat, Int.reduceLE, Int.reduceLT, Int.reduceNeg, Int.reduceSub, Int.reduceAdd, Int.reduceMul, Nat.mul_one, Nat.zero_add, Nat.add_zero, wrap_id, ge_iff_le, gt_iff_lt, beq_iff_eq, bne_iff_ne, decide_eq_true_eq, decide_eq_false_iff_not, ints_get, ints_set, ints_length, ints_append, ints_replicate, ri_eq, List.length_cons, List.length_nil, List.all_cons, List.all_nil, List.cons_append, List.nil_append, List.append_nil, Value.oneCell', Bool.and_self, Bool.true_and, Bool.and_true, Bool.not_true, Bool.not_false, and_self, implies_true, true_implies, false_implies, forall_const, false_and, and_false, IntKind.bits, Bool.true_eq_false, Bool.false_eq_true, not_true_eq_false, not_false_eq_true, Option.map_some, Option.map_none, Option.isNone_some, Option.isNone_none, Option.isSome_some, Option.isSome_none, Nat.sub_zero, Nat.zero_mul, List.drop_zero, Bool.false_and, Bool.and_false, Nat.sub_self, List.replicate_one, List.set_cons_zero, List.set_cons_succ, ints_take_self, ints_snoc, decide_true, decide_false, List.take_succ_cons, List.take_zero, List.take_nil, List.drop_succ_cons, List.drop_nil, List.replicate_zero, List.getElem?_cons_zero, List.getElem?_cons_succ, tbf, fbt, tbt, fbf, g1, hol, hot, hgo, hgr, hset]
        refine ⟨(k + 1 + 1, nr.set x (nb + 1, ints (mrow (blkTo L (k + 1)) x ++ [((k + 1 : Nat) : Int)])), ob, nb + 1 + 1), ⟨hlt, fun _ => ⟨ho.set (by omega) (by show nb + 1 < nb + 1 + 1; omega), ?_⟩⟩, by show L.length - (k + 1 + 1) < L.length - (k + 1); omega, ?_⟩
        · show (nr.set x _).map (·.2) = mi (blkTo L (k + 1 + 1))
          rw [hold, List.map_set, hrows, mi_set]
        · rw [blkF]
          refine Wk.ofX (by simp only [go_sem, ↓List.forall_mem_cons, List.not_mem_nil, false_implies, implies_true, and_true, true_and, and_self, Nat.reduceEqDiff, reduceIte, ↓reduceIte, ri_eq, Int.natCast_add, Int.cast_ofNat_Int, List.length_set]; try simp) ?_ (Nat.le_refl _)
          simp only [List.forall_mem_cons]
          refine ⟨?_, ?_, by simp⟩
          · simp (disch := omega) only [EntIn, hx_map, xmap_blk, if_pos, if_neg, ↓reduceIte]
          · refine EntIn.setN (fun j hj hne => ?_) (by rw [hx_map, xmap_blk, if_pos rfl])
            have h1 := ho.2.1 _ (nrAt_mem hj)
            have h2 := nr_ne ho.2.2 hj hxn hne
            rw [hnm] at h2
            rw [hx_map, xmap_blk, if_neg (by omega), xmap_blk, if_neg (by omega), xmap_blk, if_neg (by omega), xmap_cut, if_neg (by omega)]
            exact xmap_rowsAt ho.2.2 hj
    · have hkl : k + 1 = L.length := by omega
      rw [hkl] at hrows
      have := fin_rows (H := hx [Ent.blk ob { cells := outerN false nr, ex := false }, Ent.rows false nr] nb) (R := mi (blkTo L L.length)) ho
        (fun p hp => mi_vals (blkTo L L.length) _ (by rw [← hrows]; exact List.mem_map_of_mem hp)) (by rw [hx_map, xmap_blk, if_pos rfl])
        (EntIn.skipR (EntIn.selfR ho.2.2) (fun p hp => (ho.2.1 p hp).2)) hrows.symm
      simp (disch := omega) only [Try.ntmps59, Try.results59, go_sem, List.map_cons, List.map_nil, true_and, and_true, Nat.reduceLT, Nat.reduceLeDiff, Nat.reduceEqDiff, Nat.reduceAdd, Nat.reduceSub, Nat.reduceMul, reduceIte, ↓reduceIte, reduceCtorEq, if_pos, if_neg, decide_eq_true, decide_eq_false, ibeq_t, ibeq_f, ibne_t, ibne_f, Int.toNat_natCast, Int.reduceToNat, Int.reduceLE, Int.reduceLT, Int.reduceNeg, Int.reduceSub, Int.reduceAdd, Int.reduceMul, Nat.mul_one, Nat.zero_add, Nat.add_zero, wrap_id, ge_iff_le, gt_iff_lt, beq_iff_eq, bne_iff_ne, decide_eq_true_eq, decide_eq_false_iff_not, ints_get, ints_set, ints_length, ints_append, ints_replicate, ri_eq, List.length_cons, List.length_nil, List.all_cons, List.all_nil, List.cons_append, List.nil_append, List.append_nil, Value.oneCell', Bool.and_self, Bool.true_and, Bool.and_true, Bool.not_true, Bool.not_false, and_self, implies_true, true_implies, false_implies, forall_const, false_and, and_false, IntKind.bits, Bool.true_eq_false, Bool.false_eq_true, not_true_eq_false, not_false_eq_true, Option.map_some, Option.map_none, Option.isNone_some, Option.isNone_none, Option.isSome_some, Option.isSome_none, Nat.sub_zero, Nat.zero_mul, List.drop_zero, Bool.false_and, Bool.and_false, Nat.sub_self, List.replicate_one, List.set_cons_zero, List.set_cons_succ, ints_take_self, ints_snoc, decide_true, decide_false, List.take_succ_cons, List.take_zero, List.take_nil, List.drop_succ_cons, List.drop_nil, List.replicate_zero, List.getElem?_cons_zero, List.getElem?_cons_succ, tbf, fbt, tbt, fbf]
      exact this

def sblk (L : List Int) : List (List Int) := blocksOf L
theorem Try.implBlocks_f (L : List Int) (hL : L.length ≤ 1048576) (h : isPart L = true) : FCall Try.prog 17 [ri L] (MatRes (mi (blocksOf L))) := by
  have w := Try.implIsPartition_ok L hL
  rw [h] at w
  rw [blocksOf_t h]
  refine FCall.of_body Try.func17 rfl (by kernel_rfl) (by simp [Try.ntmps17]) ?_
  refine SW_of_vc Try.mixed _ _ _ (by kernel_rfl) ?_
  simp (disch := omega) only [Try.ntmps17, Try.results17, go_sem, List.map_cons, List.map_nil, true_and, and_true, Nat.reduceLT, Nat.reduceLeDiff, Nat.reduceEqDiff, Nat.reduceAdd, Nat.reduceSub, Nat.reduceMul, reduceIte, ↓reduceIte, reduceCtorEq, if_pos, if_neg, decide_eq_true, decide_eq_false, ibeq_t, ibeq_f, ibne_t, ibne_f, Int.toNat_natCast, Int.reduceToNat, Int.reduceLE, Int.reduceLT, Int.reduceNeg, Int.reduceSub, Int.reduceAdd, Int.reduceMul, Nat.mul_one, Nat.zero_add, Nat.add_zero, wrap_id, ge_iff_le, gt_iff_lt, beq_iff_eq, bne_iff_ne, decide_eq_true_eq, decide_eq_false_iff_not, ints_get, ints_set, ints_length, ints_append, ints_replicate, ri_eq, List.length_cons, List.length_nil, List.all_cons, List.all_nil, List.cons_append, List.nil_append, List.append_nil, Value.oneCell', Bool.and_self, Bool.true_and, Bool.and_true, Bool.not_true, Bool.not_false, and_self, implies_true, true_implies, false_implies, forall_const, false_and, and_false, IntKind.bits, Bool.true_eq_false, Bool.false_eq_true, not_true_eq_false, not_false_eq_true, Option.map_some, Option.map_none, Option.isNone_some, Option.isNone_none, Option.isSome_some, Option.isSome_none, Nat.sub_zero, Nat.zero_mul, List.drop_zero, Bool.false_and, Bool.and_false, Nat.sub_self, List.replicate_one, List.set_cons_zero, List.set_cons_succ, ints_take_self, ints_snoc, decide_true, decide_false, List.take_succ_cons, List.take_zero, List.take_nil, List.drop_succ_cons, List.drop_nil, List.replicate_zero, List.getElem?_cons_zero, List.getElem?_cons_succ, tbf, fbt, tbt, fbf]
  refine w.callV 0 (viewL_cons_of (view_rowL (by first | rfl | simp [marks_length, canon_length] | omega)) viewL_nil_of) ?_
  simp (disch := omega) only [Try.ntmps17, Try.results17, go_sem, List.map_cons, List.map_nil, true_and, and_true, Nat.reduceLT, Nat.reduceLeDiff, Nat.reduceEqDiff, Nat.reduceAdd, Nat.reduceSub, Nat.reduceMul, reduceIte, ↓reduceIte, reduceCtorEq, if_pos, if_neg, decide_eq_true, decide_eq_false, ibeq_t, ibeq_f, ibne_t, ibne_f, Int.toNat_natCast, Int.reduceToNat, Int.reduceLE, Int.reduceLT, Int.reduceNeg, Int.reduceSub, Int.reduceAdd, Int.reduceMul, Nat.mul_one, Nat.zero_add, Nat.add_zero, wrap_id, ge_iff_le, gt_iff_lt, beq_iff_eq, bne_iff_ne, decide_eq_true_eq, decide_eq_false_iff_not, ints_get, ints_set, ints_length, ints_append, ints_replicate, ri_eq, List.length_cons, List.length_nil, List.all_cons, List.all_nil, List.cons_append, List.nil_append, List.append_nil, Value.oneCell', Bool.and_self, Bool.true_and, Bool.and_true, Bool.not_true, Bool.not_false, and_self, implies_true, true_implies, false_implies, forall_const, false_and, and_false, IntKind.bits, Bool.true_eq_false, Bool.false_eq_true, not_true_eq_false, not_false_eq_true, Option.map_some, Option.map_none, Option.isNone_some, Option.isNone_none, Option.isSome_some, Option.isSome_none, Nat.sub_zero, Nat.zero_mul, List.drop_zero, Bool.false_and, Bool.and_false, Nat.sub_self, List.replicate_one, List.set_cons_zero, List.set_cons_succ, ints_take_self, ints_snoc, decide_true, decide_false, List.take_succ_cons, List.take_zero, List.take_nil, List.drop_succ_cons, List.drop_nil, List.replicate_zero, List.getElem?_cons_zero, List.getElem?_cons_succ, tbf, fbt, tbt, fbf]
  refine (Try.blocks_f L h).mat.callMat (mi_vals _) 0 (viewL_cons_of (view_rowL (by first | rfl | simp [marks_length, canon_length] | omega)) viewL_nil_of) ?_
  simp (disch := omega) only [Try.ntmps17, Try.results17, go_sem, List.map_cons, List.map_nil, true_and, and_true, Nat.reduceLT, Nat.reduceLeDiff, Nat.reduceEqDiff, Nat.reduceAdd, Nat.reduceSub, Nat.reduceMul, reduceIte, ↓reduceIte, reduceCtorEq, if_pos, if_neg, decide_eq_true, decide_eq_false, ibeq_t, ibeq_f, ibne_t, ibne_f, Int.toNat_natCast, Int.reduceToNat, Int.reduceLE, Int.reduceLT, Int.reduceNeg, Int.reduceSub, Int.reduceAdd, Int.reduceMul, Nat.mul_one, Nat.zero_add, Nat.add_zero, wrap_id, ge_iff_le, gt_iff_lt, beq_iff_eq, bne_iff_ne, decide_eq_true_eq, decide_eq_false_iff_not, ints_get, ints_set, ints_length, ints_append, ints_replicate, ri_eq, List.length_cons, List.length_nil, List.all_cons, List.all_nil, List.cons_append, List.nil_append, List.append_nil, Value.oneCell', Bool.and_self, Bool.true_and, Bool.and_true, Bool.not_true, Bool.not_false, and_self, implies_true, true_implies, false_implies, forall_const, false_and, and_false, IntKind.bits, Bool.true_eq_false, Bool.false_eq_true, not_true_eq_false, not_false_eq_true, Option.map_some, Option.map_none, Option.isNone_some, Option.isNone_none, Option.isSome_some, Option.isSome_none, Nat.sub_zero, Nat.zero_mul, List.drop_zero, Bool.false_and, Bool.and_false, Nat.sub_self, List.replicate_one, List.set_cons_zero, List.set_cons_succ, ints_take_self, ints_snoc, decide_true, decide_false, List.take_succ_cons, List.take_zero, List.take_nil, List.drop_succ_cons, List.drop_nil, List.replicate_zero, List.getElem?_cons_zero, List.getElem?_cons_succ, tbf, fbt, tbt, fbf]
  exact fin_mat .self (mi_vals _) (by rw [mi_length])
theorem Try.implBlocks_one (L : List Int) (hL : L.length ≤ 1048576) (h : isPart L = true) : FCall Try.prog 17 [ri L] (MatOne (mi (blocksOf L))) := (Try.implBlocks_f L hL h).mat
theorem Try.implBlocks_nil (L : List Int) (hL : L.length ≤ 1048576) (h : isPart L = false) : FCall Try.prog 17 [ri L] (fun r _ => r = .val (.slice none 0 0)) := by
  have w := Try.implIsPartition_ok L hL
  rw [h] at w
  refine FCall.of_body Try.func17 rfl (by kernel_rfl) (by simp [Try.ntmps17]) ?_
  refine SW_of_vc Try.mixed _ _ _ (by kernel_rfl) ?_
  simp (disch := omega) only [Try.ntmps17, Try.results17, go_sem, List.map_cons, List.map_nil, true_and, and_true, Nat.reduceLT, Nat.reduceLeDiff, Nat.reduceEqDiff, Nat.reduceAdd, Nat.reduceSub, Nat.reduceMul, reduceIte, ↓reduceIte, reduceCtorEq, if_pos, if_neg, decide_eq_true, decide_eq_false, ibeq_t, ibeq_f, ibne_t, ibne_f, Int.toNat_natCast, Int.reduceToNat, Int.reduceLE, Int.reduceLT, Int.reduceNeg, Int.reduceSub, Int.reduceAdd, Int.reduceMul, Nat.mul_one, Nat.zero_add, Nat.add_zero, wrap_id, ge_iff_le, gt_iff_lt, beq_iff_eq, bne_iff_ne, decide_eq_true_eq, decide_eq_false_iff_not, ints_get, ints_set, ints_length, ints_append, ints_replicate, ri_eq, List.length_cons, List.length_nil, List.all_cons, List.all_nil, List.cons_append, List.nil_append, List.append_nil, Value.oneCell', Bool.and_self, Bool.true_and, Bool.and_true, Bool.not_true, Bool.not_false, and_self, implies_true, true_implies, false_implies, forall_const, false_and, and_false, IntKind.bits, Bool.true_eq_false, Bool.false_eq_true, not_true_eq_false, not_false_eq_true, Option.map_some, Option.map_none, Option.isNone_some, Option.isNone_none, Option.isSome_some, Option.isSome_none, Nat.sub_zero, Nat.zero_mul, List.drop_zero, Bool.false_and, Bool.and_false, Nat.sub_self, List.replicate_one, List.set_cons_zero, List.set_cons_succ, ints_take_self, ints_snoc, decide_true, decide_false, List.take_succ_cons, List.take_zero, List.take_nil, List.drop_succ_cons, List.drop_nil, List.replicate_zero, List.getElem?_cons_zero, List.getElem?_cons_succ, tbf, fbt, tbt, fbf]
  refine w.callV 0 (viewL_cons_of (view_rowL (by first | rfl | simp [marks_length, canon_length] | omega)) viewL_nil_of) ?_
  simp (disch := omega) only [Try.ntmps17, Try.results17, go_sem, List.map_cons, List.map_nil, true_and, and_true, Nat.reduceLT, Nat.reduceLeDiff, Nat.reduceEqDiff, Nat.reduceAdd, Nat.reduceSub, Nat.reduceMul, reduceIte, ↓reduceIte, reduceCtorEq, if_pos, if_neg, decide_eq_true, decide_eq_false, ibeq_t, ibeq_f, ibne_t, ibne_f, Int.toNat_natCast, Int.reduceToNat, Int.reduceLE, Int.reduceLT, Int.reduceNeg, Int.reduceSub, Int.reduceAdd, Int.reduceMul, Nat.mul_one, Nat.zero_add, Nat.add_zero, wrap_id, ge_iff_le, gt_iff_lt, beq_iff_eq, bne_iff_ne, decide_eq_true_eq, decide_eq_false_iff_not, ints_get, ints_set, ints_length, ints_append, ints_replicate, ri_eq, List.length_cons, List.length_nil, List.all_cons, List.all_nil, List.cons_append, List.nil_append, List.append_nil, Value.oneCell', Bool.and_self, Bool.true_and, Bool.and_true, Bool.not_true, Bool.not_false, and_self, implies_true, true_implies, false_implies, forall_const, false_and, and_false, IntKind.bits, Bool.true_eq_false, Bool.false_eq_true, not_true_eq_false, not_false_eq_true, Option.map_some, Option.map_none, Option.isNone_some, Option.isNone_none, Option.isSome_some, Option.isSome_none, Nat.sub_zero, Nat.zero_mul, List.drop_zero, Bool.false_and, Bool.and_false, Nat.sub_self, List.replicate_one, List.set_cons_zero, List.set_cons_succ, ints_take_self, ints_snoc, decide_true, decide_false, List.take_succ_cons, List.take_zero, List.take_nil, List.drop_succ_cons, List.drop_nil, List.replicate_zero, List.getElem?_cons_zero, List.getElem?_cons_succ, tbf, fbt, tbt, fbf]
  exact Fin.val rfl
theorem Try.implBlocks_ok (L : List Int) (hL : L.length ≤ 1048576) : PCall Try.prog 17 [ri L] (rr (blocksOf L)) := by
  rcases Bool.eq_false_or_eq_true (isPart L) with h | h
  · exact (Try.implBlocks_one L hL h).pcall 2 (fun _ _ h => h.viewI)
  · rw [blocksOf_f h]; exact (Try.implBlocks_nil L hL h).pcall 0 (by rintro r H rfl; exact view_nilM)
end Go.Sh
