/-
  Contracts: all bad triangles. Of the program.
-/
import Derived.Test.YtehimkdkflnkbaaX3
import Derived.Test.YtehimkdkflnkbaaN2
import Derived.Test.YtehimkdkflnkbaaShM
import Derived.Test.YtehimkdkflnkbaaEIsBadTriangle
namespace Go.Sh
set_option linter.unusedSimpArgs false
set_option linter.unusedVariables false
open Go Go.Proofs

def mn2 (x y : Int) : Int := if y < x then y else x
theorem ite_mn2 (x y : Int) : (if y < x then y else x) = mn2 x y := rfl
def badC (M : List (List Int)) (a b c : Nat) : List Tri := if badB (mat M a b) (mat M a c) (mat M b c) = true then [((a : Int), (b : Int), (c : Int), mn2 (mn2 (absI (mat M a b)) (absI (mat M a c))) (absI (mat M b c)))] else []
def Tc (M : List (List Int)) (a b k : Nat) : List Tri := (List.range k).flatMap fun c => if b < c then badC M a b c else []
def Tb (M : List (List Int)) (a k : Nat) : List Tri := (List.range k).flatMap fun b => if a < b then Tc M a b M.length else []
def Ta (M : List (List Int)) (k : Nat) : List Tri := (List.range k).flatMap fun a => Tb M a M.length
theorem badC_len (M : List (List Int)) (a b c : Nat) : (badC M a b c).length ≤ 1 := by rw [badC]; split <;> simp
theorem Tc_succ (M : List (List Int)) (a b k : Nat) : Tc M a b (k + 1) = Tc M a b k ++ (if b < k then badC M a b k else []) := by simp [Tc, List.range_succ, List.flatMap_append]
theorem Tb_succ (M : List (List Int)) (a k : Nat) : Tb M a (k + 1) = Tb M a k ++ (if a < k then Tc M a k M.length else []) := by simp [Tb, List.range_succ, List.flatMap_append]
theorem Ta_succ (M : List (List Int)) (k : Nat) : Ta M (k + 1) = Ta M k ++ Tb M k M.length := by simp [Ta, List.range_succ, List.flatMap_append]
theorem Tc_start (M : List (List Int)) (a b : Nat) : ∀ k, k ≤ b + 1 → Tc M a b k = []
  | 0, _ => rfl
  | k + 1, h => by rw [Tc_succ, Tc_start M a b k (by omega), if_neg (by omega)]; rfl
theorem Tb_start (M : List (List Int)) (a : Nat) : ∀ k, k ≤ a + 1 → Tb M a k = []
  | 0, _ => rfl
  | k + 1, h => by rw [Tb_succ, Tb_start M a k (by omega), if_neg (by omega)]; rfl
theorem Tc_len (M : List (List Int)) (a b : Nat) : ∀ k, (Tc M a b k).length ≤ k
  | 0 => by simp [Tc]
  | k + 1 => by
    have ih := Tc_len M a b k
    have h2 := badC_len M a b k
    rw [Tc_succ, List.length_append]
    split
    · omega
    · simp; omega
theorem Tb_len {M : List (List Int)} (h : M.length ≤ 8) (a : Nat) : ∀ k, (Tb M a k).length ≤ 8 * k
  | 0 => by simp [Tb]
  | k + 1 => by
    have ih := Tb_len h a k
    have h2 := Tc_len M a k M.length
    rw [Tb_succ, List.length_append]
    split
    · omega
    · simp; omega
theorem Ta_len {M : List (List Int)} (h : M.length ≤ 8) : ∀ k, (Ta M k).length ≤ 64 * k
  | 0 => by simp [Ta]
  | k + 1 => by
    have ih := Ta_len h k
    have h2 := Tb_len h k M.length
    rw [Ta_succ, List.length_append]
    omega
noncomputable def badT (M : List (List Int)) : List Tri := if isWM M = true then Ta M M.length else []
theorem badT_t {M : List (List Int)} (h : WM M) : badT M = Ta M M.length := by rw [badT, if_pos (isWM_t h)]
theorem badT_f {M : List (List Int)} (h : ¬ WM M) : badT M = [] := by rw [badT, if_neg (by rw [isWM_f h]; simp)]
theorem badT_len (M : List (List Int)) : (badT M).length ≤ 512 := by
  by_cases h : WM M
  · rw [badT_t h]
    have := Ta_len h.1.2 M.length
    have := h.1.2
    omega
  · rw [badT_f h]; simp

theorem tri_snoc (T : List Tri) (a b c w : Int) : encL tri4 T ++ [.val (.int .i64 a), .val (.int .i64 b), .val (.int .i64 c), .val (.int .i64 w)] = encL tri4 (T ++ [(a, b, c, w)]) := by
  rw [← encL_append]; rfl
def slT (b : Nat) (T : List Tri) : SV := if T.length = 0 then .val (.slice none 0 0) else .own b 0 T.length T.length 4 false
def slTH (b : Nat) (T : List Tri) : List (Nat × Blk) := if T.length = 0 then [] else [(b, ⟨encL tri4 T, false⟩)]
theorem slT_snoc (b : Nat) (T : List Tri) (x : Tri) : slT b (T ++ [x]) = .own b 0 (T.length + 1) (T.length + 1) 4 false := by simp [slT]
theorem slTH_snoc (b : Nat) (T : List Tri) (x : Tri) : slTH b (T ++ [x]) = [(b, ⟨encL tri4 (T ++ [x]), false⟩)] := by simp [slTH]
theorem slT_f {b : Nat} {T : List Tri} (h : T.length ≠ 0) : slT b T = .own b 0 T.length T.length 4 false := if_neg h
theorem slTH_f {b : Nat} {T : List Tri} (h : T.length ≠ 0) : slTH b T = [(b, ⟨encL tri4 T, false⟩)] := if_neg h
theorem slT_t {b : Nat} {T : List Tri} (h : T.length = 0) : slT b T = .val (.slice none 0 0) := if_pos h
theorem slTH_t {b : Nat} {T : List Tri} (h : T.length = 0) : slTH b T = [] := if_pos h
theorem slTH_one (b : Nat) (p q r t : Int) : slTH b [(p, q, r, t)] = [(b, ⟨[.val (.int .i64 p), .val (.int .i64 q), .val (.int .i64 r), .val (.int .i64 t)], false⟩)] := rfl
theorem rep4c (a b c d : SV) : rep [a, b, c, d] 4 = [a, b, c, d] := rfl
/-- What a slice's block is found under, and the rest. -/
def SlOk (b nb : Nat) (T : List Tri) : Prop := T.length ≠ 0 → b < nb
theorem wk_slT {s : St} {b nb : Nat} {T : List Tri} {l : List (Nat × SV)} (h : ∀ p ∈ l, s.σ p.1 = p.2) (hm : T.length ≠ 0 → s.H.map b = some ⟨encL tri4 T, false⟩) (hn : s.H.nb ≤ nb) : Wk s ⟨ofL l, hp (slTH b T) nb⟩ := by
  refine Wk.ofH h ?_ hn
  intro q hq
  unfold slTH at hq
  split at hq
  · simp at hq
  · rename_i h0
    simp at hq; subst hq
    exact hm h0
theorem slTH_map {b nb : Nat} {T : List Tri} (h : T.length ≠ 0) : (hp (slTH b T) nb).map b = some ⟨encL tri4 T, false⟩ := by rw [slTH_f h, hp_map, hmap_cons, if_pos rfl]
def ResT (T : List Tri) (r : SV) (H : Heap) : Prop := (T.length = 0 → r = .val (.slice none 0 0)) ∧ (T.length ≠ 0 → FlatRes T.length 4 (encL tri4 T) r H)
theorem fin_slT {b : Nat} {T : List Tri} {H : Heap} (h : T.length ≠ 0 → H.map b = some ⟨encL tri4 T, false⟩) : Fin (ResT T) (slT b T) H := by
  by_cases h0 : T.length = 0
  · rw [slT_t h0]
    exact Fin.val ⟨fun _ => rfl, fun g => absurd h0 g⟩
  · rw [slT_f h0]
    exact Fin.imp (fun _ _ g => ⟨fun e => absurd e h0, fun _ => g⟩) (flat_fin (encL_length (z := 4) tri4_z T) (encL_vals tri4_v T) (h h0))

set_option maxHeartbeats 8000000 in
theorem Try.implBadT_f (M : List (List Int)) (hM : M.length ≤ 1048576) (hR : ∀ i, i < M.length → (mrow M i).length ≤ 1048576) (hw : WM M) : FCall Try.prog 80 [rr M] (ResT (badT M)) := by
  have hln := hw.1
  have w1 := Try.implIsWM_ok M hM hR
  rw [isWM_t hw] at w1
  rw [badT_t hw]
  refine FCall.of_body Try.func80 rfl (by kernel_rfl) (by simp [Try.ntmps80]) ?_
  refine SW_of_vc2 (onD 13 [(37, 37), (40, 40), (45, 45), (48, 48), (53, 53), (56, 56)] [10, 18, 26]) Try.mixed _ _ _ (by kernel_rfl) ?_
  simp (disch := omega) only [Try.ntmps80, Try.results80, go_sem, Nat.reduceLT, Nat.reduceLeDiff, Nat.reduceEqDiff, Nat.reduceAdd, Nat.reduceSub, Nat.reduceMul, reduceIte, ↓reduceIte, reduceCtorEq, Int.reduceToNat, Int.reduceLE, Int.reduceLT, Int.reduceNeg, Int.reduceSub, Int.reduceAdd, Int.reduceMul, rr_eq]
  refine w1.callV 0 (viewL_cons_of (view_row) viewL_nil_of) ?_
  simp (disch := omega) only [Try.ntmps80, Try.results80, go_sem, Nat.reduceLT, Nat.reduceLeDiff, Nat.reduceEqDiff, Nat.reduceAdd, Nat.reduceSub, Nat.reduceMul, reduceIte, ↓reduceIte, reduceCtorEq, Int.reduceToNat, Int.reduceLE, Int.reduceLT, Int.reduceNeg, Int.reduceSub, Int.reduceAdd, Int.reduceMul, rr_eq]
  refine LoopW.loop (fun p : Nat × Nat × Nat => ⟨ofL [(0, rr M), (3, slT p.2.1 (Ta M p.1)), (12, .val (.int .i64 M.length)), (13, .val (.int .i64 p.1))], hp (slTH p.2.1 (Ta M p.1)) p.2.2⟩)
    (fun p => p.1 ≤ M.length ∧ SlOk p.2.1 p.2.2 (Ta M p.1)) (fun p => M.length - p.1) (0, 0, 0) ⟨by simp, fun h => absurd rfl h⟩ (wk_slT (by simp only [go_sem, ↓List.forall_mem_cons, List.not_mem_nil, false_implies, implies_true, and_true, true_and, and_self, Nat.reduceEqDiff, reduceIte, ↓reduceIte, ri_eq, Int.natCast_add, Int.cast_ofNat_Int, rr_eq, slT_t (T := Ta M 0) rfl]; try simp) (fun h => absurd rfl h) (by simp [hp])) ?_
  rintro ⟨a, ob, nb⟩ ⟨ha, hob⟩
  simp only at ha hob
  refine SW_of_vc2 (onD 13 [(37, 37), (40, 40), (45, 45), (48, 48), (53, 53), (56, 56)] [10, 18, 26]) Try.mixed _ _ _ (by kernel_rfl) ?_
  by_cases hlt : a < M.length
  · simp (disch := omega) only [Try.ntmps80, Try.results80, go_sem, Nat.reduceLT, Nat.reduceLeDiff, Nat.reduceEqDiff, Nat.reduceAdd, Nat.reduceSub, Nat.reduceMul, reduceIte, ↓reduceIte, reduceCtorEq, Int.reduceToNat, Int.reduceLE, Int.reduceLT, Int.reduceNeg, Int.reduceSub, Int.reduceAdd, Int.reduceMul, rr_eq]
    refine LoopW.loop (fun p : Nat × Nat × Nat => ⟨ofL [(0, rr M), (3, slT p.2.1 (Ta M a ++ Tb M a p.1)), (4, .val (.int .i64 a)), (5, .val (.int .i64 p.1)), (12, .val (.int .i64 M.length)), (13, .val (.int .i64 a))], hp (slTH p.2.1 (Ta M a ++ Tb M a p.1)) p.2.2⟩)
      (fun p => a < p.1 ∧ p.1 ≤ M.length ∧ SlOk p.2.1 p.2.2 (Ta M a ++ Tb M a p.1)) (fun p => M.length - p.1) (a + 1, ob, nb) ⟨by simp, hlt, by rw [Tb_start M a (a + 1) (Nat.le_refl _), List.append_nil]; exact hob⟩
      (by
        have e : Tb M a (a + 1) = [] := Tb_start M a (a + 1) (Nat.le_refl _)
        exact wk_slT (by simp only [go_sem, ↓List.forall_mem_cons, List.not_mem_nil, false_implies, implies_true, and_true, true_and, and_self, Nat.reduceEqDiff, reduceIte, ↓reduceIte, ri_eq, Int.natCast_add, Int.cast_ofNat_Int, rr_eq, e, List.append_nil]; try simp) (fun h => by rw [e, List.append_nil] at h ⊢; exact slTH_map h) (Nat.le_refl _)) ?_
    rintro ⟨b, ob, nb⟩ ⟨hab, hb, hob⟩
    simp only at hab hb hob
    refine SW_of_vc2 (onD 13 [(37, 37), (40, 40), (45, 45), (48, 48), (53, 53), (56, 56)] [10, 18, 26]) Try.mixed _ _ _ (by kernel_rfl) ?_
    by_cases hlt2 : b < M.length
    · simp (disch := omega) only [Try.ntmps80, Try.results80, go_sem, Nat.reduceLT, Nat.reduceLeDiff, Nat.reduceEqDiff, Nat.reduceAdd, Nat.reduceSub, Nat.reduceMul, reduceIte, ↓reduceIte, reduceCtorEq, Int.reduceToNat, Int.reduceLE, Int.reduceLT, Int.reduceNeg, Int.reduceSub, Int.reduceAdd, Int.reduceMul, rr_eq]
      refine LoopW.loop (fun p : Nat × Nat × Nat => ⟨ofL [(0, rr M), (3, slT p.2.1 (Ta M a ++ Tb M a b ++ Tc M a b p.1)), (4, .val (.int .i64 a)), (5, .val (.int .i64 b)), (6, .val (.int .i64 p.1)), (12, .val (.int .i64 M.length)), (13, .val (.int .i64 a))], hp (slTH p.2.1 (Ta M a ++ Tb M a b ++ Tc M a b p.1)) p.2.2⟩)
        (fun p => b < p.1 ∧ p.1 ≤ M.length ∧ SlOk p.2.1 p.2.2 (Ta M a ++ Tb M a b ++ Tc M a b p.1)) (fun p => M.length - p.1) (b + 1, ob, nb) ⟨by simp, hlt2, by rw [Tc_start M a b (b + 1) (Nat.le_refl _), List.append_nil]; exact hob⟩
        (by
          have e : Tc M a b (b + 1) = [] := Tc_start M a b (b + 1) (Nat.le_refl _)
          exact wk_slT (by simp only [go_sem, ↓List.forall_mem_cons, List.not_mem_nil, false_implies, implies_true, and_true, true_and, and_self, Nat.reduceEqDiff, reduceIte, ↓reduceIte, ri_eq, Int.natCast_add, Int.cast_ofNat_Int, rr_eq, e, List.append_nil]; try simp) (fun h => by rw [e, List.append_nil] at h ⊢; exact slTH_map h) (Nat.le_refl _)) ?_
      rintro ⟨c, ob, nb⟩ ⟨hbc, hc, hob⟩
      simp only at hbc hc hob
      refine SW_of_vc2 (onD 13 [(37, 37), (40, 40), (45, 45), (48, 48), (53, 53), (56, 56)] [10, 18, 26]) Try.mixed _ _ _ (by kernel_rfl) ?_
      by_cases hlt3 : c < M.length
      · have ra := hw.2.1 a hlt
        have rb := hw.2.1 b hlt2
        have g1 : (ints (mrow M a))[b]? = some (.val (.int .i64 (mat M a b))) := ints_get' ra hlt2
        have g2 : (ints (mrow M a))[c]? = some (.val (.int .i64 (mat M a c))) := ints_get' ra hlt3
        have g3 : (ints (mrow M b))[c]? = some (.val (.int .i64 (mat M b c))) := ints_get' rb hlt3
        have k1 := (hw.2.2.1 a b hlt hlt2).1
        have k2 := (hw.2.2.1 a c hlt hlt3).1
        have k3 := (hw.2.2.1 b c hlt2 hlt3).1
        have wa := Try.absolute_ok (mat M a b) (by omega) (by omega)
        have wb := Try.absolute_ok (mat M a c) (by omega) (by omega)
        have wc := Try.absolute_ok (mat M b c) (by omega) (by omega)
        have wd := Try.isBad_ok M a b c (mn2 (mn2 (absI (mat M a b)) (absI (mat M a c))) (absI (mat M b c))) hln.2 hw.2.1 (decide_eq_true (by omega))
        simp only [Int.toNat_natCast] at wd
        have hsucc := Tc_succ M a b c
        rw [if_pos hbc] at hsucc
        have hlen : (Ta M a ++ Tb M a b ++ Tc M a b c).length ≤ 1000 := by
          have := Ta_len hln.2 a
          have := Tb_len hln.2 a b
          have := Tc_len M a b c
          simp only [List.length_append]; omega
        rcases Bool.eq_false_or_eq_true (badB (mat M a b) (mat M a c) (mat M b c)) with hbad | hbad
        · have hbc2 : badC M a b c = [((a : Int), (b : Int), (c : Int), mn2 (mn2 (absI (mat M a b)) (absI (mat M a c))) (absI (mat M b c)))] := by rw [badC, if_pos hbad]
          rw [hbad] at wd
          rw [hbc2] at hsucc
          have hnew : Ta M a ++ Tb M a b ++ Tc M a b (c + 1) = (Ta M a ++ Tb M a b ++ Tc M a b c) ++ [((a : Int), (b : Int), (c : Int), mn2 (mn2 (absI (mat M a b)) (absI (mat M a c))) (absI (mat M b c)))] := by rw [hsucc, List.append_assoc, List.append_assoc, List.append_assoc]
          have sn := fun nm => slT_snoc nm (Ta M a ++ Tb M a b ++ Tc M a b c) ((a : Int), (b : Int), (c : Int), mn2 (mn2 (absI (mat M a b)) (absI (mat M a c))) (absI (mat M b c)))
          rw [← hnew] at sn
          have ts := tri_snoc (Ta M a ++ Tb M a b ++ Tc M a b c) a b c (mn2 (mn2 (absI (mat M a b)) (absI (mat M a c))) (absI (mat M b c)))
          rw [← hnew] at ts
          clear hsucc hbc2 hnew hbad
          generalize Ta M a ++ Tb M a b ++ Tc M a b c = T at *
          generalize hT' : Ta M a ++ Tb M a b ++ Tc M a b (c + 1) = T' at *
          generalize mat M a b = x at *
          generalize mat M a c = y at *
          generalize mat M b c = z at *
          generalize hax : absI x = ax at *
          generalize hay : absI y = ay at *
          generalize haz : absI z = az at *
          have p1 : AnyC Try.prog 82 [.val (.int .i64 x)] (.val (.int .i64 ax)) = True := eq_true (wa.anyC 0 fun H => (viewL_cons_of (view_int) viewL_nil_of))
          have p2 : AnyC Try.prog 82 [.val (.int .i64 y)] (.val (.int .i64 ay)) = True := eq_true (wb.anyC 0 fun H => (viewL_cons_of (view_int) viewL_nil_of))
          have p3 : AnyC Try.prog 82 [.val (.int .i64 z)] (.val (.int .i64 az)) = True := eq_true (wc.anyC 0 fun H => (viewL_cons_of (view_int) viewL_nil_of))
          by_cases hz : T.length = 0
          · have hT : T = [] := List.length_eq_zero_iff.1 hz
            subst hT
            have eC := slT_t (b := ob) (T := []) rfl
            have eH := slTH_t (b := ob) (T := []) rfl
            simp (disch := omega) only [Try.ntmps80, Try.results80, go_sem, Nat.reduceLT, Nat.reduceLeDiff, Nat.reduceEqDiff, Nat.reduceAdd, Nat.reduceSub, Nat.reduceMul, reduceIte, ↓reduceIte, reduceCtorEq, Int.reduceToNat, Int.reduceLE, Int.reduceLT, Int.reduceNeg, Int.reduceSub, Int.reduceAdd, Int.reduceMul, rr_eq, rows_get, ra, rb, g1, g2, g3, eC, eH]
            refine wa.callDV 0 (viewL_cons_of (view_int) viewL_nil_of) ?_
            simp (disch := omega) only [Try.ntmps80, Try.results80, go_sem, Nat.reduceLT, Nat.reduceLeDiff, Nat.reduceEqDiff, Nat.reduceAdd, Nat.reduceSub, Nat.reduceMul, reduceIte, ↓reduceIte, reduceCtorEq, Int.reduceToNat, Int.reduceLE, Int.reduceLT, Int.reduceNeg, Int.reduceSub, Int.reduceAdd, Int.reduceMul, rr_eq, rows_get, ra, rb, g1, g2, g3, eC, eH]
            refine wb.callDV 0 (viewL_cons_of (view_int) viewL_nil_of) ?_
            simp (disch := omega) only [Try.ntmps80, Try.results80, go_sem, Nat.reduceLT, Nat.reduceLeDiff, Nat.reduceEqDiff, Nat.reduceAdd, Nat.reduceSub, Nat.reduceMul, reduceIte, ↓reduceIte, reduceCtorEq, Int.reduceToNat, Int.reduceLE, Int.reduceLT, Int.reduceNeg, Int.reduceSub, Int.reduceAdd, Int.reduceMul, rr_eq, rows_get, ra, rb, g1, g2, g3, eC, eH]
            refine wc.callDV 0 (viewL_cons_of (view_int) viewL_nil_of) ?_
            simp (disch := omega) only [Try.ntmps80, Try.results80, go_sem, Nat.reduceLT, Nat.reduceLeDiff, Nat.reduceEqDiff, Nat.reduceAdd, Nat.reduceSub, Nat.reduceMul, reduceIte, ↓reduceIte, reduceCtorEq, Int.reduceToNat, Int.reduceLE, Int.reduceLT, Int.reduceNeg, Int.reduceSub, Int.reduceAdd, Int.reduceMul, rr_eq, rows_get, ra, rb, g1, g2, g3, eC, eH, ite_mn2, p1, p2, p3]
            refine wd.callV 1 (viewL_cons_of view_tri (viewL_cons_of view_row viewL_nil_of)) ?_
            simp only [encL_nil, List.nil_append, List.length_nil, Nat.zero_add] at ts sn
            simp (disch := omega) only [Try.ntmps80, Try.results80, go_sem, Nat.reduceLT, Nat.reduceLeDiff, Nat.reduceEqDiff, Nat.reduceAdd, Nat.reduceSub, Nat.reduceMul, reduceIte, ↓reduceIte, reduceCtorEq, Int.reduceToNat, Int.reduceLE, Int.reduceLT, Int.reduceNeg, Int.reduceSub, Int.reduceAdd, Int.reduceMul, rr_eq, eC, eH, rep4c]
            refine ⟨(c + 1, nb + 1 + 1, nb + 1 + 1 + 1), ⟨by show b < c + 1; omega, hlt3, fun _ => by show nb + 1 + 1 < nb + 1 + 1 + 1; omega⟩, by show M.length - (c + 1) < M.length - c; omega, ?_⟩
            exact wk_slT (by simp only [go_sem, ↓List.forall_mem_cons, List.not_mem_nil, false_implies, implies_true, and_true, true_and, and_self, Nat.reduceEqDiff, reduceIte, ↓reduceIte, ri_eq, Int.natCast_add, Int.cast_ofNat_Int, rr_eq, hT', sn]; try simp) (fun _ => by rw [hT', ← ts]; simp (disch := omega) only [hp_map, hmap_cons, if_pos, if_neg, ↓reduceIte]) (Nat.le_refl _)
          · have eC := slT_f (b := ob) hz
            have eH := slTH_f (b := ob) hz
            have hobb := hob hz
            have hTl := encL_length (enc := tri4) (z := 4) tri4_z T
            have hTt := encL_take_self (enc := tri4) (z := 4) tri4_z T
            simp (disch := omega) only [Try.ntmps80, Try.results80, go_sem, Nat.reduceLT, Nat.reduceLeDiff, Nat.reduceEqDiff, Nat.reduceAdd, Nat.reduceSub, Nat.reduceMul, reduceIte, ↓reduceIte, reduceCtorEq, Int.reduceToNat, Int.reduceLE, Int.reduceLT, Int.reduceNeg, Int.reduceSub, Int.reduceAdd, Int.reduceMul, rr_eq, rows_get, ra, rb, g1, g2, g3, eC, eH]
            refine wa.callDV 0 (viewL_cons_of (view_int) viewL_nil_of) ?_
            simp (disch := omega) only [Try.ntmps80, Try.results80, go_sem, Nat.reduceLT, Nat.reduceLeDiff, Nat.reduceEqDiff, Nat.reduceAdd, Nat.reduceSub, Nat.reduceMul, reduceIte, ↓reduceIte, reduceCtorEq, Int.reduceToNat, Int.reduceLE, Int.reduceLT, Int.reduceNeg, Int.reduceSub, Int.reduceAdd, Int.reduceMul, rr_eq, rows_get, ra, rb, g1, g2, g3, eC, eH]
            refine wb.callDV 0 (viewL_cons_of (view_int) viewL_nil_of) ?_
            simp (disch := omega) only [Try.ntmps80, Try.results80, go_sem, Nat.reduceLT, Nat.reduceLeDiff, Nat.reduceEqDiff, Nat.reduceAdd, Nat.reduceSub, Nat.reduceMul, reduceIte, ↓reduceIte, reduceCtorEq, Int.reduceToNat, Int.reduceLE, Int.reduceLT, Int.reduceNeg, Int.reduceSub, Int.reduceAdd, Int.reduceMul, rr_eq, rows_get, ra, rb, g1, g2, g3, eC, eH]
            refine wc.callDV 0 (viewL_cons_of (view_int) viewL_nil_of) ?_
            simp (disch := omega) only [Try.ntmps80, Try.results80, go_sem, Nat.reduceLT, Nat.reduceLeDiff, Nat.reduceEqDiff, Nat.reduceAdd, Nat.reduceSub, Nat.reduceMul, reduceIte, ↓reduceIte, reduceCtorEq, Int.reduceToNat, Int.reduceLE, Int.reduceLT, Int.reduceNeg, Int.reduceSub, Int.reduceAdd, Int.reduceMul, rr_eq, rows_get, ra, rb, g1, g2, g3, ite_mn2, p1, p2, p3, eC, eH]
            refine wd.callV 1 (viewL_cons_of view_tri (viewL_cons_of view_row viewL_nil_of)) ?_
            simp (disch := omega) only [Try.ntmps80, Try.results80, go_sem, Nat.reduceLT, Nat.reduceLeDiff, Nat.reduceEqDiff, Nat.reduceAdd, Nat.reduceSub, Nat.reduceMul, reduceIte, ↓reduceIte, reduceCtorEq, Int.reduceToNat, Int.reduceLE, Int.reduceLT, Int.reduceNeg, Int.reduceSub, Int.reduceAdd, Int.reduceMul, rr_eq, eC, eH, rep4c, hTl, hTt, ts]
            refine ⟨(c + 1, nb + 1 + 1, nb + 1 + 1 + 1), ⟨by show b < c + 1; omega, hlt3, fun _ => by show nb + 1 + 1 < nb + 1 + 1 + 1; omega⟩, by show M.length - (c + 1) < M.length - c; omega, ?_⟩
            exact wk_slT (by simp only [go_sem, ↓List.forall_mem_cons, List.not_mem_nil, false_implies, implies_true, and_true, true_and, and_self, Nat.reduceEqDiff, reduceIte, ↓reduceIte, ri_eq, Int.natCast_add, Int.cast_ofNat_Int, rr_eq, hT', sn]; try simp) (fun _ => by rw [hT']; simp (disch := omega) only [hp_map, hmap_cons, if_pos, if_neg, ↓reduceIte]) (Nat.le_refl _)
        · have hbc2 : badC M a b c = [] := by rw [badC, if_neg (by rw [hbad]; simp)]
          rw [hbad] at wd
          rw [hbc2, List.append_nil] at hsucc
          generalize hax : absI (mat M a b) = ax at *
          generalize hay : absI (mat M a c) = ay at *
          generalize haz : absI (mat M b c) = az at *
          generalize mat M a b = x at *
          generalize mat M a c = y at *
          generalize mat M b c = z at *
          have p1 : AnyC Try.prog 82 [.val (.int .i64 x)] (.val (.int .i64 ax)) = True := eq_true (wa.anyC 0 fun H => (viewL_cons_of (view_int) viewL_nil_of))
          have p2 : AnyC Try.prog 82 [.val (.int .i64 y)] (.val (.int .i64 ay)) = True := eq_true (wb.anyC 0 fun H => (viewL_cons_of (view_int) viewL_nil_of))
          have p3 : AnyC Try.prog 82 [.val (.int .i64 z)] (.val (.int .i64 az)) = True := eq_true (wc.anyC 0 fun H => (viewL_cons_of (view_int) viewL_nil_of))
          simp (disch := omega) only [Try.ntmps80, Try.results80, go_sem, Nat.reduceLT, Nat.reduceLeDiff, Nat.reduceEqDiff, Nat.reduceAdd, Nat.reduceSub, Nat.reduceMul, reduceIte, ↓reduceIte, reduceCtorEq, Int.reduceToNat, Int.reduceLE, Int.reduceLT, Int.reduceNeg, Int.reduceSub, Int.reduceAdd, Int.reduceMul, rr_eq, rows_get, ra, rb, g1, g2, g3]
          refine wa.callDV 0 (viewL_cons_of (view_int) viewL_nil_of) ?_
          simp (disch := omega) only [Try.ntmps80, Try.results80, go_sem, Nat.reduceLT, Nat.reduceLeDiff, Nat.reduceEqDiff, Nat.reduceAdd, Nat.reduceSub, Nat.reduceMul, reduceIte, ↓reduceIte, reduceCtorEq, Int.reduceToNat, Int.reduceLE, Int.reduceLT, Int.reduceNeg, Int.reduceSub, Int.reduceAdd, Int.reduceMul, rr_eq, rows_get, ra, rb, g1, g2, g3]
          refine wb.callDV 0 (viewL_cons_of (view_int) viewL_nil_of) ?_
          simp (disch := omega) only [Try.ntmps80, Try.results80, go_sem, Nat.reduceLT, Nat.reduceLeDiff, Nat.reduceEqDiff, Nat.reduceAdd, Nat.reduceSub, Nat.reduceMul, reduceIte, ↓reduceIte, reduceCtorEq, Int.reduceToNat, Int.reduceLE, Int.reduceLT, Int.reduceNeg, Int.reduceSub, Int.reduceAdd, Int.reduceMul, rr_eq, rows_get, ra, rb, g1, g2, g3]
          refine wc.callDV 0 (viewL_cons_of (view_int) viewL_nil_of) ?_
          simp (disch := omega) only [Try.ntmps80, Try.results80, go_sem, Nat.reduceLT, Nat.reduceLeDiff, Nat.reduceEqDiff, Nat.reduceAdd, Nat.reduceSub, Nat.reduceMul, reduceIte, ↓reduceIte, reduceCtorEq, Int.reduceToNat, Int.reduceLE, Int.reduceLT, Int.reduceNeg, Int.reduceSub, Int.reduceAdd, Int.reduceMul, rr_eq, rows_get, ra, rb, g1, g2, g3, ite_mn2, p1, p2, p3]
          refine wd.callV 1 (viewL_cons_of view_tri (viewL_cons_of view_row viewL_nil_of)) ?_
          simp (disch := omega) only [Try.ntmps80, Try.results80, go_sem, Nat.reduceLT, Nat.reduceLeDiff, Nat.reduceEqDiff, Nat.reduceAdd, Nat.reduceSub, Nat.reduceMul, reduceIte, ↓reduceIte, reduceCtorEq, Int.reduceToNat, Int.reduceLE, Int.reduceLT, Int.reduceNeg, Int.reduceSub, Int.reduceAdd, Int.reduceMul, rr_eq]
          refine ⟨(c + 1, ob, nb + 1), ⟨by show b < c + 1; omega, hlt3, fun h => by rw [hsucc] at h; exact Nat.lt_succ_of_lt (hob h)⟩, by show M.length - (c + 1) < M.length - c; omega, ?_⟩
          exact wk_slT (b := ob) (by simp only [go_sem, ↓List.forall_mem_cons, List.not_mem_nil, false_implies, implies_true, and_true, true_and, and_self, Nat.reduceEqDiff, reduceIte, ↓reduceIte, ri_eq, Int.natCast_add, Int.cast_ofNat_Int, rr_eq, hsucc]; try simp) (fun h => by rw [hsucc] at h ⊢; have := hob h; rw [hp_map, hmap_cons, if_neg (by omega)]; exact slTH_map (nb := nb) h) (Nat.le_refl _)
      · obtain rfl : c = M.length := by omega
        have e : Ta M a ++ Tb M a b ++ Tc M a b M.length = Ta M a ++ Tb M a (b + 1) := by rw [Tb_succ, if_pos hab, List.append_assoc]
        rw [e] at hob ⊢
        simp (disch := omega) only [Try.ntmps80, Try.results80, go_sem, Nat.reduceLT, Nat.reduceLeDiff, Nat.reduceEqDiff, Nat.reduceAdd, Nat.reduceSub, Nat.reduceMul, reduceIte, ↓reduceIte, reduceCtorEq, Int.reduceToNat, Int.reduceLE, Int.reduceLT, Int.reduceNeg, Int.reduceSub, Int.reduceAdd, Int.reduceMul, rr_eq]
        exact ⟨(b + 1, ob, nb), ⟨by show a < b + 1; omega, hlt2, hob⟩, by show M.length - (b + 1) < M.length - b; omega, wk_slT (by simp only [go_sem, ↓List.forall_mem_cons, List.not_mem_nil, false_implies, implies_true, and_true, true_and, and_self, Nat.reduceEqDiff, reduceIte, ↓reduceIte, ri_eq, Int.natCast_add, Int.cast_ofNat_Int, rr_eq]; try simp) (fun h => slTH_map h) (Nat.le_refl _)⟩
    · obtain rfl : b = M.length := by omega
      have e : Ta M a ++ Tb M a M.length = Ta M (a + 1) := (Ta_succ M a).symm
      rw [e] at hob ⊢
      simp (disch := omega) only [Try.ntmps80, Try.results80, go_sem, Nat.reduceLT, Nat.reduceLeDiff, Nat.reduceEqDiff, Nat.reduceAdd, Nat.reduceSub, Nat.reduceMul, reduceIte, ↓reduceIte, reduceCtorEq, Int.reduceToNat, Int.reduceLE, Int.reduceLT, Int.reduceNeg, Int.reduceSub, Int.reduceAdd, Int.reduceMul, rr_eq]
      exact ⟨(a + 1, ob, nb), ⟨hlt, hob⟩, by show M.length - (a + 1) < M.length - a; omega, wk_slT (by simp only [go_sem, ↓List.forall_mem_cons, List.not_mem_nil, false_implies, implies_true, and_true, true_and, and_self, Nat.reduceEqDiff, reduceIte, ↓reduceIte, ri_eq, Int.natCast_add, Int.cast_ofNat_Int, rr_eq]; try simp) (fun h => slTH_map h) (Nat.le_refl _)⟩
  · obtain rfl : a = M.length := by omega
    simp (disch := omega) only [Try.ntmps80, Try.results80, go_sem, Nat.reduceLT, Nat.reduceLeDiff, Nat.reduceEqDiff, Nat.reduceAdd, Nat.reduceSub, Nat.reduceMul, reduceIte, ↓reduceIte, reduceCtorEq, Int.reduceToNat, Int.reduceLE, Int.reduceLT, Int.reduceNeg, Int.reduceSub, Int.reduceAdd, Int.reduceMul, rr_eq]
    exact fin_slT (fun h => slTH_map h)

theorem Try.implBadT_n (M : List (List Int)) (hM : M.length ≤ 1048576) (hR : ∀ i, i < M.length → (mrow M i).length ≤ 1048576) (hz : (badT M).length = 0) : FCall Try.prog 80 [rr M] (fun r _ => r = .val (.slice none 0 0)) := by
  by_cases hw : WM M
  · exact (Try.implBadT_f M hM hR hw).mono fun _ _ h => h.1 hz
  · have w1 := Try.implIsWM_ok M hM hR
    rw [isWM_f hw] at w1
    refine FCall.of_body Try.func80 rfl (by kernel_rfl) (by simp [Try.ntmps80]) ?_
    refine SW_of_vc2 (onD 13 [(37, 37), (40, 40), (45, 45), (48, 48), (53, 53), (56, 56)] [10, 18, 26]) Try.mixed _ _ _ (by kernel_rfl) ?_
    simp (disch := omega) only [Try.ntmps80, Try.results80, go_sem, Nat.reduceLT, Nat.reduceLeDiff, Nat.reduceEqDiff, Nat.reduceAdd, Nat.reduceSub, Nat.reduceMul, reduceIte, ↓reduceIte, reduceCtorEq, Int.reduceToNat, Int.reduceLE, Int.reduceLT, Int.reduceNeg, Int.reduceSub, Int.reduceAdd, Int.reduceMul, rr_eq]
    refine w1.callV 0 (viewL_cons_of (view_row) viewL_nil_of) ?_
    simp (disch := omega) only [Try.ntmps80, Try.results80, go_sem, Nat.reduceLT, Nat.reduceLeDiff, Nat.reduceEqDiff, Nat.reduceAdd, Nat.reduceSub, Nat.reduceMul, reduceIte, ↓reduceIte, reduceCtorEq, Int.reduceToNat, Int.reduceLE, Int.reduceLT, Int.reduceNeg, Int.reduceSub, Int.reduceAdd, Int.reduceMul, rr_eq]
    exact Fin.val rfl
theorem badT_wm {M : List (List Int)} (h : (badT M).length ≠ 0) : WM M := Classical.byContradiction fun g => h (by rw [badT_f g]; rfl)
theorem Try.implBadT_o (M : List (List Int)) (hM : M.length ≤ 1048576) (hR : ∀ i, i < M.length → (mrow M i).length ≤ 1048576) (hz : (badT M).length ≠ 0) : FCall Try.prog 80 [rr M] (OneRes (badT M).length 4 (encL tri4 (badT M))) :=
  ((Try.implBadT_f M hM hR (badT_wm hz)).mono fun _ _ h => h.2 hz).one
theorem one_viewT {n : Nat} {T : List Tri} {r : SV} {H : Heap} (h : OneRes n 4 (encL tri4 T) r H) (hn : n = T.length) : view H 2 r = some (rt T) := by
  obtain ⟨rfl, rfl⟩ := h
  exact view_ownT (e2 := false) (by simp [Heap.one]) hn
theorem Try.implBadT_ok (M : List (List Int)) (hM : M.length ≤ 1048576) (hR : ∀ i, i < M.length → (mrow M i).length ≤ 1048576) : PCall Try.prog 80 [rr M] (rt (badT M)) := by
  by_cases hz : (badT M).length = 0
  · have e : badT M = [] := List.length_eq_zero_iff.1 hz
    rw [e]
    exact (Try.implBadT_n M hM hR hz).pcall 0 (by rintro r H rfl; exact view_nilT)
  · exact (Try.implBadT_o M hM hR hz).pcall 2 (fun _ _ h => one_viewT h rfl)
end Go.Sh
