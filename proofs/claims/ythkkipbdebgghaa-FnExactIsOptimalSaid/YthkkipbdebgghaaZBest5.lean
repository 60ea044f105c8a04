/-
  Texts put together: BA5, BA6, BA7, R1, R2. What each proves stands at its own head, with its conditions.
-/
import Derived.Test.YthkkipbdebgghaaZBest4

/-
  The search for the best partition: the reference's walk.
-/
namespace Go.Sh
set_option linter.unusedSimpArgs false
set_option linter.unusedVariables false
open Go Go.Proofs

/-- What the reference's search holds in memory. -/
structure SHp (M : List (List Int)) (C : List Con) (H : Heap) (sb : Nat) (s : BS) (fb : Nat) : Prop where
  m : H.map sb = some ⟨[rr M, rc C, nlI fb s.first, .val (.int .i64 s.least), .val (.int .i64 s.count)], true⟩
  mf : s.first.length ≠ 0 → H.map fb = some ⟨ints s.first, false⟩ ∧ fb ≠ sb ∧ fb < H.nb
  sn : sb < H.nb
def WQ (M : List (List Int)) (C : List Con) (sb : Nat) (t : BS) (H : Heap) (r : SV) (H' : Heap) : Prop :=
  r = .tup [] ∧ H.nb ≤ H'.nb ∧ (∀ b, b < H.nb → b ≠ sb → H'.map b = H.map b) ∧ ∃ fb', SHp M C H' sb t fb'
structure XH (H1 H2 : Heap) (xb : Nat) (L : List Int) : Prop where
  mx : H2.map xb = some ⟨ints L, false⟩
  n1 : xb < H2.nb
  n2 : H1.nb ≤ xb
  fr : ∀ b, b < H1.nb → H2.map b = H1.map b
theorem SHp.xh {M : List (List Int)} {C : List Con} {H1 H2 : Heap} {sb fb xb : Nat} {s : BS} {L : List Int} (h : SHp M C H1 sb s fb) (x : XH H1 H2 xb L) : SHp M C H2 sb s fb := by
  have := x.n1
  have := x.n2
  have hs := h.sn
  exact ⟨by rw [x.fr _ hs]; exact h.m, fun hf => by
    obtain ⟨f1, f2, f3⟩ := h.mf hf
    exact ⟨by rw [x.fr _ f3]; exact f1, f2, by omega⟩, by omega⟩
theorem view_nlI {H : Heap} {f b : Nat} {T : List Int} (h : T.length ≠ 0 → H.map b = some ⟨ints T, false⟩) : view H (f + 1) (nlI b T) = some (ri T) := by
  by_cases h0 : T.length = 0
  · rw [nlI_t h0, List.length_eq_zero_iff.1 h0]; exact view_nil
  · rw [nlI_f h0]; exact view_own (h h0) rfl
def walkTo (M : List (List Int)) (C : List Con) (k : Nat) (p : List Int) (nx : Nat) (cost : Int) (s : BS) (x : Nat) : BS :=
  (List.range x).foldl (fun s (x : Nat) => if badC C (p ++ [(x : Int)]) = true then s else walkB M C k (p ++ [(x : Int)]) (max nx (x + 1)) (cost + wadd M p x p.length) s) s
theorem walkTo_succ {M : List (List Int)} {C : List Con} {k : Nat} {p : List Int} {nx : Nat} {cost : Int} {s : BS} {x : Nat} :
    walkTo M C k p nx cost s (x + 1) = if badC C (p ++ [(x : Int)]) = true then walkTo M C k p nx cost s x else walkB M C k (p ++ [(x : Int)]) (max nx (x + 1)) (cost + wadd M p x p.length) (walkTo M C k p nx cost s x) := by
  rw [walkTo, List.range_succ, List.foldl_append]; rfl
theorem walkTo_count {M : List (List Int)} {C : List Con} {k : Nat} {p : List Int} {nx : Nat} {cost : Int} {s : BS} {x : Nat} (hx : x ≤ nx + 1) (h : nx + (k + 1) ≤ 8) : (walkTo M C k p nx cost s x).count ≤ s.count + x * 9 ^ k :=
  foldl_count (g := fun s (x : Nat) => if badC C (p ++ [(x : Int)]) = true then s else walkB M C k (p ++ [(x : Int)]) (max nx (x + 1)) (cost + wadd M p x p.length) s) (B := 9 ^ k) x s fun s y hy => by
    show (if badC C (p ++ [(y : Int)]) = true then s else walkB M C k (p ++ [(y : Int)]) (max nx (y + 1)) (cost + wadd M p y p.length) s).count ≤ _
    split
    · exact Nat.le_add_right _ _
    · exact walk_count k _ _ _ s (by omega)

set_option maxRecDepth 20000 in
set_option maxHeartbeats 8000000 in
theorem Try.l20Walk_ok {M : List (List Int)} {C : List Con} (hw : WM M) (hC : areCons M.length C = true) (sb : Nat) : ∀ (k : Nat) (p : List Int) (nx : Nat) (cost : Int) (s : BS) (fb lb : Nat) (H : Heap), p.length + k = M.length → nx + k ≤ 8 → s.count + 9 ^ k ≤ 1000000000 → 0 ≤ cost → cost ≤ 8000 * p.length →
    H.map lb = some ⟨ints p, false⟩ → lb ≠ sb → lb < H.nb → SHp M C H sb s fb →
    CallS Try.prog 157 [.optr sb 0, .own lb 0 p.length p.length 1 false, .val (.int .i64 ((nx : Int) - 1)), .val (.int .i64 cost)] H (WQ M C sb (walkB M C k p nx cost s) H)
  | 0, p, nx, cost, s, fb, lb, H, hl, hnx, hct, hc0, hc1, hp, hls, hln, h => by
    have hM := hw.1
    have m := h.m
    have hrl := rows_length M
    by_cases g : 0 ≤ s.least ∧ s.least < cost
    · rw [walkB, if_pos g]
      have hfin : WQ M C sb s H (.tup []) H := ⟨rfl, Nat.le_refl _, fun _ _ _ => rfl, fb, h⟩
      obtain ⟨g1, g2⟩ := g
      refine CallS.of_body Try.func157 rfl (by kernel_rfl) (by simp [Try.ntmps157]) ?_
      refine SW_of_vc Try.mixed _ _ _ (by kernel_rfl) ?_
      simp (disch := omega) only [Try.ntmps157, Try.results157, go_sem, Nat.reduceLT, Nat.reduceLeDiff, Nat.reduceEqDiff, Nat.reduceAdd, Nat.reduceSub, Nat.reduceMul, reduceIte, ↓reduceIte, reduceCtorEq, Int.reduceToNat, Int.reduceLE, Int.reduceLT, Int.reduceNeg, Int.reduceSub, Int.reduceAdd, Int.reduceMul, m, rr_eq, rc]
      exact hfin
    · rw [walkB, if_neg g, walkEnd]
      have hpl : p.length = M.length := by omega
      have hip : (ints p).length = p.length := ints_length p
      have htk : List.take p.length (ints p) = ints p := List.take_of_length_le (by omega)
      have hf := ints_flat p
      have hsn := h.sn
      have hp2 : ((H.push ⟨[], false⟩).map lb) = some ⟨ints p, false⟩ := by rw [hpush_map, if_neg (by omega), hp]
      have hp3 : ((H.push ⟨[], false⟩).map H.nb) = some ⟨[], false⟩ := by rw [hpush_map, if_pos rfl]
      by_cases g1 : s.least < 0 ∨ cost < s.least
      · rw [if_pos g1]
        have hgd : s.least < 0 ∨ (¬ s.least < 0 ∧ cost < s.least) := by omega
        rcases hgd with g2 | ⟨g2, g3⟩
        · refine CallS.of_body Try.func157 rfl (by kernel_rfl) (by simp [Try.ntmps157]) ?_
          refine SW_of_vc Try.mixed _ _ _ (by kernel_rfl) ?_
          simp (disch := omega) only [Try.ntmps157, Try.results157, go_sem, Nat.reduceLT, Nat.reduceLeDiff, Nat.reduceEqDiff, Nat.reduceAdd, Nat.reduceSub, Nat.reduceMul, reduceIte, ↓reduceIte, reduceCtorEq, Int.reduceToNat, Int.reduceLE, Int.reduceLT, Int.reduceNeg, Int.reduceSub, Int.reduceAdd, Int.reduceMul, m, rr_eq, rc, hp, hip, htk, hf, hset_map, hpush_map, hset_nb, hpush_nb]
          refine ⟨rfl, ?_, fun b hb hbs => ?_, H.nb + 1, ?_, fun _ => ⟨?_, ?_, ?_⟩, ?_⟩
          · simp only [hset_nb, hpush_nb]; omega
          · simp (disch := omega) only [hset_map, hpush_map, hset_nb, hpush_nb, if_neg, ↓reduceIte]
          · rw [hset_map, if_pos rfl, rr_eq, rc, nlI_f (by show p.length ≠ 0; omega)]
            rfl
          · simp (disch := omega) only [hset_map, hpush_map, hset_nb, hpush_nb, if_neg, if_pos, ↓reduceIte]
          · omega
          · simp only [hset_nb, hpush_nb]; omega
          · simp only [hset_nb, hpush_nb]; omega
        · refine CallS.of_body Try.func157 rfl (by kernel_rfl) (by simp [Try.ntmps157]) ?_
          refine SW_of_vc Try.mixed _ _ _ (by kernel_rfl) ?_
          simp (disch := omega) only [Try.ntmps157, Try.results157, go_sem, Nat.reduceLT, Nat.reduceLeDiff, Nat.reduceEqDiff, Nat.reduceAdd, Nat.reduceSub, Nat.reduceMul, reduceIte, ↓reduceIte, reduceCtorEq, Int.reduceToNat, Int.reduceLE, Int.reduceLT, Int.reduceNeg, Int.reduceSub, Int.reduceAdd, Int.reduceMul, m, rr_eq, rc, hp, hip, htk, hf, hset_map, hpush_map, hset_nb, hpush_nb]
          refine ⟨rfl, ?_, fun b hb hbs => ?_, H.nb + 1, ?_, fun _ => ⟨?_, ?_, ?_⟩, ?_⟩
          · simp only [hset_nb, hpush_nb]; omega
          · simp (disch := omega) only [hset_map, hpush_map, hset_nb, hpush_nb, if_neg, ↓reduceIte]
          · rw [hset_map, if_pos rfl, rr_eq, rc, nlI_f (by show p.length ≠ 0; omega)]
            rfl
          · simp (disch := omega) only [hset_map, hpush_map, hset_nb, hpush_nb, if_neg, if_pos, ↓reduceIte]
          · omega
          · simp only [hset_nb, hpush_nb]; omega
          · simp only [hset_nb, hpush_nb]; omega
      · rw [if_neg g1]
        refine CallS.of_body Try.func157 rfl (by kernel_rfl) (by simp [Try.ntmps157]) ?_
        refine SW_of_vc Try.mixed _ _ _ (by kernel_rfl) ?_
        simp (disch := omega) only [Try.ntmps157, Try.results157, go_sem, Nat.reduceLT, Nat.reduceLeDiff, Nat.reduceEqDiff, Nat.reduceAdd, Nat.reduceSub, Nat.reduceMul, reduceIte, ↓reduceIte, reduceCtorEq, Int.reduceToNat, Int.reduceLE, Int.reduceLT, Int.reduceNeg, Int.reduceSub, Int.reduceAdd, Int.reduceMul, m, rr_eq, rc, hp, hip, htk, hf, hset_map, hpush_map, hset_nb, hpush_nb]
        refine ⟨rfl, Nat.le_refl _, fun b hb hbs => ?_, fb, ?_, fun hf0 => ?_, hsn⟩
        · rw [hset_map, if_neg hbs]
        · rw [hset_map, if_pos rfl, rr_eq, rc]
          rfl
        · obtain ⟨f1, f2, f3⟩ := h.mf hf0
          exact ⟨by rw [hset_map, if_neg f2, f1], f2, f3⟩
  | k + 1, p, nx, cost, s, fb, lb, H, hl, hnx, hct, hc0, hc1, hp, hls, hln, h => by
    have hM := hw.1
    have m := h.m
    have hrl := rows_length M
    by_cases g : 0 ≤ s.least ∧ s.least < cost
    · rw [walkB, if_pos g]
      have hfin : WQ M C sb s H (.tup []) H := ⟨rfl, Nat.le_refl _, fun _ _ _ => rfl, fb, h⟩
      obtain ⟨g1, g2⟩ := g
      refine CallS.of_body Try.func157 rfl (by kernel_rfl) (by simp [Try.ntmps157]) ?_
      refine SW_of_vc Try.mixed _ _ _ (by kernel_rfl) ?_
      simp (disch := omega) only [Try.ntmps157, Try.results157, go_sem, Nat.reduceLT, Nat.reduceLeDiff, Nat.reduceEqDiff, Nat.reduceAdd, Nat.reduceSub, Nat.reduceMul, reduceIte, ↓reduceIte, reduceCtorEq, Int.reduceToNat, Int.reduceLE, Int.reduceLT, Int.reduceNeg, Int.reduceSub, Int.reduceAdd, Int.reduceMul, m, rr_eq, rc]
      exact hfin
    · rw [walkB, if_neg g]
      have hip : (ints p).length = p.length := ints_length p
      have htk : List.take p.length (ints p) = ints p := List.take_of_length_le (by omega)
      have hf := ints_flat p
      have hsn := h.sn
      have hwt : (List.range (nx + 1)).foldl (fun s (x : Nat) => if badC C (p ++ [(x : Int)]) = true then s else walkB M C k (p ++ [(x : Int)]) (max nx (x + 1)) (cost + wadd M p x p.length) s) s = walkTo M C k p nx cost s (nx + 1) := rfl
      rw [hwt]
      have h9 : (nx + 1) * 9 ^ k ≤ 9 * 9 ^ k := mul9 (by omega)
      rw [Nat.pow_succ] at hct
      refine CallS.of_body Try.func157 rfl (by kernel_rfl) (by simp [Try.ntmps157]) ?_
      refine SW.seqW ⟨ofL [(0, .optr sb 0), (1, .own lb 0 p.length p.length 1 false), (2, .val (.int .i64 ((nx : Int) - 1))), (3, .val (.int .i64 cost))], H⟩ ?_ ?_
      · refine SW_of_vc Try.mixed _ _ _ (by kernel_rfl) ?_
        have hgd : s.least < 0 ∨ (0 ≤ s.least ∧ cost ≤ s.least) := by omega
        rcases hgd with hg | ⟨hg, hg2⟩
        · simp (disch := omega) only [Try.ntmps157, Try.results157, go_sem, Nat.reduceLT, Nat.reduceLeDiff, Nat.reduceEqDiff, Nat.reduceAdd, Nat.reduceSub, Nat.reduceMul, reduceIte, ↓reduceIte, reduceCtorEq, Int.reduceToNat, Int.reduceLE, Int.reduceLT, Int.reduceNeg, Int.reduceSub, Int.reduceAdd, Int.reduceMul, m, rr_eq, rc]
          exact Wk.of (by simp only [go_sem, ↓List.forall_mem_cons, List.not_mem_nil, false_implies, implies_true, and_true, true_and, and_self, Nat.reduceEqDiff, reduceIte, ↓reduceIte, ri_eq, Int.natCast_add, Int.cast_ofNat_Int]; try simp) rfl
        · simp (disch := omega) only [Try.ntmps157, Try.results157, go_sem, Nat.reduceLT, Nat.reduceLeDiff, Nat.reduceEqDiff, Nat.reduceAdd, Nat.reduceSub, Nat.reduceMul, reduceIte, ↓reduceIte, reduceCtorEq, Int.reduceToNat, Int.reduceLE, Int.reduceLT, Int.reduceNeg, Int.reduceSub, Int.reduceAdd, Int.reduceMul, m, rr_eq, rc]
          exact Wk.of (by simp only [go_sem, ↓List.forall_mem_cons, List.not_mem_nil, false_implies, implies_true, and_true, true_and, and_self, Nat.reduceEqDiff, reduceIte, ↓reduceIte, ri_eq, Int.natCast_add, Int.cast_ofNat_Int]; try simp) rfl
      refine SW_of_vc Try.mixed _ _ _ (by kernel_rfl) ?_
      simp (disch := omega) only [Try.ntmps157, Try.results157, go_sem, Nat.reduceLT, Nat.reduceLeDiff, Nat.reduceEqDiff, Nat.reduceAdd, Nat.reduceSub, Nat.reduceMul, reduceIte, ↓reduceIte, reduceCtorEq, Int.reduceToNat, Int.reduceLE, Int.reduceLT, Int.reduceNeg, Int.reduceSub, Int.reduceAdd, Int.reduceMul, m, rr_eq, rc, hp, hip, htk, hf, hset_map, hpush_map, hset_nb, hpush_nb]
      refine LoopW.loop (fun y : Nat × Nat × Heap => ⟨ofL [(0, .optr sb 0), (1, .own lb 0 p.length p.length 1 false), (2, .val (.int .i64 ((nx : Int) - 1))), (3, .val (.int .i64 cost)), (8, .val (.int .i64 p.length)), (9, .val (.int .i64 y.1))], y.2.2⟩)
        (fun y => y.1 ≤ nx + 1 ∧ SHp M C y.2.2 sb (walkTo M C k p nx cost s y.1) y.2.1 ∧ H.nb ≤ y.2.2.nb ∧ (∀ b, b < H.nb → b ≠ sb → y.2.2.map b = H.map b)) (fun y => nx + 1 - y.1) (0, fb, H)
        ⟨by simp, h, Nat.le_refl _, fun _ _ _ => rfl⟩ (Wk.of (by simp only [go_sem, ↓List.forall_mem_cons, List.not_mem_nil, false_implies, implies_true, and_true, true_and, and_self, Nat.reduceEqDiff, reduceIte, ↓reduceIte, ri_eq, Int.natCast_add, Int.cast_ofNat_Int]; try simp) rfl) ?_
      clear h m g hwt fb
      rintro ⟨x, fb, H1⟩ ⟨hx, h, hnb, hfr⟩
      simp only at hx h hnb hfr
      have m := h.m
      have hp1 : H1.map lb = some ⟨ints p, false⟩ := by rw [hfr lb hln hls, hp]
      by_cases hlt : x < nx + 1
      · have hxi : (x : Int) ≤ 8 := by omega
        have hsucc := walkTo_succ (M := M) (C := C) (k := k) (p := p) (nx := nx) (cost := cost) (s := s) (x := x)
        have hct1 := walkTo_count (M := M) (C := C) (k := k) (p := p) (cost := cost) (s := s) hx hnx
        have hx9 : (x + 1) * 9 ^ k ≤ (nx + 1) * 9 ^ k := mul9 (by omega)
        rw [Nat.succ_mul] at hx9
        generalize walkTo M C k p nx cost s x = t at *
        have wb := Try.l20Bad_ok M.length (rr M) (ri t.first) (.val (.int .i64 t.least)) (.val (.int .i64 t.count)) C (p ++ [(x : Int)]) hM.2 hC (by simp) (by simp; omega)
        have hl1 : (p ++ [(x : Int)]).length = p.length + 1 := by simp
        have hs2 := h.sn
        refine SW.seqW ⟨ofL [(0, .optr sb 0), (1, .own lb 0 p.length p.length 1 false), (2, .val (.int .i64 ((nx : Int) - 1))), (3, .val (.int .i64 cost)), (8, .val (.int .i64 p.length)), (9, .val (.int .i64 x))], H1⟩ ?_ ?_
        · refine SW_of_vc Try.mixed _ _ _ (by kernel_rfl) ?_
          simp (disch := omega) only [Try.ntmps157, Try.results157, go_sem, Nat.reduceLT, Nat.reduceLeDiff, Nat.reduceEqDiff, Nat.reduceAdd, Nat.reduceSub, Nat.reduceMul, reduceIte, ↓reduceIte, reduceCtorEq, Int.reduceToNat, Int.reduceLE, Int.reduceLT, Int.reduceNeg, Int.reduceSub, Int.reduceAdd, Int.reduceMul]
          exact Wk.of (by simp only [go_sem, ↓List.forall_mem_cons, List.not_mem_nil, false_implies, implies_true, and_true, true_and, and_self, Nat.reduceEqDiff, reduceIte, ↓reduceIte, ri_eq, Int.natCast_add, Int.cast_ofNat_Int]; try simp) rfl
        refine SW.seq (SW.block ?_)
        refine SW.seqI (fun y : Nat × Heap => ⟨ofL [(0, .optr sb 0), (1, .own lb 0 p.length p.length 1 false), (2, .val (.int .i64 ((nx : Int) - 1))), (3, .val (.int .i64 cost)), (8, .val (.int .i64 p.length)), (9, .val (.int .i64 x)), (10, .own y.1 0 (p.length + 1) (p.length + 1) 1 false)], y.2⟩) (fun y => XH H1 y.2 y.1 (p ++ [(x : Int)])) ?_ ?_
        · refine SW_of_vc Try.mixed _ _ _ (by kernel_rfl) ?_
          by_cases h0 : p.length = 0
          · have hi0 : ints p = [] := by rw [List.length_eq_zero_iff.1 h0]; rfl
            have hi1 : [SV.val (.int .i64 (x : Int))] = ints (p ++ [(x : Int)]) := by rw [List.length_eq_zero_iff.1 h0]; rfl
            simp (disch := omega) only [Try.ntmps157, Try.results157, go_sem, Nat.reduceLT, Nat.reduceLeDiff, Nat.reduceEqDiff, Nat.reduceAdd, Nat.reduceSub, Nat.reduceMul, reduceIte, ↓reduceIte, reduceCtorEq, Int.reduceToNat, Int.reduceLE, Int.reduceLT, Int.reduceNeg, Int.reduceSub, Int.reduceAdd, Int.reduceMul, m, rr_eq, rc, hp1, hip, htk, hf, hset_map, hpush_map, hset_nb, hpush_nb, hi0, h0]
            refine ⟨(H1.nb + 1 + 1, _), ?_, Wk.of (by simp only [go_sem, ↓List.forall_mem_cons, List.not_mem_nil, false_implies, implies_true, and_true, true_and, and_self, Nat.reduceEqDiff, reduceIte, ↓reduceIte, ri_eq, Int.natCast_add, Int.cast_ofNat_Int, h0]; try simp) rfl⟩
            rw [hi1]
            exact ⟨by simp (disch := omega) only [hset_map, hpush_map, hset_nb, hpush_nb, if_neg, if_pos, ↓reduceIte], by simp only [hset_nb, hpush_nb]; omega, by show H1.nb ≤ H1.nb + 1 + 1; omega, fun b hb => by simp (disch := omega) only [hset_map, hpush_map, hset_nb, hpush_nb, if_neg, ↓reduceIte]⟩
          · simp (disch := omega) only [Try.ntmps157, Try.results157, go_sem, Nat.reduceLT, Nat.reduceLeDiff, Nat.reduceEqDiff, Nat.reduceAdd, Nat.reduceSub, Nat.reduceMul, reduceIte, ↓reduceIte, reduceCtorEq, Int.reduceToNat, Int.reduceLE, Int.reduceLT, Int.reduceNeg, Int.reduceSub, Int.reduceAdd, Int.reduceMul, m, rr_eq, rc, hp1, hip, htk, hf, hset_map, hpush_map, hset_nb, hpush_nb]
            refine ⟨(H1.nb + 1 + 1 + 1, _), ?_, Wk.of (by simp only [go_sem, ↓List.forall_mem_cons, List.not_mem_nil, false_implies, implies_true, and_true, true_and, and_self, Nat.reduceEqDiff, reduceIte, ↓reduceIte, ri_eq, Int.natCast_add, Int.cast_ofNat_Int]; try simp) rfl⟩
            exact ⟨by simp (disch := omega) only [hset_map, hpush_map, hset_nb, hpush_nb, if_neg, if_pos, ↓reduceIte], by simp only [hset_nb, hpush_nb]; omega, by show H1.nb ≤ H1.nb + 1 + 1 + 1; omega, fun b hb => by simp (disch := omega) only [hset_map, hpush_map, hset_nb, hpush_nb, if_neg, ↓reduceIte]⟩
        rintro ⟨xb, H2⟩ hX
        simp only at hX
        have h2 := h.xh hX
        have hn1 := hX.n1
        have hn2' := hX.n2
        have hn2 : H1.nb ≤ H2.nb := by omega
        have hfr2 : ∀ b, b < H.nb → b ≠ sb → H2.map b = H.map b := fun b hb hbs => by rw [hX.fr b (by omega), hfr b hb hbs]
        have m2 := h2.m
        have hp2 : H2.map lb = some ⟨ints p, false⟩ := by rw [hX.fr lb (by omega), hp1]
        refine SW_of_vc Try.mixed _ _ _ (by kernel_rfl) ?_
        rcases Bool.eq_false_or_eq_true (badC C (p ++ [(x : Int)])) with hb | hb
        · rw [hb] at wb
          rw [if_pos hb] at hsucc
          simp (disch := omega) only [Try.ntmps157, Try.results157, go_sem, Nat.reduceLT, Nat.reduceLeDiff, Nat.reduceEqDiff, Nat.reduceAdd, Nat.reduceSub, Nat.reduceMul, reduceIte, ↓reduceIte, reduceCtorEq, Int.reduceToNat, Int.reduceLE, Int.reduceLT, Int.reduceNeg, Int.reduceSub, Int.reduceAdd, Int.reduceMul]
          refine wb.callV 4 (viewL_cons_of (view_optr m2 (viewL_cons_of view_row (viewL_cons_of view_row (viewL_cons_of (view_nlI fun hf0 => (h2.mf hf0).1) (viewL_cons_of view_int (viewL_cons_of view_int viewL_nil_of)))))) (viewL_cons_of (view_own hX.mx hl1.symm) viewL_nil_of)) ?_
          simp (disch := omega) only [Try.ntmps157, Try.results157, go_sem, Nat.reduceLT, Nat.reduceLeDiff, Nat.reduceEqDiff, Nat.reduceAdd, Nat.reduceSub, Nat.reduceMul, reduceIte, ↓reduceIte, reduceCtorEq, Int.reduceToNat, Int.reduceLE, Int.reduceLT, Int.reduceNeg, Int.reduceSub, Int.reduceAdd, Int.reduceMul]
          refine SW_of_vc Try.mixed _ _ _ (by kernel_rfl) ?_
          simp (disch := omega) only [Try.ntmps157, Try.results157, go_sem, Nat.reduceLT, Nat.reduceLeDiff, Nat.reduceEqDiff, Nat.reduceAdd, Nat.reduceSub, Nat.reduceMul, reduceIte, ↓reduceIte, reduceCtorEq, Int.reduceToNat, Int.reduceLE, Int.reduceLT, Int.reduceNeg, Int.reduceSub, Int.reduceAdd, Int.reduceMul]
          exact ⟨(x + 1, fb, H2), ⟨hlt, hsucc ▸ h2, Nat.le_trans hnb hn2, hfr2⟩, by show nx + 1 - (x + 1) < nx + 1 - x; omega, Wk.of (by simp only [go_sem, ↓List.forall_mem_cons, List.not_mem_nil, false_implies, implies_true, and_true, true_and, and_self, Nat.reduceEqDiff, reduceIte, ↓reduceIte, ri_eq, Int.natCast_add, Int.cast_ofNat_Int]; try simp) rfl⟩
        · rw [hb] at wb
          rw [if_neg (by rw [hb]; simp)] at hsucc
          simp (disch := omega) only [Try.ntmps157, Try.results157, go_sem, Nat.reduceLT, Nat.reduceLeDiff, Nat.reduceEqDiff, Nat.reduceAdd, Nat.reduceSub, Nat.reduceMul, reduceIte, ↓reduceIte, reduceCtorEq, Int.reduceToNat, Int.reduceLE, Int.reduceLT, Int.reduceNeg, Int.reduceSub, Int.reduceAdd, Int.reduceMul]
          refine wb.callV 4 (viewL_cons_of (view_optr m2 (viewL_cons_of view_row (viewL_cons_of view_row (viewL_cons_of (view_nlI fun hf0 => (h2.mf hf0).1) (viewL_cons_of view_int (viewL_cons_of view_int viewL_nil_of)))))) (viewL_cons_of (view_own hX.mx hl1.symm) viewL_nil_of)) ?_
          simp (disch := omega) only [Try.ntmps157, Try.results157, go_sem, Nat.reduceLT, Nat.reduceLeDiff, Nat.reduceEqDiff, Nat.reduceAdd, Nat.reduceSub, Nat.reduceMul, reduceIte, ↓reduceIte, reduceCtorEq, Int.reduceToNat, Int.reduceLE, Int.reduceLT, Int.reduceNeg, Int.reduceSub, Int.reduceAdd, Int.reduceMul]
          have hw0 : cost + wadd M p x 0 = cost := by show cost + 0 = cost; omega
          refine LoopW.loop (fun i : Nat => ⟨ofL [(0, .optr sb 0), (1, .own lb 0 p.length p.length 1 false), (2, .val (.int .i64 ((nx : Int) - 1))), (3, .val (.int .i64 cost)), (8, .val (.int .i64 p.length)), (9, .val (.int .i64 x)), (10, .own xb 0 (p.length + 1) (p.length + 1) 1 false), (11, .val (.int .i64 (cost + wadd M p x i))), (12, .val (.int .i64 i))], H2⟩) (fun i => i ≤ p.length) (fun i => p.length - i) 0 (by omega) (Wk.of (by simp only [go_sem, ↓List.forall_mem_cons, List.not_mem_nil, false_implies, implies_true, and_true, true_and, and_self, Nat.reduceEqDiff, reduceIte, ↓reduceIte, ri_eq, Int.natCast_add, Int.cast_ofNat_Int, hw0]; try simp) rfl) ?_
          intro i hi
          refine SW_of_vc Try.mixed _ _ _ (by kernel_rfl) ?_
          by_cases hli : i < p.length
          · have hri := hw.2.1 i (by omega)
            have hmb := (hw.2.2.1 i p.length (by omega) (by omega)).1
            have gm : (ints (mrow M i))[p.length]? = some (.val (.int .i64 (mat M i p.length))) := ints_get' hri (by omega)
            have gp : (ints p)[i]? = some (.val (.int .i64 (p.getD i 0))) := ints_get hli
            have hwb := wadd_b hw (p := p) (x := x) (by omega) (t := i) (by omega)
            have hws : wadd M p x (i + 1) = wadd M p x i + (if p.getD i 0 = x then max 0 (-mat M i p.length) else max 0 (mat M i p.length)) := rfl
            generalize hw1 : wadd M p x (i + 1) = w1 at *
            generalize mat M i p.length = v at *
            generalize p.getD i 0 = u at *
            generalize wadd M p x i = wv at *
            rcases (by omega : 0 < v ∨ v = 0 ∨ v < 0) with hv | hv | hv
            · by_cases hu : u = (x : Int)
              · have he : w1 = wv := by rw [hws, if_pos hu]; omega
                simp (disch := omega) only [Try.ntmps157, Try.results157, go_sem, Nat.reduceLT, Nat.reduceLeDiff, Nat.reduceEqDiff, Nat.reduceAdd, Nat.reduceSub, Nat.reduceMul, reduceIte, ↓reduceIte, reduceCtorEq, Int.reduceToNat, Int.reduceLE, Int.reduceLT, Int.reduceNeg, Int.reduceSub, Int.reduceAdd, Int.reduceMul, m2, rr_eq, rc, rows_get, hri, gm, gp, hp2, hip, hrl]
                exact ⟨i + 1, by omega, by omega, Wk.of (by simp only [go_sem, ↓List.forall_mem_cons, List.not_mem_nil, false_implies, implies_true, and_true, true_and, and_self, Nat.reduceEqDiff, reduceIte, ↓reduceIte, ri_eq, Int.natCast_add, Int.cast_ofNat_Int, hw1, he]; try simp) rfl⟩
              · have he : cost + w1 = cost + wv + v := by rw [hws, if_neg hu]; omega
                simp (disch := omega) only [Try.ntmps157, Try.results157, go_sem, Nat.reduceLT, Nat.reduceLeDiff, Nat.reduceEqDiff, Nat.reduceAdd, Nat.reduceSub, Nat.reduceMul, reduceIte, ↓reduceIte, reduceCtorEq, Int.reduceToNat, Int.reduceLE, Int.reduceLT, Int.reduceNeg, Int.reduceSub, Int.reduceAdd, Int.reduceMul, m2, rr_eq, rc, rows_get, hri, gm, gp, hp2, hip, hrl]
                exact ⟨i + 1, by omega, by omega, Wk.of (by simp only [go_sem, ↓List.forall_mem_cons, List.not_mem_nil, false_implies, implies_true, and_true, true_and, and_self, Nat.reduceEqDiff, reduceIte, ↓reduceIte, ri_eq, Int.natCast_add, Int.cast_ofNat_Int, hw1, he]; try simp) rfl⟩
            · have he : w1 = wv := by rw [hws, hv]; split <;> omega
              simp (disch := omega) only [Try.ntmps157, Try.results157, go_sem, Nat.reduceLT, Nat.reduceLeDiff, Nat.reduceEqDiff, Nat.reduceAdd, Nat.reduceSub, Nat.reduceMul, reduceIte, ↓reduceIte, reduceCtorEq, Int.reduceToNat, Int.reduceLE, Int.reduceLT, Int.reduceNeg, Int.reduceSub, Int.reduceAdd, Int.reduceMul, m2, rr_eq, rc, rows_get, hri, gm, gp, hp2, hip, hrl, hv]
              exact ⟨i + 1, by omega, by omega, Wk.of (by simp only [go_sem, ↓List.forall_mem_cons, List.not_mem_nil, false_implies, implies_true, and_true, true_and, and_self, Nat.reduceEqDiff, reduceIte, ↓reduceIte, ri_eq, Int.natCast_add, Int.cast_ofNat_Int, hw1, he]; try simp) rfl⟩
            · by_cases hu : u = (x : Int)
              · have he : cost + w1 = cost + wv - v := by rw [hws, if_pos hu]; omega
                simp (disch := omega) only [Try.ntmps157, Try.results157, go_sem, Nat.reduceLT, Nat.reduceLeDiff, Nat.reduceEqDiff, Nat.reduceAdd, Nat.reduceSub, Nat.reduceMul, reduceIte, ↓reduceIte, reduceCtorEq, Int.reduceToNat, Int.reduceLE, Int.reduceLT, Int.reduceNeg, Int.reduceSub, Int.reduceAdd, Int.reduceMul, m2, rr_eq, rc, rows_get, hri, gm, gp, hp2, hip, hrl]
                exact ⟨i + 1, by omega, by omega, Wk.of (by simp only [go_sem, ↓List.forall_mem_cons, List.not_mem_nil, false_implies, implies_true, and_true, true_and, and_self, Nat.reduceEqDiff, reduceIte, ↓reduceIte, ri_eq, Int.natCast_add, Int.cast_ofNat_Int, hw1, he]; try simp) rfl⟩
              · have he : w1 = wv := by rw [hws, if_neg hu]; omega
                simp (disch := omega) only [Try.ntmps157, Try.results157, go_sem, Nat.reduceLT, Nat.reduceLeDiff, Nat.reduceEqDiff, Nat.reduceAdd, Nat.reduceSub, Nat.reduceMul, reduceIte, ↓reduceIte, reduceCtorEq, Int.reduceToNat, Int.reduceLE, Int.reduceLT, Int.reduceNeg, Int.reduceSub, Int.reduceAdd, Int.reduceMul, m2, rr_eq, rc, rows_get, hri, gm, gp, hp2, hip, hrl]
                exact ⟨i + 1, by omega, by omega, Wk.of (by simp only [go_sem, ↓List.forall_mem_cons, List.not_mem_nil, false_implies, implies_true, and_true, true_and, and_self, Nat.reduceEqDiff, reduceIte, ↓reduceIte, ri_eq, Int.natCast_add, Int.cast_ofNat_Int, hw1, he]; try simp) rfl⟩
          · obtain rfl : i = p.length := by omega
            have hwb := wadd_b hw (p := p) (x := x) (by omega) (t := p.length) (Nat.le_refl _)
            have ih := Try.l20Walk_ok hw hC sb k (p ++ [(x : Int)]) (max nx (x + 1)) (cost + wadd M p x p.length) t fb xb H2 (by rw [hl1]; omega) (by omega) (by omega) (by omega) (by rw [hl1]; omega) hX.mx (by omega) hX.n1 h2
            rw [hl1, ← hsucc] at ih
            have c2 : ((max nx (x + 1) : Nat) : Int) - 1 = if (nx : Int) - 1 < (x : Int) then (x : Int) else (nx : Int) - 1 := by split <;> omega
            rw [c2] at ih
            simp (disch := omega) only [Try.ntmps157, Try.results157, go_sem, Nat.reduceLT, Nat.reduceLeDiff, Nat.reduceEqDiff, Nat.reduceAdd, Nat.reduceSub, Nat.reduceMul, reduceIte, ↓reduceIte, reduceCtorEq, Int.reduceToNat, Int.reduceLE, Int.reduceLT, Int.reduceNeg, Int.reduceSub, Int.reduceAdd, Int.reduceMul]
            refine ih.callX ?_
            rintro r H3 ⟨rfl, hn3, hfr3, fb3, h3⟩
            simp (disch := omega) only [Try.ntmps157, Try.results157, go_sem, Nat.reduceLT, Nat.reduceLeDiff, Nat.reduceEqDiff, Nat.reduceAdd, Nat.reduceSub, Nat.reduceMul, reduceIte, ↓reduceIte, reduceCtorEq, Int.reduceToNat, Int.reduceLE, Int.reduceLT, Int.reduceNeg, Int.reduceSub, Int.reduceAdd, Int.reduceMul]
            refine SW_of_vc Try.mixed _ _ _ (by kernel_rfl) ?_
            simp (disch := omega) only [Try.ntmps157, Try.results157, go_sem, Nat.reduceLT, Nat.reduceLeDiff, Nat.reduceEqDiff, Nat.reduceAdd, Nat.reduceSub, Nat.reduceMul, reduceIte, ↓reduceIte, reduceCtorEq, Int.reduceToNat, Int.reduceLE, Int.reduceLT, Int.reduceNeg, Int.reduceSub, Int.reduceAdd, Int.reduceMul]
            exact ⟨(x + 1, fb3, H3), ⟨hlt, h3, by show H.nb ≤ H3.nb; omega, fun b hb hbs => by rw [hfr3 b (by omega) hbs, hfr2 b hb hbs]⟩, by show nx + 1 - (x + 1) < nx + 1 - x; omega, Wk.of (by simp only [go_sem, ↓List.forall_mem_cons, List.not_mem_nil, false_implies, implies_true, and_true, true_and, and_self, Nat.reduceEqDiff, reduceIte, ↓reduceIte, ri_eq, Int.natCast_add, Int.cast_ofNat_Int]; try simp) rfl⟩
      · obtain rfl : x = nx + 1 := by omega
        have hfin : WQ M C sb (walkTo M C k p nx cost s (nx + 1)) H (.tup []) H1 := ⟨rfl, hnb, hfr, fb, h⟩
        refine SW_of_vc Try.mixed _ _ _ (by kernel_rfl) ?_
        simp (disch := omega) only [Try.ntmps157, Try.results157, go_sem, Nat.reduceLT, Nat.reduceLeDiff, Nat.reduceEqDiff, Nat.reduceAdd, Nat.reduceSub, Nat.reduceMul, reduceIte, ↓reduceIte, reduceCtorEq, Int.reduceToNat, Int.reduceLE, Int.reduceLT, Int.reduceNeg, Int.reduceSub, Int.reduceAdd, Int.reduceMul]
        exact hfin
end Go.Sh

/-
  The best partition: the contracts of the reference.
-/
namespace Go.Sh
set_option linter.unusedSimpArgs false
set_option linter.unusedVariables false
open Go Go.Proofs

def okB (M : List (List Int)) (C : List Con) : Prop := WM M ∧ isCst M.length C = true
def RQ (M : List (List Int)) (C : List Con) (r : SV) (H' : Heap) : Prop :=
  ∃ fb, r = .tup [.agg [rr M, rc C, .own fb 0 M.length M.length 1 false, .val (.int .i64 (bs M C).least), .val (.int .i64 (bs M C).count)], .val (.bool true)] ∧ H'.map fb = some ⟨ints (bs M C).first, false⟩ ∧ fb < H'.nb
set_option maxRecDepth 20000 in
set_option maxHeartbeats 4000000 in
theorem Try.l20Run_ok {M : List (List Int)} {C : List Con} (hM : M.length ≤ 1048576) (hR : ∀ i, i < M.length → (mrow M i).length ≤ 1048576) (hC : C.length ≤ 1048576) (h : okB M C) :
    CallS Try.prog 101 [rr M, rc C] (hp [] 0) (RQ M C) := by
  obtain ⟨hw, hcs⟩ := h
  have hln := hw.1
  have ha := isCst_t hcs
  have w1 := Try.specIsWM_ok M hM hR
  rw [isWM_t hw] at w1
  have w2 := Try.specConsistent_ok M.length C hC (by omega) (by omega)
  rw [hcs] at w2
  have hbl := (bs_best (C := C) hw).ok (bs_ok hw hcs)
  refine CallS.of_body Try.func101 rfl (by kernel_rfl) (by simp [Try.ntmps101]) ?_
  refine SW_of_vc Try.mixed _ _ _ (by kernel_rfl) ?_
  simp (disch := omega) only [Try.ntmps101, Try.results101, go_sem, Nat.reduceLT, Nat.reduceLeDiff, Nat.reduceEqDiff, Nat.reduceAdd, Nat.reduceSub, Nat.reduceMul, reduceIte, ↓reduceIte, reduceCtorEq, Int.reduceToNat, Int.reduceLE, Int.reduceLT, Int.reduceNeg, Int.reduceSub, Int.reduceAdd, Int.reduceMul, rr_eq, rc]
  refine w1.callV 0 (viewL_cons_of (view_row) viewL_nil_of) ?_
  simp (disch := omega) only [Try.ntmps101, Try.results101, go_sem, Nat.reduceLT, Nat.reduceLeDiff, Nat.reduceEqDiff, Nat.reduceAdd, Nat.reduceSub, Nat.reduceMul, reduceIte, ↓reduceIte, reduceCtorEq, Int.reduceToNat, Int.reduceLE, Int.reduceLT, Int.reduceNeg, Int.reduceSub, Int.reduceAdd, Int.reduceMul, rr_eq, rc]
  refine w2.callV 0 (viewL_cons_of (view_int) (viewL_cons_of (view_row) viewL_nil_of)) ?_
  simp (disch := omega) only [Try.ntmps101, Try.results101, go_sem, Nat.reduceLT, Nat.reduceLeDiff, Nat.reduceEqDiff, Nat.reduceAdd, Nat.reduceSub, Nat.reduceMul, reduceIte, ↓reduceIte, reduceCtorEq, Int.reduceToNat, Int.reduceLE, Int.reduceLT, Int.reduceNeg, Int.reduceSub, Int.reduceAdd, Int.reduceMul, rr_eq, rc]
  refine (Try.l20Walk_ok hw ha 1 M.length [] 0 0 ⟨[], -1, 0⟩ 0 2 _ (by simp) (by omega) ?_ (by omega) (by simp) rfl (by omega) (by simp [hp]) ⟨by rw [rr_eq, rc]; rfl, fun hf => absurd rfl hf, by simp [hp]⟩).callX ?_
  · have h9 : 9 ^ M.length ≤ 9 ^ 8 := Nat.pow_le_pow_right (by omega) hln.2
    show 0 + 9 ^ M.length ≤ 1000000000
    omega
  rw [bs_walk hw ha]
  rintro r H' ⟨rfl, hnb, hfr, fb, hs⟩
  have m := hs.m
  have m0 : H'.map 0 = some ⟨[.val (.slice none 0 0), .val (.slice none 0 0), .val (.slice none 0 0), .val (.int .i64 0), .val (.int .i64 0)], true⟩ := by rw [hfr 0 (by simp [hp]) (by omega)]; rfl
  have hf0 : (bs M C).first.length ≠ 0 := by omega
  obtain ⟨mf, f2, f3⟩ := hs.mf hf0
  have hRQ : ∀ H2 : Heap, H2.map fb = some ⟨ints (bs M C).first, false⟩ → fb < H2.nb → RQ M C (.tup [.agg [rr M, rc C, .own fb 0 M.length M.length 1 false, .val (.int .i64 (bs M C).least), .val (.int .i64 (bs M C).count)], .val (.bool true)]) H2 := fun H2 h2 h3 => ⟨fb, rfl, h2, h3⟩
  rw [nlI_f hf0, hbl.1] at m
  generalize bs M C = t at *
  have hfb : fb ≠ 0 := by
    rintro rfl
    rw [m0] at mf
    cases hL : t.first with
    | nil => rw [hL] at hf0; exact hf0 rfl
    | cons a L => rw [hL] at mf; simp [ints] at mf
  simp (disch := omega) only [Try.ntmps101, Try.results101, go_sem, Nat.reduceLT, Nat.reduceLeDiff, Nat.reduceEqDiff, Nat.reduceAdd, Nat.reduceSub, Nat.reduceMul, reduceIte, ↓reduceIte, reduceCtorEq, Int.reduceToNat, Int.reduceLE, Int.reduceLT, Int.reduceNeg, Int.reduceSub, Int.reduceAdd, Int.reduceMul, rr_eq, rc, m, m0, hset_map]
  have := hRQ (H'.set 0 (some ⟨[rr M, rc C, .own fb 0 M.length M.length 1 false, .val (.int .i64 t.least), .val (.int .i64 t.count)], true⟩)) (by rw [hset_map, if_neg hfb, mf]) f3
  rw [rr_eq, rc] at this
  exact this
def zS : SV := .agg [.val (.slice none 0 0), .val (.slice none 0 0), .val (.slice none 0 0), .val (.int .i64 0), .val (.int .i64 0)]
theorem Try.l20Run_n {M : List (List Int)} {C : List Con} (hM : M.length ≤ 1048576) (hR : ∀ i, i < M.length → (mrow M i).length ≤ 1048576) (hC : C.length ≤ 1048576) (h : ¬ okB M C) :
    CallS Try.prog 101 [rr M, rc C] (hp [] 0) (fun r _ => r = .tup [zS, .val (.bool false)]) := by
  have w1 := Try.specIsWM_ok M hM hR
  refine CallS.of_body Try.func101 rfl (by kernel_rfl) (by simp [Try.ntmps101]) ?_
  refine SW_of_vc Try.mixed _ _ _ (by kernel_rfl) ?_
  by_cases hw : WM M
  · have hcs : isCst M.length C = false := by
      rcases Bool.eq_false_or_eq_true (isCst M.length C) with g | g
      · exact absurd ⟨hw, g⟩ h
      · exact g
    have hln := hw.1
    have w2 := Try.specConsistent_ok M.length C hC (by omega) (by omega)
    rw [isWM_t hw] at w1
    rw [hcs] at w2
    simp (disch := omega) only [Try.ntmps101, Try.results101, go_sem, Nat.reduceLT, Nat.reduceLeDiff, Nat.reduceEqDiff, Nat.reduceAdd, Nat.reduceSub, Nat.reduceMul, reduceIte, ↓reduceIte, reduceCtorEq, Int.reduceToNat, Int.reduceLE, Int.reduceLT, Int.reduceNeg, Int.reduceSub, Int.reduceAdd, Int.reduceMul, rr_eq, rc]
    refine w1.callV 0 (viewL_cons_of (view_row) viewL_nil_of) ?_
    simp (disch := omega) only [Try.ntmps101, Try.results101, go_sem, Nat.reduceLT, Nat.reduceLeDiff, Nat.reduceEqDiff, Nat.reduceAdd, Nat.reduceSub, Nat.reduceMul, reduceIte, ↓reduceIte, reduceCtorEq, Int.reduceToNat, Int.reduceLE, Int.reduceLT, Int.reduceNeg, Int.reduceSub, Int.reduceAdd, Int.reduceMul, rr_eq, rc]
    refine w2.callV 0 (viewL_cons_of (view_int) (viewL_cons_of (view_row) viewL_nil_of)) ?_
    simp (disch := omega) only [Try.ntmps101, Try.results101, go_sem, Nat.reduceLT, Nat.reduceLeDiff, Nat.reduceEqDiff, Nat.reduceAdd, Nat.reduceSub, Nat.reduceMul, reduceIte, ↓reduceIte, reduceCtorEq, Int.reduceToNat, Int.reduceLE, Int.reduceLT, Int.reduceNeg, Int.reduceSub, Int.reduceAdd, Int.reduceMul, rr_eq, rc]
    rfl
  · rw [isWM_f hw] at w1
    simp (disch := omega) only [Try.ntmps101, Try.results101, go_sem, Nat.reduceLT, Nat.reduceLeDiff, Nat.reduceEqDiff, Nat.reduceAdd, Nat.reduceSub, Nat.reduceMul, reduceIte, ↓reduceIte, reduceCtorEq, Int.reduceToNat, Int.reduceLE, Int.reduceLT, Int.reduceNeg, Int.reduceSub, Int.reduceAdd, Int.reduceMul, rr_eq, rc]
    refine w1.callV 0 (viewL_cons_of (view_row) viewL_nil_of) ?_
    simp (disch := omega) only [Try.ntmps101, Try.results101, go_sem, Nat.reduceLT, Nat.reduceLeDiff, Nat.reduceEqDiff, Nat.reduceAdd, Nat.reduceSub, Nat.reduceMul, reduceIte, ↓reduceIte, reduceCtorEq, Int.reduceToNat, Int.reduceLE, Int.reduceLT, Int.reduceNeg, Int.reduceSub, Int.reduceAdd, Int.reduceMul, rr_eq, rc]
    rfl

theorem Try.specBest_f {M : List (List Int)} {C : List Con} (hM : M.length ≤ 1048576) (hR : ∀ i, i < M.length → (mrow M i).length ≤ 1048576) (hC : C.length ≤ 1048576) (h : okB M C) : FCall Try.prog 30 [rr M, rc C]
    (fun r H => ∃ r0, r = .tup (r0 :: [Value.int .i64 (bs M C).least, .bool true].map .val) ∧ FlatRes M.length 1 (ints (bs M C).first) r0 H) := by
  have wr := Try.l20Run_ok hM hR hC h
  have hbl := (bs_best (C := C) h.1).ok (bs_ok h.1 h.2)
  rw [rr_eq, rc] at wr
  refine FCall.of_body Try.func30 rfl (by kernel_rfl) (by simp [Try.ntmps30]) ?_
  refine SW_of_vc Try.mixed _ _ _ (by kernel_rfl) ?_
  simp (disch := omega) only [Try.ntmps30, Try.results30, go_sem, Nat.reduceLT, Nat.reduceLeDiff, Nat.reduceEqDiff, Nat.reduceAdd, Nat.reduceSub, Nat.reduceMul, reduceIte, ↓reduceIte, reduceCtorEq, Int.reduceToNat, Int.reduceLE, Int.reduceLT, Int.reduceNeg, Int.reduceSub, Int.reduceAdd, Int.reduceMul, rr_eq, rc]
  refine wr.callX ?_
  rintro r H ⟨fb, rfl, mf, hlt⟩
  simp (disch := omega) only [Try.ntmps30, Try.results30, go_sem, Nat.reduceLT, Nat.reduceLeDiff, Nat.reduceEqDiff, Nat.reduceAdd, Nat.reduceSub, Nat.reduceMul, reduceIte, ↓reduceIte, reduceCtorEq, Int.reduceToNat, Int.reduceLE, Int.reduceLT, Int.reduceNeg, Int.reduceSub, Int.reduceAdd, Int.reduceMul, rr_eq, rc, hset_map, hpush_map]
  exact fin_tupU (us := [.int .i64 (bs M C).least, .bool true]) (by rw [ints_length]; omega) (ints_vals _) (by rw [hset_map, if_neg (by omega), hpush_map, if_neg (by omega), mf])
theorem Try.specBest_n {M : List (List Int)} {C : List Con} (hM : M.length ≤ 1048576) (hR : ∀ i, i < M.length → (mrow M i).length ≤ 1048576) (hC : C.length ≤ 1048576) (h : ¬ okB M C) : FCall Try.prog 30 [rr M, rc C]
    (fun r H => ∃ r0, r = .tup (r0 :: [Value.int .i64 0, .bool false].map .val) ∧ FlatRes 0 1 (ints []) r0 H) := by
  have wr := Try.l20Run_n hM hR hC h
  rw [rr_eq, rc] at wr
  refine FCall.of_body Try.func30 rfl (by kernel_rfl) (by simp [Try.ntmps30]) ?_
  refine SW_of_vc Try.mixed _ _ _ (by kernel_rfl) ?_
  simp (disch := omega) only [Try.ntmps30, Try.results30, go_sem, Nat.reduceLT, Nat.reduceLeDiff, Nat.reduceEqDiff, Nat.reduceAdd, Nat.reduceSub, Nat.reduceMul, reduceIte, ↓reduceIte, reduceCtorEq, Int.reduceToNat, Int.reduceLE, Int.reduceLT, Int.reduceNeg, Int.reduceSub, Int.reduceAdd, Int.reduceMul, rr_eq, rc]
  refine wr.callX ?_
  rintro r H rfl
  simp (disch := omega) only [Try.ntmps30, Try.results30, go_sem, Nat.reduceLT, Nat.reduceLeDiff, Nat.reduceEqDiff, Nat.reduceAdd, Nat.reduceSub, Nat.reduceMul, reduceIte, ↓reduceIte, reduceCtorEq, Int.reduceToNat, Int.reduceLE, Int.reduceLT, Int.reduceNeg, Int.reduceSub, Int.reduceAdd, Int.reduceMul, rr_eq, rc, zS, hset_map, hpush_map]
  exact fin_tupU (us := [.int .i64 0, .bool false]) rfl (ints_vals _) (by simp (disch := omega) only [hpush_map, hset_map, hset_nb, hpush_nb, if_pos, ↓reduceIte]; rfl)

open Classical in
noncomputable def bCost (M : List (List Int)) (C : List Con) : Int := if okB M C then (bs M C).least else -1
open Classical in
noncomputable def bCount (M : List (List Int)) (C : List Con) : Int := if okB M C then ((bs M C).count : Int) else 0
theorem bCost_t {M : List (List Int)} {C : List Con} (h : okB M C) : bCost M C = (bs M C).least := if_pos h
theorem bCost_f {M : List (List Int)} {C : List Con} (h : ¬ okB M C) : bCost M C = -1 := if_neg h
theorem bCount_t {M : List (List Int)} {C : List Con} (h : okB M C) : bCount M C = ((bs M C).count : Int) := if_pos h
theorem bCount_f {M : List (List Int)} {C : List Con} (h : ¬ okB M C) : bCount M C = 0 := if_neg h

theorem Try.specBestCost_ok {M : List (List Int)} {C : List Con} (hM : M.length ≤ 1048576) (hR : ∀ i, i < M.length → (mrow M i).length ≤ 1048576) (hC : C.length ≤ 1048576) : PCall Try.prog 32 [rr M, rc C] (.val (.int .i64 (bCost M C))) := by
  refine FCall.pcall (R := fun r _ => r = .val (.int .i64 (bCost M C))) ?_ 0 (by rintro r H rfl; exact view_int)
  refine FCall.of_body Try.func32 rfl (by kernel_rfl) (by simp [Try.ntmps32]) ?_
  refine SW_of_vc Try.mixed _ _ _ (by kernel_rfl) ?_
  by_cases h : okB M C
  · have wr := Try.l20Run_ok hM hR hC h
    rw [rr_eq, rc] at wr
    rw [bCost_t h]
    simp (disch := omega) only [Try.ntmps32, Try.results32, go_sem, Nat.reduceLT, Nat.reduceLeDiff, Nat.reduceEqDiff, Nat.reduceAdd, Nat.reduceSub, Nat.reduceMul, reduceIte, ↓reduceIte, reduceCtorEq, Int.reduceToNat, Int.reduceLE, Int.reduceLT, Int.reduceNeg, Int.reduceSub, Int.reduceAdd, Int.reduceMul, rr_eq, rc]
    refine wr.callX ?_
    rintro r H ⟨fb, rfl, mf, hlt⟩
    simp (disch := omega) only [Try.ntmps32, Try.results32, go_sem, Nat.reduceLT, Nat.reduceLeDiff, Nat.reduceEqDiff, Nat.reduceAdd, Nat.reduceSub, Nat.reduceMul, reduceIte, ↓reduceIte, reduceCtorEq, Int.reduceToNat, Int.reduceLE, Int.reduceLT, Int.reduceNeg, Int.reduceSub, Int.reduceAdd, Int.reduceMul, rr_eq, rc, hset_map, hpush_map]
    exact Fin.val rfl
  · have wr := Try.l20Run_n hM hR hC h
    rw [rr_eq, rc] at wr
    rw [bCost_f h]
    simp (disch := omega) only [Try.ntmps32, Try.results32, go_sem, Nat.reduceLT, Nat.reduceLeDiff, Nat.reduceEqDiff, Nat.reduceAdd, Nat.reduceSub, Nat.reduceMul, reduceIte, ↓reduceIte, reduceCtorEq, Int.reduceToNat, Int.reduceLE, Int.reduceLT, Int.reduceNeg, Int.reduceSub, Int.reduceAdd, Int.reduceMul, rr_eq, rc]
    refine wr.callX ?_
    rintro r H rfl
    simp (disch := omega) only [Try.ntmps32, Try.results32, go_sem, Nat.reduceLT, Nat.reduceLeDiff, Nat.reduceEqDiff, Nat.reduceAdd, Nat.reduceSub, Nat.reduceMul, reduceIte, ↓reduceIte, reduceCtorEq, Int.reduceToNat, Int.reduceLE, Int.reduceLT, Int.reduceNeg, Int.reduceSub, Int.reduceAdd, Int.reduceMul, rr_eq, rc, zS, hset_map, hpush_map]
    exact Fin.val rfl
theorem Try.specCount_ok {M : List (List Int)} {C : List Con} (hM : M.length ≤ 1048576) (hR : ∀ i, i < M.length → (mrow M i).length ≤ 1048576) (hC : C.length ≤ 1048576) : PCall Try.prog 34 [rr M, rc C] (.val (.int .i64 (bCount M C))) := by
  refine FCall.pcall (R := fun r _ => r = .val (.int .i64 (bCount M C))) ?_ 0 (by rintro r H rfl; exact view_int)
  refine FCall.of_body Try.func34 rfl (by kernel_rfl) (by simp [Try.ntmps34]) ?_
  refine SW_of_vc Try.mixed _ _ _ (by kernel_rfl) ?_
  by_cases h : okB M C
  · have wr := Try.l20Run_ok hM hR hC h
    rw [rr_eq, rc] at wr
    rw [bCount_t h]
    simp (disch := omega) only [Try.ntmps34, Try.results34, go_sem, Nat.reduceLT, Nat.reduceLeDiff, Nat.reduceEqDiff, Nat.reduceAdd, Nat.reduceSub, Nat.reduceMul, reduceIte, ↓reduceIte, reduceCtorEq, Int.reduceToNat, Int.reduceLE, Int.reduceLT, Int.reduceNeg, Int.reduceSub, Int.reduceAdd, Int.reduceMul, rr_eq, rc]
    refine wr.callX ?_
    rintro r H ⟨fb, rfl, mf, hlt⟩
    simp (disch := omega) only [Try.ntmps34, Try.results34, go_sem, Nat.reduceLT, Nat.reduceLeDiff, Nat.reduceEqDiff, Nat.reduceAdd, Nat.reduceSub, Nat.reduceMul, reduceIte, ↓reduceIte, reduceCtorEq, Int.reduceToNat, Int.reduceLE, Int.reduceLT, Int.reduceNeg, Int.reduceSub, Int.reduceAdd, Int.reduceMul, rr_eq, rc, hset_map, hpush_map]
    exact Fin.val rfl
  · have wr := Try.l20Run_n hM hR hC h
    rw [rr_eq, rc] at wr
    rw [bCount_f h]
    simp (disch := omega) only [Try.ntmps34, Try.results34, go_sem, Nat.reduceLT, Nat.reduceLeDiff, Nat.reduceEqDiff, Nat.reduceAdd, Nat.reduceSub, Nat.reduceMul, reduceIte, ↓reduceIte, reduceCtorEq, Int.reduceToNat, Int.reduceLE, Int.reduceLT, Int.reduceNeg, Int.reduceSub, Int.reduceAdd, Int.reduceMul, rr_eq, rc]
    refine wr.callX ?_
    rintro r H rfl
    simp (disch := omega) only [Try.ntmps34, Try.results34, go_sem, Nat.reduceLT, Nat.reduceLeDiff, Nat.reduceEqDiff, Nat.reduceAdd, Nat.reduceSub, Nat.reduceMul, reduceIte, ↓reduceIte, reduceCtorEq, Int.reduceToNat, Int.reduceLE, Int.reduceLT, Int.reduceNeg, Int.reduceSub, Int.reduceAdd, Int.reduceMul, rr_eq, rc, zS, hset_map, hpush_map]
    exact Fin.val rfl

/-! ### Of the program -/
theorem Try.canCluster_t {M : List (List Int)} {C : List Con} (hM : M.length ≤ 1048576) (hR : ∀ i, i < M.length → (mrow M i).length ≤ 1048576) (hC : C.length ≤ 1048576) (h : okB M C) : PCall Try.prog 102 [rr M, rc C] (.val (.bool true)) := by
  refine FCall.pcall (R := fun r _ => r = .val (.bool true)) ?_ 0 (by rintro r H rfl; exact view_bool)
  have w1 := Try.implIsWM_ok M hM hR
  have w2 := Try.implConsistent_ok M.length C hC
  rw [isWM_t h.1] at w1
  rw [h.2] at w2
  refine FCall.of_body Try.func102 rfl (by kernel_rfl) (by simp [Try.ntmps102]) ?_
  refine SW_of_vc Try.mixed _ _ _ (by kernel_rfl) ?_
  simp (disch := omega) only [Try.ntmps102, Try.results102, go_sem, Nat.reduceLT, Nat.reduceLeDiff, Nat.reduceEqDiff, Nat.reduceAdd, Nat.reduceSub, Nat.reduceMul, reduceIte, ↓reduceIte, reduceCtorEq, Int.reduceToNat, Int.reduceLE, Int.reduceLT, Int.reduceNeg, Int.reduceSub, Int.reduceAdd, Int.reduceMul, rr_eq, rc]
  refine w1.callV 0 (viewL_cons_of (view_row) viewL_nil_of) ?_
  simp (disch := omega) only [Try.ntmps102, Try.results102, go_sem, Nat.reduceLT, Nat.reduceLeDiff, Nat.reduceEqDiff, Nat.reduceAdd, Nat.reduceSub, Nat.reduceMul, reduceIte, ↓reduceIte, reduceCtorEq, Int.reduceToNat, Int.reduceLE, Int.reduceLT, Int.reduceNeg, Int.reduceSub, Int.reduceAdd, Int.reduceMul, rr_eq, rc]
  refine w2.callV 0 (viewL_cons_of (view_int) (viewL_cons_of (view_row) viewL_nil_of)) ?_
  simp (disch := omega) only [Try.ntmps102, Try.results102, go_sem, Nat.reduceLT, Nat.reduceLeDiff, Nat.reduceEqDiff, Nat.reduceAdd, Nat.reduceSub, Nat.reduceMul, reduceIte, ↓reduceIte, reduceCtorEq, Int.reduceToNat, Int.reduceLE, Int.reduceLT, Int.reduceNeg, Int.reduceSub, Int.reduceAdd, Int.reduceMul, rr_eq, rc]
  exact Fin.val rfl
theorem Try.canCluster_f {M : List (List Int)} {C : List Con} (hM : M.length ≤ 1048576) (hR : ∀ i, i < M.length → (mrow M i).length ≤ 1048576) (hC : C.length ≤ 1048576) (h : ¬ okB M C) : PCall Try.prog 102 [rr M, rc C] (.val (.bool false)) := by
  refine FCall.pcall (R := fun r _ => r = .val (.bool false)) ?_ 0 (by rintro r H rfl; exact view_bool)
  have w1 := Try.implIsWM_ok M hM hR
  have w2 := Try.implConsistent_ok M.length C hC
  refine FCall.of_body Try.func102 rfl (by kernel_rfl) (by simp [Try.ntmps102]) ?_
  refine SW_of_vc Try.mixed _ _ _ (by kernel_rfl) ?_
  by_cases hw : WM M
  · have hcs : isCst M.length C = false := by
      rcases Bool.eq_false_or_eq_true (isCst M.length C) with g | g
      · exact absurd ⟨hw, g⟩ h
      · exact g
    rw [isWM_t hw] at w1
    rw [hcs] at w2
    simp (disch := omega) only [Try.ntmps102, Try.results102, go_sem, Nat.reduceLT, Nat.reduceLeDiff, Nat.reduceEqDiff, Nat.reduceAdd, Nat.reduceSub, Nat.reduceMul, reduceIte, ↓reduceIte, reduceCtorEq, Int.reduceToNat, Int.reduceLE, Int.reduceLT, Int.reduceNeg, Int.reduceSub, Int.reduceAdd, Int.reduceMul, rr_eq, rc]
    refine w1.callV 0 (viewL_cons_of (view_row) viewL_nil_of) ?_
    simp (disch := omega) only [Try.ntmps102, Try.results102, go_sem, Nat.reduceLT, Nat.reduceLeDiff, Nat.reduceEqDiff, Nat.reduceAdd, Nat.reduceSub, Nat.reduceMul, reduceIte, ↓reduceIte, reduceCtorEq, Int.reduceToNat, Int.reduceLE, Int.reduceLT, Int.reduceNeg, Int.reduceSub, Int.reduceAdd, Int.reduceMul, rr_eq, rc]
    refine w2.callV 0 (viewL_cons_of (view_int) (viewL_cons_of (view_row) viewL_nil_of)) ?_
    simp (disch := omega) only [Try.ntmps102, Try.results102, go_sem, Nat.reduceLT, Nat.reduceLeDiff, Nat.reduceEqDiff, Nat.reduceAdd, Nat.reduceSub, Nat.reduceMul, reduceIte, ↓reduceIte, reduceCtorEq, Int.reduceToNat, Int.reduceLE, Int.reduceLT, Int.reduceNeg, Int.reduceSub, Int.reduceAdd, Int.reduceMul, rr_eq, rc]
    exact Fin.val rfl
  · rw [isWM_f hw] at w1
    simp (disch := omega) only [Try.ntmps102, Try.results102, go_sem, Nat.reduceLT, Nat.reduceLeDiff, Nat.reduceEqDiff, Nat.reduceAdd, Nat.reduceSub, Nat.reduceMul, reduceIte, ↓reduceIte, reduceCtorEq, Int.reduceToNat, Int.reduceLE, Int.reduceLT, Int.reduceNeg, Int.reduceSub, Int.reduceAdd, Int.reduceMul, rr_eq, rc]
    refine w1.callV 0 (viewL_cons_of (view_row) viewL_nil_of) ?_
    simp (disch := omega) only [Try.ntmps102, Try.results102, go_sem, Nat.reduceLT, Nat.reduceLeDiff, Nat.reduceEqDiff, Nat.reduceAdd, Nat.reduceSub, Nat.reduceMul, reduceIte, ↓reduceIte, reduceCtorEq, Int.reduceToNat, Int.reduceLE, Int.reduceLT, Int.reduceNeg, Int.reduceSub, Int.reduceAdd, Int.reduceMul, rr_eq, rc]
    exact Fin.val rfl
theorem Try.implBest_f {M : List (List Int)} {C : List Con} (hM : M.length ≤ 1048576) (hR : ∀ i, i < M.length → (mrow M i).length ≤ 1048576) (hC : C.length ≤ 1048576) (h : okB M C) : FCall Try.prog 31 [rr M, rc C]
    (fun r H => ∃ r0, r = .tup (r0 :: [Value.int .i64 (bs M C).least, .bool true].map .val) ∧ FlatRes M.length 1 (ints (bs M C).first) r0 H) := by
  have w1 := Try.canCluster_t hM hR hC h
  have w2 := (Try.best_f h.1 hC h.2).oneU
  have hbl := (bs_best (C := C) h.1).ok (bs_ok h.1 h.2)
  refine FCall.of_body Try.func31 rfl (by kernel_rfl) (by simp [Try.ntmps31]) ?_
  refine SW_of_vc Try.mixed _ _ _ (by kernel_rfl) ?_
  simp (disch := omega) only [Try.ntmps31, Try.results31, go_sem, Nat.reduceLT, Nat.reduceLeDiff, Nat.reduceEqDiff, Nat.reduceAdd, Nat.reduceSub, Nat.reduceMul, reduceIte, ↓reduceIte, reduceCtorEq, Int.reduceToNat, Int.reduceLE, Int.reduceLT, Int.reduceNeg, Int.reduceSub, Int.reduceAdd, Int.reduceMul, rr_eq, rc]
  refine w1.callV 0 (viewL_cons_of (view_row) (viewL_cons_of (view_row) viewL_nil_of)) ?_
  simp (disch := omega) only [Try.ntmps31, Try.results31, go_sem, Nat.reduceLT, Nat.reduceLeDiff, Nat.reduceEqDiff, Nat.reduceAdd, Nat.reduceSub, Nat.reduceMul, reduceIte, ↓reduceIte, reduceCtorEq, Int.reduceToNat, Int.reduceLE, Int.reduceLT, Int.reduceNeg, Int.reduceSub, Int.reduceAdd, Int.reduceMul, rr_eq, rc]
  refine w2.callOneU (ints_vals _) 0 (viewL_cons_of (view_row) (viewL_cons_of (view_row) viewL_nil_of)) ?_
  simp (disch := omega) only [Try.ntmps31, Try.results31, go_sem, Nat.reduceLT, Nat.reduceLeDiff, Nat.reduceEqDiff, Nat.reduceAdd, Nat.reduceSub, Nat.reduceMul, reduceIte, ↓reduceIte, reduceCtorEq, Int.reduceToNat, Int.reduceLE, Int.reduceLT, Int.reduceNeg, Int.reduceSub, Int.reduceAdd, Int.reduceMul, rr_eq, rc]
  exact fin_tupU (us := [.int .i64 (bs M C).least, .bool true]) (by rw [ints_length]; omega) (ints_vals _) (by first | rfl | (simp (disch := omega) only [hx_map, hp_map, xmap_blk, hmap_cons, xmap_skipI, xmap_nil, if_pos, if_neg, ↓reduceIte]; try rfl))
theorem Try.implBest_n {M : List (List Int)} {C : List Con} (hM : M.length ≤ 1048576) (hR : ∀ i, i < M.length → (mrow M i).length ≤ 1048576) (hC : C.length ≤ 1048576) (h : ¬ okB M C) : FCall Try.prog 31 [rr M, rc C] (fun r _ => r = .tup ([Value.slice none 0 0, .int .i64 0, .bool false].map .val)) := by
  have w1 := Try.canCluster_f hM hR hC h
  refine FCall.of_body Try.func31 rfl (by kernel_rfl) (by simp [Try.ntmps31]) ?_
  refine SW_of_vc Try.mixed _ _ _ (by kernel_rfl) ?_
  simp (disch := omega) only [Try.ntmps31, Try.results31, go_sem, Nat.reduceLT, Nat.reduceLeDiff, Nat.reduceEqDiff, Nat.reduceAdd, Nat.reduceSub, Nat.reduceMul, reduceIte, ↓reduceIte, reduceCtorEq, Int.reduceToNat, Int.reduceLE, Int.reduceLT, Int.reduceNeg, Int.reduceSub, Int.reduceAdd, Int.reduceMul, rr_eq, rc]
  refine w1.callV 0 (viewL_cons_of (view_row) (viewL_cons_of (view_row) viewL_nil_of)) ?_
  simp (disch := omega) only [Try.ntmps31, Try.results31, go_sem, Nat.reduceLT, Nat.reduceLeDiff, Nat.reduceEqDiff, Nat.reduceAdd, Nat.reduceSub, Nat.reduceMul, reduceIte, ↓reduceIte, reduceCtorEq, Int.reduceToNat, Int.reduceLE, Int.reduceLT, Int.reduceNeg, Int.reduceSub, Int.reduceAdd, Int.reduceMul, rr_eq, rc]
  exact fin_tupV (us := [.slice none 0 0, .int .i64 0, .bool false]) rfl
theorem Try.implBestCost_ok {M : List (List Int)} {C : List Con} (hM : M.length ≤ 1048576) (hR : ∀ i, i < M.length → (mrow M i).length ≤ 1048576) (hC : C.length ≤ 1048576) : PCall Try.prog 33 [rr M, rc C] (.val (.int .i64 (bCost M C))) := by
  refine FCall.pcall (R := fun r _ => r = .val (.int .i64 (bCost M C))) ?_ 0 (by rintro r H rfl; exact view_int)
  refine FCall.of_body Try.func33 rfl (by kernel_rfl) (by simp [Try.ntmps33]) ?_
  refine SW_of_vc Try.mixed _ _ _ (by kernel_rfl) ?_
  by_cases h : okB M C
  · have w1 := Try.canCluster_t hM hR hC h
    have w2 := (Try.best_f h.1 hC h.2).oneU
    rw [bCost_t h]
    simp (disch := omega) only [Try.ntmps33, Try.results33, go_sem, Nat.reduceLT, Nat.reduceLeDiff, Nat.reduceEqDiff, Nat.reduceAdd, Nat.reduceSub, Nat.reduceMul, reduceIte, ↓reduceIte, reduceCtorEq, Int.reduceToNat, Int.reduceLE, Int.reduceLT, Int.reduceNeg, Int.reduceSub, Int.reduceAdd, Int.reduceMul, rr_eq, rc]
    refine w1.callV 0 (viewL_cons_of (view_row) (viewL_cons_of (view_row) viewL_nil_of)) ?_
    simp (disch := omega) only [Try.ntmps33, Try.results33, go_sem, Nat.reduceLT, Nat.reduceLeDiff, Nat.reduceEqDiff, Nat.reduceAdd, Nat.reduceSub, Nat.reduceMul, reduceIte, ↓reduceIte, reduceCtorEq, Int.reduceToNat, Int.reduceLE, Int.reduceLT, Int.reduceNeg, Int.reduceSub, Int.reduceAdd, Int.reduceMul, rr_eq, rc]
    refine w2.callOneU (ints_vals _) 0 (viewL_cons_of (view_row) (viewL_cons_of (view_row) viewL_nil_of)) ?_
    simp (disch := omega) only [Try.ntmps33, Try.results33, go_sem, Nat.reduceLT, Nat.reduceLeDiff, Nat.reduceEqDiff, Nat.reduceAdd, Nat.reduceSub, Nat.reduceMul, reduceIte, ↓reduceIte, reduceCtorEq, Int.reduceToNat, Int.reduceLE, Int.reduceLT, Int.reduceNeg, Int.reduceSub, Int.reduceAdd, Int.reduceMul, rr_eq, rc]
    exact Fin.val rfl
  · have w1 := Try.canCluster_f hM hR hC h
    rw [bCost_f h]
    simp (disch := omega) only [Try.ntmps33, Try.results33, go_sem, Nat.reduceLT, Nat.reduceLeDiff, Nat.reduceEqDiff, Nat.reduceAdd, Nat.reduceSub, Nat.reduceMul, reduceIte, ↓reduceIte, reduceCtorEq, Int.reduceToNat, Int.reduceLE, Int.reduceLT, Int.reduceNeg, Int.reduceSub, Int.reduceAdd, Int.reduceMul, rr_eq, rc]
    refine w1.callV 0 (viewL_cons_of (view_row) (viewL_cons_of (view_row) viewL_nil_of)) ?_
    simp (disch := omega) only [Try.ntmps33, Try.results33, go_sem, Nat.reduceLT, Nat.reduceLeDiff, Nat.reduceEqDiff, Nat.reduceAdd, Nat.reduceSub, Nat.reduceMul, reduceIte, ↓reduceIte, reduceCtorEq, Int.reduceToNat, Int.reduceLE, Int.reduceLT, Int.reduceNeg, Int.reduceSub, Int.reduceAdd, Int.reduceMul, rr_eq, rc]
    exact Fin.val rfl
theorem Try.implCount_ok {M : List (List Int)} {C : List Con} (hM : M.length ≤ 1048576) (hR : ∀ i, i < M.length → (mrow M i).length ≤ 1048576) (hC : C.length ≤ 1048576) : PCall Try.prog 35 [rr M, rc C] (.val (.int .i64 (bCount M C))) := by
  refine FCall.pcall (R := fun r _ => r = .val (.int .i64 (bCount M C))) ?_ 0 (by rintro r H rfl; exact view_int)
  refine FCall.of_body Try.func35 rfl (by kernel_rfl) (by simp [Try.ntmps35]) ?_
  refine SW_of_vc Try.mixed _ _ _ (by kernel_rfl) ?_
  by_cases h : okB M C
  · have w1 := Try.canCluster_t hM hR hC h
    have w2 := (Try.best_f h.1 hC h.2).oneU
    rw [bCount_t h]
    simp (disch := omega) only [Try.ntmps35, Try.results35, go_sem, Nat.reduceLT, Nat.reduceLeDiff, Nat.reduceEqDiff, Nat.reduceAdd, Nat.reduceSub, Nat.reduceMul, reduceIte, ↓reduceIte, reduceCtorEq, Int.reduceToNat, Int.reduceLE, Int.reduceLT, Int.reduceNeg, Int.reduceSub, Int.reduceAdd, Int.reduceMul, rr_eq, rc]
    refine w1.callV 0 (viewL_cons_of (view_row) (viewL_cons_of (view_row) viewL_nil_of)) ?_
    simp (disch := omega) only [Try.ntmps35, Try.results35, go_sem, Nat.reduceLT, Nat.reduceLeDiff, Nat.reduceEqDiff, Nat.reduceAdd, Nat.reduceSub, Nat.reduceMul, reduceIte, ↓reduceIte, reduceCtorEq, Int.reduceToNat, Int.reduceLE, Int.reduceLT, Int.reduceNeg, Int.reduceSub, Int.reduceAdd, Int.reduceMul, rr_eq, rc]
    refine w2.callOneU (ints_vals _) 0 (viewL_cons_of (view_row) (viewL_cons_of (view_row) viewL_nil_of)) ?_
    simp (disch := omega) only [Try.ntmps35, Try.results35, go_sem, Nat.reduceLT, Nat.reduceLeDiff, Nat.reduceEqDiff, Nat.reduceAdd, Nat.reduceSub, Nat.reduceMul, reduceIte, ↓reduceIte, reduceCtorEq, Int.reduceToNat, Int.reduceLE, Int.reduceLT, Int.reduceNeg, Int.reduceSub, Int.reduceAdd, Int.reduceMul, rr_eq, rc]
    exact Fin.val rfl
  · have w1 := Try.canCluster_f hM hR hC h
    rw [bCount_f h]
    simp (disch := omega) only [Try.ntmps35, Try.results35, go_sem, Nat.reduceLT, Nat.reduceLeDiff, Nat.reduceEqDiff, Nat.reduceAdd, Nat.reduceSub, Nat.reduceMul, reduceIte, ↓reduceIte, reduceCtorEq, Int.reduceToNat, Int.reduceLE, Int.reduceLT, Int.reduceNeg, Int.reduceSub, Int.reduceAdd, Int.reduceMul, rr_eq, rc]
    refine w1.callV 0 (viewL_cons_of (view_row) (viewL_cons_of (view_row) viewL_nil_of)) ?_
    simp (disch := omega) only [Try.ntmps35, Try.results35, go_sem, Nat.reduceLT, Nat.reduceLeDiff, Nat.reduceEqDiff, Nat.reduceAdd, Nat.reduceSub, Nat.reduceMul, reduceIte, ↓reduceIte, reduceCtorEq, Int.reduceToNat, Int.reduceLE, Int.reduceLT, Int.reduceNeg, Int.reduceSub, Int.reduceAdd, Int.reduceMul, rr_eq, rc]
    exact Fin.val rfl
end Go.Sh

/-
  The best partition, optimal partitions, the cost of constraints: contracts of both.
-/
namespace Go.Sh
set_option linter.unusedSimpArgs false
set_option linter.unusedVariables false
open Go Go.Proofs

open Classical in
noncomputable def bpt (M : List (List Int)) (C : List Con) : List Int × Int × Bool := if okB M C then ((bs M C).first, (bs M C).least, true) else ([], 0, false)
theorem bpt_t {M : List (List Int)} {C : List Con} (h : okB M C) : bpt M C = ((bs M C).first, (bs M C).least, true) := if_pos h
theorem bpt_f {M : List (List Int)} {C : List Con} (h : ¬ okB M C) : bpt M C = ([], 0, false) := if_neg h
theorem bpt_len {M : List (List Int)} {C : List Con} (h : okB M C) : (bpt M C).1.length = M.length := by
  rw [bpt_t h]; exact ((bs_best (C := C) h.1).ok (bs_ok h.1 h.2)).1
theorem bCost_b (M : List (List Int)) (C : List Con) : -1 ≤ bCost M C ∧ bCost M C ≤ 64000 := by
  by_cases h : okB M C
  · rw [bCost_t h]
    have hb := (bs_best (C := C) h.1).ok (bs_ok h.1 h.2)
    have hc := cc_b (L := (bs M C).first) h.1 M.length (Nat.le_refl _)
    have := h.1.1
    rw [hb.2.2.2.1] at hc
    omega
  · rw [bCost_f h]; omega
theorem view_tupU {L : List Int} {n : Nat} {u : Int} {b : Bool} {r r0 : SV} {H : Heap} (h : r = .tup (r0 :: [Value.int .i64 u, .bool b].map .val)) (hf : FlatRes n 1 (ints L) r0 H) : view H 3 r = some (.tup [ri L, .val (.int .i64 u), .val (.bool b)]) := by
  subst h
  have h1 : viewL H 2 [r0, .val (.int .i64 u), .val (.bool b)] = some [ri L, .val (.int .i64 u), .val (.bool b)] := viewL_cons_of (flat_view hf) (viewL_cons_of view_int (viewL_cons_of view_bool viewL_nil_of))
  simp only [List.map_cons, List.map_nil, view, h1]
theorem Try.specBest_ok (M : List (List Int)) (C : List Con) (hM : M.length ≤ 1048576) (hR : ∀ i, i < M.length → (mrow M i).length ≤ 1048576) (hC : C.length ≤ 1048576) : PCall Try.prog 30 [rr M, rc C] (.tup [ri (bpt M C).1, .val (.int .i64 (bpt M C).2.1), .val (.bool (bpt M C).2.2)]) := by
  by_cases h : okB M C
  · rw [bpt_t h]; exact (Try.specBest_f hM hR hC h).pcall 3 (fun r H ⟨r0, h1, h2⟩ => view_tupU h1 h2)
  · rw [bpt_f h]; exact (Try.specBest_n hM hR hC h).pcall 3 (fun r H ⟨r0, h1, h2⟩ => view_tupU h1 h2)
theorem Try.implBest_nn (M : List (List Int)) (C : List Con) (hM : M.length ≤ 1048576) (hR : ∀ i, i < M.length → (mrow M i).length ≤ 1048576) (hC : C.length ≤ 1048576) (h : ¬ okB M C) : FCall Try.prog 31 [rr M, rc C] (fun r _ => r = .tup ([Value.slice none 0 0, .int .i64 0, .bool false].map .val)) := Try.implBest_n hM hR hC h
theorem Try.implBest_ok (M : List (List Int)) (C : List Con) (hM : M.length ≤ 1048576) (hR : ∀ i, i < M.length → (mrow M i).length ≤ 1048576) (hC : C.length ≤ 1048576) : PCall Try.prog 31 [rr M, rc C] (.tup [ri (bpt M C).1, .val (.int .i64 (bpt M C).2.1), .val (.bool (bpt M C).2.2)]) := by
  by_cases h : okB M C
  · rw [bpt_t h]; exact (Try.implBest_f hM hR hC h).pcall 3 (fun r H ⟨r0, h1, h2⟩ => view_tupU h1 h2)
  · rw [bpt_f h]
    refine (Try.implBest_n hM hR hC h).pcall 3 (by
      rintro r H rfl
      have h1 : viewL H 2 [.val (.slice none 0 0), .val (.int .i64 0), .val (.bool false)] = some [ri [], .val (.int .i64 0), .val (.bool false)] := viewL_cons_of view_nil (viewL_cons_of view_int (viewL_cons_of view_bool viewL_nil_of))
      simp only [List.map_cons, List.map_nil, view, h1])
theorem Try.implBest_o (M : List (List Int)) (C : List Con) (hM : M.length ≤ 1048576) (hR : ∀ i, i < M.length → (mrow M i).length ≤ 1048576) (hC : C.length ≤ 1048576) (h : okB M C) :
    FCall Try.prog 31 [rr M, rc C] (fun r H => r = .tup (.own 0 0 M.length M.length 1 false :: [Value.int .i64 (bpt M C).2.1, .bool (bpt M C).2.2].map .val) ∧ H = Heap.one ⟨ints (bpt M C).1, false⟩) := by
  rw [bpt_t h]
  exact (Try.implBest_f hM hR hC h).oneU

/-! ### Optimal partitions -/
open Classical in
noncomputable def isOpt (M : List (List Int)) (C : List Con) (L : List Int) : Bool := decide (okB M C) && ((isPart L && C.all (kp L)) && decide (pcost M L = bCost M C))
theorem isOpt_f {M : List (List Int)} {C : List Con} {L : List Int} (h : ¬ okB M C) : isOpt M C L = false := by simp [isOpt, h]
theorem isOpt_t {M : List (List Int)} {C : List Con} {L : List Int} (h : okB M C) : isOpt M C L = ((isPart L && C.all (kp L)) && decide (pcost M L = (bs M C).least)) := by simp [isOpt, h, bCost_t h]
theorem Try.specOpt_ok (M : List (List Int)) (C : List Con) (L : List Int) (hM : M.length ≤ 1048576) (hR : ∀ i, i < M.length → (mrow M i).length ≤ 1048576) (hC : C.length ≤ 1048576) (hL : L.length ≤ 1048576) : PCall Try.prog 36 [rr M, rc C, ri L] (.val (.bool (isOpt M C L))) := by
  refine FCall.pcall (R := fun r _ => r = .val (.bool (isOpt M C L))) ?_ 0 (by rintro r H rfl; exact view_bool)
  have wk := Try.specKeepsConstraints_ok L C hL hC
  have wp := Try.specPartitionCost_ok M L hM hR hL
  refine FCall.of_body Try.func36 rfl (by kernel_rfl) (by simp [Try.ntmps36]) ?_
  refine SW_of_vc Try.mixed _ _ _ (by kernel_rfl) ?_
  by_cases h : okB M C
  · have wr := Try.l20Run_ok hM hR hC h
    rw [rr_eq, rc] at wr
    rw [isOpt_t h]
    simp (disch := omega) only [Try.ntmps36, Try.results36, go_sem, Nat.reduceLT, Nat.reduceLeDiff, Nat.reduceEqDiff, Nat.reduceAdd, Nat.reduceSub, Nat.reduceMul, reduceIte, ↓reduceIte, reduceCtorEq, Int.reduceToNat, Int.reduceLE, Int.reduceLT, Int.reduceNeg, Int.reduceSub, Int.reduceAdd, Int.reduceMul, rr_eq, rc]
    refine wr.callX ?_
    rintro r H ⟨fb, rfl, mf, hlt⟩
    generalize (bs M C).least = z at *
    rcases Bool.eq_false_or_eq_true (isPart L && C.all (kp L)) with hk | hk
    · rw [hk] at wk ⊢
      generalize pcost M L = c at *
      by_cases hz : c = z
      · simp (disch := omega) only [Try.ntmps36, Try.results36, go_sem, Nat.reduceLT, Nat.reduceLeDiff, Nat.reduceEqDiff, Nat.reduceAdd, Nat.reduceSub, Nat.reduceMul, reduceIte, ↓reduceIte, reduceCtorEq, Int.reduceToNat, Int.reduceLE, Int.reduceLT, Int.reduceNeg, Int.reduceSub, Int.reduceAdd, Int.reduceMul, rr_eq, rc, hset_map, hpush_map]
        refine wk.callDV 0 (viewL_cons_of (view_row) (viewL_cons_of (view_row) viewL_nil_of)) ?_
        simp (disch := omega) only [Try.ntmps36, Try.results36, go_sem, Nat.reduceLT, Nat.reduceLeDiff, Nat.reduceEqDiff, Nat.reduceAdd, Nat.reduceSub, Nat.reduceMul, reduceIte, ↓reduceIte, reduceCtorEq, Int.reduceToNat, Int.reduceLE, Int.reduceLT, Int.reduceNeg, Int.reduceSub, Int.reduceAdd, Int.reduceMul, rr_eq, rc, hset_map, hpush_map]
        refine wp.callDV 0 (viewL_cons_of (view_row) (viewL_cons_of (view_row) viewL_nil_of)) ?_
        simp (disch := omega) only [Try.ntmps36, Try.results36, go_sem, Nat.reduceLT, Nat.reduceLeDiff, Nat.reduceEqDiff, Nat.reduceAdd, Nat.reduceSub, Nat.reduceMul, reduceIte, ↓reduceIte, reduceCtorEq, Int.reduceToNat, Int.reduceLE, Int.reduceLT, Int.reduceNeg, Int.reduceSub, Int.reduceAdd, Int.reduceMul, rr_eq, rc, hset_map, hpush_map]
        exact Fin.val (by simp [hz])
      · simp (disch := omega) only [Try.ntmps36, Try.results36, go_sem, Nat.reduceLT, Nat.reduceLeDiff, Nat.reduceEqDiff, Nat.reduceAdd, Nat.reduceSub, Nat.reduceMul, reduceIte, ↓reduceIte, reduceCtorEq, Int.reduceToNat, Int.reduceLE, Int.reduceLT, Int.reduceNeg, Int.reduceSub, Int.reduceAdd, Int.reduceMul, rr_eq, rc, hset_map, hpush_map]
        refine wk.callDV 0 (viewL_cons_of (view_row) (viewL_cons_of (view_row) viewL_nil_of)) ?_
        simp (disch := omega) only [Try.ntmps36, Try.results36, go_sem, Nat.reduceLT, Nat.reduceLeDiff, Nat.reduceEqDiff, Nat.reduceAdd, Nat.reduceSub, Nat.reduceMul, reduceIte, ↓reduceIte, reduceCtorEq, Int.reduceToNat, Int.reduceLE, Int.reduceLT, Int.reduceNeg, Int.reduceSub, Int.reduceAdd, Int.reduceMul, rr_eq, rc, hset_map, hpush_map]
        refine wp.callDV 0 (viewL_cons_of (view_row) (viewL_cons_of (view_row) viewL_nil_of)) ?_
        simp (disch := omega) only [Try.ntmps36, Try.results36, go_sem, Nat.reduceLT, Nat.reduceLeDiff, Nat.reduceEqDiff, Nat.reduceAdd, Nat.reduceSub, Nat.reduceMul, reduceIte, ↓reduceIte, reduceCtorEq, Int.reduceToNat, Int.reduceLE, Int.reduceLT, Int.reduceNeg, Int.reduceSub, Int.reduceAdd, Int.reduceMul, rr_eq, rc, hset_map, hpush_map]
        exact Fin.val (by simp [hz])
    · rw [hk] at wk ⊢
      simp (disch := omega) only [Try.ntmps36, Try.results36, go_sem, Nat.reduceLT, Nat.reduceLeDiff, Nat.reduceEqDiff, Nat.reduceAdd, Nat.reduceSub, Nat.reduceMul, reduceIte, ↓reduceIte, reduceCtorEq, Int.reduceToNat, Int.reduceLE, Int.reduceLT, Int.reduceNeg, Int.reduceSub, Int.reduceAdd, Int.reduceMul, rr_eq, rc, hset_map, hpush_map]
      refine wk.callDV 0 (viewL_cons_of (view_row) (viewL_cons_of (view_row) viewL_nil_of)) ?_
      simp (disch := omega) only [Try.ntmps36, Try.results36, go_sem, Nat.reduceLT, Nat.reduceLeDiff, Nat.reduceEqDiff, Nat.reduceAdd, Nat.reduceSub, Nat.reduceMul, reduceIte, ↓reduceIte, reduceCtorEq, Int.reduceToNat, Int.reduceLE, Int.reduceLT, Int.reduceNeg, Int.reduceSub, Int.reduceAdd, Int.reduceMul, rr_eq, rc, hset_map, hpush_map]
      exact Fin.val rfl
  · have wr := Try.l20Run_n hM hR hC h
    rw [rr_eq, rc] at wr
    rw [isOpt_f h]
    simp (disch := omega) only [Try.ntmps36, Try.results36, go_sem, Nat.reduceLT, Nat.reduceLeDiff, Nat.reduceEqDiff, Nat.reduceAdd, Nat.reduceSub, Nat.reduceMul, reduceIte, ↓reduceIte, reduceCtorEq, Int.reduceToNat, Int.reduceLE, Int.reduceLT, Int.reduceNeg, Int.reduceSub, Int.reduceAdd, Int.reduceMul, rr_eq, rc]
    refine wr.callX ?_
    rintro r H rfl
    simp (disch := omega) only [Try.ntmps36, Try.results36, go_sem, Nat.reduceLT, Nat.reduceLeDiff, Nat.reduceEqDiff, Nat.reduceAdd, Nat.reduceSub, Nat.reduceMul, reduceIte, ↓reduceIte, reduceCtorEq, Int.reduceToNat, Int.reduceLE, Int.reduceLT, Int.reduceNeg, Int.reduceSub, Int.reduceAdd, Int.reduceMul, rr_eq, rc, zS, hset_map, hpush_map]
    exact Fin.val rfl
theorem Try.implOpt_ok (M : List (List Int)) (C : List Con) (L : List Int) (hM : M.length ≤ 1048576) (hR : ∀ i, i < M.length → (mrow M i).length ≤ 1048576) (hC : C.length ≤ 1048576) (hL : L.length ≤ 1048576) : PCall Try.prog 38 [rr M, rc C, ri L] (.val (.bool (isOpt M C L))) := by
  refine FCall.pcall (R := fun r _ => r = .val (.bool (isOpt M C L))) ?_ 0 (by rintro r H rfl; exact view_bool)
  have wk := Try.implKeepsConstraints_ok L C hL hC
  have wp := Try.implPartitionCost_ok M L hM hR hL
  have wb := Try.implBestCost_ok (C := C) hM hR hC
  refine FCall.of_body Try.func38 rfl (by kernel_rfl) (by simp [Try.ntmps38]) ?_
  refine SW_of_vc Try.mixed _ _ _ (by kernel_rfl) ?_
  by_cases h : okB M C
  · have w1 := Try.canCluster_t hM hR hC h
    rw [bCost_t h] at wb
    rw [isOpt_t h]
    generalize (bs M C).least = z at *
    rcases Bool.eq_false_or_eq_true (isPart L && C.all (kp L)) with hk | hk
    · rw [hk] at wk ⊢
      generalize pcost M L = c at *
      by_cases hz : c = z
      · simp (disch := omega) only [Try.ntmps38, Try.results38, go_sem, Nat.reduceLT, Nat.reduceLeDiff, Nat.reduceEqDiff, Nat.reduceAdd, Nat.reduceSub, Nat.reduceMul, reduceIte, ↓reduceIte, reduceCtorEq, Int.reduceToNat, Int.reduceLE, Int.reduceLT, Int.reduceNeg, Int.reduceSub, Int.reduceAdd, Int.reduceMul, rr_eq, rc]
        refine w1.callV 0 (viewL_cons_of (view_row) (viewL_cons_of (view_row) viewL_nil_of)) ?_
        simp (disch := omega) only [Try.ntmps38, Try.results38, go_sem, Nat.reduceLT, Nat.reduceLeDiff, Nat.reduceEqDiff, Nat.reduceAdd, Nat.reduceSub, Nat.reduceMul, reduceIte, ↓reduceIte, reduceCtorEq, Int.reduceToNat, Int.reduceLE, Int.reduceLT, Int.reduceNeg, Int.reduceSub, Int.reduceAdd, Int.reduceMul, rr_eq, rc]
        refine wk.callV 0 (viewL_cons_of (view_row) (viewL_cons_of (view_row) viewL_nil_of)) ?_
        simp (disch := omega) only [Try.ntmps38, Try.results38, go_sem, Nat.reduceLT, Nat.reduceLeDiff, Nat.reduceEqDiff, Nat.reduceAdd, Nat.reduceSub, Nat.reduceMul, reduceIte, ↓reduceIte, reduceCtorEq, Int.reduceToNat, Int.reduceLE, Int.reduceLT, Int.reduceNeg, Int.reduceSub, Int.reduceAdd, Int.reduceMul, rr_eq, rc]
        refine wp.callV 0 (viewL_cons_of (view_row) (viewL_cons_of (view_row) viewL_nil_of)) ?_
        simp (disch := omega) only [Try.ntmps38, Try.results38, go_sem, Nat.reduceLT, Nat.reduceLeDiff, Nat.reduceEqDiff, Nat.reduceAdd, Nat.reduceSub, Nat.reduceMul, reduceIte, ↓reduceIte, reduceCtorEq, Int.reduceToNat, Int.reduceLE, Int.reduceLT, Int.reduceNeg, Int.reduceSub, Int.reduceAdd, Int.reduceMul, rr_eq, rc]
        refine wb.callV 0 (viewL_cons_of (view_row) (viewL_cons_of (view_row) viewL_nil_of)) ?_
        simp (disch := omega) only [Try.ntmps38, Try.results38, go_sem, Nat.reduceLT, Nat.reduceLeDiff, Nat.reduceEqDiff, Nat.reduceAdd, Nat.reduceSub, Nat.reduceMul, reduceIte, ↓reduceIte, reduceCtorEq, Int.reduceToNat, Int.reduceLE, Int.reduceLT, Int.reduceNeg, Int.reduceSub, Int.reduceAdd, Int.reduceMul, rr_eq, rc]
        exact Fin.val (by simp [hz])
      · simp (disch := omega) only [Try.ntmps38, Try.results38, go_sem, Nat.reduceLT, Nat.reduceLeDiff, Nat.reduceEqDiff, Nat.reduceAdd, Nat.reduceSub, Nat.reduceMul, reduceIte, ↓reduceIte, reduceCtorEq, Int.reduceToNat, Int.reduceLE, Int.reduceLT, Int.reduceNeg, Int.reduceSub, Int.reduceAdd, Int.reduceMul, rr_eq, rc]
        refine w1.callV 0 (viewL_cons_of (view_row) (viewL_cons_of (view_row) viewL_nil_of)) ?_
        simp (disch := omega) only [Try.ntmps38, Try.results38, go_sem, Nat.reduceLT, Nat.reduceLeDiff, Nat.reduceEqDiff, Nat.reduceAdd, Nat.reduceSub, Nat.reduceMul, reduceIte, ↓reduceIte, reduceCtorEq, Int.reduceToNat, Int.reduceLE, Int.reduceLT, Int.reduceNeg, Int.reduceSub, Int.reduceAdd, Int.reduceMul, rr_eq, rc]
        refine wk.callV 0 (viewL_cons_of (view_row) (viewL_cons_of (view_row) viewL_nil_of)) ?_
        simp (disch := omega) only [Try.ntmps38, Try.results38, go_sem, Nat.reduceLT, Nat.reduceLeDiff, Nat.reduceEqDiff, Nat.reduceAdd, Nat.reduceSub, Nat.reduceMul, reduceIte, ↓reduceIte, reduceCtorEq, Int.reduceToNat, Int.reduceLE, Int.reduceLT, Int.reduceNeg, Int.reduceSub, Int.reduceAdd, Int.reduceMul, rr_eq, rc]
        refine wp.callV 0 (viewL_cons_of (view_row) (viewL_cons_of (view_row) viewL_nil_of)) ?_
        simp (disch := omega) only [Try.ntmps38, Try.results38, go_sem, Nat.reduceLT, Nat.reduceLeDiff, Nat.reduceEqDiff, Nat.reduceAdd, Nat.reduceSub, Nat.reduceMul, reduceIte, ↓reduceIte, reduceCtorEq, Int.reduceToNat, Int.reduceLE, Int.reduceLT, Int.reduceNeg, Int.reduceSub, Int.reduceAdd, Int.reduceMul, rr_eq, rc]
        refine wb.callV 0 (viewL_cons_of (view_row) (viewL_cons_of (view_row) viewL_nil_of)) ?_
        simp (disch := omega) only [Try.ntmps38, Try.results38, go_sem, Nat.reduceLT, Nat.reduceLeDiff, Nat.reduceEqDiff, Nat.reduceAdd, Nat.reduceSub, Nat.reduceMul, reduceIte, ↓reduceIte, reduceCtorEq, Int.reduceToNat, Int.reduceLE, Int.reduceLT, Int.reduceNeg, Int.reduceSub, Int.reduceAdd, Int.reduceMul, rr_eq, rc]
        exact Fin.val (by simp [hz])
    · rw [hk] at wk ⊢
      simp (disch := omega) only [Try.ntmps38, Try.results38, go_sem, Nat.reduceLT, Nat.reduceLeDiff, Nat.reduceEqDiff, Nat.reduceAdd, Nat.reduceSub, Nat.reduceMul, reduceIte, ↓reduceIte, reduceCtorEq, Int.reduceToNat, Int.reduceLE, Int.reduceLT, Int.reduceNeg, Int.reduceSub, Int.reduceAdd, Int.reduceMul, rr_eq, rc]
      refine w1.callV 0 (viewL_cons_of (view_row) (viewL_cons_of (view_row) viewL_nil_of)) ?_
      simp (disch := omega) only [Try.ntmps38, Try.results38, go_sem, Nat.reduceLT, Nat.reduceLeDiff, Nat.reduceEqDiff, Nat.reduceAdd, Nat.reduceSub, Nat.reduceMul, reduceIte, ↓reduceIte, reduceCtorEq, Int.reduceToNat, Int.reduceLE, Int.reduceLT, Int.reduceNeg, Int.reduceSub, Int.reduceAdd, Int.reduceMul, rr_eq, rc]
      refine wk.callV 0 (viewL_cons_of (view_row) (viewL_cons_of (view_row) viewL_nil_of)) ?_
      simp (disch := omega) only [Try.ntmps38, Try.results38, go_sem, Nat.reduceLT, Nat.reduceLeDiff, Nat.reduceEqDiff, Nat.reduceAdd, Nat.reduceSub, Nat.reduceMul, reduceIte, ↓reduceIte, reduceCtorEq, Int.reduceToNat, Int.reduceLE, Int.reduceLT, Int.reduceNeg, Int.reduceSub, Int.reduceAdd, Int.reduceMul, rr_eq, rc]
      exact Fin.val rfl
  · have w1 := Try.canCluster_f hM hR hC h
    rw [isOpt_f h]
    simp (disch := omega) only [Try.ntmps38, Try.results38, go_sem, Nat.reduceLT, Nat.reduceLeDiff, Nat.reduceEqDiff, Nat.reduceAdd, Nat.reduceSub, Nat.reduceMul, reduceIte, ↓reduceIte, reduceCtorEq, Int.reduceToNat, Int.reduceLE, Int.reduceLT, Int.reduceNeg, Int.reduceSub, Int.reduceAdd, Int.reduceMul, rr_eq, rc]
    refine w1.callV 0 (viewL_cons_of (view_row) (viewL_cons_of (view_row) viewL_nil_of)) ?_
    simp (disch := omega) only [Try.ntmps38, Try.results38, go_sem, Nat.reduceLT, Nat.reduceLeDiff, Nat.reduceEqDiff, Nat.reduceAdd, Nat.reduceSub, Nat.reduceMul, reduceIte, ↓reduceIte, reduceCtorEq, Int.reduceToNat, Int.reduceLE, Int.reduceLT, Int.reduceNeg, Int.reduceSub, Int.reduceAdd, Int.reduceMul, rr_eq, rc]
    exact Fin.val rfl

/-! ### What constraints cost -/
noncomputable def ccost (M : List (List Int)) (C : List Con) : Int := if bCost M C < 0 then -1 else bCost M C - bCost M []
theorem rc_nil : rc [] = .row 0 false [] := rfl
theorem view_ownC0 {H : Heap} {f b cap : Nat} {ex e2 : Bool} (hb : H.map b = some ⟨[], e2⟩) : view H (f + 1) (.own b 0 0 cap 3 ex) = some (rc []) := by
  simp only [Sh.view, hb, Nat.zero_mul, List.drop_zero, List.take_zero]
  rw [if_pos (by simp)]
  have : viewL H f [] = some [] := viewL_nil_of
  rw [this]; rfl
theorem view_nilC0 {H : Heap} {f : Nat} : view H f (.val (.slice none 0 0)) = some (rc []) := by simp only [view, viewV]; rfl
theorem Try.specCC_ok (M : List (List Int)) (C : List Con) (hM : M.length ≤ 1048576) (hR : ∀ i, i < M.length → (mrow M i).length ≤ 1048576) (hC : C.length ≤ 1048576) : PCall Try.prog 39 [rr M, rc C] (.val (.int .i64 (ccost M C))) := by
  refine FCall.pcall (R := fun r _ => r = .val (.int .i64 (ccost M C))) ?_ 0 (by rintro r H rfl; exact view_int)
  have w1 := Try.specBestCost_ok (C := C) hM hR hC
  have w2 := Try.specBestCost_ok (C := []) hM hR (by simp)
  have b1 := bCost_b M C
  have b2 := bCost_b M []
  refine FCall.of_body Try.func39 rfl (by kernel_rfl) (by simp [Try.ntmps39]) ?_
  refine SW_of_vc Try.mixed _ _ _ (by kernel_rfl) ?_
  rw [ccost]
  generalize bCost M C = a at *
  generalize bCost M [] = b at *
  by_cases h : a < 0
  · rw [if_pos h]
    simp (disch := omega) only [Try.ntmps39, Try.results39, go_sem, Nat.reduceLT, Nat.reduceLeDiff, Nat.reduceEqDiff, Nat.reduceAdd, Nat.reduceSub, Nat.reduceMul, reduceIte, ↓reduceIte, reduceCtorEq, Int.reduceToNat, Int.reduceLE, Int.reduceLT, Int.reduceNeg, Int.reduceSub, Int.reduceAdd, Int.reduceMul, rr_eq, rc]
    refine w1.callV 0 (viewL_cons_of (view_row) (viewL_cons_of (view_row) viewL_nil_of)) ?_
    simp (disch := omega) only [Try.ntmps39, Try.results39, go_sem, Nat.reduceLT, Nat.reduceLeDiff, Nat.reduceEqDiff, Nat.reduceAdd, Nat.reduceSub, Nat.reduceMul, reduceIte, ↓reduceIte, reduceCtorEq, Int.reduceToNat, Int.reduceLE, Int.reduceLT, Int.reduceNeg, Int.reduceSub, Int.reduceAdd, Int.reduceMul, rr_eq, rc]
    exact Fin.val rfl
  · rw [if_neg h]
    simp (disch := omega) only [Try.ntmps39, Try.results39, go_sem, Nat.reduceLT, Nat.reduceLeDiff, Nat.reduceEqDiff, Nat.reduceAdd, Nat.reduceSub, Nat.reduceMul, reduceIte, ↓reduceIte, reduceCtorEq, Int.reduceToNat, Int.reduceLE, Int.reduceLT, Int.reduceNeg, Int.reduceSub, Int.reduceAdd, Int.reduceMul, rr_eq, rc]
    refine w1.callV 0 (viewL_cons_of (view_row) (viewL_cons_of (view_row) viewL_nil_of)) ?_
    simp (disch := omega) only [Try.ntmps39, Try.results39, go_sem, Nat.reduceLT, Nat.reduceLeDiff, Nat.reduceEqDiff, Nat.reduceAdd, Nat.reduceSub, Nat.reduceMul, reduceIte, ↓reduceIte, reduceCtorEq, Int.reduceToNat, Int.reduceLE, Int.reduceLT, Int.reduceNeg, Int.reduceSub, Int.reduceAdd, Int.reduceMul, rr_eq, rc]
    refine w2.callV 1 (viewL_cons_of view_row (viewL_cons_of (view_ownC0 (by first | rfl | (simp (disch := omega) only [hx_map, hp_map, xmap_blk, hmap_cons, xmap_skipI, xmap_nil, if_pos, if_neg, ↓reduceIte]; try rfl))) viewL_nil_of)) ?_
    simp (disch := omega) only [Try.ntmps39, Try.results39, go_sem, Nat.reduceLT, Nat.reduceLeDiff, Nat.reduceEqDiff, Nat.reduceAdd, Nat.reduceSub, Nat.reduceMul, reduceIte, ↓reduceIte, reduceCtorEq, Int.reduceToNat, Int.reduceLE, Int.reduceLT, Int.reduceNeg, Int.reduceSub, Int.reduceAdd, Int.reduceMul, rr_eq, rc]
    exact Fin.val rfl
theorem Try.implCC_ok (M : List (List Int)) (C : List Con) (hM : M.length ≤ 1048576) (hR : ∀ i, i < M.length → (mrow M i).length ≤ 1048576) (hC : C.length ≤ 1048576) : PCall Try.prog 40 [rr M, rc C] (.val (.int .i64 (ccost M C))) := by
  refine FCall.pcall (R := fun r _ => r = .val (.int .i64 (ccost M C))) ?_ 0 (by rintro r H rfl; exact view_int)
  have w1 := Try.implBestCost_ok (C := C) hM hR hC
  have w2 := Try.implBestCost_ok (C := []) hM hR (by simp)
  have b1 := bCost_b M C
  have b2 := bCost_b M []
  refine FCall.of_body Try.func40 rfl (by kernel_rfl) (by simp [Try.ntmps40]) ?_
  refine SW_of_vc Try.mixed _ _ _ (by kernel_rfl) ?_
  rw [ccost]
  generalize bCost M C = a at *
  generalize bCost M [] = b at *
  by_cases h : a < 0
  · rw [if_pos h]
    simp (disch := omega) only [Try.ntmps40, Try.results40, go_sem, Nat.reduceLT, Nat.reduceLeDiff, Nat.reduceEqDiff, Nat.reduceAdd, Nat.reduceSub, Nat.reduceMul, reduceIte, ↓reduceIte, reduceCtorEq, Int.reduceToNat, Int.reduceLE, Int.reduceLT, Int.reduceNeg, Int.reduceSub, Int.reduceAdd, Int.reduceMul, rr_eq, rc]
    refine w1.callV 0 (viewL_cons_of (view_row) (viewL_cons_of (view_row) viewL_nil_of)) ?_
    simp (disch := omega) only [Try.ntmps40, Try.results40, go_sem, Nat.reduceLT, Nat.reduceLeDiff, Nat.reduceEqDiff, Nat.reduceAdd, Nat.reduceSub, Nat.reduceMul, reduceIte, ↓reduceIte, reduceCtorEq, Int.reduceToNat, Int.reduceLE, Int.reduceLT, Int.reduceNeg, Int.reduceSub, Int.reduceAdd, Int.reduceMul, rr_eq, rc]
    exact Fin.val rfl
  · rw [if_neg h]
    simp (disch := omega) only [Try.ntmps40, Try.results40, go_sem, Nat.reduceLT, Nat.reduceLeDiff, Nat.reduceEqDiff, Nat.reduceAdd, Nat.reduceSub, Nat.reduceMul, reduceIte, ↓reduceIte, reduceCtorEq, Int.reduceToNat, Int.reduceLE, Int.reduceLT, Int.reduceNeg, Int.reduceSub, Int.reduceAdd, Int.reduceMul, rr_eq, rc]
    refine w1.callV 0 (viewL_cons_of (view_row) (viewL_cons_of (view_row) viewL_nil_of)) ?_
    simp (disch := omega) only [Try.ntmps40, Try.results40, go_sem, Nat.reduceLT, Nat.reduceLeDiff, Nat.reduceEqDiff, Nat.reduceAdd, Nat.reduceSub, Nat.reduceMul, reduceIte, ↓reduceIte, reduceCtorEq, Int.reduceToNat, Int.reduceLE, Int.reduceLT, Int.reduceNeg, Int.reduceSub, Int.reduceAdd, Int.reduceMul, rr_eq, rc]
    refine w2.callV 1 (viewL_cons_of view_row (viewL_cons_of view_nilC0 viewL_nil_of)) ?_
    simp (disch := omega) only [Try.ntmps40, Try.results40, go_sem, Nat.reduceLT, Nat.reduceLeDiff, Nat.reduceEqDiff, Nat.reduceAdd, Nat.reduceSub, Nat.reduceMul, reduceIte, ↓reduceIte, reduceCtorEq, Int.reduceToNat, Int.reduceLE, Int.reduceLT, Int.reduceNeg, Int.reduceSub, Int.reduceAdd, Int.reduceMul, rr_eq, rc]
    exact Fin.val rfl
end Go.Sh

/-
  Contracts: the constraints of some items. Of the reference and of the program.
-/
namespace Go.Sh
set_option linter.unusedSimpArgs false
set_option linter.unusedVariables false
open Go Go.Proofs

def rkeep (S : List Int) (c : Con) : Bool := decide (c.1 ∈ S) && decide (c.2.1 ∈ S)
def rmap (S : List Int) (c : Con) : Con := (idx c.1 S, idx c.2.1 S, c.2.2)
def rs (C : List Con) (S : List Int) : List Con := (C.filter (rkeep S)).map (rmap S)
theorem rs_nil (S : List Int) : rs [] S = [] := rfl
theorem rs_keep {C : List Con} {S : List Int} {k : Nat} {a b : Int} {s : Bool} (h : k < C.length) (hc : cg C k = (a, b, s)) (ha : a ∈ S) (hb : b ∈ S) : rs (C.take (k + 1)) S = rs (C.take k) S ++ [(idx a S, idx b S, s)] := by
  have e : C[k] = (a, b, s) := by rw [← hc]; simp [cg, h]
  rw [rs, List.take_succ_eq_append_getElem h, e, List.filter_append, List.map_append]
  simp [rs, rkeep, rmap, ha, hb]
theorem rs_drop {C : List Con} {S : List Int} {k : Nat} {a b : Int} {s : Bool} (h : k < C.length) (hc : cg C k = (a, b, s)) (hn : ¬ (a ∈ S ∧ b ∈ S)) : rs (C.take (k + 1)) S = rs (C.take k) S := by
  have e : C[k] = (a, b, s) := by rw [← hc]; simp [cg, h]
  rw [rs, List.take_succ_eq_append_getElem h, e, List.filter_append, List.map_append]
  have : rkeep S (a, b, s) = false := by
    rw [rkeep, ← Bool.decide_and]
    exact decide_eq_false hn
  simp [rs, this]
theorem rs_len (C : List Con) (S : List Int) : (rs C S).length ≤ C.length := by
  rw [rs, List.length_map]
  exact List.length_filter_le _ _
theorem cons_snoc (R : List Con) (a b : Int) (s : Bool) : cons R ++ [.val (.int .i64 a), .val (.int .i64 b), .val (.bool s)] = cons (R ++ [(a, b, s)]) := by
  rw [← cons_append]; rfl
theorem cons_take_self (R : List Con) : (cons R).take (R.length * 3) = cons R := by rw [← cons_length R, List.take_length]
theorem cons_nil : cons [] = [] := rfl
def slC (b : Nat) (R : List Con) : SV := if R.length = 0 then .val (.slice none 0 0) else .own b 0 R.length R.length 3 false
def slH (b : Nat) (R : List Con) : List (Nat × Blk) := if R.length = 0 then [] else [(b, ⟨cons R, false⟩)]
theorem slC_snoc (b : Nat) (R : List Con) (x : Con) : slC b (R ++ [x]) = .own b 0 (R.length + 1) (R.length + 1) 3 false := by simp [slC]
theorem slH_snoc (b : Nat) (R : List Con) (x : Con) : slH b (R ++ [x]) = [(b, ⟨cons (R ++ [x]), false⟩)] := by simp [slH]
theorem slC_f {b : Nat} {R : List Con} (h : R.length ≠ 0) : slC b R = .own b 0 R.length R.length 3 false := if_neg h
theorem slH_f {b : Nat} {R : List Con} (h : R.length ≠ 0) : slH b R = [(b, ⟨cons R, false⟩)] := if_neg h
theorem slC_t {b : Nat} {R : List Con} (h : R.length = 0) : slC b R = .val (.slice none 0 0) := if_pos h
theorem slH_t {b : Nat} {R : List Con} (h : R.length = 0) : slH b R = [] := if_pos h

theorem slH_one (b : Nat) (p q : Int) (t : Bool) : slH b [(p, q, t)] = [(b, ⟨[.val (.int .i64 p), .val (.int .i64 q), .val (.bool t)], false⟩)] := rfl
theorem rep3c (a b c : SV) : rep [a, b, c] 3 = [a, b, c] := rfl
def ResC (R : List Con) (r : SV) (H : Heap) : Prop := (R.length = 0 → r = .val (.slice none 0 0)) ∧ (R.length ≠ 0 → FlatRes R.length 3 (cons R) r H)

end Go.Sh

/-
  Contracts: the constraints of some items, of the reference; constraints marked and read back.
-/
namespace Go.Sh
set_option linter.unusedSimpArgs false
set_option linter.unusedVariables false
open Go Go.Proofs

theorem rep0 (zs : List SV) : rep zs 0 = [] := rfl

def mk3 (k : Int) (i : Nat) : Con := (k + 3 * (i : Int), k + 3 * (i : Int) + 1, Int.tmod (k + 3 * (i : Int) + 1 + 1) 3 == 0)
def markC (C : List Con) (k : Int) (i : Nat) : List Con := (List.range i).map (mk3 k) ++ C.drop i
def marksC (n : Nat) (k : Int) : List Con := (List.range n).map (mk3 k)
theorem markC_zero (C : List Con) (k : Int) : markC C k 0 = C := by simp [markC]
theorem markC_length {C : List Con} {k : Int} {i : Nat} (h : i ≤ C.length) : (markC C k i).length = C.length := by simp [markC]; omega
theorem markC_all (C : List Con) (k : Int) : markC C k C.length = marksC C.length k := by simp [markC, marksC]
theorem marksC_length (n : Nat) (k : Int) : (marksC n k).length = n := by simp [marksC]
theorem markC_set {C : List Con} {k : Int} {i : Nat} (h : i < C.length) : (markC C k i).set i (mk3 k i) = markC C k (i + 1) := by
  apply List.ext_getElem?
  intro x
  simp only [markC, List.getElem?_set, List.getElem?_append, List.length_map, List.length_range, List.getElem?_map, List.getElem?_drop, List.length_append, List.length_drop]
  by_cases h1 : i = x
  · subst h1
    have : i < i + (C.length - i) := by omega
    simp [this]
  · by_cases h2 : x < i
    · have h3 : x < i + 1 := by omega
      simp [h1, h2, h3]
    · have h3 : ¬ x < i + 1 := by omega
      simp [h1, h2, h3]
      congr 1
      omega
theorem cons_set3' {C : List Con} {k : Nat} {a b : Int} {s : Bool} (h : k < C.length) : (((cons C).set (k * 3) (.val (.int .i64 a))).set (k * 3 + 1) (.val (.int .i64 b))).set (k * 3 + 2) (.val (.bool s)) = cons (C.set k (a, b, s)) := cons_set3 h

set_option maxHeartbeats 2000000 in
theorem Try.markConstraintS_ok (C : List Con) (k : Int) (H : Heap) (b n cap : Nat) (ex e2 : Bool) (hb : H.map b = some ⟨cons C, e2⟩) (hn : n = C.length) (hL : C.length ≤ 1099511627776) (hk : 0 ≤ k) (hk2 : k ≤ 1099511627776) :
    CallS Try.prog 29 [.own b 0 n cap 3 ex, .val (.int .i64 k)] H (fun r H' => r = .val (.int .i64 (k + 3 * (n : Int))) ∧ H' = H.set b (some ⟨cons (marksC n k), e2⟩)) := by
  subst hn
  refine CallS.of_body Try.func29 rfl (by kernel_rfl) (by simp [Try.ntmps29]) ?_
  refine SW_of_vc Try.mixed _ _ _ (by kernel_rfl) ?_
  simp (disch := omega) only [Try.ntmps29, Try.results29, go_sem, Nat.reduceLT, Nat.reduceLeDiff, Nat.reduceEqDiff, Nat.reduceAdd, Nat.reduceSub, Nat.reduceMul, reduceIte, ↓reduceIte, reduceCtorEq, Int.reduceToNat, Int.reduceLE, Int.reduceLT, Int.reduceNeg, Int.reduceSub, Int.reduceAdd, Int.reduceMul]
  refine LoopW.loop (fun i : Nat => ⟨ofL [(0, .own b 0 C.length cap 3 ex), (1, .val (.int .i64 (k + 3 * (i : Int)))), (5, .val (.int .i64 i))], H.set b (some ⟨cons (markC C k i), e2⟩)⟩) (fun i => i ≤ C.length) (fun i => C.length - i) 0 (by omega) (Wk.of (by simp only [go_sem, ↓List.forall_mem_cons, List.not_mem_nil, false_implies, implies_true, and_true, true_and, and_self, Nat.reduceEqDiff, reduceIte, ↓reduceIte, ri_eq, Int.natCast_add, Int.cast_ofNat_Int, Int.natCast_zero, Int.mul_zero, Int.add_zero]; try simp) (by rw [markC_zero, Heap.set_self hb])) ?_
  intro i hi
  have hml := markC_length (k := k) hi
  have hcl := cons_length (markC C k i)
  refine SW_of_vc Try.mixed _ _ _ (by kernel_rfl) ?_
  by_cases hlt : i < C.length
  · have hset := cons_set3' (C := markC C k i) (k := i) (a := k + 3 * (i : Int)) (b := k + 3 * (i : Int) + 1) (s := Int.tmod (k + 3 * (i : Int) + 1 + 1) 3 == 0) (by omega)
    have hset2 := markC_set (k := k) hlt
    rw [mk3] at hset2
    rw [hset2] at hset
    simp (disch := omega) only [Try.ntmps29, Try.results29, go_sem, Nat.reduceLT, Nat.reduceLeDiff, Nat.reduceEqDiff, Nat.reduceAdd, Nat.reduceSub, Nat.reduceMul, reduceIte, ↓reduceIte, reduceCtorEq, Int.reduceToNat, Int.reduceLE, Int.reduceLT, Int.reduceNeg, Int.reduceSub, Int.reduceAdd, Int.reduceMul, Heap.set_at, hml, hcl, Heap.set_set, List.length_set, hset]
    have e : k + 3 * (i : Int) + 1 + 1 + 1 = k + 3 * ((i : Int) + 1) := by omega
    exact ⟨i + 1, by omega, by omega, Wk.of (by simp only [go_sem, ↓List.forall_mem_cons, List.not_mem_nil, false_implies, implies_true, and_true, true_and, and_self, Nat.reduceEqDiff, reduceIte, ↓reduceIte, ri_eq, Int.natCast_add, Int.cast_ofNat_Int, e]; try simp) rfl⟩
  · obtain rfl : i = C.length := by omega
    simp (disch := omega) only [Try.ntmps29, Try.results29, go_sem, Nat.reduceLT, Nat.reduceLeDiff, Nat.reduceEqDiff, Nat.reduceAdd, Nat.reduceSub, Nat.reduceMul, reduceIte, ↓reduceIte, reduceCtorEq, Int.reduceToNat, Int.reduceLE, Int.reduceLT, Int.reduceNeg, Int.reduceSub, Int.reduceAdd, Int.reduceMul, Heap.set_at, hml, Heap.set_set, markC_all]

open Classical in
noncomputable def heldC (C : List Con) (k : Int) : Int := if C = marksC C.length k then k + 3 * (C.length : Int) else -1
theorem heldC_marks (n : Nat) (k : Int) : heldC (marksC n k) k = k + 3 * (n : Int) := by rw [heldC, marksC_length, if_pos rfl]

theorem view_nilC {H : Heap} {f : Nat} : view H f (.val (.slice none 0 0)) = some (rc []) := by simp only [view, viewV, rc, cons, List.flatMap_nil, List.length_nil]
theorem Try.toConstraintS_one (C : List Con) (hC : C.length ≤ 1048576) : FCall Try.prog 26 [rc C] (OneRes C.length 3 (cons C)) := (Try.toConstraintS_f C hC).one
theorem Try.markConstraintS_nil (k : Int) (H : Heap) (hk : 0 ≤ k) (hk2 : k ≤ 1099511627776) : CallS Try.prog 29 [.val (.slice none 0 0), .val (.int .i64 k)] H (fun r H' => r = .val (.int .i64 k) ∧ H' = H) := by
  refine CallS.of_body Try.func29 rfl (by kernel_rfl) (by simp [Try.ntmps29]) ?_
  refine SW_of_vc Try.mixed _ _ _ (by kernel_rfl) ?_
  simp (disch := omega) only [Try.ntmps29, Try.results29, go_sem, Nat.reduceLT, Nat.reduceLeDiff, Nat.reduceEqDiff, Nat.reduceAdd, Nat.reduceSub, Nat.reduceMul, reduceIte, ↓reduceIte, reduceCtorEq, Int.reduceToNat, Int.reduceLE, Int.reduceLT, Int.reduceNeg, Int.reduceSub, Int.reduceAdd, Int.reduceMul]
  refine LoopW.loop (fun _ : Unit => ⟨ofL [(0, .val (.slice none 0 0)), (1, .val (.int .i64 k)), (5, .val (.int .i64 0))], H⟩) (fun _ => True) (fun _ => 0) () trivial (Wk.of (by simp only [go_sem, ↓List.forall_mem_cons, List.not_mem_nil, false_implies, implies_true, and_true, true_and, and_self, Nat.reduceEqDiff, reduceIte, ↓reduceIte, ri_eq, Int.natCast_add, Int.cast_ofNat_Int]; try simp) rfl) ?_
  rintro _ _
  refine SW_of_vc Try.mixed _ _ _ (by kernel_rfl) ?_
  simp (disch := omega) only [Try.ntmps29, Try.results29, go_sem, Nat.reduceLT, Nat.reduceLeDiff, Nat.reduceEqDiff, Nat.reduceAdd, Nat.reduceSub, Nat.reduceMul, reduceIte, ↓reduceIte, reduceCtorEq, Int.reduceToNat, Int.reduceLE, Int.reduceLT, Int.reduceNeg, Int.reduceSub, Int.reduceAdd, Int.reduceMul]

theorem view_ownC {H : Heap} {b n f cap : Nat} {ex : Bool} {e2 : Bool} {C : List Con} (hb : H.map b = some ⟨cons C, e2⟩) (hn : n = C.length) : view H (f + 1) (.own b 0 n cap 3 ex) = some (rc C) := by
  subst hn
  have hv : ∀ (C : List Con), viewL H f (cons C) = some (cons C) := by
    intro C
    induction C with
    | nil => exact viewL_nil_of
    | cons c C ih => exact viewL_cons_of view_int (viewL_cons_of view_int (viewL_cons_of view_bool ih))
  have ht : (cons C).take (C.length * 3) = cons C := cons_take_self C
  simp only [Sh.view, hb, List.drop_zero, ht, hv]
  rw [if_pos (by rw [cons_length]; omega), rc]
theorem view_rowC {H : Heap} {f n : Nat} {ex : Bool} {C : List Con} (hn : n = C.length) : view H f (.row n ex (cons C)) = some (rc C) := by subst hn; simp only [view, rc]
end Go.Sh
