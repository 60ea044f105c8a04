/-
  Texts put together: DA2, DA3, DA4, R1, DA5, BA4, BA5, BA6, BA7, R2, DA6, DA7, M2. What each proves stands at its own head, with its conditions.
-/
import Derived.Test.YthkkipbdebgghaaZFnLocal4

/-
  Drawing a matrix.
-/
namespace Go.Sh
set_option linter.unusedSimpArgs false
set_option linter.unusedVariables false
open Go Go.Proofs

/-- A list of rows in memory of its own, from the name lo on. -/
structure MatH (H : Heap) (lo ob : Nat) (cs : List SV) (nm : Nat → Nat) (M : List (List Int)) : Prop where
  ln : cs.length = M.length
  o : H.map ob = some ⟨cs, false⟩
  row : ∀ i, i < M.length → ∃ e e2, cs[i]? = some (.own (nm i) 0 (mrow M i).length (mrow M i).length 1 e) ∧ H.map (nm i) = some ⟨ints (mrow M i), e2⟩
  inj : ∀ i j, i < M.length → j < M.length → nm i = nm j → i = j
  lo1 : lo ≤ ob ∧ ob < H.nb
  lo2 : ∀ i, i < M.length → lo ≤ nm i ∧ nm i < H.nb ∧ nm i ≠ ob
theorem MatH.fr {H H' : Heap} {lo ob : Nat} {cs : List SV} {nm : Nat → Nat} {M : List (List Int)} (h : MatH H lo ob cs nm M) (hn : H.nb ≤ H'.nb) (hf : ∀ b, lo ≤ b → b < H.nb → H'.map b = H.map b) : MatH H' lo ob cs nm M := by
  refine ⟨h.ln, by rw [hf _ h.lo1.1 h.lo1.2, h.o], fun i hi => ?_, h.inj, ⟨h.lo1.1, by have := h.lo1.2; omega⟩, fun i hi => ?_⟩
  · obtain ⟨e, e2, h1, h2⟩ := h.row i hi
    obtain ⟨k1, k2, k3⟩ := h.lo2 i hi
    exact ⟨e, e2, h1, by rw [hf _ k1 k2, h2]⟩
  · obtain ⟨k1, k2, k3⟩ := h.lo2 i hi
    exact ⟨k1, by omega, k3⟩
theorem MatH.low {H : Heap} {lo lo2 ob : Nat} {cs : List SV} {nm : Nat → Nat} {M : List (List Int)} (h : MatH H lo ob cs nm M) (hl : lo2 ≤ lo) : MatH H lo2 ob cs nm M :=
  ⟨h.ln, h.o, h.row, h.inj, ⟨by have := h.lo1; omega, h.lo1.2⟩, fun i hi => by have := h.lo2 i hi; exact ⟨by omega, this.2⟩⟩
theorem mrow_lt {M N : List (List Int)} {i : Nat} (h : i < M.length) : mrow (M ++ N) i = mrow M i := by simp [mrow, h, List.getElem?_append_left h]
theorem mrow_at {M : List (List Int)} {L : List Int} : mrow (M ++ [L]) M.length = L := by simp [mrow]
theorem MatH.snoc {H H' : Heap} {lo ob ob' r l : Nat} {cs : List SV} {nm : Nat → Nat} {M : List (List Int)} {L : List Int} {e e2 : Bool} (h : MatH H lo ob cs nm M) (hl : l = L.length) (ho : H'.map ob' = some ⟨cs ++ [.own r 0 l l 1 e], false⟩) (hr : H'.map r = some ⟨ints L, e2⟩)
    (hf : ∀ b, lo ≤ b → b < H.nb → b ≠ ob → H'.map b = H.map b) (hn : H.nb ≤ H'.nb) (h1 : H.nb ≤ ob' ∧ ob' < H'.nb) (h2 : H.nb ≤ r ∧ r < H'.nb) (hne : r ≠ ob') : MatH H' lo ob' (cs ++ [.own r 0 l l 1 e]) (fun i => if i < M.length then nm i else r) (M ++ [L]) := by
  subst hl
  have hlo := h.lo1
  refine ⟨by simp [h.ln], ho, fun i hi => ?_, fun i j hi hj hij => ?_, ⟨by omega, h1.2⟩, fun i hi => ?_⟩
  · by_cases hlt : i < M.length
    · obtain ⟨e, e2, g1, g2⟩ := h.row i hlt
      obtain ⟨k1, k2, k3⟩ := h.lo2 i hlt
      refine ⟨e, e2, ?_, ?_⟩
      · rw [List.getElem?_append_left (by rw [h.ln]; exact hlt), g1, mrow_lt hlt, if_pos hlt]
      · rw [if_pos hlt, mrow_lt hlt, hf _ k1 k2 k3, g2]
    · have : i = M.length := by simp at hi; omega
      subst this
      exact ⟨e, e2, by rw [mrow_at, if_neg (by omega), ← h.ln]; simp, by rw [if_neg (by omega), mrow_at, hr]⟩
  · simp only [List.length_append, List.length_singleton] at hi hj
    by_cases a : i < M.length <;> by_cases b : j < M.length
    · simp only [a, b, if_true] at hij; exact h.inj i j a b hij
    · simp only [a, b, if_true, if_false] at hij
      have := h.lo2 i a; omega
    · simp only [a, b, if_true, if_false] at hij
      have := h.lo2 j b; omega
    · omega
  · simp only [List.length_append, List.length_singleton] at hi
    show lo ≤ (if i < M.length then nm i else r) ∧ (if i < M.length then nm i else r) < H'.nb ∧ (if i < M.length then nm i else r) ≠ ob'
    split
    · rename_i a
      have := h.lo2 i a
      exact ⟨this.1, by omega, by omega⟩
    · exact ⟨by omega, h2.2, hne⟩
theorem mset_row_ne {M : List (List Int)} {i k j : Nat} {x : Int} (h : j ≠ i) : mrow (mset M i k x) j = mrow M j := by
  simp [mrow, mset, List.getElem?_set, Ne.symm h]
theorem mset_row_eq {M : List (List Int)} {i k : Nat} {x : Int} (h : i < M.length) : mrow (mset M i k x) i = (mrow M i).set k x := by
  simp [mrow, mset, List.getElem?_set, h]
theorem MatH.set {H : Heap} {lo ob i k : Nat} {cs : List SV} {nm : Nat → Nat} {M : List (List Int)} {x : Int} {e2 : Bool} (h : MatH H lo ob cs nm M) (hi : i < M.length) : MatH (H.set (nm i) (some ⟨ints ((mrow M i).set k x), e2⟩)) lo ob cs nm (mset M i k x) := by
  have hl : (mset M i k x).length = M.length := mset_length ..
  have hi2 := h.lo2 i hi
  refine ⟨by rw [hl, h.ln], by rw [hset_map, if_neg (by omega), h.o], fun j hj => ?_, fun a b ha hb => h.inj a b (by omega) (by omega), h.lo1, fun j hj => h.lo2 j (by omega)⟩
  rw [hl] at hj
  obtain ⟨e, e3, h1, h2⟩ := h.row j hj
  by_cases hji : j = i
  · subst hji
    rw [mset_row_eq hi, List.length_set]
    exact ⟨e, e2, h1, by rw [hset_map, if_pos rfl]⟩
  · rw [mset_row_ne hji]
    exact ⟨e, e3, h1, by rw [hset_map, if_neg (fun g => hji (h.inj _ _ hj hi g)), h2]⟩
/-- The part of a heap from a name on. -/
def Heap.frm (H : Heap) (n : Nat) : Heap := ⟨fun b => if n ≤ b then H.map b else none, H.nb⟩
theorem frm_map (H : Heap) (n b : Nat) : (H.frm n).map b = if n ≤ b then H.map b else none := rfl
theorem MatH.view {H : Heap} {lo ob : Nat} {cs : List SV} {nm : Nat → Nat} {M : List (List Int)} {f cap : Nat} {e : Bool} (h : MatH H lo ob cs nm M) : view (H.frm lo) (f + 2) (.own ob 0 M.length cap 1 e) = some (rr M) := by
  have ho : (H.frm lo).map ob = some ⟨cs, false⟩ := by rw [frm_map, if_pos h.lo1.1, h.o]
  have hL : viewL (H.frm lo) (f + 1) cs = some (rows M) := by
    have hr : ∀ i, i < M.length → ∃ s, cs[i]? = some s ∧ Sh.view (H.frm lo) (f + 1) s = some (ri (mrow M i)) := fun i hi => by
      obtain ⟨e, e2, h1, h2⟩ := h.row i hi
      have k := h.lo2 i hi
      exact ⟨_, h1, view_own (L := mrow M i) (e2 := e2) (by rw [frm_map, if_pos k.1, h2]) rfl⟩
    have hln := h.ln
    clear h ho
    induction cs generalizing M with
    | nil =>
      have : M = [] := List.length_eq_zero_iff.1 hln.symm
      subst this
      exact viewL_nil_of
    | cons s cs ih =>
      cases M with
      | nil => simp at hln
      | cons L M =>
        refine viewL_cons_of ?_ (ih (M := M) (fun i hi => ?_) (by simpa using hln))
        · obtain ⟨s', h1, h2⟩ := hr 0 (by simp)
          simp at h1; subst h1
          exact h2
        · obtain ⟨s', h1, h2⟩ := hr (i + 1) (by simpa using hi)
          exact ⟨s', by simpa using h1, h2⟩
  simp only [Sh.view, ho, Nat.mul_one, List.drop_zero]
  have hle : M.length ≤ cs.length := by rw [h.ln]; omega
  rw [if_pos (by omega), ← h.ln, List.take_length, hL]
  simp only [rr, h.ln]
/-- What a drawing leaves behind. -/
structure DS (B : List Int) (cb : Nat) (H H' : Heap) : Prop where
  cur : Cur B H' cb
  nb : H.nb ≤ H'.nb
  fr : ∀ b, b < H.nb → b ≠ cb → H'.map b = H.map b
theorem DS.refl {B : List Int} {cb : Nat} {H : Heap} (h : Cur B H cb) : DS B cb H H := ⟨h, Nat.le_refl _, fun _ _ _ => rfl⟩
theorem DS.trans {B : List Int} {cb : Nat} {H H1 H2 : Heap} (h : DS B cb H H1) (g : DS B cb H1 H2) : DS B cb H H2 :=
  ⟨g.cur, Nat.le_trans h.nb g.nb, fun b hb hc => by rw [g.fr b (Nat.lt_of_lt_of_le hb h.nb) hc, h.fr b hb hc]⟩
theorem CurS.ds {B : List Int} {cb : Nat} {H H' : Heap} (h : CurS B H cb H') : DS B cb H H' := ⟨h.cur, by rw [h.nb]; exact Nat.le_refl _, fun b _ hc => h.map hc⟩
theorem DS.push {B : List Int} {cb : Nat} {H : Heap} (h : Cur B H cb) (hc : cb < H.nb) (k : Blk) : DS B cb H (H.push k) := by
  obtain ⟨i, x, hi, e⟩ := h
  exact ⟨⟨i, x, hi, by rw [hpush_map, if_neg (by omega), e]⟩, by rw [hpush_nb]; omega, fun b hb _ => by rw [hpush_map, if_neg (by omega)]⟩
theorem DS.setF {B : List Int} {cb : Nat} {H H1 : Heap} (h : DS B cb H H1) (b : Nat) (hb : H.nb ≤ b) (hc : b ≠ cb) (k : Option Blk) : DS B cb H (H1.set b k) := by
  obtain ⟨i, x, hi, e⟩ := h.cur
  exact ⟨⟨i, x, hi, by rw [hset_map, if_neg (Ne.symm hc), e]⟩, h.nb, fun z hz hzc => by rw [hset_map, if_neg (by omega), h.fr z hz hzc]⟩
theorem repI2 : rep [SV.val (.int .i64 0)] 2 = [SV.val (.int .i64 0), SV.val (.int .i64 0)] := rfl
theorem repI3 : rep [SV.val (.int .i64 0)] 3 = [SV.val (.int .i64 0), SV.val (.int .i64 0), SV.val (.int .i64 0)] := rfl
theorem repI6 : rep [SV.val (.int .i64 0)] 6 = [SV.val (.int .i64 0), SV.val (.int .i64 0), SV.val (.int .i64 0), SV.val (.int .i64 0), SV.val (.int .i64 0), SV.val (.int .i64 0)] := rfl
theorem repI10 : rep [SV.val (.int .i64 0)] 10 = [SV.val (.int .i64 0), SV.val (.int .i64 0), SV.val (.int .i64 0), SV.val (.int .i64 0), SV.val (.int .i64 0), SV.val (.int .i64 0), SV.val (.int .i64 0), SV.val (.int .i64 0), SV.val (.int .i64 0), SV.val (.int .i64 0)] := rfl
attribute [go_sem high] repI2 repI3 repI6 repI10
end Go.Sh

/-
  Drawing a matrix: the walks.
-/
namespace Go.Sh
set_option linter.unusedSimpArgs false
set_option linter.unusedVariables false
open Go Go.Proofs

def Rect (M : List (List Int)) (n : Nat) : Prop := ∀ i, i < M.length → (mrow M i).length = n
theorem Rect.set {M : List (List Int)} {n i k : Nat} {x : Int} (h : Rect M n) : Rect (mset M i k x) n := fun j hj => by
  rw [mset_length] at hj
  rw [mset_row_length]; exact h j hj
theorem Rect.snoc {M : List (List Int)} {n : Nat} {L : List Int} (h : Rect M n) (hL : L.length = n) : Rect (M ++ [L]) n := fun j hj => by
  by_cases hlt : j < M.length
  · rw [mrow_lt hlt]; exact h j hlt
  · have : j = M.length := by simp at hj; omega
    subst this; rw [mrow_at]; exact hL
def MQ (B : List Int) (cb : Nat) (H : Heap) (r : SV) (H' : Heap) : Prop :=
  ∃ ob cs nm M, r = .own ob 0 M.length M.length 1 false ∧ MatH H' H.nb ob cs nm M ∧ DS B cb H H' ∧ 1 ≤ M.length ∧ M.length ≤ 6 ∧ Rect M M.length

set_option maxRecDepth 20000 in
set_option maxHeartbeats 8000000 in
theorem Try.l17Matrix_ok (B : List Int) (hB : B.length ≤ 1048576) (most : Int) (h1 : 1 ≤ most) (h6 : most ≤ 6) (H : Heap) (cb : Nat) (hc : Cur B H cb) (hcb : cb < H.nb) : CallS Try.prog 194 [.optr cb 0, .val (.int .i64 most)] H (MQ B cb H) := by
  have w := Try.l1Below_ok B hB most (by omega) H cb hc
  refine CallS.of_body Try.func194 rfl (by kernel_rfl) (by simp [Try.ntmps194]) ?_
  refine SW_of_vc Try.mixed _ _ _ (by kernel_rfl) ?_
  simp (disch := omega) only [Try.ntmps194, Try.results194, go_sem, Nat.reduceLT, Nat.reduceLeDiff, Nat.reduceEqDiff, Nat.reduceAdd, Nat.reduceSub, Nat.reduceMul, reduceIte, ↓reduceIte, reduceCtorEq, Int.reduceToNat, Int.reduceLE, Int.reduceLT, Int.reduceNeg, Int.reduceSub, Int.reduceAdd, Int.reduceMul]
  refine w.callX ?_
  rintro r H0 ⟨v, rfl, v0, v1, v2, hs⟩
  have v1 := v1 (by omega)
  obtain ⟨m, rfl⟩ := Int.eq_ofNat_of_zero_le v0
  obtain ⟨n, hn⟩ : ∃ n : Nat, n = 1 + m := ⟨_, rfl⟩
  have hn2 : (1 : Int) + (m : Int) = (n : Int) := by omega
  have hd0 : DS B cb H H0 := hs.ds
  have hnb0 := hs.nb
  simp (disch := omega) only [Try.ntmps194, Try.results194, go_sem, Nat.reduceLT, Nat.reduceLeDiff, Nat.reduceEqDiff, Nat.reduceAdd, Nat.reduceSub, Nat.reduceMul, reduceIte, ↓reduceIte, reduceCtorEq, Int.reduceToNat, Int.reduceLE, Int.reduceLT, Int.reduceNeg, Int.reduceSub, Int.reduceAdd, Int.reduceMul, hn2]
  have hd1 : DS B cb H (H0.push ⟨[], false⟩) := hd0.trans (DS.push hd0.cur (by omega) _)
  refine LoopW.loop (fun y : Nat × Nat × List SV × (Nat → Nat) × List (List Int) × Heap => ⟨ofL [(0, .optr cb 0), (5, .val (.int .i64 n)), (6, .own y.2.1 0 y.1 y.1 1 false), (7, .val (.int .i64 y.1))], y.2.2.2.2.2⟩)
    (fun y => y.1 ≤ n ∧ MatH y.2.2.2.2.2 H.nb y.2.1 y.2.2.1 y.2.2.2.1 y.2.2.2.2.1 ∧ DS B cb H y.2.2.2.2.2 ∧ y.2.2.2.2.1.length = y.1 ∧ Rect y.2.2.2.2.1 n) (fun y => n - y.1) (0, H0.nb, [], fun _ => 0, [], H0.push ⟨[], false⟩)
    ⟨by simp, ⟨rfl, by rw [hpush_map, if_pos rfl], fun i hi => absurd hi (by simp), fun i j hi => absurd hi (by simp), by show H.nb ≤ H0.nb ∧ H0.nb < (H0.push _).nb; rw [hpush_nb]; omega, fun i hi => absurd hi (by simp)⟩, hd1, rfl, fun i hi => absurd hi (by simp)⟩ (Wk.of (by simp only [go_sem, ↓List.forall_mem_cons, List.not_mem_nil, false_implies, implies_true, and_true, true_and, and_self, Nat.reduceEqDiff, reduceIte, ↓reduceIte, ri_eq, Int.natCast_add, Int.cast_ofNat_Int]; try simp) rfl) ?_
  clear hd1 hd0 hs hnb0 H0
  rintro ⟨k, ob, cs, nm, M, H1⟩ ⟨hk, hM, hd, hMl, hMr⟩
  simp only at hk hM hd hMl hMr
  refine SW_of_vc Try.mixed _ _ _ (by kernel_rfl) ?_
  by_cases hlt : k < n
  · have hmo := hM.o
    have hcl : cs.length = k := by rw [hM.ln, hMl]
    have htk : List.take k cs = cs := List.take_of_length_le (by omega)
    have hlo := hM.lo1
    have hnb := hd.nb
    have hrep : List.replicate n (SV.val (.int .i64 0)) = ints (List.replicate n 0) := by simp [ints]
    simp (disch := omega) only [Try.ntmps194, Try.results194, go_sem, Nat.reduceLT, Nat.reduceLeDiff, Nat.reduceEqDiff, Nat.reduceAdd, Nat.reduceSub, Nat.reduceMul, reduceIte, ↓reduceIte, reduceCtorEq, Int.reduceToNat, Int.reduceLE, Int.reduceLT, Int.reduceNeg, Int.reduceSub, Int.reduceAdd, Int.reduceMul, hmo, hcl, htk, hrep, hset_map, hpush_map, hset_nb, hpush_nb]
    have hl2 : (List.replicate n (0 : Int)).length = n := by simp
    refine ⟨(k + 1, H1.nb + 1 + 1, cs ++ [.own H1.nb 0 n n 1 true], fun i => if i < M.length then nm i else H1.nb, M ++ [List.replicate n 0], _), ⟨hlt, hM.snoc (ob' := H1.nb + 1 + 1) (r := H1.nb) (l := n) (L := List.replicate n 0) (e := true) (e2 := true) hl2.symm ?_ ?_ (fun b b1 b2 b3 => ?_) ?_ ?_ ?_ (by omega), ?_, by show (M ++ [List.replicate n 0]).length = k + 1; simp [hMl], hMr.snoc hl2⟩, by show n - (k + 1) < n - k; omega, Wk.of (by simp only [go_sem, ↓List.forall_mem_cons, List.not_mem_nil, false_implies, implies_true, and_true, true_and, and_self, Nat.reduceEqDiff, reduceIte, ↓reduceIte, ri_eq, Int.natCast_add, Int.cast_ofNat_Int]; try simp) rfl⟩
    · simp (disch := omega) only [hset_map, hpush_map, hset_nb, hpush_nb, if_pos, ↓reduceIte]
    · simp (disch := omega) only [hset_map, hpush_map, hset_nb, hpush_nb, if_pos, if_neg, ↓reduceIte]
    · simp (disch := omega) only [hset_map, hpush_map, hset_nb, hpush_nb, if_neg, ↓reduceIte]
    · simp only [hset_nb, hpush_nb]; omega
    · simp only [hset_nb, hpush_nb]; omega
    · simp only [hset_nb, hpush_nb]; omega
    · have e1 : DS B cb H ((H1.push ⟨ints (List.replicate n 0), true⟩).push ⟨[.own H1.nb 0 n n 1 true], false⟩) := (hd.trans (DS.push hd.cur (by omega) _)).trans (DS.push (DS.push hd.cur (by omega) _).cur (by rw [hpush_nb]; omega) _)
      have e2 := e1.setF ob (by omega) (by omega) none
      exact e2.trans (DS.push e2.cur (by simp only [hset_nb, hpush_nb]; omega) _)
  · obtain rfl : k = n := by omega
    have hn1 : 1 ≤ k := by omega
    have hlo := hM.lo1
    have hnb := hd.nb
    simp (disch := omega) only [Try.ntmps194, Try.results194, go_sem, Nat.reduceLT, Nat.reduceLeDiff, Nat.reduceEqDiff, Nat.reduceAdd, Nat.reduceSub, Nat.reduceMul, reduceIte, ↓reduceIte, reduceCtorEq, Int.reduceToNat, Int.reduceLE, Int.reduceLT, Int.reduceNeg, Int.reduceSub, Int.reduceAdd, Int.reduceMul]
    refine LoopW.loop (fun y : Nat × List (List Int) × Heap => ⟨ofL [(0, .optr cb 0), (5, .val (.int .i64 k)), (6, .own ob 0 k k 1 false), (8, .val (.int .i64 y.1))], y.2.2⟩)
      (fun y => y.1 ≤ k ∧ MatH y.2.2 H.nb ob cs nm y.2.1 ∧ DS B cb H y.2.2 ∧ y.2.1.length = k ∧ Rect y.2.1 k) (fun y => k - y.1) (0, M, H1) ⟨by simp, hM, hd, hMl, hMr⟩ (Wk.of (by simp only [go_sem, ↓List.forall_mem_cons, List.not_mem_nil, false_implies, implies_true, and_true, true_and, and_self, Nat.reduceEqDiff, reduceIte, ↓reduceIte, ri_eq, Int.natCast_add, Int.cast_ofNat_Int]; try simp) rfl) ?_
    clear hM hd hMl hMr hlt hlo hnb M H1
    rintro ⟨i, M, H1⟩ ⟨hi, hM, hd, hMl, hMr⟩
    simp only at hi hM hd hMl hMr
    refine SW_of_vc Try.mixed _ _ _ (by kernel_rfl) ?_
    by_cases hlt : i < k
    · simp (disch := omega) only [Try.ntmps194, Try.results194, go_sem, Nat.reduceLT, Nat.reduceLeDiff, Nat.reduceEqDiff, Nat.reduceAdd, Nat.reduceSub, Nat.reduceMul, reduceIte, ↓reduceIte, reduceCtorEq, Int.reduceToNat, Int.reduceLE, Int.reduceLT, Int.reduceNeg, Int.reduceSub, Int.reduceAdd, Int.reduceMul]
      refine LoopW.loop (fun y : Nat × List (List Int) × Heap => ⟨ofL [(0, .optr cb 0), (5, .val (.int .i64 k)), (6, .own ob 0 k k 1 false), (8, .val (.int .i64 i)), (9, .val (.int .i64 y.1))], y.2.2⟩)
        (fun y => i < y.1 ∧ y.1 ≤ k ∧ MatH y.2.2 H.nb ob cs nm y.2.1 ∧ DS B cb H y.2.2 ∧ y.2.1.length = k ∧ Rect y.2.1 k) (fun y => k - y.1) (i + 1, M, H1) ⟨by simp, by show i + 1 ≤ k; omega, hM, hd, hMl, hMr⟩ (Wk.of (by simp only [go_sem, ↓List.forall_mem_cons, List.not_mem_nil, false_implies, implies_true, and_true, true_and, and_self, Nat.reduceEqDiff, reduceIte, ↓reduceIte, ri_eq, Int.natCast_add, Int.cast_ofNat_Int]; try simp) rfl) ?_
      clear hM hd hMl hMr
      rintro ⟨j, M, H1⟩ ⟨hij, hj, hM, hd, hMl, hMr⟩
      simp only at hij hj hM hd hMl hMr
      refine SW_of_vc Try.mixed _ _ _ (by kernel_rfl) ?_
      by_cases hltj : j < k
      · have hlo := hM.lo1
        have hnb := hd.nb
        have hcl : cs.length = k := by rw [hM.ln, hMl]
        have wp := Try.l1Pick_ok B hB [5, 3, 1, -1, -2, -4, -6, 2, -1000, 0] (by simp) (by simp) (H1.push ⟨ints [5, 3, 1, -1, -2, -4, -6, 2, -1000, 0], false⟩) cb H1.nb false false (DS.push hd.cur (by omega) _).cur (by rw [hpush_map, if_pos rfl]) (by omega)
        simp (maxSteps := 4000000) (disch := omega) only [Try.ntmps194, Try.results194, go_sem, Nat.reduceLT, Nat.reduceLeDiff, Nat.reduceEqDiff, Nat.reduceAdd, Nat.reduceSub, Nat.reduceMul, reduceIte, ↓reduceIte, reduceCtorEq, Int.reduceToNat, Int.reduceLE, Int.reduceLT, Int.reduceNeg, Int.reduceSub, Int.reduceAdd, Int.reduceMul]
        refine wp.callX ?_
        rintro r H2 ⟨v, rfl, hv, hs⟩
        have hds : DS B cb H1 H2 := (DS.push hd.cur (by omega) _).trans hs.ds
        have hnb2 := hds.nb
        have hM2 := hM.fr hnb2 (fun b b1 b2 => hds.fr b b2 (by omega))
        have hd2 := hd.trans hds
        obtain ⟨e, e2, r1, r2⟩ := hM2.row i (by omega)
        rw [hMr i (by omega)] at r1
        have ho := hM2.o
        have hil : ∀ M' : List (List Int), Rect M' k → ∀ z, z < M'.length → (ints (mrow M' z)).length = k := fun M' hr z hz => by rw [ints_length, hr z hz]
        have hset : ∀ (M' : List (List Int)) (z c : Nat), (ints (mrow M' z)).set c (.val (.int .i64 v)) = ints ((mrow M' z).set c v) := fun M' z c => by simp [ints]
        have hM3 := hM2.set (i := i) (k := j) (x := v) (e2 := e2) (by omega)
        obtain ⟨f, f2, q1, q2⟩ := hM3.row j (by rw [mset_length]; omega)
        have hr3 := hMr.set (i := i) (k := j) (x := v)
        rw [hr3 j (by rw [mset_length]; omega)] at q1
        have i1 := hil M hMr i (by omega)
        have i2 := hil (mset M i j v) hr3 j (by rw [mset_length]; omega)
        have ho3 := hM3.o
        have ni := hM2.lo2 i (by omega)
        have nj := hM3.lo2 j (by rw [mset_length]; omega)
        have hs1 := hset M i j
        have hs2 := hset (mset M i j v) j i
        have hM4 := hM3.set (i := j) (k := i) (x := v) (e2 := f2) (by rw [mset_length]; omega)
        have hd3 := hd2.setF (nm i) (by omega) (by omega) (some ⟨ints ((mrow M i).set j v), e2⟩)
        have hd4 := hd3.setF (nm j) (by omega) (by omega) (some ⟨ints ((mrow (mset M i j v) j).set i v), f2⟩)
        simp (disch := omega) only [Try.ntmps194, Try.results194, go_sem, Nat.reduceLT, Nat.reduceLeDiff, Nat.reduceEqDiff, Nat.reduceAdd, Nat.reduceSub, Nat.reduceMul, reduceIte, ↓reduceIte, reduceCtorEq, Int.reduceToNat, Int.reduceLE, Int.reduceLT, Int.reduceNeg, Int.reduceSub, Int.reduceAdd, Int.reduceMul, ho, r1, r2, i1, hs1, ho3, q1, q2, i2, hs2, hcl]
        exact ⟨(j + 1, mset (mset M i j v) j i v, _), ⟨by show i < j + 1; omega, hltj, hM4, hd4, by show (mset (mset M i j v) j i v).length = k; rw [mset_length, mset_length, hMl], hr3.set⟩, by show k - (j + 1) < k - j; omega, Wk.of (by simp only [go_sem, ↓List.forall_mem_cons, List.not_mem_nil, false_implies, implies_true, and_true, true_and, and_self, Nat.reduceEqDiff, reduceIte, ↓reduceIte, ri_eq, Int.natCast_add, Int.cast_ofNat_Int]; try simp) rfl⟩
      · simp (disch := omega) only [Try.ntmps194, Try.results194, go_sem, Nat.reduceLT, Nat.reduceLeDiff, Nat.reduceEqDiff, Nat.reduceAdd, Nat.reduceSub, Nat.reduceMul, reduceIte, ↓reduceIte, reduceCtorEq, Int.reduceToNat, Int.reduceLE, Int.reduceLT, Int.reduceNeg, Int.reduceSub, Int.reduceAdd, Int.reduceMul]
        exact ⟨(i + 1, M, H1), ⟨hlt, hM, hd, hMl, hMr⟩, by show k - (i + 1) < k - i; omega, Wk.of (by simp only [go_sem, ↓List.forall_mem_cons, List.not_mem_nil, false_implies, implies_true, and_true, true_and, and_self, Nat.reduceEqDiff, reduceIte, ↓reduceIte, ri_eq, Int.natCast_add, Int.cast_ofNat_Int]; try simp) rfl⟩
    · obtain rfl : i = k := by omega
      have hfin : MQ B cb H (.own ob 0 i i 1 false) H1 := ⟨ob, cs, nm, M, by rw [hMl], hM, hd, by omega, by omega, by rw [hMl]; exact hMr⟩
      simp (disch := omega) only [Try.ntmps194, Try.results194, go_sem, Nat.reduceLT, Nat.reduceLeDiff, Nat.reduceEqDiff, Nat.reduceAdd, Nat.reduceSub, Nat.reduceMul, reduceIte, ↓reduceIte, reduceCtorEq, Int.reduceToNat, Int.reduceLE, Int.reduceLT, Int.reduceNeg, Int.reduceSub, Int.reduceAdd, Int.reduceMul]
      exact hfin
end Go.Sh

/-
  Drawing a matrix that may be none.
-/
namespace Go.Sh
set_option linter.unusedSimpArgs false
set_option linter.unusedVariables false
open Go Go.Proofs

def AQ (B : List Int) (cb : Nat) (H : Heap) (r : SV) (H' : Heap) : Prop :=
  ∃ ob cs nm M, r = .own ob 0 M.length M.length 1 false ∧ MatH H' H.nb ob cs nm M ∧ DS B cb H H' ∧ (1 ≤ M.length ∧ M.length ≤ 7) ∧ ∀ i, i < M.length → (mrow M i).length ≤ 6

set_option maxRecDepth 20000 in
set_option maxHeartbeats 8000000 in
theorem Try.l17Any_ok (B : List Int) (hB : B.length ≤ 1048576) (H : Heap) (cb : Nat) (hc : Cur B H cb) (hcb : cb < H.nb) : CallS Try.prog 171 [.optr cb 0] H (AQ B cb H) := by
  refine CallS.of_body Try.func171 rfl (by kernel_rfl) (by simp [Try.ntmps171]) ?_
  refine SW.seqW ⟨ofL [(0, .optr cb 0)], H⟩ ?_ ?_
  · refine SW_of_vc Try.mixed _ _ _ (by kernel_rfl) ?_
    simp (disch := omega) only [Try.ntmps171, Try.results171, go_sem, Nat.reduceLT, Nat.reduceLeDiff, Nat.reduceEqDiff, Nat.reduceAdd, Nat.reduceSub, Nat.reduceMul, reduceIte, ↓reduceIte, reduceCtorEq, Int.reduceToNat, Int.reduceLE, Int.reduceLT, Int.reduceNeg, Int.reduceSub, Int.reduceAdd, Int.reduceMul]
    exact Wk.of (by simp only [go_sem, ↓List.forall_mem_cons, List.not_mem_nil, false_implies, implies_true, and_true, true_and, and_self, Nat.reduceEqDiff, reduceIte, ↓reduceIte, ri_eq, Int.natCast_add, Int.cast_ofNat_Int]; try simp) rfl
  refine SW.seqI (fun y : Nat × List SV × (Nat → Nat) × List (List Int) × Heap => ⟨ofL [(0, .optr cb 0), (3, .own y.1 0 y.2.2.2.1.length y.2.2.2.1.length 1 false)], y.2.2.2.2⟩)
    (fun y => MatH y.2.2.2.2 H.nb y.1 y.2.1 y.2.2.1 y.2.2.2.1 ∧ DS B cb H y.2.2.2.2 ∧ 1 ≤ y.2.2.2.1.length ∧ y.2.2.2.1.length ≤ 6 ∧ Rect y.2.2.2.1 y.2.2.2.1.length) ?_ ?_
  · have hp := DS.push hc hcb ⟨ints [4, 5, 6], false⟩
    have wp := Try.l1Pick_ok B hB [4, 5, 6] (by simp) (by simp) (H.push ⟨ints [4, 5, 6], false⟩) cb H.nb false false hp.cur (by rw [hpush_map, if_pos rfl]) (by omega)
    refine SW_of_vc Try.mixed _ _ _ (by kernel_rfl) ?_
    simp (disch := omega) only [Try.ntmps171, Try.results171, go_sem, Nat.reduceLT, Nat.reduceLeDiff, Nat.reduceEqDiff, Nat.reduceAdd, Nat.reduceSub, Nat.reduceMul, reduceIte, ↓reduceIte, reduceCtorEq, Int.reduceToNat, Int.reduceLE, Int.reduceLT, Int.reduceNeg, Int.reduceSub, Int.reduceAdd, Int.reduceMul]
    refine wp.callX ?_
    rintro r H1 ⟨v, rfl, hv, hs⟩
    have hd := hp.trans hs.ds
    have hv2 : 1 ≤ v ∧ v ≤ 6 := by
      simp at hv; omega
    simp (disch := omega) only [Try.ntmps171, Try.results171, go_sem, Nat.reduceLT, Nat.reduceLeDiff, Nat.reduceEqDiff, Nat.reduceAdd, Nat.reduceSub, Nat.reduceMul, reduceIte, ↓reduceIte, reduceCtorEq, Int.reduceToNat, Int.reduceLE, Int.reduceLT, Int.reduceNeg, Int.reduceSub, Int.reduceAdd, Int.reduceMul]
    refine (Try.l17Matrix_ok B hB v hv2.1 hv2.2 H1 cb hd.cur (by have := hd.nb; omega)).callX ?_
    rintro r H2 ⟨ob, cs, nm, M, rfl, hM, hd2, l1, l2, hr⟩
    simp (disch := omega) only [Try.ntmps171, Try.results171, go_sem, Nat.reduceLT, Nat.reduceLeDiff, Nat.reduceEqDiff, Nat.reduceAdd, Nat.reduceSub, Nat.reduceMul, reduceIte, ↓reduceIte, reduceCtorEq, Int.reduceToNat, Int.reduceLE, Int.reduceLT, Int.reduceNeg, Int.reduceSub, Int.reduceAdd, Int.reduceMul]
    exact ⟨(ob, cs, nm, M, H2), ⟨hM.low hd.nb, hd.trans hd2, l1, l2, hr⟩, Wk.of (by simp only [go_sem, ↓List.forall_mem_cons, List.not_mem_nil, false_implies, implies_true, and_true, true_and, and_self, Nat.reduceEqDiff, reduceIte, ↓reduceIte, ri_eq, Int.natCast_add, Int.cast_ofNat_Int]; try simp) rfl⟩
  rintro ⟨ob, cs, nm, M, H1⟩ ⟨hM, hd, l1, l2, hr⟩
  simp only at hM hd l1 l2 hr
  have hnb := hd.nb
  refine SW.seqI (fun y : Nat × List SV × (Nat → Nat) × List (List Int) × Heap => ⟨ofL [(3, .own y.1 0 y.2.2.2.1.length y.2.2.2.1.length 1 false)], y.2.2.2.2⟩)
    (fun y => MatH y.2.2.2.2 H.nb y.1 y.2.1 y.2.2.1 y.2.2.2.1 ∧ DS B cb H y.2.2.2.2 ∧ (1 ≤ y.2.2.2.1.length ∧ y.2.2.2.1.length ≤ 7) ∧ ∀ i, i < y.2.2.2.1.length → (mrow y.2.2.2.1 i).length ≤ 6) ?_ ?_
  · refine SW_of_vc4 [] 9 (fun H => H.map ob = some ⟨cs, false⟩) [2] Try.mixed _ _ _ (by kernel_rfl) ?_
    have wb := Try.l1Below_ok B hB 16 (by omega) H1 cb hd.cur
    simp (disch := omega) only [Try.ntmps171, Try.results171, go_sem, Nat.reduceLT, Nat.reduceLeDiff, Nat.reduceEqDiff, Nat.reduceAdd, Nat.reduceSub, Nat.reduceMul, reduceIte, ↓reduceIte, reduceCtorEq, Int.reduceToNat, Int.reduceLE, Int.reduceLT, Int.reduceNeg, Int.reduceSub, Int.reduceAdd, Int.reduceMul]
    refine wb.callX ?_
    rintro r H2 ⟨v, rfl, v0, v1, v2, hs⟩
    have hd2 := hd.trans hs.ds
    have hM2 := hM.fr (Nat.le_of_eq hs.nb.symm) (fun b b1 b2 => hs.map (by omega))
    clear hM hd hs
    have hlo := hM2.lo1
    have hnb2 := hd2.nb
    have ho := hM2.o
    have hcl : cs.length = M.length := hM2.ln
    have hrl : ∀ i, i < M.length → (mrow M i).length ≤ 6 := fun i hi => by rw [hr i hi]; omega
    rcases (by omega : v = 0 ∨ v = 1 ∨ v = 2 ∨ 3 ≤ v) with rfl | rfl | rfl | h3
    · obtain ⟨e, e2, r1, r2⟩ := hM2.row 0 (by omega)
      have n0 := hM2.lo2 0 (by omega)
      have hl0 := hr 0 (by omega)
      rw [hl0] at r1
      have hil : (ints (mrow M 0)).length = M.length := by rw [ints_length, hl0]
      have hst : (ints (mrow M 0)).set 0 (.val (.int .i64 1)) = ints ((mrow M 0).set 0 1) := by simp [ints]
      have hM3 := hM2.set (i := 0) (k := 0) (x := 1) (e2 := e2) (by omega)
      have hd3 := hd2.setF (nm 0) (by omega) (by omega) (some ⟨ints ((mrow M 0).set 0 1), e2⟩)
      have hml : (mset M 0 0 1).length = M.length := mset_length ..
      simp (disch := omega) only [Try.ntmps171, Try.results171, go_sem, Nat.reduceLT, Nat.reduceLeDiff, Nat.reduceEqDiff, Nat.reduceAdd, Nat.reduceSub, Nat.reduceMul, reduceIte, ↓reduceIte, reduceCtorEq, Int.reduceToNat, Int.reduceLE, Int.reduceLT, Int.reduceNeg, Int.reduceSub, Int.reduceAdd, Int.reduceMul, ho, r1, r2, hil, hst, hcl]
      exact ⟨(ob, cs, nm, mset M 0 0 1, _), ⟨hM3, hd3, by show 1 ≤ (mset M 0 0 1).length ∧ (mset M 0 0 1).length ≤ 7; omega, fun i hi => by show (mrow (mset M 0 0 1) i).length ≤ 6; rw [mset_row_length]; exact hrl i (by rw [← hml]; exact hi)⟩, Wk.of (by simp only [go_sem, ↓List.forall_mem_cons, List.not_mem_nil, false_implies, implies_true, and_true, true_and, and_self, Nat.reduceEqDiff, reduceIte, ↓reduceIte, ri_eq, Int.natCast_add, Int.cast_ofNat_Int, hml]; try simp) rfl⟩
    · have htk : List.take M.length cs = cs := List.take_of_length_le (by omega)
      have hml : (M ++ [[]]).length = M.length + 1 := by simp
      simp (disch := omega) only [Try.ntmps171, Try.results171, go_sem, Nat.reduceLT, Nat.reduceLeDiff, Nat.reduceEqDiff, Nat.reduceAdd, Nat.reduceSub, Nat.reduceMul, reduceIte, ↓reduceIte, reduceCtorEq, Int.reduceToNat, Int.reduceLE, Int.reduceLT, Int.reduceNeg, Int.reduceSub, Int.reduceAdd, Int.reduceMul, ho, hcl, htk, hset_map, hpush_map, hset_nb, hpush_nb]
      have e1 : DS B cb H ((H2.push ⟨[], false⟩).push ⟨[.own H2.nb 0 0 0 1 false], false⟩) := (hd2.trans (DS.push hd2.cur (by omega) _)).trans (DS.push (DS.push hd2.cur (by omega) _).cur (by rw [hpush_nb]; omega) _)
      have e2 := e1.setF ob (by omega) (by omega) none
      refine ⟨(H2.nb + 1 + 1, cs ++ [.own H2.nb 0 0 0 1 false], fun i => if i < M.length then nm i else H2.nb, M ++ [[]], _), ⟨hM2.snoc (ob' := H2.nb + 1 + 1) (r := H2.nb) (l := 0) (L := []) (e := false) (e2 := false) rfl ?_ ?_ (fun b b1 b2 b3 => ?_) ?_ ?_ ?_ (by omega), e2.trans (DS.push e2.cur (by simp only [hset_nb, hpush_nb]; omega) _), by show 1 ≤ (M ++ [[]]).length ∧ (M ++ [[]]).length ≤ 7; omega, fun i hi => ?_⟩, Wk.of (by simp only [go_sem, ↓List.forall_mem_cons, List.not_mem_nil, false_implies, implies_true, and_true, true_and, and_self, Nat.reduceEqDiff, reduceIte, ↓reduceIte, ri_eq, Int.natCast_add, Int.cast_ofNat_Int, hml]; try simp) rfl⟩
      · simp (disch := omega) only [hset_map, hpush_map, hset_nb, hpush_nb, if_pos, ↓reduceIte]
      · simp (disch := omega) only [hset_map, hpush_map, hset_nb, hpush_nb, if_pos, if_neg, ↓reduceIte]
        rfl
      · simp (disch := omega) only [hset_map, hpush_map, hset_nb, hpush_nb, if_neg, ↓reduceIte]
      · simp only [hset_nb, hpush_nb]; omega
      · simp only [hset_nb, hpush_nb]; omega
      · simp only [hset_nb, hpush_nb]; omega
      · show (mrow (M ++ [[]]) i).length ≤ 6
        by_cases hlt : i < M.length
        · rw [mrow_lt hlt]; exact hrl i hlt
        · have hi : i < (M ++ [[]]).length := hi
          have : i = M.length := by omega
          rw [this, mrow_at]; simp
    · by_cases hm1 : 1 < M.length
      · have hp := DS.push hd2.cur (by omega) ⟨ints [1001, 7, -1001], false⟩
        have wp := Try.l1Pick_ok B hB [1001, 7, -1001] (by simp) (by simp) (H2.push ⟨ints [1001, 7, -1001], false⟩) cb H2.nb false false hp.cur (by rw [hpush_map, if_pos rfl]) (by omega)
        obtain ⟨e, e2, r1, r2⟩ := hM2.row 0 (by omega)
        have n0 := hM2.lo2 0 (by omega)
        have hl0 := hr 0 (by omega)
        rw [hl0] at r1
        have hil : (ints (mrow M 0)).length = M.length := by rw [ints_length, hl0]
        simp (disch := omega) only [Try.ntmps171, Try.results171, go_sem, Nat.reduceLT, Nat.reduceLeDiff, Nat.reduceEqDiff, Nat.reduceAdd, Nat.reduceSub, Nat.reduceMul, reduceIte, ↓reduceIte, reduceCtorEq, Int.reduceToNat, Int.reduceLE, Int.reduceLT, Int.reduceNeg, Int.reduceSub, Int.reduceAdd, Int.reduceMul, ho, hcl]
        refine ⟨.own (nm 0) 0 M.length M.length 1 e, fun H3 h3 => ?_, ?_⟩
        · have h3 : H3.map ob = some ⟨cs, false⟩ := h3
          simp (disch := omega) only [Try.ntmps171, Try.results171, go_sem, Nat.reduceLT, Nat.reduceLeDiff, Nat.reduceEqDiff, Nat.reduceAdd, Nat.reduceSub, Nat.reduceMul, reduceIte, ↓reduceIte, reduceCtorEq, Int.reduceToNat, Int.reduceLE, Int.reduceLT, Int.reduceNeg, Int.reduceSub, Int.reduceAdd, Int.reduceMul, h3, r1]
        simp (disch := omega) only [Try.ntmps171, Try.results171, go_sem, Nat.reduceLT, Nat.reduceLeDiff, Nat.reduceEqDiff, Nat.reduceAdd, Nat.reduceSub, Nat.reduceMul, reduceIte, ↓reduceIte, reduceCtorEq, Int.reduceToNat, Int.reduceLE, Int.reduceLT, Int.reduceNeg, Int.reduceSub, Int.reduceAdd, Int.reduceMul, ho, hcl, hpush_map]
        refine CallS.callN wp (PickQ.ne (by simp) hp.cur) ?_
        rintro r H3 ⟨v, rfl, hv, hs⟩
        have ho3 : H3.map ob = some ⟨cs, false⟩ := by rw [hs.map (by omega), hpush_map, if_neg (by omega), ho]
        have hnb3 : H3.nb = H2.nb + 1 := hs.nb
        have hM3 := hM2.fr (H' := H3) (by omega) (fun b b1 b2 => by rw [hs.map (by omega), hpush_map, if_neg (by omega)])
        have hd3 := (hd2.trans hp).trans hs.ds
        obtain ⟨f, f2, q1, q2⟩ := hM3.row 0 (by omega)
        have hst : (ints (mrow M 0)).set 1 (.val (.int .i64 v)) = ints ((mrow M 0).set 1 v) := by simp [ints]
        have hM4 := hM3.set (i := 0) (k := 1) (x := v) (e2 := f2) (by omega)
        have hd4 := hd3.setF (nm 0) (by omega) (by omega) (some ⟨ints ((mrow M 0).set 1 v), f2⟩)
        have hml : (mset M 0 1 v).length = M.length := mset_length ..
        have ho4 : (H3.set (nm 0) (some ⟨ints ((mrow M 0).set 1 v), f2⟩)).map ob = some ⟨cs, false⟩ := by rw [hset_map, if_neg (by omega), ho3]
        simp (disch := omega) only [Try.ntmps171, Try.results171, go_sem, Nat.reduceLT, Nat.reduceLeDiff, Nat.reduceEqDiff, Nat.reduceAdd, Nat.reduceSub, Nat.reduceMul, reduceIte, ↓reduceIte, reduceCtorEq, Int.reduceToNat, Int.reduceLE, Int.reduceLT, Int.reduceNeg, Int.reduceSub, Int.reduceAdd, Int.reduceMul, ho3, q2, hil, hst, ho4]
        exact ⟨(ob, cs, nm, mset M 0 1 v, _), ⟨hM4, hd4, by show 1 ≤ (mset M 0 1 v).length ∧ (mset M 0 1 v).length ≤ 7; omega, fun i hi => by show (mrow (mset M 0 1 v) i).length ≤ 6; rw [mset_row_length]; exact hrl i (by rw [← hml]; exact hi)⟩, Wk.of (by simp only [go_sem, ↓List.forall_mem_cons, List.not_mem_nil, false_implies, implies_true, and_true, true_and, and_self, Nat.reduceEqDiff, reduceIte, ↓reduceIte, ri_eq, Int.natCast_add, Int.cast_ofNat_Int, hml]; try simp) rfl⟩
      · simp (disch := omega) only [Try.ntmps171, Try.results171, go_sem, Nat.reduceLT, Nat.reduceLeDiff, Nat.reduceEqDiff, Nat.reduceAdd, Nat.reduceSub, Nat.reduceMul, reduceIte, ↓reduceIte, reduceCtorEq, Int.reduceToNat, Int.reduceLE, Int.reduceLT, Int.reduceNeg, Int.reduceSub, Int.reduceAdd, Int.reduceMul, ho, hcl]
        exact ⟨(ob, cs, nm, M, H2), ⟨hM2, hd2, by show 1 ≤ M.length ∧ M.length ≤ 7; omega, hrl⟩, Wk.of (by simp only [go_sem, ↓List.forall_mem_cons, List.not_mem_nil, false_implies, implies_true, and_true, true_and, and_self, Nat.reduceEqDiff, reduceIte, ↓reduceIte, ri_eq, Int.natCast_add, Int.cast_ofNat_Int]; try simp) rfl⟩
    · simp (disch := omega) only [Try.ntmps171, Try.results171, go_sem, Nat.reduceLT, Nat.reduceLeDiff, Nat.reduceEqDiff, Nat.reduceAdd, Nat.reduceSub, Nat.reduceMul, reduceIte, ↓reduceIte, reduceCtorEq, Int.reduceToNat, Int.reduceLE, Int.reduceLT, Int.reduceNeg, Int.reduceSub, Int.reduceAdd, Int.reduceMul]
      exact ⟨(ob, cs, nm, M, H2), ⟨hM2, hd2, by show 1 ≤ M.length ∧ M.length ≤ 7; omega, hrl⟩, Wk.of (by simp only [go_sem, ↓List.forall_mem_cons, List.not_mem_nil, false_implies, implies_true, and_true, true_and, and_self, Nat.reduceEqDiff, reduceIte, ↓reduceIte, ri_eq, Int.natCast_add, Int.cast_ofNat_Int]; try simp) rfl⟩
  · rintro ⟨ob, cs, nm, M, H1⟩ ⟨hM, hd, l2, hr⟩
    simp only at hM hd l2 hr
    have hfin : AQ B cb H (.own ob 0 M.length M.length 1 false) H1 := ⟨ob, cs, nm, M, rfl, hM, hd, l2, hr⟩
    refine SW_of_vc Try.mixed _ _ _ (by kernel_rfl) ?_
    simp (disch := omega) only [Try.ntmps171, Try.results171, go_sem, Nat.reduceLT, Nat.reduceLeDiff, Nat.reduceEqDiff, Nat.reduceAdd, Nat.reduceSub, Nat.reduceMul, reduceIte, ↓reduceIte, reduceCtorEq, Int.reduceToNat, Int.reduceLE, Int.reduceLT, Int.reduceNeg, Int.reduceSub, Int.reduceAdd, Int.reduceMul]
    exact hfin
end Go.Sh

/-
  Contracts: the constraints of some items. Of the reference and of the program.
-/
namespace Go.Sh
set_option linter.unusedSimpArgs false
set_option linter.unusedVariables false
open Go Go.Proofs

def rkeep (S : List Int) (c : Con) : Bool := decide (c.1 ∈ S) && decide (c.2.1 ∈ S)
def rmap (S : List Int) (c : Con) : Con := (idx c.1 S, idx c.2.1 S, c.2.2)
def rs (C : List Con) (S : List Int) : List Con := (C.filter (rkeep S)).map (rmap S)
theorem rs_nil (S : List Int) : rs [] S = [] := rfl
theorem rs_keep {C : List Con} {S : List Int} {k : Nat} {a b : Int} {s : Bool} (h : k < C.length) (hc : cg C k = (a, b, s)) (ha : a ∈ S) (hb : b ∈ S) : rs (C.take (k + 1)) S = rs (C.take k) S ++ [(idx a S, idx b S, s)] := by
  have e : C[k] = (a, b, s) := by rw [← hc]; simp [cg, h]
  rw [rs, List.take_succ_eq_append_getElem h, e, List.filter_append, List.map_append]
  simp [rs, rkeep, rmap, ha, hb]
theorem rs_drop {C : List Con} {S : List Int} {k : Nat} {a b : Int} {s : Bool} (h : k < C.length) (hc : cg C k = (a, b, s)) (hn : ¬ (a ∈ S ∧ b ∈ S)) : rs (C.take (k + 1)) S = rs (C.take k) S := by
  have e : C[k] = (a, b, s) := by rw [← hc]; simp [cg, h]
  rw [rs, List.take_succ_eq_append_getElem h, e, List.filter_append, List.map_append]
  have : rkeep S (a, b, s) = false := by
    rw [rkeep, ← Bool.decide_and]
    exact decide_eq_false hn
  simp [rs, this]
theorem rs_len (C : List Con) (S : List Int) : (rs C S).length ≤ C.length := by
  rw [rs, List.length_map]
  exact List.length_filter_le _ _
theorem cons_snoc (R : List Con) (a b : Int) (s : Bool) : cons R ++ [.val (.int .i64 a), .val (.int .i64 b), .val (.bool s)] = cons (R ++ [(a, b, s)]) := by
  rw [← cons_append]; rfl
theorem cons_take_self (R : List Con) : (cons R).take (R.length * 3) = cons R := by rw [← cons_length R, List.take_length]
theorem cons_nil : cons [] = [] := rfl
def slC (b : Nat) (R : List Con) : SV := if R.length = 0 then .val (.slice none 0 0) else .own b 0 R.length R.length 3 false
def slH (b : Nat) (R : List Con) : List (Nat × Blk) := if R.length = 0 then [] else [(b, ⟨cons R, false⟩)]
theorem slC_snoc (b : Nat) (R : List Con) (x : Con) : slC b (R ++ [x]) = .own b 0 (R.length + 1) (R.length + 1) 3 false := by simp [slC]
theorem slH_snoc (b : Nat) (R : List Con) (x : Con) : slH b (R ++ [x]) = [(b, ⟨cons (R ++ [x]), false⟩)] := by simp [slH]
theorem slC_f {b : Nat} {R : List Con} (h : R.length ≠ 0) : slC b R = .own b 0 R.length R.length 3 false := if_neg h
theorem slH_f {b : Nat} {R : List Con} (h : R.length ≠ 0) : slH b R = [(b, ⟨cons R, false⟩)] := if_neg h
theorem slC_t {b : Nat} {R : List Con} (h : R.length = 0) : slC b R = .val (.slice none 0 0) := if_pos h
theorem slH_t {b : Nat} {R : List Con} (h : R.length = 0) : slH b R = [] := if_pos h

theorem slH_one (b : Nat) (p q : Int) (t : Bool) : slH b [(p, q, t)] = [(b, ⟨[.val (.int .i64 p), .val (.int .i64 q), .val (.bool t)], false⟩)] := rfl
theorem rep3c (a b c : SV) : rep [a, b, c] 3 = [a, b, c] := rfl
def ResC (R : List Con) (r : SV) (H : Heap) : Prop := (R.length = 0 → r = .val (.slice none 0 0)) ∧ (R.length ≠ 0 → FlatRes R.length 3 (cons R) r H)

end Go.Sh

/-
  Drawing constraints and labels.
-/
namespace Go.Sh
set_option linter.unusedSimpArgs false
set_option linter.unusedVariables false
open Go Go.Proofs

theorem cons_snoc1 (C : List Con) (a b : Int) (s : Bool) : cons C ++ [.val (.int .i64 a), .val (.int .i64 b), .val (.bool s)] = cons (C ++ [(a, b, s)]) := by simp [cons, con3]
theorem cons_flat1 (a b : Int) (s : Bool) : [SV.val (.int .i64 a), .val (.int .i64 b), .val (.bool s)].all flat = true := rfl
def ConQ (B : List Int) (q : Nat) (cb : Nat) (H : Heap) (r : SV) (H' : Heap) : Prop :=
  ∃ lb C, r = .own lb 0 C.length C.length 3 false ∧ H'.map lb = some ⟨cons C, false⟩ ∧ H.nb ≤ lb ∧ lb < H'.nb ∧ DS B cb H H' ∧ C.length ≤ q

set_option maxRecDepth 20000 in
set_option maxHeartbeats 8000000 in
theorem Try.l18List_ok (B : List Int) (hB : B.length ≤ 1048576) (n : Int) (h9 : n ≤ 9) (h0 : 0 ≤ n) (H : Heap) (cb : Nat) (hc : Cur B H cb) (hcb : cb < H.nb) : CallS Try.prog 174 [.optr cb 0, .val (.int .i64 n)] H (ConQ B 4 cb H) := by
  have hd0 := DS.push hc hcb ⟨[], false⟩
  have w := Try.l1Below_ok B hB 5 (by omega) (H.push ⟨[], false⟩) cb hd0.cur
  refine CallS.of_body Try.func174 rfl (by kernel_rfl) (by simp [Try.ntmps174]) ?_
  refine SW_of_vc Try.mixed _ _ _ (by kernel_rfl) ?_
  simp (disch := omega) only [Try.ntmps174, Try.results174, go_sem, Nat.reduceLT, Nat.reduceLeDiff, Nat.reduceEqDiff, Nat.reduceAdd, Nat.reduceSub, Nat.reduceMul, reduceIte, ↓reduceIte, reduceCtorEq, Int.reduceToNat, Int.reduceLE, Int.reduceLT, Int.reduceNeg, Int.reduceSub, Int.reduceAdd, Int.reduceMul]
  refine w.callX ?_
  rintro r H0 ⟨v, rfl, v0, v1, v2, hs⟩
  have v1 := v1 (by omega)
  obtain ⟨m, rfl⟩ := Int.eq_ofNat_of_zero_le v0
  have hd1 := hd0.trans hs.ds
  have hnb0 : H0.nb = H.nb + 1 := hs.nb
  have hm0 : H0.map H.nb = some ⟨[], false⟩ := by rw [hs.map (by omega), hpush_map, if_pos rfl]
  simp (disch := omega) only [Try.ntmps174, Try.results174, go_sem, Nat.reduceLT, Nat.reduceLeDiff, Nat.reduceEqDiff, Nat.reduceAdd, Nat.reduceSub, Nat.reduceMul, reduceIte, ↓reduceIte, reduceCtorEq, Int.reduceToNat, Int.reduceLE, Int.reduceLT, Int.reduceNeg, Int.reduceSub, Int.reduceAdd, Int.reduceMul]
  refine LoopW.loop (fun y : Nat × List Con × Nat × Heap => ⟨ofL [(0, .optr cb 0), (1, .val (.int .i64 n)), (5, .own y.2.2.1 0 y.2.1.length y.2.1.length 3 false), (6, .val (.int .i64 y.1))], y.2.2.2⟩)
    (fun y => y.1 ≤ 4 ∧ y.2.1.length + y.1 ≤ 4 ∧ y.2.2.2.map y.2.2.1 = some ⟨cons y.2.1, false⟩ ∧ H.nb ≤ y.2.2.1 ∧ y.2.2.1 < y.2.2.2.nb ∧ DS B cb H y.2.2.2) (fun y => y.1) (m, [], H.nb, H0)
    ⟨by show m ≤ 4; omega, by show 0 + m ≤ 4; omega, hm0, Nat.le_refl _, by show H.nb < H0.nb; omega, hd1⟩ (Wk.of (by simp only [go_sem, ↓List.forall_mem_cons, List.not_mem_nil, false_implies, implies_true, and_true, true_and, and_self, Nat.reduceEqDiff, reduceIte, ↓reduceIte, ri_eq, Int.natCast_add, Int.cast_ofNat_Int]; try simp) rfl) ?_
  clear hm0 hnb0 hd1 hs
  rintro ⟨k, C, lb, H1⟩ ⟨hk, hCk, hm, hl1, hl2, hd⟩
  simp only at hk hCk hm hl1 hl2 hd
  have hfin : ConQ B 4 cb H (.own lb 0 C.length C.length 3 false) H1 := ⟨lb, C, rfl, hm, hl1, hl2, hd, by omega⟩
  have hnb := hd.nb
  have hcl := cons_length C
  have htk : List.take (C.length * 3) (cons C) = cons C := List.take_of_length_le (by omega)
  cases k with
  | zero =>
    refine SW_of_vc Try.mixed _ _ _ (by kernel_rfl) ?_
    simp (disch := omega) only [Try.ntmps174, Try.results174, go_sem, Nat.reduceLT, Nat.reduceLeDiff, Nat.reduceEqDiff, Nat.reduceAdd, Nat.reduceSub, Nat.reduceMul, reduceIte, ↓reduceIte, reduceCtorEq, Int.reduceToNat, Int.reduceLE, Int.reduceLT, Int.reduceNeg, Int.reduceSub, Int.reduceAdd, Int.reduceMul]
    exact hfin
  | succ k =>
    refine SW_of_vc Try.mixed _ _ _ (by kernel_rfl) ?_
    by_cases hn1 : 1 < n
    · have w1 := Try.l1Below_ok B hB (n - 1) (by omega) H1 cb hd.cur
      simp (disch := omega) only [Try.ntmps174, Try.results174, go_sem, Nat.reduceLT, Nat.reduceLeDiff, Nat.reduceEqDiff, Nat.reduceAdd, Nat.reduceSub, Nat.reduceMul, reduceIte, ↓reduceIte, reduceCtorEq, Int.reduceToNat, Int.reduceLE, Int.reduceLT, Int.reduceNeg, Int.reduceSub, Int.reduceAdd, Int.reduceMul]
      refine w1.callX ?_
      rintro r H2 ⟨a, rfl, a0, a1, a2, hs⟩
      have a1 := a1 (by omega)
      have hd2 := hd.trans hs.ds
      have w2 := Try.l1Below_ok B hB (n - 1 - a) (by omega) H2 cb hd2.cur
      simp (disch := omega) only [Try.ntmps174, Try.results174, go_sem, Nat.reduceLT, Nat.reduceLeDiff, Nat.reduceEqDiff, Nat.reduceAdd, Nat.reduceSub, Nat.reduceMul, reduceIte, ↓reduceIte, reduceCtorEq, Int.reduceToNat, Int.reduceLE, Int.reduceLT, Int.reduceNeg, Int.reduceSub, Int.reduceAdd, Int.reduceMul]
      refine w2.callX ?_
      rintro r H3 ⟨b, rfl, b0, b1, b2, hs3⟩
      have b1 := b1 (by omega)
      have hd3 := hd2.trans hs3.ds
      have w3 := Try.l1Once_ok B hB 2 (by omega) H3 cb hd3.cur
      simp (disch := omega) only [Try.ntmps174, Try.results174, go_sem, Nat.reduceLT, Nat.reduceLeDiff, Nat.reduceEqDiff, Nat.reduceAdd, Nat.reduceSub, Nat.reduceMul, reduceIte, ↓reduceIte, reduceCtorEq, Int.reduceToNat, Int.reduceLE, Int.reduceLT, Int.reduceNeg, Int.reduceSub, Int.reduceAdd, Int.reduceMul]
      refine w3.callX ?_
      rintro r H4 ⟨s, rfl, hs4⟩
      have hd4 := hd3.trans hs4.ds
      have e1 := hs.nb
      have e2 := hs3.nb
      have e3 := hs4.nb
      have hm4 : H4.map lb = some ⟨cons C, false⟩ := by rw [hs4.map (by omega), hs3.map (by omega), hs.map (by omega), hm]
      have hsn := cons_snoc1 C a (a + 1 + b) s
      simp (disch := omega) only [Try.ntmps174, Try.results174, go_sem, Nat.reduceLT, Nat.reduceLeDiff, Nat.reduceEqDiff, Nat.reduceAdd, Nat.reduceSub, Nat.reduceMul, reduceIte, ↓reduceIte, reduceCtorEq, Int.reduceToNat, Int.reduceLE, Int.reduceLT, Int.reduceNeg, Int.reduceSub, Int.reduceAdd, Int.reduceMul, hm4, hcl, htk, hsn, cons_flat1, rep3c, hset_map, hpush_map, hset_nb, hpush_nb]
      have hcl1 : (C ++ [(a, a + 1 + b, s)]).length = C.length + 1 := by simp
      have hkk : (((k + 1 : Nat) : Int)) - 1 = (k : Int) := by omega
      have e4 := DS.push hd4.cur (by omega) ⟨[.val (.int .i64 a), .val (.int .i64 (a + 1 + b)), .val (.bool s)], false⟩
      have e5 := (hd4.trans e4).setF lb hl1 (by omega) none
      exact ⟨(k, C ++ [(a, a + 1 + b, s)], H4.nb + 1, _), ⟨by show k ≤ 4; omega, by show (C ++ [(a, a + 1 + b, s)]).length + k ≤ 4; omega, by simp (disch := omega) only [hset_map, hpush_map, hset_nb, hpush_nb, if_pos, ↓reduceIte], by show H.nb ≤ H4.nb + 1; omega, by simp only [hset_nb, hpush_nb]; omega, e5.trans (DS.push e5.cur (by simp only [hset_nb, hpush_nb]; omega) _)⟩, by show k < k + 1; omega, Wk.of (by simp only [go_sem, ↓List.forall_mem_cons, List.not_mem_nil, false_implies, implies_true, and_true, true_and, and_self, Nat.reduceEqDiff, reduceIte, ↓reduceIte, ri_eq, Int.natCast_add, Int.cast_ofNat_Int, hcl1, hkk]; try simp) rfl⟩
    · simp (disch := omega) only [Try.ntmps174, Try.results174, go_sem, Nat.reduceLT, Nat.reduceLeDiff, Nat.reduceEqDiff, Nat.reduceAdd, Nat.reduceSub, Nat.reduceMul, reduceIte, ↓reduceIte, reduceCtorEq, Int.reduceToNat, Int.reduceLE, Int.reduceLT, Int.reduceNeg, Int.reduceSub, Int.reduceAdd, Int.reduceMul]
      exact hfin

def LabQ (B : List Int) (n : Nat) (cb : Nat) (H : Heap) (r : SV) (H' : Heap) : Prop :=
  ∃ lb L, r = .own lb 0 L.length L.length 1 false ∧ H'.map lb = some ⟨ints L, false⟩ ∧ H.nb ≤ lb ∧ lb < H'.nb ∧ DS B cb H H' ∧ L.length = n
set_option maxRecDepth 20000 in
set_option maxHeartbeats 8000000 in
theorem Try.l19Labels_ok (B : List Int) (hB : B.length ≤ 1048576) (n : Nat) (h9 : n ≤ 9) (H : Heap) (cb : Nat) (hc : Cur B H cb) (hcb : cb < H.nb) : CallS Try.prog 119 [.optr cb 0, .val (.int .i64 n)] H (LabQ B n cb H) := by
  have hd0 := DS.push hc hcb ⟨[], false⟩
  refine CallS.of_body Try.func119 rfl (by kernel_rfl) (by simp [Try.ntmps119]) ?_
  refine SW_of_vc Try.mixed _ _ _ (by kernel_rfl) ?_
  simp (disch := omega) only [Try.ntmps119, Try.results119, go_sem, Nat.reduceLT, Nat.reduceLeDiff, Nat.reduceEqDiff, Nat.reduceAdd, Nat.reduceSub, Nat.reduceMul, reduceIte, ↓reduceIte, reduceCtorEq, Int.reduceToNat, Int.reduceLE, Int.reduceLT, Int.reduceNeg, Int.reduceSub, Int.reduceAdd, Int.reduceMul]
  refine LoopW.loop (fun y : Nat × Int × List Int × Nat × Heap => ⟨ofL [(0, .optr cb 0), (1, .val (.int .i64 n)), (5, .own y.2.2.2.1 0 y.1 y.1 1 false), (6, .val (.int .i64 y.2.1)), (7, .val (.int .i64 y.1))], y.2.2.2.2⟩)
    (fun y => y.1 ≤ n ∧ -1 ≤ y.2.1 ∧ y.2.1 ≤ 3 ∧ y.2.2.1.length = y.1 ∧ y.2.2.2.2.map y.2.2.2.1 = some ⟨ints y.2.2.1, false⟩ ∧ H.nb ≤ y.2.2.2.1 ∧ y.2.2.2.1 < y.2.2.2.2.nb ∧ DS B cb H y.2.2.2.2) (fun y => n - y.1) (0, -1, [], H.nb, H.push ⟨[], false⟩)
    ⟨by simp, by simp, by simp, rfl, by rw [hpush_map, if_pos rfl]; rfl, Nat.le_refl _, by show H.nb < (H.push _).nb; rw [hpush_nb]; omega, hd0⟩ (Wk.of (by simp only [go_sem, ↓List.forall_mem_cons, List.not_mem_nil, false_implies, implies_true, and_true, true_and, and_self, Nat.reduceEqDiff, reduceIte, ↓reduceIte, ri_eq, Int.natCast_add, Int.cast_ofNat_Int]; try simp) rfl) ?_
  rintro ⟨k, top, L, lb, H1⟩ ⟨hk, ht1, ht2, hL, hm, hl1, hl2, hd⟩
  simp only at hk ht1 ht2 hL hm hl1 hl2 hd
  refine SW_of_vc Try.mixed _ _ _ (by kernel_rfl) ?_
  by_cases hlt : k < n
  · obtain ⟨q, hq⟩ : ∃ q : Int, q = if 4 < top + 2 then 4 else top + 2 := ⟨_, rfl⟩
    have hq2 : 1 ≤ q ∧ q ≤ 4 := by rw [hq]; split <;> omega
    have w := Try.l1Below_ok B hB q (by omega) H1 cb hd.cur
    have hil : (ints L).length = k := by rw [ints_length, hL]
    have htk : List.take k (ints L) = ints L := List.take_of_length_le (by omega)
    simp (disch := omega) only [Try.ntmps119, Try.results119, go_sem, Nat.reduceLT, Nat.reduceLeDiff, Nat.reduceEqDiff, Nat.reduceAdd, Nat.reduceSub, Nat.reduceMul, reduceIte, ↓reduceIte, reduceCtorEq, Int.reduceToNat, Int.reduceLE, Int.reduceLT, Int.reduceNeg, Int.reduceSub, Int.reduceAdd, Int.reduceMul]
    rw [← hq]
    refine w.callX ?_
    rintro r H2 ⟨v, rfl, v0, v1, v2, hs⟩
    have v1 := v1 (by omega)
    have hd2 := hd.trans hs.ds
    have hm2 : H2.map lb = some ⟨ints L, false⟩ := by rw [hs.map (by omega), hm]
    have hnb2 := hs.nb
    have hnb := hd.nb
    have hsn : ints L ++ [.val (.int .i64 v)] = ints (L ++ [v]) := by simp [ints]
    simp (disch := omega) only [Try.ntmps119, Try.results119, go_sem, Nat.reduceLT, Nat.reduceLeDiff, Nat.reduceEqDiff, Nat.reduceAdd, Nat.reduceSub, Nat.reduceMul, reduceIte, ↓reduceIte, reduceCtorEq, Int.reduceToNat, Int.reduceLE, Int.reduceLT, Int.reduceNeg, Int.reduceSub, Int.reduceAdd, Int.reduceMul, hm2, hil, htk, hsn, hset_map, hpush_map, hset_nb, hpush_nb]
    have e4 := DS.push hd2.cur (by omega) ⟨[.val (.int .i64 v)], false⟩
    have e5 := (hd2.trans e4).setF lb hl1 (by omega) none
    exact ⟨(k + 1, if top < v then v else top, L ++ [v], H2.nb + 1, _), ⟨hlt, by show -1 ≤ (if top < v then v else top); split <;> omega, by show (if top < v then v else top) ≤ 3; split <;> omega, by show (L ++ [v]).length = k + 1; simp [hL], by simp (disch := omega) only [hset_map, hpush_map, hset_nb, hpush_nb, if_pos, ↓reduceIte], by show H.nb ≤ H2.nb + 1; omega, by simp only [hset_nb, hpush_nb]; omega, e5.trans (DS.push e5.cur (by simp only [hset_nb, hpush_nb]; omega) _)⟩, by show n - (k + 1) < n - k; omega, Wk.of (by simp only [go_sem, ↓List.forall_mem_cons, List.not_mem_nil, false_implies, implies_true, and_true, true_and, and_self, Nat.reduceEqDiff, reduceIte, ↓reduceIte, ri_eq, Int.natCast_add, Int.cast_ofNat_Int]; try simp) rfl⟩
  · obtain rfl : k = n := by omega
    have hfin : LabQ B k cb H (.own lb 0 k k 1 false) H1 := ⟨lb, L, by rw [hL], hm, hl1, hl2, hd, hL⟩
    simp (disch := omega) only [Try.ntmps119, Try.results119, go_sem, Nat.reduceLT, Nat.reduceLeDiff, Nat.reduceEqDiff, Nat.reduceAdd, Nat.reduceSub, Nat.reduceMul, reduceIte, ↓reduceIte, reduceCtorEq, Int.reduceToNat, Int.reduceLE, Int.reduceLT, Int.reduceNeg, Int.reduceSub, Int.reduceAdd, Int.reduceMul]
    exact hfin

def CaQ (B : List Int) (cb : Nat) (H : Heap) (r : SV) (H' : Heap) : Prop :=
  ∃ n : Int, ∃ r0, r = .tup [.val (.int .i64 n), r0] ∧ 0 ≤ n ∧ n ≤ 9 ∧ ConQ B 5 cb H r0 H'
theorem ConQ.low {B : List Int} {q : Nat} {cb : Nat} {H H1 H' : Heap} {r : SV} (h : ConQ B q cb H1 r H') (hd : DS B cb H H1) : ConQ B q cb H r H' := by
  obtain ⟨lb, C, e, hm, l1, l2, d, hl⟩ := h
  exact ⟨lb, C, e, hm, by have := hd.nb; omega, l2, hd.trans d, hl⟩
set_option maxRecDepth 20000 in
set_option maxHeartbeats 8000000 in
theorem Try.l18Any_ok (B : List Int) (hB : B.length ≤ 1048576) (H : Heap) (cb : Nat) (hc : Cur B H cb) (hcb : cb < H.nb) : CallS Try.prog 137 [.optr cb 0] H (CaQ B cb H) := by
  have hp := DS.push hc hcb ⟨ints [3, 4, 5, 6, 8, 2], false⟩
  have wp := Try.l1Pick_ok B hB [3, 4, 5, 6, 8, 2] (by simp) (by simp) (H.push ⟨ints [3, 4, 5, 6, 8, 2], false⟩) cb H.nb false false hp.cur (by rw [hpush_map, if_pos rfl]) (by omega)
  refine CallS.of_body Try.func137 rfl (by kernel_rfl) (by simp [Try.ntmps137]) ?_
  refine SW_of_vc Try.mixed _ _ _ (by kernel_rfl) ?_
  simp (disch := omega) only [Try.ntmps137, Try.results137, go_sem, Nat.reduceLT, Nat.reduceLeDiff, Nat.reduceEqDiff, Nat.reduceAdd, Nat.reduceSub, Nat.reduceMul, reduceIte, ↓reduceIte, reduceCtorEq, Int.reduceToNat, Int.reduceLE, Int.reduceLT, Int.reduceNeg, Int.reduceSub, Int.reduceAdd, Int.reduceMul]
  refine wp.callX ?_
  rintro r H1 ⟨n, rfl, hv, hs⟩
  have hd1 := hp.trans hs.ds
  have hn2 : 0 ≤ n ∧ n ≤ 9 := by simp at hv; omega
  have hnb1 := hd1.nb
  simp (disch := omega) only [Try.ntmps137, Try.results137, go_sem, Nat.reduceLT, Nat.reduceLeDiff, Nat.reduceEqDiff, Nat.reduceAdd, Nat.reduceSub, Nat.reduceMul, reduceIte, ↓reduceIte, reduceCtorEq, Int.reduceToNat, Int.reduceLE, Int.reduceLT, Int.reduceNeg, Int.reduceSub, Int.reduceAdd, Int.reduceMul]
  refine (Try.l18List_ok B hB n hn2.2 hn2.1 H1 cb hd1.cur (by omega)).callX ?_
  rintro r H2 ⟨lb, C, rfl, hm, l1, l2, hd2, hl5⟩
  have hnb2 := hd2.nb
  have hd3 := hd1.trans hd2
  have wb := Try.l1Below_ok B hB 16 (by omega) H2 cb hd2.cur
  simp (disch := omega) only [Try.ntmps137, Try.results137, go_sem, Nat.reduceLT, Nat.reduceLeDiff, Nat.reduceEqDiff, Nat.reduceAdd, Nat.reduceSub, Nat.reduceMul, reduceIte, ↓reduceIte, reduceCtorEq, Int.reduceToNat, Int.reduceLE, Int.reduceLT, Int.reduceNeg, Int.reduceSub, Int.reduceAdd, Int.reduceMul]
  refine wb.callX ?_
  rintro r H3 ⟨v, rfl, v0, v1, v2, hs3⟩
  have hd4 := hd3.trans hs3.ds
  have hnb3 := hs3.nb
  have hm3 : H3.map lb = some ⟨cons C, false⟩ := by rw [hs3.map (by omega), hm]
  rcases (by omega : v = 0 ∨ v = 1 ∨ 2 ≤ v) with rfl | rfl | h3
  · have hp3 := DS.push hd4.cur (by omega) ⟨ints [0, 9, 1], false⟩
    have wp := Try.l1Pick_ok B hB [0, 9, 1] (by simp) (by simp) (H3.push ⟨ints [0, 9, 1], false⟩) cb H3.nb false false hp3.cur (by rw [hpush_map, if_pos rfl]) (by omega)
    simp (disch := omega) only [Try.ntmps137, Try.results137, go_sem, Nat.reduceLT, Nat.reduceLeDiff, Nat.reduceEqDiff, Nat.reduceAdd, Nat.reduceSub, Nat.reduceMul, reduceIte, ↓reduceIte, reduceCtorEq, Int.reduceToNat, Int.reduceLE, Int.reduceLT, Int.reduceNeg, Int.reduceSub, Int.reduceAdd, Int.reduceMul]
    refine wp.callX ?_
    rintro r H4 ⟨n2, rfl, hv, hs4⟩
    have hfin : CaQ B cb H (.tup [.val (.int .i64 n2), .own lb 0 C.length C.length 3 false]) H4 := ⟨n2, _, rfl, by simp at hv; omega, by simp at hv; omega, lb, C, rfl, by rw [hs4.map (by omega), hpush_map, if_neg (by omega), hm3], by omega, by rw [hs4.nb, hpush_nb]; omega, (hd4.trans hp3).trans hs4.ds, by omega⟩
    simp (disch := omega) only [Try.ntmps137, Try.results137, go_sem, Nat.reduceLT, Nat.reduceLeDiff, Nat.reduceEqDiff, Nat.reduceAdd, Nat.reduceSub, Nat.reduceMul, reduceIte, ↓reduceIte, reduceCtorEq, Int.reduceToNat, Int.reduceLE, Int.reduceLT, Int.reduceNeg, Int.reduceSub, Int.reduceAdd, Int.reduceMul]
    exact hfin
  · have w1 := Try.l1Below_ok B hB 4 (by omega) H3 cb hd4.cur
    simp (disch := omega) only [Try.ntmps137, Try.results137, go_sem, Nat.reduceLT, Nat.reduceLeDiff, Nat.reduceEqDiff, Nat.reduceAdd, Nat.reduceSub, Nat.reduceMul, reduceIte, ↓reduceIte, reduceCtorEq, Int.reduceToNat, Int.reduceLE, Int.reduceLT, Int.reduceNeg, Int.reduceSub, Int.reduceAdd, Int.reduceMul]
    refine w1.callX ?_
    rintro r H4 ⟨a, rfl, a0, a1, a2, hs4⟩
    have hd5 := hd4.trans hs4.ds
    have w2 := Try.l1Below_ok B hB 4 (by omega) H4 cb hd5.cur
    simp (disch := omega) only [Try.ntmps137, Try.results137, go_sem, Nat.reduceLT, Nat.reduceLeDiff, Nat.reduceEqDiff, Nat.reduceAdd, Nat.reduceSub, Nat.reduceMul, reduceIte, ↓reduceIte, reduceCtorEq, Int.reduceToNat, Int.reduceLE, Int.reduceLT, Int.reduceNeg, Int.reduceSub, Int.reduceAdd, Int.reduceMul]
    refine w2.callX ?_
    rintro r H5 ⟨b, rfl, b0, b1, b2, hs5⟩
    have hd6 := hd5.trans hs5.ds
    have n4 := hs4.nb
    have n5 := hs5.nb
    have hm5 : H5.map lb = some ⟨cons C, false⟩ := by rw [hs5.map (by omega), hs4.map (by omega), hm3]
    have hcl := cons_length C
    have htk : List.take (C.length * 3) (cons C) = cons C := List.take_of_length_le (by omega)
    have hsn := cons_snoc1 C a b false
    have hcl1 : (C ++ [(a, b, false)]).length = C.length + 1 := by simp
    have e4 := DS.push hd6.cur (by omega) ⟨[.val (.int .i64 a), .val (.int .i64 b), .val (.bool false)], false⟩
    have e5 := (hd6.trans e4).setF lb (by omega) (by omega) none
    have e6 := e5.trans (DS.push e5.cur (by simp only [hset_nb, hpush_nb]; omega) ⟨cons (C ++ [(a, b, false)]), false⟩)
    have hfin : CaQ B cb H (.tup [.val (.int .i64 n), .own (H5.nb + 1) 0 (C.length + 1) (C.length + 1) 3 false]) _ :=
      ⟨n, _, rfl, hn2.1, hn2.2, H5.nb + 1, C ++ [(a, b, false)], by rw [hcl1], by simp (disch := omega) only [hset_map, hpush_map, hset_nb, hpush_nb, if_pos, ↓reduceIte], by omega, by simp only [hset_nb, hpush_nb]; omega, e6, by omega⟩
    simp (disch := omega) only [Try.ntmps137, Try.results137, go_sem, Nat.reduceLT, Nat.reduceLeDiff, Nat.reduceEqDiff, Nat.reduceAdd, Nat.reduceSub, Nat.reduceMul, reduceIte, ↓reduceIte, reduceCtorEq, Int.reduceToNat, Int.reduceLE, Int.reduceLT, Int.reduceNeg, Int.reduceSub, Int.reduceAdd, Int.reduceMul, hm5, hcl, htk, hsn, cons_flat1, rep3c, hset_map, hpush_map, hset_nb, hpush_nb]
    exact hfin
  · have hfin : CaQ B cb H (.tup [.val (.int .i64 n), .own lb 0 C.length C.length 3 false]) H3 := ⟨n, _, rfl, hn2.1, hn2.2, lb, C, rfl, hm3, by omega, by omega, hd4, by omega⟩
    simp (disch := omega) only [Try.ntmps137, Try.results137, go_sem, Nat.reduceLT, Nat.reduceLeDiff, Nat.reduceEqDiff, Nat.reduceAdd, Nat.reduceSub, Nat.reduceMul, reduceIte, ↓reduceIte, reduceCtorEq, Int.reduceToNat, Int.reduceLE, Int.reduceLT, Int.reduceNeg, Int.reduceSub, Int.reduceAdd, Int.reduceMul]
    exact hfin
end Go.Sh

/-
  The search for the best partition: of the reference.
-/
namespace Go.Sh
set_option linter.unusedSimpArgs false
set_option linter.unusedVariables false
open Go Go.Proofs

/-- One look at a constraint. -/
def badAt (p : List Int) (c : Con) : Bool := decide (c.2.1 = (p.length : Int) - 1) && (decide (p.getD c.1.toNat 0 = p.getD (p.length - 1) 0) != c.2.2)
theorem badC_eq (C : List Con) (p : List Int) : badC C p = C.any (badAt p) := rfl
theorem badC_of {C : List Con} {p : List Int} {i : Nat} (hi : i < C.length) (h : badAt p (cg C i) = true) : badC C p = true := by
  rw [badC_eq, List.any_eq_true]; exact ⟨_, cg_mem hi, h⟩
theorem badC_no {C : List Con} {p : List Int} (h : ∀ i, i < C.length → badAt p (cg C i) = false) : badC C p = false := by
  rw [badC_eq, List.any_eq_false]
  intro c hc
  obtain ⟨i, hi, rfl⟩ := List.getElem_of_mem hc
  have := h i hi
  simp only [cg, List.getD_eq_getElem?_getD, List.getElem?_eq_getElem hi, Option.getD_some] at this
  rw [this]; simp

set_option maxRecDepth 20000 in
set_option maxHeartbeats 4000000 in
theorem Try.l20Bad_ok (n : Nat) (M0 X Y Z : SV) (C : List Con) (p : List Int) (hn : n ≤ 8) (hC : areCons n C = true) (h1 : 1 ≤ p.length) (hpn : p.length ≤ n) :
    PCall Try.prog 185 [.rptr [M0, rc C, X, Y, Z] 0, ri p] (.val (.bool (badC C p))) := by
  obtain ⟨_, hCl, hCc⟩ := areCons_t hC
  have lC := cons_length C
  refine FCall.pcall (R := fun r _ => r = .val (.bool (badC C p))) ?_ 0 (by rintro r H rfl; exact view_bool)
  refine FCall.of_body Try.func185 rfl (by kernel_rfl) (by simp [Try.ntmps185]) ?_
  refine SW_of_vc Try.mixed _ _ _ (by kernel_rfl) ?_
  simp (disch := omega) only [Try.ntmps185, Try.results185, go_sem, Nat.reduceLT, Nat.reduceLeDiff, Nat.reduceEqDiff, Nat.reduceAdd, Nat.reduceSub, Nat.reduceMul, reduceIte, ↓reduceIte, reduceCtorEq, Int.reduceToNat, Int.reduceLE, Int.reduceLT, Int.reduceNeg, Int.reduceSub, Int.reduceAdd, Int.reduceMul, rc]
  refine LoopW.loop (fun i : Nat => ⟨ofL [(0, .rptr [M0, rc C, X, Y, Z] 0), (1, ri p), (5, .val (.int .i64 ((p.length : Int) - 1))), (6, .val (.int .i64 i))], hp [] 0⟩)
    (fun i => i ≤ C.length ∧ ∀ k, k < i → badAt p (cg C k) = false) (fun i => C.length - i) 0 ⟨by omega, fun k h => absurd h (by omega)⟩ (Wk.of (by simp only [go_sem, ↓List.forall_mem_cons, List.not_mem_nil, false_implies, implies_true, and_true, true_and, and_self, Nat.reduceEqDiff, reduceIte, ↓reduceIte, ri_eq, Int.natCast_add, Int.cast_ofNat_Int, rc]; try simp) rfl) ?_
  rintro i ⟨hi, hno⟩
  refine SW_of_vc Try.mixed _ _ _ (by kernel_rfl) ?_
  by_cases hlt : i < C.length
  · obtain ⟨xa, ya, s, hc⟩ := con_ex C i
    have hm : (xa, ya, s) ∈ C := by rw [← hc]; exact cg_mem hlt
    obtain ⟨x1, x2, x3⟩ := hCc _ hm
    simp only at x1 x2 x3
    obtain ⟨x, rfl⟩ := Int.eq_ofNat_of_zero_le x1
    obtain ⟨y, rfl⟩ := Int.eq_ofNat_of_zero_le (by omega : 0 ≤ ya)
    obtain ⟨q1, q2, q3, _⟩ := cons_of hlt hc
    have hil : (ints p).length = p.length := ints_length p
    have hba : badAt p (cg C i) = (decide ((y : Int) = (p.length : Int) - 1) && (decide (p.getD x 0 = p.getD (p.length - 1) 0) != s)) := by rw [hc]; rfl
    have hnext : badAt p (cg C i) = false → ∀ k, k < i + 1 → badAt p (cg C k) = false := fun h k hk => by
      by_cases e : k = i
      · rw [e]; exact h
      · exact hno k (by omega)
    have hyes := badC_of (p := p) hlt
    by_cases c1 : (y : Int) = (p.length : Int) - 1
    · obtain ⟨m, hm⟩ : ∃ m, p.length = m + 1 := ⟨p.length - 1, by omega⟩
      have hy : y = m := by omega
      subst hy
      have e1 : p.length - 1 = y := by omega
      rw [e1, decide_eq_true c1, Bool.true_and] at hba
      have gx : (ints p)[x]? = some (.val (.int .i64 (p.getD x 0))) := ints_get (by omega)
      have gy : (ints p)[y]? = some (.val (.int .i64 (p.getD y 0))) := ints_get (by omega)
      have e2 : ((p.length : Int) - 1) = (y : Int) := by omega
      have e3 : IntKind.i64.wrap ((p.length : Int) - 1) = (y : Int) := by rw [e2]; exact wrap_id (by omega) (by omega)
      generalize p.getD x 0 = u at *
      generalize p.getD y 0 = v at *
      by_cases c2 : u = v
      · rw [decide_eq_true c2] at hba
        cases s with
        | true =>
          simp (disch := omega) only [Try.ntmps185, Try.results185, go_sem, Nat.reduceLT, Nat.reduceLeDiff, Nat.reduceEqDiff, Nat.reduceAdd, Nat.reduceSub, Nat.reduceMul, reduceIte, ↓reduceIte, reduceCtorEq, Int.reduceToNat, Int.reduceLE, Int.reduceLT, Int.reduceNeg, Int.reduceSub, Int.reduceAdd, Int.reduceMul, rc, q1, q2, q3, gx, gy, hil, lC, e2]
          exact ⟨i + 1, ⟨hlt, hnext hba⟩, by omega, Wk.of (by simp only [go_sem, ↓List.forall_mem_cons, List.not_mem_nil, false_implies, implies_true, and_true, true_and, and_self, Nat.reduceEqDiff, reduceIte, ↓reduceIte, ri_eq, Int.natCast_add, Int.cast_ofNat_Int, rc, e2]; try simp) rfl⟩
        | false =>
          rw [hyes hba]
          simp (disch := omega) only [Try.ntmps185, Try.results185, go_sem, Nat.reduceLT, Nat.reduceLeDiff, Nat.reduceEqDiff, Nat.reduceAdd, Nat.reduceSub, Nat.reduceMul, reduceIte, ↓reduceIte, reduceCtorEq, Int.reduceToNat, Int.reduceLE, Int.reduceLT, Int.reduceNeg, Int.reduceSub, Int.reduceAdd, Int.reduceMul, rc, q1, q2, q3, gx, gy, hil, lC, e2]
          exact Fin.val rfl
      · rw [decide_eq_false c2] at hba
        cases s with
        | false =>
          simp (disch := omega) only [Try.ntmps185, Try.results185, go_sem, Nat.reduceLT, Nat.reduceLeDiff, Nat.reduceEqDiff, Nat.reduceAdd, Nat.reduceSub, Nat.reduceMul, reduceIte, ↓reduceIte, reduceCtorEq, Int.reduceToNat, Int.reduceLE, Int.reduceLT, Int.reduceNeg, Int.reduceSub, Int.reduceAdd, Int.reduceMul, rc, q1, q2, q3, gx, gy, hil, lC, e2]
          exact ⟨i + 1, ⟨hlt, hnext hba⟩, by omega, Wk.of (by simp only [go_sem, ↓List.forall_mem_cons, List.not_mem_nil, false_implies, implies_true, and_true, true_and, and_self, Nat.reduceEqDiff, reduceIte, ↓reduceIte, ri_eq, Int.natCast_add, Int.cast_ofNat_Int, rc, e2]; try simp) rfl⟩
        | true =>
          rw [hyes hba]
          simp (disch := omega) only [Try.ntmps185, Try.results185, go_sem, Nat.reduceLT, Nat.reduceLeDiff, Nat.reduceEqDiff, Nat.reduceAdd, Nat.reduceSub, Nat.reduceMul, reduceIte, ↓reduceIte, reduceCtorEq, Int.reduceToNat, Int.reduceLE, Int.reduceLT, Int.reduceNeg, Int.reduceSub, Int.reduceAdd, Int.reduceMul, rc, q1, q2, q3, gx, gy, hil, lC, e2]
          exact Fin.val rfl
    · rw [decide_eq_false c1, Bool.false_and] at hba
      simp (disch := omega) only [Try.ntmps185, Try.results185, go_sem, Nat.reduceLT, Nat.reduceLeDiff, Nat.reduceEqDiff, Nat.reduceAdd, Nat.reduceSub, Nat.reduceMul, reduceIte, ↓reduceIte, reduceCtorEq, Int.reduceToNat, Int.reduceLE, Int.reduceLT, Int.reduceNeg, Int.reduceSub, Int.reduceAdd, Int.reduceMul, rc, q1, q2, q3, lC]
      exact ⟨i + 1, ⟨hlt, hnext hba⟩, by omega, Wk.of (by simp only [go_sem, ↓List.forall_mem_cons, List.not_mem_nil, false_implies, implies_true, and_true, true_and, and_self, Nat.reduceEqDiff, reduceIte, ↓reduceIte, ri_eq, Int.natCast_add, Int.cast_ofNat_Int, rc]; try simp) rfl⟩
  · obtain rfl : i = C.length := by omega
    rw [badC_no hno]
    simp (disch := omega) only [Try.ntmps185, Try.results185, go_sem, Nat.reduceLT, Nat.reduceLeDiff, Nat.reduceEqDiff, Nat.reduceAdd, Nat.reduceSub, Nat.reduceMul, reduceIte, ↓reduceIte, reduceCtorEq, Int.reduceToNat, Int.reduceLE, Int.reduceLT, Int.reduceNeg, Int.reduceSub, Int.reduceAdd, Int.reduceMul, rc]
    exact Fin.val rfl
end Go.Sh

/-
  The search for the best partition: the reference's walk.
-/
namespace Go.Sh
set_option linter.unusedSimpArgs false
set_option linter.unusedVariables false
open Go Go.Proofs

/-- What the reference's search holds in memory. -/
structure SHp (M : List (List Int)) (C : List Con) (H : Heap) (sb : Nat) (s : BS) (fb : Nat) : Prop where
  m : H.map sb = some ⟨[rr M, rc C, nlI fb s.first, .val (.int .i64 s.least), .val (.int .i64 s.count)], true⟩
  mf : s.first.length ≠ 0 → H.map fb = some ⟨ints s.first, false⟩ ∧ fb ≠ sb ∧ fb < H.nb
  sn : sb < H.nb
def WQ (M : List (List Int)) (C : List Con) (sb : Nat) (t : BS) (H : Heap) (r : SV) (H' : Heap) : Prop :=
  r = .tup [] ∧ H.nb ≤ H'.nb ∧ (∀ b, b < H.nb → b ≠ sb → H'.map b = H.map b) ∧ ∃ fb', SHp M C H' sb t fb'
structure XH (H1 H2 : Heap) (xb : Nat) (L : List Int) : Prop where
  mx : H2.map xb = some ⟨ints L, false⟩
  n1 : xb < H2.nb
  n2 : H1.nb ≤ xb
  fr : ∀ b, b < H1.nb → H2.map b = H1.map b
theorem SHp.xh {M : List (List Int)} {C : List Con} {H1 H2 : Heap} {sb fb xb : Nat} {s : BS} {L : List Int} (h : SHp M C H1 sb s fb) (x : XH H1 H2 xb L) : SHp M C H2 sb s fb := by
  have := x.n1
  have := x.n2
  have hs := h.sn
  exact ⟨by rw [x.fr _ hs]; exact h.m, fun hf => by
    obtain ⟨f1, f2, f3⟩ := h.mf hf
    exact ⟨by rw [x.fr _ f3]; exact f1, f2, by omega⟩, by omega⟩
theorem view_nlI {H : Heap} {f b : Nat} {T : List Int} (h : T.length ≠ 0 → H.map b = some ⟨ints T, false⟩) : view H (f + 1) (nlI b T) = some (ri T) := by
  by_cases h0 : T.length = 0
  · rw [nlI_t h0, List.length_eq_zero_iff.1 h0]; exact view_nil
  · rw [nlI_f h0]; exact view_own (h h0) rfl
def walkTo (M : List (List Int)) (C : List Con) (k : Nat) (p : List Int) (nx : Nat) (cost : Int) (s : BS) (x : Nat) : BS :=
  (List.range x).foldl (fun s (x : Nat) => if badC C (p ++ [(x : Int)]) = true then s else walkB M C k (p ++ [(x : Int)]) (max nx (x + 1)) (cost + wadd M p x p.length) s) s
theorem walkTo_succ {M : List (List Int)} {C : List Con} {k : Nat} {p : List Int} {nx : Nat} {cost : Int} {s : BS} {x : Nat} :
    walkTo M C k p nx cost s (x + 1) = if badC C (p ++ [(x : Int)]) = true then walkTo M C k p nx cost s x else walkB M C k (p ++ [(x : Int)]) (max nx (x + 1)) (cost + wadd M p x p.length) (walkTo M C k p nx cost s x) := by
  rw [walkTo, List.range_succ, List.foldl_append]; rfl
theorem walkTo_count {M : List (List Int)} {C : List Con} {k : Nat} {p : List Int} {nx : Nat} {cost : Int} {s : BS} {x : Nat} (hx : x ≤ nx + 1) (h : nx + (k + 1) ≤ 8) : (walkTo M C k p nx cost s x).count ≤ s.count + x * 9 ^ k :=
  foldl_count (g := fun s (x : Nat) => if badC C (p ++ [(x : Int)]) = true then s else walkB M C k (p ++ [(x : Int)]) (max nx (x + 1)) (cost + wadd M p x p.length) s) (B := 9 ^ k) x s fun s y hy => by
    show (if badC C (p ++ [(y : Int)]) = true then s else walkB M C k (p ++ [(y : Int)]) (max nx (y + 1)) (cost + wadd M p y p.length) s).count ≤ _
    split
    · exact Nat.le_add_right _ _
    · exact walk_count k _ _ _ s (by omega)

set_option maxRecDepth 20000 in
set_option maxHeartbeats 8000000 in
theorem Try.l20Walk_ok {M : List (List Int)} {C : List Con} (hw : WM M) (hC : areCons M.length C = true) (sb : Nat) : ∀ (k : Nat) (p : List Int) (nx : Nat) (cost : Int) (s : BS) (fb lb : Nat) (H : Heap), p.length + k = M.length → nx + k ≤ 8 → s.count + 9 ^ k ≤ 1000000000 → 0 ≤ cost → cost ≤ 8000 * p.length →
    H.map lb = some ⟨ints p, false⟩ → lb ≠ sb → lb < H.nb → SHp M C H sb s fb →
    CallS Try.prog 157 [.optr sb 0, .own lb 0 p.length p.length 1 false, .val (.int .i64 ((nx : Int) - 1)), .val (.int .i64 cost)] H (WQ M C sb (walkB M C k p nx cost s) H)
  | 0, p, nx, cost, s, fb, lb, H, hl, hnx, hct, hc0, hc1, hp, hls, hln, h => by
    have hM := hw.1
    have m := h.m
    have hrl := rows_length M
    by_cases g : 0 ≤ s.least ∧ s.least < cost
    · rw [walkB, if_pos g]
      have hfin : WQ M C sb s H (.tup []) H := ⟨rfl, Nat.le_refl _, fun _ _ _ => rfl, fb, h⟩
      obtain ⟨g1, g2⟩ := g
      refine CallS.of_body Try.func157 rfl (by kernel_rfl) (by simp [Try.ntmps157]) ?_
      refine SW_of_vc Try.mixed _ _ _ (by kernel_rfl) ?_
      simp (disch := omega) only [Try.ntmps157, Try.results157, go_sem, Nat.reduceLT, Nat.reduceLeDiff, Nat.reduceEqDiff, Nat.reduceAdd, Nat.reduceSub, Nat.reduceMul, reduceIte, ↓reduceIte, reduceCtorEq, Int.reduceToNat, Int.reduceLE, Int.reduceLT, Int.reduceNeg, Int.reduceSub, Int.reduceAdd, Int.reduceMul, m, rr_eq, rc]
      exact hfin
    · rw [walkB, if_neg g, walkEnd]
      have hpl : p.length = M.length := by omega
      have hip : (ints p).length = p.length := ints_length p
      have htk : List.take p.length (ints p) = ints p := List.take_of_length_le (by omega)
      have hf := ints_flat p
      have hsn := h.sn
      have hp2 : ((H.push ⟨[], false⟩).map lb) = some ⟨ints p, false⟩ := by rw [hpush_map, if_neg (by omega), hp]
      have hp3 : ((H.push ⟨[], false⟩).map H.nb) = some ⟨[], false⟩ := by rw [hpush_map, if_pos rfl]
      by_cases g1 : s.least < 0 ∨ cost < s.least
      · rw [if_pos g1]
        have hgd : s.least < 0 ∨ (¬ s.least < 0 ∧ cost < s.least) := by omega
        rcases hgd with g2 | ⟨g2, g3⟩
        · refine CallS.of_body Try.func157 rfl (by kernel_rfl) (by simp [Try.ntmps157]) ?_
          refine SW_of_vc Try.mixed _ _ _ (by kernel_rfl) ?_
          simp (disch := omega) only [Try.ntmps157, Try.results157, go_sem, Nat.reduceLT, Nat.reduceLeDiff, Nat.reduceEqDiff, Nat.reduceAdd, Nat.reduceSub, Nat.reduceMul, reduceIte, ↓reduceIte, reduceCtorEq, Int.reduceToNat, Int.reduceLE, Int.reduceLT, Int.reduceNeg, Int.reduceSub, Int.reduceAdd, Int.reduceMul, m, rr_eq, rc, hp, hip, htk, hf, hset_map, hpush_map, hset_nb, hpush_nb]
          refine ⟨rfl, ?_, fun b hb hbs => ?_, H.nb + 1, ?_, fun _ => ⟨?_, ?_, ?_⟩, ?_⟩
          · simp only [hset_nb, hpush_nb]; omega
          · simp (disch := omega) only [hset_map, hpush_map, hset_nb, hpush_nb, if_neg, ↓reduceIte]
          · rw [hset_map, if_pos rfl, rr_eq, rc, nlI_f (by show p.length ≠ 0; omega)]
            rfl
          · simp (disch := omega) only [hset_map, hpush_map, hset_nb, hpush_nb, if_neg, if_pos, ↓reduceIte]
          · omega
          · simp only [hset_nb, hpush_nb]; omega
          · simp only [hset_nb, hpush_nb]; omega
        · refine CallS.of_body Try.func157 rfl (by kernel_rfl) (by simp [Try.ntmps157]) ?_
          refine SW_of_vc Try.mixed _ _ _ (by kernel_rfl) ?_
          simp (disch := omega) only [Try.ntmps157, Try.results157, go_sem, Nat.reduceLT, Nat.reduceLeDiff, Nat.reduceEqDiff, Nat.reduceAdd, Nat.reduceSub, Nat.reduceMul, reduceIte, ↓reduceIte, reduceCtorEq, Int.reduceToNat, Int.reduceLE, Int.reduceLT, Int.reduceNeg, Int.reduceSub, Int.reduceAdd, Int.reduceMul, m, rr_eq, rc, hp, hip, htk, hf, hset_map, hpush_map, hset_nb, hpush_nb]
          refine ⟨rfl, ?_, fun b hb hbs => ?_, H.nb + 1, ?_, fun _ => ⟨?_, ?_, ?_⟩, ?_⟩
          · simp only [hset_nb, hpush_nb]; omega
          · simp (disch := omega) only [hset_map, hpush_map, hset_nb, hpush_nb, if_neg, ↓reduceIte]
          · rw [hset_map, if_pos rfl, rr_eq, rc, nlI_f (by show p.length ≠ 0; omega)]
            rfl
          · simp (disch := omega) only [hset_map, hpush_map, hset_nb, hpush_nb, if_neg, if_pos, ↓reduceIte]
          · omega
          · simp only [hset_nb, hpush_nb]; omega
          · simp only [hset_nb, hpush_nb]; omega
      · rw [if_neg g1]
        refine CallS.of_body Try.func157 rfl (by kernel_rfl) (by simp [Try.ntmps157]) ?_
        refine SW_of_vc Try.mixed _ _ _ (by kernel_rfl) ?_
        simp (disch := omega) only [Try.ntmps157, Try.results157, go_sem, Nat.reduceLT, Nat.reduceLeDiff, Nat.reduceEqDiff, Nat.reduceAdd, Nat.reduceSub, Nat.reduceMul, reduceIte, ↓reduceIte, reduceCtorEq, Int.reduceToNat, Int.reduceLE, Int.reduceLT, Int.reduceNeg, Int.reduceSub, Int.reduceAdd, Int.reduceMul, m, rr_eq, rc, hp, hip, htk, hf, hset_map, hpush_map, hset_nb, hpush_nb]
        refine ⟨rfl, Nat.le_refl _, fun b hb hbs => ?_, fb, ?_, fun hf0 => ?_, hsn⟩
        · rw [hset_map, if_neg hbs]
        · rw [hset_map, if_pos rfl, rr_eq, rc]
          rfl
        · obtain ⟨f1, f2, f3⟩ := h.mf hf0
          exact ⟨by rw [hset_map, if_neg f2, f1], f2, f3⟩
  | k + 1, p, nx, cost, s, fb, lb, H, hl, hnx, hct, hc0, hc1, hp, hls, hln, h => by
    have hM := hw.1
    have m := h.m
    have hrl := rows_length M
    by_cases g : 0 ≤ s.least ∧ s.least < cost
    · rw [walkB, if_pos g]
      have hfin : WQ M C sb s H (.tup []) H := ⟨rfl, Nat.le_refl _, fun _ _ _ => rfl, fb, h⟩
      obtain ⟨g1, g2⟩ := g
      refine CallS.of_body Try.func157 rfl (by kernel_rfl) (by simp [Try.ntmps157]) ?_
      refine SW_of_vc Try.mixed _ _ _ (by kernel_rfl) ?_
      simp (disch := omega) only [Try.ntmps157, Try.results157, go_sem, Nat.reduceLT, Nat.reduceLeDiff, Nat.reduceEqDiff, Nat.reduceAdd, Nat.reduceSub, Nat.reduceMul, reduceIte, ↓reduceIte, reduceCtorEq, Int.reduceToNat, Int.reduceLE, Int.reduceLT, Int.reduceNeg, Int.reduceSub, Int.reduceAdd, Int.reduceMul, m, rr_eq, rc]
      exact hfin
    · rw [walkB, if_neg g]
      have hip : (ints p).length = p.length := ints_length p
      have htk : List.take p.length (ints p) = ints p := List.take_of_length_le (by omega)
      have hf := ints_flat p
      have hsn := h.sn
      have hwt : (List.range (nx + 1)).foldl (fun s (x : Nat) => if badC C (p ++ [(x : Int)]) = true then s else walkB M C k (p ++ [(x : Int)]) (max nx (x + 1)) (cost + wadd M p x p.length) s) s = walkTo M C k p nx cost s (nx + 1) := rfl
      rw [hwt]
      have h9 : (nx + 1) * 9 ^ k ≤ 9 * 9 ^ k := mul9 (by omega)
      rw [Nat.pow_succ] at hct
      refine CallS.of_body Try.func157 rfl (by kernel_rfl) (by simp [Try.ntmps157]) ?_
      refine SW.seqW ⟨ofL [(0, .optr sb 0), (1, .own lb 0 p.length p.length 1 false), (2, .val (.int .i64 ((nx : Int) - 1))), (3, .val (.int .i64 cost))], H⟩ ?_ ?_
      · refine SW_of_vc Try.mixed _ _ _ (by kernel_rfl) ?_
        have hgd : s.least < 0 ∨ (0 ≤ s.least ∧ cost ≤ s.least) := by omega
        rcases hgd with hg | ⟨hg, hg2⟩
        · simp (disch := omega) only [Try.ntmps157, Try.results157, go_sem, Nat.reduceLT, Nat.reduceLeDiff, Nat.reduceEqDiff, Nat.reduceAdd, Nat.reduceSub, Nat.reduceMul, reduceIte, ↓reduceIte, reduceCtorEq, Int.reduceToNat, Int.reduceLE, Int.reduceLT, Int.reduceNeg, Int.reduceSub, Int.reduceAdd, Int.reduceMul, m, rr_eq, rc]
          exact Wk.of (by simp only [go_sem, ↓List.forall_mem_cons, List.not_mem_nil, false_implies, implies_true, and_true, true_and, and_self, Nat.reduceEqDiff, reduceIte, ↓reduceIte, ri_eq, Int.natCast_add, Int.cast_ofNat_Int]; try simp) rfl
        · simp (disch := omega) only [Try.ntmps157, Try.results157, go_sem, Nat.reduceLT, Nat.reduceLeDiff, Nat.reduceEqDiff, Nat.reduceAdd, Nat.reduceSub, Nat.reduceMul, reduceIte, ↓reduceIte, reduceCtorEq, Int.reduceToNat, Int.reduceLE, Int.reduceLT, Int.reduceNeg, Int.reduceSub, Int.reduceAdd, Int.reduceMul, m, rr_eq, rc]
          exact Wk.of (by simp only [go_sem, ↓List.forall_mem_cons, List.not_mem_nil, false_implies, implies_true, and_true, true_and, and_self, Nat.reduceEqDiff, reduceIte, ↓reduceIte, ri_eq, Int.natCast_add, Int.cast_ofNat_Int]; try simp) rfl
      refine SW_of_vc Try.mixed _ _ _ (by kernel_rfl) ?_
      simp (disch := omega) only [Try.ntmps157, Try.results157, go_sem, Nat.reduceLT, Nat.reduceLeDiff, Nat.reduceEqDiff, Nat.reduceAdd, Nat.reduceSub, Nat.reduceMul, reduceIte, ↓reduceIte, reduceCtorEq, Int.reduceToNat, Int.reduceLE, Int.reduceLT, Int.reduceNeg, Int.reduceSub, Int.reduceAdd, Int.reduceMul, m, rr_eq, rc, hp, hip, htk, hf, hset_map, hpush_map, hset_nb, hpush_nb]
      refine LoopW.loop (fun y : Nat × Nat × Heap => ⟨ofL [(0, .optr sb 0), (1, .own lb 0 p.length p.length 1 false), (2, .val (.int .i64 ((nx : Int) - 1))), (3, .val (.int .i64 cost)), (8, .val (.int .i64 p.length)), (9, .val (.int .i64 y.1))], y.2.2⟩)
        (fun y => y.1 ≤ nx + 1 ∧ SHp M C y.2.2 sb (walkTo M C k p nx cost s y.1) y.2.1 ∧ H.nb ≤ y.2.2.nb ∧ (∀ b, b < H.nb → b ≠ sb → y.2.2.map b = H.map b)) (fun y => nx + 1 - y.1) (0, fb, H)
        ⟨by simp, h, Nat.le_refl _, fun _ _ _ => rfl⟩ (Wk.of (by simp only [go_sem, ↓List.forall_mem_cons, List.not_mem_nil, false_implies, implies_true, and_true, true_and, and_self, Nat.reduceEqDiff, reduceIte, ↓reduceIte, ri_eq, Int.natCast_add, Int.cast_ofNat_Int]; try simp) rfl) ?_
      clear h m g hwt fb
      rintro ⟨x, fb, H1⟩ ⟨hx, h, hnb, hfr⟩
      simp only at hx h hnb hfr
      have m := h.m
      have hp1 : H1.map lb = some ⟨ints p, false⟩ := by rw [hfr lb hln hls, hp]
      by_cases hlt : x < nx + 1
      · have hxi : (x : Int) ≤ 8 := by omega
        have hsucc := walkTo_succ (M := M) (C := C) (k := k) (p := p) (nx := nx) (cost := cost) (s := s) (x := x)
        have hct1 := walkTo_count (M := M) (C := C) (k := k) (p := p) (cost := cost) (s := s) hx hnx
        have hx9 : (x + 1) * 9 ^ k ≤ (nx + 1) * 9 ^ k := mul9 (by omega)
        rw [Nat.succ_mul] at hx9
        generalize walkTo M C k p nx cost s x = t at *
        have wb := Try.l20Bad_ok M.length (rr M) (ri t.first) (.val (.int .i64 t.least)) (.val (.int .i64 t.count)) C (p ++ [(x : Int)]) hM.2 hC (by simp) (by simp; omega)
        have hl1 : (p ++ [(x : Int)]).length = p.length + 1 := by simp
        have hs2 := h.sn
        refine SW.seqW ⟨ofL [(0, .optr sb 0), (1, .own lb 0 p.length p.length 1 false), (2, .val (.int .i64 ((nx : Int) - 1))), (3, .val (.int .i64 cost)), (8, .val (.int .i64 p.length)), (9, .val (.int .i64 x))], H1⟩ ?_ ?_
        · refine SW_of_vc Try.mixed _ _ _ (by kernel_rfl) ?_
          simp (disch := omega) only [Try.ntmps157, Try.results157, go_sem, Nat.reduceLT, Nat.reduceLeDiff, Nat.reduceEqDiff, Nat.reduceAdd, Nat.reduceSub, Nat.reduceMul, reduceIte, ↓reduceIte, reduceCtorEq, Int.reduceToNat, Int.reduceLE, Int.reduceLT, Int.reduceNeg, Int.reduceSub, Int.reduceAdd, Int.reduceMul]
          exact Wk.of (by simp only [go_sem, ↓List.forall_mem_cons, List.not_mem_nil, false_implies, implies_true, and_true, true_and, and_self, Nat.reduceEqDiff, reduceIte, ↓reduceIte, ri_eq, Int.natCast_add, Int.cast_ofNat_Int]; try simp) rfl
        refine SW.seq (SW.block ?_)
        refine SW.seqI (fun y : Nat × Heap => ⟨ofL [(0, .optr sb 0), (1, .own lb 0 p.length p.length 1 false), (2, .val (.int .i64 ((nx : Int) - 1))), (3, .val (.int .i64 cost)), (8, .val (.int .i64 p.length)), (9, .val (.int .i64 x)), (10, .own y.1 0 (p.length + 1) (p.length + 1) 1 false)], y.2⟩) (fun y => XH H1 y.2 y.1 (p ++ [(x : Int)])) ?_ ?_
        · refine SW_of_vc Try.mixed _ _ _ (by kernel_rfl) ?_
          by_cases h0 : p.length = 0
          · have hi0 : ints p = [] := by rw [List.length_eq_zero_iff.1 h0]; rfl
            have hi1 : [SV.val (.int .i64 (x : Int))] = ints (p ++ [(x : Int)]) := by rw [List.length_eq_zero_iff.1 h0]; rfl
            simp (disch := omega) only [Try.ntmps157, Try.results157, go_sem, Nat.reduceLT, Nat.reduceLeDiff, Nat.reduceEqDiff, Nat.reduceAdd, Nat.reduceSub, Nat.reduceMul, reduceIte, ↓reduceIte, reduceCtorEq, Int.reduceToNat, Int.reduceLE, Int.reduceLT, Int.reduceNeg, Int.reduceSub, Int.reduceAdd, Int.reduceMul, m, rr_eq, rc, hp1, hip, htk, hf, hset_map, hpush_map, hset_nb, hpush_nb, hi0, h0]
            refine ⟨(H1.nb + 1 + 1, _), ?_, Wk.of (by simp only [go_sem, ↓List.forall_mem_cons, List.not_mem_nil, false_implies, implies_true, and_true, true_and, and_self, Nat.reduceEqDiff, reduceIte, ↓reduceIte, ri_eq, Int.natCast_add, Int.cast_ofNat_Int, h0]; try simp) rfl⟩
            rw [hi1]
            exact ⟨by simp (disch := omega) only [hset_map, hpush_map, hset_nb, hpush_nb, if_neg, if_pos, ↓reduceIte], by simp only [hset_nb, hpush_nb]; omega, by show H1.nb ≤ H1.nb + 1 + 1; omega, fun b hb => by simp (disch := omega) only [hset_map, hpush_map, hset_nb, hpush_nb, if_neg, ↓reduceIte]⟩
          · simp (disch := omega) only [Try.ntmps157, Try.results157, go_sem, Nat.reduceLT, Nat.reduceLeDiff, Nat.reduceEqDiff, Nat.reduceAdd, Nat.reduceSub, Nat.reduceMul, reduceIte, ↓reduceIte, reduceCtorEq, Int.reduceToNat, Int.reduceLE, Int.reduceLT, Int.reduceNeg, Int.reduceSub, Int.reduceAdd, Int.reduceMul, m, rr_eq, rc, hp1, hip, htk, hf, hset_map, hpush_map, hset_nb, hpush_nb]
            refine ⟨(H1.nb + 1 + 1 + 1, _), ?_, Wk.of (by simp only [go_sem, ↓List.forall_mem_cons, List.not_mem_nil, false_implies, implies_true, and_true, true_and, and_self, Nat.reduceEqDiff, reduceIte, ↓reduceIte, ri_eq, Int.natCast_add, Int.cast_ofNat_Int]; try simp) rfl⟩
            exact ⟨by simp (disch := omega) only [hset_map, hpush_map, hset_nb, hpush_nb, if_neg, if_pos, ↓reduceIte], by simp only [hset_nb, hpush_nb]; omega, by show H1.nb ≤ H1.nb + 1 + 1 + 1; omega, fun b hb => by simp (disch := omega) only [hset_map, hpush_map, hset_nb, hpush_nb, if_neg, ↓reduceIte]⟩
        rintro ⟨xb, H2⟩ hX
        simp only at hX
        have h2 := h.xh hX
        have hn1 := hX.n1
        have hn2' := hX.n2
        have hn2 : H1.nb ≤ H2.nb := by omega
        have hfr2 : ∀ b, b < H.nb → b ≠ sb → H2.map b = H.map b := fun b hb hbs => by rw [hX.fr b (by omega), hfr b hb hbs]
        have m2 := h2.m
        have hp2 : H2.map lb = some ⟨ints p, false⟩ := by rw [hX.fr lb (by omega), hp1]
        refine SW_of_vc Try.mixed _ _ _ (by kernel_rfl) ?_
        rcases Bool.eq_false_or_eq_true (badC C (p ++ [(x : Int)])) with hb | hb
        · rw [hb] at wb
          rw [if_pos hb] at hsucc
          simp (disch := omega) only [Try.ntmps157, Try.results157, go_sem, Nat.reduceLT, Nat.reduceLeDiff, Nat.reduceEqDiff, Nat.reduceAdd, Nat.reduceSub, Nat.reduceMul, reduceIte, ↓reduceIte, reduceCtorEq, Int.reduceToNat, Int.reduceLE, Int.reduceLT, Int.reduceNeg, Int.reduceSub, Int.reduceAdd, Int.reduceMul]
          refine wb.callV 4 (viewL_cons_of (view_optr m2 (viewL_cons_of view_row (viewL_cons_of view_row (viewL_cons_of (view_nlI fun hf0 => (h2.mf hf0).1) (viewL_cons_of view_int (viewL_cons_of view_int viewL_nil_of)))))) (viewL_cons_of (view_own hX.mx hl1.symm) viewL_nil_of)) ?_
          simp (disch := omega) only [Try.ntmps157, Try.results157, go_sem, Nat.reduceLT, Nat.reduceLeDiff, Nat.reduceEqDiff, Nat.reduceAdd, Nat.reduceSub, Nat.reduceMul, reduceIte, ↓reduceIte, reduceCtorEq, Int.reduceToNat, Int.reduceLE, Int.reduceLT, Int.reduceNeg, Int.reduceSub, Int.reduceAdd, Int.reduceMul]
          refine SW_of_vc Try.mixed _ _ _ (by kernel_rfl) ?_
          simp (disch := omega) only [Try.ntmps157, Try.results157, go_sem, Nat.reduceLT, Nat.reduceLeDiff, Nat.reduceEqDiff, Nat.reduceAdd, Nat.reduceSub, Nat.reduceMul, reduceIte, ↓reduceIte, reduceCtorEq, Int.reduceToNat, Int.reduceLE, Int.reduceLT, Int.reduceNeg, Int.reduceSub, Int.reduceAdd, Int.reduceMul]
          exact ⟨(x + 1, fb, H2), ⟨hlt, hsucc ▸ h2, Nat.le_trans hnb hn2, hfr2⟩, by show nx + 1 - (x + 1) < nx + 1 - x; omega, Wk.of (by simp only [go_sem, ↓List.forall_mem_cons, List.not_mem_nil, false_implies, implies_true, and_true, true_and, and_self, Nat.reduceEqDiff, reduceIte, ↓reduceIte, ri_eq, Int.natCast_add, Int.cast_ofNat_Int]; try simp) rfl⟩
        · rw [hb] at wb
          rw [if_neg (by rw [hb]; simp)] at hsucc
          simp (disch := omega) only [Try.ntmps157, Try.results157, go_sem, Nat.reduceLT, Nat.reduceLeDiff, Nat.reduceEqDiff, Nat.reduceAdd, Nat.reduceSub, Nat.reduceMul, reduceIte, ↓reduceIte, reduceCtorEq, Int.reduceToNat, Int.reduceLE, Int.reduceLT, Int.reduceNeg, Int.reduceSub, Int.reduceAdd, Int.reduceMul]
          refine wb.callV 4 (viewL_cons_of (view_optr m2 (viewL_cons_of view_row (viewL_cons_of view_row (viewL_cons_of (view_nlI fun hf0 => (h2.mf hf0).1) (viewL_cons_of view_int (viewL_cons_of view_int viewL_nil_of)))))) (viewL_cons_of (view_own hX.mx hl1.symm) viewL_nil_of)) ?_
          simp (disch := omega) only [Try.ntmps157, Try.results157, go_sem, Nat.reduceLT, Nat.reduceLeDiff, Nat.reduceEqDiff, Nat.reduceAdd, Nat.reduceSub, Nat.reduceMul, reduceIte, ↓reduceIte, reduceCtorEq, Int.reduceToNat, Int.reduceLE, Int.reduceLT, Int.reduceNeg, Int.reduceSub, Int.reduceAdd, Int.reduceMul]
          have hw0 : cost + wadd M p x 0 = cost := by show cost + 0 = cost; omega
          refine LoopW.loop (fun i : Nat => ⟨ofL [(0, .optr sb 0), (1, .own lb 0 p.length p.length 1 false), (2, .val (.int .i64 ((nx : Int) - 1))), (3, .val (.int .i64 cost)), (8, .val (.int .i64 p.length)), (9, .val (.int .i64 x)), (10, .own xb 0 (p.length + 1) (p.length + 1) 1 false), (11, .val (.int .i64 (cost + wadd M p x i))), (12, .val (.int .i64 i))], H2⟩) (fun i => i ≤ p.length) (fun i => p.length - i) 0 (by omega) (Wk.of (by simp only [go_sem, ↓List.forall_mem_cons, List.not_mem_nil, false_implies, implies_true, and_true, true_and, and_self, Nat.reduceEqDiff, reduceIte, ↓reduceIte, ri_eq, Int.natCast_add, Int.cast_ofNat_Int, hw0]; try simp) rfl) ?_
          intro i hi
          refine SW_of_vc Try.mixed _ _ _ (by kernel_rfl) ?_
          by_cases hli : i < p.length
          · have hri := hw.2.1 i (by omega)
            have hmb := (hw.2.2.1 i p.length (by omega) (by omega)).1
            have gm : (ints (mrow M i))[p.length]? = some (.val (.int .i64 (mat M i p.length))) := ints_get' hri (by omega)
            have gp : (ints p)[i]? = some (.val (.int .i64 (p.getD i 0))) := ints_get hli
            have hwb := wadd_b hw (p := p) (x := x) (by omega) (t := i) (by omega)
            have hws : wadd M p x (i + 1) = wadd M p x i + (if p.getD i 0 = x then max 0 (-mat M i p.length) else max 0 (mat M i p.length)) := rfl
            generalize hw1 : wadd M p x (i + 1) = w1 at *
            generalize mat M i p.length = v at *
            generalize p.getD i 0 = u at *
            generalize wadd M p x i = wv at *
            rcases (by omega : 0 < v ∨ v = 0 ∨ v < 0) with hv | hv | hv
            · by_cases hu : u = (x : Int)
              · have he : w1 = wv := by rw [hws, if_pos hu]; omega
                simp (disch := omega) only [Try.ntmps157, Try.results157, go_sem, Nat.reduceLT, Nat.reduceLeDiff, Nat.reduceEqDiff, Nat.reduceAdd, Nat.reduceSub, Nat.reduceMul, reduceIte, ↓reduceIte, reduceCtorEq, Int.reduceToNat, Int.reduceLE, Int.reduceLT, Int.reduceNeg, Int.reduceSub, Int.reduceAdd, Int.reduceMul, m2, rr_eq, rc, rows_get, hri, gm, gp, hp2, hip, hrl]
                exact ⟨i + 1, by omega, by omega, Wk.of (by simp only [go_sem, ↓List.forall_mem_cons, List.not_mem_nil, false_implies, implies_true, and_true, true_and, and_self, Nat.reduceEqDiff, reduceIte, ↓reduceIte, ri_eq, Int.natCast_add, Int.cast_ofNat_Int, hw1, he]; try simp) rfl⟩
              · have he : cost + w1 = cost + wv + v := by rw [hws, if_neg hu]; omega
                simp (disch := omega) only [Try.ntmps157, Try.results157, go_sem, Nat.reduceLT, Nat.reduceLeDiff, Nat.reduceEqDiff, Nat.reduceAdd, Nat.reduceSub, Nat.reduceMul, reduceIte, ↓reduceIte, reduceCtorEq, Int.reduceToNat, Int.reduceLE, Int.reduceLT, Int.reduceNeg, Int.reduceSub, Int.reduceAdd, Int.reduceMul, m2, rr_eq, rc, rows_get, hri, gm, gp, hp2, hip, hrl]
                exact ⟨i + 1, by omega, by omega, Wk.of (by simp only [go_sem, ↓List.forall_mem_cons, List.not_mem_nil, false_implies, implies_true, and_true, true_and, and_self, Nat.reduceEqDiff, reduceIte, ↓reduceIte, ri_eq, Int.natCast_add, Int.cast_ofNat_Int, hw1, he]; try simp) rfl⟩
            · have he : w1 = wv := by rw [hws, hv]; split <;> omega
              simp (disch := omega) only [Try.ntmps157, Try.results157, go_sem, Nat.reduceLT, Nat.reduceLeDiff, Nat.reduceEqDiff, Nat.reduceAdd, Nat.reduceSub, Nat.reduceMul, reduceIte, ↓reduceIte, reduceCtorEq, Int.reduceToNat, Int.reduceLE, Int.reduceLT, Int.reduceNeg, Int.reduceSub, Int.reduceAdd, Int.reduceMul, m2, rr_eq, rc, rows_get, hri, gm, gp, hp2, hip, hrl, hv]
              exact ⟨i + 1, by omega, by omega, Wk.of (by simp only [go_sem, ↓List.forall_mem_cons, List.not_mem_nil, false_implies, implies_true, and_true, true_and, and_self, Nat.reduceEqDiff, reduceIte, ↓reduceIte, ri_eq, Int.natCast_add, Int.cast_ofNat_Int, hw1, he]; try simp) rfl⟩
            · by_cases hu : u = (x : Int)
              · have he : cost + w1 = cost + wv - v := by rw [hws, if_pos hu]; omega
                simp (disch := omega) only [Try.ntmps157, Try.results157, go_sem, Nat.reduceLT, Nat.reduceLeDiff, Nat.reduceEqDiff, Nat.reduceAdd, Nat.reduceSub, Nat.reduceMul, reduceIte, ↓reduceIte, reduceCtorEq, Int.reduceToNat, Int.reduceLE, Int.reduceLT, Int.reduceNeg, Int.reduceSub, Int.reduceAdd, Int.reduceMul, m2, rr_eq, rc, rows_get, hri, gm, gp, hp2, hip, hrl]
                exact ⟨i + 1, by omega, by omega, Wk.of (by simp only [go_sem, ↓List.forall_mem_cons, List.not_mem_nil, false_implies, implies_true, and_true, true_and, and_self, Nat.reduceEqDiff, reduceIte, ↓reduceIte, ri_eq, Int.natCast_add, Int.cast_ofNat_Int, hw1, he]; try simp) rfl⟩
              · have he : w1 = wv := by rw [hws, if_neg hu]; omega
                simp (disch := omega) only [Try.ntmps157, Try.results157, go_sem, Nat.reduceLT, Nat.reduceLeDiff, Nat.reduceEqDiff, Nat.reduceAdd, Nat.reduceSub, Nat.reduceMul, reduceIte, ↓reduceIte, reduceCtorEq, Int.reduceToNat, Int.reduceLE, Int.reduceLT, Int.reduceNeg, Int.reduceSub, Int.reduceAdd, Int.reduceMul, m2, rr_eq, rc, rows_get, hri, gm, gp, hp2, hip, hrl]
                exact ⟨i + 1, by omega, by omega, Wk.of (by simp only [go_sem, ↓List.forall_mem_cons, List.not_mem_nil, false_implies, implies_true, and_true, true_and, and_self, Nat.reduceEqDiff, reduceIte, ↓reduceIte, ri_eq, Int.natCast_add, Int.cast_ofNat_Int, hw1, he]; try simp) rfl⟩
          · obtain rfl : i = p.length := by omega
            have hwb := wadd_b hw (p := p) (x := x) (by omega) (t := p.length) (Nat.le_refl _)
            have ih := Try.l20Walk_ok hw hC sb k (p ++ [(x : Int)]) (max nx (x + 1)) (cost + wadd M p x p.length) t fb xb H2 (by rw [hl1]; omega) (by omega) (by omega) (by omega) (by rw [hl1]; omega) hX.mx (by omega) hX.n1 h2
            rw [hl1, ← hsucc] at ih
            have c2 : ((max nx (x + 1) : Nat) : Int) - 1 = if (nx : Int) - 1 < (x : Int) then (x : Int) else (nx : Int) - 1 := by split <;> omega
            rw [c2] at ih
            simp (disch := omega) only [Try.ntmps157, Try.results157, go_sem, Nat.reduceLT, Nat.reduceLeDiff, Nat.reduceEqDiff, Nat.reduceAdd, Nat.reduceSub, Nat.reduceMul, reduceIte, ↓reduceIte, reduceCtorEq, Int.reduceToNat, Int.reduceLE, Int.reduceLT, Int.reduceNeg, Int.reduceSub, Int.reduceAdd, Int.reduceMul]
            refine ih.callX ?_
            rintro r H3 ⟨rfl, hn3, hfr3, fb3, h3⟩
            simp (disch := omega) only [Try.ntmps157, Try.results157, go_sem, Nat.reduceLT, Nat.reduceLeDiff, Nat.reduceEqDiff, Nat.reduceAdd, Nat.reduceSub, Nat.reduceMul, reduceIte, ↓reduceIte, reduceCtorEq, Int.reduceToNat, Int.reduceLE, Int.reduceLT, Int.reduceNeg, Int.reduceSub, Int.reduceAdd, Int.reduceMul]
            refine SW_of_vc Try.mixed _ _ _ (by kernel_rfl) ?_
            simp (disch := omega) only [Try.ntmps157, Try.results157, go_sem, Nat.reduceLT, Nat.reduceLeDiff, Nat.reduceEqDiff, Nat.reduceAdd, Nat.reduceSub, Nat.reduceMul, reduceIte, ↓reduceIte, reduceCtorEq, Int.reduceToNat, Int.reduceLE, Int.reduceLT, Int.reduceNeg, Int.reduceSub, Int.reduceAdd, Int.reduceMul]
            exact ⟨(x + 1, fb3, H3), ⟨hlt, h3, by show H.nb ≤ H3.nb; omega, fun b hb hbs => by rw [hfr3 b (by omega) hbs, hfr2 b hb hbs]⟩, by show nx + 1 - (x + 1) < nx + 1 - x; omega, Wk.of (by simp only [go_sem, ↓List.forall_mem_cons, List.not_mem_nil, false_implies, implies_true, and_true, true_and, and_self, Nat.reduceEqDiff, reduceIte, ↓reduceIte, ri_eq, Int.natCast_add, Int.cast_ofNat_Int]; try simp) rfl⟩
      · obtain rfl : x = nx + 1 := by omega
        have hfin : WQ M C sb (walkTo M C k p nx cost s (nx + 1)) H (.tup []) H1 := ⟨rfl, hnb, hfr, fb, h⟩
        refine SW_of_vc Try.mixed _ _ _ (by kernel_rfl) ?_
        simp (disch := omega) only [Try.ntmps157, Try.results157, go_sem, Nat.reduceLT, Nat.reduceLeDiff, Nat.reduceEqDiff, Nat.reduceAdd, Nat.reduceSub, Nat.reduceMul, reduceIte, ↓reduceIte, reduceCtorEq, Int.reduceToNat, Int.reduceLE, Int.reduceLT, Int.reduceNeg, Int.reduceSub, Int.reduceAdd, Int.reduceMul]
        exact hfin
end Go.Sh

/-
  The best partition: the contracts of the reference.
-/
namespace Go.Sh
set_option linter.unusedSimpArgs false
set_option linter.unusedVariables false
open Go Go.Proofs

def okB (M : List (List Int)) (C : List Con) : Prop := WM M ∧ isCst M.length C = true
def RQ (M : List (List Int)) (C : List Con) (r : SV) (H' : Heap) : Prop :=
  ∃ fb, r = .tup [.agg [rr M, rc C, .own fb 0 M.length M.length 1 false, .val (.int .i64 (bs M C).least), .val (.int .i64 (bs M C).count)], .val (.bool true)] ∧ H'.map fb = some ⟨ints (bs M C).first, false⟩ ∧ fb < H'.nb
set_option maxRecDepth 20000 in
set_option maxHeartbeats 4000000 in
theorem Try.l20Run_ok {M : List (List Int)} {C : List Con} (hM : M.length ≤ 1048576) (hR : ∀ i, i < M.length → (mrow M i).length ≤ 1048576) (hC : C.length ≤ 1048576) (h : okB M C) :
    CallS Try.prog 101 [rr M, rc C] (hp [] 0) (RQ M C) := by
  obtain ⟨hw, hcs⟩ := h
  have hln := hw.1
  have ha := isCst_t hcs
  have w1 := Try.specIsWM_ok M hM hR
  rw [isWM_t hw] at w1
  have w2 := Try.specConsistent_ok M.length C hC (by omega) (by omega)
  rw [hcs] at w2
  have hbl := (bs_best (C := C) hw).ok (bs_ok hw hcs)
  refine CallS.of_body Try.func101 rfl (by kernel_rfl) (by simp [Try.ntmps101]) ?_
  refine SW_of_vc Try.mixed _ _ _ (by kernel_rfl) ?_
  simp (disch := omega) only [Try.ntmps101, Try.results101, go_sem, Nat.reduceLT, Nat.reduceLeDiff, Nat.reduceEqDiff, Nat.reduceAdd, Nat.reduceSub, Nat.reduceMul, reduceIte, ↓reduceIte, reduceCtorEq, Int.reduceToNat, Int.reduceLE, Int.reduceLT, Int.reduceNeg, Int.reduceSub, Int.reduceAdd, Int.reduceMul, rr_eq, rc]
  refine w1.callV 0 (viewL_cons_of (view_row) viewL_nil_of) ?_
  simp (disch := omega) only [Try.ntmps101, Try.results101, go_sem, Nat.reduceLT, Nat.reduceLeDiff, Nat.reduceEqDiff, Nat.reduceAdd, Nat.reduceSub, Nat.reduceMul, reduceIte, ↓reduceIte, reduceCtorEq, Int.reduceToNat, Int.reduceLE, Int.reduceLT, Int.reduceNeg, Int.reduceSub, Int.reduceAdd, Int.reduceMul, rr_eq, rc]
  refine w2.callV 0 (viewL_cons_of (view_int) (viewL_cons_of (view_row) viewL_nil_of)) ?_
  simp (disch := omega) only [Try.ntmps101, Try.results101, go_sem, Nat.reduceLT, Nat.reduceLeDiff, Nat.reduceEqDiff, Nat.reduceAdd, Nat.reduceSub, Nat.reduceMul, reduceIte, ↓reduceIte, reduceCtorEq, Int.reduceToNat, Int.reduceLE, Int.reduceLT, Int.reduceNeg, Int.reduceSub, Int.reduceAdd, Int.reduceMul, rr_eq, rc]
  refine (Try.l20Walk_ok hw ha 1 M.length [] 0 0 ⟨[], -1, 0⟩ 0 2 _ (by simp) (by omega) ?_ (by omega) (by simp) rfl (by omega) (by simp [hp]) ⟨by rw [rr_eq, rc]; rfl, fun hf => absurd rfl hf, by simp [hp]⟩).callX ?_
  · have h9 : 9 ^ M.length ≤ 9 ^ 8 := Nat.pow_le_pow_right (by omega) hln.2
    show 0 + 9 ^ M.length ≤ 1000000000
    omega
  rw [bs_walk hw ha]
  rintro r H' ⟨rfl, hnb, hfr, fb, hs⟩
  have m := hs.m
  have m0 : H'.map 0 = some ⟨[.val (.slice none 0 0), .val (.slice none 0 0), .val (.slice none 0 0), .val (.int .i64 0), .val (.int .i64 0)], true⟩ := by rw [hfr 0 (by simp [hp]) (by omega)]; rfl
  have hf0 : (bs M C).first.length ≠ 0 := by omega
  obtain ⟨mf, f2, f3⟩ := hs.mf hf0
  have hRQ : ∀ H2 : Heap, H2.map fb = some ⟨ints (bs M C).first, false⟩ → fb < H2.nb → RQ M C (.tup [.agg [rr M, rc C, .own fb 0 M.length M.length 1 false, .val (.int .i64 (bs M C).least), .val (.int .i64 (bs M C).count)], .val (.bool true)]) H2 := fun H2 h2 h3 => ⟨fb, rfl, h2, h3⟩
  rw [nlI_f hf0, hbl.1] at m
  generalize bs M C = t at *
  have hfb : fb ≠ 0 := by
    rintro rfl
    rw [m0] at mf
    cases hL : t.first with
    | nil => rw [hL] at hf0; exact hf0 rfl
    | cons a L => rw [hL] at mf; simp [ints] at mf
  simp (disch := omega) only [Try.ntmps101, Try.results101, go_sem, Nat.reduceLT, Nat.reduceLeDiff, Nat.reduceEqDiff, Nat.reduceAdd, Nat.reduceSub, Nat.reduceMul, reduceIte, ↓reduceIte, reduceCtorEq, Int.reduceToNat, Int.reduceLE, Int.reduceLT, Int.reduceNeg, Int.reduceSub, Int.reduceAdd, Int.reduceMul, rr_eq, rc, m, m0, hset_map]
  have := hRQ (H'.set 0 (some ⟨[rr M, rc C, .own fb 0 M.length M.length 1 false, .val (.int .i64 t.least), .val (.int .i64 t.count)], true⟩)) (by rw [hset_map, if_neg hfb, mf]) f3
  rw [rr_eq, rc] at this
  exact this
def zS : SV := .agg [.val (.slice none 0 0), .val (.slice none 0 0), .val (.slice none 0 0), .val (.int .i64 0), .val (.int .i64 0)]
theorem Try.l20Run_n {M : List (List Int)} {C : List Con} (hM : M.length ≤ 1048576) (hR : ∀ i, i < M.length → (mrow M i).length ≤ 1048576) (hC : C.length ≤ 1048576) (h : ¬ okB M C) :
    CallS Try.prog 101 [rr M, rc C] (hp [] 0) (fun r _ => r = .tup [zS, .val (.bool false)]) := by
  have w1 := Try.specIsWM_ok M hM hR
  refine CallS.of_body Try.func101 rfl (by kernel_rfl) (by simp [Try.ntmps101]) ?_
  refine SW_of_vc Try.mixed _ _ _ (by kernel_rfl) ?_
  by_cases hw : WM M
  · have hcs : isCst M.length C = false := by
      rcases Bool.eq_false_or_eq_true (isCst M.length C) with g | g
      · exact absurd ⟨hw, g⟩ h
      · exact g
    have hln := hw.1
    have w2 := Try.specConsistent_ok M.length C hC (by omega) (by omega)
    rw [isWM_t hw] at w1
    rw [hcs] at w2
    simp (disch := omega) only [Try.ntmps101, Try.results101, go_sem, Nat.reduceLT, Nat.reduceLeDiff, Nat.reduceEqDiff, Nat.reduceAdd, Nat.reduceSub, Nat.reduceMul, reduceIte, ↓reduceIte, reduceCtorEq, Int.reduceToNat, Int.reduceLE, Int.reduceLT, Int.reduceNeg, Int.reduceSub, Int.reduceAdd, Int.reduceMul, rr_eq, rc]
    refine w1.callV 0 (viewL_cons_of (view_row) viewL_nil_of) ?_
    simp (disch := omega) only [Try.ntmps101, Try.results101, go_sem, Nat.reduceLT, Nat.reduceLeDiff, Nat.reduceEqDiff, Nat.reduceAdd, Nat.reduceSub, Nat.reduceMul, reduceIte, ↓reduceIte, reduceCtorEq, Int.reduceToNat, Int.reduceLE, Int.reduceLT, Int.reduceNeg, Int.reduceSub, Int.reduceAdd, Int.reduceMul, rr_eq, rc]
    refine w2.callV 0 (viewL_cons_of (view_int) (viewL_cons_of (view_row) viewL_nil_of)) ?_
    simp (disch := omega) only [Try.ntmps101, Try.results101, go_sem, Nat.reduceLT, Nat.reduceLeDiff, Nat.reduceEqDiff, Nat.reduceAdd, Nat.reduceSub, Nat.reduceMul, reduceIte, ↓reduceIte, reduceCtorEq, Int.reduceToNat, Int.reduceLE, Int.reduceLT, Int.reduceNeg, Int.reduceSub, Int.reduceAdd, Int.reduceMul, rr_eq, rc]
    rfl
  · rw [isWM_f hw] at w1
    simp (disch := omega) only [Try.ntmps101, Try.results101, go_sem, Nat.reduceLT, Nat.reduceLeDiff, Nat.reduceEqDiff, Nat.reduceAdd, Nat.reduceSub, Nat.reduceMul, reduceIte, ↓reduceIte, reduceCtorEq, Int.reduceToNat, Int.reduceLE, Int.reduceLT, Int.reduceNeg, Int.reduceSub, Int.reduceAdd, Int.reduceMul, rr_eq, rc]
    refine w1.callV 0 (viewL_cons_of (view_row) viewL_nil_of) ?_
    simp (disch := omega) only [Try.ntmps101, Try.results101, go_sem, Nat.reduceLT, Nat.reduceLeDiff, Nat.reduceEqDiff, Nat.reduceAdd, Nat.reduceSub, Nat.reduceMul, reduceIte, ↓reduceIte, reduceCtorEq, Int.reduceToNat, Int.reduceLE, Int.reduceLT, Int.reduceNeg, Int.reduceSub, Int.reduceAdd, Int.reduceMul, rr_eq, rc]
    rfl

theorem Try.specBest_f {M : List (List Int)} {C : List Con} (hM : M.length ≤ 1048576) (hR : ∀ i, i < M.length → (mrow M i).length ≤ 1048576) (hC : C.length ≤ 1048576) (h : okB M C) : FCall Try.prog 30 [rr M, rc C]
    (fun r H => ∃ r0, r = .tup (r0 :: [Value.int .i64 (bs M C).least, .bool true].map .val) ∧ FlatRes M.length 1 (ints (bs M C).first) r0 H) := by
  have wr := Try.l20Run_ok hM hR hC h
  have hbl := (bs_best (C := C) h.1).ok (bs_ok h.1 h.2)
  rw [rr_eq, rc] at wr
  refine FCall.of_body Try.func30 rfl (by kernel_rfl) (by simp [Try.ntmps30]) ?_
  refine SW_of_vc Try.mixed _ _ _ (by kernel_rfl) ?_
  simp (disch := omega) only [Try.ntmps30, Try.results30, go_sem, Nat.reduceLT, Nat.reduceLeDiff, Nat.reduceEqDiff, Nat.reduceAdd, Nat.reduceSub, Nat.reduceMul, reduceIte, ↓reduceIte, reduceCtorEq, Int.reduceToNat, Int.reduceLE, Int.reduceLT, Int.reduceNeg, Int.reduceSub, Int.reduceAdd, Int.reduceMul, rr_eq, rc]
  refine wr.callX ?_
  rintro r H ⟨fb, rfl, mf, hlt⟩
  simp (disch := omega) only [Try.ntmps30, Try.results30, go_sem, Nat.reduceLT, Nat.reduceLeDiff, Nat.reduceEqDiff, Nat.reduceAdd, Nat.reduceSub, Nat.reduceMul, reduceIte, ↓reduceIte, reduceCtorEq, Int.reduceToNat, Int.reduceLE, Int.reduceLT, Int.reduceNeg, Int.reduceSub, Int.reduceAdd, Int.reduceMul, rr_eq, rc, hset_map, hpush_map]
  exact fin_tupU (us := [.int .i64 (bs M C).least, .bool true]) (by rw [ints_length]; omega) (ints_vals _) (by rw [hset_map, if_neg (by omega), hpush_map, if_neg (by omega), mf])
theorem Try.specBest_n {M : List (List Int)} {C : List Con} (hM : M.length ≤ 1048576) (hR : ∀ i, i < M.length → (mrow M i).length ≤ 1048576) (hC : C.length ≤ 1048576) (h : ¬ okB M C) : FCall Try.prog 30 [rr M, rc C]
    (fun r H => ∃ r0, r = .tup (r0 :: [Value.int .i64 0, .bool false].map .val) ∧ FlatRes 0 1 (ints []) r0 H) := by
  have wr := Try.l20Run_n hM hR hC h
  rw [rr_eq, rc] at wr
  refine FCall.of_body Try.func30 rfl (by kernel_rfl) (by simp [Try.ntmps30]) ?_
  refine SW_of_vc Try.mixed _ _ _ (by kernel_rfl) ?_
  simp (disch := omega) only [Try.ntmps30, Try.results30, go_sem, Nat.reduceLT, Nat.reduceLeDiff, Nat.reduceEqDiff, Nat.reduceAdd, Nat.reduceSub, Nat.reduceMul, reduceIte, ↓reduceIte, reduceCtorEq, Int.reduceToNat, Int.reduceLE, Int.reduceLT, Int.reduceNeg, Int.reduceSub, Int.reduceAdd, Int.reduceMul, rr_eq, rc]
  refine wr.callX ?_
  rintro r H rfl
  simp (disch := omega) only [Try.ntmps30, Try.results30, go_sem, Nat.reduceLT, Nat.reduceLeDiff, Nat.reduceEqDiff, Nat.reduceAdd, Nat.reduceSub, Nat.reduceMul, reduceIte, ↓reduceIte, reduceCtorEq, Int.reduceToNat, Int.reduceLE, Int.reduceLT, Int.reduceNeg, Int.reduceSub, Int.reduceAdd, Int.reduceMul, rr_eq, rc, zS, hset_map, hpush_map]
  exact fin_tupU (us := [.int .i64 0, .bool false]) rfl (ints_vals _) (by simp (disch := omega) only [hpush_map, hset_map, hset_nb, hpush_nb, if_pos, ↓reduceIte]; rfl)

open Classical in
noncomputable def bCost (M : List (List Int)) (C : List Con) : Int := if okB M C then (bs M C).least else -1
open Classical in
noncomputable def bCount (M : List (List Int)) (C : List Con) : Int := if okB M C then ((bs M C).count : Int) else 0
theorem bCost_t {M : List (List Int)} {C : List Con} (h : okB M C) : bCost M C = (bs M C).least := if_pos h
theorem bCost_f {M : List (List Int)} {C : List Con} (h : ¬ okB M C) : bCost M C = -1 := if_neg h
theorem bCount_t {M : List (List Int)} {C : List Con} (h : okB M C) : bCount M C = ((bs M C).count : Int) := if_pos h
theorem bCount_f {M : List (List Int)} {C : List Con} (h : ¬ okB M C) : bCount M C = 0 := if_neg h

theorem Try.specBestCost_ok {M : List (List Int)} {C : List Con} (hM : M.length ≤ 1048576) (hR : ∀ i, i < M.length → (mrow M i).length ≤ 1048576) (hC : C.length ≤ 1048576) : PCall Try.prog 32 [rr M, rc C] (.val (.int .i64 (bCost M C))) := by
  refine FCall.pcall (R := fun r _ => r = .val (.int .i64 (bCost M C))) ?_ 0 (by rintro r H rfl; exact view_int)
  refine FCall.of_body Try.func32 rfl (by kernel_rfl) (by simp [Try.ntmps32]) ?_
  refine SW_of_vc Try.mixed _ _ _ (by kernel_rfl) ?_
  by_cases h : okB M C
  · have wr := Try.l20Run_ok hM hR hC h
    rw [rr_eq, rc] at wr
    rw [bCost_t h]
    simp (disch := omega) only [Try.ntmps32, Try.results32, go_sem, Nat.reduceLT, Nat.reduceLeDiff, Nat.reduceEqDiff, Nat.reduceAdd, Nat.reduceSub, Nat.reduceMul, reduceIte, ↓reduceIte, reduceCtorEq, Int.reduceToNat, Int.reduceLE, Int.reduceLT, Int.reduceNeg, Int.reduceSub, Int.reduceAdd, Int.reduceMul, rr_eq, rc]
    refine wr.callX ?_
    rintro r H ⟨fb, rfl, mf, hlt⟩
    simp (disch := omega) only [Try.ntmps32, Try.results32, go_sem, Nat.reduceLT, Nat.reduceLeDiff, Nat.reduceEqDiff, Nat.reduceAdd, Nat.reduceSub, Nat.reduceMul, reduceIte, ↓reduceIte, reduceCtorEq, Int.reduceToNat, Int.reduceLE, Int.reduceLT, Int.reduceNeg, Int.reduceSub, Int.reduceAdd, Int.reduceMul, rr_eq, rc, hset_map, hpush_map]
    exact Fin.val rfl
  · have wr := Try.l20Run_n hM hR hC h
    rw [rr_eq, rc] at wr
    rw [bCost_f h]
    simp (disch := omega) only [Try.ntmps32, Try.results32, go_sem, Nat.reduceLT, Nat.reduceLeDiff, Nat.reduceEqDiff, Nat.reduceAdd, Nat.reduceSub, Nat.reduceMul, reduceIte, ↓reduceIte, reduceCtorEq, Int.reduceToNat, Int.reduceLE, Int.reduceLT, Int.reduceNeg, Int.reduceSub, Int.reduceAdd, Int.reduceMul, rr_eq, rc]
    refine wr.callX ?_
    rintro r H rfl
    simp (disch := omega) only [Try.ntmps32, Try.results32, go_sem, Nat.reduceLT, Nat.reduceLeDiff, Nat.reduceEqDiff, Nat.reduceAdd, Nat.reduceSub, Nat.reduceMul, reduceIte, ↓reduceIte, reduceCtorEq, Int.reduceToNat, Int.reduceLE, Int.reduceLT, Int.reduceNeg, Int.reduceSub, Int.reduceAdd, Int.reduceMul, rr_eq, rc, zS, hset_map, hpush_map]
    exact Fin.val rfl
theorem Try.specCount_ok {M : List (List Int)} {C : List Con} (hM : M.length ≤ 1048576) (hR : ∀ i, i < M.length → (mrow M i).length ≤ 1048576) (hC : C.length ≤ 1048576) : PCall Try.prog 34 [rr M, rc C] (.val (.int .i64 (bCount M C))) := by
  refine FCall.pcall (R := fun r _ => r = .val (.int .i64 (bCount M C))) ?_ 0 (by rintro r H rfl; exact view_int)
  refine FCall.of_body Try.func34 rfl (by kernel_rfl) (by simp [Try.ntmps34]) ?_
  refine SW_of_vc Try.mixed _ _ _ (by kernel_rfl) ?_
  by_cases h : okB M C
  · have wr := Try.l20Run_ok hM hR hC h
    rw [rr_eq, rc] at wr
    rw [bCount_t h]
    simp (disch := omega) only [Try.ntmps34, Try.results34, go_sem, Nat.reduceLT, Nat.reduceLeDiff, Nat.reduceEqDiff, Nat.reduceAdd, Nat.reduceSub, Nat.reduceMul, reduceIte, ↓reduceIte, reduceCtorEq, Int.reduceToNat, Int.reduceLE, Int.reduceLT, Int.reduceNeg, Int.reduceSub, Int.reduceAdd, Int.reduceMul, rr_eq, rc]
    refine wr.callX ?_
    rintro r H ⟨fb, rfl, mf, hlt⟩
    simp (disch := omega) only [Try.ntmps34, Try.results34, go_sem, Nat.reduceLT, Nat.reduceLeDiff, Nat.reduceEqDiff, Nat.reduceAdd, Nat.reduceSub, Nat.reduceMul, reduceIte, ↓reduceIte, reduceCtorEq, Int.reduceToNat, Int.reduceLE, Int.reduceLT, Int.reduceNeg, Int.reduceSub, Int.reduceAdd, Int.reduceMul, rr_eq, rc, hset_map, hpush_map]
    exact Fin.val rfl
  · have wr := Try.l20Run_n hM hR hC h
    rw [rr_eq, rc] at wr
    rw [bCount_f h]
    simp (disch := omega) only [Try.ntmps34, Try.results34, go_sem, Nat.reduceLT, Nat.reduceLeDiff, Nat.reduceEqDiff, Nat.reduceAdd, Nat.reduceSub, Nat.reduceMul, reduceIte, ↓reduceIte, reduceCtorEq, Int.reduceToNat, Int.reduceLE, Int.reduceLT, Int.reduceNeg, Int.reduceSub, Int.reduceAdd, Int.reduceMul, rr_eq, rc]
    refine wr.callX ?_
    rintro r H rfl
    simp (disch := omega) only [Try.ntmps34, Try.results34, go_sem, Nat.reduceLT, Nat.reduceLeDiff, Nat.reduceEqDiff, Nat.reduceAdd, Nat.reduceSub, Nat.reduceMul, reduceIte, ↓reduceIte, reduceCtorEq, Int.reduceToNat, Int.reduceLE, Int.reduceLT, Int.reduceNeg, Int.reduceSub, Int.reduceAdd, Int.reduceMul, rr_eq, rc, zS, hset_map, hpush_map]
    exact Fin.val rfl

/-! ### Of the program -/
theorem Try.canCluster_t {M : List (List Int)} {C : List Con} (hM : M.length ≤ 1048576) (hR : ∀ i, i < M.length → (mrow M i).length ≤ 1048576) (hC : C.length ≤ 1048576) (h : okB M C) : PCall Try.prog 102 [rr M, rc C] (.val (.bool true)) := by
  refine FCall.pcall (R := fun r _ => r = .val (.bool true)) ?_ 0 (by rintro r H rfl; exact view_bool)
  have w1 := Try.implIsWM_ok M hM hR
  have w2 := Try.implConsistent_ok M.length C hC
  rw [isWM_t h.1] at w1
  rw [h.2] at w2
  refine FCall.of_body Try.func102 rfl (by kernel_rfl) (by simp [Try.ntmps102]) ?_
  refine SW_of_vc Try.mixed _ _ _ (by kernel_rfl) ?_
  simp (disch := omega) only [Try.ntmps102, Try.results102, go_sem, Nat.reduceLT, Nat.reduceLeDiff, Nat.reduceEqDiff, Nat.reduceAdd, Nat.reduceSub, Nat.reduceMul, reduceIte, ↓reduceIte, reduceCtorEq, Int.reduceToNat, Int.reduceLE, Int.reduceLT, Int.reduceNeg, Int.reduceSub, Int.reduceAdd, Int.reduceMul, rr_eq, rc]
  refine w1.callV 0 (viewL_cons_of (view_row) viewL_nil_of) ?_
  simp (disch := omega) only [Try.ntmps102, Try.results102, go_sem, Nat.reduceLT, Nat.reduceLeDiff, Nat.reduceEqDiff, Nat.reduceAdd, Nat.reduceSub, Nat.reduceMul, reduceIte, ↓reduceIte, reduceCtorEq, Int.reduceToNat, Int.reduceLE, Int.reduceLT, Int.reduceNeg, Int.reduceSub, Int.reduceAdd, Int.reduceMul, rr_eq, rc]
  refine w2.callV 0 (viewL_cons_of (view_int) (viewL_cons_of (view_row) viewL_nil_of)) ?_
  simp (disch := omega) only [Try.ntmps102, Try.results102, go_sem, Nat.reduceLT, Nat.reduceLeDiff, Nat.reduceEqDiff, Nat.reduceAdd, Nat.reduceSub, Nat.reduceMul, reduceIte, ↓reduceIte, reduceCtorEq, Int.reduceToNat, Int.reduceLE, Int.reduceLT, Int.reduceNeg, Int.reduceSub, Int.reduceAdd, Int.reduceMul, rr_eq, rc]
  exact Fin.val rfl
theorem Try.canCluster_f {M : List (List Int)} {C : List Con} (hM : M.length ≤ 1048576) (hR : ∀ i, i < M.length → (mrow M i).length ≤ 1048576) (hC : C.length ≤ 1048576) (h : ¬ okB M C) : PCall Try.prog 102 [rr M, rc C] (.val (.bool false)) := by
  refine FCall.pcall (R := fun r _ => r = .val (.bool false)) ?_ 0 (by rintro r H rfl; exact view_bool)
  have w1 := Try.implIsWM_ok M hM hR
  have w2 := Try.implConsistent_ok M.length C hC
  refine FCall.of_body Try.func102 rfl (by kernel_rfl) (by simp [Try.ntmps102]) ?_
  refine SW_of_vc Try.mixed _ _ _ (by kernel_rfl) ?_
  by_cases hw : WM M
  · have hcs : isCst M.length C = false := by
      rcases Bool.eq_false_or_eq_true (isCst M.length C) with g | g
      · exact absurd ⟨hw, g⟩ h
      · exact g
    rw [isWM_t hw] at w1
    rw [hcs] at w2
    simp (disch := omega) only [Try.ntmps102, Try.results102, go_sem, Nat.reduceLT, Nat.reduceLeDiff, Nat.reduceEqDiff, Nat.reduceAdd, Nat.reduceSub, Nat.reduceMul, reduceIte, ↓reduceIte, reduceCtorEq, Int.reduceToNat, Int.reduceLE, Int.reduceLT, Int.reduceNeg, Int.reduceSub, Int.reduceAdd, Int.reduceMul, rr_eq, rc]
    refine w1.callV 0 (viewL_cons_of (view_row) viewL_nil_of) ?_
    simp (disch := omega) only [Try.ntmps102, Try.results102, go_sem, Nat.reduceLT, Nat.reduceLeDiff, Nat.reduceEqDiff, Nat.reduceAdd, Nat.reduceSub, Nat.reduceMul, reduceIte, ↓reduceIte, reduceCtorEq, Int.reduceToNat, Int.reduceLE, Int.reduceLT, Int.reduceNeg, Int.reduceSub, Int.reduceAdd, Int.reduceMul, rr_eq, rc]
    refine w2.callV 0 (viewL_cons_of (view_int) (viewL_cons_of (view_row) viewL_nil_of)) ?_
    simp (disch := omega) only [Try.ntmps102, Try.results102, go_sem, Nat.reduceLT, Nat.reduceLeDiff, Nat.reduceEqDiff, Nat.reduceAdd, Nat.reduceSub, Nat.reduceMul, reduceIte, ↓reduceIte, reduceCtorEq, Int.reduceToNat, Int.reduceLE, Int.reduceLT, Int.reduceNeg, Int.reduceSub, Int.reduceAdd, Int.reduceMul, rr_eq, rc]
    exact Fin.val rfl
  · rw [isWM_f hw] at w1
    simp (disch := omega) only [Try.ntmps102, Try.results102, go_sem, Nat.reduceLT, Nat.reduceLeDiff, Nat.reduceEqDiff, Nat.reduceAdd, Nat.reduceSub, Nat.reduceMul, reduceIte, ↓reduceIte, reduceCtorEq, Int.reduceToNat, Int.reduceLE, Int.reduceLT, Int.reduceNeg, Int.reduceSub, Int.reduceAdd, Int.reduceMul, rr_eq, rc]
    refine w1.callV 0 (viewL_cons_of (view_row) viewL_nil_of) ?_
    simp (disch := omega) only [Try.ntmps102, Try.results102, go_sem, Nat.reduceLT, Nat.reduceLeDiff, Nat.reduceEqDiff, Nat.reduceAdd, Nat.reduceSub, Nat.reduceMul, reduceIte, ↓reduceIte, reduceCtorEq, Int.reduceToNat, Int.reduceLE, Int.reduceLT, Int.reduceNeg, Int.reduceSub, Int.reduceAdd, Int.reduceMul, rr_eq, rc]
    exact Fin.val rfl
theorem Try.implBest_f {M : List (List Int)} {C : List Con} (hM : M.length ≤ 1048576) (hR : ∀ i, i < M.length → (mrow M i).length ≤ 1048576) (hC : C.length ≤ 1048576) (h : okB M C) : FCall Try.prog 31 [rr M, rc C]
    (fun r H => ∃ r0, r = .tup (r0 :: [Value.int .i64 (bs M C).least, .bool true].map .val) ∧ FlatRes M.length 1 (ints (bs M C).first) r0 H) := by
  have w1 := Try.canCluster_t hM hR hC h
  have w2 := (Try.best_f h.1 hC h.2).oneU
  have hbl := (bs_best (C := C) h.1).ok (bs_ok h.1 h.2)
  refine FCall.of_body Try.func31 rfl (by kernel_rfl) (by simp [Try.ntmps31]) ?_
  refine SW_of_vc Try.mixed _ _ _ (by kernel_rfl) ?_
  simp (disch := omega) only [Try.ntmps31, Try.results31, go_sem, Nat.reduceLT, Nat.reduceLeDiff, Nat.reduceEqDiff, Nat.reduceAdd, Nat.reduceSub, Nat.reduceMul, reduceIte, ↓reduceIte, reduceCtorEq, Int.reduceToNat, Int.reduceLE, Int.reduceLT, Int.reduceNeg, Int.reduceSub, Int.reduceAdd, Int.reduceMul, rr_eq, rc]
  refine w1.callV 0 (viewL_cons_of (view_row) (viewL_cons_of (view_row) viewL_nil_of)) ?_
  simp (disch := omega) only [Try.ntmps31, Try.results31, go_sem, Nat.reduceLT, Nat.reduceLeDiff, Nat.reduceEqDiff, Nat.reduceAdd, Nat.reduceSub, Nat.reduceMul, reduceIte, ↓reduceIte, reduceCtorEq, Int.reduceToNat, Int.reduceLE, Int.reduceLT, Int.reduceNeg, Int.reduceSub, Int.reduceAdd, Int.reduceMul, rr_eq, rc]
  refine w2.callOneU (ints_vals _) 0 (viewL_cons_of (view_row) (viewL_cons_of (view_row) viewL_nil_of)) ?_
  simp (disch := omega) only [Try.ntmps31, Try.results31, go_sem, Nat.reduceLT, Nat.reduceLeDiff, Nat.reduceEqDiff, Nat.reduceAdd, Nat.reduceSub, Nat.reduceMul, reduceIte, ↓reduceIte, reduceCtorEq, Int.reduceToNat, Int.reduceLE, Int.reduceLT, Int.reduceNeg, Int.reduceSub, Int.reduceAdd, Int.reduceMul, rr_eq, rc]
  exact fin_tupU (us := [.int .i64 (bs M C).least, .bool true]) (by rw [ints_length]; omega) (ints_vals _) (by first | rfl | (simp (disch := omega) only [hx_map, hp_map, xmap_blk, hmap_cons, xmap_skipI, xmap_nil, if_pos, if_neg, ↓reduceIte]; try rfl))
theorem Try.implBest_n {M : List (List Int)} {C : List Con} (hM : M.length ≤ 1048576) (hR : ∀ i, i < M.length → (mrow M i).length ≤ 1048576) (hC : C.length ≤ 1048576) (h : ¬ okB M C) : FCall Try.prog 31 [rr M, rc C] (fun r _ => r = .tup ([Value.slice none 0 0, .int .i64 0, .bool false].map .val)) := by
  have w1 := Try.canCluster_f hM hR hC h
  refine FCall.of_body Try.func31 rfl (by kernel_rfl) (by simp [Try.ntmps31]) ?_
  refine SW_of_vc Try.mixed _ _ _ (by kernel_rfl) ?_
  simp (disch := omega) only [Try.ntmps31, Try.results31, go_sem, Nat.reduceLT, Nat.reduceLeDiff, Nat.reduceEqDiff, Nat.reduceAdd, Nat.reduceSub, Nat.reduceMul, reduceIte, ↓reduceIte, reduceCtorEq, Int.reduceToNat, Int.reduceLE, Int.reduceLT, Int.reduceNeg, Int.reduceSub, Int.reduceAdd, Int.reduceMul, rr_eq, rc]
  refine w1.callV 0 (viewL_cons_of (view_row) (viewL_cons_of (view_row) viewL_nil_of)) ?_
  simp (disch := omega) only [Try.ntmps31, Try.results31, go_sem, Nat.reduceLT, Nat.reduceLeDiff, Nat.reduceEqDiff, Nat.reduceAdd, Nat.reduceSub, Nat.reduceMul, reduceIte, ↓reduceIte, reduceCtorEq, Int.reduceToNat, Int.reduceLE, Int.reduceLT, Int.reduceNeg, Int.reduceSub, Int.reduceAdd, Int.reduceMul, rr_eq, rc]
  exact fin_tupV (us := [.slice none 0 0, .int .i64 0, .bool false]) rfl
theorem Try.implBestCost_ok {M : List (List Int)} {C : List Con} (hM : M.length ≤ 1048576) (hR : ∀ i, i < M.length → (mrow M i).length ≤ 1048576) (hC : C.length ≤ 1048576) : PCall Try.prog 33 [rr M, rc C] (.val (.int .i64 (bCost M C))) := by
  refine FCall.pcall (R := fun r _ => r = .val (.int .i64 (bCost M C))) ?_ 0 (by rintro r H rfl; exact view_int)
  refine FCall.of_body Try.func33 rfl (by kernel_rfl) (by simp [Try.ntmps33]) ?_
  refine SW_of_vc Try.mixed _ _ _ (by kernel_rfl) ?_
  by_cases h : okB M C
  · have w1 := Try.canCluster_t hM hR hC h
    have w2 := (Try.best_f h.1 hC h.2).oneU
    rw [bCost_t h]
    simp (disch := omega) only [Try.ntmps33, Try.results33, go_sem, Nat.reduceLT, Nat.reduceLeDiff, Nat.reduceEqDiff, Nat.reduceAdd, Nat.reduceSub, Nat.reduceMul, reduceIte, ↓reduceIte, reduceCtorEq, Int.reduceToNat, Int.reduceLE, Int.reduceLT, Int.reduceNeg, Int.reduceSub, Int.reduceAdd, Int.reduceMul, rr_eq, rc]
    refine w1.callV 0 (viewL_cons_of (view_row) (viewL_cons_of (view_row) viewL_nil_of)) ?_
    simp (disch := omega) only [Try.ntmps33, Try.results33, go_sem, Nat.reduceLT, Nat.reduceLeDiff, Nat.reduceEqDiff, Nat.reduceAdd, Nat.reduceSub, Nat.reduceMul, reduceIte, ↓reduceIte, reduceCtorEq, Int.reduceToNat, Int.reduceLE, Int.reduceLT, Int.reduceNeg, Int.reduceSub, Int.reduceAdd, Int.reduceMul, rr_eq, rc]
    refine w2.callOneU (ints_vals _) 0 (viewL_cons_of (view_row) (viewL_cons_of (view_row) viewL_nil_of)) ?_
    simp (disch := omega) only [Try.ntmps33, Try.results33, go_sem, Nat.reduceLT, Nat.reduceLeDiff, Nat.reduceEqDiff, Nat.reduceAdd, Nat.reduceSub, Nat.reduceMul, reduceIte, ↓reduceIte, reduceCtorEq, Int.reduceToNat, Int.reduceLE, Int.reduceLT, Int.reduceNeg, Int.reduceSub, Int.reduceAdd, Int.reduceMul, rr_eq, rc]
    exact Fin.val rfl
  · have w1 := Try.canCluster_f hM hR hC h
    rw [bCost_f h]
    simp (disch := omega) only [Try.ntmps33, Try.results33, go_sem, Nat.reduceLT, Nat.reduceLeDiff, Nat.reduceEqDiff, Nat.reduceAdd, Nat.reduceSub, Nat.reduceMul, reduceIte, ↓reduceIte, reduceCtorEq, Int.reduceToNat, Int.reduceLE, Int.reduceLT, Int.reduceNeg, Int.reduceSub, Int.reduceAdd, Int.reduceMul, rr_eq, rc]
    refine w1.callV 0 (viewL_cons_of (view_row) (viewL_cons_of (view_row) viewL_nil_of)) ?_
    simp (disch := omega) only [Try.ntmps33, Try.results33, go_sem, Nat.reduceLT, Nat.reduceLeDiff, Nat.reduceEqDiff, Nat.reduceAdd, Nat.reduceSub, Nat.reduceMul, reduceIte, ↓reduceIte, reduceCtorEq, Int.reduceToNat, Int.reduceLE, Int.reduceLT, Int.reduceNeg, Int.reduceSub, Int.reduceAdd, Int.reduceMul, rr_eq, rc]
    exact Fin.val rfl
theorem Try.implCount_ok {M : List (List Int)} {C : List Con} (hM : M.length ≤ 1048576) (hR : ∀ i, i < M.length → (mrow M i).length ≤ 1048576) (hC : C.length ≤ 1048576) : PCall Try.prog 35 [rr M, rc C] (.val (.int .i64 (bCount M C))) := by
  refine FCall.pcall (R := fun r _ => r = .val (.int .i64 (bCount M C))) ?_ 0 (by rintro r H rfl; exact view_int)
  refine FCall.of_body Try.func35 rfl (by kernel_rfl) (by simp [Try.ntmps35]) ?_
  refine SW_of_vc Try.mixed _ _ _ (by kernel_rfl) ?_
  by_cases h : okB M C
  · have w1 := Try.canCluster_t hM hR hC h
    have w2 := (Try.best_f h.1 hC h.2).oneU
    rw [bCount_t h]
    simp (disch := omega) only [Try.ntmps35, Try.results35, go_sem, Nat.reduceLT, Nat.reduceLeDiff, Nat.reduceEqDiff, Nat.reduceAdd, Nat.reduceSub, Nat.reduceMul, reduceIte, ↓reduceIte, reduceCtorEq, Int.reduceToNat, Int.reduceLE, Int.reduceLT, Int.reduceNeg, Int.reduceSub, Int.reduceAdd, Int.reduceMul, rr_eq, rc]
    refine w1.callV 0 (viewL_cons_of (view_row) (viewL_cons_of (view_row) viewL_nil_of)) ?_
    simp (disch := omega) only [Try.ntmps35, Try.results35, go_sem, Nat.reduceLT, Nat.reduceLeDiff, Nat.reduceEqDiff, Nat.reduceAdd, Nat.reduceSub, Nat.reduceMul, reduceIte, ↓reduceIte, reduceCtorEq, Int.reduceToNat, Int.reduceLE, Int.reduceLT, Int.reduceNeg, Int.reduceSub, Int.reduceAdd, Int.reduceMul, rr_eq, rc]
    refine w2.callOneU (ints_vals _) 0 (viewL_cons_of (view_row) (viewL_cons_of (view_row) viewL_nil_of)) ?_
    simp (disch := omega) only [Try.ntmps35, Try.results35, go_sem, Nat.reduceLT, Nat.reduceLeDiff, Nat.reduceEqDiff, Nat.reduceAdd, Nat.reduceSub, Nat.reduceMul, reduceIte, ↓reduceIte, reduceCtorEq, Int.reduceToNat, Int.reduceLE, Int.reduceLT, Int.reduceNeg, Int.reduceSub, Int.reduceAdd, Int.reduceMul, rr_eq, rc]
    exact Fin.val rfl
  · have w1 := Try.canCluster_f hM hR hC h
    rw [bCount_f h]
    simp (disch := omega) only [Try.ntmps35, Try.results35, go_sem, Nat.reduceLT, Nat.reduceLeDiff, Nat.reduceEqDiff, Nat.reduceAdd, Nat.reduceSub, Nat.reduceMul, reduceIte, ↓reduceIte, reduceCtorEq, Int.reduceToNat, Int.reduceLE, Int.reduceLT, Int.reduceNeg, Int.reduceSub, Int.reduceAdd, Int.reduceMul, rr_eq, rc]
    refine w1.callV 0 (viewL_cons_of (view_row) (viewL_cons_of (view_row) viewL_nil_of)) ?_
    simp (disch := omega) only [Try.ntmps35, Try.results35, go_sem, Nat.reduceLT, Nat.reduceLeDiff, Nat.reduceEqDiff, Nat.reduceAdd, Nat.reduceSub, Nat.reduceMul, reduceIte, ↓reduceIte, reduceCtorEq, Int.reduceToNat, Int.reduceLE, Int.reduceLT, Int.reduceNeg, Int.reduceSub, Int.reduceAdd, Int.reduceMul, rr_eq, rc]
    exact Fin.val rfl
end Go.Sh

/-
  The best partition, optimal partitions, the cost of constraints: contracts of both.
-/
namespace Go.Sh
set_option linter.unusedSimpArgs false
set_option linter.unusedVariables false
open Go Go.Proofs

open Classical in
noncomputable def bpt (M : List (List Int)) (C : List Con) : List Int × Int × Bool := if okB M C then ((bs M C).first, (bs M C).least, true) else ([], 0, false)
theorem bpt_t {M : List (List Int)} {C : List Con} (h : okB M C) : bpt M C = ((bs M C).first, (bs M C).least, true) := if_pos h
theorem bpt_f {M : List (List Int)} {C : List Con} (h : ¬ okB M C) : bpt M C = ([], 0, false) := if_neg h
theorem bpt_len {M : List (List Int)} {C : List Con} (h : okB M C) : (bpt M C).1.length = M.length := by
  rw [bpt_t h]; exact ((bs_best (C := C) h.1).ok (bs_ok h.1 h.2)).1
theorem bCost_b (M : List (List Int)) (C : List Con) : -1 ≤ bCost M C ∧ bCost M C ≤ 64000 := by
  by_cases h : okB M C
  · rw [bCost_t h]
    have hb := (bs_best (C := C) h.1).ok (bs_ok h.1 h.2)
    have hc := cc_b (L := (bs M C).first) h.1 M.length (Nat.le_refl _)
    have := h.1.1
    rw [hb.2.2.2.1] at hc
    omega
  · rw [bCost_f h]; omega
theorem view_tupU {L : List Int} {n : Nat} {u : Int} {b : Bool} {r r0 : SV} {H : Heap} (h : r = .tup (r0 :: [Value.int .i64 u, .bool b].map .val)) (hf : FlatRes n 1 (ints L) r0 H) : view H 3 r = some (.tup [ri L, .val (.int .i64 u), .val (.bool b)]) := by
  subst h
  have h1 : viewL H 2 [r0, .val (.int .i64 u), .val (.bool b)] = some [ri L, .val (.int .i64 u), .val (.bool b)] := viewL_cons_of (flat_view hf) (viewL_cons_of view_int (viewL_cons_of view_bool viewL_nil_of))
  simp only [List.map_cons, List.map_nil, view, h1]
theorem Try.specBest_ok (M : List (List Int)) (C : List Con) (hM : M.length ≤ 1048576) (hR : ∀ i, i < M.length → (mrow M i).length ≤ 1048576) (hC : C.length ≤ 1048576) : PCall Try.prog 30 [rr M, rc C] (.tup [ri (bpt M C).1, .val (.int .i64 (bpt M C).2.1), .val (.bool (bpt M C).2.2)]) := by
  by_cases h : okB M C
  · rw [bpt_t h]; exact (Try.specBest_f hM hR hC h).pcall 3 (fun r H ⟨r0, h1, h2⟩ => view_tupU h1 h2)
  · rw [bpt_f h]; exact (Try.specBest_n hM hR hC h).pcall 3 (fun r H ⟨r0, h1, h2⟩ => view_tupU h1 h2)
theorem Try.implBest_nn (M : List (List Int)) (C : List Con) (hM : M.length ≤ 1048576) (hR : ∀ i, i < M.length → (mrow M i).length ≤ 1048576) (hC : C.length ≤ 1048576) (h : ¬ okB M C) : FCall Try.prog 31 [rr M, rc C] (fun r _ => r = .tup ([Value.slice none 0 0, .int .i64 0, .bool false].map .val)) := Try.implBest_n hM hR hC h
theorem Try.implBest_ok (M : List (List Int)) (C : List Con) (hM : M.length ≤ 1048576) (hR : ∀ i, i < M.length → (mrow M i).length ≤ 1048576) (hC : C.length ≤ 1048576) : PCall Try.prog 31 [rr M, rc C] (.tup [ri (bpt M C).1, .val (.int .i64 (bpt M C).2.1), .val (.bool (bpt M C).2.2)]) := by
  by_cases h : okB M C
  · rw [bpt_t h]; exact (Try.implBest_f hM hR hC h).pcall 3 (fun r H ⟨r0, h1, h2⟩ => view_tupU h1 h2)
  · rw [bpt_f h]
    refine (Try.implBest_n hM hR hC h).pcall 3 (by
      rintro r H rfl
      have h1 : viewL H 2 [.val (.slice none 0 0), .val (.int .i64 0), .val (.bool false)] = some [ri [], .val (.int .i64 0), .val (.bool false)] := viewL_cons_of view_nil (viewL_cons_of view_int (viewL_cons_of view_bool viewL_nil_of))
      simp only [List.map_cons, List.map_nil, view, h1])
theorem Try.implBest_o (M : List (List Int)) (C : List Con) (hM : M.length ≤ 1048576) (hR : ∀ i, i < M.length → (mrow M i).length ≤ 1048576) (hC : C.length ≤ 1048576) (h : okB M C) :
    FCall Try.prog 31 [rr M, rc C] (fun r H => r = .tup (.own 0 0 M.length M.length 1 false :: [Value.int .i64 (bpt M C).2.1, .bool (bpt M C).2.2].map .val) ∧ H = Heap.one ⟨ints (bpt M C).1, false⟩) := by
  rw [bpt_t h]
  exact (Try.implBest_f hM hR hC h).oneU

/-! ### Optimal partitions -/
open Classical in
noncomputable def isOpt (M : List (List Int)) (C : List Con) (L : List Int) : Bool := decide (okB M C) && ((isPart L && C.all (kp L)) && decide (pcost M L = bCost M C))
theorem isOpt_f {M : List (List Int)} {C : List Con} {L : List Int} (h : ¬ okB M C) : isOpt M C L = false := by simp [isOpt, h]
theorem isOpt_t {M : List (List Int)} {C : List Con} {L : List Int} (h : okB M C) : isOpt M C L = ((isPart L && C.all (kp L)) && decide (pcost M L = (bs M C).least)) := by simp [isOpt, h, bCost_t h]
theorem Try.specOpt_ok (M : List (List Int)) (C : List Con) (L : List Int) (hM : M.length ≤ 1048576) (hR : ∀ i, i < M.length → (mrow M i).length ≤ 1048576) (hC : C.length ≤ 1048576) (hL : L.length ≤ 1048576) : PCall Try.prog 36 [rr M, rc C, ri L] (.val (.bool (isOpt M C L))) := by
  refine FCall.pcall (R := fun r _ => r = .val (.bool (isOpt M C L))) ?_ 0 (by rintro r H rfl; exact view_bool)
  have wk := Try.specKeepsConstraints_ok L C hL hC
  have wp := Try.specPartitionCost_ok M L hM hR hL
  refine FCall.of_body Try.func36 rfl (by kernel_rfl) (by simp [Try.ntmps36]) ?_
  refine SW_of_vc Try.mixed _ _ _ (by kernel_rfl) ?_
  by_cases h : okB M C
  · have wr := Try.l20Run_ok hM hR hC h
    rw [rr_eq, rc] at wr
    rw [isOpt_t h]
    simp (disch := omega) only [Try.ntmps36, Try.results36, go_sem, Nat.reduceLT, Nat.reduceLeDiff, Nat.reduceEqDiff, Nat.reduceAdd, Nat.reduceSub, Nat.reduceMul, reduceIte, ↓reduceIte, reduceCtorEq, Int.reduceToNat, Int.reduceLE, Int.reduceLT, Int.reduceNeg, Int.reduceSub, Int.reduceAdd, Int.reduceMul, rr_eq, rc]
    refine wr.callX ?_
    rintro r H ⟨fb, rfl, mf, hlt⟩
    generalize (bs M C).least = z at *
    rcases Bool.eq_false_or_eq_true (isPart L && C.all (kp L)) with hk | hk
    · rw [hk] at wk ⊢
      generalize pcost M L = c at *
      by_cases hz : c = z
      · simp (disch := omega) only [Try.ntmps36, Try.results36, go_sem, Nat.reduceLT, Nat.reduceLeDiff, Nat.reduceEqDiff, Nat.reduceAdd, Nat.reduceSub, Nat.reduceMul, reduceIte, ↓reduceIte, reduceCtorEq, Int.reduceToNat, Int.reduceLE, Int.reduceLT, Int.reduceNeg, Int.reduceSub, Int.reduceAdd, Int.reduceMul, rr_eq, rc, hset_map, hpush_map]
        refine wk.callDV 0 (viewL_cons_of (view_row) (viewL_cons_of (view_row) viewL_nil_of)) ?_
        simp (disch := omega) only [Try.ntmps36, Try.results36, go_sem, Nat.reduceLT, Nat.reduceLeDiff, Nat.reduceEqDiff, Nat.reduceAdd, Nat.reduceSub, Nat.reduceMul, reduceIte, ↓reduceIte, reduceCtorEq, Int.reduceToNat, Int.reduceLE, Int.reduceLT, Int.reduceNeg, Int.reduceSub, Int.reduceAdd, Int.reduceMul, rr_eq, rc, hset_map, hpush_map]
        refine wp.callDV 0 (viewL_cons_of (view_row) (viewL_cons_of (view_row) viewL_nil_of)) ?_
        simp (disch := omega) only [Try.ntmps36, Try.results36, go_sem, Nat.reduceLT, Nat.reduceLeDiff, Nat.reduceEqDiff, Nat.reduceAdd, Nat.reduceSub, Nat.reduceMul, reduceIte, ↓reduceIte, reduceCtorEq, Int.reduceToNat, Int.reduceLE, Int.reduceLT, Int.reduceNeg, Int.reduceSub, Int.reduceAdd, Int.reduceMul, rr_eq, rc, hset_map, hpush_map]
        exact Fin.val (by simp [hz])
      · simp (disch := omega) only [Try.ntmps36, Try.results36, go_sem, Nat.reduceLT, Nat.reduceLeDiff, Nat.reduceEqDiff, Nat.reduceAdd, Nat.reduceSub, Nat.reduceMul, reduceIte, ↓reduceIte, reduceCtorEq, Int.reduceToNat, Int.reduceLE, Int.reduceLT, Int.reduceNeg, Int.reduceSub, Int.reduceAdd, Int.reduceMul, rr_eq, rc, hset_map, hpush_map]
        refine wk.callDV 0 (viewL_cons_of (view_row) (viewL_cons_of (view_row) viewL_nil_of)) ?_
        simp (disch := omega) only [Try.ntmps36, Try.results36, go_sem, Nat.reduceLT, Nat.reduceLeDiff, Nat.reduceEqDiff, Nat.reduceAdd, Nat.reduceSub, Nat.reduceMul, reduceIte, ↓reduceIte, reduceCtorEq, Int.reduceToNat, Int.reduceLE, Int.reduceLT, Int.reduceNeg, Int.reduceSub, Int.reduceAdd, Int.reduceMul, rr_eq, rc, hset_map, hpush_map]
        refine wp.callDV 0 (viewL_cons_of (view_row) (viewL_cons_of (view_row) viewL_nil_of)) ?_
        simp (disch := omega) only [Try.ntmps36, Try.results36, go_sem, Nat.reduceLT, Nat.reduceLeDiff, Nat.reduceEqDiff, Nat.reduceAdd, Nat.reduceSub, Nat.reduceMul, reduceIte, ↓reduceIte, reduceCtorEq, Int.reduceToNat, Int.reduceLE, Int.reduceLT, Int.reduceNeg, Int.reduceSub, Int.reduceAdd, Int.reduceMul, rr_eq, rc, hset_map, hpush_map]
        exact Fin.val (by simp [hz])
    · rw [hk] at wk ⊢
      simp (disch := omega) only [Try.ntmps36, Try.results36, go_sem, Nat.reduceLT, Nat.reduceLeDiff, Nat.reduceEqDiff, Nat.reduceAdd, Nat.reduceSub, Nat.reduceMul, reduceIte, ↓reduceIte, reduceCtorEq, Int.reduceToNat, Int.reduceLE, Int.reduceLT, Int.reduceNeg, Int.reduceSub, Int.reduceAdd, Int.reduceMul, rr_eq, rc, hset_map, hpush_map]
      refine wk.callDV 0 (viewL_cons_of (view_row) (viewL_cons_of (view_row) viewL_nil_of)) ?_
      simp (disch := omega) only [Try.ntmps36, Try.results36, go_sem, Nat.reduceLT, Nat.reduceLeDiff, Nat.reduceEqDiff, Nat.reduceAdd, Nat.reduceSub, Nat.reduceMul, reduceIte, ↓reduceIte, reduceCtorEq, Int.reduceToNat, Int.reduceLE, Int.reduceLT, Int.reduceNeg, Int.reduceSub, Int.reduceAdd, Int.reduceMul, rr_eq, rc, hset_map, hpush_map]
      exact Fin.val rfl
  · have wr := Try.l20Run_n hM hR hC h
    rw [rr_eq, rc] at wr
    rw [isOpt_f h]
    simp (disch := omega) only [Try.ntmps36, Try.results36, go_sem, Nat.reduceLT, Nat.reduceLeDiff, Nat.reduceEqDiff, Nat.reduceAdd, Nat.reduceSub, Nat.reduceMul, reduceIte, ↓reduceIte, reduceCtorEq, Int.reduceToNat, Int.reduceLE, Int.reduceLT, Int.reduceNeg, Int.reduceSub, Int.reduceAdd, Int.reduceMul, rr_eq, rc]
    refine wr.callX ?_
    rintro r H rfl
    simp (disch := omega) only [Try.ntmps36, Try.results36, go_sem, Nat.reduceLT, Nat.reduceLeDiff, Nat.reduceEqDiff, Nat.reduceAdd, Nat.reduceSub, Nat.reduceMul, reduceIte, ↓reduceIte, reduceCtorEq, Int.reduceToNat, Int.reduceLE, Int.reduceLT, Int.reduceNeg, Int.reduceSub, Int.reduceAdd, Int.reduceMul, rr_eq, rc, zS, hset_map, hpush_map]
    exact Fin.val rfl
theorem Try.implOpt_ok (M : List (List Int)) (C : List Con) (L : List Int) (hM : M.length ≤ 1048576) (hR : ∀ i, i < M.length → (mrow M i).length ≤ 1048576) (hC : C.length ≤ 1048576) (hL : L.length ≤ 1048576) : PCall Try.prog 38 [rr M, rc C, ri L] (.val (.bool (isOpt M C L))) := by
  refine FCall.pcall (R := fun r _ => r = .val (.bool (isOpt M C L))) ?_ 0 (by rintro r H rfl; exact view_bool)
  have wk := Try.implKeepsConstraints_ok L C hL hC
  have wp := Try.implPartitionCost_ok M L hM hR hL
  have wb := Try.implBestCost_ok (C := C) hM hR hC
  refine FCall.of_body Try.func38 rfl (by kernel_rfl) (by simp [Try.ntmps38]) ?_
  refine SW_of_vc Try.mixed _ _ _ (by kernel_rfl) ?_
  by_cases h : okB M C
  · have w1 := Try.canCluster_t hM hR hC h
    rw [bCost_t h] at wb
    rw [isOpt_t h]
    generalize (bs M C).least = z at *
    rcases Bool.eq_false_or_eq_true (isPart L && C.all (kp L)) with hk | hk
    · rw [hk] at wk ⊢
      generalize pcost M L = c at *
      by_cases hz : c = z
      · simp (disch := omega) only [Try.ntmps38, Try.results38, go_sem, Nat.reduceLT, Nat.reduceLeDiff, Nat.reduceEqDiff, Nat.reduceAdd, Nat.reduceSub, Nat.reduceMul, reduceIte, ↓reduceIte, reduceCtorEq, Int.reduceToNat, Int.reduceLE, Int.reduceLT, Int.reduceNeg, Int.reduceSub, Int.reduceAdd, Int.reduceMul, rr_eq, rc]
        refine w1.callV 0 (viewL_cons_of (view_row) (viewL_cons_of (view_row) viewL_nil_of)) ?_
        simp (disch := omega) only [Try.ntmps38, Try.results38, go_sem, Nat.reduceLT, Nat.reduceLeDiff, Nat.reduceEqDiff, Nat.reduceAdd, Nat.reduceSub, Nat.reduceMul, reduceIte, ↓reduceIte, reduceCtorEq, Int.reduceToNat, Int.reduceLE, Int.reduceLT, Int.reduceNeg, Int.reduceSub, Int.reduceAdd, Int.reduceMul, rr_eq, rc]
        refine wk.callV 0 (viewL_cons_of (view_row) (viewL_cons_of (view_row) viewL_nil_of)) ?_
        simp (disch := omega) only [Try.ntmps38, Try.results38, go_sem, Nat.reduceLT, Nat.reduceLeDiff, Nat.reduceEqDiff, Nat.reduceAdd, Nat.reduceSub, Nat.reduceMul, reduceIte, ↓reduceIte, reduceCtorEq, Int.reduceToNat, Int.reduceLE, Int.reduceLT, Int.reduceNeg, Int.reduceSub, Int.reduceAdd, Int.reduceMul, rr_eq, rc]
        refine wp.callV 0 (viewL_cons_of (view_row) (viewL_cons_of (view_row) viewL_nil_of)) ?_
        simp (disch := omega) only [Try.ntmps38, Try.results38, go_sem, Nat.reduceLT, Nat.reduceLeDiff, Nat.reduceEqDiff, Nat.reduceAdd, Nat.reduceSub, Nat.reduceMul, reduceIte, ↓reduceIte, reduceCtorEq, Int.reduceToNat, Int.reduceLE, Int.reduceLT, Int.reduceNeg, Int.reduceSub, Int.reduceAdd, Int.reduceMul, rr_eq, rc]
        refine wb.callV 0 (viewL_cons_of (view_row) (viewL_cons_of (view_row) viewL_nil_of)) ?_
        simp (disch := omega) only [Try.ntmps38, Try.results38, go_sem, Nat.reduceLT, Nat.reduceLeDiff, Nat.reduceEqDiff, Nat.reduceAdd, Nat.reduceSub, Nat.reduceMul, reduceIte, ↓reduceIte, reduceCtorEq, Int.reduceToNat, Int.reduceLE, Int.reduceLT, Int.reduceNeg, Int.reduceSub, Int.reduceAdd, Int.reduceMul, rr_eq, rc]
        exact Fin.val (by simp [hz])
      · simp (disch := omega) only [Try.ntmps38, Try.results38, go_sem, Nat.reduceLT, Nat.reduceLeDiff, Nat.reduceEqDiff, Nat.reduceAdd, Nat.reduceSub, Nat.reduceMul, reduceIte, ↓reduceIte, reduceCtorEq, Int.reduceToNat, Int.reduceLE, Int.reduceLT, Int.reduceNeg, Int.reduceSub, Int.reduceAdd, Int.reduceMul, rr_eq, rc]
        refine w1.callV 0 (viewL_cons_of (view_row) (viewL_cons_of (view_row) viewL_nil_of)) ?_
        simp (disch := omega) only [Try.ntmps38, Try.results38, go_sem, Nat.reduceLT, Nat.reduceLeDiff, Nat.reduceEqDiff, Nat.reduceAdd, Nat.reduceSub, Nat.reduceMul, reduceIte, ↓reduceIte, reduceCtorEq, Int.reduceToNat, Int.reduceLE, Int.reduceLT, Int.reduceNeg, Int.reduceSub, Int.reduceAdd, Int.reduceMul, rr_eq, rc]
        refine wk.callV 0 (viewL_cons_of (view_row) (viewL_cons_of (view_row) viewL_nil_of)) ?_
        simp (disch := omega) only [Try.ntmps38, Try.results38, go_sem, Nat.reduceLT, Nat.reduceLeDiff, Nat.reduceEqDiff, Nat.reduceAdd, Nat.reduceSub, Nat.reduceMul, reduceIte, ↓reduceIte, reduceCtorEq, Int.reduceToNat, Int.reduceLE, Int.reduceLT, Int.reduceNeg, Int.reduceSub, Int.reduceAdd, Int.reduceMul, rr_eq, rc]
        refine wp.callV 0 (viewL_cons_of (view_row) (viewL_cons_of (view_row) viewL_nil_of)) ?_
        simp (disch := omega) only [Try.ntmps38, Try.results38, go_sem, Nat.reduceLT, Nat.reduceLeDiff, Nat.reduceEqDiff, Nat.reduceAdd, Nat.reduceSub, Nat.reduceMul, reduceIte, ↓reduceIte, reduceCtorEq, Int.reduceToNat, Int.reduceLE, Int.reduceLT, Int.reduceNeg, Int.reduceSub, Int.reduceAdd, Int.reduceMul, rr_eq, rc]
        refine wb.callV 0 (viewL_cons_of (view_row) (viewL_cons_of (view_row) viewL_nil_of)) ?_
        simp (disch := omega) only [Try.ntmps38, Try.results38, go_sem, Nat.reduceLT, Nat.reduceLeDiff, Nat.reduceEqDiff, Nat.reduceAdd, Nat.reduceSub, Nat.reduceMul, reduceIte, ↓reduceIte, reduceCtorEq, Int.reduceToNat, Int.reduceLE, Int.reduceLT, Int.reduceNeg, Int.reduceSub, Int.reduceAdd, Int.reduceMul, rr_eq, rc]
        exact Fin.val (by simp [hz])
    · rw [hk] at wk ⊢
      simp (disch := omega) only [Try.ntmps38, Try.results38, go_sem, Nat.reduceLT, Nat.reduceLeDiff, Nat.reduceEqDiff, Nat.reduceAdd, Nat.reduceSub, Nat.reduceMul, reduceIte, ↓reduceIte, reduceCtorEq, Int.reduceToNat, Int.reduceLE, Int.reduceLT, Int.reduceNeg, Int.reduceSub, Int.reduceAdd, Int.reduceMul, rr_eq, rc]
      refine w1.callV 0 (viewL_cons_of (view_row) (viewL_cons_of (view_row) viewL_nil_of)) ?_
      simp (disch := omega) only [Try.ntmps38, Try.results38, go_sem, Nat.reduceLT, Nat.reduceLeDiff, Nat.reduceEqDiff, Nat.reduceAdd, Nat.reduceSub, Nat.reduceMul, reduceIte, ↓reduceIte, reduceCtorEq, Int.reduceToNat, Int.reduceLE, Int.reduceLT, Int.reduceNeg, Int.reduceSub, Int.reduceAdd, Int.reduceMul, rr_eq, rc]
      refine wk.callV 0 (viewL_cons_of (view_row) (viewL_cons_of (view_row) viewL_nil_of)) ?_
      simp (disch := omega) only [Try.ntmps38, Try.results38, go_sem, Nat.reduceLT, Nat.reduceLeDiff, Nat.reduceEqDiff, Nat.reduceAdd, Nat.reduceSub, Nat.reduceMul, reduceIte, ↓reduceIte, reduceCtorEq, Int.reduceToNat, Int.reduceLE, Int.reduceLT, Int.reduceNeg, Int.reduceSub, Int.reduceAdd, Int.reduceMul, rr_eq, rc]
      exact Fin.val rfl
  · have w1 := Try.canCluster_f hM hR hC h
    rw [isOpt_f h]
    simp (disch := omega) only [Try.ntmps38, Try.results38, go_sem, Nat.reduceLT, Nat.reduceLeDiff, Nat.reduceEqDiff, Nat.reduceAdd, Nat.reduceSub, Nat.reduceMul, reduceIte, ↓reduceIte, reduceCtorEq, Int.reduceToNat, Int.reduceLE, Int.reduceLT, Int.reduceNeg, Int.reduceSub, Int.reduceAdd, Int.reduceMul, rr_eq, rc]
    refine w1.callV 0 (viewL_cons_of (view_row) (viewL_cons_of (view_row) viewL_nil_of)) ?_
    simp (disch := omega) only [Try.ntmps38, Try.results38, go_sem, Nat.reduceLT, Nat.reduceLeDiff, Nat.reduceEqDiff, Nat.reduceAdd, Nat.reduceSub, Nat.reduceMul, reduceIte, ↓reduceIte, reduceCtorEq, Int.reduceToNat, Int.reduceLE, Int.reduceLT, Int.reduceNeg, Int.reduceSub, Int.reduceAdd, Int.reduceMul, rr_eq, rc]
    exact Fin.val rfl

/-! ### What constraints cost -/
noncomputable def ccost (M : List (List Int)) (C : List Con) : Int := if bCost M C < 0 then -1 else bCost M C - bCost M []
theorem rc_nil : rc [] = .row 0 false [] := rfl
theorem view_ownC0 {H : Heap} {f b cap : Nat} {ex e2 : Bool} (hb : H.map b = some ⟨[], e2⟩) : view H (f + 1) (.own b 0 0 cap 3 ex) = some (rc []) := by
  simp only [Sh.view, hb, Nat.zero_mul, List.drop_zero, List.take_zero]
  rw [if_pos (by simp)]
  have : viewL H f [] = some [] := viewL_nil_of
  rw [this]; rfl
theorem view_nilC0 {H : Heap} {f : Nat} : view H f (.val (.slice none 0 0)) = some (rc []) := by simp only [view, viewV]; rfl
theorem Try.specCC_ok (M : List (List Int)) (C : List Con) (hM : M.length ≤ 1048576) (hR : ∀ i, i < M.length → (mrow M i).length ≤ 1048576) (hC : C.length ≤ 1048576) : PCall Try.prog 39 [rr M, rc C] (.val (.int .i64 (ccost M C))) := by
  refine FCall.pcall (R := fun r _ => r = .val (.int .i64 (ccost M C))) ?_ 0 (by rintro r H rfl; exact view_int)
  have w1 := Try.specBestCost_ok (C := C) hM hR hC
  have w2 := Try.specBestCost_ok (C := []) hM hR (by simp)
  have b1 := bCost_b M C
  have b2 := bCost_b M []
  refine FCall.of_body Try.func39 rfl (by kernel_rfl) (by simp [Try.ntmps39]) ?_
  refine SW_of_vc Try.mixed _ _ _ (by kernel_rfl) ?_
  rw [ccost]
  generalize bCost M C = a at *
  generalize bCost M [] = b at *
  by_cases h : a < 0
  · rw [if_pos h]
    simp (disch := omega) only [Try.ntmps39, Try.results39, go_sem, Nat.reduceLT, Nat.reduceLeDiff, Nat.reduceEqDiff, Nat.reduceAdd, Nat.reduceSub, Nat.reduceMul, reduceIte, ↓reduceIte, reduceCtorEq, Int.reduceToNat, Int.reduceLE, Int.reduceLT, Int.reduceNeg, Int.reduceSub, Int.reduceAdd, Int.reduceMul, rr_eq, rc]
    refine w1.callV 0 (viewL_cons_of (view_row) (viewL_cons_of (view_row) viewL_nil_of)) ?_
    simp (disch := omega) only [Try.ntmps39, Try.results39, go_sem, Nat.reduceLT, Nat.reduceLeDiff, Nat.reduceEqDiff, Nat.reduceAdd, Nat.reduceSub, Nat.reduceMul, reduceIte, ↓reduceIte, reduceCtorEq, Int.reduceToNat, Int.reduceLE, Int.reduceLT, Int.reduceNeg, Int.reduceSub, Int.reduceAdd, Int.reduceMul, rr_eq, rc]
    exact Fin.val rfl
  · rw [if_neg h]
    simp (disch := omega) only [Try.ntmps39, Try.results39, go_sem, Nat.reduceLT, Nat.reduceLeDiff, Nat.reduceEqDiff, Nat.reduceAdd, Nat.reduceSub, Nat.reduceMul, reduceIte, ↓reduceIte, reduceCtorEq, Int.reduceToNat, Int.reduceLE, Int.reduceLT, Int.reduceNeg, Int.reduceSub, Int.reduceAdd, Int.reduceMul, rr_eq, rc]
    refine w1.callV 0 (viewL_cons_of (view_row) (viewL_cons_of (view_row) viewL_nil_of)) ?_
    simp (disch := omega) only [Try.ntmps39, Try.results39, go_sem, Nat.reduceLT, Nat.reduceLeDiff, Nat.reduceEqDiff, Nat.reduceAdd, Nat.reduceSub, Nat.reduceMul, reduceIte, ↓reduceIte, reduceCtorEq, Int.reduceToNat, Int.reduceLE, Int.reduceLT, Int.reduceNeg, Int.reduceSub, Int.reduceAdd, Int.reduceMul, rr_eq, rc]
    refine w2.callV 1 (viewL_cons_of view_row (viewL_cons_of (view_ownC0 (by first | rfl | (simp (disch := omega) only [hx_map, hp_map, xmap_blk, hmap_cons, xmap_skipI, xmap_nil, if_pos, if_neg, ↓reduceIte]; try rfl))) viewL_nil_of)) ?_
    simp (disch := omega) only [Try.ntmps39, Try.results39, go_sem, Nat.reduceLT, Nat.reduceLeDiff, Nat.reduceEqDiff, Nat.reduceAdd, Nat.reduceSub, Nat.reduceMul, reduceIte, ↓reduceIte, reduceCtorEq, Int.reduceToNat, Int.reduceLE, Int.reduceLT, Int.reduceNeg, Int.reduceSub, Int.reduceAdd, Int.reduceMul, rr_eq, rc]
    exact Fin.val rfl
theorem Try.implCC_ok (M : List (List Int)) (C : List Con) (hM : M.length ≤ 1048576) (hR : ∀ i, i < M.length → (mrow M i).length ≤ 1048576) (hC : C.length ≤ 1048576) : PCall Try.prog 40 [rr M, rc C] (.val (.int .i64 (ccost M C))) := by
  refine FCall.pcall (R := fun r _ => r = .val (.int .i64 (ccost M C))) ?_ 0 (by rintro r H rfl; exact view_int)
  have w1 := Try.implBestCost_ok (C := C) hM hR hC
  have w2 := Try.implBestCost_ok (C := []) hM hR (by simp)
  have b1 := bCost_b M C
  have b2 := bCost_b M []
  refine FCall.of_body Try.func40 rfl (by kernel_rfl) (by simp [Try.ntmps40]) ?_
  refine SW_of_vc Try.mixed _ _ _ (by kernel_rfl) ?_
  rw [ccost]
  generalize bCost M C = a at *
  generalize bCost M [] = b at *
  by_cases h : a < 0
  · rw [if_pos h]
    simp (disch := omega) only [Try.ntmps40, Try.results40, go_sem, Nat.reduceLT, Nat.reduceLeDiff, Nat.reduceEqDiff, Nat.reduceAdd, Nat.reduceSub, Nat.reduceMul, reduceIte, ↓reduceIte, reduceCtorEq, Int.reduceToNat, Int.reduceLE, Int.reduceLT, Int.reduceNeg, Int.reduceSub, Int.reduceAdd, Int.reduceMul, rr_eq, rc]
    refine w1.callV 0 (viewL_cons_of (view_row) (viewL_cons_of (view_row) viewL_nil_of)) ?_
    simp (disch := omega) only [Try.ntmps40, Try.results40, go_sem, Nat.reduceLT, Nat.reduceLeDiff, Nat.reduceEqDiff, Nat.reduceAdd, Nat.reduceSub, Nat.reduceMul, reduceIte, ↓reduceIte, reduceCtorEq, Int.reduceToNat, Int.reduceLE, Int.reduceLT, Int.reduceNeg, Int.reduceSub, Int.reduceAdd, Int.reduceMul, rr_eq, rc]
    exact Fin.val rfl
  · rw [if_neg h]
    simp (disch := omega) only [Try.ntmps40, Try.results40, go_sem, Nat.reduceLT, Nat.reduceLeDiff, Nat.reduceEqDiff, Nat.reduceAdd, Nat.reduceSub, Nat.reduceMul, reduceIte, ↓reduceIte, reduceCtorEq, Int.reduceToNat, Int.reduceLE, Int.reduceLT, Int.reduceNeg, Int.reduceSub, Int.reduceAdd, Int.reduceMul, rr_eq, rc]
    refine w1.callV 0 (viewL_cons_of (view_row) (viewL_cons_of (view_row) viewL_nil_of)) ?_
    simp (disch := omega) only [Try.ntmps40, Try.results40, go_sem, Nat.reduceLT, Nat.reduceLeDiff, Nat.reduceEqDiff, Nat.reduceAdd, Nat.reduceSub, Nat.reduceMul, reduceIte, ↓reduceIte, reduceCtorEq, Int.reduceToNat, Int.reduceLE, Int.reduceLT, Int.reduceNeg, Int.reduceSub, Int.reduceAdd, Int.reduceMul, rr_eq, rc]
    refine w2.callV 1 (viewL_cons_of view_row (viewL_cons_of view_nilC0 viewL_nil_of)) ?_
    simp (disch := omega) only [Try.ntmps40, Try.results40, go_sem, Nat.reduceLT, Nat.reduceLeDiff, Nat.reduceEqDiff, Nat.reduceAdd, Nat.reduceSub, Nat.reduceMul, reduceIte, ↓reduceIte, reduceCtorEq, Int.reduceToNat, Int.reduceLE, Int.reduceLT, Int.reduceNeg, Int.reduceSub, Int.reduceAdd, Int.reduceMul, rr_eq, rc]
    exact Fin.val rfl
end Go.Sh

/-
  Contracts: the constraints of some items, of the reference; constraints marked and read back.
-/
namespace Go.Sh
set_option linter.unusedSimpArgs false
set_option linter.unusedVariables false
open Go Go.Proofs

theorem rep0 (zs : List SV) : rep zs 0 = [] := rfl

def mk3 (k : Int) (i : Nat) : Con := (k + 3 * (i : Int), k + 3 * (i : Int) + 1, Int.tmod (k + 3 * (i : Int) + 1 + 1) 3 == 0)
def markC (C : List Con) (k : Int) (i : Nat) : List Con := (List.range i).map (mk3 k) ++ C.drop i
def marksC (n : Nat) (k : Int) : List Con := (List.range n).map (mk3 k)
theorem markC_zero (C : List Con) (k : Int) : markC C k 0 = C := by simp [markC]
theorem markC_length {C : List Con} {k : Int} {i : Nat} (h : i ≤ C.length) : (markC C k i).length = C.length := by simp [markC]; omega
theorem markC_all (C : List Con) (k : Int) : markC C k C.length = marksC C.length k := by simp [markC, marksC]
theorem marksC_length (n : Nat) (k : Int) : (marksC n k).length = n := by simp [marksC]
theorem markC_set {C : List Con} {k : Int} {i : Nat} (h : i < C.length) : (markC C k i).set i (mk3 k i) = markC C k (i + 1) := by
  apply List.ext_getElem?
  intro x
  simp only [markC, List.getElem?_set, List.getElem?_append, List.length_map, List.length_range, List.getElem?_map, List.getElem?_drop, List.length_append, List.length_drop]
  by_cases h1 : i = x
  · subst h1
    have : i < i + (C.length - i) := by omega
    simp [this]
  · by_cases h2 : x < i
    · have h3 : x < i + 1 := by omega
      simp [h1, h2, h3]
    · have h3 : ¬ x < i + 1 := by omega
      simp [h1, h2, h3]
      congr 1
      omega
theorem cons_set3' {C : List Con} {k : Nat} {a b : Int} {s : Bool} (h : k < C.length) : (((cons C).set (k * 3) (.val (.int .i64 a))).set (k * 3 + 1) (.val (.int .i64 b))).set (k * 3 + 2) (.val (.bool s)) = cons (C.set k (a, b, s)) := cons_set3 h

set_option maxHeartbeats 2000000 in
theorem Try.markConstraintS_ok (C : List Con) (k : Int) (H : Heap) (b n cap : Nat) (ex e2 : Bool) (hb : H.map b = some ⟨cons C, e2⟩) (hn : n = C.length) (hL : C.length ≤ 1099511627776) (hk : 0 ≤ k) (hk2 : k ≤ 1099511627776) :
    CallS Try.prog 29 [.own b 0 n cap 3 ex, .val (.int .i64 k)] H (fun r H' => r = .val (.int .i64 (k + 3 * (n : Int))) ∧ H' = H.set b (some ⟨cons (marksC n k), e2⟩)) := by
  subst hn
  refine CallS.of_body Try.func29 rfl (by kernel_rfl) (by simp [Try.ntmps29]) ?_
  refine SW_of_vc Try.mixed _ _ _ (by kernel_rfl) ?_
  simp (disch := omega) only [Try.ntmps29, Try.results29, go_sem, Nat.reduceLT, Nat.reduceLeDiff, Nat.reduceEqDiff, Nat.reduceAdd, Nat.reduceSub, Nat.reduceMul, reduceIte, ↓reduceIte, reduceCtorEq, Int.reduceToNat, Int.reduceLE, Int.reduceLT, Int.reduceNeg, Int.reduceSub, Int.reduceAdd, Int.reduceMul]
  refine LoopW.loop (fun i : Nat => ⟨ofL [(0, .own b 0 C.length cap 3 ex), (1, .val (.int .i64 (k + 3 * (i : Int)))), (5, .val (.int .i64 i))], H.set b (some ⟨cons (markC C k i), e2⟩)⟩) (fun i => i ≤ C.length) (fun i => C.length - i) 0 (by omega) (Wk.of (by simp only [go_sem, ↓List.forall_mem_cons, List.not_mem_nil, false_implies, implies_true, and_true, true_and, and_self, Nat.reduceEqDiff, reduceIte, ↓reduceIte, ri_eq, Int.natCast_add, Int.cast_ofNat_Int, Int.natCast_zero, Int.mul_zero, Int.add_zero]; try simp) (by rw [markC_zero, Heap.set_self hb])) ?_
  intro i hi
  have hml := markC_length (k := k) hi
  have hcl := cons_length (markC C k i)
  refine SW_of_vc Try.mixed _ _ _ (by kernel_rfl) ?_
  by_cases hlt : i < C.length
  · have hset := cons_set3' (C := markC C k i) (k := i) (a := k + 3 * (i : Int)) (b := k + 3 * (i : Int) + 1) (s := Int.tmod (k + 3 * (i : Int) + 1 + 1) 3 == 0) (by omega)
    have hset2 := markC_set (k := k) hlt
    rw [mk3] at hset2
    rw [hset2] at hset
    simp (disch := omega) only [Try.ntmps29, Try.results29, go_sem, Nat.reduceLT, Nat.reduceLeDiff, Nat.reduceEqDiff, Nat.reduceAdd, Nat.reduceSub, Nat.reduceMul, reduceIte, ↓reduceIte, reduceCtorEq, Int.reduceToNat, Int.reduceLE, Int.reduceLT, Int.reduceNeg, Int.reduceSub, Int.reduceAdd, Int.reduceMul, Heap.set_at, hml, hcl, Heap.set_set, List.length_set, hset]
    have e : k + 3 * (i : Int) + 1 + 1 + 1 = k + 3 * ((i : Int) + 1) := by omega
    exact ⟨i + 1, by omega, by omega, Wk.of (by simp only [go_sem, ↓List.forall_mem_cons, List.not_mem_nil, false_implies, implies_true, and_true, true_and, and_self, Nat.reduceEqDiff, reduceIte, ↓reduceIte, ri_eq, Int.natCast_add, Int.cast_ofNat_Int, e]; try simp) rfl⟩
  · obtain rfl : i = C.length := by omega
    simp (disch := omega) only [Try.ntmps29, Try.results29, go_sem, Nat.reduceLT, Nat.reduceLeDiff, Nat.reduceEqDiff, Nat.reduceAdd, Nat.reduceSub, Nat.reduceMul, reduceIte, ↓reduceIte, reduceCtorEq, Int.reduceToNat, Int.reduceLE, Int.reduceLT, Int.reduceNeg, Int.reduceSub, Int.reduceAdd, Int.reduceMul, Heap.set_at, hml, Heap.set_set, markC_all]

open Classical in
noncomputable def heldC (C : List Con) (k : Int) : Int := if C = marksC C.length k then k + 3 * (C.length : Int) else -1
theorem heldC_marks (n : Nat) (k : Int) : heldC (marksC n k) k = k + 3 * (n : Int) := by rw [heldC, marksC_length, if_pos rfl]

theorem view_nilC {H : Heap} {f : Nat} : view H f (.val (.slice none 0 0)) = some (rc []) := by simp only [view, viewV, rc, cons, List.flatMap_nil, List.length_nil]
theorem Try.toConstraintS_one (C : List Con) (hC : C.length ≤ 1048576) : FCall Try.prog 26 [rc C] (OneRes C.length 3 (cons C)) := (Try.toConstraintS_f C hC).one
theorem Try.markConstraintS_nil (k : Int) (H : Heap) (hk : 0 ≤ k) (hk2 : k ≤ 1099511627776) : CallS Try.prog 29 [.val (.slice none 0 0), .val (.int .i64 k)] H (fun r H' => r = .val (.int .i64 k) ∧ H' = H) := by
  refine CallS.of_body Try.func29 rfl (by kernel_rfl) (by simp [Try.ntmps29]) ?_
  refine SW_of_vc Try.mixed _ _ _ (by kernel_rfl) ?_
  simp (disch := omega) only [Try.ntmps29, Try.results29, go_sem, Nat.reduceLT, Nat.reduceLeDiff, Nat.reduceEqDiff, Nat.reduceAdd, Nat.reduceSub, Nat.reduceMul, reduceIte, ↓reduceIte, reduceCtorEq, Int.reduceToNat, Int.reduceLE, Int.reduceLT, Int.reduceNeg, Int.reduceSub, Int.reduceAdd, Int.reduceMul]
  refine LoopW.loop (fun _ : Unit => ⟨ofL [(0, .val (.slice none 0 0)), (1, .val (.int .i64 k)), (5, .val (.int .i64 0))], H⟩) (fun _ => True) (fun _ => 0) () trivial (Wk.of (by simp only [go_sem, ↓List.forall_mem_cons, List.not_mem_nil, false_implies, implies_true, and_true, true_and, and_self, Nat.reduceEqDiff, reduceIte, ↓reduceIte, ri_eq, Int.natCast_add, Int.cast_ofNat_Int]; try simp) rfl) ?_
  rintro _ _
  refine SW_of_vc Try.mixed _ _ _ (by kernel_rfl) ?_
  simp (disch := omega) only [Try.ntmps29, Try.results29, go_sem, Nat.reduceLT, Nat.reduceLeDiff, Nat.reduceEqDiff, Nat.reduceAdd, Nat.reduceSub, Nat.reduceMul, reduceIte, ↓reduceIte, reduceCtorEq, Int.reduceToNat, Int.reduceLE, Int.reduceLT, Int.reduceNeg, Int.reduceSub, Int.reduceAdd, Int.reduceMul]

theorem view_ownC {H : Heap} {b n f cap : Nat} {ex : Bool} {e2 : Bool} {C : List Con} (hb : H.map b = some ⟨cons C, e2⟩) (hn : n = C.length) : view H (f + 1) (.own b 0 n cap 3 ex) = some (rc C) := by
  subst hn
  have hv : ∀ (C : List Con), viewL H f (cons C) = some (cons C) := by
    intro C
    induction C with
    | nil => exact viewL_nil_of
    | cons c C ih => exact viewL_cons_of view_int (viewL_cons_of view_int (viewL_cons_of view_bool ih))
  have ht : (cons C).take (C.length * 3) = cons C := cons_take_self C
  simp only [Sh.view, hb, List.drop_zero, ht, hv]
  rw [if_pos (by rw [cons_length]; omega), rc]
theorem view_rowC {H : Heap} {f n : Nat} {ex : Bool} {C : List Con} (hn : n = C.length) : view H f (.row n ex (cons C)) = some (rc C) := by subst hn; simp only [view, rc]
end Go.Sh

/-
  Results that are known as contents of some kind alone; drawing a matrix, constraints and labels.
-/
namespace Go.Sh
set_option linter.unusedSimpArgs false
set_option linter.unusedVariables false
open Go Go.RowKit Go.Proofs

section
variable {P : Program}
/-- f writes nothing that came in; its result reads as one of S, in memory of its own. -/
def PCallE (P : Program) (f : FuncId) (args : List SV) (S : SV → Prop) : Prop :=
  Enters P f ∧ ∀ w vs, LRel (fun _ => False) w noj args vs → Calls P f vs.toArray w (fun e w' => ∃ v T, S T ∧ e = .returned v ∧ Below w.heap.size w w' ∧ VRel (fun k => k < w.heap.size) w' noj T v)
theorem FCall.pcallE {f : FuncId} {args : List SV} {R : SV → Heap → Prop} {S : SV → Prop} (h : FCall P f args R) (fu : Nat) (hr : ∀ r H, R r H → ∃ T, view H fu r = some T ∧ S T) : PCallE P f args S := by
  refine ⟨h.1, fun w vs hl => (h.2 w vs hl).mono ?_⟩
  rintro e w' ⟨v, r, j, H, h1, h2, h3, h4, h5, h6, h7, h8⟩
  have hlive : Live (fun k => k < w.heap.size) j H w' := h3.liveN h7 (fun k hk => by have := h5 k hk; omega)
  obtain ⟨T, k1, k2⟩ := hr r H h8
  exact ⟨v, T, k2, h1, h2, view_sound hlive fu r T v k1 (VRel.anyO r v h6 h4)⟩
theorem PCallE.callE {f : FuncId} {args args' : List SV} {S : SV → Prop} {H : Heap} {K : SV → Heap → Prop} (h : PCallE P f args' S) (fu : Nat) (hv : viewL H fu args = some args') (k : ∀ T, S T → K T H) : @CallX P f args H ⟨K⟩ := by
  refine ⟨h.1, fun j w vs r hl => ?_⟩
  have hl' := viewL_sound r.live0 fu args args' vs hv (LRel.tr (Tr.weaken w (fun _ h => h.elim)) (fun _ _ h => h) args vs hl)
  refine (h.2 w vs hl').mono ?_
  rintro e w' ⟨v, T, hS, h1, h2, h3⟩
  obtain ⟨r', nx⟩ := r.below h2
  refine ⟨T, v, j, H, h1, r', ?_, nx, k T hS⟩
  exact VRel.tr (Tr.weaken w' (fun k hk => r.own_lt hk)) (by intro b p h; simp [noj] at h) T v h3
end
theorem MatH.viewH {H : Heap} {lo ob : Nat} {cs : List SV} {nm : Nat → Nat} {M : List (List Int)} {f cap : Nat} {e : Bool} (h : MatH H lo ob cs nm M) : Sh.view H (f + 2) (.own ob 0 M.length cap 1 e) = some (rr M) := by
  have hL : viewL H (f + 1) cs = some (rows M) := by
    have hr : ∀ i, i < M.length → ∃ s, cs[i]? = some s ∧ Sh.view H (f + 1) s = some (ri (mrow M i)) := fun i hi => by
      obtain ⟨e, e2, h1, h2⟩ := h.row i hi
      exact ⟨_, h1, view_own (L := mrow M i) (e2 := e2) h2 rfl⟩
    have hln := h.ln
    clear h
    induction cs generalizing M with
    | nil =>
      have : M = [] := List.length_eq_zero_iff.1 hln.symm
      subst this
      exact viewL_nil_of
    | cons s cs ih =>
      cases M with
      | nil => simp at hln
      | cons L M =>
        refine viewL_cons_of ?_ (ih (M := M) (fun i hi => ?_) (by simpa using hln))
        · obtain ⟨s', h1, h2⟩ := hr 0 (by simp)
          simp at h1; subst h1
          exact h2
        · obtain ⟨s', h1, h2⟩ := hr (i + 1) (by simpa using hi)
          exact ⟨s', by simpa using h1, h2⟩
  simp only [Sh.view, h.o, Nat.mul_one, List.drop_zero]
  have hle : M.length ≤ cs.length := by rw [h.ln]; omega
  rw [if_pos (by omega), ← h.ln, List.take_length, hL]
  simp only [rr, h.ln]
theorem view_ownCC {H : Heap} {b n f cap : Nat} {ex e2 : Bool} {C : List Con} (hb : H.map b = some ⟨cons C, e2⟩) (hn : n = C.length) : view H (f + 1) (.own b 0 n cap 3 ex) = some (rc C) := view_ownC hb hn

/-- A matrix, constraints, labels: what a drawing gives back. -/
def R3 (S : SV → Prop) (r : SV) (H : Heap) : Prop := ∃ T, view H 3 r = some T ∧ S T
def part (H : Heap) (p : Nat → Prop) [DecidablePred p] : Heap := ⟨fun b => if p b then H.map b else none, H.nb⟩
theorem part_sub (H : Heap) (p : Nat → Prop) [DecidablePred p] : Sub (part H p) H := ⟨rfl, fun b => by
  show (if p b then H.map b else none) = none ∨ (if p b then H.map b else none) = H.map b
  split
  · exact .inr rfl
  · exact .inl rfl⟩
theorem part_map {H : Heap} {p : Nat → Prop} [DecidablePred p] {b : Nat} (h : p b) : (part H p).map b = H.map b := if_pos h
theorem noRowL_of {cs : List SV} (h : ∀ s ∈ cs, noRow s = true) : noRowL cs = true := by
  induction cs with
  | nil => rfl
  | cons s cs ih => simp only [noRowL, h s (by simp), ih fun s hs => h s (by simp [hs]), Bool.and_self]
theorem MatH.part {H : Heap} {lo ob : Nat} {cs : List SV} {nm : Nat → Nat} {M : List (List Int)} (h : MatH H lo ob cs nm M) (p : Nat → Prop) [DecidablePred p] (h1 : p ob) (h2 : ∀ i, i < M.length → p (nm i)) : MatH (Sh.part H p) lo ob cs nm M :=
  ⟨h.ln, by rw [part_map h1, h.o], fun i hi => by
    obtain ⟨e, e2, k1, k2⟩ := h.row i hi
    exact ⟨e, e2, k1, by rw [part_map (h2 i hi), k2]⟩, h.inj, h.lo1, h.lo2⟩
theorem MatH.nr {H : Heap} {lo ob : Nat} {cs : List SV} {nm : Nat → Nat} {M : List (List Int)} (h : MatH H lo ob cs nm M) : noRowL cs = true :=
  noRowL_of fun s hs => by
    obtain ⟨i, hi, rfl⟩ := List.getElem_of_mem hs
    obtain ⟨e, e2, h1, h2⟩ := h.row i (by rw [← h.ln]; exact hi)
    rw [List.getElem?_eq_getElem hi] at h1
    simp at h1
    rw [h1]; rfl
theorem cons_vals1 (C : List Con) : (cons C).all isVal = true := cons_vals C
open Classical in
theorem fin_mcl {S : SV → Prop} {H : Heap} {lo ob lb xb : Nat} {cs : List SV} {nm : Nat → Nat} {M : List (List Int)} {C : List Con} {L : List Int} {c1 c2 c3 : Nat} {e1 e2 e3 : Bool} (hM : MatH H lo ob cs nm M) (hc : H.map lb = some ⟨cons C, false⟩) (hx : H.map xb = some ⟨ints L, false⟩) (hS : S (.tup [rr M, rc C, ri L])) :
    Fin (R3 S) (.tup [.own ob 0 M.length c1 1 e1, .own lb 0 C.length c2 3 e2, .own xb 0 L.length c3 1 e3]) H := by
  let p : Nat → Prop := fun b => b = ob ∨ (∃ i, i < M.length ∧ b = nm i) ∨ b = lb ∨ b = xb
  have hM2 := hM.part p (.inl rfl) (fun i hi => .inr (.inl ⟨i, hi, rfl⟩))
  have hc2 : (part H p).map lb = some ⟨cons C, false⟩ := by rw [part_map (.inr (.inr (.inl rfl))), hc]
  have hx2 : (part H p).map xb = some ⟨ints L, false⟩ := by rw [part_map (.inr (.inr (.inr rfl))), hx]
  refine ⟨part H p, part_sub H p, rfl, fun b blk hb => ?_, .tup [rr M, rc C, ri L], ?_, hS⟩
  · have hb' : (if p b then H.map b else none) = some blk := hb
    split at hb'
    · rename_i hp
      rcases hp with rfl | ⟨i, hi, rfl⟩ | rfl | rfl
      · rw [hM.o] at hb'; simp at hb'; subst hb'; exact hM.nr
      · obtain ⟨e, e2, k1, k2⟩ := hM.row i hi
        rw [k2] at hb'; simp at hb'; subst hb'; exact noRowL_ints _
      · rw [hc] at hb'; simp at hb'; subst hb'; exact isVal_noRow (cons_vals1 C)
      · rw [hx] at hb'; simp at hb'; subst hb'; exact noRowL_ints _
    · simp at hb'
  · have h1 : viewL (part H p) 2 [.own ob 0 M.length c1 1 e1, .own lb 0 C.length c2 3 e2, .own xb 0 L.length c3 1 e3] = some [rr M, rc C, ri L] :=
      viewL_cons_of (hM2.viewH (f := 0)) (viewL_cons_of (view_ownCC hc2 rfl) (viewL_cons_of (view_own hx2 rfl) viewL_nil_of))
    simp only [view, h1]
end Go.Sh

/-
  Drawing a matrix with constraints, and labels.
-/
namespace Go.Sh
set_option linter.unusedSimpArgs false
set_option linter.unusedVariables false
open Go Go.RowKit Go.Proofs

def PairQ (B : List Int) (cb : Nat) (H : Heap) (r : SV) (H' : Heap) : Prop :=
  ∃ ob cs nm M lb C, r = .tup [.own ob 0 M.length M.length 1 false, .own lb 0 C.length C.length 3 false] ∧ MatH H' H.nb ob cs nm M ∧ H'.map lb = some ⟨cons C, false⟩ ∧ H.nb ≤ lb ∧ lb < H'.nb ∧ DS B cb H H' ∧ (1 ≤ M.length ∧ M.length ≤ 7) ∧ (∀ i, i < M.length → (mrow M i).length ≤ 6) ∧ C.length ≤ 5
set_option maxHeartbeats 4000000 in
theorem Try.l20Pair_ok (B : List Int) (hB : B.length ≤ 1048576) (H : Heap) (cb : Nat) (hc : Cur B H cb) (hcb : cb < H.nb) : CallS Try.prog 132 [.optr cb 0] H (PairQ B cb H) := by
  refine CallS.of_body Try.func132 rfl (by kernel_rfl) (by simp [Try.ntmps132]) ?_
  refine SW_of_vc Try.mixed _ _ _ (by kernel_rfl) ?_
  simp (disch := omega) only [Try.ntmps132, Try.results132, go_sem, Nat.reduceLT, Nat.reduceLeDiff, Nat.reduceEqDiff, Nat.reduceAdd, Nat.reduceSub, Nat.reduceMul, reduceIte, ↓reduceIte, reduceCtorEq, Int.reduceToNat, Int.reduceLE, Int.reduceLT, Int.reduceNeg, Int.reduceSub, Int.reduceAdd, Int.reduceMul]
  refine (Try.l17Any_ok B hB H cb hc hcb).callX ?_
  rintro r H1 ⟨ob, cs, nm, M, rfl, hM, hd, ⟨hl1, hl7⟩, hr6⟩
  have hnb := hd.nb
  have w := Try.l1Once_ok B hB 12 (by omega) H1 cb hd.cur
  simp (disch := omega) only [Try.ntmps132, Try.results132, go_sem, Nat.reduceLT, Nat.reduceLeDiff, Nat.reduceEqDiff, Nat.reduceAdd, Nat.reduceSub, Nat.reduceMul, reduceIte, ↓reduceIte, reduceCtorEq, Int.reduceToNat, Int.reduceLE, Int.reduceLT, Int.reduceNeg, Int.reduceSub, Int.reduceAdd, Int.reduceMul]
  refine w.callX ?_
  rintro r H2 ⟨b, rfl, hs⟩
  have hd2 := hd.trans hs.ds
  have hnb2 := hs.nb
  have hM2 := hM.fr (Nat.le_of_eq hnb2.symm) (fun b b1 b2 => hs.map (by omega))
  cases b with
  | true =>
    simp (disch := omega) only [Try.ntmps132, Try.results132, go_sem, Nat.reduceLT, Nat.reduceLeDiff, Nat.reduceEqDiff, Nat.reduceAdd, Nat.reduceSub, Nat.reduceMul, reduceIte, ↓reduceIte, reduceCtorEq, Int.reduceToNat, Int.reduceLE, Int.reduceLT, Int.reduceNeg, Int.reduceSub, Int.reduceAdd, Int.reduceMul]
    refine (Try.l18Any_ok B hB H2 cb hd2.cur (by omega)).callX ?_
    rintro r H3 ⟨n, r0, rfl, n1, n2, lb, C, rfl, hm, l1, l2, hd3, hC⟩
    have hM3 := hM2.fr hd3.nb (fun b b1 b2 => hd3.fr b b2 (by omega))
    have hfin : PairQ B cb H (.tup [.own ob 0 M.length M.length 1 false, .own lb 0 C.length C.length 3 false]) H3 := ⟨ob, cs, nm, M, lb, C, rfl, hM3, hm, by omega, l2, hd2.trans hd3, ⟨hl1, hl7⟩, hr6, hC⟩
    simp (disch := omega) only [Try.ntmps132, Try.results132, go_sem, Nat.reduceLT, Nat.reduceLeDiff, Nat.reduceEqDiff, Nat.reduceAdd, Nat.reduceSub, Nat.reduceMul, reduceIte, ↓reduceIte, reduceCtorEq, Int.reduceToNat, Int.reduceLE, Int.reduceLT, Int.reduceNeg, Int.reduceSub, Int.reduceAdd, Int.reduceMul]
    exact hfin
  | false =>
    simp (disch := omega) only [Try.ntmps132, Try.results132, go_sem, Nat.reduceLT, Nat.reduceLeDiff, Nat.reduceEqDiff, Nat.reduceAdd, Nat.reduceSub, Nat.reduceMul, reduceIte, ↓reduceIte, reduceCtorEq, Int.reduceToNat, Int.reduceLE, Int.reduceLT, Int.reduceNeg, Int.reduceSub, Int.reduceAdd, Int.reduceMul]
    refine (Try.l18List_ok B hB M.length (by omega) (by omega) H2 cb hd2.cur (by omega)).callX ?_
    rintro r H3 ⟨lb, C, rfl, hm, l1, l2, hd3, hC⟩
    have hM3 := hM2.fr hd3.nb (fun b b1 b2 => hd3.fr b b2 (by omega))
    have hfin : PairQ B cb H (.tup [.own ob 0 M.length M.length 1 false, .own lb 0 C.length C.length 3 false]) H3 := ⟨ob, cs, nm, M, lb, C, rfl, hM3, hm, by omega, l2, hd2.trans hd3, ⟨hl1, hl7⟩, hr6, by omega⟩
    simp (disch := omega) only [Try.ntmps132, Try.results132, go_sem, Nat.reduceLT, Nat.reduceLeDiff, Nat.reduceEqDiff, Nat.reduceAdd, Nat.reduceSub, Nat.reduceMul, reduceIte, ↓reduceIte, reduceCtorEq, Int.reduceToNat, Int.reduceLE, Int.reduceLT, Int.reduceNeg, Int.reduceSub, Int.reduceAdd, Int.reduceMul]
    exact hfin

/-- A small matrix, constraints, labels. -/
def SmT (T : SV) : Prop := ∃ M C L, T = .tup [rr M, rc C, ri L] ∧ M.length ≤ 7 ∧ (∀ i, i < M.length → (mrow M i).length ≤ 6) ∧ C.length ≤ 5 ∧ L.length ≤ 9
set_option maxHeartbeats 4000000 in
theorem Try.drawOpt_e (B : List Int) (hB : B.length ≤ 1048576) : PCallE Try.prog 64 [rby B] SmT := by
  refine FCall.pcallE (R := R3 SmT) ?_ 3 (fun _ _ h => h)
  refine FCall.of_body Try.func64 rfl (by kernel_rfl) (by simp [Try.ntmps64]) ?_
  refine SW_of_vc Try.mixed _ _ _ (by kernel_rfl) ?_
  simp (disch := omega) only [Try.ntmps64, Try.results64, go_sem, Nat.reduceLT, Nat.reduceLeDiff, Nat.reduceEqDiff, Nat.reduceAdd, Nat.reduceSub, Nat.reduceMul, reduceIte, ↓reduceIte, reduceCtorEq, Int.reduceToNat, Int.reduceLE, Int.reduceLT, Int.reduceNeg, Int.reduceSub, Int.reduceAdd, Int.reduceMul, rby]
  refine (Try.l1New_ok B hB _).callX ?_
  rintro r H0 ⟨h, rfl, rfl⟩
  have hc : Cur B ((hp [] 0).push (curB B 0 h)) 0 := ⟨0, h, by omega, by rw [hpush_map]; rfl⟩
  have hn0 : ((hp [] 0).push (curB B 0 h)).nb = 1 := rfl
  generalize (hp [] 0).push (curB B 0 h) = H0 at *
  simp (disch := omega) only [Try.ntmps64, Try.results64, go_sem, Nat.reduceLT, Nat.reduceLeDiff, Nat.reduceEqDiff, Nat.reduceAdd, Nat.reduceSub, Nat.reduceMul, reduceIte, ↓reduceIte, reduceCtorEq, Int.reduceToNat, Int.reduceLE, Int.reduceLT, Int.reduceNeg, Int.reduceSub, Int.reduceAdd, Int.reduceMul, rby]
  refine (Try.l20Pair_ok B hB H0 0 hc (by omega)).callX ?_
  rintro r H1 ⟨ob, cs, nm, M, lb, C, rfl, hM, hm, l1, l2, hd, ⟨hl1, hl7⟩, hr6, hC⟩
  have hnb := hd.nb
  have v1 := hM.viewH (f := 0) (cap := M.length) (e := false)
  have v2 : view H1 2 (.own lb 0 C.length C.length 3 false) = some (rc C) := view_ownCC hm rfl
  have hR : ∀ i, i < M.length → (mrow M i).length ≤ 1048576 := fun i hi => by have := hr6 i hi; omega
  have hbl := bpt_len (M := M) (C := C)
  have w : FCall Try.prog 30 [rr M, rc C] (fun r H => r = .tup (.own 0 0 (bpt M C).1.length (bpt M C).1.length 1 false :: [Value.int .i64 (bpt M C).2.1, .bool (bpt M C).2.2].map .val) ∧ H = Heap.one ⟨ints (bpt M C).1, false⟩) := by
    by_cases h : okB M C
    · rw [hbl h, bpt_t h]; exact (Try.specBest_f (by omega) hR (by omega) h).oneU
    · rw [bpt_f h]; exact (Try.specBest_n (by omega) hR (by omega) h).oneU
  have hLl : (bpt M C).1.length ≤ 9 := by
    by_cases h : okB M C
    · rw [hbl h]; omega
    · rw [bpt_f h]; simp
  generalize bpt M C = t at *
  obtain ⟨L, z, is⟩ := t
  simp only at w hLl
  cases is with
  | false =>
    simp (disch := omega) only [Try.ntmps64, Try.results64, go_sem, Nat.reduceLT, Nat.reduceLeDiff, Nat.reduceEqDiff, Nat.reduceAdd, Nat.reduceSub, Nat.reduceMul, reduceIte, ↓reduceIte, reduceCtorEq, Int.reduceToNat, Int.reduceLE, Int.reduceLT, Int.reduceNeg, Int.reduceSub, Int.reduceAdd, Int.reduceMul, rby]
    refine w.callOneU (ints_vals _) 2 (viewL_cons_of v1 (viewL_cons_of v2 viewL_nil_of)) ?_
    have hp := DS.push hd.cur (by omega) ⟨ints L, false⟩
    have wl := Try.l19Labels_ok B hB M.length (by omega) _ 0 hp.cur (by rw [hpush_nb]; omega)
    simp (disch := omega) only [Try.ntmps64, Try.results64, go_sem, Nat.reduceLT, Nat.reduceLeDiff, Nat.reduceEqDiff, Nat.reduceAdd, Nat.reduceSub, Nat.reduceMul, reduceIte, ↓reduceIte, reduceCtorEq, Int.reduceToNat, Int.reduceLE, Int.reduceLT, Int.reduceNeg, Int.reduceSub, Int.reduceAdd, Int.reduceMul, rby]
    refine wl.callX ?_
    rintro r H2 ⟨xb, K, rfl, hx, x1, x2, hd2, hK⟩
    have hM2 := hM.fr (H' := H2) (by have := hd2.nb; rw [hpush_nb] at this; omega) (fun b b1 b2 => by rw [hd2.fr b (by rw [hpush_nb]; omega) (by omega), hpush_map, if_neg (by omega)])
    have hm2 : H2.map lb = some ⟨cons C, false⟩ := by rw [hd2.fr lb (by rw [hpush_nb]; omega) (by omega), hpush_map, if_neg (by omega), hm]
    simp (disch := omega) only [Try.ntmps64, Try.results64, go_sem, Nat.reduceLT, Nat.reduceLeDiff, Nat.reduceEqDiff, Nat.reduceAdd, Nat.reduceSub, Nat.reduceMul, reduceIte, ↓reduceIte, reduceCtorEq, Int.reduceToNat, Int.reduceLE, Int.reduceLT, Int.reduceNeg, Int.reduceSub, Int.reduceAdd, Int.reduceMul, rby]
    exact fin_mcl hM2 hm2 hx ⟨M, C, K, rfl, hl7, hr6, hC, by omega⟩
  | true =>
    simp (disch := omega) only [Try.ntmps64, Try.results64, go_sem, Nat.reduceLT, Nat.reduceLeDiff, Nat.reduceEqDiff, Nat.reduceAdd, Nat.reduceSub, Nat.reduceMul, reduceIte, ↓reduceIte, reduceCtorEq, Int.reduceToNat, Int.reduceLE, Int.reduceLT, Int.reduceNeg, Int.reduceSub, Int.reduceAdd, Int.reduceMul, rby]
    refine w.callOneU (ints_vals _) 2 (viewL_cons_of v1 (viewL_cons_of v2 viewL_nil_of)) ?_
    have hp := DS.push hd.cur (by omega) ⟨ints L, false⟩
    have w1 := Try.l1Once_ok B hB 3 (by omega) _ 0 hp.cur
    simp (disch := omega) only [Try.ntmps64, Try.results64, go_sem, Nat.reduceLT, Nat.reduceLeDiff, Nat.reduceEqDiff, Nat.reduceAdd, Nat.reduceSub, Nat.reduceMul, reduceIte, ↓reduceIte, reduceCtorEq, Int.reduceToNat, Int.reduceLE, Int.reduceLT, Int.reduceNeg, Int.reduceSub, Int.reduceAdd, Int.reduceMul, rby]
    refine w1.callX ?_
    rintro r H2 ⟨b, rfl, hs⟩
    have hdd := hp.trans hs.ds
    have hnb2 : H2.nb = H1.nb + 1 := hs.nb
    have hM2 := hM.fr (H' := H2) (by omega) (fun b b1 b2 => by rw [hs.map (by omega), hpush_map, if_neg (by omega)])
    have hm2 : H2.map lb = some ⟨cons C, false⟩ := by rw [hs.map (by omega), hpush_map, if_neg (by omega), hm]
    have hx2 : H2.map H1.nb = some ⟨ints L, false⟩ := by rw [hs.map (by omega), hpush_map, if_pos rfl]
    cases b with
    | false =>
      simp (disch := omega) only [Try.ntmps64, Try.results64, go_sem, Nat.reduceLT, Nat.reduceLeDiff, Nat.reduceEqDiff, Nat.reduceAdd, Nat.reduceSub, Nat.reduceMul, reduceIte, ↓reduceIte, reduceCtorEq, Int.reduceToNat, Int.reduceLE, Int.reduceLT, Int.reduceNeg, Int.reduceSub, Int.reduceAdd, Int.reduceMul, rby]
      exact fin_mcl hM2 hm2 hx2 ⟨M, C, L, rfl, hl7, hr6, hC, hLl⟩
    | true =>
      have wl := Try.l19Labels_ok B hB M.length (by omega) H2 0 hdd.cur (by omega)
      simp (disch := omega) only [Try.ntmps64, Try.results64, go_sem, Nat.reduceLT, Nat.reduceLeDiff, Nat.reduceEqDiff, Nat.reduceAdd, Nat.reduceSub, Nat.reduceMul, reduceIte, ↓reduceIte, reduceCtorEq, Int.reduceToNat, Int.reduceLE, Int.reduceLT, Int.reduceNeg, Int.reduceSub, Int.reduceAdd, Int.reduceMul, rby]
      refine wl.callX ?_
      rintro r H3 ⟨xb, K, rfl, hx, x1, x2, hd2, hK⟩
      have hM3 := hM2.fr hd2.nb (fun b b1 b2 => hd2.fr b b2 (by omega))
      have hm3 : H3.map lb = some ⟨cons C, false⟩ := by rw [hd2.fr lb (by omega) (by omega), hm2]
      simp (disch := omega) only [Try.ntmps64, Try.results64, go_sem, Nat.reduceLT, Nat.reduceLeDiff, Nat.reduceEqDiff, Nat.reduceAdd, Nat.reduceSub, Nat.reduceMul, reduceIte, ↓reduceIte, reduceCtorEq, Int.reduceToNat, Int.reduceLE, Int.reduceLT, Int.reduceNeg, Int.reduceSub, Int.reduceAdd, Int.reduceMul, rby]
      exact fin_mcl hM3 hm3 hx ⟨M, C, K, rfl, hl7, hr6, hC, by omega⟩
end Go.Sh

/-
  Contracts: an item moved to another block. Of the reference; of the program at an empty list; the law.
-/
namespace Go.Sh
set_option linter.unusedSimpArgs false
set_option linter.unusedVariables false
open Go Go.Proofs

theorem Try.implMove_0 (H : Heap) (it bl : Int) (b cap : Nat) (ex e2 : Bool) (hb : H.map b = some ⟨ints [], e2⟩) (hbn : b ≠ H.nb) : CallS Try.prog 86 [.own b 0 0 cap 1 ex, .val (.int .i64 it), .val (.int .i64 bl)] H
    (fun r H' => r = .tup [.own H.nb 0 0 0 1 false, .val (.bool false)] ∧ H' = H.push ⟨[], false⟩) := by
  have w1 := Try.implIsPartition_ok [] (by simp)
  have h1 : isPart [] = false := by decide
  rw [h1] at w1
  refine CallS.of_body Try.func86 rfl (by kernel_rfl) (by simp [Try.ntmps86]) ?_
  refine SW_of_vc Try.mixed _ _ _ (by kernel_rfl) ?_
  simp (disch := omega) only [Try.ntmps86, Try.results86, go_sem, Nat.reduceLT, Nat.reduceLeDiff, Nat.reduceEqDiff, Nat.reduceAdd, Nat.reduceSub, Nat.reduceMul, reduceIte, ↓reduceIte, reduceCtorEq, Int.reduceToNat, Int.reduceLE, Int.reduceLT, Int.reduceNeg, Int.reduceSub, Int.reduceAdd, Int.reduceMul]
  refine w1.callV 1 (viewL_cons_of (view_own hb (by simp)) viewL_nil_of) ?_
  simp (disch := omega) only [Try.ntmps86, Try.results86, go_sem, Nat.reduceLT, Nat.reduceLeDiff, Nat.reduceEqDiff, Nat.reduceAdd, Nat.reduceSub, Nat.reduceMul, reduceIte, ↓reduceIte, reduceCtorEq, Int.reduceToNat, Int.reduceLE, Int.reduceLT, Int.reduceNeg, Int.reduceSub, Int.reduceAdd, Int.reduceMul]
  refine (Try.clone_0 H b cap ex e2 hb hbn).callDet ?_
  simp (disch := omega) only [Try.ntmps86, Try.results86, go_sem, Nat.reduceLT, Nat.reduceLeDiff, Nat.reduceEqDiff, Nat.reduceAdd, Nat.reduceSub, Nat.reduceMul, reduceIte, ↓reduceIte, reduceCtorEq, Int.reduceToNat, Int.reduceLE, Int.reduceLT, Int.reduceNeg, Int.reduceSub, Int.reduceAdd, Int.reduceMul]

theorem view_tup {L : List Int} {n : Nat} {u : Bool} {r r0 : SV} {H : Heap} (h : r = .tup [r0, .val (.bool u)]) (hf : FlatRes n 1 (ints L) r0 H) : view H 3 r = some (.tup [ri L, .val (.bool u)]) := by
  subst h
  have h1 : viewL H 2 [r0, .val (.bool u)] = some [ri L, .val (.bool u)] := viewL_cons_of (flat_view hf) (viewL_cons_of view_bool viewL_nil_of)
  simp only [view, h1]

theorem Try.implMove_ok (L : List Int) (it bl : Int) (hL : L.length ≤ 1048576) (h0 : 0 < L.length) : PCall Try.prog 86 [ri L, .val (.int .i64 it), .val (.int .i64 bl)] (.tup [ri (moveTo L it bl), .val (.bool (moveOk L it bl))]) :=
  (Try.implMove_f L it bl hL h0).pcall 3 (fun r H ⟨r0, h1, h2⟩ => view_tup h1 h2)

theorem isPart_nil : isPart [] = false := by decide

set_option maxHeartbeats 4000000 in
theorem Try.specMove_ok (L : List Int) (it bl : Int) (hL : L.length ≤ 1048576) : PCall Try.prog 150 [ri L, .val (.int .i64 it), .val (.int .i64 bl)] (.tup [ri (moveTo L it bl), .val (.bool (moveOk L it bl))]) := by
  have w1 := Try.specIsPartition_ok L hL
  have hf := ints_flat L
  have hml := moveTo_length L it bl
  refine FCall.pcall (R := fun r H => ∃ r0, r = .tup [r0, .val (.bool (moveOk L it bl))] ∧ FlatRes L.length 1 (ints (moveTo L it bl)) r0 H) ?_ 3 (fun r H ⟨r0, h1, h2⟩ => view_tup h1 h2)
  refine FCall.of_body Try.func150 rfl (by kernel_rfl) (by simp [Try.ntmps150]) ?_
  refine SW_of_vc Try.mixed _ _ _ (by kernel_rfl) ?_
  by_cases h0 : 0 < L.length
  · simp (disch := omega) only [Try.ntmps150, Try.results150, go_sem, Nat.reduceLT, Nat.reduceLeDiff, Nat.reduceEqDiff, Nat.reduceAdd, Nat.reduceSub, Nat.reduceMul, reduceIte, ↓reduceIte, reduceCtorEq, Int.reduceToNat, Int.reduceLE, Int.reduceLT, Int.reduceNeg, Int.reduceSub, Int.reduceAdd, Int.reduceMul, hf]
    refine LoopW.loop (fun k : Nat => ⟨ofL [(0, ri L), (1, .val (.int .i64 it)), (2, .val (.int .i64 bl)), (8, .own 1 0 L.length L.length 1 false), (9, .val (.int .i64 (top L k))), (10, .val (.int .i64 k))], hp [(1, ⟨ints L, false⟩)] 2⟩) (fun k => k ≤ L.length) (fun k => L.length - k) 0 (by omega)
      (Wk.ofH (by simp only [go_sem, ↓List.forall_mem_cons, List.not_mem_nil, false_implies, implies_true, and_true, true_and, and_self, Nat.reduceEqDiff, reduceIte, ↓reduceIte, ri_eq, Int.natCast_add, Int.cast_ofNat_Int, top_zero]; try simp) (by simp (disch := omega) only [go_sem, ↓List.forall_mem_cons, List.not_mem_nil, false_implies, implies_true, and_true, true_and, and_self, Nat.reduceEqDiff, reduceIte, ↓reduceIte, ri_eq, Int.natCast_add, Int.cast_ofNat_Int, if_pos, if_neg, Nat.reduceAdd, List.nil_append]; try simp) (by simp [hp])) ?_
    intro k hk
    refine SW_of_vc Try.mixed _ _ _ (by kernel_rfl) ?_
    by_cases hlt : k < L.length
    · have e : top L (k + 1) = if top L k < L.getD k 0 then L.getD k 0 else top L k := by
        rw [top_succ hlt, Int.max_def]
        split <;> split <;> omega
      simp (disch := omega) only [Try.ntmps150, Try.results150, go_sem, Nat.reduceLT, Nat.reduceLeDiff, Nat.reduceEqDiff, Nat.reduceAdd, Nat.reduceSub, Nat.reduceMul, reduceIte, ↓reduceIte, reduceCtorEq, Int.reduceToNat, Int.reduceLE, Int.reduceLT, Int.reduceNeg, Int.reduceSub, Int.reduceAdd, Int.reduceMul]
      exact ⟨k + 1, by omega, by omega, Wk.of (by simp only [go_sem, ↓List.forall_mem_cons, List.not_mem_nil, false_implies, implies_true, and_true, true_and, and_self, Nat.reduceEqDiff, reduceIte, ↓reduceIte, ri_eq, Int.natCast_add, Int.cast_ofNat_Int, e]; try simp) rfl⟩
    · obtain rfl : k = L.length := by omega
      rcases Bool.eq_false_or_eq_true (isPart L) with h1 | h1
      · rw [h1] at w1
        have tg := top_ge L L.length (Nat.le_refl _)
        have tp := top_part h1 L.length (Nat.le_refl _)
        have w2 := Try.l1In_ok it 0 ((L.length : Int) - 1)
        rcases Bool.eq_false_or_eq_true (inR it 0 ((L.length : Int) - 1)) with h2 | h2
        · rw [h2] at w2
          obtain ⟨i1, i2⟩ := inR_of h2
          have w4 := Try.l1In_ok bl 0 (top L L.length + 1)
          rcases Bool.eq_false_or_eq_true (inR bl 0 (top L L.length + 1)) with h3 | h3
          · rw [h3] at w4
            have hok : moveOk L it bl = true := by rw [moveOk, h1, h2, h3]; rfl
            have hm : moveTo L it bl = canon (L.set it.toNat bl) := by rw [moveTo, if_pos hok]
            have hsl : (L.set it.toNat bl).length = L.length := by simp
            have w5 := (Try.specCanon_f (L.set it.toNat bl) (by omega)).one
            rw [hsl] at w5
            simp (disch := omega) only [Try.ntmps150, Try.results150, go_sem, Nat.reduceLT, Nat.reduceLeDiff, Nat.reduceEqDiff, Nat.reduceAdd, Nat.reduceSub, Nat.reduceMul, reduceIte, ↓reduceIte, reduceCtorEq, Int.reduceToNat, Int.reduceLE, Int.reduceLT, Int.reduceNeg, Int.reduceSub, Int.reduceAdd, Int.reduceMul]
            refine w1.callV 0 (viewL_cons_of (view_rowL (by first | rfl | simp [marks_length, canon_length] | omega)) viewL_nil_of) ?_
            simp (disch := omega) only [Try.ntmps150, Try.results150, go_sem, Nat.reduceLT, Nat.reduceLeDiff, Nat.reduceEqDiff, Nat.reduceAdd, Nat.reduceSub, Nat.reduceMul, reduceIte, ↓reduceIte, reduceCtorEq, Int.reduceToNat, Int.reduceLE, Int.reduceLT, Int.reduceNeg, Int.reduceSub, Int.reduceAdd, Int.reduceMul]
            refine w2.callV 0 (viewL_cons_of (view_int) (viewL_cons_of (view_int) (viewL_cons_of (view_int) viewL_nil_of))) ?_
            simp (disch := omega) only [Try.ntmps150, Try.results150, go_sem, Nat.reduceLT, Nat.reduceLeDiff, Nat.reduceEqDiff, Nat.reduceAdd, Nat.reduceSub, Nat.reduceMul, reduceIte, ↓reduceIte, reduceCtorEq, Int.reduceToNat, Int.reduceLE, Int.reduceLT, Int.reduceNeg, Int.reduceSub, Int.reduceAdd, Int.reduceMul]
            refine w4.callV 0 (viewL_cons_of (view_int) (viewL_cons_of (view_int) (viewL_cons_of (view_int) viewL_nil_of))) ?_
            simp (disch := omega) only [Try.ntmps150, Try.results150, go_sem, Nat.reduceLT, Nat.reduceLeDiff, Nat.reduceEqDiff, Nat.reduceAdd, Nat.reduceSub, Nat.reduceMul, reduceIte, ↓reduceIte, reduceCtorEq, Int.reduceToNat, Int.reduceLE, Int.reduceLT, Int.reduceNeg, Int.reduceSub, Int.reduceAdd, Int.reduceMul]
            refine w5.callOne (ints_vals _) 1 (viewL_cons_of (view_own (by rw [hp_map, hmap_cons, if_pos rfl]) (by omega)) viewL_nil_of) ?_
            simp (disch := omega) only [Try.ntmps150, Try.results150, go_sem, Nat.reduceLT, Nat.reduceLeDiff, Nat.reduceEqDiff, Nat.reduceAdd, Nat.reduceSub, Nat.reduceMul, reduceIte, ↓reduceIte, reduceCtorEq, Int.reduceToNat, Int.reduceLE, Int.reduceLT, Int.reduceNeg, Int.reduceSub, Int.reduceAdd, Int.reduceMul]
            rw [hok, hm]
            exact fin_tup (by simp [ints, canon_length]) (ints_vals _) (by rw [hp_map, hmap_cons, if_pos rfl])
          · rw [h3] at w4
            have hok : moveOk L it bl = false := by rw [moveOk, h3, Bool.and_false, Bool.and_false]
            have hmt : moveTo L it bl = L := by rw [moveTo, if_neg (by rw [hok]; simp)]
            simp (disch := omega) only [Try.ntmps150, Try.results150, go_sem, Nat.reduceLT, Nat.reduceLeDiff, Nat.reduceEqDiff, Nat.reduceAdd, Nat.reduceSub, Nat.reduceMul, reduceIte, ↓reduceIte, reduceCtorEq, Int.reduceToNat, Int.reduceLE, Int.reduceLT, Int.reduceNeg, Int.reduceSub, Int.reduceAdd, Int.reduceMul]
            refine w1.callV 0 (viewL_cons_of (view_rowL (by first | rfl | simp [marks_length, canon_length] | omega)) viewL_nil_of) ?_
            simp (disch := omega) only [Try.ntmps150, Try.results150, go_sem, Nat.reduceLT, Nat.reduceLeDiff, Nat.reduceEqDiff, Nat.reduceAdd, Nat.reduceSub, Nat.reduceMul, reduceIte, ↓reduceIte, reduceCtorEq, Int.reduceToNat, Int.reduceLE, Int.reduceLT, Int.reduceNeg, Int.reduceSub, Int.reduceAdd, Int.reduceMul]
            refine w2.callV 0 (viewL_cons_of (view_int) (viewL_cons_of (view_int) (viewL_cons_of (view_int) viewL_nil_of))) ?_
            simp (disch := omega) only [Try.ntmps150, Try.results150, go_sem, Nat.reduceLT, Nat.reduceLeDiff, Nat.reduceEqDiff, Nat.reduceAdd, Nat.reduceSub, Nat.reduceMul, reduceIte, ↓reduceIte, reduceCtorEq, Int.reduceToNat, Int.reduceLE, Int.reduceLT, Int.reduceNeg, Int.reduceSub, Int.reduceAdd, Int.reduceMul]
            refine w4.callV 0 (viewL_cons_of (view_int) (viewL_cons_of (view_int) (viewL_cons_of (view_int) viewL_nil_of))) ?_
            simp (disch := omega) only [Try.ntmps150, Try.results150, go_sem, Nat.reduceLT, Nat.reduceLeDiff, Nat.reduceEqDiff, Nat.reduceAdd, Nat.reduceSub, Nat.reduceMul, reduceIte, ↓reduceIte, reduceCtorEq, Int.reduceToNat, Int.reduceLE, Int.reduceLT, Int.reduceNeg, Int.reduceSub, Int.reduceAdd, Int.reduceMul]
            rw [hok, hmt]
            exact fin_tup (by simp [ints]) (ints_vals _) (by rw [hp_map, hmap_cons, if_pos rfl])
        · rw [h2] at w2
          have hok : moveOk L it bl = false := by rw [moveOk, h2, Bool.false_and, Bool.and_false]
          have hmt : moveTo L it bl = L := by rw [moveTo, if_neg (by rw [hok]; simp)]
          simp (disch := omega) only [Try.ntmps150, Try.results150, go_sem, Nat.reduceLT, Nat.reduceLeDiff, Nat.reduceEqDiff, Nat.reduceAdd, Nat.reduceSub, Nat.reduceMul, reduceIte, ↓reduceIte, reduceCtorEq, Int.reduceToNat, Int.reduceLE, Int.reduceLT, Int.reduceNeg, Int.reduceSub, Int.reduceAdd, Int.reduceMul]
          refine w1.callV 0 (viewL_cons_of (view_rowL (by first | rfl | simp [marks_length, canon_length] | omega)) viewL_nil_of) ?_
          simp (disch := omega) only [Try.ntmps150, Try.results150, go_sem, Nat.reduceLT, Nat.reduceLeDiff, Nat.reduceEqDiff, Nat.reduceAdd, Nat.reduceSub, Nat.reduceMul, reduceIte, ↓reduceIte, reduceCtorEq, Int.reduceToNat, Int.reduceLE, Int.reduceLT, Int.reduceNeg, Int.reduceSub, Int.reduceAdd, Int.reduceMul]
          refine w2.callV 0 (viewL_cons_of (view_int) (viewL_cons_of (view_int) (viewL_cons_of (view_int) viewL_nil_of))) ?_
          simp (disch := omega) only [Try.ntmps150, Try.results150, go_sem, Nat.reduceLT, Nat.reduceLeDiff, Nat.reduceEqDiff, Nat.reduceAdd, Nat.reduceSub, Nat.reduceMul, reduceIte, ↓reduceIte, reduceCtorEq, Int.reduceToNat, Int.reduceLE, Int.reduceLT, Int.reduceNeg, Int.reduceSub, Int.reduceAdd, Int.reduceMul]
          rw [hok, hmt]
          exact fin_tup (by simp [ints]) (ints_vals _) (by rw [hp_map, hmap_cons, if_pos rfl])
      · rw [h1] at w1
        have hok : moveOk L it bl = false := by rw [moveOk, h1, Bool.false_and]
        have hmt : moveTo L it bl = L := by rw [moveTo, if_neg (by rw [hok]; simp)]
        simp (disch := omega) only [Try.ntmps150, Try.results150, go_sem, Nat.reduceLT, Nat.reduceLeDiff, Nat.reduceEqDiff, Nat.reduceAdd, Nat.reduceSub, Nat.reduceMul, reduceIte, ↓reduceIte, reduceCtorEq, Int.reduceToNat, Int.reduceLE, Int.reduceLT, Int.reduceNeg, Int.reduceSub, Int.reduceAdd, Int.reduceMul]
        refine w1.callV 0 (viewL_cons_of (view_rowL (by first | rfl | simp [marks_length, canon_length] | omega)) viewL_nil_of) ?_
        simp (disch := omega) only [Try.ntmps150, Try.results150, go_sem, Nat.reduceLT, Nat.reduceLeDiff, Nat.reduceEqDiff, Nat.reduceAdd, Nat.reduceSub, Nat.reduceMul, reduceIte, ↓reduceIte, reduceCtorEq, Int.reduceToNat, Int.reduceLE, Int.reduceLT, Int.reduceNeg, Int.reduceSub, Int.reduceAdd, Int.reduceMul]
        rw [hok, hmt]
        exact fin_tup (by simp [ints]) (ints_vals _) (by rw [hp_map, hmap_cons, if_pos rfl])
  · obtain rfl : L = [] := by cases L with | nil => rfl | cons a l => simp at h0
    have hok : moveOk [] it bl = false := by rw [moveOk, isPart_nil, Bool.false_and]
    have hmt : moveTo [] it bl = [] := by rw [moveTo, if_neg (by rw [hok]; simp)]
    rw [isPart_nil] at w1
    simp (disch := omega) only [Try.ntmps150, Try.results150, go_sem, Nat.reduceLT, Nat.reduceLeDiff, Nat.reduceEqDiff, Nat.reduceAdd, Nat.reduceSub, Nat.reduceMul, reduceIte, ↓reduceIte, reduceCtorEq, Int.reduceToNat, Int.reduceLE, Int.reduceLT, Int.reduceNeg, Int.reduceSub, Int.reduceAdd, Int.reduceMul, hf]
    refine LoopW.loop (fun _ : Unit => ⟨ofL [(0, ri []), (1, .val (.int .i64 it)), (2, .val (.int .i64 bl)), (8, .own 0 0 0 0 1 false), (9, .val (.int .i64 (-1))), (10, .val (.int .i64 0))], hp [(0, ⟨[], false⟩)] 1⟩) (fun _ => True) (fun _ => 0) () trivial
      (Wk.ofH (by simp only [go_sem, ↓List.forall_mem_cons, List.not_mem_nil, false_implies, implies_true, and_true, true_and, and_self, Nat.reduceEqDiff, reduceIte, ↓reduceIte, ri_eq, Int.natCast_add, Int.cast_ofNat_Int]; try simp) (by simp (disch := omega) only [go_sem, ↓List.forall_mem_cons, List.not_mem_nil, false_implies, implies_true, and_true, true_and, and_self, Nat.reduceEqDiff, reduceIte, ↓reduceIte, ri_eq, Int.natCast_add, Int.cast_ofNat_Int, if_pos, if_neg, Nat.reduceAdd, List.nil_append]; try simp) (by simp [hp])) ?_
    rintro _ _
    refine SW_of_vc Try.mixed _ _ _ (by kernel_rfl) ?_
    simp (disch := omega) only [Try.ntmps150, Try.results150, go_sem, Nat.reduceLT, Nat.reduceLeDiff, Nat.reduceEqDiff, Nat.reduceAdd, Nat.reduceSub, Nat.reduceMul, reduceIte, ↓reduceIte, reduceCtorEq, Int.reduceToNat, Int.reduceLE, Int.reduceLT, Int.reduceNeg, Int.reduceSub, Int.reduceAdd, Int.reduceMul]
    refine w1.callV 0 (viewL_cons_of (view_rowL (by first | rfl | simp [marks_length, canon_length] | omega)) viewL_nil_of) ?_
    simp (disch := omega) only [Try.ntmps150, Try.results150, go_sem, Nat.reduceLT, Nat.reduceLeDiff, Nat.reduceEqDiff, Nat.reduceAdd, Nat.reduceSub, Nat.reduceMul, reduceIte, ↓reduceIte, reduceCtorEq, Int.reduceToNat, Int.reduceLE, Int.reduceLT, Int.reduceNeg, Int.reduceSub, Int.reduceAdd, Int.reduceMul]
    rw [hok, hmt]
    exact fin_tup (by simp [ints]) (ints_vals _) (by rw [hp_map, hmap_cons, if_pos rfl]; rfl)
end Go.Sh
