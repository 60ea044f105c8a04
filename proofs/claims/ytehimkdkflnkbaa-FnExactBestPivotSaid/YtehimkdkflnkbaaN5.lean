/-
  Contracts: matrices copied into memory of their own, marked, read back.
-/
import Derived.Test.YtehimkdkflnkbaaMX
namespace Go.Sh
set_option linter.unusedSimpArgs false
set_option linter.unusedVariables false
open Go Go.Proofs
variable {P : Program}

theorem HS_res (M : List (List Int)) : MatRes (mi M) (.own 0 0 M.length M.length 1 true) (HS M M.length) := by
  have hl := mi_length M
  refine ⟨0, 0, M.length, true, _, by rw [hl], HS_map M _, by rw [hl, outer_length]; omega, mi_vals _, fun i => i + 1, fun _ => 0, fun i i' _ _ h => by simpa using h, fun i _ => by simp, fun i hi => ?_⟩
  rw [hl] at hi
  have hr : rowAt (mi M) i = ints (mrow M i) := mi_row hi
  refine ⟨(mrow M i).length, false, ⟨ints (mrow M i), false⟩, ?_, ?_, ?_, ?_⟩
  · rw [hr, Nat.zero_add, ints_length]
    simp only [outer, List.getElem?_map]
    rw [List.getElem?_range hi]
    simp only [Option.map_some]
    rw [if_pos hi]
  · simp only [HS]
    rw [if_neg (by omega), if_pos (by omega)]
    simp
  · rw [hr, List.drop_zero, List.take_length]
  · rw [hr]; simp
theorem Try.toIntSS_one (M : List (List Int)) (hM : M.length ≤ 1048576) (hR : ∀ i, i < M.length → (mrow M i).length ≤ 1048576) : FCall Try.prog 18 [rr M] (MatOne (mi M)) :=
  ((Try.toIntSS_f M hM hR).mono fun r H ⟨h1, h2⟩ => by subst h1; subst h2; exact HS_res M).mat

theorem CallS.sub {f : FuncId} {args : List SV} {H : Heap} {Q Q' : SV → Heap → Prop} (h : CallS P f args H Q) (hq : ∀ r H', Q r H' → ∃ H2, Sub H2 H' ∧ Q' r H2) : CallS P f args H Q' := by
  refine ⟨h.1, fun j w vs r hl => (h.2 j w vs r hl).mono ?_⟩
  rintro e w' ⟨r, v, j', H', h1, h2, h3, h4, h5⟩
  obtain ⟨H2, hs, hq2⟩ := hq r H' h5
  have hsub : ∀ k, OwnR j' H2 k → OwnR j' H' k := by
    rintro k ⟨b, blk, base, g1, g2⟩
    refine ⟨b, blk, base, ?_, g2⟩
    rcases hs.map b with e | e
    · rw [e] at g1; simp at g1
    · rw [← e]; exact g1
  refine ⟨r, v, j', H2, h1, h2.sub hs, VRel.tr (Tr.weaken w' hsub) (fun _ _ h => h) r v h3, ?_, hq2⟩
  exact ⟨h4.os, h4.tape, h4.output, h4.size, h4.keep, h4.sizes, h4.jle, by rw [hs.nb]; exact h4.nble, fun k o => h4.own k (hsub k o)⟩

def Heap.cutR (H : Heap) (a c : Nat) : Heap := ⟨fun x => if a ≤ x ∧ x ≤ c then none else H.map x, H.nb⟩
def consE (e : Ent) (H : Heap) : Heap := match e with
  | .blk k v => ⟨fun x => if x = k then some v else H.map x, H.nb⟩
  | .mat b R => ⟨fun x => if b ≤ x ∧ x ≤ b + R.length then matMap b R x else H.map x, H.nb⟩
  | .rows fl nr => ⟨fun x => match nrFind nr x with | some r => some ⟨r, fl⟩ | none => H.map x, H.nb⟩
  | .cut b => ⟨fun x => if x = b then none else H.map x, H.nb⟩
theorem consE_hx (e : Ent) (l : List Ent) (n : Nat) : consE e (hx l n) = hx (e :: l) n := by cases e <;> rfl
theorem cutR_nil (n a c : Nat) : (hx [] n).cutR a c = hx [] n := by
  refine Heap.ext' (fun x => ?_) rfl
  simp only [Heap.cutR, hx, xmap]
  split <;> rfl
theorem cutR_blk {k n a c : Nat} {v : Blk} {l : List Ent} (h : k < a ∨ c < k) : (hx (.blk k v :: l) n).cutR a c = consE (.blk k v) ((hx l n).cutR a c) := by
  refine Heap.ext' (fun x => ?_) rfl
  simp only [Heap.cutR, hx, xmap, consE]
  by_cases h1 : x = k
  · subst h1
    rw [if_neg (by omega), if_pos rfl, if_pos rfl]
  · rw [if_neg h1, if_neg h1]
theorem cutR_same {b n c : Nat} {M : List (List Int)} {l : List Ent} (h : c = b + M.length) : (hx (.mat b (mi M) :: l) n).cutR b c = (hx l n).cutR b c := by
  subst h
  refine Heap.ext' (fun x => ?_) rfl
  simp only [Heap.cutR, hx, xmap, mi_length]
  by_cases h1 : b ≤ x ∧ x ≤ b + M.length
  · rw [if_pos h1, if_pos h1]
  · rw [if_neg h1, if_neg h1, if_neg h1]
theorem cutR_other {b n a c : Nat} {M : List (List Int)} {l : List Ent} (h : c < b ∨ b + M.length < a) : (hx (.mat b (mi M) :: l) n).cutR a c = consE (.mat b (mi M)) ((hx l n).cutR a c) := by
  refine Heap.ext' (fun x => ?_) rfl
  simp only [Heap.cutR, hx, xmap, consE, mi_length]
  by_cases h1 : b ≤ x ∧ x ≤ b + M.length
  · rw [if_neg (by omega), if_pos h1, if_pos h1]
  · rw [if_neg h1, if_neg h1]
theorem cutR_map {H : Heap} {a c x : Nat} (h : x < a ∨ c < x) : (H.cutR a c).map x = H.map x := by
  simp only [Heap.cutR]; rw [if_neg (by omega)]

set_option maxHeartbeats 1000000 in
/-- A matrix marked; what it holds then is not told. -/
theorem Try.markIntSS_ok (M : List (List Int)) (k : Int) (H : Heap) (b n : Nat) (hb : EntIn H (.mat b (mi M))) (hn : n = M.length) (hM : M.length ≤ 1048576) (hR : ∀ i, i < M.length → (mrow M i).length ≤ 1048576) (hk : 0 ≤ k) (hk2 : k + msum M M.length ≤ 1099511627776) :
    CallS Try.prog 30 [.own b 0 n n 1 false, .val (.int .i64 k)] H (fun r H' => r = .val (.int .i64 (k + msum M M.length)) ∧ H' = H.cutR b (b + M.length)) := by
  subst hn
  have hb' := hb
  simp only [EntIn, mi_length] at hb'
  have h0 : H.map b = some ⟨outerB b (mi M), false⟩ := by rw [hb' b (by omega) (by omega), matMap, if_pos rfl]
  have hrow : ∀ i, i < M.length → H.map (b + 1 + i) = some ⟨ints (mrow M i), false⟩ := fun i hi => by
    rw [hb' (b + 1 + i) (by omega) (by omega), matMap, if_neg (by omega), ← mi_row hi]
    congr 3; omega
  refine CallS.sub (Q := fun r H' => r = .val (.int .i64 (k + msum M M.length)) ∧ H' = H.cutR (b + 1) (b + M.length)) ?_ (fun r H' ⟨e1, e2⟩ => ⟨_, ⟨?_, fun x => ?_⟩, e1, rfl⟩)
  · refine CallS.of_body Try.func30 rfl (by kernel_rfl) (by simp [Try.ntmps30]) ?_
    refine SW_of_vc Try.mixed _ _ _ (by kernel_rfl) ?_
    simp (disch := omega) only [Try.ntmps30, Try.results30, go_sem, Nat.reduceLT, Nat.reduceLeDiff, Nat.reduceEqDiff, Nat.reduceAdd, Nat.reduceSub, Nat.reduceMul, reduceIte, ↓reduceIte, reduceCtorEq, Int.reduceToNat, Int.reduceLE, Int.reduceLT, Int.reduceNeg, Int.reduceSub, Int.reduceAdd, Int.reduceMul]
    refine LoopW.loop (fun i : Nat => ⟨ofL [(0, .own b 0 M.length M.length 1 false), (1, .val (.int .i64 (k + msum M i))), (5, .val (.int .i64 i))], H.cutR (b + 1) (b + i)⟩) (fun i => i ≤ M.length) (fun i => M.length - i) 0 (by omega) (Wk.of (by simp only [go_sem, ↓List.forall_mem_cons, List.not_mem_nil, false_implies, implies_true, and_true, true_and, and_self, Nat.reduceEqDiff, reduceIte, ↓reduceIte, ri_eq, Int.natCast_add, Int.cast_ofNat_Int, msum, List.take_zero, List.sum_nil, Int.add_zero]; try simp) (Heap.ext' (fun x => by simp only [Heap.cutR]; rw [if_neg (by omega)]) rfl)) ?_
    intro i hi
    refine SW_of_vc Try.mixed _ _ _ (by kernel_rfl) ?_
    have hm0 : (H.cutR (b + 1) (b + i)).map b = some ⟨outerB b (mi M), false⟩ := by rw [cutR_map (by omega), h0]
    have hmn := msum_nonneg M i
    by_cases hlt : i < M.length
    · have hm1 : (H.cutR (b + 1) (b + i)).map (b + 1 + i) = some ⟨ints (mrow M i), false⟩ := by rw [cutR_map (by omega), hrow i hlt]
      have hmono := msum_mono (M := M) (k := i) (j := M.length) (by omega) (by omega)
      have hs := msum_succ hlt
      simp (disch := omega) only [Try.ntmps30, Try.results30, go_sem, Nat.reduceLT, Nat.reduceLeDiff, Nat.reduceEqDiff, Nat.reduceAdd, Nat.reduceSub, Nat.reduceMul, reduceIte, ↓reduceIte, reduceCtorEq, Int.reduceToNat, Int.reduceLE, Int.reduceLT, Int.reduceNeg, Int.reduceSub, Int.reduceAdd, Int.reduceMul, hm0, outerB_getI]
      refine (Try.markIntS_ok (mrow M i) (k + msum M i) _ (b + 1 + i) _ _ false false hm1 rfl (by have := hR i hlt; omega) (by omega) (by omega)).callDet ?_
      simp (disch := omega) only [Try.ntmps30, Try.results30, go_sem, Nat.reduceLT, Nat.reduceLeDiff, Nat.reduceEqDiff, Nat.reduceAdd, Nat.reduceSub, Nat.reduceMul, reduceIte, ↓reduceIte, reduceCtorEq, Int.reduceToNat, Int.reduceLE, Int.reduceLT, Int.reduceNeg, Int.reduceSub, Int.reduceAdd, Int.reduceMul]
      refine ⟨i + 1, hlt, by omega, ⟨ofL_wk (by simp only [go_sem, ↓List.forall_mem_cons, List.not_mem_nil, false_implies, implies_true, and_true, true_and, and_self, Nat.reduceEqDiff, reduceIte, ↓reduceIte, ri_eq, Int.natCast_add, Int.cast_ofNat_Int, hs, Int.add_assoc]; try simp), Nat.le_refl _, fun x => ?_⟩⟩
      simp only [Heap.cutR, Heap.set]
      by_cases h1 : b + 1 ≤ x ∧ x ≤ b + (i + 1)
      · exact .inl (by rw [if_pos h1])
      · right
        rw [if_neg h1, if_neg (by omega), if_neg (by omega)]
    · obtain rfl : i = M.length := by omega
      simp (disch := omega) only [Try.ntmps30, Try.results30, go_sem, Nat.reduceLT, Nat.reduceLeDiff, Nat.reduceEqDiff, Nat.reduceAdd, Nat.reduceSub, Nat.reduceMul, reduceIte, ↓reduceIte, reduceCtorEq, Int.reduceToNat, Int.reduceLE, Int.reduceLT, Int.reduceNeg, Int.reduceSub, Int.reduceAdd, Int.reduceMul]
  · rw [e2]; rfl
  · subst e2
    simp only [Heap.cutR]
    by_cases h1 : b ≤ x ∧ x ≤ b + M.length
    · exact .inl (by rw [if_pos h1])
    · right
      rw [if_neg h1, if_neg (by omega)]
theorem fin_mat {b n cap : Nat} {ex : Bool} {R : List (List SV)} {H : Heap} (h : EntIn H (.mat b R)) (hv : ∀ row ∈ R, row.all isVal = true) (hn : n = R.length) : Fin (MatRes R) (.own b 0 n cap 1 ex) H := by
  subst hn
  refine ⟨hx [.mat b R] H.nb, ⟨rfl, fun x => ?_⟩, rfl, mat_nr hv, b, 0, cap, ex, _, rfl, by rw [hx_map, xmap_mat], by rw [outerB_length]; omega, hv, fun i => b + 1 + i, fun _ => 0, fun i i' _ _ e => by have e : b + 1 + i = b + 1 + i' := e; omega, fun i _ => by show b + 1 + i ≠ b; omega, fun i hi => ?_⟩
  · rw [hx_map, xmap]
    by_cases hr : b ≤ x ∧ x ≤ b + R.length
    · rw [if_pos hr]; exact .inr (h x hr.1 hr.2).symm
    · rw [if_neg hr]; exact .inl rfl
  · refine ⟨(rowAt R i).length, false, ⟨rowAt R i, false⟩, ?_, ?_, ?_, ?_⟩
    · rw [Nat.zero_add, outerB_get hi]
    · show (hx [.mat b R] H.nb).map (b + 1 + i) = _
      rw [hx_map, xmap, if_pos (by omega), matMap, if_neg (by omega)]
      congr 3; omega
    · simp
    · simp
attribute [go_sem] consE_hx cutR_nil
end Go.Sh
