/-
  Texts put together: EBuildWeights, TBE, TB5, LiftR, LiftW. What each proves stands at its own head, with its conditions.
-/
import Derived.Test.YtihglnbaoadmcaaGreatDoorZBuildWeights5
import Derived.Test.YtihglnbaoadmcaaGreatDoorRows
import Derived.LaidMore
import Derived.Lib.LaidU8
import Derived.Shelf.Vars
import Derived.Handed

/-
  The law FnExactBuildWeights, walked.
-/
namespace Go.Sh
set_option linter.unusedSimpArgs false
set_option linter.unusedVariables false
open Go Go.Proofs

section
variable {P : Program}
theorem FCall.callMatG {f : FuncId} {args args' : List SV} {R : List (List SV)} {H : Heap} {K : SV → Heap → Prop} (h : FCall P f args' (MatOne R)) (hc : ∀ row ∈ R, row.all isVal = true) (fu : Nat) (hv : viewL H fu args = some args')
    (k : ∀ g H', EntIn H' (.mat g R) → H.nb ≤ g → g + R.length < H'.nb → (∀ b, b < H.nb → H'.map b = H.map b) → K (.own g 0 R.length R.length 1 false) H') : @CallX P f args H ⟨K⟩ :=
  h.callMat hc fu hv (k _ _ entIn_push (Nat.le_refl _) (by simp only [Heap.pushM]; omega) (fun _ hb => pushM_low hb))
theorem FCall.callValG {f : FuncId} {args args' : List SV} {v : Value} {H : Heap} {K : SV → Heap → Prop} (h : FCall P f args' (fun r _ => r = .val v)) (fu : Nat) (hv : viewL H fu args = some args')
    (k : ∀ H', H.nb ≤ H'.nb → (∀ b, b < H.nb → H'.map b = H.map b) → K (.val v) H') : @CallX P f args H ⟨K⟩ :=
  h.callVal fu hv (k _ (Nat.le_refl _) (fun _ _ => rfl))
end
set_option maxRecDepth 20000 in
set_option maxHeartbeats 32000000 in
theorem Tryz.exactBuildWeights_ok (R : List Rec) (Q : List (List Con)) (W : List Int) (b : Int) (hRw : LRw R) (hQw : Q.length ≤ 9223372036854775807) (hTw : ∀ i, i < Q.length → (rg Q i).length ≤ 9223372036854775807) (hWw : W.length ≤ 9223372036854775807) :
    PCall Tryz.prog 3 [rREC R, .agg [rR Q], sS W b] (.val (.bool true)) := by
  refine FCall.pcall (R := fun r _ => r = .val (.bool true)) ?_ 0 (by rintro r H rfl; exact view_bool)
  refine FCall.of_body Tryz.func3 rfl (by kernel_rfl) (by simp [Tryz.ntmps3]) ?_
  refine SW_of_vc Tryz.mixed _ _ _ (by kernel_rfl) ?_
  have zR := Tryz.szRecordS_ok R 1048576 hRw (by omega) (by omega)
  by_cases s0 : (1048576 : Int) < (szR R : Nat)
  · rw [if_pos s0] at zR
    simp (disch := omega) only [Tryz.ntmps3, Tryz.results3, go_sem, rREC, rR, hset_map, hset_nb, hpush_map, hpush_nb, bne_self_eq_false]
    refine zR.callV 0 (viewL_cons_of view_row (viewL_cons_of view_int viewL_nil_of)) ?_
    simp (disch := omega) only [Tryz.ntmps3, Tryz.results3, go_sem, rREC, rR, hset_map, hset_nb, hpush_map, hpush_nb, bne_self_eq_false]
    exact Fin.val rfl
  rw [if_neg s0] at zR
  have hrs := rsum_nonneg Q Q.length
  have zQ := Tryz.szRuleSet_ok Q (1048576 - (szR R : Nat)) hQw hTw (by omega) (by omega)
  by_cases s1 : (1048576 - (szR R : Nat) : Int) < Q.length + rsum Q Q.length
  · rw [if_pos s1] at zQ
    simp (disch := omega) only [Tryz.ntmps3, Tryz.results3, go_sem, rREC, rR, hset_map, hset_nb, hpush_map, hpush_nb, bne_self_eq_false]
    refine zR.callV 0 (viewL_cons_of view_row (viewL_cons_of view_int viewL_nil_of)) ?_
    simp (disch := omega) only [Tryz.ntmps3, Tryz.results3, go_sem, rREC, rR, hset_map, hset_nb, hpush_map, hpush_nb, bne_self_eq_false]
    refine zQ.callV 1 (viewL_cons_of view_rule (viewL_cons_of view_int viewL_nil_of)) ?_
    simp (disch := omega) only [Tryz.ntmps3, Tryz.results3, go_sem, rREC, rR, hset_map, hset_nb, hpush_map, hpush_nb, bne_self_eq_false]
    exact Fin.val rfl
  rw [if_neg s1] at zQ
  have hQ : Q.length ≤ 1048576 := by omega
  have hT : ∀ i, i < Q.length → (rg Q i).length ≤ 1048576 := fun i hi => by have := rg_le hi; omega
  have zS := Tryz.szScoring_ok W b (1048576 - (szR R : Nat) - Q.length - rsum Q Q.length) hWw (by omega) (by omega)
  by_cases s2 : (1048576 - (szR R : Nat) - Q.length - rsum Q Q.length : Int) < W.length
  · rw [if_pos s2] at zS
    simp (disch := omega) only [Tryz.ntmps3, Tryz.results3, go_sem, rREC, rR, hset_map, hset_nb, hpush_map, hpush_nb, bne_self_eq_false]
    refine zR.callV 0 (viewL_cons_of view_row (viewL_cons_of view_int viewL_nil_of)) ?_
    simp (disch := omega) only [Tryz.ntmps3, Tryz.results3, go_sem, rREC, rR, hset_map, hset_nb, hpush_map, hpush_nb, bne_self_eq_false]
    refine zQ.callV 1 (viewL_cons_of view_rule (viewL_cons_of view_int viewL_nil_of)) ?_
    simp (disch := omega) only [Tryz.ntmps3, Tryz.results3, go_sem, rREC, rR, hset_map, hset_nb, hpush_map, hpush_nb, bne_self_eq_false]
    refine zS.callV 1 (viewL_cons_of view_sS (viewL_cons_of view_int viewL_nil_of)) ?_
    simp (disch := omega) only [Tryz.ntmps3, Tryz.results3, go_sem, rREC, rR, hset_map, hset_nb, hpush_map, hpush_nb, bne_self_eq_false]
    exact Fin.val rfl
  rw [if_neg s2] at zS
  have hW : W.length ≤ 1048576 := by omega
  have hRl : R.length ≤ 1048576 := by have : szR R = R.length + gs (bsR R) R.length := rfl; omega
  have hFk : ∀ k, k < R.length → bs (gR R k).2.2.2 ≤ 1048576 := fun k hk => by
    have h1 := gs_at (bsR R) hk
    have : szR R = R.length + gs (bsR R) R.length := rfl
    have h2 : bsR R k = bs (gR R k).2.2.2 := rfl
    omega
  have hR : LR R := ⟨hRl, fun k hk => by
    have h1 := hFk k hk
    have h2 : bs (gR R k).2.2.2 = (gR R k).2.2.2.length + gs (sl (gR R k).2.2.2) (gR R k).2.2.2.length := rfl
    refine ⟨by omega, fun i hi => ?_⟩
    have h3 := gs_at (sl (gR R k).2.2.2) hi
    have h4 : sl (gR R k).2.2.2 i = ((gR R k).2.2.2.getD i []).length := rfl
    omega⟩
  have wS := Tryz.specBW_ok R Q W b hR hQ hT hW
  have tR := Tryz.toRecordS_ok R hR
  have tQ := Tryz.toRuleSet_ok Q hQ hT
  have tS := Tryz.toScoring_ok W b hW
  have eR := Tryz.eqRecordS_ok R hR
  have eQ := Tryz.eqRuleSet_ok Q hQ hT
  have eS := Tryz.eqScoring_ok W b hW
  have hgm : gs (fun i => (gR R i).2.2.2.length) R.length ≤ 1048576 := by
    have h1 := gs_mono2 (m := fun i => (gR R i).2.2.2.length) (m' := bsR R) R.length (fun i hi => by show _ ≤ bs (gR R i).2.2.2; rw [bs]; omega)
    have h2 : szR R = R.length + gs (bsR R) R.length := rfl
    omega
  have hgq : gs (fun i => (rg Q i).length) Q.length ≤ 1048576 := by have := rsum_gs Q Q.length (Nat.le_refl _); omega
  cases hv : okBW R Q W b with
  | true =>
    have wO := Tryz.implBW_one R Q W b hR hQ hT hW hv
    have wI := Tryz.implBW_ok R Q W b hR hQ hT hW
    have hv2 := hv
    rw [okBW, Bool.and_eq_true, Bool.and_eq_true] at hv2
    have hn8 := inR_of hv2.2.1
    have hsq : SqI R.length (bwR R Q W b) := by rw [bwR_t hv]; exact genM_sq _ _
    have hml := hsq.1
    have hq1 : (bwR R Q W b).length ≤ 1048576 := by omega
    have hq2 : ∀ i, i < (bwR R Q W b).length → (mrow (bwR R Q W b) i).length ≤ 1048576 := fun i hi => by rw [hsq.2 i (by omega)]; omega
    have hr8 : R.length ≤ 8 := by omega
    have hq3 : msum (bwR R Q W b) (bwR R Q W b).length ≤ 64 := by rw [hml, msum_sq hsq _ (Nat.le_refl _)]; exact_mod_cast (Nat.mul_le_mul hr8 hr8 : R.length * R.length ≤ 8 * 8)
    have hq4 := msum_nonneg (bwR R Q W b) (bwR R Q W b).length
    simp (disch := omega) only [Tryz.ntmps3, Tryz.results3, go_sem, rREC, rR, hset_map, hset_nb, hpush_map, hpush_nb, bne_self_eq_false]
    refine zR.callV 0 (viewL_cons_of view_row (viewL_cons_of view_int viewL_nil_of)) ?_
    simp (disch := omega) only [Tryz.ntmps3, Tryz.results3, go_sem, rREC, rR, hset_map, hset_nb, hpush_map, hpush_nb, bne_self_eq_false]
    refine zQ.callV 1 (viewL_cons_of view_rule (viewL_cons_of view_int viewL_nil_of)) ?_
    simp (disch := omega) only [Tryz.ntmps3, Tryz.results3, go_sem, rREC, rR, hset_map, hset_nb, hpush_map, hpush_nb, bne_self_eq_false]
    refine zS.callV 1 (viewL_cons_of view_sS (viewL_cons_of view_int viewL_nil_of)) ?_
    simp (disch := omega) only [Tryz.ntmps3, Tryz.results3, go_sem, rREC, rR, hset_map, hset_nb, hpush_map, hpush_nb, bne_self_eq_false]
    refine tR.callDV 0 (viewL_cons_of view_row viewL_nil_of) ?_
    simp (disch := omega) only [Tryz.ntmps3, Tryz.results3, go_sem, rREC, rR, hset_map, hset_nb, hpush_map, hpush_nb, bne_self_eq_false]
    refine tQ.callDV 1 (viewL_cons_of view_rule viewL_nil_of) ?_
    simp (disch := omega) only [Tryz.ntmps3, Tryz.results3, go_sem, rREC, rR, hset_map, hset_nb, hpush_map, hpush_nb, bne_self_eq_false]
    refine tS.callDV 1 (viewL_cons_of view_sS viewL_nil_of) ?_
    simp (disch := omega) only [Tryz.ntmps3, Tryz.results3, go_sem, rREC, rR, hset_map, hset_nb, hpush_map, hpush_nb, bne_self_eq_false]
    refine wS.callDV 1 (viewL_cons_of view_row (viewL_cons_of view_rule (viewL_cons_of view_sS viewL_nil_of))) ?_
    simp (disch := omega) only [Tryz.ntmps3, Tryz.results3, go_sem, rREC, rR, hset_map, hset_nb, hpush_map, hpush_nb, bne_self_eq_false]
    refine (Tryz.toRecordS_n R hR).callN (fun _ _ => rfl) 0 (viewL_cons_of view_row viewL_nil_of) ?_
    rintro ob0 e0 cs0 H1 hl0 hN0 hlo0 hnb0 hlow0
    have m01 : H1.map 0 = some ⟨[.row Q.length false (rules Q)], true⟩ := by
      rw [hlow0 0 (by first | omega | (simp only [hset_nb, hpush_nb]; omega) | (simp only [hp]; omega))]
      first | exact rfl | (simp (disch := omega) only [hset_map, hpush_map, hset_nb, hpush_nb, if_pos, if_neg, ↓reduceIte]; done) | (simp (disch := omega) only [hset_map, hpush_map, hset_nb, hpush_nb, if_pos, if_neg, ↓reduceIte]; exact rfl) | rfl
    have m11 : H1.map 1 = some ⟨[.row W.length false (ints W), .val (.int .i64 b)], true⟩ := by
      rw [hlow0 1 (by first | omega | (simp only [hset_nb, hpush_nb]; omega) | (simp only [hp]; omega))]
      first | exact rfl | (simp (disch := omega) only [hset_map, hpush_map, hset_nb, hpush_nb, if_pos, if_neg, ↓reduceIte]; done) | (simp (disch := omega) only [hset_map, hpush_map, hset_nb, hpush_nb, if_pos, if_neg, ↓reduceIte]; exact rfl) | rfl
    simp only [hp] at hlo0 hnb0
    have hob0 := hN0.lt
    simp (disch := omega) only [Tryz.ntmps3, Tryz.results3, go_sem, rREC, rR, hset_map, hset_nb, hpush_map, hpush_nb, bne_self_eq_false, m01, m11]
    refine (Tryz.toRuleSet_n Q hQ hT).callN (fun _ _ => by simp only [shift, shiftL]) 1 (viewL_cons_of view_rule viewL_nil_of) ?_
    rintro ob1 e1 cs1 H2 hl1 hN1 hlo1 hnb1 hlow1
    have m02 : H2.map 0 = some ⟨[.row Q.length false (rules Q)], true⟩ := by
      rw [hlow1 0 (by first | omega | (simp only [hset_nb, hpush_nb]; omega) | (simp only [hp]; omega))]
      first | exact m01 | (simp (disch := omega) only [hset_map, hpush_map, hset_nb, hpush_nb, if_pos, if_neg, ↓reduceIte]; done) | (simp (disch := omega) only [hset_map, hpush_map, hset_nb, hpush_nb, if_pos, if_neg, ↓reduceIte]; exact m01) | rfl
    have m12 : H2.map 1 = some ⟨[.row W.length false (ints W), .val (.int .i64 b)], true⟩ := by
      rw [hlow1 1 (by first | omega | (simp only [hset_nb, hpush_nb]; omega) | (simp only [hp]; omega))]
      first | exact m11 | (simp (disch := omega) only [hset_map, hpush_map, hset_nb, hpush_nb, if_pos, if_neg, ↓reduceIte]; done) | (simp (disch := omega) only [hset_map, hpush_map, hset_nb, hpush_nb, if_pos, if_neg, ↓reduceIte]; exact m11) | rfl
    have hob1 := hN1.lt
    simp (disch := omega) only [Tryz.ntmps3, Tryz.results3, go_sem, rREC, rR, hset_map, hset_nb, hpush_map, hpush_nb, bne_self_eq_false, m02, m12]
    refine (Tryz.toScoring_n W b hW).callN (fun _ _ => by simp only [shift, shiftL]) 1 (viewL_cons_of view_sS viewL_nil_of) ?_
    rintro ob2 e2 cs2 H3 hl2 hN2 hlo2 hnb2 hlow2
    simp only [hset_nb, hpush_nb] at hlo2 hnb2
    have m03 : H3.map 0 = some ⟨[.row Q.length false (rules Q)], true⟩ := by
      rw [hlow2 0 (by first | omega | (simp only [hset_nb, hpush_nb]; omega) | (simp only [hp]; omega))]
      first | exact m02 | (simp (disch := omega) only [hset_map, hpush_map, hset_nb, hpush_nb, if_pos, if_neg, ↓reduceIte]; done) | (simp (disch := omega) only [hset_map, hpush_map, hset_nb, hpush_nb, if_pos, if_neg, ↓reduceIte]; exact m02) | rfl
    have m13 : H3.map 1 = some ⟨[.row W.length false (ints W), .val (.int .i64 b)], true⟩ := by
      rw [hlow2 1 (by first | omega | (simp only [hset_nb, hpush_nb]; omega) | (simp only [hp]; omega))]
      first | exact m12 | (simp (disch := omega) only [hset_map, hpush_map, hset_nb, hpush_nb, if_pos, if_neg, ↓reduceIte]; done) | (simp (disch := omega) only [hset_map, hpush_map, hset_nb, hpush_nb, if_pos, if_neg, ↓reduceIte]; exact m12) | rfl
    have p13 : H3.map H2.nb = some ⟨[.own ob1 0 Q.length Q.length 1 e1], true⟩ := by
      rw [hlow2 H2.nb (by first | omega | (simp only [hset_nb, hpush_nb]; omega) | (simp only [hp]; omega))]
      first | exact rfl | (simp (disch := omega) only [hset_map, hpush_map, hset_nb, hpush_nb, if_pos, if_neg, ↓reduceIte]; done) | (simp (disch := omega) only [hset_map, hpush_map, hset_nb, hpush_nb, if_pos, if_neg, ↓reduceIte]; exact rfl) | rfl
    have hob2 := hN2.lt
    have hl23 : ∀ x, x < H2.nb → H3.map x = H2.map x := fun x hx => by
      rw [hlow2 x (by first | omega | (simp only [hset_nb, hpush_nb]; omega))]
      simp (disch := omega) only [hset_map, hpush_map, hset_nb, hpush_nb, if_pos, if_neg, ↓reduceIte]
    simp (disch := omega) only [Tryz.ntmps3, Tryz.results3, go_sem, rREC, rR, hset_map, hset_nb, hpush_map, hpush_nb, bne_self_eq_false, m03, m13, p13]
    have u0 := fun e cap => hN0.viewF (H1 := (H3.push ⟨[.val (.slice none 0 0), .val (.int .i64 0)], true⟩).set H3.nb (some ⟨[.own ob2 0 W.length W.length 1 e2, .val (.int .i64 b)], true⟩)) (cap := cap) (e := e) hl0 (fun x h1 h2 => by simp (disch := omega) only [hset_map, hpush_map, hset_nb, hpush_nb, if_pos, if_neg, ↓reduceIte]; rw [hl23 x (by omega), hlow1 x h2])
    have u1 := fun e cap => hN1.viewF (H1 := (H3.push ⟨[.val (.slice none 0 0), .val (.int .i64 0)], true⟩).set H3.nb (some ⟨[.own ob2 0 W.length W.length 1 e2, .val (.int .i64 b)], true⟩)) (cap := cap) (e := e) hl1 (fun x h1 h2 => by simp (disch := omega) only [hset_map, hpush_map, hset_nb, hpush_nb, if_pos, if_neg, ↓reduceIte]; rw [hl23 x (by omega)])
    have u2 := fun e cap => hN2.viewF (H1 := (H3.push ⟨[.val (.slice none 0 0), .val (.int .i64 0)], true⟩).set H3.nb (some ⟨[.own ob2 0 W.length W.length 1 e2, .val (.int .i64 b)], true⟩)) (cap := cap) (e := e) hl2 (fun x h1 h2 => by simp (disch := omega) only [hset_map, hpush_map, hset_nb, hpush_nb, if_pos, if_neg, ↓reduceIte])
    refine wO.callMatG (mi_vals _) 4 (viewL_cons_of (u0 _ _) (viewL_cons_of (view_agg (viewL_cons_of (u1 _ _) viewL_nil_of)) (viewL_cons_of (view_agg (viewL_cons_of (u2 _ _) (viewL_cons_of view_int viewL_nil_of))) viewL_nil_of))) ?_
    rintro g H4 hE hg hgn hlow4
    simp only [hset_nb, hpush_nb, mi_length] at hg hgn
    have m04 : H4.map 0 = some ⟨[.row Q.length false (rules Q)], true⟩ := by
      rw [hlow4 0 (by first | omega | (simp only [hset_nb, hpush_nb]; omega) | (simp only [hp]; omega))]
      first | exact m03 | (simp (disch := omega) only [hset_map, hpush_map, hset_nb, hpush_nb, if_pos, if_neg, ↓reduceIte]; done) | (simp (disch := omega) only [hset_map, hpush_map, hset_nb, hpush_nb, if_pos, if_neg, ↓reduceIte]; exact m03) | rfl
    have m14 : H4.map 1 = some ⟨[.row W.length false (ints W), .val (.int .i64 b)], true⟩ := by
      rw [hlow4 1 (by first | omega | (simp only [hset_nb, hpush_nb]; omega) | (simp only [hp]; omega))]
      first | exact m13 | (simp (disch := omega) only [hset_map, hpush_map, hset_nb, hpush_nb, if_pos, if_neg, ↓reduceIte]; done) | (simp (disch := omega) only [hset_map, hpush_map, hset_nb, hpush_nb, if_pos, if_neg, ↓reduceIte]; exact m13) | rfl
    have p14 : H4.map H2.nb = some ⟨[.own ob1 0 Q.length Q.length 1 e1], true⟩ := by
      rw [hlow4 H2.nb (by first | omega | (simp only [hset_nb, hpush_nb]; omega) | (simp only [hp]; omega))]
      first | exact p13 | (simp (disch := omega) only [hset_map, hpush_map, hset_nb, hpush_nb, if_pos, if_neg, ↓reduceIte]; done) | (simp (disch := omega) only [hset_map, hpush_map, hset_nb, hpush_nb, if_pos, if_neg, ↓reduceIte]; exact p13) | rfl
    have q14 : H4.map H3.nb = some ⟨[.own ob2 0 W.length W.length 1 e2, .val (.int .i64 b)], true⟩ := by
      rw [hlow4 H3.nb (by first | omega | (simp only [hset_nb, hpush_nb]; omega) | (simp only [hp]; omega))]
      first | exact rfl | (simp (disch := omega) only [hset_map, hpush_map, hset_nb, hpush_nb, if_pos, if_neg, ↓reduceIte]; done) | (simp (disch := omega) only [hset_map, hpush_map, hset_nb, hpush_nb, if_pos, if_neg, ↓reduceIte]; exact rfl) | rfl
    have hl4 : ∀ x, x < H3.nb → H4.map x = H3.map x := fun x hx => by
      rw [hlow4 x (by first | omega | (simp only [hset_nb, hpush_nb]; omega))]
      simp (disch := omega) only [hset_map, hpush_map, hset_nb, hpush_nb, if_pos, if_neg, ↓reduceIte]
    clear u0 u1 u2 hlow0 hlow2 hlow4
    have v0 := fun e cap => hN0.viewF (H1 := H4) (cap := cap) (e := e) hl0 (fun x h1 h2 => by rw [hl4 x (by omega), hl23 x (by omega), hlow1 x h2])
    have v1 := fun e cap => hN1.viewF (H1 := H4) (cap := cap) (e := e) hl1 (fun x h1 h2 => by rw [hl4 x (by omega), hl23 x (by omega)])
    have v2 := fun e cap => hN2.viewF (H1 := H4) (cap := cap) (e := e) hl2 (fun x h1 h2 => by rw [hl4 x h2])
    simp (disch := omega) only [Tryz.ntmps3, Tryz.results3, go_sem, rREC, rR, hset_map, hset_nb, hpush_map, hpush_nb, bne_self_eq_false, m04, m14, p14, q14]
    refine (Tryz.eqIntSS_ok (bwR R Q W b) (bwR R Q W b) hq1 hq1 hq2 hq2).callV 2 (viewL_cons_of (view_mi (M := (bwR R Q W b)) hE rfl) (viewL_cons_of view_row viewL_nil_of)) ?_
    simp (disch := omega) only [Tryz.ntmps3, Tryz.results3, go_sem, rREC, rR, hset_map, hset_nb, hpush_map, hpush_nb, bne_self_eq_false, m04, m14, p14, q14]
    refine tR.callV 0 (viewL_cons_of view_row viewL_nil_of) ?_
    simp (disch := omega) only [Tryz.ntmps3, Tryz.results3, go_sem, rREC, rR, hset_map, hset_nb, hpush_map, hpush_nb, bne_self_eq_false, m04, m14, p14, q14]
    refine eR.callV 4 (viewL_cons_of (v0 _ _) (viewL_cons_of view_row viewL_nil_of)) ?_
    simp (disch := omega) only [Tryz.ntmps3, Tryz.results3, go_sem, rREC, rR, hset_map, hset_nb, hpush_map, hpush_nb, bne_self_eq_false, m04, m14, p14, q14]
    refine tQ.callDV 1 (viewL_cons_of view_rule viewL_nil_of) ?_
    simp (disch := omega) only [Tryz.ntmps3, Tryz.results3, go_sem, rREC, rR, hset_map, hset_nb, hpush_map, hpush_nb, bne_self_eq_false, m04, m14, p14, q14]
    refine eQ.callDV 4 (viewL_cons_of (view_agg (viewL_cons_of (v1 _ _) viewL_nil_of)) (viewL_cons_of view_rule viewL_nil_of)) ?_
    simp (disch := omega) only [Tryz.ntmps3, Tryz.results3, go_sem, rREC, rR, hset_map, hset_nb, hpush_map, hpush_nb, bne_self_eq_false, m04, m14, p14, q14]
    refine tS.callDV 1 (viewL_cons_of view_sS viewL_nil_of) ?_
    simp (disch := omega) only [Tryz.ntmps3, Tryz.results3, go_sem, rREC, rR, hset_map, hset_nb, hpush_map, hpush_nb, bne_self_eq_false, m04, m14, p14, q14]
    refine eS.callDV 4 (viewL_cons_of (view_agg (viewL_cons_of (v2 _ _) (viewL_cons_of view_int viewL_nil_of))) (viewL_cons_of view_sS viewL_nil_of)) ?_
    simp (disch := omega) only [Tryz.ntmps3, Tryz.results3, go_sem, rREC, rR, hset_map, hset_nb, hpush_map, hpush_nb, bne_self_eq_false, m04, m14, p14, q14]
    have hS0 := (hN0.shape (z := 1) (fo := 3) (m := fun i => (gR R i).2.2.2.length) hl0 (by omega) (fun i hi => ⟨_, recs_fld hi, by rw [strs_length, Nat.mul_one]⟩)).fr (H1 := H4) hob0 (fun x h1 h2 => by rw [hl4 x (by omega), hl23 x (by omega), hlow1 x h2])
    refine (Tryz.markRecordS_ok H4 ob0 H1.nb R.length _ 1 _ cs0 _ e0 hS0 hob0 (by omega) hgm (by omega)).callX ?_
    rintro r H5 ⟨rfl, hnb5, hf5⟩
    have m05 : H5.map 0 = some ⟨[.row Q.length false (rules Q)], true⟩ := by rw [hf5 0 (by omega), m04]
    have m15 : H5.map 1 = some ⟨[.row W.length false (ints W), .val (.int .i64 b)], true⟩ := by rw [hf5 1 (by omega), m14]
    have p15 : H5.map H2.nb = some ⟨[.own ob1 0 Q.length Q.length 1 e1], true⟩ := by rw [hf5 H2.nb (by omega), p14]
    have q15 : H5.map H3.nb = some ⟨[.own ob2 0 W.length W.length 1 e2, .val (.int .i64 b)], true⟩ := by rw [hf5 H3.nb (by omega), q14]
    simp (disch := omega) only [Tryz.ntmps3, Tryz.results3, go_sem, rREC, rR, hset_map, hset_nb, hpush_map, hpush_nb, bne_self_eq_false, m05, m15, p15, q15]
    have hl5 : ∀ x, H1.nb ≤ x → x < H3.nb → H5.map x = H3.map x := fun x h1 h2 => by rw [hf5 x (by omega), hl4 x h2]
    have hS1 := (hN1.shape (z := 3) (fo := 0) (m := fun i => (rg Q i).length) hl1 (by omega) (fun i hi => ⟨_, by rw [Nat.mul_one, Nat.add_zero]; exact rules_get hi, cons_length _⟩)).fr (H1 := H5) hob1 (fun x h1 h2 => by rw [hl5 x (by omega) (by omega), hl23 x (by omega)])
    refine (Tryz.markRuleSet_ok H5 ob1 H2.nb Q.length _ (1 + 3 * R.length + gs (fun i => (gR R i).2.2.2.length) R.length) _ cs1 _ e1 hS1 (by omega) (by omega) (by omega) hgq (by omega)).callX ?_
    rintro r H6 ⟨rfl, hnb6, hf6⟩
    have m06 : H6.map 0 = some ⟨[.row Q.length false (rules Q)], true⟩ := by rw [hf6 0 (by omega) (by omega), m05]
    have m16 : H6.map 1 = some ⟨[.row W.length false (ints W), .val (.int .i64 b)], true⟩ := by rw [hf6 1 (by omega) (by omega), m15]
    have p16 : H6.map H2.nb = some ⟨[.own ob1 0 Q.length Q.length 1 e1], true⟩ := by rw [hf6 H2.nb (by omega) (by omega), p15]
    have q16 : H6.map H3.nb = some ⟨[.own ob2 0 W.length W.length 1 e2, .val (.int .i64 b)], true⟩ := by rw [hf6 H3.nb (by omega) (by omega), q15]
    simp (disch := omega) only [Tryz.ntmps3, Tryz.results3, go_sem, rREC, rR, hset_map, hset_nb, hpush_map, hpush_nb, bne_self_eq_false, m06, m16, p16, q16]
    have hW2 : H6.map ob2 = some ⟨ints W, e2⟩ := by rw [hf6 ob2 (by omega) (by omega), hl5 ob2 (by omega) (by omega), hN2.o, viewL_ints_inv (hN2.vw H3 fun _ _ _ => rfl)]
    refine (Tryz.markScoring_ok H6 ob2 _ (1 + 3 * R.length + gs (fun i => (gR R i).2.2.2.length) R.length + 3 * gs (fun i => (rg Q i).length) Q.length) W b _ e2 hW2 (by omega) (by omega) (by omega)).callX ?_
    rintro r H7 ⟨rfl, hnb7, hf7⟩
    have m07 : H7.map 0 = some ⟨[.row Q.length false (rules Q)], true⟩ := by rw [hf7 0 (by omega) (by omega), m06]
    have m17 : H7.map 1 = some ⟨[.row W.length false (ints W), .val (.int .i64 b)], true⟩ := by rw [hf7 1 (by omega) (by omega), m16]
    have p17 : H7.map H2.nb = some ⟨[.own ob1 0 Q.length Q.length 1 e1], true⟩ := by rw [hf7 H2.nb (by omega) (by omega), p16]
    have q17 : H7.map H3.nb = some ⟨[.own ob2 0 W.length W.length 1 e2, .val (.int .i64 b)], true⟩ := by rw [hf7 H3.nb (by omega) (by omega), q16]
    have hE7 : EntIn H7 (.mat g (mi (bwR R Q W b))) := hE.fr fun x h1 h2 => by
      rw [mi_length] at h2
      rw [hf7 x (by omega) (by omega), hf6 x (by omega) (by omega), hf5 x (by omega)]
    clear hS0 hS1 hW2 v0 v1 v2 hl4 hl5 hf5 hf6 hf7 hN0 hN1 hN2 hl23 hlow1
    simp (disch := omega) only [Tryz.ntmps3, Tryz.results3, go_sem, rREC, rR, hset_map, hset_nb, hpush_map, hpush_nb, bne_self_eq_false, m07, m17, p17, q17]
    refine (Tryz.eqIntSS_ok (bwR R Q W b) (bwR R Q W b) hq1 hq1 hq2 hq2).callV 2 (viewL_cons_of (view_mi (M := (bwR R Q W b)) hE7 rfl) (viewL_cons_of view_row viewL_nil_of)) ?_
    simp (disch := omega) only [Tryz.ntmps3, Tryz.results3, go_sem, rREC, rR, hset_map, hset_nb, hpush_map, hpush_nb, bne_self_eq_false, m07, m17, p17, q17]
    refine (Tryz.markIntSS_keep (bwR R Q W b) 1 H7 g _ hE7 rfl hq1 hq2 (by omega) (by omega)).callX ?_
    rintro r H8 ⟨rfl, hH8⟩
    have hE8 : EntIn H8 (.mat g (mi (marksM (bwR R Q W b) 1))) := by rw [hH8]; exact entIn_consE
    have m08 : H8.map 0 = some ⟨[.row Q.length false (rules Q)], true⟩ := by rw [hH8, consE_low (by omega), m07]
    have m18 : H8.map 1 = some ⟨[.row W.length false (ints W), .val (.int .i64 b)], true⟩ := by rw [hH8, consE_low (by omega), m17]
    clear hH8
    simp (disch := omega) only [Tryz.ntmps3, Tryz.results3, go_sem, rREC, rR, hset_map, hset_nb, hpush_map, hpush_nb, bne_self_eq_false, m08, m18]
    refine (Tryz.heldIntSS_marks (bwR R Q W b) 1 hq1 hq2 (by omega) (by omega)).callV 2 (viewL_cons_of (view_mi (M := marksM (bwR R Q W b) 1) hE8 (marksM_length _ _).symm) (viewL_cons_of view_int viewL_nil_of)) ?_
    simp (disch := omega) only [Tryz.ntmps3, Tryz.results3, go_sem, rREC, rR, hset_map, hset_nb, hpush_map, hpush_nb, bne_self_eq_false, m08, m18]
    refine tR.callDV 0 (viewL_cons_of view_row viewL_nil_of) ?_
    simp (disch := omega) only [Tryz.ntmps3, Tryz.results3, go_sem, rREC, rR, hset_map, hset_nb, hpush_map, hpush_nb, bne_self_eq_false, m08, m18]
    refine tQ.callDV 1 (viewL_cons_of view_rule viewL_nil_of) ?_
    simp (disch := omega) only [Tryz.ntmps3, Tryz.results3, go_sem, rREC, rR, hset_map, hset_nb, hpush_map, hpush_nb, bne_self_eq_false, m08, m18]
    refine tS.callDV 1 (viewL_cons_of view_sS viewL_nil_of) ?_
    simp (disch := omega) only [Tryz.ntmps3, Tryz.results3, go_sem, rREC, rR, hset_map, hset_nb, hpush_map, hpush_nb, bne_self_eq_false, m08, m18]
    refine wI.callDV 1 (viewL_cons_of view_row (viewL_cons_of view_rule (viewL_cons_of view_sS viewL_nil_of))) ?_
    simp (disch := omega) only [Tryz.ntmps3, Tryz.results3, go_sem, rREC, rR, hset_map, hset_nb, hpush_map, hpush_nb, bne_self_eq_false, m08, m18]
    refine (Tryz.eqIntSS_ok (bwR R Q W b) (bwR R Q W b) hq1 hq1 hq2 hq2).callV 2 (viewL_cons_of view_row (viewL_cons_of view_row viewL_nil_of)) ?_
    simp (disch := omega) only [Tryz.ntmps3, Tryz.results3, go_sem, rREC, rR, hset_map, hset_nb, hpush_map, hpush_nb, bne_self_eq_false, m08, m18]
    refine (Tryz.heldIntSS_marks (bwR R Q W b) 1 hq1 hq2 (by omega) (by omega)).callV 2 (viewL_cons_of (view_mi (M := marksM (bwR R Q W b) 1) hE8 (marksM_length _ _).symm) (viewL_cons_of view_int viewL_nil_of)) ?_
    simp (disch := omega) only [Tryz.ntmps3, Tryz.results3, go_sem, rREC, rR, hset_map, hset_nb, hpush_map, hpush_nb, bne_self_eq_false, m08, m18]
    exact Fin.val rfl
  | false =>
    have wN := Tryz.implBW_nil R Q W b hR hQ hT hW hv
    have wI := Tryz.implBW_ok R Q W b hR hQ hT hW
    rw [bwR_f hv] at wS wI
    have hheld : msum [] 0 = 0 := rfl
    simp (disch := omega) only [Tryz.ntmps3, Tryz.results3, go_sem, rREC, rR, hset_map, hset_nb, hpush_map, hpush_nb, bne_self_eq_false]
    refine zR.callV 0 (viewL_cons_of view_row (viewL_cons_of view_int viewL_nil_of)) ?_
    simp (disch := omega) only [Tryz.ntmps3, Tryz.results3, go_sem, rREC, rR, hset_map, hset_nb, hpush_map, hpush_nb, bne_self_eq_false]
    refine zQ.callV 1 (viewL_cons_of view_rule (viewL_cons_of view_int viewL_nil_of)) ?_
    simp (disch := omega) only [Tryz.ntmps3, Tryz.results3, go_sem, rREC, rR, hset_map, hset_nb, hpush_map, hpush_nb, bne_self_eq_false]
    refine zS.callV 1 (viewL_cons_of view_sS (viewL_cons_of view_int viewL_nil_of)) ?_
    simp (disch := omega) only [Tryz.ntmps3, Tryz.results3, go_sem, rREC, rR, hset_map, hset_nb, hpush_map, hpush_nb, bne_self_eq_false]
    refine tR.callDV 0 (viewL_cons_of view_row viewL_nil_of) ?_
    simp (disch := omega) only [Tryz.ntmps3, Tryz.results3, go_sem, rREC, rR, hset_map, hset_nb, hpush_map, hpush_nb, bne_self_eq_false]
    refine tQ.callDV 1 (viewL_cons_of view_rule viewL_nil_of) ?_
    simp (disch := omega) only [Tryz.ntmps3, Tryz.results3, go_sem, rREC, rR, hset_map, hset_nb, hpush_map, hpush_nb, bne_self_eq_false]
    refine tS.callDV 1 (viewL_cons_of view_sS viewL_nil_of) ?_
    simp (disch := omega) only [Tryz.ntmps3, Tryz.results3, go_sem, rREC, rR, hset_map, hset_nb, hpush_map, hpush_nb, bne_self_eq_false]
    refine wS.callDV 1 (viewL_cons_of view_row (viewL_cons_of view_rule (viewL_cons_of view_sS viewL_nil_of))) ?_
    simp (disch := omega) only [Tryz.ntmps3, Tryz.results3, go_sem, rREC, rR, hset_map, hset_nb, hpush_map, hpush_nb, bne_self_eq_false]
    refine (Tryz.toRecordS_n R hR).callN (fun _ _ => rfl) 0 (viewL_cons_of view_row viewL_nil_of) ?_
    rintro ob0 e0 cs0 H1 hl0 hN0 hlo0 hnb0 hlow0
    have m01 : H1.map 0 = some ⟨[.row Q.length false (rules Q)], true⟩ := by
      rw [hlow0 0 (by first | omega | (simp only [hset_nb, hpush_nb]; omega) | (simp only [hp]; omega))]
      first | exact rfl | (simp (disch := omega) only [hset_map, hpush_map, hset_nb, hpush_nb, if_pos, if_neg, ↓reduceIte]; done) | (simp (disch := omega) only [hset_map, hpush_map, hset_nb, hpush_nb, if_pos, if_neg, ↓reduceIte]; exact rfl) | rfl
    have m11 : H1.map 1 = some ⟨[.row W.length false (ints W), .val (.int .i64 b)], true⟩ := by
      rw [hlow0 1 (by first | omega | (simp only [hset_nb, hpush_nb]; omega) | (simp only [hp]; omega))]
      first | exact rfl | (simp (disch := omega) only [hset_map, hpush_map, hset_nb, hpush_nb, if_pos, if_neg, ↓reduceIte]; done) | (simp (disch := omega) only [hset_map, hpush_map, hset_nb, hpush_nb, if_pos, if_neg, ↓reduceIte]; exact rfl) | rfl
    simp only [hp] at hlo0 hnb0
    have hob0 := hN0.lt
    simp (disch := omega) only [Tryz.ntmps3, Tryz.results3, go_sem, rREC, rR, hset_map, hset_nb, hpush_map, hpush_nb, bne_self_eq_false, m01, m11]
    refine (Tryz.toRuleSet_n Q hQ hT).callN (fun _ _ => by simp only [shift, shiftL]) 1 (viewL_cons_of view_rule viewL_nil_of) ?_
    rintro ob1 e1 cs1 H2 hl1 hN1 hlo1 hnb1 hlow1
    have m02 : H2.map 0 = some ⟨[.row Q.length false (rules Q)], true⟩ := by
      rw [hlow1 0 (by first | omega | (simp only [hset_nb, hpush_nb]; omega) | (simp only [hp]; omega))]
      first | exact m01 | (simp (disch := omega) only [hset_map, hpush_map, hset_nb, hpush_nb, if_pos, if_neg, ↓reduceIte]; done) | (simp (disch := omega) only [hset_map, hpush_map, hset_nb, hpush_nb, if_pos, if_neg, ↓reduceIte]; exact m01) | rfl
    have m12 : H2.map 1 = some ⟨[.row W.length false (ints W), .val (.int .i64 b)], true⟩ := by
      rw [hlow1 1 (by first | omega | (simp only [hset_nb, hpush_nb]; omega) | (simp only [hp]; omega))]
      first | exact m11 | (simp (disch := omega) only [hset_map, hpush_map, hset_nb, hpush_nb, if_pos, if_neg, ↓reduceIte]; done) | (simp (disch := omega) only [hset_map, hpush_map, hset_nb, hpush_nb, if_pos, if_neg, ↓reduceIte]; exact m11) | rfl
    have hob1 := hN1.lt
    simp (disch := omega) only [Tryz.ntmps3, Tryz.results3, go_sem, rREC, rR, hset_map, hset_nb, hpush_map, hpush_nb, bne_self_eq_false, m02, m12]
    refine (Tryz.toScoring_n W b hW).callN (fun _ _ => by simp only [shift, shiftL]) 1 (viewL_cons_of view_sS viewL_nil_of) ?_
    rintro ob2 e2 cs2 H3 hl2 hN2 hlo2 hnb2 hlow2
    simp only [hset_nb, hpush_nb] at hlo2 hnb2
    have m03 : H3.map 0 = some ⟨[.row Q.length false (rules Q)], true⟩ := by
      rw [hlow2 0 (by first | omega | (simp only [hset_nb, hpush_nb]; omega) | (simp only [hp]; omega))]
      first | exact m02 | (simp (disch := omega) only [hset_map, hpush_map, hset_nb, hpush_nb, if_pos, if_neg, ↓reduceIte]; done) | (simp (disch := omega) only [hset_map, hpush_map, hset_nb, hpush_nb, if_pos, if_neg, ↓reduceIte]; exact m02) | rfl
    have m13 : H3.map 1 = some ⟨[.row W.length false (ints W), .val (.int .i64 b)], true⟩ := by
      rw [hlow2 1 (by first | omega | (simp only [hset_nb, hpush_nb]; omega) | (simp only [hp]; omega))]
      first | exact m12 | (simp (disch := omega) only [hset_map, hpush_map, hset_nb, hpush_nb, if_pos, if_neg, ↓reduceIte]; done) | (simp (disch := omega) only [hset_map, hpush_map, hset_nb, hpush_nb, if_pos, if_neg, ↓reduceIte]; exact m12) | rfl
    have p13 : H3.map H2.nb = some ⟨[.own ob1 0 Q.length Q.length 1 e1], true⟩ := by
      rw [hlow2 H2.nb (by first | omega | (simp only [hset_nb, hpush_nb]; omega) | (simp only [hp]; omega))]
      first | exact rfl | (simp (disch := omega) only [hset_map, hpush_map, hset_nb, hpush_nb, if_pos, if_neg, ↓reduceIte]; done) | (simp (disch := omega) only [hset_map, hpush_map, hset_nb, hpush_nb, if_pos, if_neg, ↓reduceIte]; exact rfl) | rfl
    have hob2 := hN2.lt
    have hl23 : ∀ x, x < H2.nb → H3.map x = H2.map x := fun x hx => by
      rw [hlow2 x (by first | omega | (simp only [hset_nb, hpush_nb]; omega))]
      simp (disch := omega) only [hset_map, hpush_map, hset_nb, hpush_nb, if_pos, if_neg, ↓reduceIte]
    simp (disch := omega) only [Tryz.ntmps3, Tryz.results3, go_sem, rREC, rR, hset_map, hset_nb, hpush_map, hpush_nb, bne_self_eq_false, m03, m13, p13]
    have u0 := fun e cap => hN0.viewF (H1 := (H3.push ⟨[.val (.slice none 0 0), .val (.int .i64 0)], true⟩).set H3.nb (some ⟨[.own ob2 0 W.length W.length 1 e2, .val (.int .i64 b)], true⟩)) (cap := cap) (e := e) hl0 (fun x h1 h2 => by simp (disch := omega) only [hset_map, hpush_map, hset_nb, hpush_nb, if_pos, if_neg, ↓reduceIte]; rw [hl23 x (by omega), hlow1 x h2])
    have u1 := fun e cap => hN1.viewF (H1 := (H3.push ⟨[.val (.slice none 0 0), .val (.int .i64 0)], true⟩).set H3.nb (some ⟨[.own ob2 0 W.length W.length 1 e2, .val (.int .i64 b)], true⟩)) (cap := cap) (e := e) hl1 (fun x h1 h2 => by simp (disch := omega) only [hset_map, hpush_map, hset_nb, hpush_nb, if_pos, if_neg, ↓reduceIte]; rw [hl23 x (by omega)])
    have u2 := fun e cap => hN2.viewF (H1 := (H3.push ⟨[.val (.slice none 0 0), .val (.int .i64 0)], true⟩).set H3.nb (some ⟨[.own ob2 0 W.length W.length 1 e2, .val (.int .i64 b)], true⟩)) (cap := cap) (e := e) hl2 (fun x h1 h2 => by simp (disch := omega) only [hset_map, hpush_map, hset_nb, hpush_nb, if_pos, if_neg, ↓reduceIte])
    refine wN.callValG 4 (viewL_cons_of (u0 _ _) (viewL_cons_of (view_agg (viewL_cons_of (u1 _ _) viewL_nil_of)) (viewL_cons_of (view_agg (viewL_cons_of (u2 _ _) (viewL_cons_of view_int viewL_nil_of))) viewL_nil_of))) ?_
    rintro H4 hg hlow4
    simp only [hset_nb, hpush_nb, mi_length] at hg
    have m04 : H4.map 0 = some ⟨[.row Q.length false (rules Q)], true⟩ := by
      rw [hlow4 0 (by first | omega | (simp only [hset_nb, hpush_nb]; omega) | (simp only [hp]; omega))]
      first | exact m03 | (simp (disch := omega) only [hset_map, hpush_map, hset_nb, hpush_nb, if_pos, if_neg, ↓reduceIte]; done) | (simp (disch := omega) only [hset_map, hpush_map, hset_nb, hpush_nb, if_pos, if_neg, ↓reduceIte]; exact m03) | rfl
    have m14 : H4.map 1 = some ⟨[.row W.length false (ints W), .val (.int .i64 b)], true⟩ := by
      rw [hlow4 1 (by first | omega | (simp only [hset_nb, hpush_nb]; omega) | (simp only [hp]; omega))]
      first | exact m13 | (simp (disch := omega) only [hset_map, hpush_map, hset_nb, hpush_nb, if_pos, if_neg, ↓reduceIte]; done) | (simp (disch := omega) only [hset_map, hpush_map, hset_nb, hpush_nb, if_pos, if_neg, ↓reduceIte]; exact m13) | rfl
    have p14 : H4.map H2.nb = some ⟨[.own ob1 0 Q.length Q.length 1 e1], true⟩ := by
      rw [hlow4 H2.nb (by first | omega | (simp only [hset_nb, hpush_nb]; omega) | (simp only [hp]; omega))]
      first | exact p13 | (simp (disch := omega) only [hset_map, hpush_map, hset_nb, hpush_nb, if_pos, if_neg, ↓reduceIte]; done) | (simp (disch := omega) only [hset_map, hpush_map, hset_nb, hpush_nb, if_pos, if_neg, ↓reduceIte]; exact p13) | rfl
    have q14 : H4.map H3.nb = some ⟨[.own ob2 0 W.length W.length 1 e2, .val (.int .i64 b)], true⟩ := by
      rw [hlow4 H3.nb (by first | omega | (simp only [hset_nb, hpush_nb]; omega) | (simp only [hp]; omega))]
      first | exact rfl | (simp (disch := omega) only [hset_map, hpush_map, hset_nb, hpush_nb, if_pos, if_neg, ↓reduceIte]; done) | (simp (disch := omega) only [hset_map, hpush_map, hset_nb, hpush_nb, if_pos, if_neg, ↓reduceIte]; exact rfl) | rfl
    have hl4 : ∀ x, x < H3.nb → H4.map x = H3.map x := fun x hx => by
      rw [hlow4 x (by first | omega | (simp only [hset_nb, hpush_nb]; omega))]
      simp (disch := omega) only [hset_map, hpush_map, hset_nb, hpush_nb, if_pos, if_neg, ↓reduceIte]
    clear u0 u1 u2 hlow0 hlow2 hlow4
    have v0 := fun e cap => hN0.viewF (H1 := H4) (cap := cap) (e := e) hl0 (fun x h1 h2 => by rw [hl4 x (by omega), hl23 x (by omega), hlow1 x h2])
    have v1 := fun e cap => hN1.viewF (H1 := H4) (cap := cap) (e := e) hl1 (fun x h1 h2 => by rw [hl4 x (by omega), hl23 x (by omega)])
    have v2 := fun e cap => hN2.viewF (H1 := H4) (cap := cap) (e := e) hl2 (fun x h1 h2 => by rw [hl4 x h2])
    simp (disch := omega) only [Tryz.ntmps3, Tryz.results3, go_sem, rREC, rR, hset_map, hset_nb, hpush_map, hpush_nb, bne_self_eq_false, m04, m14, p14, q14]
    refine (Tryz.eqIntSS_ok [] [] (by simp) (by simp) (by simp) (by simp)).callV 2 (viewL_cons_of view_nilM (viewL_cons_of view_row viewL_nil_of)) ?_
    simp (disch := omega) only [Tryz.ntmps3, Tryz.results3, go_sem, rREC, rR, hset_map, hset_nb, hpush_map, hpush_nb, bne_self_eq_false, m04, m14, p14, q14]
    refine tR.callV 0 (viewL_cons_of view_row viewL_nil_of) ?_
    simp (disch := omega) only [Tryz.ntmps3, Tryz.results3, go_sem, rREC, rR, hset_map, hset_nb, hpush_map, hpush_nb, bne_self_eq_false, m04, m14, p14, q14]
    refine eR.callV 4 (viewL_cons_of (v0 _ _) (viewL_cons_of view_row viewL_nil_of)) ?_
    simp (disch := omega) only [Tryz.ntmps3, Tryz.results3, go_sem, rREC, rR, hset_map, hset_nb, hpush_map, hpush_nb, bne_self_eq_false, m04, m14, p14, q14]
    refine tQ.callDV 1 (viewL_cons_of view_rule viewL_nil_of) ?_
    simp (disch := omega) only [Tryz.ntmps3, Tryz.results3, go_sem, rREC, rR, hset_map, hset_nb, hpush_map, hpush_nb, bne_self_eq_false, m04, m14, p14, q14]
    refine eQ.callDV 4 (viewL_cons_of (view_agg (viewL_cons_of (v1 _ _) viewL_nil_of)) (viewL_cons_of view_rule viewL_nil_of)) ?_
    simp (disch := omega) only [Tryz.ntmps3, Tryz.results3, go_sem, rREC, rR, hset_map, hset_nb, hpush_map, hpush_nb, bne_self_eq_false, m04, m14, p14, q14]
    refine tS.callDV 1 (viewL_cons_of view_sS viewL_nil_of) ?_
    simp (disch := omega) only [Tryz.ntmps3, Tryz.results3, go_sem, rREC, rR, hset_map, hset_nb, hpush_map, hpush_nb, bne_self_eq_false, m04, m14, p14, q14]
    refine eS.callDV 4 (viewL_cons_of (view_agg (viewL_cons_of (v2 _ _) (viewL_cons_of view_int viewL_nil_of))) (viewL_cons_of view_sS viewL_nil_of)) ?_
    simp (disch := omega) only [Tryz.ntmps3, Tryz.results3, go_sem, rREC, rR, hset_map, hset_nb, hpush_map, hpush_nb, bne_self_eq_false, m04, m14, p14, q14]
    have hS0 := (hN0.shape (z := 1) (fo := 3) (m := fun i => (gR R i).2.2.2.length) hl0 (by omega) (fun i hi => ⟨_, recs_fld hi, by rw [strs_length, Nat.mul_one]⟩)).fr (H1 := H4) hob0 (fun x h1 h2 => by rw [hl4 x (by omega), hl23 x (by omega), hlow1 x h2])
    refine (Tryz.markRecordS_ok H4 ob0 H1.nb R.length _ 1 _ cs0 _ e0 hS0 hob0 (by omega) hgm (by omega)).callX ?_
    rintro r H5 ⟨rfl, hnb5, hf5⟩
    have m05 : H5.map 0 = some ⟨[.row Q.length false (rules Q)], true⟩ := by rw [hf5 0 (by omega), m04]
    have m15 : H5.map 1 = some ⟨[.row W.length false (ints W), .val (.int .i64 b)], true⟩ := by rw [hf5 1 (by omega), m14]
    have p15 : H5.map H2.nb = some ⟨[.own ob1 0 Q.length Q.length 1 e1], true⟩ := by rw [hf5 H2.nb (by omega), p14]
    have q15 : H5.map H3.nb = some ⟨[.own ob2 0 W.length W.length 1 e2, .val (.int .i64 b)], true⟩ := by rw [hf5 H3.nb (by omega), q14]
    simp (disch := omega) only [Tryz.ntmps3, Tryz.results3, go_sem, rREC, rR, hset_map, hset_nb, hpush_map, hpush_nb, bne_self_eq_false, m05, m15, p15, q15]
    have hl5 : ∀ x, H1.nb ≤ x → x < H3.nb → H5.map x = H3.map x := fun x h1 h2 => by rw [hf5 x (by omega), hl4 x h2]
    have hS1 := (hN1.shape (z := 3) (fo := 0) (m := fun i => (rg Q i).length) hl1 (by omega) (fun i hi => ⟨_, by rw [Nat.mul_one, Nat.add_zero]; exact rules_get hi, cons_length _⟩)).fr (H1 := H5) hob1 (fun x h1 h2 => by rw [hl5 x (by omega) (by omega), hl23 x (by omega)])
    refine (Tryz.markRuleSet_ok H5 ob1 H2.nb Q.length _ (1 + 3 * R.length + gs (fun i => (gR R i).2.2.2.length) R.length) _ cs1 _ e1 hS1 (by omega) (by omega) (by omega) hgq (by omega)).callX ?_
    rintro r H6 ⟨rfl, hnb6, hf6⟩
    have m06 : H6.map 0 = some ⟨[.row Q.length false (rules Q)], true⟩ := by rw [hf6 0 (by omega) (by omega), m05]
    have m16 : H6.map 1 = some ⟨[.row W.length false (ints W), .val (.int .i64 b)], true⟩ := by rw [hf6 1 (by omega) (by omega), m15]
    have p16 : H6.map H2.nb = some ⟨[.own ob1 0 Q.length Q.length 1 e1], true⟩ := by rw [hf6 H2.nb (by omega) (by omega), p15]
    have q16 : H6.map H3.nb = some ⟨[.own ob2 0 W.length W.length 1 e2, .val (.int .i64 b)], true⟩ := by rw [hf6 H3.nb (by omega) (by omega), q15]
    simp (disch := omega) only [Tryz.ntmps3, Tryz.results3, go_sem, rREC, rR, hset_map, hset_nb, hpush_map, hpush_nb, bne_self_eq_false, m06, m16, p16, q16]
    have hW2 : H6.map ob2 = some ⟨ints W, e2⟩ := by rw [hf6 ob2 (by omega) (by omega), hl5 ob2 (by omega) (by omega), hN2.o, viewL_ints_inv (hN2.vw H3 fun _ _ _ => rfl)]
    refine (Tryz.markScoring_ok H6 ob2 _ (1 + 3 * R.length + gs (fun i => (gR R i).2.2.2.length) R.length + 3 * gs (fun i => (rg Q i).length) Q.length) W b _ e2 hW2 (by omega) (by omega) (by omega)).callX ?_
    rintro r H7 ⟨rfl, hnb7, hf7⟩
    have m07 : H7.map 0 = some ⟨[.row Q.length false (rules Q)], true⟩ := by rw [hf7 0 (by omega) (by omega), m06]
    have m17 : H7.map 1 = some ⟨[.row W.length false (ints W), .val (.int .i64 b)], true⟩ := by rw [hf7 1 (by omega) (by omega), m16]
    have p17 : H7.map H2.nb = some ⟨[.own ob1 0 Q.length Q.length 1 e1], true⟩ := by rw [hf7 H2.nb (by omega) (by omega), p16]
    have q17 : H7.map H3.nb = some ⟨[.own ob2 0 W.length W.length 1 e2, .val (.int .i64 b)], true⟩ := by rw [hf7 H3.nb (by omega) (by omega), q16]
    clear hS0 hS1 hW2 v0 v1 v2 hl4 hl5 hf5 hf6 hf7 hN0 hN1 hN2 hl23 hlow1
    simp (disch := omega) only [Tryz.ntmps3, Tryz.results3, go_sem, rREC, rR, hset_map, hset_nb, hpush_map, hpush_nb, bne_self_eq_false, m07, m17, p17, q17]
    refine (Tryz.eqIntSS_ok [] [] (by simp) (by simp) (by simp) (by simp)).callV 2 (viewL_cons_of view_nilM (viewL_cons_of view_row viewL_nil_of)) ?_
    simp (disch := omega) only [Tryz.ntmps3, Tryz.results3, go_sem, rREC, rR, hset_map, hset_nb, hpush_map, hpush_nb, bne_self_eq_false, m07, m17, p17, q17]
    refine (Tryz.markIntSS_nil 1 H7 (by omega) (by omega)).callX ?_
    rintro r H8 ⟨rfl, rfl⟩
    simp (disch := omega) only [Tryz.ntmps3, Tryz.results3, go_sem, rREC, rR, hset_map, hset_nb, hpush_map, hpush_nb, bne_self_eq_false, m07, m17, p17, q17, hheld]
    refine (Tryz.heldIntSS_marks [] 1 (by simp) (by simp) (by omega) (by simp [msum])).callV 2 (viewL_cons_of view_nilM (viewL_cons_of view_int viewL_nil_of)) ?_
    simp (disch := omega) only [Tryz.ntmps3, Tryz.results3, go_sem, rREC, rR, hset_map, hset_nb, hpush_map, hpush_nb, bne_self_eq_false, m07, m17, p17, q17, hheld]
    refine tR.callDV 0 (viewL_cons_of view_row viewL_nil_of) ?_
    simp (disch := omega) only [Tryz.ntmps3, Tryz.results3, go_sem, rREC, rR, hset_map, hset_nb, hpush_map, hpush_nb, bne_self_eq_false, m07, m17, p17, q17, hheld]
    refine tQ.callDV 1 (viewL_cons_of view_rule viewL_nil_of) ?_
    simp (disch := omega) only [Tryz.ntmps3, Tryz.results3, go_sem, rREC, rR, hset_map, hset_nb, hpush_map, hpush_nb, bne_self_eq_false, m07, m17, p17, q17, hheld]
    refine tS.callDV 1 (viewL_cons_of view_sS viewL_nil_of) ?_
    simp (disch := omega) only [Tryz.ntmps3, Tryz.results3, go_sem, rREC, rR, hset_map, hset_nb, hpush_map, hpush_nb, bne_self_eq_false, m07, m17, p17, q17, hheld]
    refine wI.callDV 1 (viewL_cons_of view_row (viewL_cons_of view_rule (viewL_cons_of view_sS viewL_nil_of))) ?_
    simp (disch := omega) only [Tryz.ntmps3, Tryz.results3, go_sem, rREC, rR, hset_map, hset_nb, hpush_map, hpush_nb, bne_self_eq_false, m07, m17, p17, q17, hheld]
    refine (Tryz.eqIntSS_ok [] [] (by simp) (by simp) (by simp) (by simp)).callV 2 (viewL_cons_of view_row (viewL_cons_of view_row viewL_nil_of)) ?_
    simp (disch := omega) only [Tryz.ntmps3, Tryz.results3, go_sem, rREC, rR, hset_map, hset_nb, hpush_map, hpush_nb, bne_self_eq_false, m07, m17, p17, q17, hheld]
    refine (Tryz.heldIntSS_marks [] 1 (by simp) (by simp) (by omega) (by simp [msum])).callV 2 (viewL_cons_of view_nilM (viewL_cons_of view_int viewL_nil_of)) ?_
    simp (disch := omega) only [Tryz.ntmps3, Tryz.results3, go_sem, rREC, rR, hset_map, hset_nb, hpush_map, hpush_nb, bne_self_eq_false, m07, m17, p17, q17, hheld]
    exact Fin.val rfl
end Go.Sh

/-
  From the row's condition to the two sentinels of strconv.
-/
namespace Go.Sh
set_option linter.unusedSimpArgs false
set_option linter.unusedVariables false
open Go Go.Proofs

theorem iface_of_trod {H : Type} {enc : TypeId × Value → H} {P : Program} {w : World} {base : Nat} {sp : Nat → Bool} {held : Bool} {fuel : Nat} {t : TypeId} {ms : Array (String × TypeId)} {cs : List Value} {d : DataW H} {p : List MemPlace} (hu : P.underlying t = some (.interface ms))
    (h : DataW.trod enc P w base sp held fuel t cs = some (d, p)) : ∃ v, cs = [v] ∧ ErrV v := by
  cases fuel with
  | zero => simp [DataW.trod] at h
  | succ fuel =>
    rcases cs with _ | ⟨v, _ | ⟨v2, r⟩⟩
    · simp [DataW.trod, hu] at h
    · cases v <;> first | exact ⟨_, rfl, .inl rfl⟩ | exact ⟨_, rfl, .inr ⟨_, _, rfl⟩⟩ | simp [DataW.trod, hu] at h
    · simp [DataW.trod, hu] at h
theorem Tryz.errSG : Tryz.prog.globalNamed "strconv.ErrSyntax" = some 2 := by kernel_rfl
theorem Tryz.errRG : Tryz.prog.globalNamed "strconv.ErrRange" = some 3 := by kernel_rfl
theorem Tryz.ifu : ∃ ms, Tryz.prog.underlying 164 = some (.interface ms) := isIface_t Tryz.ty.if164
theorem Tryz.errOf {W : World} {n : String} {d : DataW Unit} {g : Nat} (hg : Tryz.prog.globalNamed n = some g) (ht : (Tryz.prog.globals[g]?).map (·.type) = some 164) (h : Lib.VarReads Tryz.prog W n d) :
    (∃ (c : Array Value) (e : TypeId) (fr : Nat × Nat), W.heap[g]? = some (.cells c e fr) ∧ c.size = 1) ∧ ∃ v, W.cell? ⟨g, 0, none⟩ = some v ∧ ErrV v := by
  obtain ⟨g', t, cs, fuel, p, e1, e2, e3, e4⟩ := h
  obtain rfl := Option.some.inj (hg.symm.trans e1)
  obtain rfl := Option.some.inj (ht.symm.trans e2)
  obtain ⟨ms, hu⟩ := Tryz.ifu
  obtain ⟨v, hc, hv⟩ := iface_of_trod hu e4
  have hsz : cs.size = 1 := by
    have := congrArg List.length hc
    simpa using this
  have e5 := e3
  simp only [World.var?, hg, Option.bind_some] at e3
  split at e3
  · rename_i cs' e fr hh
    obtain rfl := Option.some.inj e3
    refine ⟨⟨_, _, _, hh, hsz⟩, v, ?_, hv⟩
    rw [World.var?_cell hg e5 0, ← Array.getElem?_toList, hc]; rfl
  · cases e3
end Go.Sh

/-
  From the row's condition and the world's shape to all the tables that the laws of weights read.
-/
namespace Go.Sh
set_option linter.unusedSimpArgs false
set_option linter.unusedVariables false
open Go Go.Proofs

theorem Tryz.codesG : Tryz.prog.globalNamed "loop.example/g01923/impl.soundCodes" = some 0 := by kernel_rfl
theorem Tryz.codesOf {W : World} (h : Lib.VarReads Tryz.prog W "loop.example/g01923/impl.soundCodes" Go.Proofs.YtihglnbaoadmcaaGreatDoor.Rows.laid_loop_example_g01923_impl_soundCodes) :
    (∃ (c : Array Value) (e : TypeId) (fr : Nat × Nat), W.heap[0]? = some (.cells c e fr) ∧ c.size = 26) ∧ ∀ i x, scTab[i]? = some x → W.cell? ⟨0, i, none⟩ = some (.int .i64 x) := by
  obtain ⟨g, t, cs, fuel, p, e1, e2, e3, e4⟩ := h
  obtain rfl := Option.some.inj (Tryz.codesG.symm.trans e1)
  obtain rfl := Option.some.inj ((show (Tryz.prog.globals[0]?).map (·.type) = some 202 by kernel_rfl).symm.trans e2)
  have hd : (Go.Proofs.YtihglnbaoadmcaaGreatDoor.Rows.laid_loop_example_g01923_impl_soundCodes : DataW Unit) = Lib.tabData .i64 scTab := by kernel_rfl
  rw [hd] at e4
  have hc := Lib.cells_of_tab Tryz.underlying202 Tryz.underlying3 (by kernel_rfl) (by kernel_rfl) e4
  have hsz : cs.size = 26 := by
    have := congrArg List.length hc
    simpa [scTab] using this
  have e5 := e3
  simp only [World.var?, Tryz.codesG, Option.bind_some] at e3
  split at e3
  · rename_i cs' e fr hh
    obtain rfl := Option.some.inj e3
    refine ⟨⟨_, _, _, hh, hsz⟩, fun i x hx => ?_⟩
    rw [World.var?_cell Tryz.codesG e5 i, ← Array.getElem?_toList, hc]
    simp [hx]
  · cases e3
theorem Tryz.maxLenOf {W : World} (h : W.ShapedOpen Tryz.prog) : (∃ (c : Array Value) (e : TypeId) (fr : Nat × Nat), W.heap[1]? = some (.cells c e fr) ∧ c.size = 1) ∧ ∃ m, W.cell? ⟨1, 0, none⟩ = some (.int .i64 m) := by
  refine ⟨?_, cell_of_shapedOpen_int (zero := #[.int .i64 0]) (t := 3) h (of_decide_eq_true (by kernel_rfl)) (by kernel_rfl) rfl (by kernel_rfl) (by kernel_rfl) Tryz.underlying3⟩
  obtain ⟨cs, h1, h2, _⟩ := h.1 1 #[.int .i64 0] 3 (of_decide_eq_true (by kernel_rfl)) (by kernel_rfl)
  exact ⟨cs, _, _, h1, h2⟩
theorem Tryz.tabOkC {W : World} {l : List (String × DataW Unit)} (hsh : W.ShapedOpen Tryz.prog) (h : laidMetH Tryz.prog l W) (hp : (l.all fun x => x.2.handleName?.isNone) = true) (hm : ("internal/strconv.uint64pow10", Go.Proofs.YtihglnbaoadmcaaGreatDoor.Rows.laid_internal_strconv_uint64pow10) ∈ l)
    (hes : ("strconv.ErrSyntax", Go.Proofs.YtihglnbaoadmcaaGreatDoor.Rows.laid_strconv_ErrSyntax) ∈ l) (her : ("strconv.ErrRange", Go.Proofs.YtihglnbaoadmcaaGreatDoor.Rows.laid_strconv_ErrRange) ∈ l)
    (hfn : ("loop.example/g01923/impl.soundCodes", Go.Proofs.YtihglnbaoadmcaaGreatDoor.Rows.laid_loop_example_g01923_impl_soundCodes) ∈ l) : TabOk (fun _ => False) W := by
  rw [MakeChecks.laidMetH_plain _ _ _ hp] at h
  have hs := Tryz.errOf Tryz.errSG (by kernel_rfl) (Lib.laidMet.reads h hes)
  have hr := Tryz.errOf Tryz.errRG (by kernel_rfl) (Lib.laidMet.reads h her)
  have hn := Tryz.codesOf (Lib.laidMet.reads h hfn)
  have hx := Tryz.maxLenOf hsh
  obtain ⟨g, t, cs, fuel, p, e1, e2, e3, e4⟩ := Lib.laidMet.reads h hm
  obtain rfl := Option.some.inj (Tryz.powG.symm.trans e1)
  obtain rfl := Option.some.inj ((show (Tryz.prog.globals[6]?).map (·.type) = some 255 by kernel_rfl).symm.trans e2)
  have hd : (Go.Proofs.YtihglnbaoadmcaaGreatDoor.Rows.laid_internal_strconv_uint64pow10 : DataW Unit) = Lib.tabData .u64 Lib.pow10Tab := by kernel_rfl
  rw [hd] at e4
  have hc := Lib.cells_of_tab Tryz.underlying255 Tryz.underlying231 (by kernel_rfl) (by kernel_rfl) e4
  have hsz : cs.size = 20 := by
    have := congrArg List.length hc
    simpa [Lib.pow10Tab] using this
  have e5 := e3
  simp only [World.var?, Tryz.powG, Option.bind_some] at e3
  split at e3
  · rename_i cs' e fr hh
    obtain rfl := Option.some.inj e3
    intro p hp
    simp only [TABS, List.mem_cons, List.not_mem_nil, or_false] at hp
    rcases hp with rfl | rfl | rfl | rfl | rfl
    · refine ⟨⟨_, _, _, hh, by simpa using hsz⟩, fun i Q hq => ?_⟩
      simp only [List.getElem?_map, Option.map_eq_some_iff] at hq
      obtain ⟨k, hk, rfl⟩ := hq
      have hi : i < 20 := by
        have := (List.getElem?_eq_some_iff.1 hk).1
        simpa using this
      obtain rfl : i = k := by simpa [hi] using hk
      refine ⟨_, ?_, rfl, fun h => h⟩
      rw [World.var?_cell Tryz.powG e5 i, ← Array.getElem?_toList, hc]
      simp [Lib.pow10Tab, hi]
    · obtain ⟨⟨c, e, fr, h1, h2⟩, v, h3, h4⟩ := hs
      refine ⟨⟨c, e, fr, h1, h2⟩, fun i Q hq => ?_⟩
      cases i with
      | zero => simp only [List.getElem?_cons_zero, Option.some.injEq] at hq; subst hq; exact ⟨v, h3, h4, fun h => h⟩
      | succ i => simp at hq
    · obtain ⟨⟨c, e, fr, h1, h2⟩, v, h3, h4⟩ := hr
      refine ⟨⟨c, e, fr, h1, h2⟩, fun i Q hq => ?_⟩
      cases i with
      | zero => simp only [List.getElem?_cons_zero, Option.some.injEq] at hq; subst hq; exact ⟨v, h3, h4, fun h => h⟩
      | succ i => simp at hq
    · obtain ⟨⟨c, e, fr, h1, h2⟩, m, h3⟩ := hx
      refine ⟨⟨c, e, fr, h1, h2⟩, fun i Q hq => ?_⟩
      cases i with
      | zero => simp only [List.getElem?_cons_zero, Option.some.injEq] at hq; subst hq; exact ⟨_, h3, ⟨m, rfl⟩, fun h => h⟩
      | succ i => simp at hq
    · obtain ⟨⟨c, e, fr, h1, h2⟩, h3⟩ := hn
      refine ⟨⟨c, e, fr, h1, h2⟩, fun i Q hq => ?_⟩
      have hq2 : (scTab.map fun c => fun (v : Value) => v = Value.int .i64 c)[i]? = some Q := by
        rw [← hq]; rfl
      simp only [List.getElem?_map, Option.map_eq_some_iff] at hq2
      obtain ⟨x, hx2, rfl⟩ := hq2
      exact ⟨_, h3 i x hx2, rfl, fun h => h⟩
  · cases e3
section
variable {H : Type} {enc : TypeId × Value → H}
/-- The kit's way from a contract to a row's claim, with the shape of the world that is entered. -/
theorem retShaped {a : Assume} {C : Checked} {os : Os} {f : FuncId} {fn : Func} {s : ChangeSpec} {conds : List PathCond} {apart fresh handsOn again : Bool} {X : World → Array Value → Prop}
    (hX : ∀ (w w' : World) (args : Array Value), w.heap = w'.heap → X w args → X w' args)
    (own : ownKnob C.prog.godebug = none) (started : os.Started) (noInit : C.prog.inits.idxOf? f = none) (hfn : C.prog.funcs[f]? = some fn)
    (witness : ∃ (w : World) (tape : Tape) (i : Input), w.os = os ∧ (w.forCall tape i).Shaped C.prog ∧ i.vars = [] ∧ Input.okWide C.prog (w.forCall tape i) .any w.heap.size f i ∧
      ((s.pre enc C.prog fn conds apart (w.forCall tape i).memory i.args ∧ X (w.forCall tape i).memory i.args) ∧ sizedMet enc C.prog fn (OpenSpec.ofChange s) apart (w.forCall tape i).memory i.args) ∧ a.holds C.prog (lone (Frame.enter C.prog f i.args .normal) [] (w.forCall tape i)))
    (contract : ∀ (W : World) (base : Nat) (args : Array Value) (ds gs : List (DataW H)) (before : List MemPlace), W.ShapedOpen C.prog →
      (∀ (j : Nat) t v, fn.params[j]? = some t → args[j]? = some v → Value.okWide C.prog W .any base t v) →
      DataW.Whole enc C.prog fn.params.toList s.vars apart W args.toList ds gs before → X W args →
      Calls C.prog f args W fun e W' => ∃ v, e = .returned v ∧ s.post enc C.prog fn apart fresh handsOn again W args v W') :
    ReturnsInHanded a C os f .any (fun w args => (s.pre enc C.prog fn conds apart w args ∧ X w args) ∧ sizedMet enc C.prog fn (OpenSpec.ofChange s) apart w args) (s.post enc C.prog fn apart fresh handsOn again) := by
  refine returnsInHanded_of_calls own started noInit witness ?_
  intro w tape i _ hso _ hok hpre _
  obtain ⟨_, _, _, fn', hfn', _, _, _, _, hval⟩ := hok
  obtain rfl : fn' = fn := Option.some.inj (hfn'.symm.trans hfn)
  obtain ⟨⟨⟨ds, gs, before, hw, _⟩, hx⟩, _⟩ := hpre
  refine (contract (w.forCall tape i) w.heap.size i.args ds gs before hso hval (DataW.Whole.of_heap (w' := w.forCall tape i) (by rfl) hw) (hX _ _ _ (by rfl) hx)).mono fun e W' ⟨v, he, hp⟩ => ?_
  subst he
  exact ChangeSpec.post_blind hp
end
end Go.Sh

/-
  From the values that came in to the shadow's: sets of rules, scorings.
-/
namespace Go.Sh
set_option linter.unusedSimpArgs false
set_option linter.unusedVariables false
open Go Go.RowKit
open Go.ChangeShapes Go.WideShapes

section
variable {Hh : Type} {enc : TypeId × Value → Hh} {P : Program} {w : World} {held : Bool}
theorem cell_rules {t e q : TypeId} {g0 f0 f1 f2 : Field} {fuel : Nat} {v : Value} {x : DataW Hh × List MemPlace} (ht : P.underlying t = some (.slice e)) (he : P.underlying e = some (.struct #[g0])) (ce : P.cellsOf e = 1) (og : g0.offset = 0) (ug : P.underlying g0.type = some (.slice q)) (cg : P.cellsOf g0.type = 1)
    (hq : P.underlying q = some (.struct #[f0, f1, f2])) (cq : P.cellsOf q = 3)
    (o0 : f0.offset = 0) (o1 : f1.offset = 1) (o2 : f2.offset = 2) (u0 : P.underlying f0.type = some (.int .i64)) (u1 : P.underlying f1.type = some (.int .i64)) (u2 : P.underlying f2.type = some .bool) (c0 : P.cellsOf f0.type = 1) (c1 : P.cellsOf f1.type = 1) (c2 : P.cellsOf f2.type = 1)
    (h : DataW.trod enc P w 0 (fun _ => true) held fuel t [v] = some x) : ∃ R : List (List Con), VRel (fun _ => False) w noj (rR R) v ∧ (∀ i, i < R.length → (rg R i).length ≤ maxLen) ∧ R.length ≤ maxLen := by
  rcases Deep.open_slice1 ht ce h with ⟨hcs, _⟩ | ⟨a, len, cap, m, n, V, D, Pl, hcs, hb, hl, hm, hmm, _, hx⟩
  · simp at hcs
    subst hcs
    refine ⟨[], ?_, by simp, by simp⟩
    simp only [rR, VRel]
    exact ⟨none, 0, rfl, Nat.le_refl _, by simp, .inl (by simp [rules])⟩
  · simp at hcs
    subst hcs
    simp only [if_true] at hmm
    subst hmm
    obtain ⟨L, hL⟩ := Deep.choose_lt (α := List Con) (p := fun i T => VRel (fun _ => False) w noj (rc T) (V i) ∧ T.length ≤ maxLen) (fun i hi => by
      obtain ⟨xs, k, hk, hxy, _, hxl, hf⟩ := DataW.trod_struct he (hx i hi).2
      match xs, hxl with
      | [y0], _ =>
        have g := hf 0 g0 rfl
        simp [og, cg] at g
        obtain ⟨C, h1, _, h3⟩ := cell_cons ug hq cq o0 o1 o2 u0 u1 u2 c0 c1 c2 g
        exact ⟨C, h1, h3⟩)
    refine ⟨(List.range len).map L, ?_, ?_, by simp; omega⟩
    · simp only [rR, VRel]
      refine ⟨some a, m, by simp, by simpa using hl, by simp, .inr ⟨a, rfl, crel_fn (fun i s hi => ?_)⟩⟩
      simp only [rules, List.map_map, List.getElem?_map, Option.map_eq_some_iff] at hi
      obtain ⟨k, hk, rfl⟩ := hi
      have hi : i < len := by
        have := (List.getElem?_eq_some_iff.1 hk).1
        simpa using this
      obtain rfl : i = k := by simpa [hi] using hk
      exact ⟨V i, (hx i (by omega)).1, (hL i (by omega)).1⟩
    · intro i hi
      simp at hi
      simp [rg, hi]
      exact (hL i (by omega)).2
theorem cell_rset {s e q : TypeId} {r0 g0 f0 f1 f2 : Field} {fuel : Nat} {cs : List Value} {x : DataW Hh × List MemPlace} (hs : P.underlying s = some (.struct #[r0])) (hlen : cs.length = 1) (or : r0.offset = 0) (ht : P.underlying r0.type = some (.slice e)) (cr : P.cellsOf r0.type = 1)
    (he : P.underlying e = some (.struct #[g0])) (ce : P.cellsOf e = 1) (og : g0.offset = 0) (ug : P.underlying g0.type = some (.slice q)) (cg : P.cellsOf g0.type = 1)
    (hq : P.underlying q = some (.struct #[f0, f1, f2])) (cq : P.cellsOf q = 3)
    (o0 : f0.offset = 0) (o1 : f1.offset = 1) (o2 : f2.offset = 2) (u0 : P.underlying f0.type = some (.int .i64)) (u1 : P.underlying f1.type = some (.int .i64)) (u2 : P.underlying f2.type = some .bool) (c0 : P.cellsOf f0.type = 1) (c1 : P.cellsOf f1.type = 1) (c2 : P.cellsOf f2.type = 1)
    (h : DataW.trod enc P w 0 (fun _ => true) held fuel s cs = some x) : ∃ R : List (List Con), LRel (fun _ => False) w noj [rR R] cs ∧ (∀ i, i < R.length → (rg R i).length ≤ maxLen) ∧ R.length ≤ maxLen := by
  obtain ⟨xs, k, hk, hxy, _, hxl, hf⟩ := DataW.trod_struct hs h
  match xs, hxl, cs, hlen with
  | [y0], _, [v0], _ =>
    have g := hf 0 r0 rfl
    simp [or, cr] at g
    obtain ⟨R, h1, h2⟩ := cell_rules ht he ce og ug cg hq cq o0 o1 o2 u0 u1 u2 c0 c1 c2 g
    refine ⟨R, ?_, h2⟩
    simp only [LRel]
    exact ⟨_, _, rfl, h1, rfl⟩
theorem cell_sco {s e : TypeId} {f0 f1 : Field} {fuel : Nat} {cs : List Value} {x : DataW Hh × List MemPlace} (hs : P.underlying s = some (.struct #[f0, f1])) (hlen : cs.length = 2)
    (o0 : f0.offset = 0) (o1 : f1.offset = 1) (u0 : P.underlying f0.type = some (.slice e)) (ue : P.underlying e = some (.int .i64)) (ce : P.cellsOf e = 1) (u1 : P.underlying f1.type = some (.int .i64)) (c0 : P.cellsOf f0.type = 1) (c1 : P.cellsOf f1.type = 1)
    (h : DataW.trod enc P w 0 (fun _ => true) held fuel s cs = some x) : ∃ (W : List Int) (b : Int), LRel (fun _ => False) w noj [ri W, .val (.int .i64 b)] cs ∧ (∀ n ∈ W, i64R n) ∧ W.length ≤ maxLen ∧ i64R b := by
  obtain ⟨xs, k, hk, hxy, _, hxl, hf⟩ := DataW.trod_struct hs h
  match xs, hxl, cs, hlen with
  | [y0, y1], _, [v0, v1], _ =>
    have g0 := hf 0 f0 rfl
    have g1 := hf 1 f1 rfl
    simp [o0, o1, c0, c1] at g0 g1
    obtain ⟨L, hL, hr, hlL⟩ := cell_ints u0 ue ce g0
    obtain ⟨n1, q1, _, w1⟩ := DataW.trod_int u1 g1
    simp at q1
    subst q1
    refine ⟨L, n1, ?_, hr, hlL, wf_i64 w1⟩
    simp only [LRel, VRel]
    exact ⟨_, _, rfl, hL, _, _, rfl, rfl, rfl⟩
end
end Go.Sh

/-
  From the values that came in to the shadow's: lists of records.
-/
namespace Go.Sh
set_option linter.unusedSimpArgs false
set_option linter.unusedVariables false
open Go Go.RowKit
open Go.ChangeShapes Go.WideShapes

section
variable {Hh : Type} {enc : TypeId × Value → Hh} {P : Program} {w : World} {held : Bool}
theorem sb_data2 (s : ByteArray) : sb s.data.toList = s := by cases s; simp [sb]
theorem cell_strs {t e : TypeId} {fuel : Nat} {v : Value} {x : DataW Hh × List MemPlace} (ht : P.underlying t = some (.slice e)) (he : P.underlying e = some .string) (ce : P.cellsOf e = 1)
    (h : DataW.trod enc P w 0 (fun _ => true) held fuel t [v] = some x) : ∃ L : List Wd, VRel (fun _ => False) w noj (rst L) v ∧ LFw L := by
  rcases Deep.open_slice1 ht ce h with ⟨hcs, _⟩ | ⟨a, len, cap, m, n, V, D, Pl, hcs, hb, hl, hm, hmm, _, hx⟩
  · simp at hcs
    subst hcs
    refine ⟨[], ?_, Nat.zero_le _, fun i hi => absurd hi (Nat.not_lt_zero _)⟩
    simp only [rst, VRel]
    exact ⟨none, 0, rfl, Nat.le_refl _, by simp, .inl (by simp [strs])⟩
  · simp at hcs
    subst hcs
    simp only [if_true] at hmm
    subst hmm
    obtain ⟨L, hL⟩ := Deep.choose_lt (α := Wd) (p := fun i l => V i = .string (sb l) ∧ l.length ≤ 9223372036854775807) (fun i hi => by
      obtain ⟨s, h1, _, h3⟩ := DataW.trod_string he (hx i hi).2
      simp at h1
      refine ⟨s.data.toList, by rw [h1, sb_data2], ?_⟩
      have : s.data.toList.length = s.size := Array.length_toList
      have hmx : maxLen ≤ 9223372036854775807 := by decide
      omega)
    have hmx : maxLen ≤ 9223372036854775807 := by decide
    refine ⟨(List.range len).map L, ?_, by rw [List.length_map, List.length_range]; omega, fun i hi => ?_⟩
    · simp only [rst, VRel]
      refine ⟨some a, m, by simp, by simpa using hl, by simp, .inr ⟨a, rfl, crel_fn (fun i s hi => ?_)⟩⟩
      simp only [strs, List.map_map, List.getElem?_map, Option.map_eq_some_iff] at hi
      obtain ⟨k, hk, rfl⟩ := hi
      have hi : i < len := by
        have := (List.getElem?_eq_some_iff.1 hk).1
        simpa using this
      obtain rfl : i = k := by simpa [hi] using hk
      refine ⟨V i, (hx i (by omega)).1, ?_⟩
      rw [(hL i (by omega)).1]
      simp only [Function.comp, VRel]
    · have hi' : i < len := by rw [List.length_map, List.length_range] at hi; exact hi
      have e : ((List.range len).map L).getD i [] = L i := by simp [List.getD, hi']
      rw [sl, e]
      exact (hL i (by omega)).2
theorem recs_get : ∀ (R : List Rec) (i : Nat) (s : SV), (recs R)[i]? = some s → ∃ r, R[i / 4]? = some r ∧ (rec4 r)[i % 4]? = some s
  | [], i, s, h => by simp [recs] at h
  | r :: R, i, s, h => by
    have e : recs (r :: R) = rec4 r ++ recs R := rfl
    rw [e] at h
    by_cases h4 : i < 4
    · rw [List.getElem?_append_left (by simpa [rec4] using h4)] at h
      exact ⟨r, by rw [Nat.div_eq_of_lt h4]; rfl, by rw [Nat.mod_eq_of_lt h4]; exact h⟩
    · rw [List.getElem?_append_right (by simp [rec4]; omega), show (rec4 r).length = 4 from rfl] at h
      obtain ⟨r', h1, h2⟩ := recs_get R (i - 4) s h
      refine ⟨r', ?_, ?_⟩
      · rw [show i / 4 = (i - 4) / 4 + 1 by omega]; exact h1
      · rw [show i % 4 = (i - 4) % 4 by omega]; exact h2
theorem cell_recs {t e u : TypeId} {f0 f1 f2 f3 : Field} {fuel : Nat} {v : Value} {x : DataW Hh × List MemPlace} (ht : P.underlying t = some (.slice e)) (he : P.underlying e = some (.struct #[f0, f1, f2, f3])) (ce : P.cellsOf e = 4)
    (o0 : f0.offset = 0) (o1 : f1.offset = 1) (o2 : f2.offset = 2) (o3 : f3.offset = 3) (u0 : P.underlying f0.type = some (.int .i64)) (u1 : P.underlying f1.type = some (.int .i64)) (u2 : P.underlying f2.type = some (.int .i64)) (u3 : P.underlying f3.type = some (.slice u)) (uu : P.underlying u = some .string) (cu : P.cellsOf u = 1)
    (c0 : P.cellsOf f0.type = 1) (c1 : P.cellsOf f1.type = 1) (c2 : P.cellsOf f2.type = 1) (c3 : P.cellsOf f3.type = 1)
    (h : DataW.trod enc P w 0 (fun _ => true) held fuel t [v] = some x) : ∃ R : List Rec, VRel (fun _ => False) w noj (rREC R) v ∧ LRw R := by
  rcases Deep.open_slice ht h with ⟨hcs, _⟩ | ⟨a, len, cap, m, n, D, Pl, hcs, hb, hl, hm, hmm, _, hx⟩
  · simp at hcs
    subst hcs
    refine ⟨[], ?_, Nat.zero_le _, fun i hi => absurd hi (Nat.not_lt_zero _)⟩
    simp only [rREC, VRel]
    exact ⟨none, 0, rfl, Nat.le_refl _, by simp, .inl (by simp [recs])⟩
  · simp at hcs
    subst hcs
    simp only [if_true] at hmm
    subst hmm
    rw [ce] at hx
    obtain ⟨C, hC⟩ := Deep.choose_lt (α := Rec) (p := fun i c => (∀ k s, (rec4 c)[k]? = some s → ∃ u, w.cell? (a.add (i * 4 + k)) = some u ∧ VRel (fun _ => False) w noj s u) ∧ LFw c.2.2.2) (fun i hi => by
      obtain ⟨cs, h1, h2⟩ := hx i hi
      obtain ⟨_, hlen, hcell⟩ := World.cells?_some h1
      obtain ⟨xs, k, hk, hxy, _, hxl, hf⟩ := DataW.trod_struct he h2
      match xs, hxl, cs, hlen with
      | [y0, y1, y2, y3], _, [v0, v1, v2, v3], _ =>
        have g0 := hf 0 f0 rfl
        have g1 := hf 1 f1 rfl
        have g2 := hf 2 f2 rfl
        have g3 := hf 3 f3 rfl
        simp [o0, o1, o2, o3, c0, c1, c2, c3] at g0 g1 g2 g3
        obtain ⟨n0, q0, _, _⟩ := DataW.trod_int u0 g0
        obtain ⟨n1, q1, _, _⟩ := DataW.trod_int u1 g1
        obtain ⟨n2, q2, _, _⟩ := DataW.trod_int u2 g2
        obtain ⟨F, q3, w3⟩ := cell_strs u3 uu cu g3
        simp at q0 q1 q2
        subst q0 q1 q2
        have e0 := hcell 0 (by omega)
        have e1 := hcell 1 (by omega)
        have e2 := hcell 2 (by omega)
        have e3 := hcell 3 (by omega)
        rw [Deep.add_add] at e0 e1 e2 e3
        refine ⟨(n0, n1, n2, F), ?_, w3⟩
        intro k s hs
        match k, hs with
        | 0, hs => simp [rec4] at hs; subst hs; exact ⟨_, by simpa using e0, by simp only [VRel]⟩
        | 1, hs => simp [rec4] at hs; subst hs; exact ⟨_, by simpa using e1, by simp only [VRel]⟩
        | 2, hs => simp [rec4] at hs; subst hs; exact ⟨_, by simpa using e2, by simp only [VRel]⟩
        | 3, hs => simp [rec4] at hs; subst hs; exact ⟨_, by simpa using e3, q3⟩
        | k + 4, hs => simp [rec4] at hs)
    have hmx : maxLen ≤ 9223372036854775807 := by decide
    refine ⟨(List.range len).map C, ?_, by rw [List.length_map, List.length_range]; omega, fun k hk => ?_⟩
    · simp only [rREC, VRel]
      refine ⟨some a, m, by simp, by simpa using hl, by simp, .inr ⟨a, rfl, crel_fn (fun i s hi => ?_)⟩⟩
      obtain ⟨c, h1, h2⟩ := recs_get _ _ _ hi
      have hi3 : i / 4 < len := by
        have := (List.getElem?_eq_some_iff.1 h1).1
        simpa using this
      obtain rfl : C (i / 4) = c := by simpa [hi3] using h1
      obtain ⟨u, g1, g2⟩ := (hC (i / 4) (by omega)).1 _ _ h2
      refine ⟨u, ?_, g2⟩
      rw [← g1]
      congr 2
      omega
    · have hk' : k < len := by rw [List.length_map, List.length_range] at hk; exact hk
      have e : gR ((List.range len).map C) k = C k := by simp [gR, List.getD, hk']
      rw [e]
      exact (hC k (by omega)).2
end
end Go.Sh
