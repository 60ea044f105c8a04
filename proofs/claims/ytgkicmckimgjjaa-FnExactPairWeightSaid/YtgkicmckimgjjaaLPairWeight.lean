/-
  FnExactPairWeight: whatever set of rules, scoring and list of numbers come in, the law returns true, and all read afterwards as they did. No condition.
-/
import Derived.Test.YtgkicmckimgjjaaZPairWeight5
namespace Go.Proofs.Ytgkicmckimgjjaa.lawPairWeight
open Go.ChangeShapes Go.WideShapes Go.ChangeAt Go.RowKit
open Go.Sh (ri rr rc sclu VRel LRel noj)
set_option linter.unusedVariables false
set_option linter.unusedSimpArgs false

theorem own : ownKnob Try.prog.godebug = none := by kernel_rfl
theorem laidOut : laidOutB Try.prog = true := by kernel_rfl

set_option maxRecDepth 100000 in
theorem lifted (os : Os) (started : os.Started) (H : Type) (enc : TypeId × Value → H) :
    ReturnsInHanded {} Try.checked os 5 .any (Rows.fnExactPairWeightSpec.pre6 enc Try.prog Try.f5 Rows.fnExactPairWeightRow.domain false) (Rows.fnExactPairWeightSpec.post enc Try.prog Try.f5 false true false false) := by
  refine returnsInHanded_of_change (C := Try.checked) own started (by kernel_rfl) Try.func5
    (ChangeSpec.witness6 (enc := enc) (C := Try.checked) false ⟨#[], #[.agg #[.slice none 0 0], .agg #[.slice none 0 0, .int .i64 0], .slice none 0 0], []⟩ 8 (by kernel_rfl) (by kernel_rfl) (by kernel_rfl) (by kernel_rfl)) ?_
  intro W base args ds gs before hval0 hW hcnd _
  have hval : ∀ (j : Nat) t v, Try.f5.params[j]? = some t → args[j]? = some v → Value.okWide Try.prog W .any base t v := hval0
  have hW' := hW
  obtain ⟨p, q, hA0, hV, rfl, hfz, hnd⟩ := hW
  have hA : DataW.TrodAll enc Try.prog W 0 (fun _ => true) true Try.f5.params.toList args.toList ds p := hA0
  rw [Try.params5] at hA hval
  obtain ⟨v0, vs0, d0, ds0, p0, q0, hargs, rfl, rfl, h0, r0⟩ := trodAll_cons hA
  obtain ⟨v1, vs1, d1, ds1, p1, q1, rfl, rfl, rfl, h1, r1⟩ := trodAll_cons r0
  obtain ⟨v2, vs2, d2, ds2, p2, q2, rfl, rfl, rfl, h2, r2⟩ := trodAll_cons r1
  obtain ⟨rfl, rfl, rfl⟩ := trodAll_nil r2
  obtain rfl : args = #[v0, v1, v2] := by cases args; simp_all
  obtain ⟨rfl, rfl⟩ := trodVars_none hV
  have k0 := h0
  have lt0 : ∀ x ∈ p0, x.block < W.heap.size := by obtain ⟨m, hm⟩ := k0; exact DataW.trod_lt m _ _ _ hm
  obtain ⟨c0, e0, s0⟩ := okWide_struct Try.underlying48 (hval 0 48 v0 rfl rfl)
  have s0 : c0.size = 1 := s0.trans (by kernel_rfl)
  obtain ⟨R0, z0, w0⟩ : ∃ R, VRel (fun _ => False) W noj (.agg [Go.Sh.rR R]) v0 ∧ (∀ i, i < R.length → (Go.Sh.rg R i).length ≤ maxLen) ∧ R.length ≤ maxLen := by
    obtain ⟨fuel, hf⟩ := h0
    rw [e0] at hf
    obtain ⟨R, h1, h2⟩ := Go.Sh.cell_rset Try.underlying48 (by simpa [Value.cells] using s0) rfl Try.underlying46 (by kernel_rfl) Try.underlying131 (by kernel_rfl) rfl Try.underlying129 (by kernel_rfl) Try.underlying175 (by kernel_rfl) rfl rfl rfl Try.underlying3 Try.underlying3 Try.underlying4 (by kernel_rfl) (by kernel_rfl) (by kernel_rfl) hf
    refine ⟨R, ?_, h2⟩
    rw [e0]; simp only [VRel]
    exact ⟨_, by simp [Value.cells], h1⟩
  have k1 := h1
  have lt1 : ∀ x ∈ p1, x.block < W.heap.size := by obtain ⟨m, hm⟩ := k1; exact DataW.trod_lt m _ _ _ hm
  obtain ⟨c1, e1, s1⟩ := okWide_struct Try.underlying50 (hval 1 50 v1 rfl rfl)
  have s1 : c1.size = 2 := s1.trans (by kernel_rfl)
  obtain ⟨S1, b1, z1, w1⟩ : ∃ S b, VRel (fun _ => False) W noj (.agg [ri S, .val (.int .i64 b)]) v1 ∧ (∀ n ∈ S, Go.Sh.i64R n) ∧ S.length ≤ maxLen ∧ Go.Sh.i64R b := by
    obtain ⟨fuel, hf⟩ := h1
    rw [e1] at hf
    obtain ⟨S, b, h1, h2⟩ := Go.Sh.cell_sco Try.underlying50 (by simpa [Value.cells] using s1) rfl rfl Try.underlying25 Try.underlying3 (by kernel_rfl) Try.underlying3 (by kernel_rfl) (by kernel_rfl) hf
    refine ⟨S, b, ?_, h2⟩
    rw [e1]; simp only [VRel]
    exact ⟨_, by simp [Value.cells], h1⟩
  have k2 := h2
  have lt2 : ∀ x ∈ p2, x.block < W.heap.size := by obtain ⟨m, hm⟩ := k2; exact DataW.trod_lt m _ _ _ hm
  obtain ⟨a2, len2, cap2, e2⟩ := okWide_slice Try.underlying25 (hval 2 25 v2 rfl rfl)
  obtain ⟨L2, z2, w2⟩ : ∃ L, VRel (fun _ => False) W noj (ri L) v2 ∧ (∀ n ∈ L, Go.Sh.i64R n) ∧ L.length ≤ maxLen := by
    obtain ⟨fuel, hf⟩ := h2
    rw [e2] at hf ⊢
    exact Go.Sh.cell_ints Try.underlying25 Try.underlying3 (by kernel_rfl) (v := .slice a2 len2 cap2) (by simpa [Value.cells] using hf)
  clear hA0 hval0
  have hrel : LRel (fun _ => False) W noj [.agg [Go.Sh.rR R0], .agg [ri S1, .val (.int .i64 b1)], ri L2] [v0, v1, v2] := by
    simp only [LRel]
    exact ⟨_, _, rfl, z0, _, _, rfl, z1, _, _, rfl, z2, rfl⟩
  refine (Go.Sh.PCall.law (Go.Sh.Try.exactPairWeight_ok R0 S1 b1 L2 w0.2 w0.1 w1.2.1) hrel).mono fun e W' ⟨he, bel⟩ => ?_
  subst he
  exact ⟨_, rfl, _, _, _, [], _, [], hW', trodAll_mk1 (shut_bool Try.underlying4 _), (trodAll_cons_mk (Below.trod laidOut (by kernel_rfl) (of_decide_eq_true (by kernel_rfl)) k0 bel lt0) (trodAll_cons_mk (Below.trod laidOut (by kernel_rfl) (of_decide_eq_true (by kernel_rfl)) k1 bel lt1) (trodAll_cons_mk (Below.trod laidOut (by kernel_rfl) (of_decide_eq_true (by kernel_rfl)) k2 bel lt2) trodAll_mk0))), rfl, bel.frame _, fun h => by cases h⟩

theorem over : Rows.fnExactPairWeightRow.holds Try.pinned (OpenSpec.ofChange Rows.fnExactPairWeightSpec) :=
  OpenClaim.holds_of_wide 5 Try.f5 rfl rfl rfl rfl rfl rfl rfl ⟨rfl, rfl, rfl, rfl, rfl⟩ rfl rfl rfl rfl rfl (by kernel_rfl) Try.func5 (by kernel_rfl)
    (of_decide_eq_true (by kernel_rfl)) (by unfold Func.isWrapper; first | (rw [if_pos (by decide +kernel)]; kernel_rfl) | (rw [if_neg (by decide +kernel)]; exact ⟨rfl, rfl⟩))
    (fun os started H enc _ => lifted os started H enc)

theorem proved : Rows.FnExactPairWeightSaid := over
#print axioms proved
end Go.Proofs.Ytgkicmckimgjjaa.lawPairWeight
