/-
  FnExactEqualClusterings: whatever two clusterings come in, the law returns true, and both read afterwards as they did. No condition.
-/
import Derived.Test.YtpmgljmpddkikaaEEqualClusterings
namespace Go.Proofs.Ytpmgljmpddkikaa.lawEqualClusterings
open Go.ChangeShapes Go.WideShapes Go.ChangeAt Go.RowKit
open Go.Sh (ri rr rc sclu VRel LRel noj)
set_option linter.unusedVariables false
set_option linter.unusedSimpArgs false

theorem own : ownKnob Try.prog.godebug = none := by kernel_rfl
theorem laidOut : laidOutB Try.prog = true := by kernel_rfl

set_option maxRecDepth 100000 in
theorem lifted (os : Os) (started : os.Started) (H : Type) (enc : TypeId × Value → H) :
    ReturnsInHanded {} Try.checked os 6 .any (Rows.fnExactEqualClusteringsSpec.pre6 enc Try.prog Try.f6 Rows.fnExactEqualClusteringsRow.domain false) (Rows.fnExactEqualClusteringsSpec.post enc Try.prog Try.f6 false true false false) := by
  refine returnsInHanded_of_change (C := Try.checked) own started (by kernel_rfl) Try.func6
    (ChangeSpec.witness6 (enc := enc) (C := Try.checked) false ⟨#[], #[.agg #[.slice none 0 0, .int .i64 0, .bool false, .int .i64 0], .agg #[.slice none 0 0, .int .i64 0, .bool false, .int .i64 0]], []⟩ 8 (by kernel_rfl) (by kernel_rfl) (by kernel_rfl) (by kernel_rfl)) ?_
  intro W base args ds gs before hval0 hW hcnd _
  have hval : ∀ (j : Nat) t v, Try.f6.params[j]? = some t → args[j]? = some v → Value.okWide Try.prog W .any base t v := hval0
  have hW' := hW
  obtain ⟨p, q, hA0, hV, rfl, hfz, hnd⟩ := hW
  have hA : DataW.TrodAll enc Try.prog W 0 (fun _ => true) true Try.f6.params.toList args.toList ds p := hA0
  rw [Try.params6] at hA hval
  obtain ⟨v0, vs0, d0, ds0, p0, q0, hargs, rfl, rfl, h0, r0⟩ := trodAll_cons hA
  obtain ⟨v1, vs1, d1, ds1, p1, q1, rfl, rfl, rfl, h1, r1⟩ := trodAll_cons r0
  obtain ⟨rfl, rfl, rfl⟩ := trodAll_nil r1
  obtain rfl : args = #[v0, v1] := by cases args; simp_all
  obtain ⟨rfl, rfl⟩ := trodVars_none hV
  have k0 := h0
  have lt0 : ∀ x ∈ p0, x.block < W.heap.size := by obtain ⟨m, hm⟩ := k0; exact DataW.trod_lt m _ _ _ hm
  obtain ⟨c0, e0, s0⟩ := okWide_struct Try.underlying36 (hval 0 36 v0 rfl rfl)
  have s0 : c0.size = 4 := s0.trans (by kernel_rfl)
  obtain ⟨K0, z0, w0⟩ : ∃ K, VRel (fun _ => False) W noj (sclu K) v0 ∧ (∀ n ∈ K.labels, Go.Sh.i64R n) ∧ K.labels.length ≤ maxLen ∧ Go.Sh.i64R K.cost ∧ Go.Sh.i64R K.gap := by
    obtain ⟨fuel, hf⟩ := h0
    rw [e0] at hf
    obtain ⟨K, h1, h2⟩ := Go.Sh.cell_clu Try.underlying36 (by simpa [Value.cells] using s0) rfl rfl rfl rfl Try.underlying22 Try.underlying3 (by kernel_rfl) Try.underlying3 Try.underlying4 Try.underlying3 (by kernel_rfl) (by kernel_rfl) (by kernel_rfl) (by kernel_rfl) hf
    refine ⟨K, ?_, h2⟩
    rw [e0, sclu]; simp only [VRel]
    exact ⟨_, by simp [Value.cells], h1⟩
  have k1 := h1
  have lt1 : ∀ x ∈ p1, x.block < W.heap.size := by obtain ⟨m, hm⟩ := k1; exact DataW.trod_lt m _ _ _ hm
  obtain ⟨c1, e1, s1⟩ := okWide_struct Try.underlying36 (hval 1 36 v1 rfl rfl)
  have s1 : c1.size = 4 := s1.trans (by kernel_rfl)
  obtain ⟨K1, z1, w1⟩ : ∃ K, VRel (fun _ => False) W noj (sclu K) v1 ∧ (∀ n ∈ K.labels, Go.Sh.i64R n) ∧ K.labels.length ≤ maxLen ∧ Go.Sh.i64R K.cost ∧ Go.Sh.i64R K.gap := by
    obtain ⟨fuel, hf⟩ := h1
    rw [e1] at hf
    obtain ⟨K, h1, h2⟩ := Go.Sh.cell_clu Try.underlying36 (by simpa [Value.cells] using s1) rfl rfl rfl rfl Try.underlying22 Try.underlying3 (by kernel_rfl) Try.underlying3 Try.underlying4 Try.underlying3 (by kernel_rfl) (by kernel_rfl) (by kernel_rfl) (by kernel_rfl) hf
    refine ⟨K, ?_, h2⟩
    rw [e1, sclu]; simp only [VRel]
    exact ⟨_, by simp [Value.cells], h1⟩
  clear hA0 hval0
  have hrel : LRel (fun _ => False) W noj [sclu K0, sclu K1] [v0, v1] := by
    simp only [LRel]
    exact ⟨_, _, rfl, z0, _, _, rfl, z1, rfl⟩
  refine (Go.Sh.PCall.law (Go.Sh.Try.exactEqualClusterings_ok K0 K1 w0 w1) hrel).mono fun e W' ⟨he, bel⟩ => ?_
  subst he
  exact ⟨_, rfl, _, _, _, [], _, [], hW', trodAll_mk1 (shut_bool Try.underlying4 _), (trodAll_cons_mk (Below.trod laidOut (by kernel_rfl) (of_decide_eq_true (by kernel_rfl)) k0 bel lt0) (trodAll_cons_mk (Below.trod laidOut (by kernel_rfl) (of_decide_eq_true (by kernel_rfl)) k1 bel lt1) trodAll_mk0)), rfl, bel.frame _, fun h => by cases h⟩

theorem over : Rows.fnExactEqualClusteringsRow.holds Try.pinned (OpenSpec.ofChange Rows.fnExactEqualClusteringsSpec) :=
  OpenClaim.holds_of_wide 6 Try.f6 rfl rfl rfl rfl rfl rfl rfl ⟨rfl, rfl, rfl, rfl, rfl⟩ rfl rfl rfl rfl rfl (by kernel_rfl) Try.func6 (by kernel_rfl)
    (of_decide_eq_true (by kernel_rfl)) (by unfold Func.isWrapper; first | (rw [if_pos (by decide +kernel)]; kernel_rfl) | (rw [if_neg (by decide +kernel)]; exact ⟨rfl, rfl⟩))
    (fun os started H enc _ => lifted os started H enc)

theorem proved : Rows.FnExactEqualClusteringsSaid := over
#print axioms proved
end Go.Proofs.Ytpmgljmpddkikaa.lawEqualClusterings
