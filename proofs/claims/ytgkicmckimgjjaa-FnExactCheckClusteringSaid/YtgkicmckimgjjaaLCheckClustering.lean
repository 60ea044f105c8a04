/-
  FnExactCheckClustering: whatever list of lists of numbers, list of constraints and clustering come in, the law returns true, and all read afterwards as they did. No condition.
-/
import Derived.Test.YtgkicmckimgjjaaZCheckClustering5
namespace Go.Proofs.Ytgkicmckimgjjaa.lawCheckClustering
open Go.ChangeShapes Go.WideShapes Go.ChangeAt Go.RowKit
open Go.Sh (ri rr rc sclu VRel LRel noj)
set_option linter.unusedVariables false
set_option linter.unusedSimpArgs false

theorem own : ownKnob Try.prog.godebug = none := by kernel_rfl
theorem laidOut : laidOutB Try.prog = true := by kernel_rfl

set_option maxRecDepth 100000 in
theorem lifted (os : Os) (started : os.Started) (H : Type) (enc : TypeId × Value → H) :
    ReturnsInHanded {} Try.checked os 7 .any (Rows.fnExactCheckClusteringSpec.pre6 enc Try.prog Try.f7 Rows.fnExactCheckClusteringRow.domain false) (Rows.fnExactCheckClusteringSpec.post enc Try.prog Try.f7 false true false false) := by
  refine returnsInHanded_of_change (C := Try.checked) own started (by kernel_rfl) Try.func7
    (ChangeSpec.witness6 (enc := enc) (C := Try.checked) false ⟨#[], #[.slice none 0 0, .slice none 0 0, .agg #[.slice none 0 0, .int .i64 0, .bool false, .int .i64 0]], []⟩ 8 (by kernel_rfl) (by kernel_rfl) (by kernel_rfl) (by kernel_rfl)) ?_
  intro W base args ds gs before hval0 hW hcnd _
  have hval : ∀ (j : Nat) t v, Try.f7.params[j]? = some t → args[j]? = some v → Value.okWide Try.prog W .any base t v := hval0
  have hW' := hW
  obtain ⟨p, q, hA0, hV, rfl, hfz, hnd⟩ := hW
  have hA : DataW.TrodAll enc Try.prog W 0 (fun _ => true) true Try.f7.params.toList args.toList ds p := hA0
  rw [Try.params7] at hA hval
  obtain ⟨v0, vs0, d0, ds0, p0, q0, hargs, rfl, rfl, h0, r0⟩ := trodAll_cons hA
  obtain ⟨v1, vs1, d1, ds1, p1, q1, rfl, rfl, rfl, h1, r1⟩ := trodAll_cons r0
  obtain ⟨v2, vs2, d2, ds2, p2, q2, rfl, rfl, rfl, h2, r2⟩ := trodAll_cons r1
  obtain ⟨rfl, rfl, rfl⟩ := trodAll_nil r2
  obtain rfl : args = #[v0, v1, v2] := by cases args; simp_all
  obtain ⟨rfl, rfl⟩ := trodVars_none hV
  have k0 := h0
  have lt0 : ∀ x ∈ p0, x.block < W.heap.size := by obtain ⟨m, hm⟩ := k0; exact DataW.trod_lt m _ _ _ hm
  obtain ⟨a0, len0, cap0, e0⟩ := okWide_slice Try.underlying24 (hval 0 24 v0 rfl rfl)
  obtain ⟨L0, z0, w0⟩ : ∃ L, VRel (fun _ => False) W noj (rr L) v0 ∧ (∀ l ∈ L, (∀ n ∈ l, Go.Sh.i64R n) ∧ l.length ≤ maxLen) ∧ L.length ≤ maxLen := by
    obtain ⟨fuel, hf⟩ := h0
    rw [e0] at hf ⊢
    exact Go.Sh.cell_rows Try.underlying24 Try.underlying25 Try.underlying3 (by kernel_rfl) (by kernel_rfl) (v := .slice a0 len0 cap0) (by simpa [Value.cells] using hf)
  have k1 := h1
  have lt1 : ∀ x ∈ p1, x.block < W.heap.size := by obtain ⟨m, hm⟩ := k1; exact DataW.trod_lt m _ _ _ hm
  obtain ⟨a1, len1, cap1, e1⟩ := okWide_slice Try.underlying71 (hval 1 71 v1 rfl rfl)
  obtain ⟨L1, z1, w1⟩ : ∃ L, VRel (fun _ => False) W noj (rc L) v1 ∧ (∀ c ∈ L, Go.Sh.i64R c.1 ∧ Go.Sh.i64R c.2.1) ∧ L.length ≤ maxLen := by
    obtain ⟨fuel, hf⟩ := h1
    rw [e1] at hf ⊢
    exact Go.Sh.cell_cons Try.underlying71 Try.underlying118 (by kernel_rfl) rfl rfl rfl Try.underlying3 Try.underlying3 Try.underlying4 (by kernel_rfl) (by kernel_rfl) (by kernel_rfl) (v := .slice a1 len1 cap1) (by simpa [Value.cells] using hf)
  have k2 := h2
  have lt2 : ∀ x ∈ p2, x.block < W.heap.size := by obtain ⟨m, hm⟩ := k2; exact DataW.trod_lt m _ _ _ hm
  obtain ⟨c2, e2, s2⟩ := okWide_struct Try.underlying73 (hval 2 73 v2 rfl rfl)
  have s2 : c2.size = 4 := s2.trans (by kernel_rfl)
  obtain ⟨K2, z2, w2⟩ : ∃ K, VRel (fun _ => False) W noj (sclu K) v2 ∧ (∀ n ∈ K.labels, Go.Sh.i64R n) ∧ K.labels.length ≤ maxLen ∧ Go.Sh.i64R K.cost ∧ Go.Sh.i64R K.gap := by
    obtain ⟨fuel, hf⟩ := h2
    rw [e2] at hf
    obtain ⟨K, h1, h2⟩ := Go.Sh.cell_clu Try.underlying73 (by simpa [Value.cells] using s2) rfl rfl rfl rfl Try.underlying25 Try.underlying3 (by kernel_rfl) Try.underlying3 Try.underlying4 Try.underlying3 (by kernel_rfl) (by kernel_rfl) (by kernel_rfl) (by kernel_rfl) hf
    refine ⟨K, ?_, h2⟩
    rw [e2, sclu]; simp only [VRel]
    exact ⟨_, by simp [Value.cells], h1⟩
  clear hA0 hval0
  have hrel : LRel (fun _ => False) W noj [rr L0, rc L1, sclu K2] [v0, v1, v2] := by
    simp only [LRel]
    exact ⟨_, _, rfl, z0, _, _, rfl, z1, _, _, rfl, z2, rfl⟩
  refine (Go.Sh.PCall.law (Go.Sh.Try.exactCheckClustering_ok L0 L1 K2 w0 w1 w2) hrel).mono fun e W' ⟨he, bel⟩ => ?_
  subst he
  exact ⟨_, rfl, _, _, _, [], _, [], hW', trodAll_mk1 (shut_bool Try.underlying4 _), (trodAll_cons_mk (Below.trod laidOut (by kernel_rfl) (of_decide_eq_true (by kernel_rfl)) k0 bel lt0) (trodAll_cons_mk (Below.trod laidOut (by kernel_rfl) (of_decide_eq_true (by kernel_rfl)) k1 bel lt1) (trodAll_cons_mk (Below.trod laidOut (by kernel_rfl) (of_decide_eq_true (by kernel_rfl)) k2 bel lt2) trodAll_mk0))), rfl, bel.frame _, fun h => by cases h⟩

theorem over : Rows.fnExactCheckClusteringRow.holds Try.pinned (OpenSpec.ofChange Rows.fnExactCheckClusteringSpec) :=
  OpenClaim.holds_of_wide 7 Try.f7 rfl rfl rfl rfl rfl rfl rfl ⟨rfl, rfl, rfl, rfl, rfl⟩ rfl rfl rfl rfl rfl (by kernel_rfl) Try.func7 (by kernel_rfl)
    (of_decide_eq_true (by kernel_rfl)) (by unfold Func.isWrapper; first | (rw [if_pos (by decide +kernel)]; kernel_rfl) | (rw [if_neg (by decide +kernel)]; exact ⟨rfl, rfl⟩))
    (fun os started H enc _ => lifted os started H enc)

theorem proved : Rows.FnExactCheckClusteringSaid := over
#print axioms proved
end Go.Proofs.Ytgkicmckimgjjaa.lawCheckClustering
