/-
  FnExactIsOptimal: whatever list of lists of numbers, list of constraints and list of numbers come in, the law returns true, and they read afterwards as they did. No condition.
-/
import Derived.Test.YthkkipbdebgghaaEIsOptimal
namespace Go.Proofs.Ythkkipbdebgghaa.lawIsOptimal
open Go.ChangeShapes Go.WideShapes Go.ChangeAt Go.RowKit
open Go.Sh (ri rr rc sclu VRel LRel noj)
set_option linter.unusedVariables false
set_option linter.unusedSimpArgs false

theorem own : ownKnob Try.prog.godebug = none := by kernel_rfl
theorem laidOut : laidOutB Try.prog = true := by kernel_rfl

set_option maxRecDepth 100000 in
theorem lifted (os : Os) (started : os.Started) (H : Type) (enc : TypeId × Value → H) :
    ReturnsInHanded {} Try.checked os 8 .any (Rows.fnExactIsOptimalSpec.pre6 enc Try.prog Try.f8 Rows.fnExactIsOptimalRow.domain false) (Rows.fnExactIsOptimalSpec.post enc Try.prog Try.f8 false true false false) := by
  refine returnsInHanded_of_change (C := Try.checked) own started (by kernel_rfl) Try.func8
    (ChangeSpec.witness6 (enc := enc) (C := Try.checked) false ⟨#[], #[.slice none 0 0, .slice none 0 0, .slice none 0 0], []⟩ 8 (by kernel_rfl) (by kernel_rfl) (by kernel_rfl) (by kernel_rfl)) ?_
  intro W base args ds gs before hval0 hW hcnd _
  have hval : ∀ (j : Nat) t v, Try.f8.params[j]? = some t → args[j]? = some v → Value.okWide Try.prog W .any base t v := hval0
  have hW' := hW
  obtain ⟨p, q, hA0, hV, rfl, hfz, hnd⟩ := hW
  have hA : DataW.TrodAll enc Try.prog W 0 (fun _ => true) true Try.f8.params.toList args.toList ds p := hA0
  rw [Try.params8] at hA hval
  obtain ⟨v0, vs0, d0, ds0, p0, q0, hargs, rfl, rfl, h0, r0⟩ := trodAll_cons hA
  obtain ⟨v1, vs1, d1, ds1, p1, q1, rfl, rfl, rfl, h1, r1⟩ := trodAll_cons r0
  obtain ⟨v2, vs2, d2, ds2, p2, q2, rfl, rfl, rfl, h2, r2⟩ := trodAll_cons r1
  obtain ⟨rfl, rfl, rfl⟩ := trodAll_nil r2
  obtain rfl : args = #[v0, v1, v2] := by cases args; simp_all
  obtain ⟨rfl, rfl⟩ := trodVars_none hV
  have k0 := h0
  have lt0 : ∀ x ∈ p0, x.block < W.heap.size := by obtain ⟨m, hm⟩ := k0; exact DataW.trod_lt m _ _ _ hm
  obtain ⟨a0, len0, cap0, e0⟩ := okWide_slice Try.underlying22 (hval 0 22 v0 rfl rfl)
  obtain ⟨L0, z0, w0⟩ : ∃ L, VRel (fun _ => False) W noj (rr L) v0 ∧ (∀ l ∈ L, (∀ n ∈ l, Go.Sh.i64R n) ∧ l.length ≤ maxLen) ∧ L.length ≤ maxLen := by
    obtain ⟨fuel, hf⟩ := h0
    rw [e0] at hf ⊢
    exact Go.Sh.cell_rows Try.underlying22 Try.underlying24 Try.underlying3 (by kernel_rfl) (by kernel_rfl) (v := .slice a0 len0 cap0) (by simpa [Value.cells] using hf)
  have k1 := h1
  have lt1 : ∀ x ∈ p1, x.block < W.heap.size := by obtain ⟨m, hm⟩ := k1; exact DataW.trod_lt m _ _ _ hm
  obtain ⟨a1, len1, cap1, e1⟩ := okWide_slice Try.underlying31 (hval 1 31 v1 rfl rfl)
  obtain ⟨L1, z1, w1⟩ : ∃ L, VRel (fun _ => False) W noj (rc L) v1 ∧ (∀ c ∈ L, Go.Sh.i64R c.1 ∧ Go.Sh.i64R c.2.1) ∧ L.length ≤ maxLen := by
    obtain ⟨fuel, hf⟩ := h1
    rw [e1] at hf ⊢
    exact Go.Sh.cell_cons Try.underlying31 Try.underlying100 (by kernel_rfl) rfl rfl rfl Try.underlying3 Try.underlying3 Try.underlying4 (by kernel_rfl) (by kernel_rfl) (by kernel_rfl) (v := .slice a1 len1 cap1) (by simpa [Value.cells] using hf)
  have k2 := h2
  have lt2 : ∀ x ∈ p2, x.block < W.heap.size := by obtain ⟨m, hm⟩ := k2; exact DataW.trod_lt m _ _ _ hm
  obtain ⟨a2, len2, cap2, e2⟩ := okWide_slice Try.underlying24 (hval 2 24 v2 rfl rfl)
  obtain ⟨L2, z2, w2⟩ : ∃ L, VRel (fun _ => False) W noj (ri L) v2 ∧ (∀ n ∈ L, Go.Sh.i64R n) ∧ L.length ≤ maxLen := by
    obtain ⟨fuel, hf⟩ := h2
    rw [e2] at hf ⊢
    exact Go.Sh.cell_ints Try.underlying24 Try.underlying3 (by kernel_rfl) (v := .slice a2 len2 cap2) (by simpa [Value.cells] using hf)
  clear hA0 hval0
  have hrel : LRel (fun _ => False) W noj [rr L0, rc L1, ri L2] [v0, v1, v2] := by
    simp only [LRel]
    exact ⟨_, _, rfl, z0, _, _, rfl, z1, _, _, rfl, z2, rfl⟩
  refine (Go.Sh.PCall.law (Go.Sh.Try.exactIsOptimal_ok L0 L1 L2 w0 w1) hrel).mono fun e W' ⟨he, bel⟩ => ?_
  subst he
  exact ⟨_, rfl, _, _, _, [], _, [], hW', trodAll_mk1 (shut_bool Try.underlying4 _), (trodAll_cons_mk (Below.trod laidOut (by kernel_rfl) (of_decide_eq_true (by kernel_rfl)) k0 bel lt0) (trodAll_cons_mk (Below.trod laidOut (by kernel_rfl) (of_decide_eq_true (by kernel_rfl)) k1 bel lt1) (trodAll_cons_mk (Below.trod laidOut (by kernel_rfl) (of_decide_eq_true (by kernel_rfl)) k2 bel lt2) trodAll_mk0))), rfl, bel.frame _, fun h => by cases h⟩

theorem over : Rows.fnExactIsOptimalRow.holds Try.pinned (OpenSpec.ofChange Rows.fnExactIsOptimalSpec) :=
  OpenClaim.holds_of_wide 8 Try.f8 rfl rfl rfl rfl rfl rfl rfl ⟨rfl, rfl, rfl, rfl, rfl⟩ rfl rfl rfl rfl rfl (by kernel_rfl) Try.func8 (by kernel_rfl)
    (of_decide_eq_true (by kernel_rfl)) (by unfold Func.isWrapper; first | (rw [if_pos (by decide +kernel)]; kernel_rfl) | (rw [if_neg (by decide +kernel)]; exact ⟨rfl, rfl⟩))
    (fun os started H enc _ => lifted os started H enc)

theorem proved : Rows.FnExactIsOptimalSaid := over
#print axioms proved
end Go.Proofs.Ythkkipbdebgghaa.lawIsOptimal
