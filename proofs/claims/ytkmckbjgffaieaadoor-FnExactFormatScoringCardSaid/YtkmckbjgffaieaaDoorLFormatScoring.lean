/-
  FnExactFormatScoring: whatever scoring comes in, the law returns true, and it reads afterwards as it did. The three tables of the library that the row lists are as the row says.
-/
import Derived.Test.YtkmckbjgffaieaaDoorZFormatScoring4
import Derived.Test.YtkmckbjgffaieaaDoorCards
import Derived.Test.YtkmckbjgffaieaaDoorTie
import Derived.LaidMore
import Derived.Lay
import Derived.SevenTiedAt
import Derived.Stop.Joined
namespace Go.Proofs.YtkmckbjgffaieaaDoor.lawFormatScoring
open Go.ChangeShapes Go.WideShapes Go.ChangeAt Go.RowKit
open Go.Sh (ri rr rc sclu VRel LRel noj)
set_option linter.unusedVariables false
set_option linter.unusedSimpArgs false

theorem own : ownKnob Tryd.prog.godebug = none := by kernel_rfl
theorem laidOut : laidOutB Tryd.prog = true := by kernel_rfl

set_option maxRecDepth 100000 in
theorem lifted (os : Os) (started : os.Started) (H : Type) (enc : TypeId × Value → H) :
    ReturnsInHanded {} Tryd.checked os 4 .any (fun w args => (Rows.fnExactFormatScoringSpec.pre enc Tryd.prog Tryd.f4 Rows.fnExactFormatScoringRow.domain false w args ∧ laidMetH Tryd.prog Rows.fnExactFormatScoringRow.laid w) ∧ sizedMet enc Tryd.prog Tryd.f4 (OpenSpec.ofChange Rows.fnExactFormatScoringSpec) false w args) (Rows.fnExactFormatScoringSpec.post enc Tryd.prog Tryd.f4 false true false false) := by
  refine returnsInHanded_of_change_and (C := Tryd.checked) (X := fun w _ => laidMetH Tryd.prog Rows.fnExactFormatScoringRow.laid w) (fun _ _ _ hh h => h.of_heap hh) own started (by kernel_rfl) Tryd.func4
    (ChangeSpec.witness_shaped (enc := enc) (C := Tryd.checked) (os := os) (X := fun w _ => laidMetH Tryd.prog Rows.fnExactFormatScoringRow.laid w) false (World.laidAll Tryd.prog os Rows.fnExactFormatScoringRow.laid) #[.agg #[.slice none 0 0, .int .i64 0]] 8 (World.laidAll_os _ _ _)
      (World.shaped_of_ZipB (by kernel_rfl) (by kernel_rfl)) (by kernel_rfl) (by kernel_rfl) (by kernel_rfl)
      (by rw [MakeChecks.laidMetH_plain _ _ _ (by kernel_rfl)]; exact laidMet_laidAll _ (by kernel_rfl) (by kernel_rfl))) ?_
  intro W base args ds gs before hval0 hW hcnd hsz hL _
  have hval : ∀ (j : Nat) t v, Tryd.f4.params[j]? = some t → args[j]? = some v → Value.okWide Tryd.prog W .any base t v := hval0
  have hW' := hW
  obtain ⟨p, q, hA0, hV, rfl, hfz, hnd⟩ := hW
  have hA : DataW.TrodAll enc Tryd.prog W 0 (fun _ => true) true Tryd.f4.params.toList args.toList ds p := hA0
  rw [Tryd.params4] at hA hval
  obtain ⟨v0, vs0, d0, ds0, p0, q0, hargs, rfl, rfl, h0, r0⟩ := trodAll_cons hA
  obtain ⟨rfl, rfl, rfl⟩ := trodAll_nil r0
  obtain rfl : args = #[v0] := by cases args; simp_all
  obtain ⟨rfl, rfl⟩ := trodVars_none hV
  have k0 := h0
  have lt0 : ∀ x ∈ p0, x.block < W.heap.size := by obtain ⟨m, hm⟩ := k0; exact DataW.trod_lt m _ _ _ hm
  obtain ⟨c0, e0, s0⟩ := okWide_struct Tryd.underlying28 (hval 0 28 v0 rfl rfl)
  have s0 : c0.size = 2 := s0.trans (by kernel_rfl)
  obtain ⟨S0, b0, z0, w0⟩ : ∃ S b, VRel (fun _ => False) W noj (.agg [ri S, .val (.int .i64 b)]) v0 ∧ (∀ n ∈ S, Go.Sh.i64R n) ∧ S.length ≤ maxLen ∧ Go.Sh.i64R b := by
    obtain ⟨fuel, hf⟩ := h0
    rw [e0] at hf
    obtain ⟨S, b, h1, h2⟩ := Go.Sh.cell_sco Tryd.underlying28 (by simpa [Value.cells] using s0) rfl rfl Tryd.underlying22 Tryd.underlying3 (by kernel_rfl) Tryd.underlying3 (by kernel_rfl) (by kernel_rfl) hf
    refine ⟨S, b, ?_, h2⟩
    rw [e0]; simp only [VRel]
    exact ⟨_, by simp [Value.cells], h1⟩
  clear hA0 hval0
  have hrel : LRel (fun _ => False) W noj [.agg [ri S0, .val (.int .i64 b0)]] [v0] := by
    simp only [LRel]
    exact ⟨_, _, rfl, z0, rfl⟩
  refine (Go.Sh.PCall.law (Go.Sh.Tryd.exactFormatScoring_ok S0 b0 w0.2.1) hrel (Go.Sh.Tryd.tabOk hL (by kernel_rfl) (List.Mem.tail _ (List.Mem.tail _ (List.Mem.head _))))).mono fun e W' ⟨he, bel⟩ => ?_
  subst he
  exact ⟨_, rfl, _, _, _, [], _, [], hW', trodAll_mk1 (shut_bool Tryd.underlying4 _), (trodAll_cons_mk (Below.trod laidOut (by kernel_rfl) (of_decide_eq_true (by kernel_rfl)) k0 bel lt0) trodAll_mk0), rfl, bel.frame _, fun h => by cases h⟩

theorem over : Rows.fnExactFormatScoringRow.holds Tryd.pinned (OpenSpec.ofChange Rows.fnExactFormatScoringSpec) :=
  OpenClaim.holds_of_wide 4 Tryd.f4 rfl rfl rfl rfl rfl rfl rfl ⟨rfl, rfl, rfl, rfl, rfl⟩ rfl rfl rfl rfl rfl (by kernel_rfl) Tryd.func4 (by kernel_rfl)
    (of_decide_eq_true (by kernel_rfl)) (by unfold Func.isWrapper; first | (rw [if_pos (by decide +kernel)]; kernel_rfl) | (rw [if_neg (by decide +kernel)]; exact ⟨rfl, rfl⟩))
    (fun os started H enc _ => lifted os started H enc)

theorem proved : Rows.FnExactFormatScoringCardSaid :=
  Claim7.holds_tied_plain_at .later [] [.data, .data, .data] true (true, "9e656b27f017c261217eeabfa664f464c32f194d1b25d9d9499287d44cb8574c") true
    over (fun _ h => by cases h) (by kernel_rfl) (fun _ h => by cases h) fnExactFormatScoring_row_tie rfl ⟨rfl, rfl⟩ (by kernel_rfl) rfl
    (fun f fn hf hfn => by
      obtain rfl : f = 4 := Option.some.inj ((show Tryd.prog.funcNamed "loop.example/g01923/laws.FnExactFormatScoring" = some 4 by kernel_rfl).symm.trans hf) |>.symm
      obtain rfl : fn = Tryd.f4 := (Option.some.inj (Tryd.func4.symm.trans hfn)).symm
      exact ⟨by kernel_rfl, fun j t ht => by
        rw [Tryd.params4] at ht
        have h3 : t = 28 := by
          rcases j with _ | j
          · simpa using ht.symm
          · simp at ht
        subst h3
        exact (show Tryd.prog.wantsStandIn 28 = false by kernel_rfl)⟩)
    (by kernel_rfl)
#print axioms proved
end Go.Proofs.YtkmckbjgffaieaaDoor.lawFormatScoring
