/-
  FnExactBuildWeights: whatever list of records, set of rules and scoring come in, the law returns true, and all read afterwards as they did. The tables that the row lists are as the row says; the one that it names and does not lay holds some number.
-/
import Derived.Test.YtihglnbaoadmcaaGreatDoorZBuildWeights6
import Derived.Test.YtihglnbaoadmcaaGreatDoorCards
import Derived.Test.YtihglnbaoadmcaaGreatDoorTie
import Derived.ChangeMaps5
import Derived.ChangeVars
import Derived.OpenVars
import Derived.LaidMore
import Derived.Lay
import Derived.SevenTiedAt
import Derived.Stop.Joined
namespace Go.Proofs.YtihglnbaoadmcaaGreatDoor.lawBuildWeights
open Go.ChangeShapes Go.WideShapes Go.ChangeAt Go.RowKit
open Go.Sh (ri rr rc sclu VRel LRel noj)
set_option linter.unusedVariables false
set_option linter.unusedSimpArgs false

theorem own : ownKnob Tryz.prog.godebug = none := by kernel_rfl
theorem laidOut : laidOutB Tryz.prog = true := by kernel_rfl

set_option maxRecDepth 100000 in
theorem lifted (os : Os) (started : os.Started) (H : Type) (enc : TypeId × Value → H) :
    ReturnsInHanded {} Tryz.checked os 3 .any (fun w args => (Rows.fnExactBuildWeightsSpec.pre enc Tryz.prog Tryz.f3 Rows.fnExactBuildWeightsRow.domain false w args ∧ laidMetH Tryz.prog Rows.fnExactBuildWeightsRow.laid w) ∧ sizedMet enc Tryz.prog Tryz.f3 (OpenSpec.ofChange Rows.fnExactBuildWeightsSpec) false w args) (Rows.fnExactBuildWeightsSpec.post enc Tryz.prog Tryz.f3 false true false false) := by
  refine Go.Sh.retShaped (C := Tryz.checked) (X := fun w _ => laidMetH Tryz.prog Rows.fnExactBuildWeightsRow.laid w) (fun _ _ _ hh h => h.of_heap hh) own started (by kernel_rfl) Tryz.func3
    (ChangeSpec.witness_shaped (enc := enc) (C := Tryz.checked) (os := os) (X := fun w _ => laidMetH Tryz.prog Rows.fnExactBuildWeightsRow.laid w) false (World.laidAll Tryz.prog os Rows.fnExactBuildWeightsRow.laid) #[.slice none 0 0, .agg #[.slice none 0 0], .agg #[.slice none 0 0, .int .i64 0]] 8 (World.laidAll_os _ _ _)
      (World.shaped_of_ZipB (by kernel_rfl) (by kernel_rfl)) (by kernel_rfl) (by kernel_rfl) (by kernel_rfl)
      (by rw [MakeChecks.laidMetH_plain _ _ _ (by kernel_rfl)]; exact laidMet_laidAll _ (by kernel_rfl) (by kernel_rfl))) ?_
  intro W base args ds gs before hS hval0 hW hL
  have hval : ∀ (j : Nat) t v, Tryz.f3.params[j]? = some t → args[j]? = some v → Value.okWide Tryz.prog W .any base t v := hval0
  have hW' := hW
  obtain ⟨p, q, hA0, hV, rfl, hfz, hnd⟩ := hW
  have hA : DataW.TrodAll enc Tryz.prog W 0 (fun _ => true) true Tryz.f3.params.toList args.toList ds p := hA0
  rw [Tryz.params3] at hA hval
  obtain ⟨v0, vs0, d0, ds0, p0, q0, hargs, rfl, rfl, h0, r0⟩ := trodAll_cons hA
  obtain ⟨v1, vs1, d1, ds1, p1, q1, rfl, rfl, rfl, h1, r1⟩ := trodAll_cons r0
  obtain ⟨v2, vs2, d2, ds2, p2, q2, rfl, rfl, rfl, h2, r2⟩ := trodAll_cons r1
  obtain ⟨rfl, rfl, rfl⟩ := trodAll_nil r2
  obtain rfl : args = #[v0, v1, v2] := by cases args; simp_all
  have hVk := hV
  obtain ⟨_, _, _, _, gd, _, rfl, _, _, _, _, _⟩ := trodVars_one hVk
  have k0 := h0
  have lt0 : ∀ x ∈ p0, x.block < W.heap.size := by obtain ⟨m, hm⟩ := k0; exact DataW.trod_lt m _ _ _ hm
  obtain ⟨a0, len0, cap0, e0⟩ := okWide_slice Tryz.underlying22 (hval 0 22 v0 rfl rfl)
  obtain ⟨R0, z0, w0⟩ : ∃ R, VRel (fun _ => False) W noj (Go.Sh.rREC R) v0 ∧ Go.Sh.LRw R := by
    obtain ⟨fuel, hf⟩ := h0
    rw [e0] at hf ⊢
    exact Go.Sh.cell_recs Tryz.underlying22 Tryz.underlying68 (by kernel_rfl) rfl rfl rfl rfl Tryz.underlying3 Tryz.underlying3 Tryz.underlying3 Tryz.underlying57 Tryz.underlying9 (by kernel_rfl) (by kernel_rfl) (by kernel_rfl) (by kernel_rfl) (by kernel_rfl) (v := .slice a0 len0 cap0) (by simpa [Value.cells] using hf)
  have k1 := h1
  have lt1 : ∀ x ∈ p1, x.block < W.heap.size := by obtain ⟨m, hm⟩ := k1; exact DataW.trod_lt m _ _ _ hm
  obtain ⟨c1, e1, s1⟩ := okWide_struct Tryz.underlying25 (hval 1 25 v1 rfl rfl)
  have s1 : c1.size = 1 := s1.trans (by kernel_rfl)
  obtain ⟨R1, z1, w1⟩ : ∃ R, VRel (fun _ => False) W noj (.agg [Go.Sh.rR R]) v1 ∧ (∀ i, i < R.length → (Go.Sh.rg R i).length ≤ maxLen) ∧ R.length ≤ maxLen := by
    obtain ⟨fuel, hf⟩ := h1
    rw [e1] at hf
    obtain ⟨R, h1, h2⟩ := Go.Sh.cell_rset Tryz.underlying25 (by simpa [Value.cells] using s1) rfl Tryz.underlying23 (by kernel_rfl) Tryz.underlying109 (by kernel_rfl) rfl Tryz.underlying107 (by kernel_rfl) Tryz.underlying170 (by kernel_rfl) rfl rfl rfl Tryz.underlying3 Tryz.underlying3 Tryz.underlying4 (by kernel_rfl) (by kernel_rfl) (by kernel_rfl) hf
    refine ⟨R, ?_, h2⟩
    rw [e1]; simp only [VRel]
    exact ⟨_, by simp [Value.cells], h1⟩
  have k2 := h2
  have lt2 : ∀ x ∈ p2, x.block < W.heap.size := by obtain ⟨m, hm⟩ := k2; exact DataW.trod_lt m _ _ _ hm
  obtain ⟨c2, e2, s2⟩ := okWide_struct Tryz.underlying28 (hval 2 28 v2 rfl rfl)
  have s2 : c2.size = 2 := s2.trans (by kernel_rfl)
  obtain ⟨S2, b2, z2, w2⟩ : ∃ S b, VRel (fun _ => False) W noj (.agg [ri S, .val (.int .i64 b)]) v2 ∧ (∀ n ∈ S, Go.Sh.i64R n) ∧ S.length ≤ maxLen ∧ Go.Sh.i64R b := by
    obtain ⟨fuel, hf⟩ := h2
    rw [e2] at hf
    obtain ⟨S, b, h1, h2⟩ := Go.Sh.cell_sco Tryz.underlying28 (by simpa [Value.cells] using s2) rfl rfl Tryz.underlying26 Tryz.underlying3 (by kernel_rfl) Tryz.underlying3 (by kernel_rfl) (by kernel_rfl) hf
    refine ⟨S, b, ?_, h2⟩
    rw [e2]; simp only [VRel]
    exact ⟨_, by simp [Value.cells], h1⟩
  clear hA0 hval0
  have hrel : LRel (fun _ => False) W noj [Go.Sh.rREC R0, .agg [Go.Sh.rR R1], .agg [ri S2, .val (.int .i64 b2)]] [v0, v1, v2] := by
    simp only [LRel]
    exact ⟨_, _, rfl, z0, _, _, rfl, z1, _, _, rfl, z2, rfl⟩
  refine (Go.Sh.PCall.law (Go.Sh.Tryz.exactBuildWeights_ok R0 R1 S2 b2 w0 w1.2 w1.1 w2.2.1) hrel (Go.Sh.Tryz.tabOkC hS hL (by kernel_rfl) (List.mem_of_getElem? (i := 2) rfl) (List.mem_of_getElem? (i := 5) rfl) (List.mem_of_getElem? (i := 4) rfl) (List.mem_of_getElem? (i := 6) rfl))).mono fun e W' ⟨he, bel⟩ => ?_
  subst he
  exact ⟨_, rfl, _, _, _, [], _, _, hW', trodAll_mk1 (shut_bool Tryz.underlying4 _), (trodAll_cons_mk (Below.trod laidOut (by kernel_rfl) (of_decide_eq_true (by kernel_rfl)) k0 bel lt0) (trodAll_cons_mk (Below.trod laidOut (by kernel_rfl) (of_decide_eq_true (by kernel_rfl)) k1 bel lt1) (trodAll_cons_mk (Below.trod laidOut (by kernel_rfl) (of_decide_eq_true (by kernel_rfl)) k2 bel lt2) trodAll_mk0))), Below.trodVars laidOut bel (by kernel_rfl) hV, bel.frame _, fun h => by cases h⟩

theorem over : Rows.fnExactBuildWeightsRow.holds Tryz.pinned (OpenSpec.ofChange Rows.fnExactBuildWeightsSpec) :=
  OpenClaim.holds_of_wide 3 Tryz.f3 rfl rfl rfl rfl rfl rfl rfl ⟨rfl, rfl, rfl, rfl, rfl⟩ rfl rfl rfl rfl rfl (by kernel_rfl) Tryz.func3 (by kernel_rfl)
    (of_decide_eq_true (by kernel_rfl)) (by unfold Func.isWrapper; first | (rw [if_pos (by decide +kernel)]; kernel_rfl) | (rw [if_neg (by decide +kernel)]; exact ⟨rfl, rfl⟩))
    (fun os started H enc _ => lifted os started H enc)

theorem proved : Rows.FnExactBuildWeightsCardSaid :=
  Claim7.holds_tied_plain_at .later [] [.data, .data, .data, .data, .sentinel, .sentinel, .data, .pinned] true (true, "2aa40d7222637944a0175f9af1b9353192b856fdc58c5b2d50650ca97191a910") true
    over (fun _ h => by cases h) (by kernel_rfl) (fun _ h => by cases h) fnExactBuildWeights_row_tie rfl ⟨rfl, rfl⟩ (by kernel_rfl) rfl
    (fun f fn hf hfn => by
      obtain rfl : f = 3 := Option.some.inj ((show Tryz.prog.funcNamed "loop.example/g01923/laws.FnExactBuildWeights" = some 3 by kernel_rfl).symm.trans hf) |>.symm
      obtain rfl : fn = Tryz.f3 := (Option.some.inj (Tryz.func3.symm.trans hfn)).symm
      exact ⟨by kernel_rfl, fun j t ht => by
        rw [Tryz.params3] at ht
        rcases j with _ | _ | _ | j
        · obtain rfl : 22 = t := by simpa using ht
          exact (show Tryz.prog.wantsStandIn 22 = false by kernel_rfl)
        · obtain rfl : 25 = t := by simpa using ht
          exact (show Tryz.prog.wantsStandIn 25 = false by kernel_rfl)
        · obtain rfl : 28 = t := by simpa using ht
          exact (show Tryz.prog.wantsStandIn 28 = false by kernel_rfl)
        · simp at ht⟩)
    (by kernel_rfl)
#print axioms proved
end Go.Proofs.YtihglnbaoadmcaaGreatDoor.lawBuildWeights
