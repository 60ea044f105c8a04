/-
  FnWeights: whatever bytes come in, the law returns true, and all read afterwards as they did. The tables that the row lists are as the row says; the one that it names and does not lay holds some number.
-/
import Derived.Test.YtihglnbaoadmcaaGreatDoorZFnWeights6
import Derived.Test.YtihglnbaoadmcaaGreatDoorCards
import Derived.Test.YtihglnbaoadmcaaGreatDoorTie
import Derived.ChangeMaps5
import Derived.ChangeVars
import Derived.OpenVars
import Derived.LaidMore
import Derived.Lay
import Derived.SevenTiedAt
import Derived.Stop.Joined
namespace Go.Proofs.YtihglnbaoadmcaaGreatDoor.lawFnWeights
open Go.ChangeShapes Go.WideShapes Go.ChangeAt Go.RowKit
open Go.Sh (ri rr rc rby VRel LRel noj)
set_option linter.unusedVariables false
set_option linter.unusedSimpArgs false

theorem own : ownKnob Tryz.prog.godebug = none := by kernel_rfl
theorem laidOut : laidOutB Tryz.prog = true := by kernel_rfl

set_option maxRecDepth 100000 in
theorem lifted (os : Os) (started : os.Started) (H : Type) (enc : TypeId × Value → H) :
    ReturnsInHanded {} Tryz.checked os 4 .any (fun w args => (Rows.fnWeightsSpec.pre enc Tryz.prog Tryz.f4 Rows.fnWeightsRow.domain false w args ∧ laidMetH Tryz.prog Rows.fnWeightsRow.laid w) ∧ sizedMet enc Tryz.prog Tryz.f4 (OpenSpec.ofChange Rows.fnWeightsSpec) false w args) (Rows.fnWeightsSpec.post enc Tryz.prog Tryz.f4 false true false false) := by
  refine Go.Sh.retShaped (C := Tryz.checked) (X := fun w _ => laidMetH Tryz.prog Rows.fnWeightsRow.laid w) (fun _ _ _ hh h => h.of_heap hh) own started (by kernel_rfl) Tryz.func4
    (ChangeSpec.witness_shaped (enc := enc) (C := Tryz.checked) (os := os) (X := fun w _ => laidMetH Tryz.prog Rows.fnWeightsRow.laid w) false (World.laidAll Tryz.prog os Rows.fnWeightsRow.laid) #[.slice none 0 0] 8 (World.laidAll_os _ _ _)
      (World.shaped_of_ZipB (by kernel_rfl) (by kernel_rfl)) (by kernel_rfl) (by kernel_rfl) (by kernel_rfl)
      (by rw [MakeChecks.laidMetH_plain _ _ _ (by kernel_rfl)]; exact laidMet_laidAll _ (by kernel_rfl) (by kernel_rfl))) ?_
  intro W base args ds gs before hS hval0 hW hL
  have hval : ∀ (j : Nat) t v, Tryz.f4.params[j]? = some t → args[j]? = some v → Value.okWide Tryz.prog W .any base t v := hval0
  have hW' := hW
  obtain ⟨p, q, hA0, hV, rfl, hfz, hnd⟩ := hW
  have hA : DataW.TrodAll enc Tryz.prog W 0 (fun _ => true) true Tryz.f4.params.toList args.toList ds p := hA0
  rw [Tryz.params4] at hA hval
  obtain ⟨v0, vs0, d0, ds0, p0, q0, hargs, rfl, rfl, h0, r0⟩ := trodAll_cons hA
  obtain ⟨rfl, rfl, rfl⟩ := trodAll_nil r0
  obtain rfl : args = #[v0] := by cases args; simp_all
  have hVk := hV
  obtain ⟨_, _, _, _, gd, _, rfl, _, _, _, _, _⟩ := trodVars_one hVk
  have k0 := h0
  have lt0 : ∀ x ∈ p0, x.block < W.heap.size := by obtain ⟨m, hm⟩ := k0; exact DataW.trod_lt m _ _ _ hm
  obtain ⟨a0, len0, cap0, e0⟩ := okWide_slice Tryz.underlying51 (hval 0 51 v0 rfl rfl)
  obtain ⟨L0, z0, w0⟩ : ∃ L, VRel (fun _ => False) W noj (rby L) v0 ∧ L.length ≤ maxLen := by
    obtain ⟨fuel, hf⟩ := h0
    rw [e0] at hf ⊢
    exact Go.Sh.cell_bys Tryz.underlying51 Tryz.underlying5 (by kernel_rfl) (v := .slice a0 len0 cap0) (by simpa [Value.cells] using hf)
  clear hA0 hval0
  have hrel : LRel (fun _ => False) W noj [rby L0] [v0] := by
    simp only [LRel]
    exact ⟨_, _, rfl, z0, rfl⟩
  refine (Go.Sh.PCall.law (Go.Sh.Tryz.fnWeights_ok L0 w0) hrel (Go.Sh.Tryz.tabOkC hS hL (by kernel_rfl) (List.mem_of_getElem? (i := 2) rfl) (List.mem_of_getElem? (i := 5) rfl) (List.mem_of_getElem? (i := 4) rfl) (List.mem_of_getElem? (i := 6) rfl))).mono fun e W' ⟨he, bel⟩ => ?_
  subst he
  exact ⟨_, rfl, _, _, _, [], _, _, hW', trodAll_mk1 (shut_bool Tryz.underlying4 _), (trodAll_cons_mk (Below.trod laidOut (by kernel_rfl) (of_decide_eq_true (by kernel_rfl)) k0 bel lt0) trodAll_mk0), Below.trodVars laidOut bel (by kernel_rfl) hV, bel.frame _, fun h => by cases h⟩

theorem over : Rows.fnWeightsRow.holds Tryz.pinned (OpenSpec.ofChange Rows.fnWeightsSpec) :=
  OpenClaim.holds_of_wide 4 Tryz.f4 rfl rfl rfl rfl rfl rfl rfl ⟨rfl, rfl, rfl, rfl, rfl⟩ rfl rfl rfl rfl rfl (by kernel_rfl) Tryz.func4 (by kernel_rfl)
    (of_decide_eq_true (by kernel_rfl)) (by unfold Func.isWrapper; first | (rw [if_pos (by decide +kernel)]; kernel_rfl) | (rw [if_neg (by decide +kernel)]; exact ⟨rfl, rfl⟩))
    (fun os started H enc _ => lifted os started H enc)

theorem proved : Rows.FnWeightsCardSaid :=
  Claim7.holds_tied_plain_at .later [] [.data, .data, .data, .data, .sentinel, .sentinel, .data, .pinned] true (true, "2aa40d7222637944a0175f9af1b9353192b856fdc58c5b2d50650ca97191a910") true
    over (fun _ h => by cases h) (by kernel_rfl) (fun _ h => by cases h) fnWeights_row_tie rfl ⟨rfl, rfl⟩ (by kernel_rfl) rfl
    (fun f fn hf hfn => by
      obtain rfl : f = 4 := Option.some.inj ((show Tryz.prog.funcNamed "loop.example/g01923/laws.FnWeights" = some 4 by kernel_rfl).symm.trans hf) |>.symm
      obtain rfl : fn = Tryz.f4 := (Option.some.inj (Tryz.func4.symm.trans hfn)).symm
      exact ⟨by kernel_rfl, fun j t ht => by
        rw [Tryz.params4] at ht
        have h3 : t = 51 := by
          rcases j with _ | j
          · simpa using ht.symm
          · simp at ht
        subst h3
        exact (show Tryz.prog.wantsStandIn 51 = false by kernel_rfl)⟩)
    (by kernel_rfl)
#print axioms proved
end Go.Proofs.YtihglnbaoadmcaaGreatDoor.lawFnWeights
