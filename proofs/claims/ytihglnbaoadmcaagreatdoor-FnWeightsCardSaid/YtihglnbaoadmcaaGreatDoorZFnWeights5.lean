/-
  Texts put together: FW4, RF3, RF4, RH1, RF5, NL1, RF6, RF7, RF8, RF9, ShR, RD1, FW1, RD2, RD3, RD4, RD5, FW2, FW3, DA3, DA4, DA8. What each proves stands at its own head, with its conditions.
-/
import Derived.Test.YtihglnbaoadmcaaGreatDoorZFnWeights4

set_option linter.unusedSimpArgs false
set_option linter.unusedVariables false
/-
  Plain law of the weights: what the features and the weights are at most, their sign.
-/
namespace Go.Sh
open Go Go.Proofs

theorem escore_b (a b : List UInt8) : 0 ≤ escore a b ∧ escore a b ≤ 1000 := by
  rw [escore]
  split
  · omega
  · rename_i h
    split
    · omega
    · rename_i h2
      have := dist_le (a := a) (b := b)
      exact td_b (by omega) (by omega) (by omega)
theorem tsc_b (a b : List UInt8) : 0 ≤ tsc a b ∧ tsc a b ≤ 1000 := by
  rw [tsc]; split
  · omega
  · exact escore_b _ _
theorem sts_b {A B : List Wd} (hA : Asc A) (hB : Asc B) : 0 ≤ sts A B ∧ sts A B ≤ 1000 := by
  rw [sts]; split
  · omega
  · rw [jac]
    have h1 := com_le A B
    have h2 := com_le B A
    rw [com_symm hB hA] at h2
    split
    · omega
    · exact td_b (by omega) (by omega) (by omega)
theorem nsc_b (p q : Int) : 0 ≤ nsc p q ∧ nsc p q ≤ 1000 := by
  rw [nsc]
  generalize hd : (if p < q then q - p else p - q) = d
  have : 0 ≤ d := by rw [← hd]; split <;> omega
  split
  · omega
  · exact td_b (by omega) (by omega) (by omega)
theorem ysc_b (a b : List UInt8) : 0 ≤ ysc a b ∧ ysc a b ≤ 1000 := by
  rw [ysc]; split
  · omega
  · exact nsc_b _ _
theorem phs_b (a b : List UInt8) : 0 ≤ phs a b ∧ phs a b ≤ 1000 := by
  rw [phs, phd]
  split
  · omega
  · split
    · omega
    · split <;> omega
theorem inR_t {x a b : Int} (h0 : a ≤ x) (h1 : x ≤ b) : inR x a b = true := by simp [inR]; omega
theorem pf_fv (F G : List Wd) : isFV (pf F G) = true := by
  have a1 := tsc_b (F.getD 0 []) (G.getD 0 [])
  have a2 := sts_b (tks_ts (F.getD 0 [])).1 (tks_ts (G.getD 0 [])).1
  have a3 := sts_b (sks_ts (F.getD 0 [])).1 (sks_ts (G.getD 0 [])).1
  have a4 := tsc_b (F.getD 1 []) (G.getD 1 [])
  have a5 := ysc_b (F.getD 2 []) (G.getD 2 [])
  have a6 := phs_b (F.getD 3 []) (G.getD 3 [])
  rw [isFV, pf]
  simp only [List.length_cons, List.length_nil, List.all_cons, List.all_nil, inR_t a1.1 a1.2, inR_t a2.1 a2.2, inR_t a3.1 a3.2, inR_t a4.1 a4.2, inR_t a5.1 a5.2, inR_t a6.1 a6.2]
  rfl
theorem dot_le {f W : List Int} (hl : W.length = 6) (hf : ∀ i, i < 6 → 0 ≤ f.getD i 0 ∧ f.getD i 0 ≤ 1000) (hW : ∀ i, i < 6 → 0 ≤ W.getD i 0) : ∀ k, k ≤ 6 → 0 ≤ dot f W k ∧ dot f W k ≤ 1000 * wsum W k
  | 0, _ => by simp [dot, wsum]
  | k + 1, hk => by
    have ih := dot_le hl hf hW k (by omega)
    have h1 := hf k (by omega)
    have h2 := hW k (by omega)
    have p1 := Int.mul_nonneg h1.1 h2
    have p2 := Int.mul_le_mul_of_nonneg_right h1.2 h2
    rw [dot, wsum_succ (by omega)]
    omega
theorem pwt_b (R : List (List Con)) (W : List Int) (b : Int) (f : List Int) : -1000 ≤ pwt R W b f ∧ pwt R W b f ≤ 1000 := by
  rw [pwt]
  split
  · rename_i h
    rw [Bool.and_eq_true, Bool.and_eq_true] at h
    obtain ⟨_, h2, h3⟩ := h
    obtain ⟨f1, f2⟩ := isFV_t h3
    have hs := h2
    rw [isSc, Bool.and_eq_true, Bool.and_eq_true, Bool.and_eq_true, decide_eq_true_eq, decide_eq_true_eq] at hs
    obtain ⟨s1, s2, s3, s4⟩ := hs
    have hb := inR_of s4
    rw [s2] at s3
    have hW : ∀ i, i < 6 → 0 ≤ W.getD i 0 := fun i hi => (inR_of ((all_getD 0).1 s1 i (by omega))).1
    obtain ⟨d1, d2⟩ := dot_le s2 f2 hW 6 (by omega)
    have q0 : 0 ≤ (dot f W 6).tdiv (wsum W 6) := Int.tdiv_nonneg d1 (by omega)
    have q1 : (dot f W 6).tdiv (wsum W 6) ≤ 1000 := by
      rw [Int.tdiv_eq_ediv_of_nonneg d1]
      exact Int.ediv_le_of_le_mul s3 (by omega)
    split <;> split <;> omega
  · omega
theorem pwt_sg {R : List (List Con)} {W : List Int} {b : Int} {f : List Int} (h1 : isVR R = true) (h2 : isSc W b = true) (h3 : isFV f = true) : decide (0 < pwt R W b f) = decide (0 ≤ fr R f) := by
  have e : pwt R W b f = if 0 ≤ fr R f then (if (dot f W 6).tdiv (wsum W 6) - b < 1 then 1 else (dot f W 6).tdiv (wsum W 6) - b) else (if -1 < (dot f W 6).tdiv (wsum W 6) - b then -1 else (dot f W 6).tdiv (wsum W 6) - b) := by
    rw [pwt, h1, h2, h3]; rfl
  by_cases h : 0 ≤ fr R f
  · rw [if_pos h] at e
    have : 0 < pwt R W b f := by rw [e]; split <;> omega
    rw [decide_eq_true this, decide_eq_true h]
  · rw [if_neg h] at e
    have : ¬ 0 < pwt R W b f := by rw [e]; split <;> omega
    rw [decide_eq_false this, decide_eq_false h]
theorem okBW_facts {R : List Rec} {Q : List (List Con)} {W : List Int} {b : Int} (h : okBW R Q W b = true) : vAll R = true ∧ (1 ≤ R.length ∧ R.length ≤ 8) ∧ isVR Q = true ∧ isSc W b = true := by
  rw [okBW, Bool.and_eq_true, Bool.and_eq_true, Bool.and_eq_true] at h
  have := inR_of h.2.1
  exact ⟨h.1, ⟨by omega, by omega⟩, h.2.2⟩
theorem bwM_WM {R : List Rec} {Q : List (List Con)} {W : List Int} {b : Int} (h : okBW R Q W b = true) : WM (bwM R Q W b) := by
  obtain ⟨_, h8, _, _⟩ := okBW_facts h
  have hs : SqI R.length (bwM R Q W b) := genM_sq _ _
  have hl := hs.1
  refine ⟨by rw [hl]; exact h8, fun i hi => by rw [hl] at hi ⊢; exact hs.2 i hi, fun i k hi hk => ?_, fun i hi => ?_⟩
  · rw [hl] at hi hk
    rw [bwM, genM_at hi hk, genM_at hk hi]
    refine ⟨?_, bw_symm R Q W b i k⟩
    rw [bw]; split
    · omega
    · exact pwt_b _ _ _ _
  · rw [hl] at hi
    rw [bwM, genM_at hi hi, bw_eq]
end Go.Sh

/-
  A test read back: contracts.
-/
namespace Go.Sh
open Go Go.Proofs

end Go.Sh

/-
  Rules formatted: of the program.
-/
namespace Go.Sh
open Go Go.Proofs

theorem join_le {sep : List UInt8} {m : Nat} : ∀ {L : List (List UInt8)}, (∀ q ∈ L, q.length ≤ m) → (Lib.join L sep).length ≤ L.length * (m + sep.length)
  | [], _ => by simp [Lib.join_nil]
  | [p], h => by rw [Lib.join_one]; have := h p (by simp); simp; omega
  | p :: q :: L, h => by
    have e : Lib.join (p :: q :: L) sep = p ++ sep ++ Lib.join (q :: L) sep := by
      rw [Lib.join_cons, Lib.join_cons]; simp [Lib.joinTail]
    have ih := join_le (sep := sep) (m := m) (L := q :: L) fun r hr => h r (List.mem_cons_of_mem _ hr)
    have h1 := h p (by simp)
    rw [e, List.length_cons, Nat.succ_mul]
    simp only [List.length_append]; omega
theorem fmtRu_len {T : List Con} (h : ∀ c ∈ T, OkC c) : (fmtRu T).length ≤ T.length * 601 := by
  have := join_le (sep := [44]) (m := 600) (L := T.map fmtT) (fun q hq => by
    obtain ⟨c, hc, rfl⟩ := List.mem_map.1 hq
    exact (fmtT_len (h c hc)).2)
  simpa [fmtRu] using this
theorem fmtR_len {R : List (List Con)} (h : isVR R = true) : (fmtR R).length ≤ 6000 := by
  obtain ⟨h1, h2⟩ := isVR_facts h
  have := join_le (sep := orB) (m := 1803) (L := R.map fmtRu) (fun q hq => by
    obtain ⟨T, hT, rfl⟩ := List.mem_map.1 hq
    have h3 := fmtRu_len (h2 T hT).2
    have := (h2 T hT).1
    omega)
  rw [fmtR, if_pos h]
  simp [orB] at this
  simp only [orB]; omega
end Go.Sh

/-
  Sets of rules in memory of their own: an outer block, a block for each rule's tests.
-/
namespace Go.Sh
open Go Go.Proofs

structure RuH (H : Heap) (lo : Nat) (R : List (List Con)) (ob : Nat) (cs : List SV) (nm : Nat → Nat) : Prop where
  ln : cs.length = R.length
  o : R.length ≠ 0 → H.map ob = some ⟨cs, false⟩
  row : ∀ i, i < R.length → cs[i]? = some (nlG 3 (nm i) (rg R i).length) ∧ ((rg R i).length ≠ 0 → H.map (nm i) = some ⟨cons (rg R i), false⟩ ∧ lo ≤ nm i ∧ nm i < H.nb ∧ nm i ≠ ob)
  inj : ∀ i j, i < R.length → j < R.length → (rg R i).length ≠ 0 → (rg R j).length ≠ 0 → nm i = nm j → i = j
  lo1 : R.length ≠ 0 → lo ≤ ob ∧ ob < H.nb
theorem RuH.nil {H : Heap} {lo ob : Nat} {nm : Nat → Nat} : RuH H lo [] ob [] nm := ⟨rfl, fun h => absurd rfl h, fun i hi => absurd hi (by simp), fun i j hi => absurd hi (by simp), fun h => absurd rfl h⟩
theorem RuH.fr {H H' : Heap} {lo ob : Nat} {R : List (List Con)} {cs : List SV} {nm : Nat → Nat} (h : RuH H lo R ob cs nm) (hn : H.nb ≤ H'.nb) (hf : ∀ b, lo ≤ b → b < H.nb → H'.map b = H.map b) : RuH H' lo R ob cs nm := by
  refine ⟨h.ln, fun h0 => ?_, fun i hi => ⟨(h.row i hi).1, fun h0 => ?_⟩, h.inj, fun h0 => ?_⟩
  · have := h.lo1 h0
    rw [hf _ this.1 this.2, h.o h0]
  · obtain ⟨g1, g2, g3, g4⟩ := (h.row i hi).2 h0
    exact ⟨by rw [hf _ g2 g3, g1], g2, by omega, g4⟩
  · have := h.lo1 h0; omega
theorem RuH.low {H : Heap} {lo lo2 ob : Nat} {R : List (List Con)} {cs : List SV} {nm : Nat → Nat} (h : RuH H lo R ob cs nm) (hl : lo2 ≤ lo) : RuH H lo2 R ob cs nm :=
  ⟨h.ln, h.o, fun i hi => ⟨(h.row i hi).1, fun h0 => by obtain ⟨g1, g2, g3, g4⟩ := (h.row i hi).2 h0; exact ⟨g1, by omega, g3, g4⟩⟩, h.inj, fun h0 => by have := h.lo1 h0; omega⟩
theorem rg_lt {R S : List (List Con)} {i : Nat} (h : i < R.length) : rg (R ++ S) i = rg R i := by simp [rg, h, List.getElem?_append_left h]
theorem rg_at {R : List (List Con)} {T : List Con} : rg (R ++ [T]) R.length = T := by simp [rg]
theorem RuH.snoc {H H' : Heap} {lo ob ob' tb : Nat} {R : List (List Con)} {T : List Con} {cs : List SV} {nm : Nat → Nat} (h : RuH H lo R ob cs nm) (hlo : lo ≤ H.nb) (ho : H'.map ob' = some ⟨cs ++ [nlG 3 tb T.length], false⟩)
    (hr : T.length ≠ 0 → H'.map tb = some ⟨cons T, false⟩ ∧ H.nb ≤ tb ∧ tb < H'.nb ∧ tb ≠ ob')
    (hf : ∀ b, lo ≤ b → b < H.nb → (R.length ≠ 0 → b ≠ ob) → H'.map b = H.map b) (hn : H.nb ≤ H'.nb) (h1 : H.nb ≤ ob' ∧ ob' < H'.nb) : RuH H' lo (R ++ [T]) ob' (cs ++ [nlG 3 tb T.length]) (fun i => if i < R.length then nm i else tb) := by
  refine ⟨by simp [h.ln], fun _ => ho, fun i hi => ?_, fun i j hi hj hi0 hj0 hij => ?_, fun _ => by omega⟩
  · by_cases hlt : i < R.length
    · obtain ⟨g1, g2⟩ := h.row i hlt
      refine ⟨by rw [List.getElem?_append_left (by rw [h.ln]; exact hlt), g1, rg_lt hlt, if_pos hlt], fun h0 => ?_⟩
      rw [rg_lt hlt] at h0 ⊢
      obtain ⟨k1, k2, k3, k4⟩ := g2 h0
      rw [if_pos hlt]
      exact ⟨by rw [hf _ k2 k3 (fun _ => k4), k1], k2, by omega, by omega⟩
    · have : i = R.length := by simp at hi; omega
      subst this
      refine ⟨by rw [rg_at, if_neg (by omega), ← h.ln]; simp, fun h0 => ?_⟩
      rw [rg_at] at h0 ⊢
      rw [if_neg (by omega)]
      obtain ⟨k1, k2, k3, k4⟩ := hr h0
      exact ⟨k1, by omega, k3, k4⟩
  · simp only [List.length_append, List.length_singleton] at hi hj
    by_cases a : i < R.length <;> by_cases b : j < R.length
    · rw [rg_lt a] at hi0
      rw [rg_lt b] at hj0
      simp only [a, b, if_true] at hij
      exact h.inj i j a b hi0 hj0 hij
    · rw [rg_lt a] at hi0
      obtain rfl : j = R.length := by omega
      rw [rg_at] at hj0
      simp only [a, b, if_true, if_false] at hij
      have := (h.row i a).2 hi0
      have := (hr hj0).2.1
      omega
    · rw [rg_lt b] at hj0
      obtain rfl : i = R.length := by omega
      rw [rg_at] at hi0
      simp only [a, b, if_true, if_false] at hij
      have := (h.row j b).2 hj0
      have := (hr hi0).2.1
      omega
    · omega
theorem view_ownK {H : Heap} {b n f cap : Nat} {ex : Bool} {e2 : Bool} {C : List Con} (hb : H.map b = some ⟨cons C, e2⟩) (hn : n = C.length) : Sh.view H (f + 1) (.own b 0 n cap 3 ex) = some (rc C) := by
  subst hn
  have hv : ∀ (C : List Con), viewL H f (cons C) = some (cons C) := by
    intro C
    induction C with
    | nil => exact z7
    | cons c C ih => exact z6 z8 (z6 z8 (z6 zg ih))
  have hl := cons_length C
  have ht : (cons C).take (C.length * 3) = cons C := List.take_of_length_le (by omega)
  simp only [Sh.view, hb, List.drop_zero, ht, hv]
  rw [if_pos (by omega), rc]
theorem RuH.view {H : Heap} {lo ob : Nat} {R : List (List Con)} {cs : List SV} {nm : Nat → Nat} {f : Nat} (h : RuH H lo R ob cs nm) : Sh.view H (f + 2) (nlG 1 ob R.length) = some (rR R) := by
  by_cases h0 : R.length = 0
  · rw [nlG_t h0]
    obtain rfl : R = [] := List.length_eq_zero_iff.1 h0
    exact view_nil
  rw [nlG_f h0]
  have hL : viewL H (f + 1) cs = some (rules R) := by
    have hr : ∀ i, i < R.length → ∃ s, cs[i]? = some s ∧ Sh.view H (f + 1) s = some (rc (rg R i)) := fun i hi => by
      obtain ⟨h1, h2⟩ := h.row i hi
      refine ⟨_, h1, ?_⟩
      by_cases z : (rg R i).length = 0
      · rw [nlG_t z, List.length_eq_zero_iff.1 z]; exact view_nil
      · rw [nlG_f z]
        exact view_ownK (h2 z).1 rfl
    have hln := h.ln
    clear h h0
    induction cs generalizing R with
    | nil =>
      have : R = [] := List.length_eq_zero_iff.1 hln.symm
      subst this
      exact z7
    | cons s cs ih =>
      cases R with
      | nil => simp at hln
      | cons T R =>
        refine z6 ?_ (ih (R := R) (fun i hi => ?_) (by simpa using hln))
        · obtain ⟨s', h1, h2⟩ := hr 0 (by simp)
          simp at h1; subst h1
          exact h2
        · obtain ⟨s', h1, h2⟩ := hr (i + 1) (by simpa using hi)
          exact ⟨s', by simpa using h1, h2⟩
  simp only [Sh.view, h.o h0, Nat.mul_one, List.drop_zero]
  have hle : R.length ≤ cs.length := by rw [h.ln]; omega
  rw [if_pos (by omega), ← h.ln, List.take_length, hL]
  simp only [rR, h.ln]
theorem RuH.part {H : Heap} {lo ob : Nat} {R : List (List Con)} {cs : List SV} {nm : Nat → Nat} (h : RuH H lo R ob cs nm) (p : Nat → Prop) [DecidablePred p] (h1 : R.length ≠ 0 → p ob) (h2 : ∀ i, i < R.length → (rg R i).length ≠ 0 → p (nm i)) : RuH (Sh.part H p) lo R ob cs nm :=
  ⟨h.ln, fun h0 => by rw [part_map (h1 h0), h.o h0], fun i hi => by
    obtain ⟨g1, g2⟩ := h.row i hi
    refine ⟨g1, fun h0 => ?_⟩
    obtain ⟨k1, k2, k3, k4⟩ := g2 h0
    exact ⟨by rw [part_map (h2 i hi h0), k1], k2, k3, k4⟩, h.inj, h.lo1⟩
theorem noRow_nlG (z b n : Nat) : noRow (nlG z b n) = true := by unfold nlG; split <;> rfl
theorem RuH.nr {H : Heap} {lo ob : Nat} {R : List (List Con)} {cs : List SV} {nm : Nat → Nat} (h : RuH H lo R ob cs nm) : noRowL cs = true :=
  noRowL_of fun s hs => by
    obtain ⟨i, hi, rfl⟩ := List.getElem_of_mem hs
    obtain ⟨h1, _⟩ := h.row i (by rw [← h.ln]; exact hi)
    rw [List.getElem?_eq_getElem hi] at h1
    simp at h1
    rw [h1]; exact noRow_nlG _ _ _
theorem noRowL_cons (C : List Con) : noRowL (cons C) = true := isVal_noRow (cons_vals C)
end Go.Sh

/-
  Rules read back: of the program.
-/
namespace Go.Sh
open Go Go.Proofs

theorem take_rg {R : List (List Con)} {k : Nat} (h : k < R.length) : R.take k ++ [rg R k] = R.take (k + 1) := by
  have e : rg R k = R[k] := by simp [rg, h]
  rw [List.take_succ_eq_append_getElem h, e]
theorem take_cg {T : List Con} {j : Nat} (h : j < T.length) : cons (T.take j) ++ [.val (.int .i64 (cg T j).1), .val (.int .i64 (cg T j).2.1), .val (.bool (cg T j).2.2)] = cons (T.take (j + 1)) := by
  have e : cg T j = T[j] := by simp [cg, h]
  rw [List.take_succ_eq_append_getElem h, e, cons, cons, List.flatMap_append, List.flatMap_singleton]; rfl
theorem repC : rep [SV.val (.int .i64 0), SV.val (.int .i64 0), SV.val (.bool false)] 3 = [SV.val (.int .i64 0), SV.val (.int .i64 0), SV.val (.bool false)] := rfl
end Go.Sh

/-
  A slice of ints that is nil as long as it is empty.
-/
namespace Go.Sh
open Go Go.Proofs

def nlI (b : Nat) (T : List Int) : SV := if T.length = 0 then .val (.slice none 0 0) else .own b 0 T.length T.length 1 false
def nlH (b : Nat) (T : List Int) : List (Nat × Blk) := if T.length = 0 then [] else [(b, ⟨ints T, false⟩)]
theorem nlI_f {b : Nat} {T : List Int} (h : T.length ≠ 0) : nlI b T = .own b 0 T.length T.length 1 false := if_neg h
theorem nlH_f {b : Nat} {T : List Int} (h : T.length ≠ 0) : nlH b T = [(b, ⟨ints T, false⟩)] := if_neg h
theorem nlI_t {b : Nat} {T : List Int} (h : T.length = 0) : nlI b T = .val (.slice none 0 0) := if_pos h
theorem nlH_t {b : Nat} {T : List Int} (h : T.length = 0) : nlH b T = [] := if_pos h
theorem nlH_in {b : Nat} {T : List Int} {H : Heap} (h : T.length ≠ 0 → H.map b = some ⟨ints T, false⟩) : ∀ q ∈ nlH b T, H.map q.1 = some q.2 := by
  intro q hq
  unfold nlH at hq
  split at hq
  · simp at hq
  · rename_i h0
    simp at hq; subst hq
    exact h h0
end Go.Sh

/-
  Feature vectors as text: of the program.
-/
namespace Go.Sh
open Go Go.Proofs

theorem fname_len {i : Nat} (h : i < 6) : (fname i).length ≤ 6 := by
  have : i = 0 ∨ i = 1 ∨ i = 2 ∨ i = 3 ∨ i = 4 ∨ i = 5 := by omega
  rcases this with rfl | rfl | rfl | rfl | rfl | rfl <;> decide
end Go.Sh

/-
  Rules formatted, a test read: of the reference.
-/
namespace Go.Sh
open Go Go.Proofs

theorem jn_snoc (L : List (List UInt8)) (x sep : List UInt8) : Lib.join (L ++ [x]) sep = Lib.join L sep ++ (if L.length = 0 then [] else sep) ++ x := by
  by_cases h : L = []
  · subst h; simp [Lib.join_nil, Lib.join_one]
  · rw [join_snoc _ _ _ h, if_neg (fun e => h (List.length_eq_zero_iff.1 e))]
def sepI (k : Nat) (s : List UInt8) : List UInt8 := if k = 0 then [] else s
def ra (R : List (List Con)) (i : Nat) : List UInt8 := Lib.join ((R.take i).map fmtRu) orB
def rs (R : List (List Con)) (i j : Nat) : List UInt8 := ra R i ++ sepI i orB ++ Lib.join (((rg R i).take j).map fmtT) [44]
theorem rs_zero (R : List (List Con)) (i : Nat) : rs R i 0 = ra R i ++ sepI i orB := by rw [rs, List.take_zero, List.map_nil, Lib.join_nil, List.append_nil]
theorem rs_succ {R : List (List Con)} {i j : Nat} (h : j < (rg R i).length) : rs R i (j + 1) = rs R i j ++ sepI j [44] ++ fmtT (cg (rg R i) j) := by
  have e : cg (rg R i) j = (rg R i)[j] := by simp [cg, h]
  rw [rs, rs, List.take_succ_eq_append_getElem h, List.map_append, List.map_cons, List.map_nil, jn_snoc, e, List.length_map, List.length_take, sepI]
  rw [show min j (rg R i).length = j by omega]
  simp only [List.append_assoc, sepI]
theorem rs_all {R : List (List Con)} {i : Nat} (h : i < R.length) : rs R i (rg R i).length = ra R (i + 1) := by
  have e : rg R i = R[i] := by simp [rg, h]
  rw [rs, List.take_length, ra, ra, List.take_succ_eq_append_getElem h, List.map_append, List.map_cons, List.map_nil, jn_snoc, ← e, List.length_map, List.length_take, sepI, fmtRu]
  rw [show min i R.length = i by omega]
theorem ra_len {R : List (List Con)} (h : isVR R = true) {i : Nat} (hi : i ≤ R.length) : (ra R i).length ≤ 6000 := by
  obtain ⟨h1, h2⟩ := isVR_facts h
  have := join_le (sep := orB) (m := 1803) (L := (R.take i).map fmtRu) (fun q hq => by
    obtain ⟨T, hT, rfl⟩ := List.mem_map.1 hq
    have hT := List.mem_of_mem_take hT
    have h3 := fmtRu_len (h2 T hT).2
    have := (h2 T hT).1
    omega)
  rw [List.length_map, List.length_take] at this
  have e4 : orB.length = 4 := rfl
  rw [e4] at this
  rw [ra]; omega
theorem rs_len {R : List (List Con)} (h : isVR R = true) {i j : Nat} (hi : i < R.length) (hj : j ≤ (rg R i).length) : (rs R i j).length ≤ 9000 := by
  obtain ⟨h1, h2⟩ := isVR_facts h
  have h3 := h2 (rg R i) (by simp [rg, hi])
  have h4 := ra_len h (i := i) (by omega)
  have := join_le (sep := [44]) (m := 600) (L := ((rg R i).take j).map fmtT) (fun q hq => by
    obtain ⟨c, hc, rfl⟩ := List.mem_map.1 hq
    exact (fmtT_len (h3.2 c (List.mem_of_mem_take hc))).2)
  rw [List.length_map, List.length_take] at this
  have h5 : (sepI i orB).length ≤ 4 := by unfold sepI; split <;> decide
  have e1 : ([44] : List UInt8).length = 1 := rfl
  rw [e1] at this
  rw [rs, List.length_append, List.length_append]; omega
theorem Tryz.featName_ok {f : Nat} (h : f < 6) : PCall Tryz.prog 200 [.val (.int .i64 f)] (str (fname f)) := by
  have w := Tryz.l1In_ok (f : Int) 0 5
  rw [inR_tt (by omega) (by omega)] at w
  have hg : (strs fnm)[f]? = some (str (fname f)) := nmV_load h
  have hl : (strs fnm).length = 6 := rfl
  refine FCall.pcall (R := fun r _ => r = str (fname f)) ?_ 0 (by rintro r H rfl; exact zd)
  refine FCall.of_body Tryz.func200 rfl (by kernel_rfl) (by simp [Tryz.ntmps200]) ?_
  refine SW_of_vc Tryz.mixed _ _ _ (by kernel_rfl) ?_
  simp (disch := omega) only [go_sem]
  refine w.callV 0 (z6 (z8) (z6 (z8) (z6 (z8) z7))) ?_
  have hrep : List.replicate 6 (SV.val (Value.string (sb []))) = [str [], str [], str [], str [], str [], str []] := rfl
  have hcs : [str [110, 97, 109, 101], str [116, 111, 107, 101, 110, 115], str [115, 111, 117, 110, 100], str [99, 105, 116, 121], str [121, 101, 97, 114], str [112, 104, 111, 110, 101]] = strs fnm := rfl
  simp (disch := omega) only [go_sem, hrep, List.set_cons_zero, List.set_cons_succ, List.length_cons, List.length_nil, hcs, hg, hl]
  exact Fin.val rfl
set_option maxRecDepth 20000 in
set_option maxHeartbeats 8000000 in
theorem Tryz.specFmR_ok (R : List (List Con)) (hv : isVR R = true) : PCall Tryz.prog 153 [.agg [rR R]] (str (fmtR R)) := by
  obtain ⟨⟨hR1, hR3⟩, hok⟩ := isVR_facts hv
  have hT : ∀ i, i < R.length → (rg R i).length ≤ 1048576 := fun i hi => by have := (hok (rg R i) (by simp [rg, hi])).1; omega
  have w := Tryz.specVR_ok R (by omega) hT
  rw [hv] at w
  have hrl := rules_length R
  refine FCall.pcall (R := fun r _ => r = str (fmtR R)) ?_ 0 (by rintro r H rfl; exact zd)
  refine FCall.of_body Tryz.func153 rfl (by kernel_rfl) (by simp [Tryz.ntmps153]) ?_
  refine SW_of_vc Tryz.mixed _ _ _ (by kernel_rfl) ?_
  simp (disch := omega) only [go_sem, rR]
  refine w.callV 1 (z6 zi z7) ?_
  simp (disch := omega) only [go_sem, rR]
  refine LoopW.loop (fun p : Nat × Nat => ⟨ofL [(1, .optr 0 0), (3, str (ra R p.1)), (4, .val (.int .i64 p.1))], hp [(0, ⟨[rR R], true⟩)] p.2⟩) (fun p => p.1 ≤ R.length ∧ 1 ≤ p.2) (fun p => R.length - p.1) (0, 1) ⟨by simp, by simp⟩ (Wk.of (by simp only [go_sem, ↓List.forall_mem_cons, List.not_mem_nil, false_implies, implies_true, and_true, true_and, and_self, ri_eq, Int.natCast_add, Int.cast_ofNat_Int, rR, show ra R 0 = [] from rfl]; try simp) rfl) ?_
  rintro ⟨i, nb⟩ ⟨hi, hnb⟩
  simp only at hi hnb
  have hral := ra_len hv hi
  refine SW_of_vc Tryz.mixed _ _ _ (by kernel_rfl) ?_
  by_cases hlt : i < R.length
  · have gk := rules_get hlt
    have gl := rules_load hlt
    have hz := rs_zero R i
    obtain ⟨⟨hT1, hT3⟩, hokT⟩ := hok (rg R i) (by simp [rg, hlt])
    have hrsl := fun j (hj : j ≤ (rg R i).length) => rs_len hv hlt hj
    have hsu := fun j (hj : j < (rg R i).length) => rs_succ (R := R) (i := i) (j := j) hj
    have hall := rs_all hlt
    have lC := cons_length (rg R i)
    by_cases hi0 : i = 0
    · have hz0 : rs R i 0 = ra R i := by rw [hz, sepI, if_pos hi0, List.append_nil]
      simp (disch := omega) only [go_sem, rR, gk, gl, hrl]
      refine LoopW.loop (fun p : Nat × Nat => ⟨ofL [(1, .optr 0 0), (3, str (rs R i p.1)), (4, .val (.int .i64 i)), (5, .val (.int .i64 p.1))], hp [(0, ⟨[rR R], true⟩)] p.2⟩) (fun p => p.1 ≤ (rg R i).length ∧ 1 ≤ p.2) (fun p => (rg R i).length - p.1) (0, nb) ⟨by simp, hnb⟩ (Wk.of (by simp only [go_sem, ↓List.forall_mem_cons, List.not_mem_nil, false_implies, implies_true, and_true, true_and, and_self, ri_eq, Int.natCast_add, Int.cast_ofNat_Int, rR, hz0]; try simp) rfl) ?_
      rintro ⟨j, nb2⟩ ⟨hj, hnb2⟩
      simp only at hj hnb2
      have hrj := hrsl j hj
      refine SW_of_vc Tryz.mixed _ _ _ (by kernel_rfl) ?_
      by_cases hltj : j < (rg R i).length
      · have hld := cons_load (C := rg R i) (k := j) hltj
        have hnx := hsu j hltj
        obtain ⟨⟨f, hf, hf6⟩, hb1, hb2⟩ := hokT (cg (rg R i) j) (by simp [cg, hltj])
        have wN := Tryz.featName_ok hf6
        have hfl := fname_len hf6
        have wI := Tryz.specFI_ok (cg (rg R i) j).2.1 (by omega) (by omega)
        have hil := itoa_k (x := (cg (rg R i) j).2.1) (by omega)
        generalize cg (rg R i) j = c at *
        obtain ⟨a, b, s⟩ := c
        simp only at hf hb1 hb2 wI hil
        subst hf
        simp only [fmtT, Int.toNat_natCast] at hnx
        by_cases hj0 : j = 0
        · rw [sepI, if_pos hj0, List.append_nil] at hnx
          cases s with
          | true =>
            rw [opB, if_pos rfl, ← List.append_assoc, ← List.append_assoc] at hnx
            simp (disch := omega) only [go_sem, rR, gk, gl, hrl, hld, lC, List.length_append, List.length_singleton, List.length_cons, List.length_nil]
            refine wN.callV 0 (z6 (z8) z7) ?_
            simp (disch := omega) only [go_sem, rR, gk, gl, hrl, hld, lC, List.length_append, List.length_singleton, List.length_cons, List.length_nil]
            refine wI.callV 0 (z6 (z8) z7) ?_
            simp (disch := omega) only [go_sem, rR, gk, gl, hrl, hld, lC, List.length_append, List.length_singleton, List.length_cons, List.length_nil]
            exact ⟨(j + 1, nb2 + 1), ⟨hltj, by show 1 ≤ nb2 + 1; omega⟩, by show (rg R i).length - (j + 1) < (rg R i).length - j; omega, Wk.ofH (by simp only [go_sem, ↓List.forall_mem_cons, List.not_mem_nil, false_implies, implies_true, and_true, true_and, and_self, ri_eq, Int.natCast_add, Int.cast_ofNat_Int, rR, ← hnx]; try simp) (by simp only [List.forall_mem_cons, List.not_mem_nil, false_implies, implies_true, and_true]; simp (disch := omega) only [hp_map, zm, if_pos, if_neg, ↓reduceIte]) (Nat.le_refl _)⟩
          | false =>
            rw [opB, if_neg (by simp), ← List.append_assoc, ← List.append_assoc] at hnx
            simp (disch := omega) only [go_sem, rR, gk, gl, hrl, hld, lC, List.length_append, List.length_singleton, List.length_cons, List.length_nil]
            refine wN.callV 0 (z6 (z8) z7) ?_
            simp (disch := omega) only [go_sem, rR, gk, gl, hrl, hld, lC, List.length_append, List.length_singleton, List.length_cons, List.length_nil]
            refine wI.callV 0 (z6 (z8) z7) ?_
            simp (disch := omega) only [go_sem, rR, gk, gl, hrl, hld, lC, List.length_append, List.length_singleton, List.length_cons, List.length_nil]
            exact ⟨(j + 1, nb2 + 1), ⟨hltj, by show 1 ≤ nb2 + 1; omega⟩, by show (rg R i).length - (j + 1) < (rg R i).length - j; omega, Wk.ofH (by simp only [go_sem, ↓List.forall_mem_cons, List.not_mem_nil, false_implies, implies_true, and_true, true_and, and_self, ri_eq, Int.natCast_add, Int.cast_ofNat_Int, rR, ← hnx]; try simp) (by simp only [List.forall_mem_cons, List.not_mem_nil, false_implies, implies_true, and_true]; simp (disch := omega) only [hp_map, zm, if_pos, if_neg, ↓reduceIte]) (Nat.le_refl _)⟩
        · rw [sepI, if_neg hj0] at hnx
          cases s with
          | true =>
            rw [opB, if_pos rfl, ← List.append_assoc, ← List.append_assoc] at hnx
            simp (disch := omega) only [go_sem, rR, gk, gl, hrl, hld, lC, List.length_append, List.length_singleton, List.length_cons, List.length_nil]
            refine wN.callV 0 (z6 (z8) z7) ?_
            simp (disch := omega) only [go_sem, rR, gk, gl, hrl, hld, lC, List.length_append, List.length_singleton, List.length_cons, List.length_nil]
            refine wI.callV 0 (z6 (z8) z7) ?_
            simp (disch := omega) only [go_sem, rR, gk, gl, hrl, hld, lC, List.length_append, List.length_singleton, List.length_cons, List.length_nil]
            exact ⟨(j + 1, nb2 + 1), ⟨hltj, by show 1 ≤ nb2 + 1; omega⟩, by show (rg R i).length - (j + 1) < (rg R i).length - j; omega, Wk.ofH (by simp only [go_sem, ↓List.forall_mem_cons, List.not_mem_nil, false_implies, implies_true, and_true, true_and, and_self, ri_eq, Int.natCast_add, Int.cast_ofNat_Int, rR, ← hnx]; try simp) (by simp only [List.forall_mem_cons, List.not_mem_nil, false_implies, implies_true, and_true]; simp (disch := omega) only [hp_map, zm, if_pos, if_neg, ↓reduceIte]) (Nat.le_refl _)⟩
          | false =>
            rw [opB, if_neg (by simp), ← List.append_assoc, ← List.append_assoc] at hnx
            simp (disch := omega) only [go_sem, rR, gk, gl, hrl, hld, lC, List.length_append, List.length_singleton, List.length_cons, List.length_nil]
            refine wN.callV 0 (z6 (z8) z7) ?_
            simp (disch := omega) only [go_sem, rR, gk, gl, hrl, hld, lC, List.length_append, List.length_singleton, List.length_cons, List.length_nil]
            refine wI.callV 0 (z6 (z8) z7) ?_
            simp (disch := omega) only [go_sem, rR, gk, gl, hrl, hld, lC, List.length_append, List.length_singleton, List.length_cons, List.length_nil]
            exact ⟨(j + 1, nb2 + 1), ⟨hltj, by show 1 ≤ nb2 + 1; omega⟩, by show (rg R i).length - (j + 1) < (rg R i).length - j; omega, Wk.ofH (by simp only [go_sem, ↓List.forall_mem_cons, List.not_mem_nil, false_implies, implies_true, and_true, true_and, and_self, ri_eq, Int.natCast_add, Int.cast_ofNat_Int, rR, ← hnx]; try simp) (by simp only [List.forall_mem_cons, List.not_mem_nil, false_implies, implies_true, and_true]; simp (disch := omega) only [hp_map, zm, if_pos, if_neg, ↓reduceIte]) (Nat.le_refl _)⟩
      · obtain rfl : j = (rg R i).length := by omega
        simp (disch := omega) only [go_sem, rR, gk, gl, hrl]
        exact ⟨(i + 1, nb2), ⟨hlt, hnb2⟩, by show R.length - (i + 1) < R.length - i; omega, Wk.of (by simp only [go_sem, ↓List.forall_mem_cons, List.not_mem_nil, false_implies, implies_true, and_true, true_and, and_self, ri_eq, Int.natCast_add, Int.cast_ofNat_Int, rR, hall]; try simp) rfl⟩
    · have hz0 : rs R i 0 = ra R i ++ orB := by rw [hz, sepI, if_neg hi0]
      rw [orB] at hz0
      simp (disch := omega) only [go_sem, rR, gk, gl, hrl, List.length_cons, List.length_nil]
      refine LoopW.loop (fun p : Nat × Nat => ⟨ofL [(1, .optr 0 0), (3, str (rs R i p.1)), (4, .val (.int .i64 i)), (5, .val (.int .i64 p.1))], hp [(0, ⟨[rR R], true⟩)] p.2⟩) (fun p => p.1 ≤ (rg R i).length ∧ 1 ≤ p.2) (fun p => (rg R i).length - p.1) (0, nb) ⟨by simp, hnb⟩ (Wk.of (by simp only [go_sem, ↓List.forall_mem_cons, List.not_mem_nil, false_implies, implies_true, and_true, true_and, and_self, ri_eq, Int.natCast_add, Int.cast_ofNat_Int, rR, hz0]; try simp) rfl) ?_
      rintro ⟨j, nb2⟩ ⟨hj, hnb2⟩
      simp only at hj hnb2
      have hrj := hrsl j hj
      refine SW_of_vc Tryz.mixed _ _ _ (by kernel_rfl) ?_
      by_cases hltj : j < (rg R i).length
      · have hld := cons_load (C := rg R i) (k := j) hltj
        have hnx := hsu j hltj
        obtain ⟨⟨f, hf, hf6⟩, hb1, hb2⟩ := hokT (cg (rg R i) j) (by simp [cg, hltj])
        have wN := Tryz.featName_ok hf6
        have hfl := fname_len hf6
        have wI := Tryz.specFI_ok (cg (rg R i) j).2.1 (by omega) (by omega)
        have hil := itoa_k (x := (cg (rg R i) j).2.1) (by omega)
        generalize cg (rg R i) j = c at *
        obtain ⟨a, b, s⟩ := c
        simp only at hf hb1 hb2 wI hil
        subst hf
        simp only [fmtT, Int.toNat_natCast] at hnx
        by_cases hj0 : j = 0
        · rw [sepI, if_pos hj0, List.append_nil] at hnx
          cases s with
          | true =>
            rw [opB, if_pos rfl, ← List.append_assoc, ← List.append_assoc] at hnx
            simp (disch := omega) only [go_sem, rR, gk, gl, hrl, hld, lC, List.length_append, List.length_singleton, List.length_cons, List.length_nil]
            refine wN.callV 0 (z6 (z8) z7) ?_
            simp (disch := omega) only [go_sem, rR, gk, gl, hrl, hld, lC, List.length_append, List.length_singleton, List.length_cons, List.length_nil]
            refine wI.callV 0 (z6 (z8) z7) ?_
            simp (disch := omega) only [go_sem, rR, gk, gl, hrl, hld, lC, List.length_append, List.length_singleton, List.length_cons, List.length_nil]
            exact ⟨(j + 1, nb2 + 1), ⟨hltj, by show 1 ≤ nb2 + 1; omega⟩, by show (rg R i).length - (j + 1) < (rg R i).length - j; omega, Wk.ofH (by simp only [go_sem, ↓List.forall_mem_cons, List.not_mem_nil, false_implies, implies_true, and_true, true_and, and_self, ri_eq, Int.natCast_add, Int.cast_ofNat_Int, rR, ← hnx]; try simp) (by simp only [List.forall_mem_cons, List.not_mem_nil, false_implies, implies_true, and_true]; simp (disch := omega) only [hp_map, zm, if_pos, if_neg, ↓reduceIte]) (Nat.le_refl _)⟩
          | false =>
            rw [opB, if_neg (by simp), ← List.append_assoc, ← List.append_assoc] at hnx
            simp (disch := omega) only [go_sem, rR, gk, gl, hrl, hld, lC, List.length_append, List.length_singleton, List.length_cons, List.length_nil]
            refine wN.callV 0 (z6 (z8) z7) ?_
            simp (disch := omega) only [go_sem, rR, gk, gl, hrl, hld, lC, List.length_append, List.length_singleton, List.length_cons, List.length_nil]
            refine wI.callV 0 (z6 (z8) z7) ?_
            simp (disch := omega) only [go_sem, rR, gk, gl, hrl, hld, lC, List.length_append, List.length_singleton, List.length_cons, List.length_nil]
            exact ⟨(j + 1, nb2 + 1), ⟨hltj, by show 1 ≤ nb2 + 1; omega⟩, by show (rg R i).length - (j + 1) < (rg R i).length - j; omega, Wk.ofH (by simp only [go_sem, ↓List.forall_mem_cons, List.not_mem_nil, false_implies, implies_true, and_true, true_and, and_self, ri_eq, Int.natCast_add, Int.cast_ofNat_Int, rR, ← hnx]; try simp) (by simp only [List.forall_mem_cons, List.not_mem_nil, false_implies, implies_true, and_true]; simp (disch := omega) only [hp_map, zm, if_pos, if_neg, ↓reduceIte]) (Nat.le_refl _)⟩
        · rw [sepI, if_neg hj0] at hnx
          cases s with
          | true =>
            rw [opB, if_pos rfl, ← List.append_assoc, ← List.append_assoc] at hnx
            simp (disch := omega) only [go_sem, rR, gk, gl, hrl, hld, lC, List.length_append, List.length_singleton, List.length_cons, List.length_nil]
            refine wN.callV 0 (z6 (z8) z7) ?_
            simp (disch := omega) only [go_sem, rR, gk, gl, hrl, hld, lC, List.length_append, List.length_singleton, List.length_cons, List.length_nil]
            refine wI.callV 0 (z6 (z8) z7) ?_
            simp (disch := omega) only [go_sem, rR, gk, gl, hrl, hld, lC, List.length_append, List.length_singleton, List.length_cons, List.length_nil]
            exact ⟨(j + 1, nb2 + 1), ⟨hltj, by show 1 ≤ nb2 + 1; omega⟩, by show (rg R i).length - (j + 1) < (rg R i).length - j; omega, Wk.ofH (by simp only [go_sem, ↓List.forall_mem_cons, List.not_mem_nil, false_implies, implies_true, and_true, true_and, and_self, ri_eq, Int.natCast_add, Int.cast_ofNat_Int, rR, ← hnx]; try simp) (by simp only [List.forall_mem_cons, List.not_mem_nil, false_implies, implies_true, and_true]; simp (disch := omega) only [hp_map, zm, if_pos, if_neg, ↓reduceIte]) (Nat.le_refl _)⟩
          | false =>
            rw [opB, if_neg (by simp), ← List.append_assoc, ← List.append_assoc] at hnx
            simp (disch := omega) only [go_sem, rR, gk, gl, hrl, hld, lC, List.length_append, List.length_singleton, List.length_cons, List.length_nil]
            refine wN.callV 0 (z6 (z8) z7) ?_
            simp (disch := omega) only [go_sem, rR, gk, gl, hrl, hld, lC, List.length_append, List.length_singleton, List.length_cons, List.length_nil]
            refine wI.callV 0 (z6 (z8) z7) ?_
            simp (disch := omega) only [go_sem, rR, gk, gl, hrl, hld, lC, List.length_append, List.length_singleton, List.length_cons, List.length_nil]
            exact ⟨(j + 1, nb2 + 1), ⟨hltj, by show 1 ≤ nb2 + 1; omega⟩, by show (rg R i).length - (j + 1) < (rg R i).length - j; omega, Wk.ofH (by simp only [go_sem, ↓List.forall_mem_cons, List.not_mem_nil, false_implies, implies_true, and_true, true_and, and_self, ri_eq, Int.natCast_add, Int.cast_ofNat_Int, rR, ← hnx]; try simp) (by simp only [List.forall_mem_cons, List.not_mem_nil, false_implies, implies_true, and_true]; simp (disch := omega) only [hp_map, zm, if_pos, if_neg, ↓reduceIte]) (Nat.le_refl _)⟩
      · obtain rfl : j = (rg R i).length := by omega
        simp (disch := omega) only [go_sem, rR, gk, gl, hrl]
        exact ⟨(i + 1, nb2), ⟨hlt, hnb2⟩, by show R.length - (i + 1) < R.length - i; omega, Wk.of (by simp only [go_sem, ↓List.forall_mem_cons, List.not_mem_nil, false_implies, implies_true, and_true, true_and, and_self, ri_eq, Int.natCast_add, Int.cast_ofNat_Int, rR, hall]; try simp) rfl⟩
  · obtain rfl : i = R.length := by omega
    have hfin : ra R R.length = fmtR R := by rw [ra, List.take_length, fmtR, if_pos hv]
    simp (disch := omega) only [go_sem, rR, hrl]
    exact Fin.val (by rw [hfin])
end Go.Sh

/-
  A test read: of the reference.
-/
namespace Go.Sh
open Go Go.Proofs

theorem itoa_pos (n : Int) : 1 ≤ (Lib.itoa n).length := by
  unfold Lib.itoa
  split
  · simp
  · exact List.length_pos_iff.2 (decDigits_facts _).2.2
theorem fname_ne {n f : Nat} (hn : n < f) (hf : f < 6) (q : List UInt8) : ((fname f ++ q).take (fname n).length == fname n) = false := by
  rw [beq_eq_false_iff_ne]
  intro e
  have h1 : (fname f ++ q).head? = (fname n).head? := by
    rw [← e]
    have : (fname n).length ≠ 0 := by
      have : n = 0 ∨ n = 1 ∨ n = 2 ∨ n = 3 ∨ n = 4 := by omega
      rcases this with rfl | rfl | rfl | rfl | rfl <;> decide
    rw [List.head?_take, if_neg this]
  have h2 : (fname f ++ q).head? = (fname f).head? := by
    have : fname f ≠ [] := by
      have : f = 0 ∨ f = 1 ∨ f = 2 ∨ f = 3 ∨ f = 4 ∨ f = 5 := by omega
      rcases this with rfl | rfl | rfl | rfl | rfl | rfl <;> decide
    cases hh : fname f with
    | nil => exact absurd hh this
    | cons x r => rfl
  rw [h2] at h1
  have hf' : f = 1 ∨ f = 2 ∨ f = 3 ∨ f = 4 ∨ f = 5 := by omega
  have hn' : n = 0 ∨ n = 1 ∨ n = 2 ∨ n = 3 ∨ n = 4 := by omega
  rcases hf' with rfl | rfl | rfl | rfl | rfl <;> rcases hn' with rfl | rfl | rfl | rfl | rfl <;> first | omega | exact absurd h1 (by decide)
abbrev tst (c : Con) : SV := .agg [.val (.int .i64 c.1), .val (.int .i64 c.2.1), .val (.bool c.2.2)]
set_option maxHeartbeats 8000000 in
theorem Tryz.l14Test_ok (c : Con) (h : OkC c) : PCall Tryz.prog 152 [str (fmtT c)] (tst c) := by
  have hlen := fmtT_len h
  obtain ⟨⟨f, hf, hf6⟩, h1, h2⟩ := h
  obtain ⟨a, b, s⟩ := c
  simp only at hf h1 h2
  subst hf
  have hpi : pint (Lib.itoa b) = some b := pint_itoa (by omega) (by omega)
  have hil := itoa_k (x := b) (by omega)
  have hip := itoa_pos b
  have wP := Tryz.specPI_ok (Lib.itoa b) (by omega)
  rw [pIR, hpi] at wP
  have hfl := fname_len hf6
  have hne := fun n (hn : n < f) => fname_ne hn hf6 (opB s ++ Lib.itoa b)
  have ht : fmtT ((f : Int), b, s) = fname f ++ (opB s ++ Lib.itoa b) := by simp [fmtT]
  have htl : (fmtT ((f : Int), b, s)).length = (fname f).length + (opB s ++ Lib.itoa b).length := by rw [ht, List.length_append]
  have htk : (fmtT ((f : Int), b, s)).take (fname f).length = fname f := by rw [ht, List.take_left]
  have hdr : (fmtT ((f : Int), b, s)).drop (fname f).length = opB s ++ Lib.itoa b := by rw [ht, List.drop_left]
  rw [← ht] at hne
  have hrefl : (fname f == fname f) = true := beq_self_eq_true _
  refine FCall.pcall (R := fun r _ => r = tst ((f : Int), b, s)) ?_ 1 (by rintro r H rfl; exact view_con)
  refine FCall.of_body Tryz.func152 rfl (by kernel_rfl) (by simp [Tryz.ntmps152]) ?_
  refine SW_of_vc Tryz.mixed _ _ _ (by kernel_rfl) ?_
  generalize fmtT ((f : Int), b, s) = t at *
  simp (disch := omega) only [go_sem]
  refine LoopW.loop (fun n : Nat => ⟨ofL [(0, str t), (2, .optr 0 0), (3, .val (.int .i64 n))], hp [(0, ⟨[.val (.int .i64 0), .val (.int .i64 0), .val (.bool false)], true⟩)] 1⟩) (fun n => n ≤ f) (fun n => f - n) 0 (by omega) (Wk.of (by simp only [go_sem, ↓List.forall_mem_cons, List.not_mem_nil, false_implies, implies_true, and_true, true_and, and_self, ri_eq, Int.natCast_add, Int.cast_ofNat_Int]; try simp) rfl) ?_
  intro n hn
  refine SW_of_vc Tryz.mixed _ _ _ (by kernel_rfl) ?_
  by_cases hlt : n < f
  · have wN := Tryz.featName_ok (f := n) (by omega)
    have hnl := fname_len (i := n) (by omega)
    have he := hne n hlt
    by_cases hgt : (fname n).length < t.length
    · simp (disch := omega) only [go_sem]
      refine wN.callV 0 (z6 (z8) z7) ?_
      simp (disch := omega) only [go_sem, he]
      exact ⟨n + 1, hlt, by omega, Wk.of (by simp only [go_sem, ↓List.forall_mem_cons, List.not_mem_nil, false_implies, implies_true, and_true, true_and, and_self, ri_eq, Int.natCast_add, Int.cast_ofNat_Int]; try simp) rfl⟩
    · simp (disch := omega) only [go_sem]
      refine wN.callV 0 (z6 (z8) z7) ?_
      simp (disch := omega) only [go_sem]
      exact ⟨n + 1, hlt, by omega, Wk.of (by simp only [go_sem, ↓List.forall_mem_cons, List.not_mem_nil, false_implies, implies_true, and_true, true_and, and_self, ri_eq, Int.natCast_add, Int.cast_ofNat_Int]; try simp) rfl⟩
  · obtain rfl : n = f := by omega
    have wN := Tryz.featName_ok hf6
    have hda : (t.drop (fname n).length).take (t.length - (fname n).length) = opB s ++ Lib.itoa b := by
      rw [hdr]; exact List.take_of_length_le (by omega)
    have hdl : 1 ≤ (opB s ++ Lib.itoa b).length := by rw [List.length_append]; omega
    have hix := sb_ix0 (s := opB s ++ Lib.itoa b) (by omega)
    cases s with
    | true =>
      have h60 : (opB true ++ Lib.itoa b).getD 0 0 = 60 := rfl
      have hd1 : ((opB true ++ Lib.itoa b).drop 1).take ((opB true ++ Lib.itoa b).length - 1) = Lib.itoa b := List.take_of_length_le (by simp [opB])
      rw [h60] at hix
      have h6b : (((60 : UInt8).toNat : Int) == 60) = true := by decide
      generalize opB true ++ Lib.itoa b = d at *
      simp (disch := omega) only [go_sem]
      refine wN.callV 0 (z6 (z8) z7) ?_
      simp (disch := omega) only [go_sem, htk, hrefl, hda, hix, h6b, hd1]
      refine wP.callV 0 (z6 zd z7) ?_
      simp (disch := omega) only [go_sem, Option.getD_some]
      exact Fin.agg rfl rfl
    | false =>
      have h62 : (opB false ++ Lib.itoa b).getD 0 0 = 62 := rfl
      have hd2 : ((opB false ++ Lib.itoa b).drop 2).take ((opB false ++ Lib.itoa b).length - 2) = Lib.itoa b := List.take_of_length_le (by simp [opB])
      have ht2 : (opB false ++ Lib.itoa b).take 2 = [62, 61] := rfl
      have hl3 : 2 < (opB false ++ Lib.itoa b).length := by rw [List.length_append]; have : (opB false).length = 2 := rfl; omega
      rw [h62] at hix
      have h6b : (((62 : UInt8).toNat : Int) == 60) = false := by decide
      have hr2 : (([62, 61] : List UInt8) == [62, 61]) = true := rfl
      generalize opB false ++ Lib.itoa b = d at *
      simp (disch := omega) only [go_sem]
      refine wN.callV 0 (z6 (z8) z7) ?_
      simp (disch := omega) only [go_sem, htk, hrefl, hda, hix, h6b, hd2, ht2, hr2]
      refine wP.callV 0 (z6 zd z7) ?_
      simp (disch := omega) only [go_sem, Option.getD_some]
      exact Fin.agg rfl rfl
end Go.Sh

/-
  Rules read: of the reference, at the text of valid rules.
-/
namespace Go.Sh
open Go Go.Proofs

def ilv : List (List UInt8) → List (List UInt8)
  | [] => []
  | [p] => [p]
  | p :: q :: L => p :: [111, 114] :: ilv (q :: L)
theorem ilv_cut : ∀ {L : List (List UInt8)}, L ≠ [] → (∀ q ∈ L, (32 : UInt8) ∉ q) → cutL 32 (Lib.join L orB) = ilv L
  | [], h, _ => absurd rfl h
  | [p], _, h => by rw [Lib.join_one, cutL_none (h p (by simp)), ilv]
  | p :: q :: L, _, h => by
    have e : Lib.join (p :: q :: L) orB = p ++ 32 :: ([111, 114] ++ 32 :: Lib.join (q :: L) orB) := by
      rw [Lib.join_cons, Lib.join_cons]; simp [Lib.joinTail, orB]
    have ih := ilv_cut (L := q :: L) (by simp) (fun r hr => h r (List.mem_cons_of_mem _ hr))
    rw [e, cutL_app (h p (by simp)), cutL_app (by decide), ih, ilv]
theorem ilv_len : ∀ {L : List (List UInt8)}, L ≠ [] → (ilv L).length + 1 = 2 * L.length
  | [], h => absurd rfl h
  | [p], _ => rfl
  | p :: q :: L, _ => by
    have ih := ilv_len (L := q :: L) (by simp)
    rw [ilv]; simp only [List.length_cons] at ih ⊢; omega
theorem ilv_at : ∀ {L : List (List UInt8)} {k : Nat}, k < L.length → (ilv L).getD (2 * k) [] = L.getD k []
  | [], k, h => by simp at h
  | [p], k, h => by
    have : k = 0 := by simpa using h
    subst this; rfl
  | p :: q :: L, 0, _ => rfl
  | p :: q :: L, k + 1, h => by
    have ih := ilv_at (L := q :: L) (k := k) (by simpa using h)
    rw [ilv, show 2 * (k + 1) = 2 * k + 1 + 1 by omega, List.getD_cons_succ, List.getD_cons_succ, ih, List.getD_cons_succ]
theorem rg_mem {R : List (List Con)} {i : Nat} (h : i < R.length) : rg R i ∈ R := by
  rw [show rg R i = R[i] by simp [rg, h]]; exact List.getElem_mem h
theorem cg_mem {T : List Con} {i : Nat} (h : i < T.length) : cg T i ∈ T := by
  rw [show cg T i = T[i] by simp [cg, h]]; exact List.getElem_mem h
def RuF (R : List (List Con)) (u : Bool) (r : SV) (H : Heap) : Prop := ∃ ob cs nm, r = .tup [.agg [nlG 1 ob R.length], .val (.bool u)] ∧ RuH H 0 R ob cs nm
open Classical in
theorem fin_ruF {H : Heap} {lo ob : Nat} {cs : List SV} {nm : Nat → Nat} {R : List (List Con)} {u : Bool} (hR : RuH H lo R ob cs nm) : Fin (RuF R u) (.tup [.agg [nlG 1 ob R.length], .val (.bool u)]) H := by
  let p : Nat → Prop := fun b => (R.length ≠ 0 ∧ b = ob) ∨ (∃ i, i < R.length ∧ (rg R i).length ≠ 0 ∧ b = nm i)
  have hR2 := hR.part p (fun h => .inl ⟨h, rfl⟩) (fun i hi h => .inr ⟨i, hi, h, rfl⟩)
  refine ⟨part H p, part_sub H p, ?_, fun b blk hb => ?_, ob, cs, nm, rfl, hR2.low (by omega)⟩
  · simp only [noRow, noRowL, noRow_nlG, Bool.and_self]
  · have hb' : (if p b then H.map b else none) = some blk := hb
    split at hb'
    · rename_i hp
      rcases hp with ⟨h0, rfl⟩ | ⟨i, hi, h0, rfl⟩
      · rw [hR.o h0] at hb'; simp at hb'; subst hb'; exact hR.nr
      · rw [((hR.row i hi).2 h0).1] at hb'; simp at hb'; subst hb'; exact noRowL_cons _
    · simp at hb'
set_option maxRecDepth 20000 in
set_option maxHeartbeats 16000000 in
theorem Tryz.specPR_f (R : List (List Con)) (hv : isVR R = true) : FCall Tryz.prog 108 [str (fmtR R)] (RuF R true) := by
  obtain ⟨⟨hR1, hR3⟩, hok⟩ := isVR_facts hv
  have hle := fmtR_len hv
  have wF := Tryz.specFmR_ok R hv
  have hne : R ≠ [] := by intro h; rw [h] at hR1; simp at hR1
  have hno : ∀ q ∈ R.map fmtRu, (32 : UInt8) ∉ q := fun q hq => by
    obtain ⟨T, hT, rfl⟩ := List.mem_map.1 hq
    exact fmtRu_no (hok T hT).2
  have hfe : fmtR R = Lib.join (R.map fmtRu) orB := by rw [fmtR, if_pos hv]
  have hcutR : cutL 32 (fmtR R) = ilv (R.map fmtRu) := by rw [hfe]; exact ilv_cut (by simpa using hne) hno
  have hPl : (ilv (R.map fmtRu)).length + 1 = 2 * R.length := by
    have := ilv_len (L := R.map fmtRu) (by simpa using hne)
    simpa using this
  have hPg : ∀ i, i < R.length → (ilv (R.map fmtRu)).getD (2 * i) [] = fmtRu (rg R i) := fun i hi => by
    rw [ilv_at (by simpa using hi)]; simp [rg, hi]
  have wS : PCall Tryz.prog 117 [str (fmtR R), .val (.int .u8 32)] (rst (cutL 32 (fmtR R))) := Tryz.l2Cut_ok (fmtR R) 32 (by omega)
  rw [hcutR] at wS
  have ht0 : (fmtR R == ([] : List UInt8)) = false := by
    rw [beq_eq_false_iff_ne]
    intro h
    have h1 := hPl
    rw [← hcutR, h] at h1
    have h2 := hPg 0 (by omega)
    rw [← hcutR, h] at h2
    have h3 := hok (rg R 0) (rg_mem (by omega))
    have h4 : fmtRu (rg R 0) = [] := h2.symm
    have h5 := fmtRu_cut (by intro hh; rw [hh] at h3; simp at h3) h3.2
    rw [h4, (show cutL 44 [] = [[]] from rfl)] at h5
    generalize rg R 0 = T at *
    cases T with
    | nil => simp at h5
    | cons c T =>
      rw [List.map_cons] at h5
      have h6 := (List.cons.inj h5).1
      have h8 := fmtT_len (h3.2 c (by simp))
      rw [← h6] at h8
      simp at h8
  refine FCall.of_body Tryz.func108 rfl (by kernel_rfl) (by simp [Tryz.ntmps108]) ?_
  refine SW_of_vc2 (onD 12 [(42, 49)] []) Tryz.mixed _ _ _ (by kernel_rfl) ?_
  generalize ilv (R.map fmtRu) = P at *
  generalize hft : fmtR R = t at *
  have hrefl : (t == t) = true := beq_self_eq_true t
  simp (disch := omega) only [go_sem]
  refine wS.callV 0 (z6 zd (z6 z8 z7)) ?_
  simp (disch := omega) only [go_sem, rst]
  refine LoopW.loop (fun y : Nat × Nat × List SV × (Nat → Nat) × Heap => ⟨ofL [(0, str t), (2, .optr 0 0), (4, .optr 1 0), (5, .optr 2 0), (6, rst P), (7, .val (.int .i64 y.1))], y.2.2.2.2⟩)
    (fun y => y.1 ≤ P.length ∧ RuH y.2.2.2.2 3 (R.take ((y.1 + 1) / 2)) y.2.1 y.2.2.1 y.2.2.2.1 ∧ y.2.2.2.2.map 0 = some ⟨[.val (.slice none 0 0)], true⟩ ∧ y.2.2.2.2.map 1 = some ⟨[nlG 1 y.2.1 ((y.1 + 1) / 2)], true⟩ ∧ y.2.2.2.2.map 2 = some ⟨[.val (.slice none 0 0)], true⟩ ∧ 3 ≤ y.2.2.2.2.nb) (fun y => P.length - y.1)
    (0, 0, [], fun _ => 0, hp [(2, ⟨[.val (.slice none 0 0)], true⟩), (1, ⟨[.val (.slice none 0 0)], true⟩), (0, ⟨[.val (.slice none 0 0)], true⟩)] 3) ⟨by simp, RuH.nil, (by first | rfl | (simp (disch := omega) only [hx_map, hp_map, zl, zm, zk, xmap_nil, if_pos, if_neg, ↓reduceIte]; try rfl)), (by first | rfl | (simp (disch := omega) only [hx_map, hp_map, zl, zm, zk, xmap_nil, if_pos, if_neg, ↓reduceIte]; try rfl)), (by first | rfl | (simp (disch := omega) only [hx_map, hp_map, zl, zm, zk, xmap_nil, if_pos, if_neg, ↓reduceIte]; try rfl)), by show 3 ≤ 3; omega⟩ (Wk.of (by simp only [go_sem, ↓List.forall_mem_cons, List.not_mem_nil, false_implies, implies_true, and_true, true_and, and_self, ri_eq, Int.natCast_add, Int.cast_ofNat_Int, rst]; try simp) rfl) ?_
  rintro ⟨i, ob, cs, nm, H0⟩ ⟨hi, hRu, hm0, hm1, hm2, hnb⟩
  simp only at hi hRu hm0 hm1 hm2 hnb
  refine SW_of_vc2 (onD 12 [(42, 49)] []) Tryz.mixed _ _ _ (by kernel_rfl) ?_
  by_cases hlt : i < P.length
  · by_cases hodd : i % 2 = 1
    · have hrem : Int.tmod (i : Int) 2 = 1 := by have := Int.tmod_eq_emod_of_nonneg (a := (i : Int)) (b := 2) (by omega); omega
      have hhalf : (i + 1 + 1) / 2 = (i + 1) / 2 := by omega
      simp (disch := omega) only [go_sem, rst, hrem]
      refine ⟨(i + 1, ob, cs, nm, H0), ⟨hlt, ?_, hm0, ?_, hm2, hnb⟩, by show P.length - (i + 1) < P.length - i; omega, Wk.of (by simp only [go_sem, ↓List.forall_mem_cons, List.not_mem_nil, false_implies, implies_true, and_true, true_and, and_self, ri_eq, Int.natCast_add, Int.cast_ofNat_Int, rst]; try simp) rfl⟩
      · simp only [hhalf]; exact hRu
      · simp only [hhalf]; exact hm1
    · have hrem : Int.tmod (i : Int) 2 = 0 := by have := Int.tmod_eq_emod_of_nonneg (a := (i : Int)) (b := 2) (by omega); omega
      obtain ⟨k, hk⟩ : ∃ k, i = 2 * k := ⟨i / 2, by omega⟩
      have hhalf : (i + 1) / 2 = k := by omega
      have hhalf2 : (i + 1 + 1) / 2 = k + 1 := by omega
      rw [hhalf] at hRu hm1
      have hkR : k < R.length := by omega
      have hkl : (R.take k).length = k := by rw [List.length_take]; omega
      have hg := zn hlt
      rw [hk, hPg k hkR, ← hk] at hg
      obtain ⟨⟨hT1, hT3⟩, hokT⟩ := hok (rg R k) (rg_mem hkR)
      have hru := fmtRu_len hokT
      have wC : PCall Tryz.prog 117 [str (fmtRu (rg R k)), .val (.int .u8 44)] (rst (cutL 44 (fmtRu (rg R k)))) := Tryz.l2Cut_ok (fmtRu (rg R k)) 44 (by omega)
      rw [fmtRu_cut (by intro h; rw [h] at hT1; simp at hT1) hokT] at wC
      have hQl : ((rg R k).map fmtT).length = (rg R k).length := by simp
      have hQg : ∀ j, j < (rg R k).length → (strs ((rg R k).map fmtT))[j]? = some (str (fmtT (cg (rg R k) j))) := fun j hj => by simp [strs, cg, hj]
      have hsnR := take_rg hkR
      generalize fmtRu (rg R k) = tx at *
      generalize (rg R k).map fmtT = Q at *
      generalize rg R k = T at *
      simp (disch := omega) only [go_sem, rst, hrem, hg]
      refine wC.callV 0 (z6 zd (z6 z8 z7)) ?_
      simp (disch := omega) only [go_sem, rst, hrem, hg]
      refine LoopW.loop (fun y : Nat × Nat × Heap => ⟨ofL [(0, str t), (2, .optr 0 0), (4, .optr 1 0), (5, .optr 2 0), (6, rst P), (7, .val (.int .i64 i)), (8, rst Q), (9, .val (.int .i64 y.1))], y.2.2⟩)
        (fun y => y.1 ≤ T.length ∧ (∀ b, b < H0.nb → b ≠ 2 → y.2.2.map b = H0.map b) ∧ H0.nb ≤ y.2.2.nb ∧ y.2.2.map 2 = some ⟨[nlG 3 y.2.1 y.1], true⟩ ∧ (y.1 ≠ 0 → H0.nb ≤ y.2.1 ∧ y.2.1 < y.2.2.nb ∧ y.2.2.map y.2.1 = some ⟨cons (T.take y.1), false⟩)) (fun y => T.length - y.1)
        (0, 0, H0) ⟨by simp, fun b _ _ => rfl, Nat.le_refl _, hm2, fun h => absurd rfl h⟩ (Wk.of (by simp only [go_sem, ↓List.forall_mem_cons, List.not_mem_nil, false_implies, implies_true, and_true, true_and, and_self, ri_eq, Int.natCast_add, Int.cast_ofNat_Int, rst]; try simp) rfl) ?_
      rintro ⟨j, tb, H⟩ ⟨hj, hfr, hnb2, hmr, hmt⟩
      simp only at hj hfr hnb2 hmr hmt
      refine SW_of_vc2 (onD 12 [(42, 49)] []) Tryz.mixed _ _ _ (by kernel_rfl) ?_
      by_cases hltj : j < T.length
      · have hq := hQg j hltj
        have wT := Tryz.l14Test_ok (cg T j) (hokT (cg T j) (cg_mem hltj))
        have hsn := take_cg hltj
        generalize fmtT (cg T j) = tj at *
        by_cases hz : j = 0
        · have e0 := nlG_t (z := 3) (b := tb) hz
          rw [e0] at hmr
          simp (disch := omega) only [go_sem, rst, hq, hQl, hmr]
          have hT0 : cons (T.take j) = [] := by rw [hz]; rfl
          rw [hT0, List.nil_append] at hsn
          have e2 : ∀ b, nlG 3 b (j + 1) = .own b 0 1 1 3 false := fun b => by rw [hz]; rfl
          refine wT.callDV 0 (z6 zd z7) ?_
          simp (disch := omega) only [go_sem, rst, hq, hQl, hmr, repC, ze, zb, zc, za]
          refine ⟨(j + 1, H.nb + 1, _), ⟨hltj, fun b hb hb2 => ?_, ?_, ?_, fun _ => ⟨?_, ?_, ?_⟩⟩, by show T.length - (j + 1) < T.length - j; omega, Wk.of (by simp only [go_sem, ↓List.forall_mem_cons, List.not_mem_nil, false_implies, implies_true, and_true, true_and, and_self, ri_eq, Int.natCast_add, Int.cast_ofNat_Int, rst, hQl]; try simp) rfl⟩
          · simp only
            simp (disch := omega) only [ze, zb, zc, za, if_pos, if_neg, ↓reduceIte]
            exact hfr b hb hb2
          · simp only [zc, za]; omega
          · simp only [e2]
            simp (disch := omega) only [ze, zb, zc, za, if_pos, if_neg, ↓reduceIte]
          · simp only; omega
          · simp only [zc, za]; omega
          · simp only [← hsn]
            simp (disch := omega) only [ze, zb, zc, za, if_pos, if_neg, ↓reduceIte]
        · have e0 := nlG_f (z := 3) (b := tb) hz
          obtain ⟨m1, m2, m3⟩ := hmt hz
          rw [e0] at hmr
          have hjL : (cons (T.take j)).length = j * 3 := by rw [cons_length, List.length_take]; omega
          have hjT : (cons (T.take j)).take (j * 3) = cons (T.take j) := List.take_of_length_le (by omega)
          generalize cons (T.take j) = A at *
          simp (disch := omega) only [go_sem, rst, hq, hQl, hmr]
          refine wT.callDV 0 (z6 zd z7) ?_
          simp (disch := omega) only [go_sem, rst, hq, hQl, hmr, m3, hjL, hjT, hsn, repC, ze, zb, zc, za]
          have e2 : ∀ b, nlG 3 b (j + 1) = .own b 0 (j + 1) (j + 1) 3 false := fun b => nlG_s
          refine ⟨(j + 1, H.nb + 1, _), ⟨hltj, fun b hb hb2 => ?_, ?_, ?_, fun _ => ⟨?_, ?_, ?_⟩⟩, by show T.length - (j + 1) < T.length - j; omega, Wk.of (by simp only [go_sem, ↓List.forall_mem_cons, List.not_mem_nil, false_implies, implies_true, and_true, true_and, and_self, ri_eq, Int.natCast_add, Int.cast_ofNat_Int, rst, hQl]; try simp) rfl⟩
          · simp only
            simp (disch := omega) only [ze, zb, zc, za, if_pos, if_neg, ↓reduceIte]
            exact hfr b hb hb2
          · simp only [zc, za]; omega
          · simp only [e2]
            simp (disch := omega) only [ze, zb, zc, za, if_pos, if_neg, ↓reduceIte]
          · simp only; omega
          · simp only [zc, za]; omega
          · simp only
            simp (disch := omega) only [ze, zb, zc, za, if_pos, if_neg, ↓reduceIte]
      · obtain rfl : j = T.length := by omega
        have hTz : T.length ≠ 0 := by omega
        obtain ⟨m1, m2, m3⟩ := hmt hTz
        rw [List.take_length] at m3
        have f0 := nlG_f (z := 3) (b := tb) hTz
        rw [f0] at hmr
        have hcl : cs.length = k := by rw [hRu.ln, hkl]
        have hm1' : H.map 1 = some ⟨[nlG 1 ob k], true⟩ := by rw [hfr 1 (by omega) (by omega), hm1]
        have hm0' : H.map 0 = some ⟨[.val (.slice none 0 0)], true⟩ := by rw [hfr 0 (by omega) (by omega), hm0]
        by_cases hkz : k = 0
        · have e0 := nlG_t (z := 1) (b := ob) hkz
          rw [e0] at hm1'
          have hcs0 : cs = [] := List.length_eq_zero_iff.1 (by omega)
          have e2 : ∀ b, nlG 1 b (k + 1) = .own b 0 1 1 1 false := fun b => by rw [hkz]; rfl
          simp (disch := omega) only [go_sem, rst, hQl, hmr, hm1', ze, zb, zc, za]
          refine ⟨(i + 1, H.nb + 1, cs ++ [nlG 3 tb T.length], fun i => if i < (R.take k).length then nm i else tb, _), ⟨hlt, ?_, ?_, ?_, ?_, ?_⟩, by show P.length - (i + 1) < P.length - i; omega, Wk.of (by simp only [go_sem, ↓List.forall_mem_cons, List.not_mem_nil, false_implies, implies_true, and_true, true_and, and_self, ri_eq, Int.natCast_add, Int.cast_ofNat_Int, rst]; try simp) rfl⟩
          · simp only [hhalf2]
            rw [← hsnR]
            refine hRu.snoc (by omega) ?_ (fun _ => ⟨?_, by omega, ?_, by omega⟩) (fun b b1 b2 b3 => ?_) ?_ ⟨by omega, ?_⟩
            · rw [f0, hcs0]
              simp (disch := omega) only [ze, zb, zc, za, if_pos, if_neg, ↓reduceIte]
              rfl
            · simp (disch := omega) only [ze, zb, zc, za, if_pos, if_neg, ↓reduceIte]
              exact m3
            · simp only [zc, za]; omega
            · simp (disch := omega) only [ze, zb, zc, za, if_pos, if_neg, ↓reduceIte]
              exact hfr b b2 (by omega)
            · simp only [zc, za]; omega
            · simp only [zc, za]; omega
          · simp only
            simp (disch := omega) only [ze, zb, zc, za, if_pos, if_neg, ↓reduceIte]
            exact hm0'
          · simp only [hhalf2, e2]
            simp (disch := omega) only [ze, zb, zc, za, if_pos, if_neg, ↓reduceIte]
          · simp only
            simp (disch := omega) only [ze, zb, zc, za, if_pos, if_neg, ↓reduceIte]
          · simp only [zc, za]; omega
        · have e0 := nlG_f (z := 1) (b := ob) hkz
          rw [e0] at hm1'
          obtain ⟨o1, o2⟩ := hRu.lo1 (by omega)
          have hmo : H.map ob = some ⟨cs, false⟩ := by rw [hfr ob o2 (by omega), hRu.o (by omega)]
          have htk : cs.take k = cs := List.take_of_length_le (by omega)
          have e2 : ∀ b, nlG 1 b (k + 1) = .own b 0 (k + 1) (k + 1) 1 false := fun b => nlG_s
          simp (disch := omega) only [go_sem, rst, hQl, hmr, hm1', hmo, hcl, htk, ze, zb, zc, za]
          refine ⟨(i + 1, H.nb + 1, cs ++ [nlG 3 tb T.length], fun i => if i < (R.take k).length then nm i else tb, _), ⟨hlt, ?_, ?_, ?_, ?_, ?_⟩, by show P.length - (i + 1) < P.length - i; omega, Wk.of (by simp only [go_sem, ↓List.forall_mem_cons, List.not_mem_nil, false_implies, implies_true, and_true, true_and, and_self, ri_eq, Int.natCast_add, Int.cast_ofNat_Int, rst]; try simp) rfl⟩
          · simp only [hhalf2]
            rw [← hsnR]
            refine hRu.snoc (by omega) ?_ (fun _ => ⟨?_, by omega, ?_, by omega⟩) (fun b b1 b2 b3 => ?_) ?_ ⟨by omega, ?_⟩
            · rw [f0]
              simp (disch := omega) only [ze, zb, zc, za, if_pos, if_neg, ↓reduceIte]
            · simp (disch := omega) only [ze, zb, zc, za, if_pos, if_neg, ↓reduceIte]
              exact m3
            · simp only [zc, za]; omega
            · have := b3 (by omega)
              simp (disch := omega) only [ze, zb, zc, za, if_pos, if_neg, ↓reduceIte]
              exact hfr b b2 (by omega)
            · simp only [zc, za]; omega
            · simp only [zc, za]; omega
          · simp only
            simp (disch := omega) only [ze, zb, zc, za, if_pos, if_neg, ↓reduceIte]
            exact hm0'
          · simp only [hhalf2, e2]
            simp (disch := omega) only [ze, zb, zc, za, if_pos, if_neg, ↓reduceIte]
          · simp only
            simp (disch := omega) only [ze, zb, zc, za, if_pos, if_neg, ↓reduceIte]
          · simp only [zc, za]; omega
  · obtain rfl : i = P.length := by omega
    have hhalf : (P.length + 1) / 2 = R.length := by omega
    rw [hhalf] at hRu hm1
    rw [List.take_length] at hRu
    have e0 := nlG_f (z := 1) (b := ob) (by omega : R.length ≠ 0)
    have hview := hRu.view (f := 0)
    have hfin := fin_ruF (u := true) (hRu.fr (H' := H0.set 0 (some ⟨[.own ob 0 R.length R.length 1 false], true⟩)) (by rw [zc]; exact Nat.le_refl _) (fun b b1 b2 => by rw [ze, if_neg (by omega)]))
    rw [e0] at hm1 hview hfin
    simp (disch := omega) only [go_sem, rst, ht0, hm1, hm0, ze, zb, zc, za]
    refine wF.callV 3 (z6 (view_agg (z6 hview z7)) z7) ?_
    simp (disch := omega) only [go_sem, hrefl, Bool.not_true, hm1, hm0, ze, zb, zc, za]
    exact hfin
end Go.Sh

/-
  Regions that draw their order, further: the last operation, which waits for all others, may change what was read.
-/
namespace Go.Sh
open Go Go.RowKit
variable {P : Program}

theorem left_splitZ {n i : Nat} {listed : Array Bool} (hs : n ≤ listed.size) (hi : i < n) (hl : listed.getD i true = false) :
    ∃ l1 l2, left n listed = l1 ++ i :: l2 ∧ left n (listed.setIfInBounds i true) = l1 ++ l2 ∧ (∀ k ∈ l1, k < i ∧ listed.getD k true = false) := by
  have hr : List.range n = List.range i ++ i :: List.range' (i + 1) (n - (i + 1)) := by
    rw [List.range_eq_range', List.range_eq_range']
    have : n = i + (1 + (n - (i + 1))) := by omega
    conv => lhs; rw [this]
    rw [← List.range'_append_1, ← List.range'_append_1]
    simp [List.range'_one]
  have hset : ∀ k, k ≠ i → (listed.setIfInBounds i true).getD k true = listed.getD k true := fun k hk => by
    simp [Array.getD_eq_getD_getElem?, Array.getElem?_setIfInBounds_ne (Ne.symm hk)]
  have hself : (listed.setIfInBounds i true).getD i true = true := by
    simp [Array.getD_eq_getD_getElem?, show i < listed.size by omega]
  refine ⟨(List.range i).filter fun k => !listed.getD k true, (List.range' (i + 1) (n - (i + 1))).filter fun k => !listed.getD k true, ?_, ?_, ?_⟩
  · unfold left
    rw [hr, List.filter_append, List.filter_cons_of_pos (by simp [hl])]
  · unfold left
    rw [hr, List.filter_append, List.filter_cons_of_neg (by simp [hself])]
    congr 1
    · exact List.filter_congr (fun k hk => by rw [hset k (by simp at hk; omega)])
    · exact List.filter_congr (fun k hk => by rw [hset k (by simp [List.mem_range'] at hk; omega)])
  · intro k hk
    simp at hk
    exact ⟨hk.1, by simpa using hk.2⟩

def drawOkZ (D : List Nat) (ops : Array Oper) : Bool :=
  match ops.size with
  | 0 => false
  | m + 1 => ((List.range m).all fun i => match ops[i]? with
    | some y => (y.after.all fun e => !Region.binds .any e || decide (e.on < i)) && (List.range i).all fun k => match ops[k]? with
      | some x => waits y k || pairOkS D ops k i x y || waitsT ops 6 y k
      | none => true
    | none => true) && (match ops[m]? with
    | some y => (y.after.all fun e => !Region.binds .any e || decide (e.on < m)) && (List.range m).all fun k => waitsT ops 6 y k
    | none => false)
theorem wpAny_none {ops : Array Oper} {Q : Exit → Act → World → Prop} {fuel : Nat} {listed : Array Bool} {a : Act} {w : World} (hl : left ops.size listed = []) (hq : Q .normal a w) : wpAny P .any ops Q fuel listed a w := by
  have hno : ∀ i, i ∉ Region.ready .any ops listed := fun i hi => by
    have hm := List.mem_filter.1 hi
    simp only [Bool.and_eq_true] at hm
    have : i ∈ left ops.size listed := List.mem_filter.2 ⟨hm.1, hm.2.1⟩
    rw [hl] at this; simp at this
  cases fuel with
  | zero => exact ⟨List.eq_nil_iff_forall_not_mem.2 hno, hq⟩
  | succ fuel => exact ⟨fun _ => hq, fun i hi => absurd hi (hno i)⟩
theorem wpAny_of_opsZ {n : Nat} {ops : Array Oper} {S : Heap → Prop} {D : List Nat} {Q : Exit → Act → World → Prop} {K : St → Prop} {m : Nat} (hsz : ops.size = m + 1) (hok : drawOkZ D ops = true) : ∀ (fuel : Nat) (listed : Array Bool) (s : St) (j : JMap) (a : Act) (w : World), listed.size = ops.size → ClosedL ops listed →
    (left ops.size listed).length ≤ fuel → listed.getD m true = false → S s.H → opsS P n ops S D (left m listed) s (fun s' => ∃ o, ops[m]? = some o ∧ stepN P n ops o s' K) → SAll n j s a w → (∀ j' s' a' w', SAll n j' s' a' w' → Nx j s.H w j' s'.H w' → K s' → Q .normal a' w') → wpAny P .any ops Q fuel listed a w := by
  unfold drawOkZ at hok
  rw [hsz] at hok
  simp only [Bool.and_eq_true] at hok
  obtain ⟨hok, hokm⟩ := hok
  have hok1 : ∀ i y, i < m → ops[i]? = some y → (∀ e ∈ y.after, Region.binds .any e = true → e.on < i) ∧ ∀ k, k < i → ∀ x, ops[k]? = some x → waitsT ops 6 y k = true ∨ pairOkS D ops k i x y = true := by
    intro i y hi hy
    have := List.all_eq_true.1 hok i (by simpa using hi)
    rw [hy] at this
    simp only [Bool.and_eq_true] at this
    refine ⟨fun e he hb => ?_, fun k hk x hx => ?_⟩
    · have h1 := Array.all_eq_true.1 this.1
      obtain ⟨m, hm, rfl⟩ := Array.mem_iff_getElem.1 he
      have := h1 m hm
      simpa [hb] using this
    · have := List.all_eq_true.1 this.2 k (by simpa using hk)
      rw [hx] at this
      simp only [Bool.or_eq_true] at this
      rcases this with (h | h) | h
      · exact .inl (by simp only [waitsT, h, Bool.true_or])
      · exact .inr h
      · exact .inl h
  have hokM : ∀ y, ops[m]? = some y → (∀ e ∈ y.after, Region.binds .any e = true → e.on < m) ∧ ∀ k, k < m → waitsT ops 6 y k = true := by
    intro y hy
    rw [hy] at hokm
    simp only [Bool.and_eq_true] at hokm
    refine ⟨fun e he hb => ?_, fun k hk => List.all_eq_true.1 hokm.2 k (by simpa using hk)⟩
    have h1 := Array.all_eq_true.1 hokm.1
    obtain ⟨q, hq, rfl⟩ := Array.mem_iff_getElem.1 he
    have := h1 q hq
    simpa [hb] using this
  have hok' : ∀ i y, ops[i]? = some y → (∀ e ∈ y.after, Region.binds .any e = true → e.on < i) := by
    intro i y hy
    have hi : i < ops.size := by
      rcases Nat.lt_or_ge i ops.size with h | h
      · exact h
      · rw [Array.getElem?_eq_none h] at hy; simp at hy
    rcases Nat.lt_or_ge i m with h | h
    · exact (hok1 i y h hy).1
    · obtain rfl : i = m := by omega
      exact (hokM y hy).1
  have ready_nil : ∀ listed : Array Bool, listed.size = ops.size → Region.ready .any ops listed = [] → left ops.size listed = [] := by
    intro listed hs hr
    cases hl : left ops.size listed with
    | nil => rfl
    | cons i rest =>
      exfalso
      have hmem : i ∈ left ops.size listed := by rw [hl]; simp
      have hi := List.mem_filter.1 hmem
      have hlt : i < ops.size := by simpa using hi.1
      have hsmall : ∀ k, k < i → listed.getD k true = true := by
        intro k hk
        cases hk' : listed.getD k true with
        | true => rfl
        | false =>
          exfalso
          have hkm : k ∈ left ops.size listed := List.mem_filter.2 ⟨by simp; omega, by simp [hk']⟩
          have hsorted : (left ops.size listed).Pairwise (· < ·) := (List.pairwise_lt_range).filter _
          rw [hl] at hsorted hkm
          rcases List.mem_cons.1 hkm with rfl | h
          · omega
          · have := (List.pairwise_cons.1 hsorted).1 k h
            omega
      have : i ∈ Region.ready .any ops listed := by
        refine List.mem_filter.2 ⟨by simpa using hlt, ?_⟩
        rw [Array.getElem?_eq_getElem hlt]
        simp only [Option.map_some, Option.getD_some, Bool.and_eq_true]
        refine ⟨hi.2, Array.all_eq_true.2 (fun m hm => ?_)⟩
        cases hb : Region.binds .any (ops[i]).after[m] with
        | false => simp
        | true =>
          have h1 := hok' i ops[i] (Array.getElem?_eq_getElem hlt) _ (Array.getElem_mem hm) hb
          have h2 := hsmall _ h1
          have h3 : listed.getD ((ops[i]).after[m]).on false = true := by
            rw [Array.getD_eq_getD_getElem?, Array.getElem?_eq_getElem (by omega)] at h2 ⊢
            simpa using h2
          simp [h3]
      rw [hr] at this
      simp at this
  intro fuel
  induction fuel with
  | zero =>
    intro listed s j a w hs hcl hf hm0 hS hrun ha hq
    exfalso
    have : m ∈ left ops.size listed := List.mem_filter.2 ⟨by simp; omega, by simp [hm0]⟩
    have hl : left ops.size listed = [] := by simpa using hf
    rw [hl] at this; simp at this
  | succ fuel ih =>
    intro listed s j a w hs hcl hf hm0 hS hrun ha hq
    refine ⟨fun hr => ?_, fun i hi => ?_⟩
    · exfalso
      have : m ∈ left ops.size listed := List.mem_filter.2 ⟨by simp; omega, by simp [hm0]⟩
      rw [ready_nil listed hs hr] at this; simp at this
    · have hm := List.mem_filter.1 hi
      simp only [Bool.and_eq_true] at hm
      have hlt : i < ops.size := by simpa using hm.1
      have hno : listed.getD i true = false := by simpa using hm.2.1
      have hy : ops[i]? = some ops[i] := Array.getElem?_eq_getElem hlt
      have hdir : ∀ e ∈ (ops[i]).after, Region.binds .any e = true → listed.getD e.on false = true := by
        intro e he hb
        have hall := hm.2.2
        rw [hy] at hall
        simp only [Option.map_some, Option.getD_some] at hall
        obtain ⟨m, hm', rfl⟩ := Array.mem_iff_getElem.1 he
        have := Array.all_eq_true.1 hall m hm'
        rw [hb] at this
        simpa only [Bool.not_true, Bool.false_or] using this
      have hset : ∀ m, listed.getD m false = true → (listed.setIfInBounds i true).getD m false = true := by
        intro m h
        by_cases hmi : m = i
        · subst hmi
          simp [Array.getD_eq_getD_getElem?, hs, hlt]
        · rw [Array.getD_eq_getD_getElem?] at h ⊢
          rw [Array.getElem?_setIfInBounds_ne (Ne.symm hmi)]
          exact h
      have hcl' : ClosedL ops (listed.setIfInBounds i true) := by
        intro m y hmy hlm e he hb
        by_cases hmi : m = i
        · subst hmi
          rw [hy] at hmy
          simp at hmy
          subst hmy
          exact hset _ (hdir e he hb)
        · refine hset _ (hcl m y hmy ?_ e he hb)
          rw [Array.getD_eq_getD_getElem?] at hlm ⊢
          rwa [Array.getElem?_setIfInBounds_ne (Ne.symm hmi)] at hlm
      by_cases him : i = m
      · subst him
        have hall : ∀ k, k < i → listed.getD k true = true := fun k hk => by
          have := waitsT_listed hcl 6 _ hdir ((hokM _ hy).2 k hk)
          rw [Array.getD_eq_getD_getElem?, Array.getElem?_eq_getElem (by omega)] at this ⊢
          simpa using this
        have hl0 : left i listed = [] := by
          unfold left
          rw [List.filter_eq_nil_iff]
          intro k hk
          rw [hall k (by simpa using hk)]; simp
        rw [hl0] at hrun
        simp only [opsS] at hrun
        obtain ⟨o, ho, hst⟩ := hrun
        refine stepN_real ho hst ha (fun j' s1 a' w' h1 h2 hrest => ?_)
        refine wpAny_none ?_ (hq j' s1 a' w' h1 h2 hrest)
        unfold left
        rw [List.filter_eq_nil_iff]
        intro k hk
        have hk : k < ops.size := by simpa using hk
        by_cases hki : k = i
        · subst hki
          simp [Array.getD_eq_getD_getElem?, hs, hlt]
        · have := hall k (by omega)
          have e : (listed.setIfInBounds i true).getD k true = listed.getD k true := by simp [Array.getD_eq_getD_getElem?, Array.getElem?_setIfInBounds_ne (Ne.symm hki)]
          rw [e, this]; simp
      have hlm : i < m := by omega
      obtain ⟨l1, l2, e1, e2, e3⟩ := left_splitZ (n := m) (by omega) hlm hno
      rw [e1] at hrun
      have hfront := opsS_front hy l1 l2 s hS (fun k hk x hx => by
        obtain ⟨hk1, hk2⟩ := e3 k hk
        refine ((hok1 i _ hlm hy).2 k hk1 x hx).resolve_left (fun hw => ?_)
        have := waitsT_listed hcl 6 _ hdir hw
        rw [Array.getD_eq_getD_getElem?, Array.getElem?_eq_getElem (by omega)] at this hk2
        simp at this hk2
        rw [this] at hk2; simp at hk2) hrun
      simp only [opsS] at hfront
      obtain ⟨y, hy', hstep⟩ := hfront
      refine stepS_real hS hy' hstep ha (fun j' s1 a' w' h1 h2 hS1 hrest => ?_)
      refine ih (listed.setIfInBounds i true) s1 j' a' w' (by simpa using hs) hcl' ?_ ?_ hS1 (by rw [e2]; exact hrest) h1 (fun j'' s'' a'' w'' g1 g2 g3 => hq j'' s'' a'' w'' g1 (h2.trans g2) g3)
      · obtain ⟨l1', l2', f1, f2, _⟩ := left_splitZ (n := ops.size) (by omega) hlt hno
        rw [f2]
        rw [f1] at hf
        simp at hf ⊢
        omega
      · have e : (listed.setIfInBounds i true).getD m true = listed.getD m true := by simp [Array.getD_eq_getD_getElem?, Array.getElem?_setIfInBounds_ne (Ne.symm (fun h => him h.symm))]
        rw [e]; exact hm0

theorem opsZ_join {n : Nat} {ops : Array Oper} {S : Heap → Prop} {D : List Nat} {K K' : St → Prop} : ∀ (l : List Nat) (s : St), opsS P n ops S D l s K → (∀ s, K s → K' s) → opsS P n ops S D l s K'
  | [], s, h, hk => hk s h
  | i :: l, s, h, hk => by
    obtain ⟨o, ho, h⟩ := h
    exact ⟨o, ho, stepS_mono h fun s' _ g => opsZ_join l s' g hk⟩
theorem opsS_of_opsNSZ {n : Nat} {ops : Array Oper} {S : Heap → Prop} {D : List Nat} {K : St → Prop} : ∀ (rest : List Oper) (i : Nat) (_ : ∀ k, k < rest.length → rest[k]? = ops[i + k]?) (s : St), S s.H → opsNS P n ops S D i rest s K → opsS P n ops S D (List.range' i rest.length) s K
  | [], i, _, s, _, h => by simpa only [List.length_nil, List.range'_zero, opsS, opsNS] using h
  | o :: rest, i, hops, s, hS, h => by
    have ho : ops[i]? = some o := by simpa using (hops 0 (by simp)).symm
    have hrest : ∀ k, k < rest.length → rest[k]? = ops[i + 1 + k]? := fun k hk => by
      have := hops (k + 1) (by simpa using hk)
      simpa [Nat.add_assoc, Nat.add_comm 1 k] using this
    simp only [List.length_cons, List.range'_succ, opsS]
    refine ⟨o, ho, ?_⟩
    have hk : ∀ s', S s'.H → opsNS P n ops S D (i + 1) rest s' K → opsS P n ops S D (List.range' (i + 1) rest.length) s' K := fun s' hS' h' => opsS_of_opsNSZ rest (i + 1) hrest s' hS' h'
    simp only [opsNS] at h
    split at h
    · rename_i hg
      split at h
      · rename_i hd
        split at h
        · rename_i t x hop
          obtain ⟨hdk, r, h1, h2⟩ := h
          rw [hd]
          refine ⟨hdk, fun r1 H1 => r1 = r ∧ H1 = s.H, ?_, ?_⟩
          · simp only [legS, if_true]
            refine ⟨⟨r, s.H, rfl, rfl⟩, .inl ⟨by simp [gst, hg], r, fun H2 h3 => ?_, fun _ _ => Iff.rfl⟩⟩
            have h4 : sload P H2 t (sval s.σ x) = some r := h1 H2 h3
            rw [hop]
            simp only [sop, h4]
          · rintro _ _ ⟨rfl, rfl⟩
            exact ⟨hS, hk _ hS h2⟩
        · rename_i t x lo hi mx hop
          obtain ⟨hdk, r, h1, h2⟩ := h
          rw [hd]
          refine ⟨hdk, fun r1 H1 => r1 = r ∧ H1 = s.H, ?_, ?_⟩
          · simp only [legS, if_true]
            refine ⟨⟨r, s.H, rfl, rfl⟩, .inl ⟨by simp [gst, hg], r, fun H2 h3 => ?_, fun _ _ => Iff.rfl⟩⟩
            have h4 : sslice P H2 t (globO x (sval s.σ x)) (lo.map (sval s.σ)) (hi.map (sval s.σ)) (mx.map (sval s.σ)) = some r := h1 H2 h3
            rw [hop]
            simp only [sop, h4]
          · rintro _ _ ⟨rfl, rfl⟩
            exact ⟨hS, hk _ hS h2⟩
        · exact h.elim
      · rename_i hd
        have hd : hasD D i = false := by simpa using hd
        rw [hd]
        split at h
        · refine stepN_S (stepN_mono (opN_leg (by simp [gst, hg]) h) fun s' g => ⟨g.1, hk s' g.1 g.2⟩)
        · rename_i hh
          have hh : heavy o.op = false := by simpa using hh
          refine stepN_S (stepN_mono (stepN_keep hh (opN_leg (by simp [gst, hg]) h)) fun s' g => ?_)
          have hS' : S s'.H := by rw [g.1]; exact hS
          exact ⟨hS', hk s' hS' g.2⟩
    · exact h.elim

theorem SW.regionZ {n : Nat} {id : Nat} {l : List Oper} {o : Oper} {Q : Exit → St → Prop} {s : St} (S : Heap → Prop) (D : List Nat) (hm : P.follows .mixedOrders = true) (hok : drawOkZ D (l ++ [o]).toArray = true) (hS : S s.H)
    (h : opsNS P n (l ++ [o]).toArray S D 0 l s (fun s' => o.guard = none ∧ opN P n o s' (Q .normal))) : SW P n (.region id (l ++ [o]).toArray true) Q s := by
  intro j a w ha
  have hrun := opsS_of_opsNSZ l 0 (fun k hk => ?_) s hS h
  · have hd : SAll n j s a w.drew := ⟨ha.rel.drew, ha.slots.nx ha.rel (Nx.drew j s.H w), ha.size, ha.defers⟩
    refine wp_region_any hm ?_
    have hsz : (l ++ [o]).toArray.size = l.length + 1 := by simp
    have hleft : left l.length (Array.replicate (l ++ [o]).toArray.size false) = List.range' 0 l.length := by
      unfold left
      rw [← List.range_eq_range']
      apply List.filter_eq_self.2
      intro k hk
      simp at hk
      simp [Array.getD_eq_getD_getElem?, show k < l.length + 1 by omega]
    have hleft2 : (left (l ++ [o]).toArray.size (Array.replicate (l ++ [o]).toArray.size false)).length ≤ (l ++ [o]).toArray.size := by
      unfold left
      exact Nat.le_trans (List.length_filter_le _ _) (by simp)
    refine wpAny_of_opsZ (m := l.length) hsz hok (l ++ [o]).toArray.size _ s j a w.drew (by simp) (fun m y _ h => by simp [Array.getD_eq_getD_getElem?, Array.getElem?_replicate] at h; split at h <;> simp at h) hleft2 (by simp [Array.getD_eq_getD_getElem?]) hS (by rw [hleft]; exact opsZ_join _ _ hrun fun s' ⟨g1, g2⟩ => ⟨o, by simp, opN_leg (by simp [gst, g1]) g2⟩) hd (fun j' s' a' w' h1 h2 h3 => ⟨j', s', h1, (Nx.drew j s.H w).trans h2, h3⟩)
  · rw [Nat.zero_add]
    simp [List.getElem?_append_left hk]
def initZ : List Oper → List Oper
  | [] => []
  | [_] => []
  | o :: p :: l => o :: initZ (p :: l)
def lastZ (K : Oper → Prop) : List Oper → Prop
  | [] => False
  | [o] => K o
  | _ :: p :: l => lastZ K (p :: l)
theorem initZ_nil : initZ [] = [] := rfl
theorem initZ_one (o : Oper) : initZ [o] = [] := rfl
theorem initZ_cons (o p : Oper) (l : List Oper) : initZ (o :: p :: l) = o :: initZ (p :: l) := rfl
theorem lastZ_one (K : Oper → Prop) (o : Oper) : lastZ K [o] = K o := rfl
theorem lastZ_cons (K : Oper → Prop) (o p : Oper) (l : List Oper) : lastZ K (o :: p :: l) = lastZ K (p :: l) := rfl
theorem initZ_app : ∀ (l : List Oper), l ≠ [] → ∃ o, l = initZ l ++ [o]
  | [], h => absurd rfl h
  | [o], _ => ⟨o, rfl⟩
  | o :: p :: l, _ => by
    obtain ⟨q, e⟩ := initZ_app (p :: l) (by simp)
    exact ⟨q, by rw [initZ, List.cons_append, ← e]⟩
theorem SW.regionZ' {n : Nat} {id : Nat} {ops : Array Oper} {Q : Exit → St → Prop} {s : St} (S : Heap → Prop) (D : List Nat) (hm : P.follows .mixedOrders = true) (hok : drawOkZ D ops = true) (hS : S s.H)
    (h : opsNS P n ops S D 0 (initZ ops.toList) s (fun s' => lastZ (fun o => o.guard = none ∧ opN P n o s' (Q .normal)) ops.toList)) : SW P n (.region id ops true) Q s := by
  obtain ⟨l⟩ := ops
  have hne : l ≠ [] := by
    rintro rfl
    simp [drawOkZ] at hok
  obtain ⟨o, e⟩ := initZ_app l hne
  simp only at h
  generalize initZ l = l' at *
  subst e
  refine SW.regionZ S D hm hok hS ?_
  have hK : (fun s' => lastZ (fun o => o.guard = none ∧ opN P n o s' (Q .normal)) (l' ++ [o])) = fun s' => o.guard = none ∧ opN P n o s' (Q .normal) := by
    funext s'
    have key : ∀ (K : Oper → Prop) (l : List Oper), lastZ K (l ++ [o]) = K o := by
      intro K l
      induction l with
      | nil => rfl
      | cons p l ih => cases l with
        | nil => rfl
        | cons q l => exact ih
    exact key _ _
  rw [hK] at h
  exact h
def drawsOk5 (D r : List Nat) (E : List Nat) : Code → Bool
  | .region id ops draw => !draw || (if hasD r id = true then drawOkZ E ops else if hasD D id then drawOkN ops else drawOk ops)
  | .seq a b => drawsOk5 D r E a && drawsOk5 D r E b
  | .cond _ a b => drawsOk5 D r E a && drawsOk5 D r E b
  | .block _ c => drawsOk5 D r E c
  | .loop c => drawsOk5 D r E c
  | _ => true
def vc5 (P : Program) (D r : List Nat) (S : Heap → Prop) (E : List Nat) (n : Nat) : Code → (Exit → St → Prop) → St → Prop
  | .skip, Q, s => Q .normal s
  | .label _, Q, s => Q .normal s
  | .region id ops draw, Q, s => if draw = true then (if hasD r id = true then S s.H ∧ opsNS P n ops S E 0 (initZ ops.toList) s (fun s' => lastZ (fun o => o.guard = none ∧ opN P n o s' (Q .normal)) ops.toList) else if hasD D id = true then opsN P n ops ops.toList s (Q .normal) else opsW P n true ops ops.toList s (Q .normal)) else opsW P n false ops ops.toList s (Q .normal)
  | .seq a b, Q, s => vc5 P D r S E n a (seqQ (fun s' => vc5 P D r S E n b Q s') Q) s
  | .cond c a b, Q, s => match sval s.σ c with
    | .val (.bool t) => (t = true → vc5 P D r S E n a Q s) ∧ (t = false → vc5 P D r S E n b Q s)
    | _ => False
  | .block id c, Q, s => vc5 P D r S E n c (blockQ id Q) s
  | .loop c, Q, s => SW P n (.loop c) Q s
  | .exit id, Q, s => Q (.exit id) s
  | .ret, Q, s => Q .ret s
  | _, _, _ => False
theorem SW_of_vc5 (D r : List Nat) (S : Heap → Prop) (E : List Nat) {n : Nat} (hm : P.follows .mixedOrders = true) : ∀ (c : Code) (Q : Exit → St → Prop) (s : St), drawsOk5 D r E c = true → vc5 P D r S E n c Q s → SW P n c Q s
  | .skip, Q, s, _, h => SW.skip h
  | .label _, Q, s, _, h => SW.label h
  | .region id ops draw, Q, s, hd, h => by
    cases draw with
    | false => exact SW.region (by simpa [vc5] using h)
    | true =>
      simp only [vc5, if_true] at h
      simp only [drawsOk5, Bool.not_true, Bool.false_or] at hd
      by_cases hr : hasD r id = true
      · rw [if_pos hr] at h hd
        exact SW.regionZ' S E hm hd h.1 h.2
      · rw [if_neg hr] at h hd
        by_cases hc : hasD D id = true
        · rw [if_pos hc] at h hd
          exact SW.regionN hm hd h
        · rw [if_neg hc] at h hd
          exact SW.regionD hm hd h
  | .seq a b, Q, s, hd, h => by
    simp only [drawsOk5, Bool.and_eq_true] at hd
    refine SW.seq (SW.mono (SW_of_vc5 D r S E hm a _ s hd.1 h) ?_)
    intro e s' he
    cases e with
    | normal => exact SW_of_vc5 D r S E hm b Q s' hd.2 he
    | _ => exact he
  | .cond c a b, Q, s, hd, h => by
    simp only [drawsOk5, Bool.and_eq_true] at hd
    simp only [vc5] at h
    split at h
    · rename_i t ht
      exact SW.cond ht (fun e => SW_of_vc5 D r S E hm a Q s hd.1 (h.1 e)) (fun e => SW_of_vc5 D r S E hm b Q s hd.2 (h.2 e))
    · exact h.elim
  | .block id c, Q, s, hd, h => SW.block (SW_of_vc5 D r S E hm c _ s (by simpa [drawsOk5] using hd) h)
  | .loop c, Q, s, _, h => h
  | .exit id, Q, s, _, h => SW.exit h
  | .ret, Q, s, _, h => SW.ret h
  | .rangeFunc _ _ _ _, _, _, _, h => h.elim
  | .scope _, _, _, _, h => h.elim
  | .goto _, _, _, _, h => h.elim
  | .refuse _, _, _, _, h => h.elim
section
variable (D r : List Nat) (S : Heap → Prop) (E : List Nat)
theorem vc5_skip (n : Nat) (Q : Exit → St → Prop) (s : St) : vc5 P D r S E n .skip Q s = Q .normal s := (rfl)
theorem vc5_label (n l : Nat) (Q : Exit → St → Prop) (s : St) : vc5 P D r S E n (.label l) Q s = Q .normal s := (rfl)
theorem vc5_regionF (n id : Nat) (l : List Oper) (Q : Exit → St → Prop) (s : St) : vc5 P D r S E n (.region id l.toArray false) Q s = opsW P n false l.toArray l s (Q .normal) := (rfl)
theorem vc5_regionT (n id : Nat) (l : List Oper) (Q : Exit → St → Prop) (s : St) : vc5 P D r S E n (.region id l.toArray true) Q s = if hasD r id = true then @needW (S s.H) ⟨opsNS P n l.toArray S E 0 (initZ l) s (fun s' => lastZ (fun o => o.guard = none ∧ opN P n o s' (Q .normal)) l)⟩ else if hasD D id = true then opsN P n l.toArray l s (Q .normal) else opsW P n true l.toArray l s (Q .normal) := (rfl)
theorem vc5_seq (n : Nat) (a b : Code) (Q : Exit → St → Prop) (s : St) : vc5 P D r S E n (.seq a b) Q s = vc5 P D r S E n a (seqQ (fun s' => vc5 P D r S E n b Q s') Q) s := (rfl)
theorem vc5_cond (n : Nat) (c : Operand) (a b : Code) (Q : Exit → St → Prop) (s : St) : vc5 P D r S E n (.cond c a b) Q s = @condW (sval s.σ c) ⟨vc5 P D r S E n a Q s, vc5 P D r S E n b Q s⟩ := (rfl)
theorem vc5_block (n id : Nat) (c : Code) (Q : Exit → St → Prop) (s : St) : vc5 P D r S E n (.block id c) Q s = vc5 P D r S E n c (blockQ id Q) s := (rfl)
theorem vc5_loop (n : Nat) (c : Code) (Q : Exit → St → Prop) (s : St) : vc5 P D r S E n (.loop c) Q s = @LoopW P n s ⟨c, Q⟩ := (rfl)
theorem vc5_exit (n id : Nat) (Q : Exit → St → Prop) (s : St) : vc5 P D r S E n (.exit id) Q s = Q (.exit id) s := (rfl)
theorem vc5_ret (n : Nat) (Q : Exit → St → Prop) (s : St) : vc5 P D r S E n .ret Q s = Q .ret s := (rfl)
end
attribute [go_sem ↓] initZ_nil initZ_one initZ_cons lastZ_one lastZ_cons vc5_skip vc5_label vc5_regionF vc5_regionT vc5_seq vc5_cond vc5_block vc5_loop vc5_exit vc5_ret
end Go.Sh

/-
  Drawing rules: known ones.
-/
namespace Go.Sh
open Go Go.Proofs

def PickSQ (B : List Int) (L : List (List UInt8)) (H : Heap) (cb : Nat) (r : SV) (H' : Heap) : Prop := ∃ p, r = str p ∧ p ∈ L ∧ CurS B H cb H'
theorem Tryz.l1PickS_ok (B : List Int) (hB : B.length ≤ 1048576) (L : List (List UInt8)) (hL : L ≠ []) (hl : L.length ≤ 256) (H : Heap) (cb lb : Nat) (ex e2 : Bool) (hc : Cur B H cb) (hb : H.map lb = some ⟨strs L, e2⟩) (hne : lb ≠ cb) :
    CallS Tryz.prog 109 [.optr cb 0, .own lb 0 L.length L.length 1 ex] H (PickSQ B L H cb) := by
  have w := Tryz.l1Below_ok B hB L.length (by omega) H cb hc
  have hl0 : 0 < L.length := List.length_pos_iff.2 hL
  refine CallS.of_body Tryz.func109 rfl (by kernel_rfl) (by simp [Tryz.ntmps109]) ?_
  refine SW_of_vc Tryz.mixed _ _ _ (by kernel_rfl) ?_
  simp (disch := omega) only [go_sem]
  refine w.callX ?_
  rintro r H' ⟨v, rfl, v0, v1, v2, hs⟩
  have v1 := v1 (by omega)
  obtain ⟨x, rfl⟩ := Int.eq_ofNat_of_zero_le v0
  have hx : x < L.length := by omega
  have hm : H'.map lb = some ⟨strs L, e2⟩ := by rw [hs.map hne, hb]
  have gx := zn hx
  have hfin : PickSQ B L H cb (str (L.getD x [])) H' := ⟨_, rfl, by simp [hx], hs⟩
  simp (disch := omega) only [go_sem, hm, gx]
  exact hfin
theorem shift_nlG (k z b n : Nat) : shift k (nlG z b n) = nlG z (b + k) n := by
  unfold nlG
  split
  · simp only [shift]
  · simp only [shift]
theorem shiftL_cons (k : Nat) : ∀ C : List Con, shiftL k (cons C) = cons C
  | [] => rfl
  | c :: C => by
    have ih := shiftL_cons k C
    simp only [cons, List.flatMap_cons, con3, List.cons_append, List.nil_append, shiftL, shift] at ih ⊢
    rw [ih]
theorem RuH.merge {H H0 : Heap} {ob : Nat} {R : List (List Con)} {cs : List SV} {nm : Nat → Nat} (h : RuH H0 0 R ob cs nm) : RuH (H.merge H0) H.nb R (ob + H.nb) (shiftL H.nb cs) (fun i => nm i + H.nb) := by
  have hmap : ∀ b blk, H0.map b = some blk → (H.merge H0).map (b + H.nb) = some ⟨shiftL H.nb blk.cells, blk.ex⟩ := fun b blk hb => by
    simp only [Heap.merge]
    rw [if_neg (by omega), Nat.add_sub_cancel, hb]; rfl
  have hnb : (H.merge H0).nb = H.nb + H0.nb := rfl
  refine ⟨by rw [shiftL_length, h.ln], fun h0 => hmap _ _ (h.o h0), fun i hi => ?_, fun i j hi hj hi0 hj0 e => h.inj i j hi hj hi0 hj0 (by have e' : nm i + H.nb = nm j + H.nb := e; omega), fun h0 => ?_⟩
  · obtain ⟨g1, g2⟩ := h.row i hi
    refine ⟨by rw [shiftL_map, List.getElem?_map, g1, Option.map_some, shift_nlG], fun h0 => ?_⟩
    obtain ⟨k1, k2, k3, k4⟩ := g2 h0
    refine ⟨by rw [hmap _ _ k1, shiftL_cons], by omega, by rw [hnb]; omega, by show nm i + H.nb ≠ ob + H.nb; omega⟩
  · have := h.lo1 h0
    rw [hnb]; omega
section
variable {P : Program}
theorem FCall.callRu {f : FuncId} {args args' : List SV} {R : List (List Con)} {u : Bool} {H : Heap} {K : SV → Heap → Prop} (h : FCall P f args' (RuF R u)) (fu : Nat) (hv : viewL H fu args = some args')
    (k : ∀ H' ob cs nm, RuH H' H.nb R ob cs nm → H.nb ≤ H'.nb → (∀ b, b < H.nb → H'.map b = H.map b) → K (.tup [.agg [nlG 1 ob R.length], .val (.bool u)]) H') : @CallX P f args H ⟨K⟩ := by
  refine (h.callS fu hv).mono ?_
  rintro r H' ⟨r0, H0, ⟨ob, cs, nm, rfl, hR⟩, rfl, rfl⟩
  have hnb : (H.merge H0).nb = H.nb + H0.nb := rfl
  have := k (H.merge H0) (ob + H.nb) _ _ (hR.merge (H := H)) (by omega) (fun b hb => by simp only [Heap.merge]; rw [if_pos hb])
  simpa only [shift, shiftL, shift_nlG] using this
end
def kn (f t : Int) (b : Bool) : Con := (f, t, b)
def knownR : List (List (List Con)) := [
  [[kn 0 800 false, kn 5 800 false]],
  [[kn 0 900 false], [kn 1 500 false, kn 5 400 false]],
  [[kn 2 500 false, kn 4 700 false], [kn 5 1000 false]],
  [[kn 0 700 false, kn 4 500 true]],
  [[kn 1 1000 false], [kn 0 800 false, kn 3 500 false, kn 4 800 false], [kn 5 1000 false]],
  [[kn 5 500 true], [kn 5 500 false]],
  [[kn 0 600 false]]]
theorem known_valid : ∀ R ∈ knownR, isVR R = true := by decide
theorem dd {n : Nat} (h : ¬ n < 10) : Lib.decDigits n = Lib.decDigits (n / 10) ++ [UInt8.ofNat (48 + n % 10)] := by rw [Lib.decDigits, dif_neg h]
theorem dd1 {n : Nat} (h : n < 10) : Lib.decDigits n = [UInt8.ofNat (48 + n)] := by rw [Lib.decDigits, dif_pos h]
theorem it3 {a : Nat} (h1 : 100 ≤ a) (h2 : a < 1000) : Lib.itoa a = [UInt8.ofNat (48 + a / 10 / 10), UInt8.ofNat (48 + a / 10 % 10), UInt8.ofNat (48 + a % 10)] := by
  rw [Lib.itoa, if_neg (by omega), Int.toNat_natCast, dd (by omega), dd (by omega), dd1 (by omega)]; rfl
theorem it4 {a : Nat} (h1 : 1000 ≤ a) (h2 : a < 10000) : Lib.itoa a = [UInt8.ofNat (48 + a / 10 / 10 / 10), UInt8.ofNat (48 + a / 10 / 10 % 10), UInt8.ofNat (48 + a / 10 % 10), UInt8.ofNat (48 + a % 10)] := by
  rw [Lib.itoa, if_neg (by omega), Int.toNat_natCast, dd (by omega), dd (by omega), dd (by omega), dd1 (by omega)]; rfl
def knownS : List (List UInt8) := [[110, 97, 109, 101, 62, 61, 56, 48, 48, 44, 112, 104, 111, 110, 101, 62, 61, 56, 48, 48], [110, 97, 109, 101, 62, 61, 57, 48, 48, 32, 111, 114, 32, 116, 111, 107, 101, 110, 115, 62, 61, 53, 48, 48, 44, 112, 104, 111, 110, 101, 62, 61, 52, 48, 48], [115, 111, 117, 110, 100, 62, 61, 53, 48, 48, 44, 121, 101, 97, 114, 62, 61, 55, 48, 48, 32, 111, 114, 32, 112, 104, 111, 110, 101, 62, 61, 49, 48, 48, 48], [110, 97, 109, 101, 62, 61, 55, 48, 48, 44, 121, 101, 97, 114, 60, 53, 48, 48], [116, 111, 107, 101, 110, 115, 62, 61, 49, 48, 48, 48, 32, 111, 114, 32, 110, 97, 109, 101, 62, 61, 56, 48, 48, 44, 99, 105, 116, 121, 62, 61, 53, 48, 48, 44, 121, 101, 97, 114, 62, 61, 56, 48, 48, 32, 111, 114, 32, 112, 104, 111, 110, 101, 62, 61, 49, 48, 48, 48], [112, 104, 111, 110, 101, 60, 53, 48, 48, 32, 111, 114, 32, 112, 104, 111, 110, 101, 62, 61, 53, 48, 48], [110, 97, 109, 101, 62, 61, 54, 48, 48]]
theorem fmtR_of (R : List (List Con)) (hv : isVR R = true) : fmtR R = Lib.join (R.map fun T => Lib.join (T.map fun c => fname c.1.toNat ++ opB c.2.2 ++ Lib.itoa c.2.1) [44]) orB := by rw [fmtR, if_pos hv]; rfl
theorem known_fmt : knownR.map fmtR = knownS := by
  have i8 : Lib.itoa 800 = [56, 48, 48] := it3 (a := 800) (by omega) (by omega)
  have i9 : Lib.itoa 900 = [57, 48, 48] := it3 (a := 900) (by omega) (by omega)
  have i5 : Lib.itoa 500 = [53, 48, 48] := it3 (a := 500) (by omega) (by omega)
  have i4 : Lib.itoa 400 = [52, 48, 48] := it3 (a := 400) (by omega) (by omega)
  have i7 : Lib.itoa 700 = [55, 48, 48] := it3 (a := 700) (by omega) (by omega)
  have i6 : Lib.itoa 600 = [54, 48, 48] := it3 (a := 600) (by omega) (by omega)
  have i1 : Lib.itoa 1000 = [49, 48, 48, 48] := it4 (a := 1000) (by omega) (by omega)
  simp only [knownR, List.map_cons, List.map_nil]
  rw [fmtR_of _ (by decide), fmtR_of _ (by decide), fmtR_of _ (by decide), fmtR_of _ (by decide), fmtR_of _ (by decide), fmtR_of _ (by decide), fmtR_of _ (by decide)]
  simp only [List.map_cons, List.map_nil, kn, i8, i9, i5, i4, i7, i6, i1]
  rfl
theorem known_of {p : List UInt8} (h : p ∈ knownS) : ∃ R, isVR R = true ∧ fmtR R = p := by
  rw [← known_fmt] at h
  obtain ⟨R, hR, rfl⟩ := List.mem_map.1 h
  exact ⟨R, known_valid R hR, rfl⟩
def RuQ (B : List Int) (cb : Nat) (H : Heap) (r : SV) (H' : Heap) : Prop := ∃ R ob cs nm, r = .agg [nlG 1 ob R.length] ∧ RuH H' H.nb R ob cs nm ∧ DS B cb H H' ∧ (1 ≤ R.length ∧ R.length ≤ 3) ∧ ∀ i, i < R.length → 1 ≤ (rg R i).length ∧ (rg R i).length ≤ 3
set_option maxRecDepth 20000 in
set_option maxHeartbeats 8000000 in
theorem Tryz.l14Known_ok (B : List Int) (hB : B.length ≤ 1048576) (H : Heap) (cb : Nat) (hc : Cur B H cb) (hcb : cb < H.nb) : CallS Tryz.prog 62 [.optr cb 0] H (RuQ B cb H) := by
  have hcs : [str [110, 97, 109, 101, 62, 61, 56, 48, 48, 44, 112, 104, 111, 110, 101, 62, 61, 56, 48, 48], str [110, 97, 109, 101, 62, 61, 57, 48, 48, 32, 111, 114, 32, 116, 111, 107, 101, 110, 115, 62, 61, 53, 48, 48, 44, 112, 104, 111, 110, 101, 62, 61, 52, 48, 48], str [115, 111, 117, 110, 100, 62, 61, 53, 48, 48, 44, 121, 101, 97, 114, 62, 61, 55, 48, 48, 32, 111, 114, 32, 112, 104, 111, 110, 101, 62, 61, 49, 48, 48, 48], str [110, 97, 109, 101, 62, 61, 55, 48, 48, 44, 121, 101, 97, 114, 60, 53, 48, 48], str [116, 111, 107, 101, 110, 115, 62, 61, 49, 48, 48, 48, 32, 111, 114, 32, 110, 97, 109, 101, 62, 61, 56, 48, 48, 44, 99, 105, 116, 121, 62, 61, 53, 48, 48, 44, 121, 101, 97, 114, 62, 61, 56, 48, 48, 32, 111, 114, 32, 112, 104, 111, 110, 101, 62, 61, 49, 48, 48, 48], str [112, 104, 111, 110, 101, 60, 53, 48, 48, 32, 111, 114, 32, 112, 104, 111, 110, 101, 62, 61, 53, 48, 48], str [110, 97, 109, 101, 62, 61, 54, 48, 48]] = strs knownS := rfl
  have hrep : List.replicate 7 (SV.val (Value.string (sb []))) = [str [], str [], str [], str [], str [], str [], str []] := rfl
  have e1 := DS.push hc hcb ⟨[.val (.slice none 0 0)], true⟩
  have e2 := e1.trans (DS.push e1.cur (by rw [za]; omega) ⟨strs knownS, false⟩)
  have wp := Tryz.l1PickS_ok B hB knownS (by decide) (by decide) ((H.push ⟨[.val (.slice none 0 0)], true⟩).push ⟨strs knownS, false⟩) cb (H.nb + 1) false false e2.cur (by rw [zb, if_pos (by rw [za])]) (by omega)
  refine CallS.of_body Tryz.func62 rfl (by kernel_rfl) (by simp [Tryz.ntmps62]) ?_
  refine SW_of_vc Tryz.mixed _ _ _ (by kernel_rfl) ?_
  simp (disch := omega) only [go_sem, hrep, List.set_cons_zero, List.set_cons_succ, List.length_cons, List.length_nil, hcs, za]
  clear hcs hrep
  refine wp.callX ?_
  rintro r H1 ⟨p, rfl, hp, hs⟩
  obtain ⟨R, hv, rfl⟩ := known_of hp
  obtain ⟨hR13, hok⟩ := isVR_facts hv
  have hd1 := e2.trans hs.ds
  have hnb1 : H1.nb = H.nb + 1 + 1 := hs.nb
  have hm0 : H1.map H.nb = some ⟨[.val (.slice none 0 0)], true⟩ := by rw [hs.map (by omega), zb, if_neg (by rw [za]; omega), zb, if_pos rfl]
  simp (disch := omega) only [go_sem, za]
  refine (Tryz.specPR_f R hv).callRu 0 (z6 zd z7) ?_
  intro H2 ob cs nm hRu hnb2 hfr
  have hd2 : DS B cb H1 H2 := ⟨by obtain ⟨i, x, hi, e⟩ := hd1.cur; exact ⟨i, x, hi, by rw [hfr cb (by omega), e]⟩, hnb2, fun b hb _ => hfr b hb⟩
  have hm2 : H2.map H.nb = some ⟨[.val (.slice none 0 0)], true⟩ := by rw [hfr _ (by omega), hm0]
  have e0 := nlG_f (z := 1) (b := ob) (by omega : R.length ≠ 0)
  have hd3 := hd1.trans hd2
  have hd4 := hd3.trans (DS.push hd3.cur (by omega) ⟨[.val (.slice none 0 0)], true⟩)
  rw [e0]
  simp (disch := omega) only [go_sem, hm2, ze, zb, zc, za]
  have hd5 := (hd4.setF H2.nb (by omega) (by omega) (some ⟨[.own ob 0 R.length R.length 1 false], true⟩)).setF H.nb (by omega) (by omega) (some ⟨[.own ob 0 R.length R.length 1 false], true⟩)
  refine ⟨R, ob, cs, nm, by rw [e0], (hRu.fr ?_ fun b b1 b2 => ?_).low (by omega), hd5, by omega, fun i hi => (hok _ (rg_mem hi)).1⟩
  · simp only [zc, za]; omega
  · simp (disch := omega) only [ze, zb, zc, za, if_neg, ↓reduceIte]
end Go.Sh

/-
  Drawing names, phones, fields.
-/
namespace Go.Sh
open Go Go.Proofs

def StQ (n : Nat) (B : List Int) (cb : Nat) (H : Heap) (r : SV) (H' : Heap) : Prop := ∃ p : Wd, r = str p ∧ p.length ≤ n ∧ DS B cb H H'
def lFirst : List Wd := [[97, 110, 110, 97], [65, 110, 110, 97], [97, 110, 110], [106, 111, 104, 110], [74, 111, 110], [109, 97, 114, 105, 97], [77, 97, 114, 121], [112, 101, 116, 101, 114], [79, 39, 78, 101, 105, 108], [108, 105]]
theorem lFirst_le : ∀ p ∈ lFirst, p.length ≤ 6 := by decide
theorem lFirst_eq : ([str [97, 110, 110, 97], str [65, 110, 110, 97], str [97, 110, 110], str [106, 111, 104, 110], str [74, 111, 110], str [109, 97, 114, 105, 97], str [77, 97, 114, 121], str [112, 101, 116, 101, 114], str [79, 39, 78, 101, 105, 108], str [108, 105]] : List SV) = strs lFirst := rfl
def lLast : List Wd := [[115, 109, 105, 116, 104], [83, 109, 121, 116, 104], [115, 99, 104, 109, 105, 100, 116], [106, 111, 110, 101, 115], [74, 111, 110, 97, 115], [108, 101, 101], [100, 101, 32, 108, 97, 32, 67, 114, 117, 122], [109, 105, 108, 108, 101, 114], [77, 117, 108, 108, 101, 114]]
theorem lLast_le : ∀ p ∈ lLast, p.length ≤ 10 := by decide
theorem lLast_eq : ([str [115, 109, 105, 116, 104], str [83, 109, 121, 116, 104], str [115, 99, 104, 109, 105, 100, 116], str [106, 111, 110, 101, 115], str [74, 111, 110, 97, 115], str [108, 101, 101], str [100, 101, 32, 108, 97, 32, 67, 114, 117, 122], str [109, 105, 108, 108, 101, 114], str [77, 117, 108, 108, 101, 114]] : List SV) = strs lLast := rfl
def lMid : List Wd := [[97, 46], [66], [106]]
theorem lMid_le : ∀ p ∈ lMid, p.length ≤ 2 := by decide
theorem lMid_eq : ([str [97, 46], str [66], str [106]] : List SV) = strs lMid := rfl
def lPhone : List Wd := [[53, 53, 53, 32, 49, 50, 51, 52], [43, 49, 32, 53, 53, 53, 45, 49, 50, 51, 52], [49, 53, 53, 53, 49, 50, 51, 52], [53, 53, 53, 49, 50, 51, 52], [49, 50, 51, 52], [50, 51, 52], [], [53, 53, 53, 45, 57, 57, 57, 57], [48, 48, 52, 52, 32, 50, 48, 32, 55, 57, 52, 54, 32, 48, 48, 49, 56], [55, 57, 52, 54, 32, 48, 48, 49, 56], [120]]
theorem lPhone_le : ∀ p ∈ lPhone, p.length ≤ 17 := by decide
theorem lPhone_eq : ([str [53, 53, 53, 32, 49, 50, 51, 52], str [43, 49, 32, 53, 53, 53, 45, 49, 50, 51, 52], str [49, 53, 53, 53, 49, 50, 51, 52], str [53, 53, 53, 49, 50, 51, 52], str [49, 50, 51, 52], str [50, 51, 52], str [], str [53, 53, 53, 45, 57, 57, 57, 57], str [48, 48, 52, 52, 32, 50, 48, 32, 55, 57, 52, 54, 32, 48, 48, 49, 56], str [55, 57, 52, 54, 32, 48, 48, 49, 56], str [120]] : List SV) = strs lPhone := rfl
def lCity : List Wd := [[80, 97, 114, 105, 115], [112, 97, 114, 105, 115], [76, 111, 110, 100, 111, 110], [78, 101, 119, 32, 89, 111, 114, 107], [110, 101, 119, 45, 121, 111, 114, 107], [], [82, 111, 109, 101]]
theorem lCity_le : ∀ p ∈ lCity, p.length ≤ 8 := by decide
theorem lCity_eq : ([str [80, 97, 114, 105, 115], str [112, 97, 114, 105, 115], str [76, 111, 110, 100, 111, 110], str [78, 101, 119, 32, 89, 111, 114, 107], str [110, 101, 119, 45, 121, 111, 114, 107], str [], str [82, 111, 109, 101]] : List SV) = strs lCity := rfl
def lYear : List Wd := [[49, 57, 56, 48], [49, 57, 56, 49], [49, 57, 56, 53], [], [49, 57, 57, 48], [120]]
theorem lYear_le : ∀ p ∈ lYear, p.length ≤ 4 := by decide
theorem lYear_eq : ([str [49, 57, 56, 48], str [49, 57, 56, 49], str [49, 57, 56, 53], str [], str [49, 57, 57, 48], str [120]] : List SV) = strs lYear := rfl
def lBad : List Wd := [[97, 124, 98], [97, 59, 98], [10], []]
theorem lBad_le : ∀ p ∈ lBad, p.length ≤ 3 := by decide
theorem lBad_eq : ([str [97, 124, 98], str [97, 59, 98], str [10], str []] : List SV) = strs lBad := rfl
theorem repS3 : List.replicate 3 (SV.val (Value.string (sb []))) = [str [], str [], str []] := rfl
theorem repS4 : List.replicate 4 (SV.val (Value.string (sb []))) = [str [], str [], str [], str []] := rfl
theorem repS6 : List.replicate 6 (SV.val (Value.string (sb []))) = [str [], str [], str [], str [], str [], str []] := rfl
theorem repS7 : List.replicate 7 (SV.val (Value.string (sb []))) = [str [], str [], str [], str [], str [], str [], str []] := rfl
theorem repS9 : List.replicate 9 (SV.val (Value.string (sb []))) = [str [], str [], str [], str [], str [], str [], str [], str [], str []] := rfl
theorem repS10 : List.replicate 10 (SV.val (Value.string (sb []))) = [str [], str [], str [], str [], str [], str [], str [], str [], str [], str []] := rfl
theorem repS11 : List.replicate 11 (SV.val (Value.string (sb []))) = [str [], str [], str [], str [], str [], str [], str [], str [], str [], str [], str []] := rfl
set_option maxRecDepth 20000 in
set_option maxHeartbeats 8000000 in
theorem Tryz.l7Phone_ok (B : List Int) (hB : B.length ≤ 1048576) (H : Heap) (cb : Nat) (hc : Cur B H cb) (hcb : cb < H.nb) : CallS Tryz.prog 199 [.optr cb 0] H (StQ 17 B cb H) := by
  have d1 := DS.push hc hcb ⟨strs lPhone, false⟩
  have wp := Tryz.l1PickS_ok B hB lPhone (by decide) (by decide) (H.push ⟨strs lPhone, false⟩) cb H.nb false false d1.cur (by rw [zb, if_pos rfl]) (by omega)
  refine CallS.of_body Tryz.func199 rfl (by kernel_rfl) (by simp [Tryz.ntmps199]) ?_
  refine SW_of_vc Tryz.mixed _ _ _ (by kernel_rfl) ?_
  simp (disch := omega) only [go_sem, repS11, lPhone_eq, List.set_cons_zero, List.set_cons_succ, List.length_cons, List.length_nil, ze, zb, zc, za]
  refine wp.callX ?_
  rintro r H1 ⟨p, rfl, hp, hs⟩
  simp (disch := omega) only [go_sem]
  exact ⟨p, rfl, lPhone_le p hp, d1.trans hs.ds⟩
set_option maxRecDepth 20000 in
set_option maxHeartbeats 8000000 in
theorem Tryz.l2Name_ok (B : List Int) (hB : B.length ≤ 1048576) (H : Heap) (cb : Nat) (hc : Cur B H cb) (hcb : cb < H.nb) : CallS Tryz.prog 198 [.optr cb 0] H (StQ 40 B cb H) := by
  have d1 := DS.push hc hcb ⟨strs lFirst, false⟩
  have wp := Tryz.l1PickS_ok B hB lFirst (by decide) (by decide) (H.push ⟨strs lFirst, false⟩) cb H.nb false false d1.cur (by rw [zb, if_pos rfl]) (by omega)
  refine CallS.of_body Tryz.func198 rfl (by kernel_rfl) (by simp [Tryz.ntmps198]) ?_
  refine SW_of_vc Tryz.mixed _ _ _ (by kernel_rfl) ?_
  simp (disch := omega) only [go_sem, repS10, lFirst_eq, List.set_cons_zero, List.set_cons_succ, List.length_cons, List.length_nil, ze, zb, zc, za]
  refine wp.callX ?_
  rintro r H1 ⟨p, rfl, hp, hs⟩
  have d2 := d1.trans hs.ds
  have hp := lFirst_le p hp
  have hnb1 : H1.nb = H.nb + 1 := hs.nb
  have e1 := DS.push d2.cur (by omega) ⟨strs lLast, false⟩
  have wq := Tryz.l1PickS_ok B hB lLast (by decide) (by decide) (H1.push ⟨strs lLast, false⟩) cb H1.nb false false e1.cur (by rw [zb, if_pos rfl]) (by omega)
  simp (disch := omega) only [go_sem, repS9, lLast_eq, List.set_cons_zero, List.set_cons_succ, List.length_cons, List.length_nil, ze, zb, zc, za]
  refine wq.callX ?_
  rintro r H2 ⟨q, rfl, hq, hs2⟩
  have d3 := d2.trans (e1.trans hs2.ds)
  have hq := lLast_le q hq
  have hnb2 : H2.nb = H1.nb + 1 := hs2.nb
  have wb := Tryz.l1Below_ok B hB 6 (by omega) H2 cb d3.cur
  simp (disch := omega) only [go_sem]
  refine wb.callX ?_
  rintro r H3 ⟨v, rfl, v0, v1, v2, hs3⟩
  have d4 := d3.trans hs3.ds
  have hnb3 : H3.nb = H2.nb := hs3.nb
  rcases (by omega : v = 0 ∨ v = 1 ∨ v = 2 ∨ 3 ≤ v) with rfl | rfl | rfl | h3
  · simp (disch := omega) only [go_sem, List.length_append, List.length_cons, List.length_nil]
    exact ⟨_, rfl, by simp only [List.length_append, List.length_cons, List.length_nil]; omega, d4⟩
  · have e5 := DS.push d4.cur (by omega) ⟨strs lMid, false⟩
    have wm := Tryz.l1PickS_ok B hB lMid (by decide) (by decide) (H3.push ⟨strs lMid, false⟩) cb H3.nb false false e5.cur (by rw [zb, if_pos rfl]) (by omega)
    simp (disch := omega) only [go_sem, repS3, lMid_eq, List.length_append, List.set_cons_zero, List.set_cons_succ, List.length_cons, List.length_nil, ze, zb, zc, za]
    refine wm.callX ?_
    rintro r H4 ⟨m, rfl, hm, hs4⟩
    have hm := lMid_le m hm
    simp (disch := omega) only [go_sem, List.length_append, List.length_cons, List.length_nil]
    exact ⟨_, rfl, by simp only [List.length_append, List.length_cons, List.length_nil]; omega, d4.trans (e5.trans hs4.ds)⟩
  · simp (disch := omega) only [go_sem]
    exact ⟨_, rfl, by omega, d4⟩
  · have h0 : ¬ v = 0 := by omega
    have h1 : ¬ v = 1 := by omega
    have h2 : ¬ v = 2 := by omega
    simp (disch := omega) only [go_sem, h0, h1, h2, List.length_append, List.length_cons, List.length_nil]
    exact ⟨_, rfl, by simp only [List.length_append, List.length_cons, List.length_nil]; omega, d4⟩
def FlQ (B : List Int) (cb : Nat) (H : Heap) (r : SV) (H' : Heap) : Prop := ∃ (F : List Wd) (x : Nat), r = .own x 0 4 4 1 false ∧ H'.map x = some ⟨strs F, false⟩ ∧ F.length = 4 ∧ (∀ p ∈ F, p.length ≤ 1000) ∧ H.nb ≤ x ∧ x < H'.nb ∧ DS B cb H H'
set_option maxRecDepth 20000 in
set_option maxHeartbeats 8000000 in
theorem Tryz.l8Fields_ok (B : List Int) (hB : B.length ≤ 1048576) (H : Heap) (cb : Nat) (hc : Cur B H cb) (hcb : cb < H.nb) : CallS Tryz.prog 151 [.optr cb 0] H (FlQ B cb H) := by
  have w1 := Tryz.l2Name_ok B hB H cb hc hcb
  refine CallS.of_body Tryz.func151 rfl (by kernel_rfl) (by simp [Tryz.ntmps151]) ?_
  refine SW_of_vc Tryz.mixed _ _ _ (by kernel_rfl) ?_
  simp (disch := omega) only [go_sem]
  refine w1.callX ?_
  rintro r H1 ⟨p, rfl, hp, d1⟩
  have hnb1 := d1.nb
  have e1 := DS.push d1.cur (by omega) ⟨strs lCity, false⟩
  have w2 := Tryz.l1PickS_ok B hB lCity (by decide) (by decide) (H1.push ⟨strs lCity, false⟩) cb H1.nb false false e1.cur (by rw [zb, if_pos rfl]) (by omega)
  simp (disch := omega) only [go_sem, repS7, lCity_eq, List.set_cons_zero, List.set_cons_succ, List.length_cons, List.length_nil, ze, zb, zc, za]
  refine w2.callX ?_
  rintro r H2 ⟨q, rfl, hq, hs2⟩
  have hq := lCity_le q hq
  have hnb2 : H2.nb = H1.nb + 1 := hs2.nb
  have d2 := d1.trans (e1.trans hs2.ds)
  have e2 := DS.push d2.cur (by omega) ⟨strs lYear, false⟩
  have w3 := Tryz.l1PickS_ok B hB lYear (by decide) (by decide) (H2.push ⟨strs lYear, false⟩) cb H2.nb false false e2.cur (by rw [zb, if_pos rfl]) (by omega)
  simp (disch := omega) only [go_sem, repS6, lYear_eq, List.set_cons_zero, List.set_cons_succ, List.length_cons, List.length_nil, ze, zb, zc, za]
  refine w3.callX ?_
  rintro r H3 ⟨y, rfl, hy, hs3⟩
  have hy := lYear_le y hy
  have hnb3 : H3.nb = H2.nb + 1 := hs3.nb
  have d3 := d2.trans (e2.trans hs3.ds)
  have w4 := Tryz.l7Phone_ok B hB H3 cb d3.cur (by omega)
  simp (disch := omega) only [go_sem]
  refine w4.callX ?_
  rintro r H4 ⟨z, rfl, hz, hd4⟩
  have d4 := d3.trans hd4
  have hnb4 := hd4.nb
  have d5 := d4.trans (DS.push d4.cur (by omega) ⟨strs [p, q, y, z], false⟩)
  have hl : ([str p, str q, str y, str z] : List SV) = strs [p, q, y, z] := rfl
  simp (disch := omega) only [go_sem, repS4, hl, List.set_cons_zero, List.set_cons_succ, List.length_cons, List.length_nil, ze, zb, zc, za]
  refine ⟨[p, q, y, z], H4.nb, rfl, by rw [zb, if_pos rfl], rfl, ?_, by omega, by rw [za]; omega, d5⟩
  intro t ht
  simp only [List.mem_cons, List.not_mem_nil, or_false] at ht
  rcases ht with rfl | rfl | rfl | rfl <;> omega
def RcQ (B : List Int) (cb : Nat) (H : Heap) (r : SV) (H' : Heap) : Prop := ∃ (a b c : Int) (F : List Wd) (x : Nat), r = .agg [.val (.int .i64 a), .val (.int .i64 b), .val (.int .i64 c), .own x 0 4 4 1 false] ∧ H'.map x = some ⟨strs F, false⟩ ∧ F.length = 4 ∧ (∀ p ∈ F, p.length ≤ 1000) ∧ H.nb ≤ x ∧ x < H'.nb ∧ DS B cb H H'
set_option maxRecDepth 20000 in
set_option maxHeartbeats 8000000 in
theorem Tryz.l8Record_ok (B : List Int) (hB : B.length ≤ 1048576) (H : Heap) (cb : Nat) (hc : Cur B H cb) (hcb : cb < H.nb) : CallS Tryz.prog 105 [.optr cb 0] H (RcQ B cb H) := by
  have d0 := DS.push hc hcb ⟨[.val (.int .i64 0), .val (.int .i64 0), .val (.int .i64 0), .val (.slice none 0 0)], true⟩
  have w1 := Tryz.l1Below_ok B hB 4 (by omega) (H.push ⟨[.val (.int .i64 0), .val (.int .i64 0), .val (.int .i64 0), .val (.slice none 0 0)], true⟩) cb d0.cur
  refine CallS.of_body Tryz.func105 rfl (by kernel_rfl) (by simp [Tryz.ntmps105]) ?_
  refine SW_of_vc Tryz.mixed _ _ _ (by kernel_rfl) ?_
  simp (disch := omega) only [go_sem, za]
  refine w1.callX ?_
  rintro r H1 ⟨v, rfl, v0, v1, _, hs1⟩
  have d1 := d0.trans hs1.ds
  have w2 := Tryz.l1Below_ok B hB 4 (by omega) H1 cb d1.cur
  simp (disch := omega) only [go_sem]
  refine w2.callX ?_
  rintro r H2 ⟨u, rfl, u0, u1, _, hs2⟩
  have d2 := d1.trans hs2.ds
  have w3 := Tryz.l1Below_ok B hB 3 (by omega) H2 cb d2.cur
  simp (disch := omega) only [go_sem]
  refine w3.callX ?_
  rintro r H3 ⟨t, rfl, t0, t1, _, hs3⟩
  have d3 := d2.trans hs3.ds
  have n1 : H1.nb = H.nb + 1 := hs1.nb
  have n2 : H2.nb = H1.nb := hs2.nb
  have n3 : H3.nb = H2.nb := hs3.nb
  have w4 := Tryz.l8Fields_ok B hB H3 cb d3.cur (by omega)
  simp (disch := omega) only [go_sem]
  refine w4.callX ?_
  rintro r H4 ⟨F, x, rfl, hx, hF, hFl, x1, x2, hd4⟩
  have n4 := hd4.nb
  have d4 := d3.trans hd4
  have u1 := u1 (by omega)
  have t1 := t1 (by omega)
  have m0 : H4.map H.nb = some ⟨[.val (.int .i64 0), .val (.int .i64 0), .val (.int .i64 0), .val (.slice none 0 0)], true⟩ := by
    rw [hd4.fr _ (by omega) (by omega), hs3.map (by omega), hs2.map (by omega), hs1.map (by omega), zb, if_pos rfl]
  simp (disch := omega) only [go_sem, m0, ze, zb, zc, za]
  refine ⟨v, 1 + u, 1 + t, F, x, rfl, ?_, hF, hFl, by omega, by simp only [zc]; omega, d4.setF H.nb (Nat.le_refl _) (by omega) _⟩
  simp (disch := omega) only [ze, if_neg]
  exact hx
end Go.Sh

/-
  Drawing rules.
-/
namespace Go.Sh
open Go Go.Proofs

end Go.Sh

/-
  Drawing rules of any kind.
-/
namespace Go.Sh
open Go Go.Proofs

theorem ints3 (a b c : Int) : [SV.val (.int .i64 a), .val (.int .i64 b), .val (.int .i64 c)] = ints [a, b, c] := rfl
theorem repI3' : List.replicate 3 (SV.val (.int .i64 0)) = [SV.val (.int .i64 0), SV.val (.int .i64 0), SV.val (.int .i64 0)] := rfl
end Go.Sh

/-
  Drawing scorings and feature vectors.
-/
namespace Go.Sh
open Go Go.Proofs

def ScQ (B : List Int) (cb : Nat) (H : Heap) (r : SV) (H' : Heap) : Prop := ∃ W b lb, r = .agg [.own lb 0 6 6 1 false, .val (.int .i64 b)] ∧ H'.map lb = some ⟨ints W, false⟩ ∧ H.nb ≤ lb ∧ lb < H'.nb ∧ W.length = 6 ∧ DS B cb H H'
theorem ints5 (a b c d e : Int) : [SV.val (.int .i64 a), .val (.int .i64 b), .val (.int .i64 c), .val (.int .i64 d), .val (.int .i64 e)] = ints [a, b, c, d, e] := rfl
theorem repI5' : List.replicate 5 (SV.val (.int .i64 0)) = [SV.val (.int .i64 0), SV.val (.int .i64 0), SV.val (.int .i64 0), SV.val (.int .i64 0), SV.val (.int .i64 0)] := rfl
theorem ints_snoc1 (L : List Int) (v : Int) : ints L ++ [.val (.int .i64 v)] = ints (L ++ [v]) := by simp [ints]
theorem ints_set1 (L : List Int) (k : Nat) (v : Int) : (ints L).set k (.val (.int .i64 v)) = ints (L.set k v) := by simp [ints]
set_option maxRecDepth 20000 in
set_option maxHeartbeats 16000000 in
theorem Tryz.l16Scoring_ok (B : List Int) (hB : B.length ≤ 1048576) (H : Heap) (cb : Nat) (hc : Cur B H cb) (hcb : cb < H.nb) : CallS Tryz.prog 110 [.optr cb 0] H (ScQ B cb H) := by
  have e1 := DS.push hc hcb ⟨[.val (.slice none 0 0), .val (.int .i64 0)], true⟩
  have e2 := e1.trans (DS.push e1.cur (by rw [za]; omega) ⟨ints [500, 600, 700, 0, 1000], false⟩)
  have w1 := Tryz.l1Pick_ok B hB [500, 600, 700, 0, 1000] (by simp) (by simp) ((H.push ⟨[.val (.slice none 0 0), .val (.int .i64 0)], true⟩).push ⟨ints [500, 600, 700, 0, 1000], false⟩) cb (H.nb + 1) false false e2.cur (by rw [zb, if_pos (by rw [za])]) (by omega)
  refine CallS.of_body Tryz.func110 rfl (by kernel_rfl) (by simp [Tryz.ntmps110]) ?_
  refine SW_of_vc5 [] [5] (fun _ => True) [1] Tryz.mixed _ _ _ (by kernel_rfl) ?_
  simp (disch := omega) only [go_sem, repI5', List.set_cons_zero, List.set_cons_succ, List.length_cons, List.length_nil, ints5, za]
  refine w1.callX ?_
  rintro r H1 ⟨b, rfl, hb, hs⟩
  have hd1 := e2.trans hs.ds
  have hnb1 : H1.nb = H.nb + 1 + 1 := hs.nb
  have hm0 : H1.map H.nb = some ⟨[.val (.slice none 0 0), .val (.int .i64 0)], true⟩ := by rw [hs.map (by omega), zb, if_neg (by rw [za]; omega), zb, if_pos rfl]
  have e3 := (hd1.trans (DS.push hd1.cur (by omega) ⟨[.val (.slice none 0 0), .val (.int .i64 0)], true⟩)).setF H1.nb (by omega) (by omega) (some ⟨[.val (.slice none 0 0), .val (.int .i64 b)], true⟩)
  simp (disch := omega) only [go_sem, ze, zb, zc, za]
  refine LoopW.loop (fun y : Nat × List Int × Nat × Heap => ⟨ofL [(0, .optr cb 0), (2, .optr H.nb 0), (3, .optr H1.nb 0), (4, .val (.int .i64 y.1))], y.2.2.2⟩)
    (fun y => y.1 ≤ 6 ∧ y.2.1.length = y.1 ∧ y.2.2.2.map H1.nb = some ⟨[nlG 1 y.2.2.1 y.1, .val (.int .i64 b)], true⟩ ∧ (y.1 ≠ 0 → H1.nb < y.2.2.1 ∧ y.2.2.1 < y.2.2.2.nb ∧ y.2.2.2.map y.2.2.1 = some ⟨ints y.2.1, false⟩) ∧ DS B cb H y.2.2.2 ∧ H1.nb < y.2.2.2.nb ∧ y.2.2.2.map H.nb = some ⟨[.val (.slice none 0 0), .val (.int .i64 0)], true⟩) (fun y => 6 - y.1)
    (0, [], 0, (H1.push ⟨[.val (.slice none 0 0), .val (.int .i64 0)], true⟩).set H1.nb (some ⟨[.val (.slice none 0 0), .val (.int .i64 b)], true⟩)) ⟨by simp, rfl, by show ((H1.push _).set _ _).map H1.nb = _; rw [ze, if_pos rfl]; rfl, fun h => absurd rfl h, e3, by show H1.nb < ((H1.push _).set _ _).nb; rw [zc, za]; omega, by show ((H1.push _).set _ _).map H.nb = _; rw [ze, if_neg (by omega), zb, if_neg (by omega), hm0]⟩ (Wk.of (by simp only [go_sem, ↓List.forall_mem_cons, List.not_mem_nil, false_implies, implies_true, and_true, true_and, and_self, ri_eq, Int.natCast_add, Int.cast_ofNat_Int]; try simp) rfl) ?_
  clear e1 e2 w1 e3
  rintro ⟨k, L, lb, H2⟩ ⟨hk, hL, hmr, hml, hd2, hnb2, hmA⟩
  simp only at hk hL hmr hml hd2 hnb2 hmA
  by_cases hlt : k < 6
  · refine SW_of_vc5 [] [5] (fun Hx => Hx.map H1.nb = some ⟨[nlG 1 lb k, .val (.int .i64 b)], true⟩) [1] Tryz.mixed _ _ _ (by kernel_rfl) ?_
    have e4 := hd2.trans (DS.push hd2.cur (by omega) ⟨ints [0, 1, 2, 3, 5], false⟩)
    have wp := Tryz.l1Pick_ok B hB [0, 1, 2, 3, 5] (by simp) (by simp) (H2.push ⟨ints [0, 1, 2, 3, 5], false⟩) cb H2.nb false false e4.cur (by rw [zb, if_pos rfl]) (by omega)
    by_cases hz : k = 0
    · have e0 := nlG_t (z := 1) (b := lb) hz
      have hL0 : L = [] := List.length_eq_zero_iff.1 (by omega)
      rw [e0] at hmr
      simp (disch := omega) only [go_sem, hmr, e0]
      refine ⟨.val (.slice none 0 0), fun Hx hx => ?_, ?_⟩
      · have hx : Hx.map H1.nb = some ⟨[.val (.slice none 0 0), .val (.int .i64 b)], true⟩ := hx
        simp (disch := omega) only [go_sem, hx]
      simp (disch := omega) only [go_sem, hmr, e0, repI5', List.set_cons_zero, List.set_cons_succ, List.length_cons, List.length_nil, ints5, ze, zb, zc, za]
      refine CallS.callN wp (PickQ.ne (by simp) e4.cur) ?_
      rintro r H3 ⟨v, rfl, hv, hs3⟩
      have hnb3 : H3.nb = H2.nb + 1 := hs3.nb
      have hm3 : H3.map H1.nb = some ⟨[.val (.slice none 0 0), .val (.int .i64 b)], true⟩ := by rw [hs3.map (by omega), zb, if_neg (by omega), hmr]
      have hmA3 : H3.map H.nb = some ⟨[.val (.slice none 0 0), .val (.int .i64 0)], true⟩ := by rw [hs3.map (by omega), zb, if_neg (by omega), hmA]
      have hd3 := e4.trans hs3.ds
      simp (disch := omega) only [go_sem, hm3, e0, ze, zb, zc, za]
      have e5 := hd3.trans (DS.push hd3.cur (by have := hd3.nb; omega) ⟨[.val (.int .i64 v)], false⟩)
      have e6 := (e5.trans (DS.push e5.cur (by have := hd3.nb; rw [za]; omega) ⟨[.val (.int .i64 v)], false⟩)).setF H1.nb (by omega) (by omega) (some ⟨[.own (H3.nb + 1) 0 1 1 1 false, .val (.int .i64 b)], true⟩)
      refine ⟨(k + 1, [v], H3.nb + 1, _), ⟨hlt, by show 1 = k + 1; omega, ?_, fun _ => ⟨?_, ?_, ?_⟩, e6, ?_, ?_⟩, by show 6 - (k + 1) < 6 - k; omega, Wk.of (by simp only [go_sem, ↓List.forall_mem_cons, List.not_mem_nil, false_implies, implies_true, and_true, true_and, and_self, ri_eq, Int.natCast_add, Int.cast_ofNat_Int]; try simp) rfl⟩
      · show Heap.map _ H1.nb = some ⟨[nlG 1 (H3.nb + 1) (k + 1), .val (.int .i64 b)], true⟩
        rw [hz, nlG_s]
        simp (disch := omega) only [ze, zb, zc, za, if_pos, if_neg, ↓reduceIte]
      · show H1.nb < H3.nb + 1; omega
      · simp only [zc, za]; omega
      · show Heap.map _ (H3.nb + 1) = some ⟨[.val (.int .i64 v)], false⟩
        simp (disch := omega) only [ze, zb, zc, za, if_pos, if_neg, ↓reduceIte]
      · simp only [zc, za]; omega
      · simp only
        simp (disch := omega) only [ze, zb, zc, za, if_pos, if_neg, ↓reduceIte]
        exact hmA3
    · have e0 := nlG_f (z := 1) (b := lb) hz
      obtain ⟨m1, m2, m3⟩ := hml hz
      rw [e0] at hmr
      simp (disch := omega) only [go_sem, hmr, e0]
      refine ⟨.own lb 0 k k 1 false, fun Hx hx => ?_, ?_⟩
      · have hx : Hx.map H1.nb = some ⟨[.own lb 0 k k 1 false, .val (.int .i64 b)], true⟩ := hx
        simp (disch := omega) only [go_sem, hx]
      simp (disch := omega) only [go_sem, hmr, e0, repI5', List.set_cons_zero, List.set_cons_succ, List.length_cons, List.length_nil, ints5, ze, zb, zc, za]
      refine CallS.callN wp (PickQ.ne (by simp) e4.cur) ?_
      rintro r H3 ⟨v, rfl, hv, hs3⟩
      have hnb3 : H3.nb = H2.nb + 1 := hs3.nb
      have hnbd := hd2.nb
      have hm3 : H3.map H1.nb = some ⟨[.own lb 0 k k 1 false, .val (.int .i64 b)], true⟩ := by rw [hs3.map (by omega), zb, if_neg (by omega), hmr]
      have hml3 : H3.map lb = some ⟨ints L, false⟩ := by rw [hs3.map (by omega), zb, if_neg (by omega), m3]
      have hmA3 : H3.map H.nb = some ⟨[.val (.slice none 0 0), .val (.int .i64 0)], true⟩ := by rw [hs3.map (by omega), zb, if_neg (by omega), hmA]
      have hd3 := e4.trans hs3.ds
      have hil : (ints L).length = k := by rw [zh, hL]
      have htk : (ints L).take k = ints L := List.take_of_length_le (by omega)
      have hsn := ints_snoc1 L v
      simp (disch := omega) only [go_sem, hm3, hml3, hil, htk, hsn, e0, ze, zb, zc, za]
      have e5 := (hd3.trans (DS.push hd3.cur (by omega) ⟨[.val (.int .i64 v)], false⟩)).setF lb (by omega) (by omega) none
      have e6 := (e5.trans (DS.push e5.cur (by rw [zc, za]; omega) ⟨ints (L ++ [v]), false⟩)).setF H1.nb (by omega) (by omega) (some ⟨[.own (H3.nb + 1) 0 (k + 1) (k + 1) 1 false, .val (.int .i64 b)], true⟩)
      refine ⟨(k + 1, L ++ [v], H3.nb + 1, _), ⟨hlt, by show (L ++ [v]).length = k + 1; simp [hL], ?_, fun _ => ⟨?_, ?_, ?_⟩, e6, ?_, ?_⟩, by show 6 - (k + 1) < 6 - k; omega, Wk.of (by simp only [go_sem, ↓List.forall_mem_cons, List.not_mem_nil, false_implies, implies_true, and_true, true_and, and_self, ri_eq, Int.natCast_add, Int.cast_ofNat_Int]; try simp) rfl⟩
      · show Heap.map _ H1.nb = some ⟨[nlG 1 (H3.nb + 1) (k + 1), .val (.int .i64 b)], true⟩
        rw [nlG_s]
        simp (disch := omega) only [ze, zb, zc, za, if_pos, if_neg, ↓reduceIte]
      · show H1.nb < H3.nb + 1; omega
      · simp only [zc, za]; omega
      · show Heap.map _ (H3.nb + 1) = some ⟨ints (L ++ [v]), false⟩
        simp (disch := omega) only [ze, zb, zc, za, if_pos, if_neg, ↓reduceIte]
      · simp only [zc, za]; omega
      · simp only
        simp (disch := omega) only [ze, zb, zc, za, if_pos, if_neg, ↓reduceIte]
        exact hmA3
  · obtain rfl : k = 6 := by omega
    have e0 := nlG_f (z := 1) (b := lb) (n := 6) (by omega)
    obtain ⟨m1, m2, m3⟩ := hml (by omega)
    rw [e0] at hmr
    have hnbd := hd2.nb
    have hil : (ints L).length = 6 := by rw [zh, hL]
    have hst := ints_set1 L 0 2
    refine SW_of_vc5 [] [5] (fun _ => True) [1] Tryz.mixed _ _ _ (by kernel_rfl) ?_
    simp (disch := omega) only [go_sem, hmr, m3, hil, hst, hmA, ze, zb, zc, za]
    have e6 := (hd2.setF lb (by omega) (by omega) (some ⟨ints (L.set 0 2), false⟩)).setF H.nb (by omega) (by omega) (some ⟨[.own lb 0 6 6 1 false, .val (.int .i64 b)], true⟩)
    refine ⟨L.set 0 2, b, lb, rfl, ?_, by omega, ?_, by simp [hL], e6⟩
    · simp (disch := omega) only [ze, zb, zc, za, if_pos, if_neg, ↓reduceIte]
    · simp only [zc, za]; omega
set_option maxRecDepth 20000 in
set_option maxHeartbeats 16000000 in
theorem Tryz.l16Any_ok (B : List Int) (hB : B.length ≤ 1048576) (H : Heap) (cb : Nat) (hc : Cur B H cb) (hcb : cb < H.nb) : CallS Tryz.prog 63 [.optr cb 0] H (ScQ B cb H) := by
  have e1 := DS.push hc hcb ⟨[.val (.slice none 0 0), .val (.int .i64 0)], true⟩
  have w1 := Tryz.l16Scoring_ok B hB (H.push ⟨[.val (.slice none 0 0), .val (.int .i64 0)], true⟩) cb e1.cur (by rw [za]; omega)
  refine CallS.of_body Tryz.func63 rfl (by kernel_rfl) (by simp [Tryz.ntmps63]) ?_
  refine SW.seqW ⟨ofL [(0, .optr cb 0), (2, .optr H.nb 0)], H.push ⟨[.val (.slice none 0 0), .val (.int .i64 0)], true⟩⟩ ?_ ?_
  · refine SW_of_vc Tryz.mixed _ _ _ (by kernel_rfl) ?_
    simp (disch := omega) only [go_sem]
    exact Wk.of (by simp only [go_sem, ↓List.forall_mem_cons, List.not_mem_nil, false_implies, implies_true, and_true, true_and, and_self, ri_eq, Int.natCast_add, Int.cast_ofNat_Int]; try simp) rfl
  refine SW.seqI (fun y : Nat × List Int × Int × Nat × Heap => ⟨ofL [(0, .optr cb 0), (2, .optr H.nb 0), (3, .optr y.1 0)], y.2.2.2.2⟩)
    (fun y => y.2.1.length = 6 ∧ DS B cb H y.2.2.2.2 ∧ y.2.2.2.2.map H.nb = some ⟨[.val (.slice none 0 0), .val (.int .i64 0)], true⟩ ∧ y.2.2.2.2.map y.1 = some ⟨[.own y.2.2.2.1 0 6 6 1 false, .val (.int .i64 y.2.2.1)], true⟩ ∧ y.2.2.2.2.map y.2.2.2.1 = some ⟨ints y.2.1, false⟩ ∧ H.nb < y.1 ∧ y.1 < y.2.2.2.2.nb ∧ H.nb < y.2.2.2.1 ∧ y.2.2.2.1 < y.2.2.2.2.nb ∧ y.1 ≠ y.2.2.2.1) ?_ ?_
  · refine SW_of_vc Tryz.mixed _ _ _ (by kernel_rfl) ?_
    simp (disch := omega) only [go_sem]
    refine w1.callX ?_
    rintro r H1 ⟨W, b, lb, rfl, hml, hl1, hl2, hW, hd⟩
    have hd1 := e1.trans hd
    have hnb := hd.nb
    rw [za] at hnb hl1
    have hm0 : H1.map H.nb = some ⟨[.val (.slice none 0 0), .val (.int .i64 0)], true⟩ := by rw [hd.fr _ (by rw [za]; omega) (by omega), zb, if_pos rfl]
    simp (disch := omega) only [go_sem, ze, zb, zc, za]
    have e2 := (hd1.trans (DS.push hd1.cur (by omega) ⟨[.val (.slice none 0 0), .val (.int .i64 0)], true⟩)).setF H1.nb (by omega) (by omega) (some ⟨[.own lb 0 6 6 1 false, .val (.int .i64 b)], true⟩)
    refine ⟨(H1.nb, W, b, lb, _), ⟨hW, e2, ?_, ?_, ?_, by show H.nb < H1.nb; omega, ?_, by show H.nb < lb; omega, ?_, by show H1.nb ≠ lb; omega⟩, Wk.of (by simp only [go_sem, ↓List.forall_mem_cons, List.not_mem_nil, false_implies, implies_true, and_true, true_and, and_self, ri_eq, Int.natCast_add, Int.cast_ofNat_Int]; try simp) rfl⟩
    · simp only
      simp (disch := omega) only [ze, zb, zc, za, if_pos, if_neg, ↓reduceIte]
      exact hm0
    · simp only
      simp (disch := omega) only [ze, zb, zc, za, if_pos, if_neg, ↓reduceIte]
    · simp only
      simp (disch := omega) only [ze, zb, zc, za, if_pos, if_neg, ↓reduceIte]
      exact hml
    · simp only [zc, za]; omega
    · simp only [zc, za]; omega
  rintro ⟨rb, W, b, lb, H1⟩ ⟨hW, hd, hmA, hmB, hml, hr1, hr2, hl1, hl2, hne⟩
  simp only at hW hd hmA hmB hml hr1 hr2 hl1 hl2 hne
  refine SW_of_vc5 [] [6] (fun Hx => Hx.map rb = some ⟨[.own lb 0 6 6 1 false, .val (.int .i64 b)], true⟩) [1] Tryz.mixed _ _ _ (by kernel_rfl) ?_
  have wb := Tryz.l1Below_ok B hB 14 (by omega) H1 cb hd.cur
  simp (disch := omega) only [go_sem]
  refine wb.callX ?_
  rintro r H2 ⟨v, rfl, v0, v1, v2, hs⟩
  have hd2 := hd.trans hs.ds
  have hnb2 : H2.nb = H1.nb := hs.nb
  have hnbd := hd.nb
  have hmA2 : H2.map H.nb = some ⟨[.val (.slice none 0 0), .val (.int .i64 0)], true⟩ := by rw [hs.map (by omega), hmA]
  have hmB2 : H2.map rb = some ⟨[.own lb 0 6 6 1 false, .val (.int .i64 b)], true⟩ := by rw [hs.map (by omega), hmB]
  have hml2 : H2.map lb = some ⟨ints W, false⟩ := by rw [hs.map (by omega), hml]
  have hil : (ints W).length = 6 := by rw [zh, hW]
  rcases (by omega : v = 0 ∨ v = 1 ∨ v = 2 ∨ 3 ≤ v) with rfl | rfl | rfl | h3
  · have hdp := hd2.trans (DS.push hd2.cur (by omega) ⟨ints [-1, 1001], false⟩)
    have wp := Tryz.l1Pick_ok B hB [-1, 1001] (by simp) (by simp) (H2.push ⟨ints [-1, 1001], false⟩) cb H2.nb false false hdp.cur (by rw [zb, if_pos rfl]) (by omega)
    have i2 : ∀ a b : Int, [SV.val (.int .i64 a), .val (.int .i64 b)] = ints [a, b] := fun _ _ => rfl
    have r2 : List.replicate 2 (SV.val (.int .i64 0)) = [SV.val (.int .i64 0), SV.val (.int .i64 0)] := rfl
    simp (disch := omega) only [go_sem, r2, List.set_cons_zero, List.set_cons_succ, List.length_cons, List.length_nil, i2, ze, zb, zc, za]
    refine wp.callX ?_
    rintro r H3 ⟨q, rfl, hq, hs3⟩
    have hnb3 : H3.nb = H2.nb + 1 := hs3.nb
    have hmA3 : H3.map H.nb = some ⟨[.val (.slice none 0 0), .val (.int .i64 0)], true⟩ := by rw [hs3.map (by omega), zb, if_neg (by omega), hmA2]
    have hmB3 : H3.map rb = some ⟨[.own lb 0 6 6 1 false, .val (.int .i64 b)], true⟩ := by rw [hs3.map (by omega), zb, if_neg (by omega), hmB2]
    have hml3 : H3.map lb = some ⟨ints W, false⟩ := by rw [hs3.map (by omega), zb, if_neg (by omega), hml2]
    have hd3 := hdp.trans hs3.ds
    simp (disch := omega) only [go_sem, hmB3, hmA3, List.set_cons_zero, List.set_cons_succ, ze, zb, zc, za]
    have e6 := (hd3.setF rb (by omega) (by omega) (some ⟨[.own lb 0 6 6 1 false, .val (.int .i64 q)], true⟩)).setF H.nb (by omega) (by omega) (some ⟨[.own lb 0 6 6 1 false, .val (.int .i64 q)], true⟩)
    refine ⟨W, q, lb, rfl, ?_, by omega, ?_, hW, e6⟩
    · simp (disch := omega) only [ze, zb, zc, za, if_pos, if_neg, ↓reduceIte]
      exact hml3
    · simp only [zc, za]; omega
  · have hdp := hd2.trans (DS.push hd2.cur (by omega) ⟨ints [-1, 10, 9], false⟩)
    have wp := Tryz.l1Pick_ok B hB [-1, 10, 9] (by simp) (by simp) (H2.push ⟨ints [-1, 10, 9], false⟩) cb H2.nb false false hdp.cur (by rw [zb, if_pos rfl]) (by omega)
    simp (disch := omega) only [go_sem, hmB2]
    refine ⟨.own lb 0 6 6 1 false, fun Hx hx => ?_, ?_⟩
    · have hx : Hx.map rb = some ⟨[.own lb 0 6 6 1 false, .val (.int .i64 b)], true⟩ := hx
      simp (disch := omega) only [go_sem, hx]
    simp (disch := omega) only [go_sem, hmB2, repI3', List.set_cons_zero, List.set_cons_succ, List.length_cons, List.length_nil, ints3, ze, zb, zc, za]
    refine CallS.callN wp (PickQ.ne (by simp) hdp.cur) ?_
    rintro r H3 ⟨q, rfl, hq, hs3⟩
    have hnb3 : H3.nb = H2.nb + 1 := hs3.nb
    have hmA3 : H3.map H.nb = some ⟨[.val (.slice none 0 0), .val (.int .i64 0)], true⟩ := by rw [hs3.map (by omega), zb, if_neg (by omega), hmA2]
    have hmB3 : H3.map rb = some ⟨[.own lb 0 6 6 1 false, .val (.int .i64 b)], true⟩ := by rw [hs3.map (by omega), zb, if_neg (by omega), hmB2]
    have hml3 : H3.map lb = some ⟨ints W, false⟩ := by rw [hs3.map (by omega), zb, if_neg (by omega), hml2]
    have hd3 := hdp.trans hs3.ds
    have hst := ints_set1 W 1 q
    simp (disch := omega) only [go_sem, hmB3, hmA3, hml3, hil, hst, ze, zb, zc, za]
    have e6 := (hd3.setF lb (by omega) (by omega) (some ⟨ints (W.set 1 q), false⟩)).setF H.nb (by omega) (by omega) (some ⟨[.own lb 0 6 6 1 false, .val (.int .i64 b)], true⟩)
    refine ⟨W.set 1 q, b, lb, rfl, ?_, by omega, ?_, by simp [hW], e6⟩
    · simp (disch := omega) only [ze, zb, zc, za, if_pos, if_neg, ↓reduceIte]
    · simp only [zc, za]; omega
  · have r6 : List.replicate 6 (SV.val (.int .i64 0)) = ints [0, 0, 0, 0, 0, 0] := rfl
    have s6 : ∀ k, (ints [0, 0, 0, 0, 0, 0]).set k (.val (.int .i64 0)) = ints [0, 0, 0, 0, 0, 0] := fun k => by
      rw [ints_set1]; congr 1
      rcases k with _ | _ | _ | _ | _ | _ | k <;> rfl
    have l6 : (ints [0, 0, 0, 0, 0, 0]).length = 6 := rfl
    simp (disch := omega) only [go_sem, hmB2, hmA2, r6, s6, l6, List.set_cons_zero, List.set_cons_succ, ze, zb, zc, za]
    have e6 := ((hd2.trans (DS.push hd2.cur (by omega) ⟨ints [0, 0, 0, 0, 0, 0], false⟩)).setF rb (by omega) (by omega) (some ⟨[.own H2.nb 0 6 6 1 false, .val (.int .i64 b)], true⟩)).setF H.nb (by omega) (by omega) (some ⟨[.own H2.nb 0 6 6 1 false, .val (.int .i64 b)], true⟩)
    refine ⟨[0, 0, 0, 0, 0, 0], b, H2.nb, rfl, ?_, by omega, ?_, rfl, e6⟩
    · simp (disch := omega) only [ze, zb, zc, za, if_pos, if_neg, ↓reduceIte]
      rfl
    · simp only [zc, za]; omega
  · simp (disch := omega) only [go_sem, hmB2, hmA2, ze, zb, zc, za]
    have e6 := hd2.setF H.nb (by omega) (by omega) (some ⟨[.own lb 0 6 6 1 false, .val (.int .i64 b)], true⟩)
    refine ⟨W, b, lb, rfl, ?_, by omega, ?_, hW, e6⟩
    · simp (disch := omega) only [ze, zb, zc, za, if_pos, if_neg, ↓reduceIte]
      exact hml2
    · simp only [zc, za]; omega
end Go.Sh

/-
  Drawing feature vectors; the pair of things that FnRuleFormat draws.
-/
namespace Go.Sh
open Go Go.Proofs

def R3' (S : SV → Prop) (r : SV) (H : Heap) : Prop := ∃ T, view H 5 r = some T ∧ S T
end Go.Sh

/-
  Any record drawn.
-/
namespace Go.Sh
open Go Go.Proofs

theorem PickSQ.ne {B : List Int} {L : List Wd} {H : Heap} {cb : Nat} (hL : L ≠ []) (hc : Cur B H cb) : ∃ r H', PickSQ B L H cb r H' := ⟨_, H, L.head hL, rfl, List.head_mem hL, hc.s⟩
abbrev zRec : List SV := [.val (.int .i64 0), .val (.int .i64 0), .val (.int .i64 0), .val (.slice none 0 0)]
def AnyRecQ (B : List Int) (cb : Nat) (H : Heap) (r : SV) (H' : Heap) : Prop := ∃ (a b c : Int) (G : List Wd) (x o n : Nat), r = .agg [.val (.int .i64 a), .val (.int .i64 b), .val (.int .i64 c), .own x o n n 1 false] ∧ H'.map x = some ⟨strs G, false⟩ ∧ o + n ≤ G.length ∧ G.length = 4 ∧ (∀ p ∈ G, p.length ≤ 1000) ∧ H.nb ≤ x ∧ x < H'.nb ∧ DS B cb H H'
set_option maxRecDepth 20000 in
set_option maxHeartbeats 16000000 in
theorem Tryz.l8Any_ok (B : List Int) (hB : B.length ≤ 1048576) (H : Heap) (cb : Nat) (hc : Cur B H cb) (hcb : cb < H.nb) : CallS Tryz.prog 107 [.optr cb 0] H (AnyRecQ B cb H) := by
  have e1 := DS.push hc hcb ⟨zRec, true⟩
  have w1 := Tryz.l8Record_ok B hB (H.push ⟨zRec, true⟩) cb e1.cur (by rw [za]; omega)
  refine CallS.of_body Tryz.func107 rfl (by kernel_rfl) (by simp [Tryz.ntmps107]) ?_
  refine SW.seqW ⟨ofL [(0, .optr cb 0), (2, .optr H.nb 0)], H.push ⟨zRec, true⟩⟩ ?_ ?_
  · refine SW_of_vc Tryz.mixed _ _ _ (by kernel_rfl) ?_
    simp (disch := omega) only [go_sem]
    exact Wk.of (by simp only [go_sem, ↓List.forall_mem_cons, List.not_mem_nil, false_implies, implies_true, and_true, true_and, and_self, ri_eq, Int.natCast_add, Int.cast_ofNat_Int]; try simp) rfl
  refine SW.seqI (fun y : Nat × Int × Int × Int × List Wd × Nat × Heap => ⟨ofL [(0, .optr cb 0), (2, .optr H.nb 0), (3, .optr y.1 0)], y.2.2.2.2.2.2⟩)
    (fun y => y.2.2.2.2.1.length = 4 ∧ (∀ p ∈ y.2.2.2.2.1, p.length ≤ 1000) ∧ DS B cb H y.2.2.2.2.2.2 ∧ y.2.2.2.2.2.2.map H.nb = some ⟨zRec, true⟩ ∧ y.2.2.2.2.2.2.map y.1 = some ⟨[.val (.int .i64 y.2.1), .val (.int .i64 y.2.2.1), .val (.int .i64 y.2.2.2.1), .own y.2.2.2.2.2.1 0 4 4 1 false], true⟩ ∧ y.2.2.2.2.2.2.map y.2.2.2.2.2.1 = some ⟨strs y.2.2.2.2.1, false⟩ ∧ H.nb < y.1 ∧ y.1 < y.2.2.2.2.2.2.nb ∧ H.nb < y.2.2.2.2.2.1 ∧ y.2.2.2.2.2.1 < y.2.2.2.2.2.2.nb ∧ y.1 ≠ y.2.2.2.2.2.1) ?_ ?_
  · refine SW_of_vc Tryz.mixed _ _ _ (by kernel_rfl) ?_
    simp (disch := omega) only [go_sem]
    refine w1.callX ?_
    rintro r H1 ⟨a, b, c, F, x, rfl, hx, hF, hFl, x1, x2, hd⟩
    have hd1 := e1.trans hd
    have hnb := hd.nb
    rw [za] at hnb x1
    have hm0 : H1.map H.nb = some ⟨zRec, true⟩ := by rw [hd.fr _ (by rw [za]; omega) (by omega), zb, if_pos rfl]
    simp (disch := omega) only [go_sem, ze, zb, zc, za]
    have e2 := (hd1.trans (DS.push hd1.cur (by omega) ⟨zRec, true⟩)).setF H1.nb (by omega) (by omega) (some ⟨[.val (.int .i64 a), .val (.int .i64 b), .val (.int .i64 c), .own x 0 4 4 1 false], true⟩)
    refine ⟨(H1.nb, a, b, c, F, x, _), ⟨hF, hFl, e2, ?_, ?_, ?_, by show H.nb < H1.nb; omega, ?_, by show H.nb < x; omega, ?_, by show H1.nb ≠ x; omega⟩, Wk.of (by simp only [go_sem, ↓List.forall_mem_cons, List.not_mem_nil, false_implies, implies_true, and_true, true_and, and_self, ri_eq, Int.natCast_add, Int.cast_ofNat_Int]; try simp) rfl⟩
    · simp only
      simp (disch := omega) only [ze, zb, zc, za, if_pos, if_neg, ↓reduceIte]
      exact hm0
    · simp only
      simp (disch := omega) only [ze, zb, zc, za, if_pos, if_neg, ↓reduceIte]
    · simp only
      simp (disch := omega) only [ze, zb, zc, za, if_pos, if_neg, ↓reduceIte]
      exact hx
    · simp only [zc, za]; omega
    · simp only [zc, za]; omega
  rintro ⟨rb, a, b, c, F, x, H1⟩ ⟨hF, hFl, hd, hmA, hmB, hx, hr1, hr2, hx1, hx2, hne⟩
  simp only at hF hFl hd hmA hmB hx hr1 hr2 hx1 hx2 hne
  refine SW_of_vc5 [] [12] (fun Hx => Hx.map rb = some ⟨[.val (.int .i64 a), .val (.int .i64 b), .val (.int .i64 c), .own x 0 4 4 1 false], true⟩) [1] Tryz.mixed _ _ _ (by kernel_rfl) ?_
  have wb := Tryz.l1Below_ok B hB 16 (by omega) H1 cb hd.cur
  simp (disch := omega) only [go_sem]
  refine wb.callX ?_
  rintro r H2 ⟨v, rfl, v0, v1, v2, hs⟩
  have hd2 := hd.trans hs.ds
  have hnb2 : H2.nb = H1.nb := hs.nb
  have hnbd := hd.nb
  have hmA2 : H2.map H.nb = some ⟨zRec, true⟩ := by rw [hs.map (by omega), hmA]
  have hmB2 : H2.map rb = some ⟨[.val (.int .i64 a), .val (.int .i64 b), .val (.int .i64 c), .own x 0 4 4 1 false], true⟩ := by rw [hs.map (by omega), hmB]
  have hml2 : H2.map x = some ⟨strs F, false⟩ := by rw [hs.map (by omega), hx]
  have hil : (strs F).length = 4 := by rw [zj, hF]
  rcases (by omega : v = 0 ∨ v = 1 ∨ v = 2 ∨ v = 3 ∨ v = 4 ∨ 5 ≤ v) with rfl | rfl | rfl | rfl | rfl | h5
  · have hdp := hd2.trans (DS.push hd2.cur (by omega) ⟨ints [-1, 4], false⟩)
    have wp := Tryz.l1Pick_ok B hB [-1, 4] (by simp) (by simp) (H2.push ⟨ints [-1, 4], false⟩) cb H2.nb false false hdp.cur (by rw [zb, if_pos rfl]) (by omega)
    have i2 : ∀ a b : Int, [SV.val (.int .i64 a), .val (.int .i64 b)] = ints [a, b] := fun _ _ => rfl
    have r2 : List.replicate 2 (SV.val (.int .i64 0)) = [SV.val (.int .i64 0), SV.val (.int .i64 0)] := rfl
    simp (disch := omega) only [go_sem, r2, List.set_cons_zero, List.set_cons_succ, List.length_cons, List.length_nil, i2, ze, zb, zc, za]
    refine wp.callX ?_
    rintro r H3 ⟨q, rfl, hq, hs3⟩
    have hnb3 : H3.nb = H2.nb + 1 := hs3.nb
    have hmA3 : H3.map H.nb = some ⟨zRec, true⟩ := by rw [hs3.map (by omega), zb, if_neg (by omega), hmA2]
    have hmB3 : H3.map rb = some ⟨[.val (.int .i64 a), .val (.int .i64 b), .val (.int .i64 c), .own x 0 4 4 1 false], true⟩ := by rw [hs3.map (by omega), zb, if_neg (by omega), hmB2]
    have hml3 : H3.map x = some ⟨strs F, false⟩ := by rw [hs3.map (by omega), zb, if_neg (by omega), hml2]
    have hd3 := hdp.trans hs3.ds
    simp (disch := omega) only [go_sem, hmB3, hmA3, List.set_cons_zero, List.set_cons_succ, ze, zb, zc, za]
    have e6 := (hd3.setF rb (by omega) (by omega) (some ⟨[.val (.int .i64 q), .val (.int .i64 b), .val (.int .i64 c), .own x 0 4 4 1 false], true⟩)).setF H.nb (by omega) (by omega) (some ⟨[.val (.int .i64 q), .val (.int .i64 b), .val (.int .i64 c), .own x 0 4 4 1 false], true⟩)
    refine ⟨q, b, c, F, x, 0, 4, rfl, ?_, by omega, hF, hFl, by omega, ?_, e6⟩
    · simp (disch := omega) only [ze, zb, zc, za, if_pos, if_neg, ↓reduceIte]
      exact hml3
    · simp only [zc, za]; omega
  · have hdp := hd2.trans (DS.push hd2.cur (by omega) ⟨ints [0, 99, 100], false⟩)
    have wp := Tryz.l1Pick_ok B hB [0, 99, 100] (by simp) (by simp) (H2.push ⟨ints [0, 99, 100], false⟩) cb H2.nb false false hdp.cur (by rw [zb, if_pos rfl]) (by omega)
    simp (disch := omega) only [go_sem, repI3', List.set_cons_zero, List.set_cons_succ, List.length_cons, List.length_nil, ints3, ze, zb, zc, za]
    refine wp.callX ?_
    rintro r H3 ⟨q, rfl, hq, hs3⟩
    have hnb3 : H3.nb = H2.nb + 1 := hs3.nb
    have hmA3 : H3.map H.nb = some ⟨zRec, true⟩ := by rw [hs3.map (by omega), zb, if_neg (by omega), hmA2]
    have hmB3 : H3.map rb = some ⟨[.val (.int .i64 a), .val (.int .i64 b), .val (.int .i64 c), .own x 0 4 4 1 false], true⟩ := by rw [hs3.map (by omega), zb, if_neg (by omega), hmB2]
    have hml3 : H3.map x = some ⟨strs F, false⟩ := by rw [hs3.map (by omega), zb, if_neg (by omega), hml2]
    have hd3 := hdp.trans hs3.ds
    simp (disch := omega) only [go_sem, hmB3, hmA3, List.set_cons_zero, List.set_cons_succ, ze, zb, zc, za]
    have e6 := (hd3.setF rb (by omega) (by omega) (some ⟨[.val (.int .i64 a), .val (.int .i64 q), .val (.int .i64 c), .own x 0 4 4 1 false], true⟩)).setF H.nb (by omega) (by omega) (some ⟨[.val (.int .i64 a), .val (.int .i64 q), .val (.int .i64 c), .own x 0 4 4 1 false], true⟩)
    refine ⟨a, q, c, F, x, 0, 4, rfl, ?_, by omega, hF, hFl, by omega, ?_, e6⟩
    · simp (disch := omega) only [ze, zb, zc, za, if_pos, if_neg, ↓reduceIte]
      exact hml3
    · simp only [zc, za]; omega
  · have hdp := hd2.trans (DS.push hd2.cur (by omega) ⟨ints [0, 999, 1000], false⟩)
    have wp := Tryz.l1Pick_ok B hB [0, 999, 1000] (by simp) (by simp) (H2.push ⟨ints [0, 999, 1000], false⟩) cb H2.nb false false hdp.cur (by rw [zb, if_pos rfl]) (by omega)
    simp (disch := omega) only [go_sem, repI3', List.set_cons_zero, List.set_cons_succ, List.length_cons, List.length_nil, ints3, ze, zb, zc, za]
    refine wp.callX ?_
    rintro r H3 ⟨q, rfl, hq, hs3⟩
    have hnb3 : H3.nb = H2.nb + 1 := hs3.nb
    have hmA3 : H3.map H.nb = some ⟨zRec, true⟩ := by rw [hs3.map (by omega), zb, if_neg (by omega), hmA2]
    have hmB3 : H3.map rb = some ⟨[.val (.int .i64 a), .val (.int .i64 b), .val (.int .i64 c), .own x 0 4 4 1 false], true⟩ := by rw [hs3.map (by omega), zb, if_neg (by omega), hmB2]
    have hml3 : H3.map x = some ⟨strs F, false⟩ := by rw [hs3.map (by omega), zb, if_neg (by omega), hml2]
    have hd3 := hdp.trans hs3.ds
    simp (disch := omega) only [go_sem, hmB3, hmA3, List.set_cons_zero, List.set_cons_succ, ze, zb, zc, za]
    have e6 := (hd3.setF rb (by omega) (by omega) (some ⟨[.val (.int .i64 a), .val (.int .i64 b), .val (.int .i64 q), .own x 0 4 4 1 false], true⟩)).setF H.nb (by omega) (by omega) (some ⟨[.val (.int .i64 a), .val (.int .i64 b), .val (.int .i64 q), .own x 0 4 4 1 false], true⟩)
    refine ⟨a, b, q, F, x, 0, 4, rfl, ?_, by omega, hF, hFl, by omega, ?_, e6⟩
    · simp (disch := omega) only [ze, zb, zc, za, if_pos, if_neg, ↓reduceIte]
      exact hml3
    · simp only [zc, za]; omega
  · simp (disch := omega) only [go_sem, hmB2, hmA2, List.set_cons_zero, List.set_cons_succ, ze, zb, zc, za]
    have e6 := (hd2.setF rb (by omega) (by omega) (some ⟨[.val (.int .i64 a), .val (.int .i64 b), .val (.int .i64 c), .own x 1 3 3 1 false], true⟩)).setF H.nb (by omega) (by omega) (some ⟨[.val (.int .i64 a), .val (.int .i64 b), .val (.int .i64 c), .own x 1 3 3 1 false], true⟩)
    refine ⟨a, b, c, F, x, 1, 3, rfl, ?_, by omega, hF, hFl, by omega, ?_, e6⟩
    · simp (disch := omega) only [ze, zb, zc, za, if_pos, if_neg, ↓reduceIte]
      exact hml2
    · simp only [zc, za]; omega
  · have hdp := hd2.trans (DS.push hd2.cur (by omega) ⟨strs lBad, false⟩)
    have wp := Tryz.l1PickS_ok B hB lBad (by decide) (by decide) (H2.push ⟨strs lBad, false⟩) cb H2.nb false false hdp.cur (by rw [zb, if_pos rfl]) (by omega)
    simp (disch := omega) only [go_sem, hmB2]
    refine ⟨.own x 0 4 4 1 false, fun Hx hx => ?_, ?_⟩
    · have hx : Hx.map rb = some ⟨[.val (.int .i64 a), .val (.int .i64 b), .val (.int .i64 c), .own x 0 4 4 1 false], true⟩ := hx
      simp (disch := omega) only [go_sem, hx]
    have sB : (strs lBad).set 3 (.val (.string (sb []))) = strs lBad := rfl
    have lB : (strs lBad).length = 4 := rfl
    simp (disch := omega) only [go_sem, hmB2, repS4, lBad_eq, sB, lB, List.set_cons_zero, List.set_cons_succ, List.length_cons, List.length_nil, ze, zb, zc, za]
    refine CallS.callN wp (PickSQ.ne (by decide) hdp.cur) ?_
    rintro r H3 ⟨q, rfl, hq, hs3⟩
    have hnb3 : H3.nb = H2.nb + 1 := hs3.nb
    have hmA3 : H3.map H.nb = some ⟨zRec, true⟩ := by rw [hs3.map (by omega), zb, if_neg (by omega), hmA2]
    have hmB3 : H3.map rb = some ⟨[.val (.int .i64 a), .val (.int .i64 b), .val (.int .i64 c), .own x 0 4 4 1 false], true⟩ := by rw [hs3.map (by omega), zb, if_neg (by omega), hmB2]
    have hml3 : H3.map x = some ⟨strs F, false⟩ := by rw [hs3.map (by omega), zb, if_neg (by omega), hml2]
    have hd3 := hdp.trans hs3.ds
    have hst := strs_set F 0 q
    have hq3 := lBad_le q hq
    simp (disch := omega) only [go_sem, hmB3, hmA3, hml3, hil, hst, ze, zb, zc, za]
    have e6 := (hd3.setF x (by omega) (by omega) (some ⟨strs (F.set 0 q), false⟩)).setF H.nb (by omega) (by omega) (some ⟨[.val (.int .i64 a), .val (.int .i64 b), .val (.int .i64 c), .own x 0 4 4 1 false], true⟩)
    refine ⟨a, b, c, F.set 0 q, x, 0, 4, rfl, ?_, by simp [hF], by simp [hF], fun p hp => ?_, by omega, ?_, e6⟩
    · simp (disch := omega) only [ze, zb, zc, za, if_pos, if_neg, ↓reduceIte]
    · rcases List.mem_or_eq_of_mem_set hp with h | rfl
      · exact hFl p h
      · omega
    · simp only [zc, za]; omega
  · simp (disch := omega) only [go_sem, hmB2, hmA2, ze, zb, zc, za]
    have e6 := hd2.setF H.nb (by omega) (by omega) (some ⟨[.val (.int .i64 a), .val (.int .i64 b), .val (.int .i64 c), .own x 0 4 4 1 false], true⟩)
    refine ⟨a, b, c, F, x, 0, 4, rfl, ?_, by omega, hF, hFl, by omega, ?_, e6⟩
    · simp (disch := omega) only [ze, zb, zc, za, if_pos, if_neg, ↓reduceIte]
      exact hml2
    · simp only [zc, za]; omega
end Go.Sh

/-
  Lists of records drawn, in memory of their own.
-/
namespace Go.Sh
open Go Go.Proofs

structure Lr where
  a : Int
  b : Int
  c : Int
  G : List Wd
  x : Nat
  o : Nat
  n : Nat
def Lr.cells (r : Lr) : List SV := [.val (.int .i64 r.a), .val (.int .i64 r.b), .val (.int .i64 r.c), .own r.x r.o r.n r.n 1 false]
def Lr.recd (r : Lr) : Rec := (r.a, r.b, r.c, (r.G.drop r.o).take r.n)
def lrs (L : List Lr) : List SV := L.flatMap Lr.cells
theorem repL : rep [SV.val (.int .i64 0), SV.val (.int .i64 0), SV.val (.int .i64 0), SV.val (.slice none 0 0)] 4 = [SV.val (.int .i64 0), SV.val (.int .i64 0), SV.val (.int .i64 0), SV.val (.slice none 0 0)] := rfl
theorem lrs_snoc (L : List Lr) (r : Lr) : lrs L ++ [.val (.int .i64 r.a), .val (.int .i64 r.b), .val (.int .i64 r.c), .own r.x r.o r.n r.n 1 false] = lrs (L ++ [r]) := by simp [lrs, Lr.cells]
theorem lrs_length (L : List Lr) : (lrs L).length = L.length * 4 := by
  induction L with
  | nil => rfl
  | cons r L ih => simp only [lrs, List.flatMap_cons, List.length_append, List.length_cons] at ih ⊢; rw [ih]; simp [Lr.cells]; omega
theorem lrs_at {L : List Lr} {k : Nat} (h : k < L.length) : (lrs L)[k * 4 + 3]? = some (.own L[k].x L[k].o L[k].n L[k].n 1 false) := by
  induction L generalizing k with
  | nil => simp at h
  | cons r L ih =>
    cases k with
    | zero => simp [lrs, Lr.cells]
    | succ k =>
      have := ih (k := k) (by simpa using h)
      have e : (k + 1) * 4 + 3 = (k * 4 + 3) + 4 := by omega
      rw [e]
      simpa [lrs, Lr.cells] using this
structure LrOk (H : Heap) (lo : Nat) (r : Lr) : Prop where
  m : H.map r.x = some ⟨strs r.G, false⟩
  le : r.o + r.n ≤ r.G.length
  g4 : r.G.length = 4
  w : ∀ p ∈ r.G, p.length ≤ 1000
  lo : lo ≤ r.x
  hi : r.x < H.nb
theorem LrOk.fr {H H' : Heap} {lo : Nat} {r : Lr} (h : LrOk H lo r) (hn : H.nb ≤ H'.nb) (hf : H'.map r.x = H.map r.x) : LrOk H' lo r := ⟨by rw [hf, h.m], h.le, h.g4, h.w, h.lo, Nat.lt_of_lt_of_le h.hi hn⟩
structure RecH (H : Heap) (lo : Nat) (L : List Lr) (ob : Nat) : Prop where
  o : H.map ob = some ⟨lrs L, false⟩
  lo1 : lo ≤ ob
  hi1 : ob < H.nb
  row : ∀ r ∈ L, LrOk H lo r ∧ r.x ≠ ob
theorem RecH.fr {H H' : Heap} {lo ob : Nat} {L : List Lr} (h : RecH H lo L ob) (hn : H.nb ≤ H'.nb) (hf : ∀ b, lo ≤ b → b < H.nb → H'.map b = H.map b) : RecH H' lo L ob :=
  ⟨by rw [hf _ h.lo1 h.hi1, h.o], h.lo1, Nat.lt_of_lt_of_le h.hi1 hn, fun r hr => ⟨(h.row r hr).1.fr hn (hf _ (h.row r hr).1.lo (h.row r hr).1.hi), (h.row r hr).2⟩⟩
theorem RecH.snoc {H H' : Heap} {lo ob ob' : Nat} {L : List Lr} {r : Lr} (h : RecH H lo L ob) (ho : H'.map ob' = some ⟨lrs (L ++ [r]), false⟩) (h1 : H.nb ≤ ob') (h2 : ob' < H'.nb)
    (hf : ∀ b, lo ≤ b → b < H.nb → b ≠ ob → H'.map b = H.map b) (hr : LrOk H' lo r) (hne : r.x ≠ ob') : RecH H' lo (L ++ [r]) ob' := by
  refine ⟨ho, by have := h.lo1; have := h.hi1; omega, h2, fun q hq => ?_⟩
  rcases List.mem_append.1 hq with hq | hq
  · obtain ⟨k1, k2⟩ := h.row q hq
    exact ⟨k1.fr (by omega) (hf _ k1.lo k1.hi k2), by have := k1.hi; omega⟩
  · simp at hq; subst hq; exact ⟨hr, hne⟩
def RecsQ (B : List Int) (cb : Nat) (H : Heap) (r : SV) (H' : Heap) : Prop := ∃ (L : List Lr) (ob : Nat), r = .own ob 0 L.length L.length 4 false ∧ RecH H' H.nb L ob ∧ L.length ≤ 7 ∧ DS B cb H H'
set_option maxRecDepth 20000 in
set_option maxHeartbeats 16000000 in
theorem Tryz.l13Records_ok (B : List Int) (hB : B.length ≤ 1048576) (H : Heap) (cb : Nat) (hc : Cur B H cb) (hcb : cb < H.nb) : CallS Tryz.prog 61 [.optr cb 0] H (RecsQ B cb H) := by
  have e1 := DS.push hc hcb ⟨[], false⟩
  refine CallS.of_body Tryz.func61 rfl (by kernel_rfl) (by simp [Tryz.ntmps61]) ?_
  refine SW.seqW ⟨ofL [(0, .optr cb 0), (2, .val (.slice none 0 0))], H⟩ ?_ ?_
  · refine SW_of_vc Tryz.mixed _ _ _ (by kernel_rfl) ?_
    simp (disch := omega) only [go_sem]
    exact Wk.of (by simp only [go_sem, ↓List.forall_mem_cons, List.not_mem_nil, false_implies, implies_true, and_true, true_and, and_self, ri_eq, Int.natCast_add, Int.cast_ofNat_Int]; try simp) rfl
  refine SW.seqW ⟨ofL [(0, .optr cb 0), (2, .val (.slice none 0 0)), (3, .own H.nb 0 0 0 4 false)], H.push ⟨[], false⟩⟩ ?_ ?_
  · refine SW_of_vc Tryz.mixed _ _ _ (by kernel_rfl) ?_
    simp (disch := omega) only [go_sem, List.replicate, za]
    exact Wk.of (by simp only [go_sem, ↓List.forall_mem_cons, List.not_mem_nil, false_implies, implies_true, and_true, true_and, and_self, ri_eq, Int.natCast_add, Int.cast_ofNat_Int]; try simp) rfl
  refine SW.seqI (fun y : List Lr × Nat × Heap => ⟨ofL [(0, .optr cb 0), (2, .val (.slice none 0 0)), (3, .own y.2.1 0 y.1.length y.1.length 4 false)], y.2.2⟩)
    (fun y => RecH y.2.2 H.nb y.1 y.2.1 ∧ y.1.length ≤ 6 ∧ DS B cb H y.2.2) ?_ ?_
  · refine SW.seqI (fun y : Nat × Heap => ⟨ofL [(0, .optr cb 0), (2, .val (.slice none 0 0)), (3, .own H.nb 0 0 0 4 false), (4, .val (.int .i64 y.1))], y.2⟩)
      (fun y => y.1 ≤ 6 ∧ RecH y.2 H.nb [] H.nb ∧ DS B cb H y.2) ?_ ?_
    · have wb := Tryz.l1Below_ok B hB 7 (by omega) (H.push ⟨[], false⟩) cb e1.cur
      refine SW_of_vc Tryz.mixed _ _ _ (by kernel_rfl) ?_
      simp (disch := omega) only [go_sem]
      refine wb.callX ?_
      rintro r H1 ⟨v, rfl, v0, v1, v2, hs⟩
      have v1 := v1 (by omega)
      obtain ⟨q, rfl⟩ := Int.eq_ofNat_of_zero_le v0
      have hnb1 : H1.nb = H.nb + 1 := hs.nb
      simp (disch := omega) only [go_sem]
      exact ⟨(q, H1), ⟨by show q ≤ 6; omega, ⟨by show H1.map H.nb = _; rw [hs.map (by omega), zb, if_pos rfl]; rfl, Nat.le_refl _, by show H.nb < H1.nb; omega, fun r hr => by simp at hr⟩, e1.trans hs.ds⟩, Wk.of (by simp only [go_sem, ↓List.forall_mem_cons, List.not_mem_nil, false_implies, implies_true, and_true, true_and, and_self, ri_eq, Int.natCast_add, Int.cast_ofNat_Int]; try simp) rfl⟩
    rintro ⟨q, H1⟩ ⟨hq6, hRe, hd⟩
    simp only at hq6 hRe hd
    refine SW.block ?_
    refine LoopW.loop (fun y : Nat × List Lr × Nat × Heap => ⟨ofL [(0, .optr cb 0), (2, .val (.slice none 0 0)), (3, .own y.2.2.1 0 y.2.1.length y.2.1.length 4 false), (4, .val (.int .i64 y.1))], y.2.2.2⟩)
      (fun y => y.2.1.length + y.1 ≤ 6 ∧ RecH y.2.2.2 H.nb y.2.1 y.2.2.1 ∧ (∀ r ∈ y.2.1, r.o = 0 ∧ r.n = 4) ∧ DS B cb H y.2.2.2) (fun y => y.1)
      (q, [], H.nb, H1) ⟨by show 0 + q ≤ 6; omega, hRe, fun r hr => by simp at hr, hd⟩ (Wk.of (by simp only [go_sem, ↓List.forall_mem_cons, List.not_mem_nil, false_implies, implies_true, and_true, true_and, and_self, ri_eq, Int.natCast_add, Int.cast_ofNat_Int]; try simp) rfl) ?_
    clear hRe hd hq6 H1
    rintro ⟨k, L, lb, H1⟩ ⟨hk, hRe, h04, hd⟩
    simp only at hk hRe h04 hd
    cases k with
    | zero =>
      refine SW_of_vc Tryz.mixed _ _ _ (by kernel_rfl) ?_
      simp (disch := omega) only [go_sem]
      exact ⟨(L, lb, H1), ⟨hRe, by show L.length ≤ 6; omega, hd⟩, Wk.of (by simp only [go_sem, ↓List.forall_mem_cons, List.not_mem_nil, false_implies, implies_true, and_true, true_and, and_self, ri_eq, Int.natCast_add, Int.cast_ofNat_Int]; try simp) rfl⟩
    | succ k =>
      have hnbd := hd.nb
      have hkp : (0 : Int) < ((k + 1 : Nat) : Int) := by omega
      refine SW.seqW ⟨ofL [(0, .optr cb 0), (2, .val (.slice none 0 0)), (3, .own lb 0 L.length L.length 4 false), (4, .val (.int .i64 (k + 1 : Nat)))], H1⟩ ?_ ?_
      · refine SW_of_vc Tryz.mixed _ _ _ (by kernel_rfl) ?_
        simp (disch := omega) only [go_sem, hkp]
        exact Wk.of (by simp only [go_sem, ↓List.forall_mem_cons, List.not_mem_nil, false_implies, implies_true, and_true, true_and, and_self, ri_eq, Int.natCast_add, Int.cast_ofNat_Int]; try simp) rfl
      refine SW.seqI (fun y : List Lr × Nat × Heap => ⟨ofL [(0, .optr cb 0), (2, .val (.slice none 0 0)), (3, .own y.2.1 0 y.1.length y.1.length 4 false), (4, .val (.int .i64 (k + 1 : Nat)))], y.2.2⟩)
        (fun y => y.1.length = L.length + 1 ∧ RecH y.2.2 H.nb y.1 y.2.1 ∧ (∀ r ∈ y.1, r.o = 0 ∧ r.n = 4) ∧ DS B cb H y.2.2) ?_ ?_
      · refine SW.block ?_
        have hlL := lrs_length L
        refine SW.seqI (fun y : Nat × Int × Int × Int × List Wd × Nat × Heap => ⟨ofL [(0, .optr cb 0), (2, .val (.slice none 0 0)), (3, .own lb 0 L.length L.length 4 false), (4, .val (.int .i64 (k + 1 : Nat))), (5, .optr y.1 0)], y.2.2.2.2.2.2⟩)
          (fun y => y.2.2.2.2.2.2.map y.1 = some ⟨[.val (.int .i64 y.2.1), .val (.int .i64 y.2.2.1), .val (.int .i64 y.2.2.2.1), .own y.2.2.2.2.2.1 0 4 4 1 false], true⟩ ∧ y.2.2.2.2.2.2.map y.2.2.2.2.2.1 = some ⟨strs y.2.2.2.2.1, false⟩ ∧ y.2.2.2.2.1.length = 4 ∧ (∀ p ∈ y.2.2.2.2.1, p.length ≤ 1000) ∧ H1.nb ≤ y.1 ∧ y.1 < y.2.2.2.2.2.2.nb ∧ H1.nb ≤ y.2.2.2.2.2.1 ∧ y.2.2.2.2.2.1 < y.2.2.2.2.2.2.nb ∧ y.1 ≠ y.2.2.2.2.2.1 ∧ DS B cb H1 y.2.2.2.2.2.2) ?_ ?_
        · have w1 := Tryz.l8Record_ok B hB H1 cb hd.cur (by omega)
          refine SW_of_vc Tryz.mixed _ _ _ (by kernel_rfl) ?_
          simp (disch := omega) only [go_sem]
          refine w1.callX ?_
          rintro r H2 ⟨a, b, c, F, x, rfl, hx, hF, hFl, x1, x2, hd2⟩
          have hnb2 := hd2.nb
          simp (disch := omega) only [go_sem, ze, zb, zc, za]
          have e2 := (hd2.trans (DS.push hd2.cur (by omega) ⟨zRec, true⟩)).setF H2.nb (by omega) (by omega) (some ⟨[.val (.int .i64 a), .val (.int .i64 b), .val (.int .i64 c), .own x 0 4 4 1 false], true⟩)
          refine ⟨(H2.nb, a, b, c, F, x, _), ⟨?_, ?_, hF, hFl, by show H1.nb ≤ H2.nb; omega, ?_, by show H1.nb ≤ x; omega, ?_, by show H2.nb ≠ x; omega, e2⟩, Wk.of (by simp only [go_sem, ↓List.forall_mem_cons, List.not_mem_nil, false_implies, implies_true, and_true, true_and, and_self, ri_eq, Int.natCast_add, Int.cast_ofNat_Int]; try simp) rfl⟩
          · simp only
            simp (disch := omega) only [ze, zb, zc, za, if_pos, if_neg, ↓reduceIte]
          · simp only
            simp (disch := omega) only [ze, zb, zc, za, if_pos, if_neg, ↓reduceIte]
            exact hx
          · simp only [zc, za]; omega
          · simp only [zc, za]; omega
        rintro ⟨rb, a, b, c, F, x, H2⟩ ⟨hmr, hx, hF, hFl, r1, r2, x1, x2, hne, hd2⟩
        simp only at hmr hx hF hFl r1 r2 x1 x2 hne hd2
        have hnb2 := hd2.nb
        have hRe2 : RecH H2 H.nb L lb := hRe.fr hnb2 (fun z z1 z2 => hd2.fr z z2 (by omega))
        have hi0 := hRe.hi1
        refine SW.seqI (fun y : List Wd × Heap => ⟨ofL [(0, .optr cb 0), (2, .val (.slice none 0 0)), (3, .own lb 0 L.length L.length 4 false), (4, .val (.int .i64 (k + 1 : Nat))), (5, .optr rb 0)], y.2⟩)
          (fun y => y.2.map rb = some ⟨[.val (.int .i64 a), .val (.int .i64 b), .val (.int .i64 c), .own x 0 4 4 1 false], true⟩ ∧ y.2.map x = some ⟨strs y.1, false⟩ ∧ y.1.length = 4 ∧ (∀ p ∈ y.1, p.length ≤ 1000) ∧ RecH y.2 H.nb L lb ∧ DS B cb H1 y.2 ∧ y.2.nb = H2.nb) ?_ ?_
        · refine SW_of_vc5 [] [7] (fun Hx => Hx.map rb = some ⟨[.val (.int .i64 a), .val (.int .i64 b), .val (.int .i64 c), .own x 0 4 4 1 false], true⟩) [1] Tryz.mixed _ _ _ (by kernel_rfl) ?_
          by_cases hz : L.length = 0
          · simp (disch := omega) only [go_sem, hz]
            exact ⟨(F, H2), ⟨hmr, hx, hF, hFl, hRe2, hd2, rfl⟩, Wk.of (by simp only [go_sem, ↓List.forall_mem_cons, List.not_mem_nil, false_implies, implies_true, and_true, true_and, and_self, ri_eq, Int.natCast_add, Int.cast_ofNat_Int, hz]; try simp) rfl⟩
          · have hlp : (0 : Int) < (L.length : Int) := by omega
            have wo := Tryz.l1Once_ok B hB 2 (by omega) H2 cb hd2.cur
            simp (disch := omega) only [go_sem, hlp]
            refine wo.callX ?_
            rintro r H3 ⟨t, rfl, hs3⟩
            have hnb3 : H3.nb = H2.nb := hs3.nb
            have hmr3 : H3.map rb = some ⟨[.val (.int .i64 a), .val (.int .i64 b), .val (.int .i64 c), .own x 0 4 4 1 false], true⟩ := by rw [hs3.map (by omega), hmr]
            have hx3 : H3.map x = some ⟨strs F, false⟩ := by rw [hs3.map (by omega), hx]
            have hd3 := hd2.trans hs3.ds
            have hRe3 : RecH H3 H.nb L lb := hRe2.fr (by omega) (fun z z1 z2 => hs3.map (by omega))
            cases t with
            | false =>
              simp (disch := omega) only [go_sem]
              exact ⟨(F, H3), ⟨hmr3, hx3, hF, hFl, hRe3, hd3, hnb3⟩, Wk.of (by simp only [go_sem, ↓List.forall_mem_cons, List.not_mem_nil, false_implies, implies_true, and_true, true_and, and_self, ri_eq, Int.natCast_add, Int.cast_ofNat_Int]; try simp) rfl⟩
            | true =>
              have wb := Tryz.l1Below_ok B hB L.length (by omega) H3 cb hd3.cur
              simp (disch := omega) only [go_sem, hmr3]
              refine ⟨.own x 0 4 4 1 false, fun Hx hx => ?_, ?_⟩
              · have hx : Hx.map rb = some ⟨[.val (.int .i64 a), .val (.int .i64 b), .val (.int .i64 c), .own x 0 4 4 1 false], true⟩ := hx
                simp (disch := omega) only [go_sem, hx]
              simp (disch := omega) only [go_sem, hmr3]
              refine CallS.callN wb (BelowQ.ne hd3.cur) ?_
              rintro r H4 ⟨v, rfl, v0, v1, v2, hs4⟩
              have v1 := v1 (by omega)
              obtain ⟨q, rfl⟩ := Int.eq_ofNat_of_zero_le v0
              have hq : q < L.length := by omega
              have hnb4 : H4.nb = H3.nb := hs4.nb
              have hmr4 : H4.map rb = some ⟨[.val (.int .i64 a), .val (.int .i64 b), .val (.int .i64 c), .own x 0 4 4 1 false], true⟩ := by rw [hs4.map (by omega), hmr3]
              have hx4 : H4.map x = some ⟨strs F, false⟩ := by rw [hs4.map (by omega), hx3]
              have hd4 := hd3.trans hs4.ds
              have hRe4 : RecH H4 H.nb L lb := hRe3.fr (by omega) (fun z z1 z2 => hs4.map (by omega))
              have hlb := hRe4.o
              have ga := lrs_at hq
              obtain ⟨k1, k2⟩ := hRe4.row _ (List.getElem_mem hq)
              obtain ⟨n1, n2⟩ := h04 _ (List.getElem_mem hq)
              have km := k1.m
              have kg := k1.g4
              have kw := k1.w
              have khi := k1.hi
              rw [n1, n2] at ga
              have gs0 := zn (L := L[q].G) (k := 0) (by omega)
              have gsl : (strs L[q].G).length = 4 := by rw [zj, kg]
              have hil : (strs F).length = 4 := by rw [zj, hF]
              have hst := strs_set F 0 (L[q].G.getD 0 [])
              have hgw : (L[q].G.getD 0 []).length ≤ 1000 := kw _ (by simp [kg])
              simp (disch := omega) only [go_sem, hmr4, hlb, ga, km, gs0, gsl, hlL, hx4, hil, hst, ze, zc, and_self]
              have e := hd4.setF x x1 (by omega) (some ⟨strs (F.set 0 (L[q].G.getD 0 [])), false⟩)
              refine ⟨(F.set 0 (L[q].G.getD 0 []), H4.set x (some ⟨strs (F.set 0 (L[q].G.getD 0 [])), false⟩)), ⟨?_, ?_, by simp [hF], fun p hp => ?_, hRe.fr e.nb (fun z z1 z2 => e.fr z z2 (by omega)), e, ?_⟩, Wk.of (by simp only [go_sem, ↓List.forall_mem_cons, List.not_mem_nil, false_implies, implies_true, and_true, true_and, and_self, ri_eq, Int.natCast_add, Int.cast_ofNat_Int]; try simp) rfl⟩
              · simp only [ze]; rw [if_neg (by omega)]; exact hmr4
              · simp only [ze, if_pos]
              · rcases List.mem_or_eq_of_mem_set hp with h | rfl
                · exact hFl p h
                · exact hgw
              · show (Heap.set _ _ _).nb = _; rw [zc]; omega
        rintro ⟨F2, H3⟩ ⟨hmr3, hx3, hF3, hFl3, hRe3, hd3, hnb3⟩
        simp only at hmr3 hx3 hF3 hFl3 hRe3 hd3 hnb3
        have hlb := hRe3.o
        have hi3 := hRe3.hi1
        have htk : (lrs L).take (L.length * 4) = lrs L := List.take_of_length_le (by omega)
        have hsn := lrs_snoc L ⟨a, b, c, F2, x, 0, 4⟩
        simp only at hsn
        refine SW_of_vc Tryz.mixed _ _ _ (by kernel_rfl) ?_
        simp (disch := omega) only [go_sem, hmr3, repL, List.set_cons_zero, List.set_cons_succ, List.length_cons, List.length_nil, hlb, hlL, htk, hsn, ze, zb, zc, za]
        have hLl : (L ++ [(⟨a, b, c, F2, x, 0, 4⟩ : Lr)]).length = L.length + 1 := by simp
        have hlo := hRe.lo1
        have hn3 := hd3.nb
        have hd33 := hd.trans hd3
        have e5 := (hd33.trans (DS.push hd33.cur (by omega) ⟨[.val (.int .i64 a), .val (.int .i64 b), .val (.int .i64 c), .own x 0 4 4 1 false], false⟩)).setF lb (by omega) (by omega) none
        have e6 := e5.trans (DS.push e5.cur (by rw [zc, za]; omega) ⟨lrs (L ++ [⟨a, b, c, F2, x, 0, 4⟩]), false⟩)
        refine ⟨(L ++ [⟨a, b, c, F2, x, 0, 4⟩], H3.nb + 1, _), ⟨hLl, hRe3.snoc (r := ⟨a, b, c, F2, x, 0, 4⟩) ?_ (by show H3.nb ≤ H3.nb + 1; omega) ?_ (fun z z1 z2 z3 => ?_) ⟨?_, by show 0 + 4 ≤ F2.length; omega, hF3, hFl3, by show H.nb ≤ x; omega, ?_⟩ (by show x ≠ H3.nb + 1; omega), fun r hr => ?_, e6⟩, Wk.of (by simp only [go_sem, ↓List.forall_mem_cons, List.not_mem_nil, false_implies, implies_true, and_true, true_and, and_self, ri_eq, Int.natCast_add, Int.cast_ofNat_Int, hLl]; try simp) rfl⟩
        · simp only
          simp (disch := omega) only [ze, zb, zc, za, if_pos, if_neg, ↓reduceIte]
        · simp only [zc, za]; omega
        · simp only
          simp (disch := omega) only [ze, zb, zc, za, if_pos, if_neg, ↓reduceIte]
        · show Heap.map _ x = _
          simp (disch := omega) only [ze, zb, zc, za, if_pos, if_neg, ↓reduceIte]
          exact hx3
        · show x < Heap.nb _
          simp only [zc, za]; omega
        · rcases List.mem_append.1 hr with h | h
          · exact h04 r h
          · simp at h; subst h; exact ⟨rfl, rfl⟩
      rintro ⟨L2, lb2, H2⟩ ⟨hL2, hRe2, h042, hd2⟩
      simp only at hL2 hRe2 h042 hd2
      have hk1 : ((k + 1 : Nat) : Int) - 1 = (k : Int) := by omega
      refine SW_of_vc Tryz.mixed _ _ _ (by kernel_rfl) ?_
      simp (disch := omega) only [go_sem, hk1]
      exact ⟨(k, L2, lb2, H2), ⟨by show L2.length + k ≤ 6; omega, hRe2, h042, hd2⟩, by show k < k + 1; omega, Wk.of (by simp only [go_sem, ↓List.forall_mem_cons, List.not_mem_nil, false_implies, implies_true, and_true, true_and, and_self, ri_eq, Int.natCast_add, Int.cast_ofNat_Int]; try simp) rfl⟩
  rintro ⟨L, lb, H1⟩ ⟨hRe, hl6, hd⟩
  simp only at hRe hl6 hd
  have hlL := lrs_length L
  have hnbd := hd.nb
  have wo := Tryz.l1Once_ok B hB 16 (by omega) H1 cb hd.cur
  refine SW_of_vc Tryz.mixed _ _ _ (by kernel_rfl) ?_
  simp (disch := omega) only [go_sem]
  refine wo.callX ?_
  rintro r H2 ⟨t, rfl, hs⟩
  have hnb2 : H2.nb = H1.nb := hs.nb
  have hd2 := hd.trans hs.ds
  have hi0 := hRe.hi1
  have hRe2 : RecH H2 H.nb L lb := hRe.fr (by omega) (fun z z1 z2 => hs.map (by omega))
  cases t with
  | false =>
    simp (disch := omega) only [go_sem]
    exact ⟨L, lb, rfl, hRe2, by omega, hd2⟩
  | true =>
    have wa := Tryz.l8Any_ok B hB H2 cb hd2.cur (by omega)
    simp (disch := omega) only [go_sem]
    refine wa.callX ?_
    rintro r H3 ⟨a, b, c, G, x, o, n, rfl, hx, hle, hG, hGl, x1, x2, hd3⟩
    have hnb3 := hd3.nb
    have hRe3 : RecH H3 H.nb L lb := hRe2.fr hnb3 (fun z z1 z2 => hd3.fr z z2 (by omega))
    have hlb := hRe3.o
    have hi3 := hRe3.hi1
    have hlo3 := hRe3.lo1
    have hi2 := hRe2.hi1
    have htk : (lrs L).take (L.length * 4) = lrs L := List.take_of_length_le (by omega)
    have hsn := lrs_snoc L ⟨a, b, c, G, x, o, n⟩
    simp only at hsn
    simp (disch := omega) only [go_sem, repL, List.set_cons_zero, List.set_cons_succ, List.length_cons, List.length_nil, hlb, hlL, htk, hsn, ze, zb, zc, za]
    have hLl : (L ++ [(⟨a, b, c, G, x, o, n⟩ : Lr)]).length = L.length + 1 := by simp
    have hd33 := hd2.trans hd3
    have e5 := (hd33.trans (DS.push hd33.cur (by omega) ⟨[.val (.int .i64 a), .val (.int .i64 b), .val (.int .i64 c), .own x o n n 1 false], false⟩)).setF lb (by omega) (by omega) none
    have e6 := e5.trans (DS.push e5.cur (by rw [zc, za]; omega) ⟨lrs (L ++ [⟨a, b, c, G, x, o, n⟩]), false⟩)
    refine ⟨L ++ [⟨a, b, c, G, x, o, n⟩], H3.nb + 1, by rw [hLl], hRe3.snoc (r := ⟨a, b, c, G, x, o, n⟩) ?_ (by omega) ?_ (fun z z1 z2 z3 => ?_) ⟨?_, hle, hG, hGl, by show H.nb ≤ x; omega, ?_⟩ (by show x ≠ H3.nb + 1; omega), by omega, e6⟩
    · simp (disch := omega) only [ze, zb, zc, za, if_pos, if_neg, ↓reduceIte]
    · simp only [zc, za]; omega
    · simp (disch := omega) only [ze, zb, zc, za, if_pos, if_neg, ↓reduceIte]
    · show Heap.map _ x = _
      simp (disch := omega) only [ze, zb, zc, za, if_pos, if_neg, ↓reduceIte]
      exact hx
    · show x < Heap.nb _
      simp only [zc, za]; omega
end Go.Sh

/-
  Drawing a matrix: the walks.
-/
namespace Go.Sh
open Go Go.Proofs

def MQ (B : List Int) (cb : Nat) (H : Heap) (r : SV) (H' : Heap) : Prop :=
  ∃ ob cs nm M, r = .own ob 0 M.length M.length 1 false ∧ MatH H' H.nb ob cs nm M ∧ DS B cb H H' ∧ 1 ≤ M.length ∧ M.length ≤ 6 ∧ Rect M M.length

set_option maxRecDepth 20000 in
set_option maxHeartbeats 8000000 in
theorem Tryz.l17Matrix_ok (B : List Int) (hB : B.length ≤ 1048576) (most : Int) (h1 : 1 ≤ most) (h6 : most ≤ 6) (H : Heap) (cb : Nat) (hc : Cur B H cb) (hcb : cb < H.nb) : CallS Tryz.prog 123 [.optr cb 0, .val (.int .i64 most)] H (MQ B cb H) := by
  have w := Tryz.l1Below_ok B hB most (by omega) H cb hc
  refine CallS.of_body Tryz.func123 rfl (by kernel_rfl) (by simp [Tryz.ntmps123]) ?_
  refine SW_of_vc Tryz.mixed _ _ _ (by kernel_rfl) ?_
  simp (disch := omega) only [go_sem]
  refine w.callX ?_
  rintro r H0 ⟨v, rfl, v0, v1, v2, hs⟩
  have v1 := v1 (by omega)
  obtain ⟨m, rfl⟩ := Int.eq_ofNat_of_zero_le v0
  obtain ⟨n, hn⟩ : ∃ n : Nat, n = 1 + m := ⟨_, rfl⟩
  have hn2 : (1 : Int) + (m : Int) = (n : Int) := by omega
  have hd0 : DS B cb H H0 := hs.ds
  have hnb0 := hs.nb
  simp (disch := omega) only [go_sem, hn2]
  have hd1 : DS B cb H (H0.push ⟨[], false⟩) := hd0.trans (DS.push hd0.cur (by omega) _)
  refine LoopW.loop (fun y : Nat × Nat × List SV × (Nat → Nat) × List (List Int) × Heap => ⟨ofL [(0, .optr cb 0), (5, .val (.int .i64 n)), (6, .own y.2.1 0 y.1 y.1 1 false), (7, .val (.int .i64 y.1))], y.2.2.2.2.2⟩)
    (fun y => y.1 ≤ n ∧ MatH y.2.2.2.2.2 H.nb y.2.1 y.2.2.1 y.2.2.2.1 y.2.2.2.2.1 ∧ DS B cb H y.2.2.2.2.2 ∧ y.2.2.2.2.1.length = y.1 ∧ Rect y.2.2.2.2.1 n) (fun y => n - y.1) (0, H0.nb, [], fun _ => 0, [], H0.push ⟨[], false⟩)
    ⟨by simp, ⟨rfl, by rw [zb, if_pos rfl], fun i hi => absurd hi (by simp), fun i j hi => absurd hi (by simp), by show H.nb ≤ H0.nb ∧ H0.nb < (H0.push _).nb; rw [za]; omega, fun i hi => absurd hi (by simp)⟩, hd1, rfl, fun i hi => absurd hi (by simp)⟩ (Wk.of (by simp only [go_sem, ↓List.forall_mem_cons, List.not_mem_nil, false_implies, implies_true, and_true, true_and, and_self, ri_eq, Int.natCast_add, Int.cast_ofNat_Int]; try simp) rfl) ?_
  clear hd1 hd0 hs hnb0 H0
  rintro ⟨k, ob, cs, nm, M, H1⟩ ⟨hk, hM, hd, hMl, hMr⟩
  simp only at hk hM hd hMl hMr
  refine SW_of_vc Tryz.mixed _ _ _ (by kernel_rfl) ?_
  by_cases hlt : k < n
  · have hmo := hM.o
    have hcl : cs.length = k := by rw [hM.ln, hMl]
    have htk : List.take k cs = cs := List.take_of_length_le (by omega)
    have hlo := hM.lo1
    have hnb := hd.nb
    have hrep : List.replicate n (SV.val (.int .i64 0)) = ints (List.replicate n 0) := by simp [ints]
    simp (disch := omega) only [go_sem, hmo, hcl, htk, hrep, ze, zb, zc, za]
    have hl2 : (List.replicate n (0 : Int)).length = n := by simp
    refine ⟨(k + 1, H1.nb + 1 + 1, cs ++ [.own H1.nb 0 n n 1 true], fun i => if i < M.length then nm i else H1.nb, M ++ [List.replicate n 0], _), ⟨hlt, hM.snoc (ob' := H1.nb + 1 + 1) (r := H1.nb) (l := n) (L := List.replicate n 0) (e := true) (e2 := true) hl2.symm ?_ ?_ (fun b b1 b2 b3 => ?_) ?_ ?_ ?_ (by omega), ?_, by show (M ++ [List.replicate n 0]).length = k + 1; simp [hMl], hMr.snoc hl2⟩, by show n - (k + 1) < n - k; omega, Wk.of (by simp only [go_sem, ↓List.forall_mem_cons, List.not_mem_nil, false_implies, implies_true, and_true, true_and, and_self, ri_eq, Int.natCast_add, Int.cast_ofNat_Int]; try simp) rfl⟩
    · simp (disch := omega) only [ze, zb, zc, za, if_pos, ↓reduceIte]
    · simp (disch := omega) only [ze, zb, zc, za, if_pos, if_neg, ↓reduceIte]
    · simp (disch := omega) only [ze, zb, zc, za, if_neg, ↓reduceIte]
    · simp only [zc, za]; omega
    · simp only [zc, za]; omega
    · simp only [zc, za]; omega
    · have e1 : DS B cb H ((H1.push ⟨ints (List.replicate n 0), true⟩).push ⟨[.own H1.nb 0 n n 1 true], false⟩) := (hd.trans (DS.push hd.cur (by omega) _)).trans (DS.push (DS.push hd.cur (by omega) _).cur (by rw [za]; omega) _)
      have e2 := e1.setF ob (by omega) (by omega) none
      exact e2.trans (DS.push e2.cur (by simp only [zc, za]; omega) _)
  · obtain rfl : k = n := by omega
    have hn1 : 1 ≤ k := by omega
    have hlo := hM.lo1
    have hnb := hd.nb
    simp (disch := omega) only [go_sem]
    refine LoopW.loop (fun y : Nat × List (List Int) × Heap => ⟨ofL [(0, .optr cb 0), (5, .val (.int .i64 k)), (6, .own ob 0 k k 1 false), (8, .val (.int .i64 y.1))], y.2.2⟩)
      (fun y => y.1 ≤ k ∧ MatH y.2.2 H.nb ob cs nm y.2.1 ∧ DS B cb H y.2.2 ∧ y.2.1.length = k ∧ Rect y.2.1 k) (fun y => k - y.1) (0, M, H1) ⟨by simp, hM, hd, hMl, hMr⟩ (Wk.of (by simp only [go_sem, ↓List.forall_mem_cons, List.not_mem_nil, false_implies, implies_true, and_true, true_and, and_self, ri_eq, Int.natCast_add, Int.cast_ofNat_Int]; try simp) rfl) ?_
    clear hM hd hMl hMr hlt hlo hnb M H1
    rintro ⟨i, M, H1⟩ ⟨hi, hM, hd, hMl, hMr⟩
    simp only at hi hM hd hMl hMr
    refine SW_of_vc Tryz.mixed _ _ _ (by kernel_rfl) ?_
    by_cases hlt : i < k
    · simp (disch := omega) only [go_sem]
      refine LoopW.loop (fun y : Nat × List (List Int) × Heap => ⟨ofL [(0, .optr cb 0), (5, .val (.int .i64 k)), (6, .own ob 0 k k 1 false), (8, .val (.int .i64 i)), (9, .val (.int .i64 y.1))], y.2.2⟩)
        (fun y => i < y.1 ∧ y.1 ≤ k ∧ MatH y.2.2 H.nb ob cs nm y.2.1 ∧ DS B cb H y.2.2 ∧ y.2.1.length = k ∧ Rect y.2.1 k) (fun y => k - y.1) (i + 1, M, H1) ⟨by simp, by show i + 1 ≤ k; omega, hM, hd, hMl, hMr⟩ (Wk.of (by simp only [go_sem, ↓List.forall_mem_cons, List.not_mem_nil, false_implies, implies_true, and_true, true_and, and_self, ri_eq, Int.natCast_add, Int.cast_ofNat_Int]; try simp) rfl) ?_
      clear hM hd hMl hMr
      rintro ⟨j, M, H1⟩ ⟨hij, hj, hM, hd, hMl, hMr⟩
      simp only at hij hj hM hd hMl hMr
      refine SW_of_vc Tryz.mixed _ _ _ (by kernel_rfl) ?_
      by_cases hltj : j < k
      · have hlo := hM.lo1
        have hnb := hd.nb
        have hcl : cs.length = k := by rw [hM.ln, hMl]
        have wp := Tryz.l1Pick_ok B hB [5, 3, 1, -1, -2, -4, -6, 2, -1000, 0] (by simp) (by simp) (H1.push ⟨ints [5, 3, 1, -1, -2, -4, -6, 2, -1000, 0], false⟩) cb H1.nb false false (DS.push hd.cur (by omega) _).cur (by rw [zb, if_pos rfl]) (by omega)
        simp (maxSteps := 4000000) (disch := omega) only [go_sem]
        refine wp.callX ?_
        rintro r H2 ⟨v, rfl, hv, hs⟩
        have hds : DS B cb H1 H2 := (DS.push hd.cur (by omega) _).trans hs.ds
        have hnb2 := hds.nb
        have hM2 := hM.fr hnb2 (fun b b1 b2 => hds.fr b b2 (by omega))
        have hd2 := hd.trans hds
        obtain ⟨e, e2, r1, r2⟩ := hM2.row i (by omega)
        rw [hMr i (by omega)] at r1
        have ho := hM2.o
        have hil : ∀ M' : List (List Int), Rect M' k → ∀ z, z < M'.length → (ints (mrow M' z)).length = k := fun M' hr z hz => by rw [zh, hr z hz]
        have hset : ∀ (M' : List (List Int)) (z c : Nat), (ints (mrow M' z)).set c (.val (.int .i64 v)) = ints ((mrow M' z).set c v) := fun M' z c => by simp [ints]
        have hM3 := hM2.set (i := i) (k := j) (x := v) (e2 := e2) (by omega)
        obtain ⟨f, f2, q1, q2⟩ := hM3.row j (by rw [mset_length]; omega)
        have hr3 := hMr.set (i := i) (k := j) (x := v)
        rw [hr3 j (by rw [mset_length]; omega)] at q1
        have i1 := hil M hMr i (by omega)
        have i2 := hil (mset M i j v) hr3 j (by rw [mset_length]; omega)
        have ho3 := hM3.o
        have ni := hM2.lo2 i (by omega)
        have nj := hM3.lo2 j (by rw [mset_length]; omega)
        have hs1 := hset M i j
        have hs2 := hset (mset M i j v) j i
        have hM4 := hM3.set (i := j) (k := i) (x := v) (e2 := f2) (by rw [mset_length]; omega)
        have hd3 := hd2.setF (nm i) (by omega) (by omega) (some ⟨ints ((mrow M i).set j v), e2⟩)
        have hd4 := hd3.setF (nm j) (by omega) (by omega) (some ⟨ints ((mrow (mset M i j v) j).set i v), f2⟩)
        simp (disch := omega) only [go_sem, ho, r1, r2, i1, hs1, ho3, q1, q2, i2, hs2, hcl]
        exact ⟨(j + 1, mset (mset M i j v) j i v, _), ⟨by show i < j + 1; omega, hltj, hM4, hd4, by show (mset (mset M i j v) j i v).length = k; rw [mset_length, mset_length, hMl], hr3.set⟩, by show k - (j + 1) < k - j; omega, Wk.of (by simp only [go_sem, ↓List.forall_mem_cons, List.not_mem_nil, false_implies, implies_true, and_true, true_and, and_self, ri_eq, Int.natCast_add, Int.cast_ofNat_Int]; try simp) rfl⟩
      · simp (disch := omega) only [go_sem]
        exact ⟨(i + 1, M, H1), ⟨hlt, hM, hd, hMl, hMr⟩, by show k - (i + 1) < k - i; omega, Wk.of (by simp only [go_sem, ↓List.forall_mem_cons, List.not_mem_nil, false_implies, implies_true, and_true, true_and, and_self, ri_eq, Int.natCast_add, Int.cast_ofNat_Int]; try simp) rfl⟩
    · obtain rfl : i = k := by omega
      have hfin : MQ B cb H (.own ob 0 i i 1 false) H1 := ⟨ob, cs, nm, M, by rw [hMl], hM, hd, by omega, by omega, by rw [hMl]; exact hMr⟩
      simp (disch := omega) only [go_sem]
      exact hfin
end Go.Sh

/-
  Drawing a matrix that may be none.
-/
namespace Go.Sh
open Go Go.Proofs

def AQ (B : List Int) (cb : Nat) (H : Heap) (r : SV) (H' : Heap) : Prop :=
  ∃ ob cs nm M, r = .own ob 0 M.length M.length 1 false ∧ MatH H' H.nb ob cs nm M ∧ DS B cb H H' ∧ (1 ≤ M.length ∧ M.length ≤ 7) ∧ ∀ i, i < M.length → (mrow M i).length ≤ 6

set_option maxRecDepth 20000 in
set_option maxHeartbeats 8000000 in
theorem Tryz.l17Any_ok (B : List Int) (hB : B.length ≤ 1048576) (H : Heap) (cb : Nat) (hc : Cur B H cb) (hcb : cb < H.nb) : CallS Tryz.prog 73 [.optr cb 0] H (AQ B cb H) := by
  refine CallS.of_body Tryz.func73 rfl (by kernel_rfl) (by simp [Tryz.ntmps73]) ?_
  refine SW.seqW ⟨ofL [(0, .optr cb 0)], H⟩ ?_ ?_
  · refine SW_of_vc Tryz.mixed _ _ _ (by kernel_rfl) ?_
    simp (disch := omega) only [go_sem]
    exact Wk.of (by simp only [go_sem, ↓List.forall_mem_cons, List.not_mem_nil, false_implies, implies_true, and_true, true_and, and_self, ri_eq, Int.natCast_add, Int.cast_ofNat_Int]; try simp) rfl
  refine SW.seqI (fun y : Nat × List SV × (Nat → Nat) × List (List Int) × Heap => ⟨ofL [(0, .optr cb 0), (3, .own y.1 0 y.2.2.2.1.length y.2.2.2.1.length 1 false)], y.2.2.2.2⟩)
    (fun y => MatH y.2.2.2.2 H.nb y.1 y.2.1 y.2.2.1 y.2.2.2.1 ∧ DS B cb H y.2.2.2.2 ∧ 1 ≤ y.2.2.2.1.length ∧ y.2.2.2.1.length ≤ 6 ∧ Rect y.2.2.2.1 y.2.2.2.1.length) ?_ ?_
  · have hp := DS.push hc hcb ⟨ints [4, 5, 6], false⟩
    have wp := Tryz.l1Pick_ok B hB [4, 5, 6] (by simp) (by simp) (H.push ⟨ints [4, 5, 6], false⟩) cb H.nb false false hp.cur (by rw [zb, if_pos rfl]) (by omega)
    refine SW_of_vc Tryz.mixed _ _ _ (by kernel_rfl) ?_
    simp (disch := omega) only [go_sem]
    refine wp.callX ?_
    rintro r H1 ⟨v, rfl, hv, hs⟩
    have hd := hp.trans hs.ds
    have hv2 : 1 ≤ v ∧ v ≤ 6 := by
      simp at hv; omega
    simp (disch := omega) only [go_sem]
    refine (Tryz.l17Matrix_ok B hB v hv2.1 hv2.2 H1 cb hd.cur (by have := hd.nb; omega)).callX ?_
    rintro r H2 ⟨ob, cs, nm, M, rfl, hM, hd2, l1, l2, hr⟩
    simp (disch := omega) only [go_sem]
    exact ⟨(ob, cs, nm, M, H2), ⟨hM.low hd.nb, hd.trans hd2, l1, l2, hr⟩, Wk.of (by simp only [go_sem, ↓List.forall_mem_cons, List.not_mem_nil, false_implies, implies_true, and_true, true_and, and_self, ri_eq, Int.natCast_add, Int.cast_ofNat_Int]; try simp) rfl⟩
  rintro ⟨ob, cs, nm, M, H1⟩ ⟨hM, hd, l1, l2, hr⟩
  simp only at hM hd l1 l2 hr
  have hnb := hd.nb
  refine SW.seqI (fun y : Nat × List SV × (Nat → Nat) × List (List Int) × Heap => ⟨ofL [(3, .own y.1 0 y.2.2.2.1.length y.2.2.2.1.length 1 false)], y.2.2.2.2⟩)
    (fun y => MatH y.2.2.2.2 H.nb y.1 y.2.1 y.2.2.1 y.2.2.2.1 ∧ DS B cb H y.2.2.2.2 ∧ (1 ≤ y.2.2.2.1.length ∧ y.2.2.2.1.length ≤ 7) ∧ ∀ i, i < y.2.2.2.1.length → (mrow y.2.2.2.1 i).length ≤ 6) ?_ ?_
  · refine SW_of_vc4 [] 9 (fun H => H.map ob = some ⟨cs, false⟩) [2] Tryz.mixed _ _ _ (by kernel_rfl) ?_
    have wb := Tryz.l1Below_ok B hB 16 (by omega) H1 cb hd.cur
    simp (disch := omega) only [go_sem]
    refine wb.callX ?_
    rintro r H2 ⟨v, rfl, v0, v1, v2, hs⟩
    have hd2 := hd.trans hs.ds
    have hM2 := hM.fr (Nat.le_of_eq hs.nb.symm) (fun b b1 b2 => hs.map (by omega))
    clear hM hd hs
    have hlo := hM2.lo1
    have hnb2 := hd2.nb
    have ho := hM2.o
    have hcl : cs.length = M.length := hM2.ln
    have hrl : ∀ i, i < M.length → (mrow M i).length ≤ 6 := fun i hi => by rw [hr i hi]; omega
    rcases (by omega : v = 0 ∨ v = 1 ∨ v = 2 ∨ 3 ≤ v) with rfl | rfl | rfl | h3
    · obtain ⟨e, e2, r1, r2⟩ := hM2.row 0 (by omega)
      have n0 := hM2.lo2 0 (by omega)
      have hl0 := hr 0 (by omega)
      rw [hl0] at r1
      have hil : (ints (mrow M 0)).length = M.length := by rw [zh, hl0]
      have hst : (ints (mrow M 0)).set 0 (.val (.int .i64 1)) = ints ((mrow M 0).set 0 1) := by simp [ints]
      have hM3 := hM2.set (i := 0) (k := 0) (x := 1) (e2 := e2) (by omega)
      have hd3 := hd2.setF (nm 0) (by omega) (by omega) (some ⟨ints ((mrow M 0).set 0 1), e2⟩)
      have hml : (mset M 0 0 1).length = M.length := mset_length ..
      simp (disch := omega) only [go_sem, ho, r1, r2, hil, hst, hcl]
      exact ⟨(ob, cs, nm, mset M 0 0 1, _), ⟨hM3, hd3, by show 1 ≤ (mset M 0 0 1).length ∧ (mset M 0 0 1).length ≤ 7; omega, fun i hi => by show (mrow (mset M 0 0 1) i).length ≤ 6; rw [mset_row_length]; exact hrl i (by rw [← hml]; exact hi)⟩, Wk.of (by simp only [go_sem, ↓List.forall_mem_cons, List.not_mem_nil, false_implies, implies_true, and_true, true_and, and_self, ri_eq, Int.natCast_add, Int.cast_ofNat_Int, hml]; try simp) rfl⟩
    · have htk : List.take M.length cs = cs := List.take_of_length_le (by omega)
      have hml : (M ++ [[]]).length = M.length + 1 := by simp
      simp (disch := omega) only [go_sem, ho, hcl, htk, ze, zb, zc, za]
      have e1 : DS B cb H ((H2.push ⟨[], false⟩).push ⟨[.own H2.nb 0 0 0 1 false], false⟩) := (hd2.trans (DS.push hd2.cur (by omega) _)).trans (DS.push (DS.push hd2.cur (by omega) _).cur (by rw [za]; omega) _)
      have e2 := e1.setF ob (by omega) (by omega) none
      refine ⟨(H2.nb + 1 + 1, cs ++ [.own H2.nb 0 0 0 1 false], fun i => if i < M.length then nm i else H2.nb, M ++ [[]], _), ⟨hM2.snoc (ob' := H2.nb + 1 + 1) (r := H2.nb) (l := 0) (L := []) (e := false) (e2 := false) rfl ?_ ?_ (fun b b1 b2 b3 => ?_) ?_ ?_ ?_ (by omega), e2.trans (DS.push e2.cur (by simp only [zc, za]; omega) _), by show 1 ≤ (M ++ [[]]).length ∧ (M ++ [[]]).length ≤ 7; omega, fun i hi => ?_⟩, Wk.of (by simp only [go_sem, ↓List.forall_mem_cons, List.not_mem_nil, false_implies, implies_true, and_true, true_and, and_self, ri_eq, Int.natCast_add, Int.cast_ofNat_Int, hml]; try simp) rfl⟩
      · simp (disch := omega) only [ze, zb, zc, za, if_pos, ↓reduceIte]
      · simp (disch := omega) only [ze, zb, zc, za, if_pos, if_neg, ↓reduceIte]
        rfl
      · simp (disch := omega) only [ze, zb, zc, za, if_neg, ↓reduceIte]
      · simp only [zc, za]; omega
      · simp only [zc, za]; omega
      · simp only [zc, za]; omega
      · show (mrow (M ++ [[]]) i).length ≤ 6
        by_cases hlt : i < M.length
        · rw [mrow_lt hlt]; exact hrl i hlt
        · have hi : i < (M ++ [[]]).length := hi
          have : i = M.length := by omega
          rw [this, mrow_at]; simp
    · by_cases hm1 : 1 < M.length
      · have hp := DS.push hd2.cur (by omega) ⟨ints [1001, 7, -1001], false⟩
        have wp := Tryz.l1Pick_ok B hB [1001, 7, -1001] (by simp) (by simp) (H2.push ⟨ints [1001, 7, -1001], false⟩) cb H2.nb false false hp.cur (by rw [zb, if_pos rfl]) (by omega)
        obtain ⟨e, e2, r1, r2⟩ := hM2.row 0 (by omega)
        have n0 := hM2.lo2 0 (by omega)
        have hl0 := hr 0 (by omega)
        rw [hl0] at r1
        have hil : (ints (mrow M 0)).length = M.length := by rw [zh, hl0]
        simp (disch := omega) only [go_sem, ho, hcl]
        refine ⟨.own (nm 0) 0 M.length M.length 1 e, fun H3 h3 => ?_, ?_⟩
        · have h3 : H3.map ob = some ⟨cs, false⟩ := h3
          simp (disch := omega) only [go_sem, h3, r1]
        simp (disch := omega) only [go_sem, ho, hcl, zb]
        refine CallS.callN wp (PickQ.ne (by simp) hp.cur) ?_
        rintro r H3 ⟨v, rfl, hv, hs⟩
        have ho3 : H3.map ob = some ⟨cs, false⟩ := by rw [hs.map (by omega), zb, if_neg (by omega), ho]
        have hnb3 : H3.nb = H2.nb + 1 := hs.nb
        have hM3 := hM2.fr (H' := H3) (by omega) (fun b b1 b2 => by rw [hs.map (by omega), zb, if_neg (by omega)])
        have hd3 := (hd2.trans hp).trans hs.ds
        obtain ⟨f, f2, q1, q2⟩ := hM3.row 0 (by omega)
        have hst : (ints (mrow M 0)).set 1 (.val (.int .i64 v)) = ints ((mrow M 0).set 1 v) := by simp [ints]
        have hM4 := hM3.set (i := 0) (k := 1) (x := v) (e2 := f2) (by omega)
        have hd4 := hd3.setF (nm 0) (by omega) (by omega) (some ⟨ints ((mrow M 0).set 1 v), f2⟩)
        have hml : (mset M 0 1 v).length = M.length := mset_length ..
        have ho4 : (H3.set (nm 0) (some ⟨ints ((mrow M 0).set 1 v), f2⟩)).map ob = some ⟨cs, false⟩ := by rw [ze, if_neg (by omega), ho3]
        simp (disch := omega) only [go_sem, ho3, q2, hil, hst, ho4]
        exact ⟨(ob, cs, nm, mset M 0 1 v, _), ⟨hM4, hd4, by show 1 ≤ (mset M 0 1 v).length ∧ (mset M 0 1 v).length ≤ 7; omega, fun i hi => by show (mrow (mset M 0 1 v) i).length ≤ 6; rw [mset_row_length]; exact hrl i (by rw [← hml]; exact hi)⟩, Wk.of (by simp only [go_sem, ↓List.forall_mem_cons, List.not_mem_nil, false_implies, implies_true, and_true, true_and, and_self, ri_eq, Int.natCast_add, Int.cast_ofNat_Int, hml]; try simp) rfl⟩
      · simp (disch := omega) only [go_sem, ho, hcl]
        exact ⟨(ob, cs, nm, M, H2), ⟨hM2, hd2, by show 1 ≤ M.length ∧ M.length ≤ 7; omega, hrl⟩, Wk.of (by simp only [go_sem, ↓List.forall_mem_cons, List.not_mem_nil, false_implies, implies_true, and_true, true_and, and_self, ri_eq, Int.natCast_add, Int.cast_ofNat_Int]; try simp) rfl⟩
    · simp (disch := omega) only [go_sem]
      exact ⟨(ob, cs, nm, M, H2), ⟨hM2, hd2, by show 1 ≤ M.length ∧ M.length ≤ 7; omega, hrl⟩, Wk.of (by simp only [go_sem, ↓List.forall_mem_cons, List.not_mem_nil, false_implies, implies_true, and_true, true_and, and_self, ri_eq, Int.natCast_add, Int.cast_ofNat_Int]; try simp) rfl⟩
  · rintro ⟨ob, cs, nm, M, H1⟩ ⟨hM, hd, l2, hr⟩
    simp only at hM hd l2 hr
    have hfin : AQ B cb H (.own ob 0 M.length M.length 1 false) H1 := ⟨ob, cs, nm, M, rfl, hM, hd, l2, hr⟩
    refine SW_of_vc Tryz.mixed _ _ _ (by kernel_rfl) ?_
    simp (disch := omega) only [go_sem]
    exact hfin
end Go.Sh

/-
  The laws' own helpers: is the code long; are two lists the same.
-/
namespace Go.Sh
open Go Go.RowKit Go.Proofs

theorem Tryz.big_ok (B : List Int) (hB : B.length ≤ 9223372036854775807) : PCall Tryz.prog 22 [rby B] (.val (.bool (decide (1048576 < B.length)))) := by
  refine FCall.pcall (R := fun r _ => r = .val (.bool (decide (1048576 < B.length)))) ?_ 0 (by rintro r H rfl; exact zg)
  refine FCall.of_body Tryz.func22 rfl (by kernel_rfl) (by simp [Tryz.ntmps22]) ?_
  refine SW_of_vc Tryz.mixed _ _ _ (by kernel_rfl) ?_
  by_cases h : 1048576 < B.length
  · rw [decide_eq_true h]
    simp (disch := omega) only [go_sem, rby]
    exact Fin.val rfl
  · rw [decide_eq_false h]
    simp (disch := omega) only [go_sem, rby]
    exact Fin.val rfl
theorem Tryz.sameInts_ok (A : List Int) (hA : A.length ≤ 1048576) : PCall Tryz.prog 31 [ri A, ri A] (.val (.bool true)) := by
  refine FCall.pcall (R := fun r _ => r = .val (.bool true)) ?_ 0 (by rintro r H rfl; exact zg)
  refine FCall.of_body Tryz.func31 rfl (by kernel_rfl) (by simp [Tryz.ntmps31]) ?_
  refine SW_of_vc Tryz.mixed _ _ _ (by kernel_rfl) ?_
  simp (disch := omega) only [go_sem]
  refine LoopW.loop (fun k : Nat => ⟨ofL [(0, ri A), (1, ri A), (5, .val (.int .i64 k))], hp [] 0⟩) (fun k => k ≤ A.length) (fun k => A.length - k) 0 (by omega) (Wk.of (by simp only [go_sem, ↓List.forall_mem_cons, List.not_mem_nil, false_implies, implies_true, and_true, true_and, and_self, ri_eq, Int.natCast_add, Int.cast_ofNat_Int]; try simp) rfl) ?_
  intro k hk
  refine SW_of_vc Tryz.mixed _ _ _ (by kernel_rfl) ?_
  by_cases hlt : k < A.length
  · have gx : (ints A)[k]? = some (.val (.int .i64 (A.getD k 0))) := ints_get hlt
    have hil := zh A
    simp (disch := omega) only [go_sem, gx, hil, bne_self_eq_false]
    exact ⟨k + 1, by omega, by omega, Wk.of (by simp only [go_sem, ↓List.forall_mem_cons, List.not_mem_nil, false_implies, implies_true, and_true, true_and, and_self, ri_eq, Int.natCast_add, Int.cast_ofNat_Int]; try simp) rfl⟩
  · simp (disch := omega) only [go_sem]
    exact Fin.val rfl
end Go.Sh
