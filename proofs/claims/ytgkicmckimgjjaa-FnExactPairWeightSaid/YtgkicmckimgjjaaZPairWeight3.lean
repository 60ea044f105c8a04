/-
  Texts put together: N1, N2, N3, N4, N5, M0, S1, S2, S3, S4, BA2, X1, Z1, D3, J1, J2, C4, Bits, C5, Z2. What each proves stands at its own head, with its conditions.
-/
import Derived.Test.YtgkicmckimgjjaaZPairWeight2

/-
  Plain: components of a graph over 0 .. n-1, numbered by their first item; that the labels are determined; what a search leaves behind.
-/
namespace Go.Sh
set_option linter.unusedSimpArgs false
set_option linter.unusedVariables false
open Go Go.Proofs

inductive Rch (n : Nat) (B : Nat → Nat → Bool) : Nat → Nat → Prop
  | refl {x : Nat} : Rch n B x x
  | tail {x y z : Nat} : Rch n B x y → y < n → z < n → B y z = true → Rch n B x z
theorem Rch.trans {n : Nat} {B : Nat → Nat → Bool} {x y z : Nat} (h : Rch n B x y) (g : Rch n B y z) : Rch n B x z := by
  induction g with
  | refl => exact h
  | tail _ h1 h2 h3 ih => exact .tail ih h1 h2 h3
theorem Rch.one {n : Nat} {B : Nat → Nat → Bool} {x y : Nat} (h1 : x < n) (h2 : y < n) (h : B x y = true) : Rch n B x y := .tail .refl h1 h2 h
theorem Rch.symm {n : Nat} {B : Nat → Nat → Bool} (hs : ∀ x y, x < n → y < n → B x y = true → B y x = true) {x y : Nat} (h : Rch n B x y) : Rch n B y x := by
  induction h with
  | refl => exact .refl
  | tail _ h1 h2 h3 ih => exact (Rch.one h2 h1 (hs _ _ h1 h2 h3)).trans ih
theorem Rch.mono {n : Nat} {B B' : Nat → Nat → Bool} (hb : ∀ x y, x < n → y < n → B x y = true → Rch n B' x y) {x y : Nat} (h : Rch n B x y) : Rch n B' x y := by
  induction h with
  | refl => exact .refl
  | tail _ h1 h2 h3 ih => exact ih.trans (hb _ _ h1 h2 h3)
theorem Rch.lt {n : Nat} {B : Nat → Nat → Bool} {x y : Nat} (h : Rch n B x y) (hx : x < n) : y < n := by
  cases h with
  | refl => exact hx
  | tail _ _ h2 _ => exact h2
def RchK (n : Nat) (B : Nat → Nat → Bool) : Nat → Nat → Nat → Prop
  | 0, x, y => x = y
  | k + 1, x, z => RchK n B k x z ∨ ∃ y, y < n ∧ z < n ∧ RchK n B k x y ∧ B y z = true
theorem RchK.rch {n : Nat} {B : Nat → Nat → Bool} : ∀ {k x y : Nat}, RchK n B k x y → Rch n B x y
  | 0, x, y, h => by rw [RchK] at h; subst h; exact .refl
  | k + 1, x, z, h => by
    rw [RchK] at h
    rcases h with h | ⟨y, h1, h2, h3, h4⟩
    · exact RchK.rch h
    · exact .tail (RchK.rch h3) h1 h2 h4
theorem RchK.self {n : Nat} {B : Nat → Nat → Bool} : ∀ {k x : Nat}, RchK n B k x x
  | 0, x => rfl
  | k + 1, x => .inl RchK.self
theorem countP_lt {α : Type} {p q : α → Bool} : ∀ {l : List α} {i : α}, (∀ x ∈ l, p x = true → q x = true) → i ∈ l → q i = true → p i = false → l.countP p < l.countP q
  | [], i, _, h, _, _ => by simp at h
  | a :: l, i, hpq, h, hq, hp => by
    have hle : l.countP p ≤ l.countP q := List.countP_mono_left (fun x hx h => hpq x (by simp [hx]) h)
    rcases List.mem_cons.1 h with rfl | h
    · rw [List.countP_cons_of_neg (by simp [hp]), List.countP_cons_of_pos hq]; omega
    · have := countP_lt (fun x hx => hpq x (by simp [hx])) h hq hp
      rw [List.countP_cons, List.countP_cons]
      have := hpq a (by simp)
      cases hpa : p a with
      | false => simp; omega
      | true => simp [this hpa]; omega
open Classical in
theorem rch_closed {n : Nat} {B : Nat → Nat → Bool} {i : Nat} (hi : i < n) : ∀ k, (∀ x y, x < n → y < n → RchK n B k i x → B x y = true → RchK n B k i y) ∨ k + 1 ≤ (List.range n).countP (fun x => decide (RchK n B k i x))
  | 0 => by
    right
    have : 0 < (List.range n).countP (fun x => decide (RchK n B 0 i x)) := List.countP_pos_iff.2 ⟨i, by simpa using hi, by simp [RchK]⟩
    omega
  | k + 1 => by
    by_cases hc : ∀ x y, x < n → y < n → RchK n B k i x → B x y = true → RchK n B k i y
    · left
      intro x y hx hy h hb
      refine .inl (hc x y hx hy ?_ hb)
      rcases h with h | ⟨z, h1, h2, h3, h4⟩
      · exact h
      · exact hc z x h1 h2 h3 h4
    · right
      have ih := (rch_closed hi k).resolve_left hc
      have : ∃ x y, x < n ∧ y < n ∧ RchK n B k i x ∧ B x y = true ∧ ¬ RchK n B k i y := by
        refine Classical.byContradiction fun hn => hc fun x y hx hy h hb => Classical.byContradiction fun h2 => hn ⟨x, y, hx, hy, h, hb, h2⟩
      obtain ⟨x, y, hx, hy, h, hb, h2⟩ := this
      have := countP_lt (p := fun x => decide (RchK n B k i x)) (q := fun x => decide (RchK n B (k + 1) i x)) (l := List.range n) (i := y)
        (fun z _ hz => decide_eq_true (.inl (of_decide_eq_true hz))) (by simpa using hy) (decide_eq_true (.inr ⟨x, hx, hy, h, hb⟩)) (decide_eq_false h2)
      omega
theorem rch_bound {n : Nat} {B : Nat → Nat → Bool} {i x : Nat} (hi : i < n) (h : Rch n B i x) : RchK n B n i x := by
  have hc := (rch_closed (B := B) hi n).resolve_right (fun h => by
    have := List.countP_le_length (l := List.range n) (p := fun x => @decide (RchK n B n i x) (Classical.propDecidable _))
    simp only [List.length_range] at this
    omega)
  induction h with
  | refl => exact RchK.self
  | tail _ h1 h2 h3 ih => exact hc _ _ h1 h2 ih h3

/-- The labels of the components. -/
structure CompL (n : Nat) (B : Nat → Nat → Bool) (L : List Int) : Prop where
  len : L.length = n
  nn : ∀ x, x < n → 0 ≤ L.getD x 0
  can : ∀ x v, x < n → 0 ≤ v → v < L.getD x 0 → ∃ y, y < x ∧ L.getD y 0 = v
  iff : ∀ x y, x < n → y < n → (L.getD x 0 = L.getD y 0 ↔ Rch n B x y)
theorem list_ext {L L' : List Int} (h : L.length = L'.length) (g : ∀ x, x < L.length → L.getD x 0 = L'.getD x 0) : L = L' := by
  refine List.ext_getElem h fun i h1 h2 => ?_
  have := g i h1
  simpa [h1, h2] using this
theorem CompL.uniq {n : Nat} {B B' : Nat → Nat → Bool} {L L' : List Int} (h : CompL n B L) (h' : CompL n B' L') (hb : ∀ x y, x < n → y < n → (Rch n B x y ↔ Rch n B' x y)) : L = L' := by
  refine list_ext (h.len.trans h'.len.symm) (fun x hx => ?_)
  rw [h.len] at hx
  induction x using Nat.strongRecOn with
  | _ x ih =>
    rcases Int.lt_trichotomy (L.getD x 0) (L'.getD x 0) with hl | he | hl
    · obtain ⟨y, hy, e⟩ := h'.can x _ hx (h.nn x hx) hl
      have e2 := ih y hy (by omega)
      have := (h.iff y x (by omega) hx).1 (by omega)
      have := (h'.iff y x (by omega) hx).2 ((hb _ _ (by omega) hx).1 this)
      omega
    · exact he
    · obtain ⟨y, hy, e⟩ := h.can x _ hx (h'.nn x hx) hl
      have e2 := ih y hy (by omega)
      have := (h'.iff y x (by omega) hx).1 (by omega)
      have := (h.iff y x (by omega) hx).2 ((hb _ _ (by omega) hx).2 this)
      omega
open Classical in
noncomputable def comp (n : Nat) (B : Nat → Nat → Bool) : List Int := if h : ∃ L, CompL n B L then Classical.choose h else []
theorem CompL.eq {n : Nat} {B : Nat → Nat → Bool} {L : List Int} (h : CompL n B L) : L = comp n B := by
  have hex : ∃ L, CompL n B L := ⟨L, h⟩
  rw [comp, dif_pos hex]
  exact h.uniq (Classical.choose_spec hex) (fun _ _ _ _ => Iff.rfl)
theorem CompL.comp {n : Nat} {B : Nat → Nat → Bool} {L : List Int} (h : CompL n B L) : CompL n B (comp n B) := by rw [← h.eq]; exact h

/-- Items before i are labelled, with whole components. -/
structure PartL (n : Nat) (B : Nat → Nat → Bool) (i : Nat) (c : Int) (O : List Int) : Prop where
  len : O.length = n
  c0 : 0 ≤ c
  ci : c ≤ i
  done : ∀ x, x < i → x < n → 0 ≤ O.getD x 0
  rng : ∀ x, x < n → O.getD x 0 < c
  vals : ∀ v, 0 ≤ v → v < c → ∃ y, y < i ∧ y < n ∧ O.getD y 0 = v
  can : ∀ x v, x < n → 0 ≤ v → v < O.getD x 0 → ∃ y, y < x ∧ O.getD y 0 = v
  clo : ∀ x y, x < n → y < n → 0 ≤ O.getD x 0 → B x y = true → O.getD y 0 = O.getD x 0
  snd : ∀ x y, x < n → y < n → 0 ≤ O.getD x 0 → O.getD x 0 = O.getD y 0 → Rch n B x y
theorem getD_rep {n x : Nat} {a : Int} (h : x < n) : (List.replicate n a).getD x 0 = a := by simp [h]
theorem PartL.zero (n : Nat) (B : Nat → Nat → Bool) : PartL n B 0 0 (List.replicate n (-1)) where
  len := by simp
  c0 := by omega
  ci := by omega
  done x h := by omega
  rng x h := by rw [getD_rep h]; omega
  vals v h1 h2 := by omega
  can x v h h1 h2 := by rw [getD_rep h] at h2; omega
  clo x y h1 _ h2 := by rw [getD_rep h1] at h2; omega
  snd x y h1 _ h2 := by rw [getD_rep h1] at h2; omega
theorem PartL.skip {n : Nat} {B : Nat → Nat → Bool} {i : Nat} {c : Int} {O : List Int} (h : PartL n B i c O) (hi : 0 ≤ O.getD i 0) : PartL n B (i + 1) c O where
  len := h.len
  c0 := h.c0
  ci := by have := h.ci; omega
  done x hx hn := by
    rcases Nat.lt_succ_iff_lt_or_eq.1 hx with g | rfl
    · exact h.done x g hn
    · exact hi
  rng := h.rng
  vals v h1 h2 := by
    obtain ⟨y, g1, g2⟩ := h.vals v h1 h2
    exact ⟨y, by omega, g2⟩
  can := h.can
  clo := h.clo
  snd := h.snd
theorem PartL.path {n : Nat} {B : Nat → Nat → Bool} {i : Nat} {c : Int} {O : List Int} (h : PartL n B i c O) {x y : Nat} (hr : Rch n B x y) (h0 : 0 ≤ O.getD x 0) : O.getD y 0 = O.getD x 0 := by
  induction hr with
  | refl => rfl
  | tail _ h1 h2 h3 ih => rw [h.clo _ _ h1 h2 (by rw [ih]; exact h0) h3, ih]
/-- O' is O with the component of i labelled c. -/
structure NewL (n : Nat) (B : Nat → Nat → Bool) (c : Int) (i : Nat) (O O' : List Int) : Prop where
  len : O'.length = n
  new : ∀ x, x < n → Rch n B i x → O'.getD x 0 = c
  old : ∀ x, x < n → ¬ Rch n B i x → 0 ≤ O.getD x 0 → O'.getD x 0 = O.getD x 0
  neg : ∀ x, x < n → ¬ Rch n B i x → O.getD x 0 < 0 → O'.getD x 0 < 0
theorem PartL.unl {n : Nat} {B : Nat → Nat → Bool} (hs : ∀ x y, x < n → y < n → B x y = true → B y x = true) {i : Nat} {c : Int} {O : List Int} (h : PartL n B i c O) {k : Nat} (h0 : O.getD k 0 < 0) {x : Nat} (hr : Rch n B k x) : O.getD x 0 < 0 := by
  refine Int.not_le.1 fun hn => ?_
  have := h.path (hr.symm hs) hn
  omega
theorem PartL.step {n : Nat} {B : Nat → Nat → Bool} (hs : ∀ x y, x < n → y < n → B x y = true → B y x = true) {i : Nat} {c : Int} {O O' : List Int} (h : PartL n B i c O) (hi : i < n) (h0 : O.getD i 0 < 0) (g : NewL n B c i O O') : PartL n B (i + 1) (c + 1) O' := by
  have hun : ∀ x, Rch n B i x → O.getD x 0 < 0 := fun x hr => h.unl hs h0 hr
  have hkeep : ∀ x, x < n → 0 ≤ O.getD x 0 → O'.getD x 0 = O.getD x 0 := fun x hx hn => g.old x hx (fun hr => by have := hun x hr; omega) hn
  have hback : ∀ x, x < n → ¬ Rch n B i x → 0 ≤ O'.getD x 0 → O'.getD x 0 = O.getD x 0 ∧ 0 ≤ O.getD x 0 := by
    intro x hx hr hn
    by_cases h1 : 0 ≤ O.getD x 0
    · exact ⟨hkeep x hx h1, h1⟩
    · have := g.neg x hx hr (by omega); omega
  have hc0 := h.c0
  have hci := h.ci
  refine ⟨g.len, by omega, by omega, ?_, ?_, ?_, ?_, ?_, ?_⟩
  · intro x hx hn
    rcases Nat.lt_succ_iff_lt_or_eq.1 hx with k | rfl
    · have := h.done x k hn
      rw [hkeep x hn this]; exact this
    · rw [g.new x hn .refl]; omega
  · intro x hx
    by_cases hr : Rch n B i x
    · rw [g.new x hx hr]; omega
    · by_cases hn : 0 ≤ O'.getD x 0
      · have := hback x hx hr hn
        have := h.rng x hx
        omega
      · omega
  · intro v h1 h2
    by_cases hv : v = c
    · exact ⟨i, by omega, hi, by rw [g.new i hi .refl, hv]⟩
    · obtain ⟨y, k1, k2, k3⟩ := h.vals v h1 (by omega)
      exact ⟨y, by omega, k2, by rw [hkeep y k2 (by omega), k3]⟩
  · intro x v hx h1 h2
    by_cases hr : Rch n B i x
    · rw [g.new x hx hr] at h2
      obtain ⟨y, k1, k2, k3⟩ := h.vals v h1 h2
      have : ¬ x < i := fun hl => by have := h.done x hl hx; have := hun x hr; omega
      exact ⟨y, by omega, by rw [hkeep y k2 (by omega), k3]⟩
    · have hb := hback x hx hr (by omega)
      rw [hb.1] at h2
      obtain ⟨y, k1, k2⟩ := h.can x v hx h1 h2
      exact ⟨y, k1, by rw [hkeep y (by omega) (by omega), k2]⟩
  · intro x y hx hy h1 hb
    by_cases hr : Rch n B i x
    · rw [g.new x hx hr, g.new y hy (.tail hr hx hy hb)]
    · have hq := hback x hx hr h1
      have := h.clo x y hx hy hq.2 hb
      rw [hkeep y hy (by omega)]
      omega
  · intro x y hx hy h1 he
    by_cases hr : Rch n B i x
    · by_cases hr2 : Rch n B i y
      · exact (hr.symm hs).trans hr2
      · have := g.new x hx hr
        have := hback y hy hr2 (by omega)
        have := h.rng y hy
        omega
    · have hq := hback x hx hr h1
      by_cases hr2 : Rch n B i y
      · have := g.new y hy hr2
        have := h.rng x hx
        omega
      · have := hback y hy hr2 (by omega)
        exact h.snd x y hx hy hq.2 (by omega)
theorem PartL.final {n : Nat} {B : Nat → Nat → Bool} {i : Nat} {c : Int} {O : List Int} (h : PartL n B i c O) (hi : n ≤ i) : CompL n B O where
  len := h.len
  nn x hx := h.done x (by omega) hx
  can := h.can
  iff x y hx hy := ⟨fun e => h.snd x y hx hy (h.done x (by omega) hx) e, fun r => (h.path r (h.done x (by omega) hx)).symm⟩

/-! ### The search that calls itself -/
structure DfsL (n : Nat) (B : Nat → Nat → Bool) (c : Int) (i : Nat) (O O' : List Int) : Prop where
  len : O'.length = n
  self : O'.getD i 0 = c
  keep : ∀ x, x < n → 0 ≤ O.getD x 0 → O'.getD x 0 = O.getD x 0
  new : ∀ x, x < n → O.getD x 0 < 0 → O'.getD x 0 < 0 ∨ (O'.getD x 0 = c ∧ Rch n B i x)
  clo : ∀ x y, x < n → y < n → O.getD x 0 < 0 → 0 ≤ O'.getD x 0 → B x y = true → 0 ≤ O'.getD y 0
structure DfsK (n : Nat) (B : Nat → Nat → Bool) (c : Int) (i : Nat) (O : List Int) (k : Nat) (O' : List Int) : Prop where
  len : O'.length = n
  self : O'.getD i 0 = c
  keep : ∀ x, x < n → 0 ≤ O.getD x 0 → O'.getD x 0 = O.getD x 0
  new : ∀ x, x < n → O.getD x 0 < 0 → O'.getD x 0 < 0 ∨ (O'.getD x 0 = c ∧ Rch n B i x)
  clo : ∀ x y, x < n → y < n → x ≠ i → O.getD x 0 < 0 → 0 ≤ O'.getD x 0 → B x y = true → 0 ≤ O'.getD y 0
  cli : ∀ y, y < n → y < k → B i y = true → 0 ≤ O'.getD y 0
theorem getD_set {L : List Int} {i x : Nat} {a : Int} (hi : i < L.length) : (L.set i a).getD x 0 = if x = i then a else L.getD x 0 := by
  simp only [List.getD_eq_getElem?_getD, List.getElem?_set]
  by_cases h : i = x
  · subst h; simp [hi]
  · have : ¬ x = i := fun e => h e.symm
    simp [h, this]
theorem DfsK.start {n : Nat} {B : Nat → Nat → Bool} {c : Int} {i : Nat} {O : List Int} (hl : O.length = n) (hi : i < n) (h0 : O.getD i 0 < 0) : DfsK n B c i O 0 (O.set i c) where
  len := by simpa using hl
  self := by rw [getD_set (by omega), if_pos rfl]
  keep x hx h := by
    rw [getD_set (by omega), if_neg (fun e => by subst e; omega)]
  new x hx h := by
    rw [getD_set (by omega)]
    by_cases e : x = i
    · subst e; rw [if_pos rfl]; exact .inr ⟨rfl, .refl⟩
    · rw [if_neg e]; exact .inl h
  clo x y hx hy hne h h2 hb := by
    rw [getD_set (by omega), if_neg hne] at h2; omega
  cli y _ h := by omega
theorem DfsK.skip {n : Nat} {B : Nat → Nat → Bool} {c : Int} {i k : Nat} {O O' : List Int} (h : DfsK n B c i O k O') (hk : B i k = true → 0 ≤ O'.getD k 0) : DfsK n B c i O (k + 1) O' := by
  refine ⟨h.len, h.self, h.keep, h.new, h.clo, fun y hy hlt hb => ?_⟩
  rcases Nat.lt_succ_iff_lt_or_eq.1 hlt with g | rfl
  · exact h.cli y hy g hb
  · exact hk hb
theorem DfsK.step {n : Nat} {B : Nat → Nat → Bool} {c : Int} (hc : 0 ≤ c) {i k : Nat} {O O1 O2 : List Int} (hi : i < n) (hk : k < n) (h : DfsK n B c i O k O1) (hb : B i k = true) (hneg : O1.getD k 0 < 0) (g : DfsL n B c k O1 O2) : DfsK n B c i O (k + 1) O2 where
  len := g.len
  self := by rw [g.keep i hi (by rw [h.self]; exact hc), h.self]
  keep x hx h1 := by rw [g.keep x hx (by rw [h.keep x hx h1]; exact h1), h.keep x hx h1]
  new x hx h1 := by
    rcases h.new x hx h1 with g1 | ⟨g1, g2⟩
    · rcases g.new x hx g1 with g3 | ⟨g3, g4⟩
      · exact .inl g3
      · exact .inr ⟨g3, (Rch.one hi hk hb).trans g4⟩
    · exact .inr ⟨by rw [g.keep x hx (by omega), g1], g2⟩
  clo x y hx hy hne h1 h2 hb := by
    by_cases h3 : 0 ≤ O1.getD x 0
    · have := h.clo x y hx hy hne h1 h3 hb
      rw [g.keep y hy this]; exact this
    · exact g.clo x y hx hy (by omega) h2 hb
  cli y hy hlt hb := by
    rcases Nat.lt_succ_iff_lt_or_eq.1 hlt with k1 | rfl
    · have := h.cli y hy k1 hb
      rw [g.keep y hy this]; exact this
    · rw [g.self]; exact hc
theorem DfsK.final {n : Nat} {B : Nat → Nat → Bool} {c : Int} {i k : Nat} {O O' : List Int} (h : DfsK n B c i O k O') (hk : n ≤ k) : DfsL n B c i O O' where
  len := h.len
  self := h.self
  keep := h.keep
  new := h.new
  clo x y hx hy h1 h2 hb := by
    by_cases e : x = i
    · subst e; exact h.cli y hy (by omega) hb
    · exact h.clo x y hx hy e h1 h2 hb
def negs (n : Nat) (O : List Int) : Nat := (List.range n).countP fun x => decide (O.getD x 0 < 0)
theorem DfsK.negs {n : Nat} {B : Nat → Nat → Bool} {c : Int} (hc : 0 ≤ c) {i k : Nat} {O O' : List Int} (h : DfsK n B c i O k O') (hi : i < n) (h0 : O.getD i 0 < 0) : negs n O' < negs n O := by
  refine countP_lt (i := i) (fun x hx hd => ?_) (by simpa using hi) (decide_eq_true h0) (decide_eq_false (by rw [h.self]; omega))
  have hx : x < n := by simpa using hx
  have := of_decide_eq_true hd
  refine decide_eq_true (Int.not_le.1 fun hn => ?_)
  rw [h.keep x hx hn] at this
  omega
theorem negs_pos {n i : Nat} {O : List Int} (hi : i < n) (h : O.getD i 0 < 0) : 0 < negs n O := List.countP_pos_iff.2 ⟨i, by simpa using hi, decide_eq_true h⟩
theorem DfsL.newL {n : Nat} {B : Nat → Nat → Bool} (hs : ∀ x y, x < n → y < n → B x y = true → B y x = true) {i j : Nat} {c : Int} {O O' : List Int} (h : PartL n B j c O) (hi : i < n) (h0 : O.getD i 0 < 0) (g : DfsL n B c i O O') : NewL n B c i O O' where
  len := g.len
  new x hx hr := by
    have hun : ∀ x, Rch n B i x → O.getD x 0 < 0 := fun x hr => h.unl hs h0 hr
    induction hr with
    | refl => exact g.self
    | tail h1 h2 h3 h4 ih =>
      have e := ih h2
      have hc0 := h.c0
      have := g.clo _ _ h2 h3 (hun _ h1) (by omega) h4
      rcases g.new _ h3 (hun _ (.tail h1 h2 h3 h4)) with k | k
      · omega
      · exact k.1
  old x hx _ h1 := g.keep x hx h1
  neg x hx hr h1 := by
    rcases g.new x hx h1 with k | k
    · exact k
    · exact absurd k.2 hr

/-! ### The search by rounds -/
structure SpI (n : Nat) (B : Nat → Nat → Bool) (c : Int) (i : Nat) (O : List Int) (s a b : Nat) (O' : List Int) : Prop where
  len : O'.length = n
  all : ∀ x, x < n → O'.getD x 0 = O.getD x 0 ∨ (O'.getD x 0 = c ∧ Rch n B i x)
  rk : ∀ x, x < n → RchK n B s i x → O'.getD x 0 = c
  rows : ∀ z y, z < a → z < n → y < n → RchK n B s i z → B z y = true → O'.getD y 0 = c
  row : ∀ y, y < b → y < n → RchK n B s i a → B a y = true → O'.getD y 0 = c
theorem SpI.start {n : Nat} {B : Nat → Nat → Bool} {c : Int} {i : Nat} {O : List Int} (hl : O.length = n) (hi : i < n) : SpI n B c i O 0 0 0 (O.set i c) where
  len := by simpa using hl
  all x hx := by
    rw [getD_set (by omega)]
    by_cases e : x = i
    · subst e; rw [if_pos rfl]; exact .inr ⟨rfl, .refl⟩
    · rw [if_neg e]; exact .inl rfl
  rk x hx hr := by
    rw [RchK] at hr; subst hr
    rw [getD_set (by omega), if_pos rfl]
  rows z y h := by omega
  row y h := by omega
theorem SpI.skip {n : Nat} {B : Nat → Nat → Bool} {c : Int} {i s a b : Nat} {O O' : List Int} (h : SpI n B c i O s a b O') (ha : a < n) (hn : ¬ (O'.getD a 0 = c ∧ B a b = true)) : SpI n B c i O s a (b + 1) O' := by
  refine ⟨h.len, h.all, h.rk, h.rows, fun y hy hyn hr hb => ?_⟩
  rcases Nat.lt_succ_iff_lt_or_eq.1 hy with g | rfl
  · exact h.row y g hyn hr hb
  · exact absurd ⟨h.rk a ha hr, hb⟩ hn
theorem SpI.put {n : Nat} {B : Nat → Nat → Bool} {c : Int} {i s a b : Nat} {O O' : List Int} (hr : ∀ x, x < n → O.getD x 0 < c) (h : SpI n B c i O s a b O') (ha : a < n) (hb : b < n) (h1 : O'.getD a 0 = c) (h2 : B a b = true) : SpI n B c i O s a (b + 1) (O'.set b c) := by
  have hl := h.len
  have g : ∀ x, (O'.set b c).getD x 0 = if x = b then c else O'.getD x 0 := fun x => getD_set (by omega)
  have ra : Rch n B i a := by
    rcases h.all a ha with e | e
    · have := hr a ha; omega
    · exact e.2
  have hk : ∀ x, O'.getD x 0 = c → (O'.set b c).getD x 0 = c := fun x e => by
    rw [g]; split
    · rfl
    · exact e
  refine ⟨by simpa using hl, fun x hx => ?_, fun x hx hr => hk x (h.rk x hx hr), fun z y h3 h4 h5 h6 h7 => hk y (h.rows z y h3 h4 h5 h6 h7), fun y hy hyn h3 h4 => ?_⟩
  · rw [g]
    by_cases e : x = b
    · subst e; rw [if_pos rfl]; exact .inr ⟨rfl, .tail ra ha hb h2⟩
    · rw [if_neg e]; exact h.all x hx
  · rcases Nat.lt_succ_iff_lt_or_eq.1 hy with k | rfl
    · exact hk y (h.row y k hyn h3 h4)
    · rw [g, if_pos rfl]
theorem SpI.next {n : Nat} {B : Nat → Nat → Bool} {c : Int} {i s a b : Nat} {O O' : List Int} (h : SpI n B c i O s a b O') (hb : n ≤ b) : SpI n B c i O s (a + 1) 0 O' := by
  refine ⟨h.len, h.all, h.rk, fun z y h1 h2 h3 h4 h5 => ?_, fun y hy => by omega⟩
  rcases Nat.lt_succ_iff_lt_or_eq.1 h1 with g | rfl
  · exact h.rows z y g h2 h3 h4 h5
  · exact h.row y (by omega) h3 h4 h5
theorem SpI.round {n : Nat} {B : Nat → Nat → Bool} {c : Int} {i s a b : Nat} {O O' : List Int} (h : SpI n B c i O s a b O') (ha : n ≤ a) : SpI n B c i O (s + 1) 0 0 O' := by
  refine ⟨h.len, h.all, fun x hx hr => ?_, fun z y h1 => by omega, fun y h1 => by omega⟩
  rcases hr with hr | ⟨y, h1, h2, h3, h4⟩
  · exact h.rk x hx hr
  · exact h.rows y x (by omega) h1 h2 h3 h4
theorem SpI.newL {n : Nat} {B : Nat → Nat → Bool} {c : Int} {i a b : Nat} {O O' : List Int} (hi : i < n) (h : SpI n B c i O n a b O') : NewL n B c i O O' where
  len := h.len
  new x hx hr := h.rk x hx (rch_bound hi hr)
  old x hx hr _ := by
    rcases h.all x hx with e | e
    · exact e
    · exact absurd e.2 hr
  neg x hx hr h0 := by
    rcases h.all x hx with e | e
    · omega
    · exact absurd e.2 hr
open Classical in
theorem PartL.ex {n : Nat} {B : Nat → Nat → Bool} (hs : ∀ x y, x < n → y < n → B x y = true → B y x = true) : ∀ i, i ≤ n → ∃ c O, PartL n B i c O
  | 0, _ => ⟨0, _, .zero n B⟩
  | i + 1, hi => by
    obtain ⟨c, O, h⟩ := PartL.ex hs i (by omega)
    by_cases h0 : 0 ≤ O.getD i 0
    · exact ⟨c, O, h.skip h0⟩
    · have e : ∀ x, x < n → ((List.range n).map fun x => if Rch n B i x then c else O.getD x 0).getD x 0 = if Rch n B i x then c else O.getD x 0 := by
        intro x hx
        simp [hx]
      refine ⟨c + 1, _, h.step hs (by omega) (by omega) (O' := (List.range n).map fun x => if Rch n B i x then c else O.getD x 0) ⟨by simp, fun x hx hr => ?_, fun x hx hr _ => ?_, fun x hx hr h1 => ?_⟩⟩
      · rw [e x hx, if_pos hr]
      · rw [e x hx, if_neg hr]
      · rw [e x hx, if_neg hr]; exact h1
theorem comp_ok {n : Nat} {B : Nat → Nat → Bool} (hs : ∀ x y, x < n → y < n → B x y = true → B y x = true) : CompL n B (comp n B) := by
  obtain ⟨c, O, h⟩ := PartL.ex hs n (Nat.le_refl _)
  exact (h.final (Nat.le_refl _)).comp
theorem comp_congr {n : Nat} {B B' : Nat → Nat → Bool} {L L' : List Int} (h : CompL n B L) (h' : CompL n B' L') (h1 : ∀ x y, x < n → y < n → B x y = true → Rch n B' x y) (h2 : ∀ x y, x < n → y < n → B' x y = true → Rch n B x y) : comp n B = comp n B' := by
  rw [← h.eq, ← h'.eq]
  exact h.uniq h' (fun x y _ _ => ⟨fun r => r.mono h1, fun r => r.mono h2⟩)
end Go.Sh

/-
  Contracts: a square of zeros; the components of a graph of positive weights. Of the program.
-/
namespace Go.Sh
set_option linter.unusedSimpArgs false
set_option linter.unusedVariables false
open Go Go.Proofs

def zs (n : Nat) : List (List Int) := List.replicate n (List.replicate n 0)
theorem zs_length (n : Nat) : (zs n).length = n := by simp [zs]
theorem zs_row {n i : Nat} (h : i < n) : mrow (zs n) i = List.replicate n 0 := by simp [zs, mrow, h]
theorem zs_at {n i k : Nat} : mat (zs n) i k = 0 := by
  simp only [zs, mat, mrow, List.getD_eq_getElem?_getD, List.getElem?_replicate]
  by_cases h : i < n
  · by_cases h2 : k < n <;> simp [h, h2]
  · simp [h]
def outerQ (n k : Nat) : List SV := (List.range n).map fun i => if i < k then .own (i + 1) 0 n n 1 true else .val (.slice none 0 0)
theorem outerQ_length (n k : Nat) : (outerQ n k).length = n := by simp [outerQ]
theorem outerQ_zero (n : Nat) : outerQ n 0 = List.replicate n (.val (.slice none 0 0)) := by
  apply List.ext_getElem <;> simp [outerQ]
theorem outerQ_get {n k i : Nat} (h : i < n) : (outerQ n k)[i]? = some (if i < k then .own (i + 1) 0 n n 1 true else .val (.slice none 0 0)) := by
  simp only [outerQ, List.getElem?_map]
  rw [List.getElem?_range h]; rfl
theorem outerQ_set {n k : Nat} (h : k < n) : (outerQ n k).set k (.own (k + 1) 0 n n 1 true) = outerQ n (k + 1) := by
  apply List.ext_getElem?
  intro i
  by_cases hi : i < n
  · rw [outerQ_get hi, List.getElem?_set, outerQ_length, outerQ_get hi]
    by_cases hk : k = i
    · subst hk; simp [h]
    · by_cases h1 : i < k
      · simp [hk, h1, show i < k + 1 by omega]
      · simp [hk, h1, show ¬ i < k + 1 by omega]
  · rw [List.getElem?_eq_none (by rw [List.length_set, outerQ_length]; omega), List.getElem?_eq_none (by rw [outerQ_length]; omega)]
def HQ (n k : Nat) : Heap := ⟨fun x => if x = 0 then some ⟨outerQ n k, true⟩ else if x ≤ k then some ⟨ints (List.replicate n 0), true⟩ else none, k + 1⟩
def HQp (n k : Nat) : Heap := (HQ n k).push ⟨ints (List.replicate n 0), true⟩
theorem HQ_nb (n k : Nat) : (HQ n k).nb = k + 1 := rfl
theorem HQ_map (n k : Nat) : (HQ n k).map 0 = some ⟨outerQ n k, true⟩ := rfl
theorem HQp_map (n k : Nat) : (HQp n k).map 0 = some ⟨outerQ n k, true⟩ := by
  simp only [HQp, Heap.push, HQ]
  rw [if_neg (by omega)]
  rfl
theorem HQp_set {n k : Nat} : (HQp n k).set 0 (some ⟨outerQ n (k + 1), true⟩) = HQ n (k + 1) := by
  refine Heap.ext' (fun x => ?_) rfl
  simp only [HQp, HQ, Heap.push, Heap.set]
  by_cases h0 : x = 0
  · simp [h0]
  · by_cases h1 : x = k + 1
    · simp [h1]
    · by_cases h2 : x ≤ k
      · simp [h0, h1, h2, show x ≤ k + 1 by omega]
      · simp [h0, h1, h2, show ¬ x ≤ k + 1 by omega]
theorem HQ_zero (n : Nat) : HQ n 0 = hp [(0, ⟨List.replicate n (.val (.slice none 0 0)), true⟩)] 1 := by
  refine Heap.ext' (fun x => ?_) rfl
  simp only [HQ, hp, hmap, outerQ_zero]
  by_cases h0 : x = 0
  · simp [h0]
  · simp [h0]
theorem outerQ_nr (n k : Nat) : noRowL (outerQ n k) = true := by
  unfold outerQ
  generalize List.range n = l
  induction l with
  | nil => rfl
  | cons a l ih =>
    simp only [List.map_cons, noRowL, ih, Bool.and_true]
    split <;> rfl
theorem HQ_nr (n k : Nat) : nrHeap (HQ n k) := by
  intro b blk hb
  simp only [HQ] at hb
  split at hb
  · simp at hb; subst hb; exact outerQ_nr n k
  · split at hb
    · simp at hb; subst hb; exact noRowL_ints _
    · simp at hb
theorem HQ_res (n : Nat) : MatRes (mi (zs n)) (.own 0 0 n n 1 true) (HQ n n) := by
  have hl : (mi (zs n)).length = n := by rw [mi_length, zs_length]
  refine ⟨0, 0, n, true, _, by rw [hl], HQ_map n n, by rw [hl, outerQ_length]; omega, mi_vals _, fun i => i + 1, fun _ => 0, fun i i' _ _ h => by simpa using h, fun i _ => by simp, fun i hi => ?_⟩
  rw [hl] at hi
  have hr : rowAt (mi (zs n)) i = ints (List.replicate n 0) := by rw [mi_row (by rwa [zs_length]), zs_row hi]
  refine ⟨n, true, ⟨ints (List.replicate n 0), true⟩, ?_, ?_, ?_, ?_⟩
  · rw [hr, Nat.zero_add, outerQ_get hi, if_pos hi, ints_length, List.length_replicate]
  · simp only [HQ]
    rw [if_neg (by omega), if_pos (by omega)]
  · rw [hr]; simp
  · rw [hr]; simp

set_option maxHeartbeats 1000000 in
theorem Try.square_f (n : Nat) (hn : n ≤ 1048576) : FCall Try.prog 64 [.val (.int .i64 n)] (MatRes (mi (zs n))) := by
  refine FCall.of_body Try.func64 rfl (by kernel_rfl) (by simp [Try.ntmps64]) ?_
  refine SW_of_vc Try.mixed _ _ _ (by kernel_rfl) ?_
  simp (disch := omega) only [Try.ntmps64, Try.results64, go_sem]
  refine LoopW.loop (fun k : Nat => ⟨ofL [(0, .val (.int .i64 n)), (3, .own 0 0 n n 1 true), (8, .val (.int .i64 n)), (9, .val (.int .i64 k))], HQ n k⟩) (fun k => k ≤ n) (fun k => n - k) 0 (by omega)
    (Wk.of (by simp only [go_sem, ↓List.forall_mem_cons, List.not_mem_nil, false_implies, implies_true, and_true, true_and, and_self, ri_eq, Int.natCast_add, Int.cast_ofNat_Int]; try simp) (by rw [HQ_zero])) ?_
  intro k hk
  have ho := outerQ_length n k
  refine SW_of_vc Try.mixed _ _ _ (by kernel_rfl) ?_
  by_cases hlt : k < n
  · have hos := outerQ_set hlt
    have e : (HQ n k).push ⟨ints (List.replicate n 0), true⟩ = HQp n k := rfl
    simp (disch := omega) only [Try.ntmps64, Try.results64, go_sem, HQ_nb, e, HQp_map, ho, hos, HQp_set]
    exact ⟨k + 1, by omega, by omega, Wk.of (by simp only [go_sem, ↓List.forall_mem_cons, List.not_mem_nil, false_implies, implies_true, and_true, true_and, and_self, ri_eq, Int.natCast_add, Int.cast_ofNat_Int]; try simp) rfl⟩
  · obtain rfl : k = n := by omega
    simp (disch := omega) only [Try.ntmps64, Try.results64, go_sem]
    exact ⟨HQ k k, ⟨rfl, fun _ => .inr rfl⟩, rfl, HQ_nr k _, HQ_res k⟩
theorem Try.square_one (n : Nat) (hn : n ≤ 1048576) : FCall Try.prog 64 [.val (.int .i64 n)] (MatOne (mi (zs n))) := (Try.square_f n hn).mat

/-! ### The search -/
def pB (M : List (List Int)) (x y : Nat) : Bool := decide (0 < mat M x y)
theorem WM.sym {M : List (List Int)} (h : WM M) : ∀ x y, x < M.length → y < M.length → pB M x y = true → pB M y x = true := by
  intro x y hx hy hb
  have := (h.2.2.1 x y hx hy).2
  rw [pB] at hb ⊢
  rw [← this]; exact hb
def vClos : SV := .clos (.func 175) [] [.optr 3 0, .optr 2 0, .optr 0 0, .optr 4 0]
def vHeap (M : List (List Int)) (O : List Int) (c : Int) : List (Nat × Blk) := [(4, ⟨[vClos], true⟩), (3, ⟨[.val (.int .i64 c)], true⟩), (2, ⟨[.own 1 0 M.length M.length 1 true], true⟩), (1, ⟨ints O, true⟩), (0, ⟨[rr M], true⟩)]

set_option maxHeartbeats 4000000 in
theorem Try.visit_ok {M : List (List Int)} (hw : WM M) {c : Int} (hc : 0 ≤ c) : ∀ (fu : Nat) (O : List Int) (i : Nat), O.length = M.length → i < M.length → O.getD i 0 < 0 → negs M.length O ≤ fu →
    CallS Try.prog 175 [.val (.int .i64 i), .optr 3 0, .optr 2 0, .optr 0 0, .optr 4 0] (hp (vHeap M O c) 5) (fun r H' => ∃ O', r = .tup [] ∧ H' = hp (vHeap M O' c) 5 ∧ DfsL M.length (pB M) c i O O')
  | 0, O, i, hl, hi, h0, hf => by have := negs_pos hi h0; omega
  | fu + 1, O, i, hl, hi, h0, hf => by
    have hln := hw.1
    have hri := hw.2.1 i hi
    refine CallS.of_body Try.func175 rfl (by kernel_rfl) (by simp [Try.ntmps175]) ?_
    refine SW_of_vc Try.mixed _ _ _ (by kernel_rfl) ?_
    rw [vHeap]
    simp (disch := omega) only [Try.ntmps175, Try.results175, go_sem, rr_eq, hl, rows_get, hri]
    refine LoopW.loop (fun p : Nat × List Int => ⟨ofL [(1, .optr 3 0), (2, .optr 2 0), (3, .optr 0 0), (4, .optr 4 0), (15, .row M.length false (ints (mrow M i))), (16, .val (.int .i64 M.length)), (17, .val (.int .i64 p.1))], hp (vHeap M p.2 c) 5⟩)
      (fun p => p.1 ≤ M.length ∧ DfsK M.length (pB M) c i O p.1 p.2) (fun p => M.length - p.1) (0, O.set i c) ⟨by simp, .start hl hi h0⟩ (Wk.of (by simp only [go_sem, ↓List.forall_mem_cons, List.not_mem_nil, false_implies, implies_true, and_true, true_and, and_self, ri_eq, Int.natCast_add, Int.cast_ofNat_Int, rr_eq, hri]; try simp) rfl) ?_
    rintro ⟨k, O1⟩ ⟨hk, hd⟩
    simp only at hk hd
    have hl1 := hd.len
    refine SW_of_vc Try.mixed _ _ _ (by kernel_rfl) ?_
    rw [vHeap]
    by_cases hlt : k < M.length
    · have g1 : (ints (mrow M i))[k]? = some (.val (.int .i64 (mat M i k))) := ints_get' hri hlt
      have g2 : (ints O1)[k]? = some (.val (.int .i64 (O1.getD k 0))) := ints_get' hl1 hlt
      obtain ⟨a, ha⟩ : ∃ a, mat M i k = a := ⟨_, rfl⟩
      obtain ⟨b, hb⟩ : ∃ b, O1.getD k 0 = b := ⟨_, rfl⟩
      have hpb : pB M i k = decide (0 < a) := by rw [pB, ha]
      rw [ha] at g1
      rw [hb] at g2
      by_cases h1 : 0 < a
      · by_cases h2 : b < 0
        · have w := Try.visit_ok hw hc fu O1 k hl1 hlt (by omega) (by have := hd.negs hc hi h0; omega)
          rw [vHeap, vClos] at w
          simp (disch := omega) only [Try.ntmps175, Try.results175, go_sem, vClos, g1, g2, hl1, ints_length]
          refine w.callX ?_
          rintro r H' ⟨O2, rfl, rfl, hd2⟩
          simp (disch := omega) only [Try.ntmps175, Try.results175, go_sem]
          exact ⟨(k + 1, O2), ⟨hlt, hd.step hc hi hlt (by rw [hpb]; exact decide_eq_true h1) (by omega) hd2⟩, by show M.length - (k + 1) < M.length - k; omega, Wk.of (by simp only [go_sem, ↓List.forall_mem_cons, List.not_mem_nil, false_implies, implies_true, and_true, true_and, and_self, ri_eq, Int.natCast_add, Int.cast_ofNat_Int]; try simp) rfl⟩
        · simp (disch := omega) only [Try.ntmps175, Try.results175, go_sem, vClos, g1, g2, hl1, ints_length]
          exact ⟨(k + 1, O1), ⟨hlt, hd.skip (fun _ => by omega)⟩, by show M.length - (k + 1) < M.length - k; omega, Wk.of (by simp only [go_sem, ↓List.forall_mem_cons, List.not_mem_nil, false_implies, implies_true, and_true, true_and, and_self, ri_eq, Int.natCast_add, Int.cast_ofNat_Int]; try simp) rfl⟩
      · simp (disch := omega) only [Try.ntmps175, Try.results175, go_sem, vClos, g1, g2, hl1, ints_length]
        exact ⟨(k + 1, O1), ⟨hlt, hd.skip (fun h => by rw [hpb] at h; exact absurd (of_decide_eq_true h) h1)⟩, by show M.length - (k + 1) < M.length - k; omega, Wk.of (by simp only [go_sem, ↓List.forall_mem_cons, List.not_mem_nil, false_implies, implies_true, and_true, true_and, and_self, ri_eq, Int.natCast_add, Int.cast_ofNat_Int]; try simp) rfl⟩
    · simp (disch := omega) only [Try.ntmps175, Try.results175, go_sem]
      exact ⟨O1, rfl, hd.final (by omega)⟩

def fillN (n k : Nat) : List Int := List.replicate k (-1) ++ List.replicate (n - k) 0
theorem fillN_zero (n : Nat) : fillN n 0 = List.replicate n 0 := by simp [fillN]
theorem fillN_length {n k : Nat} (h : k ≤ n) : (fillN n k).length = n := by simp [fillN]; omega
theorem fillN_set {n k : Nat} (h : k < n) : (fillN n k).set k (-1) = fillN n (k + 1) := by
  apply List.ext_getElem?
  intro i
  simp [fillN, List.getElem?_set, List.getElem?_append, List.getElem?_replicate]
  grind
theorem fillN_all (n : Nat) : fillN n n = List.replicate n (-1) := by simp [fillN]

theorem Fin.imp {R R' : SV → Heap → Prop} {r : SV} {H : Heap} (h : ∀ r H, R r H → R' r H) (f : Fin R r H) : Fin R' r H := by
  obtain ⟨H2, a, b, c, d⟩ := f
  exact ⟨H2, a, b, c, h _ _ d⟩
set_option maxHeartbeats 4000000 in
theorem Try.implPC_f (M : List (List Int)) (hM : M.length ≤ 1048576) (hR : ∀ i, i < M.length → (mrow M i).length ≤ 1048576) (hw : WM M) : FCall Try.prog 173 [rr M] (fun r H => CompL M.length (pB M) (comp M.length (pB M)) ∧ FlatRes M.length 1 (ints (comp M.length (pB M))) r H) := by
  have hln := hw.1
  have w1 := Try.implIsWM_ok M hM hR
  rw [isWM_t hw] at w1
  refine FCall.of_body Try.func173 rfl (by kernel_rfl) (by simp [Try.ntmps173]) ?_
  refine SW_of_vc Try.mixed _ _ _ (by kernel_rfl) ?_
  simp (disch := omega) only [Try.ntmps173, Try.results173, go_sem, rr_eq]
  refine w1.callV 0 (viewL_cons_of (view_row) viewL_nil_of) ?_
  simp (disch := omega) only [Try.ntmps173, Try.results173, go_sem, rr_eq]
  refine LoopW.loop (fun k : Nat => ⟨ofL [(1, .optr 0 0), (3, .optr 2 0), (15, .val (.int .i64 M.length)), (16, .val (.int .i64 k))], hp [(2, ⟨[.own 1 0 M.length M.length 1 true], true⟩), (1, ⟨ints (fillN M.length k), true⟩), (0, ⟨[rr M], true⟩)] 3⟩) (fun k => k ≤ M.length) (fun k => M.length - k) 0 (by omega)
    (Wk.of (by simp only [go_sem, ↓List.forall_mem_cons, List.not_mem_nil, false_implies, implies_true, and_true, true_and, and_self, ri_eq, Int.natCast_add, Int.cast_ofNat_Int]; try simp) (by rw [fillN_zero]; rfl)) ?_
  intro k hk
  have hfl := fillN_length hk
  refine SW_of_vc Try.mixed _ _ _ (by kernel_rfl) ?_
  by_cases hlt : k < M.length
  · have hfs := fillN_set hlt
    simp (disch := omega) only [Try.ntmps173, Try.results173, go_sem, rr_eq, hfl, hfs]
    exact ⟨k + 1, by omega, by omega, Wk.of (by simp only [go_sem, ↓List.forall_mem_cons, List.not_mem_nil, false_implies, implies_true, and_true, true_and, and_self, ri_eq, Int.natCast_add, Int.cast_ofNat_Int]; try simp) rfl⟩
  · obtain rfl : k = M.length := by omega
    simp (disch := omega) only [Try.ntmps173, Try.results173, go_sem, rr_eq, fillN_all]
    refine LoopW.loop (fun p : Nat × List Int × Int => ⟨ofL [(3, .optr 2 0), (5, .optr 3 0), (6, .optr 4 0), (25, .val (.int .i64 M.length)), (26, .val (.int .i64 p.1))], hp (vHeap M p.2.1 p.2.2) 5⟩)
      (fun p => p.1 ≤ M.length ∧ PartL M.length (pB M) p.1 p.2.2 p.2.1) (fun p => M.length - p.1) (0, List.replicate M.length (-1), 0) ⟨by simp, .zero _ _⟩ (Wk.of (by simp only [go_sem, ↓List.forall_mem_cons, List.not_mem_nil, false_implies, implies_true, and_true, true_and, and_self, ri_eq, Int.natCast_add, Int.cast_ofNat_Int]; try simp) rfl) ?_
    rintro ⟨i, O, c⟩ ⟨hi, hpl⟩
    simp only at hi hpl
    have hl := hpl.len
    have hc0 := hpl.c0
    have hci := hpl.ci
    refine SW_of_vc Try.mixed _ _ _ (by kernel_rfl) ?_
    rw [vHeap]
    by_cases hlt : i < M.length
    · have g2 : (ints O)[i]? = some (.val (.int .i64 (O.getD i 0))) := ints_get' hl hlt
      obtain ⟨b, hb⟩ : ∃ b, O.getD i 0 = b := ⟨_, rfl⟩
      rw [hb] at g2
      by_cases h2 : b < 0
      · have w := Try.visit_ok hw hc0 (negs M.length O) O i hl hlt (by omega) (Nat.le_refl _)
        rw [vHeap, vClos] at w
        simp (disch := omega) only [Try.ntmps173, Try.results173, go_sem, vClos, g2, hl]
        refine w.callX ?_
        rintro r H' ⟨O2, rfl, rfl, hd⟩
        rw [vHeap]
        simp (disch := omega) only [Try.ntmps173, Try.results173, go_sem, vClos]
        exact ⟨(i + 1, O2, c + 1), ⟨hlt, hpl.step hw.sym hlt (by omega) (hd.newL hw.sym hpl hlt (by omega))⟩, by show M.length - (i + 1) < M.length - i; omega, Wk.of (by simp only [go_sem, ↓List.forall_mem_cons, List.not_mem_nil, false_implies, implies_true, and_true, true_and, and_self, ri_eq, Int.natCast_add, Int.cast_ofNat_Int]; try simp) rfl⟩
      · simp (disch := omega) only [Try.ntmps173, Try.results173, go_sem, vClos, g2, hl]
        exact ⟨(i + 1, O, c), ⟨hlt, hpl.skip (by omega)⟩, by show M.length - (i + 1) < M.length - i; omega, Wk.of (by simp only [go_sem, ↓List.forall_mem_cons, List.not_mem_nil, false_implies, implies_true, and_true, true_and, and_self, ri_eq, Int.natCast_add, Int.cast_ofNat_Int]; try simp) rfl⟩
    · have hC := hpl.final (by omega)
      have hc2 := hC.comp
      rw [← hC.eq] at hc2 ⊢
      simp (disch := omega) only [Try.ntmps173, Try.results173, go_sem, vClos]
      exact Fin.imp (fun _ _ h => ⟨hc2, h⟩) (fin_ints hl.symm (by rw [hp_map]; simp only [hmap_cons]; rfl))
theorem Try.implPC_nil (M : List (List Int)) (hM : M.length ≤ 1048576) (hR : ∀ i, i < M.length → (mrow M i).length ≤ 1048576) (hw : ¬ WM M) : FCall Try.prog 173 [rr M] (fun r _ => r = .val (.slice none 0 0)) := by
  have w1 := Try.implIsWM_ok M hM hR
  rw [isWM_f hw] at w1
  refine FCall.of_body Try.func173 rfl (by kernel_rfl) (by simp [Try.ntmps173]) ?_
  refine SW_of_vc Try.mixed _ _ _ (by kernel_rfl) ?_
  simp (disch := omega) only [Try.ntmps173, Try.results173, go_sem, rr_eq]
  refine w1.callV 0 (viewL_cons_of (view_row) viewL_nil_of) ?_
  simp (disch := omega) only [Try.ntmps173, Try.results173, go_sem, rr_eq]
  exact Fin.val rfl
end Go.Sh

/-
  Contracts: links, labels by rounds, the components of a graph of positive weights. Of the reference.
-/
namespace Go.Sh
set_option linter.unusedSimpArgs false
set_option linter.unusedVariables false
open Go Go.Proofs

def nrF (n : Nat) (l : List Nat) : List (Nat × List SV) := l.map fun x => (x, bools (List.replicate n false))
def bz (n : Nat) : List (List Bool) := List.replicate n (List.replicate n false)
theorem bz_length (n : Nat) : (bz n).length = n := by simp [bz]
theorem bz_row {n i : Nat} (h : i < n) : brow (bz n) i = List.replicate n false := by simp [bz, brow, h]
theorem bz_at {n i k : Nat} : bmat (bz n) i k = false := by
  simp only [bz, bmat, brow, List.getD_eq_getElem?_getD, List.getElem?_replicate]
  by_cases h : i < n
  · by_cases h2 : k < n <;> simp [h, h2]
  · simp [h]
theorem nrF_length (n : Nat) (l : List Nat) : (nrF n l).length = l.length := by simp [nrF]
theorem nrF_snd (n : Nat) : ∀ l : List Nat, (nrF n l).map (·.2) = List.replicate l.length (bools (List.replicate n false))
  | [] => rfl
  | x :: l => by
    have := nrF_snd n l
    simp only [nrF, List.map_cons, List.length_cons, List.replicate_succ] at this ⊢
    rw [this]
theorem nrF_snoc (n : Nat) (l : List Nat) (x : Nat) : nrF n (l ++ [x]) = nrF n l ++ [(x, bools (List.replicate n false))] := by simp [nrF]

set_option maxHeartbeats 1000000 in
theorem Try.l17Links_f (n : Nat) (hn : n ≤ 1048576) : FCall Try.prog 166 [.val (.int .i64 n)] (MatRes (mb (bz n))) := by
  refine FCall.of_body Try.func166 rfl (by kernel_rfl) (by simp [Try.ntmps166]) ?_
  refine SW_of_vc Try.mixed _ _ _ (by kernel_rfl) ?_
  simp (disch := omega) only [Try.ntmps166, Try.results166, go_sem]
  refine LoopW.loop (fun p : List Nat × Nat × Nat => ⟨ofL [(0, .val (.int .i64 n)), (3, .own p.2.1 0 p.1.length p.1.length 1 false), (4, .val (.int .i64 p.1.length))], hx [.blk p.2.1 ⟨outerN true (nrF n p.1), false⟩, .rows true (nrF n p.1)] p.2.2⟩)
    (fun p => p.1.length ≤ n ∧ NrOk p.2.1 p.2.2 (nrF n p.1)) (fun p => n - p.1.length) ([], 0, 1) ⟨by simp, .nil (by simp)⟩ (Wk.ofX (by simp only [go_sem, ↓List.forall_mem_cons, List.not_mem_nil, false_implies, implies_true, and_true, true_and, and_self, ri_eq, Int.natCast_add, Int.cast_ofNat_Int]; try simp) (by simp [EntIn, nrF, outerN, hp, hmap]) (by simp [hp])) ?_
  rintro ⟨l, ob, nb⟩ ⟨hk, ho⟩
  simp only at hk ho
  have hob := ho.1
  refine SW_of_vc Try.mixed _ _ _ (by kernel_rfl) ?_
  have hl1 := outerN_length true (nrF n l)
  have hl2 := nrF_length n l
  have hl3 : (outerN true (nrF n l)).take l.length = outerN true (nrF n l) := List.take_of_length_le (by omega)
  by_cases hlt : l.length < n
  · simp (disch := omega) only [Try.ntmps166, Try.results166, go_sem, hl1, hl2, hl3]
    have hlt' : ∀ p ∈ nrF n l, p.1 < nb := fun p hp => (ho.2.1 p hp).1
    have hne : ∀ p ∈ nrF n l, p.1 ≠ ob := fun p hp => (ho.2.1 p hp).2
    refine ⟨(l ++ [nb], nb + 1 + 1, nb + 1 + 1 + 1), ⟨by simp; omega, ?_⟩, by simp; omega, Wk.ofX (by simp only [go_sem, ↓List.forall_mem_cons, List.not_mem_nil, false_implies, implies_true, and_true, true_and, and_self, ri_eq, Int.natCast_add, Int.cast_ofNat_Int, List.length_append, List.length_singleton]; try simp) ?_ (by simp [hx])⟩
    · rw [nrF_snoc]
      exact ho.snoc (Nat.le_refl _) (by show nb ≤ nb + 1 + 1; omega) (by show nb ≠ nb + 1 + 1; omega) (by show nb < nb + 1 + 1 + 1; omega) (by show nb + 1 + 1 < nb + 1 + 1 + 1; omega)
    · simp only [List.forall_mem_cons]
      refine ⟨?_, ?_, by simp⟩
      · simp only [EntIn, hx_map, xmap_blk, if_pos, nrF_snoc, outerN_snoc, bools_length, List.length_replicate]
      · simp only [nrF_snoc]
        refine EntIn.snoc (((EntIn.skipC (EntIn.selfR ho.2.2) hne).skipR ?_).skipR ?_ |>.skipR ?_) ?_
        · intro p hp; have := hlt' p hp; omega
        · intro p hp; have := hlt' p hp; omega
        · intro p hp; have := hlt' p hp; omega
        · simp only [hx_map, xmap_blk]; rw [if_neg (by omega), if_neg (by omega), if_pos trivial, bools_replicate]
  · simp (disch := omega) only [Try.ntmps166, Try.results166, go_sem, hl1, hl2, hl3]
    have hk : l.length = n := by omega
    have := fin_rows (H := hx [Ent.blk ob { cells := outerN true (nrF n l), ex := false }, Ent.rows true (nrF n l)] nb) (R := mb (bz n)) ho
      (fun p hp => by obtain ⟨x, _, rfl⟩ := List.mem_map.1 hp; exact bools_vals _) (by simp [hx, xmap])
      (EntIn.skipR (EntIn.selfR ho.2.2) (fun p hp => (ho.2.1 p hp).2)) (by rw [nrF_snd, hk]; simp [mb, bz])
    rw [nrF_length] at this
    exact this
theorem Try.l17Links_one (n : Nat) (hn : n ≤ 1048576) : FCall Try.prog 166 [.val (.int .i64 n)] (MatOne (mb (bz n))) := (Try.l17Links_f n hn).mat

theorem rep_snoc (k : Nat) (a : Int) : List.replicate k a ++ [a] = List.replicate (k + 1) a := by
  rw [List.replicate_succ']
set_option maxHeartbeats 4000000 in
theorem Try.l17Labels_f (n : Nat) (X : List (List Bool)) (hn : n ≤ 1048576) (hX : X.length = n) (hR : ∀ i, i < n → (brow X i).length = n) (hs : ∀ x y, x < n → y < n → bmat X x y = true → bmat X y x = true) :
    FCall Try.prog 167 [.val (.int .i64 n), rb X] (fun r H => CompL n (bmat X) (comp n (bmat X)) ∧ FlatRes n 1 (ints (comp n (bmat X))) r H) := by
  refine FCall.of_body Try.func167 rfl (by kernel_rfl) (by simp [Try.ntmps167]) ?_
  refine SW_of_vc Try.mixed _ _ _ (by kernel_rfl) ?_
  simp (disch := omega) only [Try.ntmps167, Try.results167, go_sem, rb_eq]
  refine LoopW.loop (fun p : Nat × Nat × Nat => ⟨ofL [(0, .val (.int .i64 n)), (1, rb X), (5, .own p.2.1 0 p.1 p.1 1 false), (6, .val (.int .i64 p.1))], hp [(p.2.1, ⟨ints (List.replicate p.1 (-1)), false⟩)] p.2.2⟩) (fun p => p.1 ≤ n ∧ p.2.1 < p.2.2) (fun p => n - p.1) (0, 0, 1) ⟨by simp, by simp⟩
    (Wk.ofH (by simp only [go_sem, ↓List.forall_mem_cons, List.not_mem_nil, false_implies, implies_true, and_true, true_and, and_self, ri_eq, Int.natCast_add, Int.cast_ofNat_Int, rb_eq]; try simp) (by simp (disch := omega) only [go_sem, ↓List.forall_mem_cons, List.not_mem_nil, false_implies, implies_true, and_true, true_and, and_self, ri_eq, Int.natCast_add, Int.cast_ofNat_Int, if_pos, if_neg, Nat.reduceAdd, List.nil_append, List.replicate_zero, ints_nil]; try simp) (by simp [hp])) ?_
  rintro ⟨k, b, nb⟩ ⟨hk, hb⟩
  simp only at hk hb
  refine SW_of_vc Try.mixed _ _ _ (by kernel_rfl) ?_
  by_cases hlt : k < n
  · have hl := rep_snoc k (-1)
    have ht : (ints (List.replicate k (-1))).take k = ints (List.replicate k (-1)) := ints_take_of (by simp)
    simp (disch := omega) only [Try.ntmps167, Try.results167, go_sem, rb_eq, List.length_replicate, ht]
    refine ⟨(k + 1, nb + 1, nb + 1 + 1), ⟨hlt, by simp⟩, by show n - (k + 1) < n - k; omega, ?_⟩
    exact Wk.ofH (by simp only [go_sem, ↓List.forall_mem_cons, List.not_mem_nil, false_implies, implies_true, and_true, true_and, and_self, ri_eq, Int.natCast_add, Int.cast_ofNat_Int, rb_eq]; try simp) (by simp (disch := omega) only [go_sem, ↓List.forall_mem_cons, List.not_mem_nil, false_implies, implies_true, and_true, true_and, and_self, ri_eq, Int.natCast_add, Int.cast_ofNat_Int, if_pos, if_neg, Nat.reduceAdd, List.nil_append, hl]; try simp) (by simp [hp])
  obtain rfl : k = n := by omega
  simp (disch := omega) only [Try.ntmps167, Try.results167, go_sem, rb_eq]
  refine LoopW.loop (fun p : Nat × List Int × Int => ⟨ofL [(0, .val (.int .i64 k)), (1, rb X), (5, .own b 0 k k 1 false), (7, .val (.int .i64 p.2.2)), (8, .val (.int .i64 p.1))], hp [(b, ⟨ints p.2.1, false⟩)] nb⟩)
    (fun p => p.1 ≤ k ∧ PartL k (bmat X) p.1 p.2.2 p.2.1) (fun p => k - p.1) (0, List.replicate k (-1), 0) ⟨by simp, .zero _ _⟩ (Wk.ofH (by simp only [go_sem, ↓List.forall_mem_cons, List.not_mem_nil, false_implies, implies_true, and_true, true_and, and_self, ri_eq, Int.natCast_add, Int.cast_ofNat_Int, rb_eq]; try simp) (by simp (disch := omega) only [go_sem, ↓List.forall_mem_cons, List.not_mem_nil, false_implies, implies_true, and_true, true_and, and_self, ri_eq, Int.natCast_add, Int.cast_ofNat_Int, if_pos, if_neg, Nat.reduceAdd, List.nil_append]; try simp) (by simp [hp])) ?_
  rintro ⟨i, O, c⟩ ⟨hi, hpl⟩
  simp only at hi hpl
  have hl := hpl.len
  have hc0 := hpl.c0
  have hci := hpl.ci
  refine SW_of_vc Try.mixed _ _ _ (by kernel_rfl) ?_
  by_cases hlt2 : i < k
  · have g2 : (ints O)[i]? = some (.val (.int .i64 (O.getD i 0))) := ints_get' hl hlt2
    obtain ⟨v, hv⟩ : ∃ v, O.getD i 0 = v := ⟨_, rfl⟩
    rw [hv] at g2
    by_cases h0 : 0 ≤ v
    · simp (disch := omega) only [Try.ntmps167, Try.results167, go_sem, rb_eq, hl, g2]
      exact ⟨(i + 1, O, c), ⟨hlt2, hpl.skip (by omega)⟩, by show k - (i + 1) < k - i; omega, Wk.ofH (by simp only [go_sem, ↓List.forall_mem_cons, List.not_mem_nil, false_implies, implies_true, and_true, true_and, and_self, ri_eq, Int.natCast_add, Int.cast_ofNat_Int, rb_eq]; try simp) (by simp (disch := omega) only [go_sem, ↓List.forall_mem_cons, List.not_mem_nil, false_implies, implies_true, and_true, true_and, and_self, ri_eq, Int.natCast_add, Int.cast_ofNat_Int, if_pos, if_neg, Nat.reduceAdd, List.nil_append]; try simp) (by simp [hp])⟩
    · simp (disch := omega) only [Try.ntmps167, Try.results167, go_sem, rb_eq, hl, g2]
      refine LoopW.loop (fun p : Nat × List Int => ⟨ofL [(0, .val (.int .i64 k)), (1, rb X), (5, .own b 0 k k 1 false), (7, .val (.int .i64 c)), (8, .val (.int .i64 i)), (9, .val (.int .i64 p.1))], hp [(b, ⟨ints p.2, false⟩)] nb⟩)
        (fun p => p.1 ≤ k ∧ SpI k (bmat X) c i O p.1 0 0 p.2) (fun p => k - p.1) (0, O.set i c) ⟨by simp, .start hl hlt2⟩ (Wk.ofH (by simp only [go_sem, ↓List.forall_mem_cons, List.not_mem_nil, false_implies, implies_true, and_true, true_and, and_self, ri_eq, Int.natCast_add, Int.cast_ofNat_Int, rb_eq]; try simp) (by simp (disch := omega) only [go_sem, ↓List.forall_mem_cons, List.not_mem_nil, false_implies, implies_true, and_true, true_and, and_self, ri_eq, Int.natCast_add, Int.cast_ofNat_Int, if_pos, if_neg, Nat.reduceAdd, List.nil_append]; try simp) (by simp [hp])) ?_
      rintro ⟨s, O1⟩ ⟨hs1, hq1⟩
      simp only at hs1 hq1
      refine SW_of_vc Try.mixed _ _ _ (by kernel_rfl) ?_
      by_cases hlt3 : s < k
      · simp (disch := omega) only [Try.ntmps167, Try.results167, go_sem, rb_eq]
        refine LoopW.loop (fun p : Nat × List Int => ⟨ofL [(0, .val (.int .i64 k)), (1, rb X), (5, .own b 0 k k 1 false), (7, .val (.int .i64 c)), (8, .val (.int .i64 i)), (9, .val (.int .i64 s)), (10, .val (.int .i64 p.1))], hp [(b, ⟨ints p.2, false⟩)] nb⟩)
          (fun p => p.1 ≤ k ∧ SpI k (bmat X) c i O s p.1 0 p.2) (fun p => k - p.1) (0, O1) ⟨by simp, hq1⟩ (Wk.ofH (by simp only [go_sem, ↓List.forall_mem_cons, List.not_mem_nil, false_implies, implies_true, and_true, true_and, and_self, ri_eq, Int.natCast_add, Int.cast_ofNat_Int, rb_eq]; try simp) (by simp (disch := omega) only [go_sem, ↓List.forall_mem_cons, List.not_mem_nil, false_implies, implies_true, and_true, true_and, and_self, ri_eq, Int.natCast_add, Int.cast_ofNat_Int, if_pos, if_neg, Nat.reduceAdd, List.nil_append]; try simp) (by simp [hp])) ?_
        rintro ⟨a, O2⟩ ⟨ha1, hq2⟩
        simp only at ha1 hq2
        refine SW_of_vc Try.mixed _ _ _ (by kernel_rfl) ?_
        by_cases hlt4 : a < k
        · simp (disch := omega) only [Try.ntmps167, Try.results167, go_sem, rb_eq]
          refine LoopW.loop (fun p : Nat × List Int => ⟨ofL [(0, .val (.int .i64 k)), (1, rb X), (5, .own b 0 k k 1 false), (7, .val (.int .i64 c)), (8, .val (.int .i64 i)), (9, .val (.int .i64 s)), (10, .val (.int .i64 a)), (11, .val (.int .i64 p.1))], hp [(b, ⟨ints p.2, false⟩)] nb⟩)
            (fun p => p.1 ≤ k ∧ SpI k (bmat X) c i O s a p.1 p.2) (fun p => k - p.1) (0, O2) ⟨by simp, hq2⟩ (Wk.ofH (by simp only [go_sem, ↓List.forall_mem_cons, List.not_mem_nil, false_implies, implies_true, and_true, true_and, and_self, ri_eq, Int.natCast_add, Int.cast_ofNat_Int, rb_eq]; try simp) (by simp (disch := omega) only [go_sem, ↓List.forall_mem_cons, List.not_mem_nil, false_implies, implies_true, and_true, true_and, and_self, ri_eq, Int.natCast_add, Int.cast_ofNat_Int, if_pos, if_neg, Nat.reduceAdd, List.nil_append]; try simp) (by simp [hp])) ?_
          rintro ⟨z, O3⟩ ⟨hz1, hq3⟩
          simp only at hz1 hq3
          have hl3 := hq3.len
          have hXa := hR a hlt4
          refine SW_of_vc Try.mixed _ _ _ (by kernel_rfl) ?_
          by_cases hlt5 : z < k
          · have g3 : (ints O3)[a]? = some (.val (.int .i64 (O3.getD a 0))) := ints_get' hl3 hlt4
            have g4 : (bools (brow X a))[z]? = some (.val (.bool (bmat X a z))) := bools_get (by omega)
            obtain ⟨v3, hv3⟩ : ∃ v, O3.getD a 0 = v := ⟨_, rfl⟩
            rw [hv3] at g3
            by_cases h5 : v3 = c
            · rcases Bool.eq_false_or_eq_true (bmat X a z) with h6 | h6
              · rw [h6] at g4
                simp (disch := omega) only [Try.ntmps167, Try.results167, go_sem, rb_eq, hl3, g3, g4, hX, hXa, rowsB_get, rowsB_length]
                exact ⟨(z + 1, O3.set z c), ⟨hlt5, hq3.put hpl.rng hlt4 hlt5 (by omega) h6⟩, by show k - (z + 1) < k - z; omega, Wk.ofH (by simp only [go_sem, ↓List.forall_mem_cons, List.not_mem_nil, false_implies, implies_true, and_true, true_and, and_self, ri_eq, Int.natCast_add, Int.cast_ofNat_Int, rb_eq]; try simp) (by simp (disch := omega) only [go_sem, ↓List.forall_mem_cons, List.not_mem_nil, false_implies, implies_true, and_true, true_and, and_self, ri_eq, Int.natCast_add, Int.cast_ofNat_Int, if_pos, if_neg, Nat.reduceAdd, List.nil_append]; try simp) (by simp [hp])⟩
              · rw [h6] at g4
                simp (disch := omega) only [Try.ntmps167, Try.results167, go_sem, rb_eq, hl3, g3, g4, hX, hXa, rowsB_get, rowsB_length]
                exact ⟨(z + 1, O3), ⟨hlt5, hq3.skip hlt4 (by simp [h6])⟩, by show k - (z + 1) < k - z; omega, Wk.ofH (by simp only [go_sem, ↓List.forall_mem_cons, List.not_mem_nil, false_implies, implies_true, and_true, true_and, and_self, ri_eq, Int.natCast_add, Int.cast_ofNat_Int, rb_eq]; try simp) (by simp (disch := omega) only [go_sem, ↓List.forall_mem_cons, List.not_mem_nil, false_implies, implies_true, and_true, true_and, and_self, ri_eq, Int.natCast_add, Int.cast_ofNat_Int, if_pos, if_neg, Nat.reduceAdd, List.nil_append]; try simp) (by simp [hp])⟩
            · simp (disch := omega) only [Try.ntmps167, Try.results167, go_sem, rb_eq, hl3, g3, hX, hXa, rowsB_get, rowsB_length]
              exact ⟨(z + 1, O3), ⟨hlt5, hq3.skip hlt4 (by intro h; omega)⟩, by show k - (z + 1) < k - z; omega, Wk.ofH (by simp only [go_sem, ↓List.forall_mem_cons, List.not_mem_nil, false_implies, implies_true, and_true, true_and, and_self, ri_eq, Int.natCast_add, Int.cast_ofNat_Int, rb_eq]; try simp) (by simp (disch := omega) only [go_sem, ↓List.forall_mem_cons, List.not_mem_nil, false_implies, implies_true, and_true, true_and, and_self, ri_eq, Int.natCast_add, Int.cast_ofNat_Int, if_pos, if_neg, Nat.reduceAdd, List.nil_append]; try simp) (by simp [hp])⟩
          · simp (disch := omega) only [Try.ntmps167, Try.results167, go_sem, rb_eq]
            exact ⟨(a + 1, O3), ⟨hlt4, hq3.next (by omega)⟩, by show k - (a + 1) < k - a; omega, Wk.ofH (by simp only [go_sem, ↓List.forall_mem_cons, List.not_mem_nil, false_implies, implies_true, and_true, true_and, and_self, ri_eq, Int.natCast_add, Int.cast_ofNat_Int, rb_eq]; try simp) (by simp (disch := omega) only [go_sem, ↓List.forall_mem_cons, List.not_mem_nil, false_implies, implies_true, and_true, true_and, and_self, ri_eq, Int.natCast_add, Int.cast_ofNat_Int, if_pos, if_neg, Nat.reduceAdd, List.nil_append]; try simp) (by simp [hp])⟩
        · simp (disch := omega) only [Try.ntmps167, Try.results167, go_sem, rb_eq]
          exact ⟨(s + 1, O2), ⟨hlt3, hq2.round (by omega)⟩, by show k - (s + 1) < k - s; omega, Wk.ofH (by simp only [go_sem, ↓List.forall_mem_cons, List.not_mem_nil, false_implies, implies_true, and_true, true_and, and_self, ri_eq, Int.natCast_add, Int.cast_ofNat_Int, rb_eq]; try simp) (by simp (disch := omega) only [go_sem, ↓List.forall_mem_cons, List.not_mem_nil, false_implies, implies_true, and_true, true_and, and_self, ri_eq, Int.natCast_add, Int.cast_ofNat_Int, if_pos, if_neg, Nat.reduceAdd, List.nil_append]; try simp) (by simp [hp])⟩
      · obtain rfl : s = k := by omega
        simp (disch := omega) only [Try.ntmps167, Try.results167, go_sem, rb_eq]
        exact ⟨(i + 1, O1, c + 1), ⟨hlt2, hpl.step hs hlt2 (by omega) (hq1.newL hlt2)⟩, by show s - (i + 1) < s - i; omega, Wk.ofH (by simp only [go_sem, ↓List.forall_mem_cons, List.not_mem_nil, false_implies, implies_true, and_true, true_and, and_self, ri_eq, Int.natCast_add, Int.cast_ofNat_Int, rb_eq]; try simp) (by simp (disch := omega) only [go_sem, ↓List.forall_mem_cons, List.not_mem_nil, false_implies, implies_true, and_true, true_and, and_self, ri_eq, Int.natCast_add, Int.cast_ofNat_Int, if_pos, if_neg, Nat.reduceAdd, List.nil_append]; try simp) (by simp [hp])⟩
  · have hC := hpl.final (by omega)
    have hc2 := hC.comp
    rw [← hC.eq] at hc2 ⊢
    simp (disch := omega) only [Try.ntmps167, Try.results167, go_sem, rb_eq]
    exact Fin.imp (fun _ _ h => ⟨hc2, h⟩) (fin_ints hl.symm (by rw [hp_map]; simp only [hmap_cons]; rfl))
end Go.Sh

/-
  Contracts: the components of a graph of positive weights, of the reference; both as one.
-/
namespace Go.Sh
set_option linter.unusedSimpArgs false
set_option linter.unusedVariables false
open Go Go.Proofs

theorem CompL.congr {n : Nat} {B B' : Nat → Nat → Bool} {L : List Int} (h : CompL n B L) (hb : ∀ x y, x < n → y < n → B x y = B' x y) : CompL n B' L := by
  have hr : ∀ x y, Rch n B x y ↔ Rch n B' x y := fun x y => ⟨fun r => r.mono fun x y hx hy h => .one hx hy (by rw [← hb x y hx hy]; exact h), fun r => r.mono fun x y hx hy h => .one hx hy (by rw [hb x y hx hy]; exact h)⟩
  exact ⟨h.len, h.nn, h.can, fun x y hx hy => (h.iff x y hx hy).trans (hr x y)⟩
/-- A square of bools. -/
def Sq (n : Nat) (X : List (List Bool)) : Prop := X.length = n ∧ ∀ i, i < n → (brow X i).length = n
theorem Sq.bz (n : Nat) : Sq n (bz n) := ⟨bz_length n, fun i h => by rw [bz_row h]; simp⟩
theorem Sq.set {n : Nat} {X : List (List Bool)} (h : Sq n X) (i c : Nat) (x : Bool) : Sq n (bset X i c x) := ⟨by rw [bset_length, h.1], fun k hk => by rw [bset_row_length]; exact h.2 k hk⟩

noncomputable def pcomp (M : List (List Int)) : List Int := if isWM M = true then comp M.length (pB M) else []
theorem pcomp_t {M : List (List Int)} (h : WM M) : pcomp M = comp M.length (pB M) := by rw [pcomp, if_pos (isWM_t h)]
theorem pcomp_f {M : List (List Int)} (h : ¬ WM M) : pcomp M = [] := by rw [pcomp, if_neg (by rw [isWM_f h]; simp)]
theorem pcomp_length {M : List (List Int)} (h : WM M) : (pcomp M).length = M.length := by rw [pcomp_t h]; exact (comp_ok h.sym).len
theorem Try.implPC_one (M : List (List Int)) (hM : M.length ≤ 1048576) (hR : ∀ i, i < M.length → (mrow M i).length ≤ 1048576) (h : WM M) : FCall Try.prog 173 [rr M] (OneRes M.length 1 (ints (pcomp M))) := by
  rw [pcomp_t h]
  exact ((Try.implPC_f M hM hR h).mono fun _ _ h => h.2).one
theorem Try.implPC_ok (M : List (List Int)) (hM : M.length ≤ 1048576) (hR : ∀ i, i < M.length → (mrow M i).length ≤ 1048576) : PCall Try.prog 173 [rr M] (ri (pcomp M)) := by
  by_cases h : WM M
  · exact (Try.implPC_one M hM hR h).pcall 2 (fun _ _ g => one_view g (pcomp_length h).symm)
  · rw [pcomp_f h]; exact (Try.implPC_nil M hM hR h).pcall 0 (by rintro r H rfl; exact view_nil)
end Go.Sh

/-
  Contracts: matrices copied into memory of their own, marked, read back.
-/
namespace Go.Sh
set_option linter.unusedSimpArgs false
set_option linter.unusedVariables false
open Go Go.Proofs
variable {P : Program}

theorem HS_res (M : List (List Int)) : MatRes (mi M) (.own 0 0 M.length M.length 1 true) (HS M M.length) := by
  have hl := mi_length M
  refine ⟨0, 0, M.length, true, _, by rw [hl], HS_map M _, by rw [hl, outer_length]; omega, mi_vals _, fun i => i + 1, fun _ => 0, fun i i' _ _ h => by simpa using h, fun i _ => by simp, fun i hi => ?_⟩
  rw [hl] at hi
  have hr : rowAt (mi M) i = ints (mrow M i) := mi_row hi
  refine ⟨(mrow M i).length, false, ⟨ints (mrow M i), false⟩, ?_, ?_, ?_, ?_⟩
  · rw [hr, Nat.zero_add, ints_length]
    simp only [outer, List.getElem?_map]
    rw [List.getElem?_range hi]
    simp only [Option.map_some]
    rw [if_pos hi]
  · simp only [HS]
    rw [if_neg (by omega), if_pos (by omega)]
    simp
  · rw [hr, List.drop_zero, List.take_length]
  · rw [hr]; simp
theorem Try.toIntSS_one (M : List (List Int)) (hM : M.length ≤ 1048576) (hR : ∀ i, i < M.length → (mrow M i).length ≤ 1048576) : FCall Try.prog 26 [rr M] (MatOne (mi M)) :=
  ((Try.toIntSS_f M hM hR).mono fun r H ⟨h1, h2⟩ => by subst h1; subst h2; exact HS_res M).mat

theorem CallS.sub {f : FuncId} {args : List SV} {H : Heap} {Q Q' : SV → Heap → Prop} (h : CallS P f args H Q) (hq : ∀ r H', Q r H' → ∃ H2, Sub H2 H' ∧ Q' r H2) : CallS P f args H Q' := by
  refine ⟨h.1, fun j w vs r hl => (h.2 j w vs r hl).mono ?_⟩
  rintro e w' ⟨r, v, j', H', h1, h2, h3, h4, h5⟩
  obtain ⟨H2, hs, hq2⟩ := hq r H' h5
  have hsub : ∀ k, OwnR j' H2 k → OwnR j' H' k := by
    rintro k ⟨b, blk, base, g1, g2⟩
    refine ⟨b, blk, base, ?_, g2⟩
    rcases hs.map b with e | e
    · rw [e] at g1; simp at g1
    · rw [← e]; exact g1
  refine ⟨r, v, j', H2, h1, h2.sub hs, VRel.tr (Tr.weaken w' hsub) (fun _ _ h => h) r v h3, ?_, hq2⟩
  exact ⟨h4.os, h4.tape, h4.output, h4.size, h4.keep, h4.sizes, h4.jle, by rw [hs.nb]; exact h4.nble, fun k o => h4.own k (hsub k o)⟩

def Heap.cutR (H : Heap) (a c : Nat) : Heap := ⟨fun x => if a ≤ x ∧ x ≤ c then none else H.map x, H.nb⟩
def consE (e : Ent) (H : Heap) : Heap := match e with
  | .blk k v => ⟨fun x => if x = k then some v else H.map x, H.nb⟩
  | .mat b R => ⟨fun x => if b ≤ x ∧ x ≤ b + R.length then matMap b R x else H.map x, H.nb⟩
  | .rows fl nr => ⟨fun x => match nrFind nr x with | some r => some ⟨r, fl⟩ | none => H.map x, H.nb⟩
  | .cut b => ⟨fun x => if x = b then none else H.map x, H.nb⟩
theorem consE_hx (e : Ent) (l : List Ent) (n : Nat) : consE e (hx l n) = hx (e :: l) n := by cases e <;> rfl
theorem cutR_nil (n a c : Nat) : (hx [] n).cutR a c = hx [] n := by
  refine Heap.ext' (fun x => ?_) rfl
  simp only [Heap.cutR, hx, xmap]
  split <;> rfl
theorem cutR_blk {k n a c : Nat} {v : Blk} {l : List Ent} (h : k < a ∨ c < k) : (hx (.blk k v :: l) n).cutR a c = consE (.blk k v) ((hx l n).cutR a c) := by
  refine Heap.ext' (fun x => ?_) rfl
  simp only [Heap.cutR, hx, xmap, consE]
  by_cases h1 : x = k
  · subst h1
    rw [if_neg (by omega), if_pos rfl, if_pos rfl]
  · rw [if_neg h1, if_neg h1]
theorem cutR_same {b n c : Nat} {M : List (List Int)} {l : List Ent} (h : c = b + M.length) : (hx (.mat b (mi M) :: l) n).cutR b c = (hx l n).cutR b c := by
  subst h
  refine Heap.ext' (fun x => ?_) rfl
  simp only [Heap.cutR, hx, xmap, mi_length]
  by_cases h1 : b ≤ x ∧ x ≤ b + M.length
  · rw [if_pos h1, if_pos h1]
  · rw [if_neg h1, if_neg h1, if_neg h1]
theorem cutR_other {b n a c : Nat} {M : List (List Int)} {l : List Ent} (h : c < b ∨ b + M.length < a) : (hx (.mat b (mi M) :: l) n).cutR a c = consE (.mat b (mi M)) ((hx l n).cutR a c) := by
  refine Heap.ext' (fun x => ?_) rfl
  simp only [Heap.cutR, hx, xmap, consE, mi_length]
  by_cases h1 : b ≤ x ∧ x ≤ b + M.length
  · rw [if_neg (by omega), if_pos h1, if_pos h1]
  · rw [if_neg h1, if_neg h1]
theorem cutR_map {H : Heap} {a c x : Nat} (h : x < a ∨ c < x) : (H.cutR a c).map x = H.map x := by
  simp only [Heap.cutR]; rw [if_neg (by omega)]

set_option maxHeartbeats 1000000 in
/-- A matrix marked; what it holds then is not told. -/
theorem Try.markIntSS_ok (M : List (List Int)) (k : Int) (H : Heap) (b n : Nat) (hb : EntIn H (.mat b (mi M))) (hn : n = M.length) (hM : M.length ≤ 1048576) (hR : ∀ i, i < M.length → (mrow M i).length ≤ 1048576) (hk : 0 ≤ k) (hk2 : k + msum M M.length ≤ 1099511627776) :
    CallS Try.prog 30 [.own b 0 n n 1 false, .val (.int .i64 k)] H (fun r H' => r = .val (.int .i64 (k + msum M M.length)) ∧ H' = H.cutR b (b + M.length)) := by
  subst hn
  have hb' := hb
  simp only [EntIn, mi_length] at hb'
  have h0 : H.map b = some ⟨outerB b (mi M), false⟩ := by rw [hb' b (by omega) (by omega), matMap, if_pos rfl]
  have hrow : ∀ i, i < M.length → H.map (b + 1 + i) = some ⟨ints (mrow M i), false⟩ := fun i hi => by
    rw [hb' (b + 1 + i) (by omega) (by omega), matMap, if_neg (by omega), ← mi_row hi]
    congr 3; omega
  refine CallS.sub (Q := fun r H' => r = .val (.int .i64 (k + msum M M.length)) ∧ H' = H.cutR (b + 1) (b + M.length)) ?_ (fun r H' ⟨e1, e2⟩ => ⟨_, ⟨?_, fun x => ?_⟩, e1, rfl⟩)
  · refine CallS.of_body Try.func30 rfl (by kernel_rfl) (by simp [Try.ntmps30]) ?_
    refine SW_of_vc Try.mixed _ _ _ (by kernel_rfl) ?_
    simp (disch := omega) only [Try.ntmps30, Try.results30, go_sem]
    refine LoopW.loop (fun i : Nat => ⟨ofL [(0, .own b 0 M.length M.length 1 false), (1, .val (.int .i64 (k + msum M i))), (5, .val (.int .i64 i))], H.cutR (b + 1) (b + i)⟩) (fun i => i ≤ M.length) (fun i => M.length - i) 0 (by omega) (Wk.of (by simp only [go_sem, ↓List.forall_mem_cons, List.not_mem_nil, false_implies, implies_true, and_true, true_and, and_self, ri_eq, Int.natCast_add, Int.cast_ofNat_Int, msum, List.take_zero, List.sum_nil, Int.add_zero]; try simp) (Heap.ext' (fun x => by simp only [Heap.cutR]; rw [if_neg (by omega)]) rfl)) ?_
    intro i hi
    refine SW_of_vc Try.mixed _ _ _ (by kernel_rfl) ?_
    have hm0 : (H.cutR (b + 1) (b + i)).map b = some ⟨outerB b (mi M), false⟩ := by rw [cutR_map (by omega), h0]
    have hmn := msum_nonneg M i
    by_cases hlt : i < M.length
    · have hm1 : (H.cutR (b + 1) (b + i)).map (b + 1 + i) = some ⟨ints (mrow M i), false⟩ := by rw [cutR_map (by omega), hrow i hlt]
      have hmono := msum_mono (M := M) (k := i) (j := M.length) (by omega) (by omega)
      have hs := msum_succ hlt
      simp (disch := omega) only [Try.ntmps30, Try.results30, go_sem, hm0, outerB_getI]
      refine (Try.markIntS_ok (mrow M i) (k + msum M i) _ (b + 1 + i) _ _ false false hm1 rfl (by have := hR i hlt; omega) (by omega) (by omega)).callDet ?_
      simp (disch := omega) only [Try.ntmps30, Try.results30, go_sem]
      refine ⟨i + 1, hlt, by omega, ⟨ofL_wk (by simp only [go_sem, ↓List.forall_mem_cons, List.not_mem_nil, false_implies, implies_true, and_true, true_and, and_self, ri_eq, Int.natCast_add, Int.cast_ofNat_Int, hs, Int.add_assoc]; try simp), Nat.le_refl _, fun x => ?_⟩⟩
      simp only [Heap.cutR, Heap.set]
      by_cases h1 : b + 1 ≤ x ∧ x ≤ b + (i + 1)
      · exact .inl (by rw [if_pos h1])
      · right
        rw [if_neg h1, if_neg (by omega), if_neg (by omega)]
    · obtain rfl : i = M.length := by omega
      simp (disch := omega) only [Try.ntmps30, Try.results30, go_sem]
  · rw [e2]; rfl
  · subst e2
    simp only [Heap.cutR]
    by_cases h1 : b ≤ x ∧ x ≤ b + M.length
    · exact .inl (by rw [if_pos h1])
    · right
      rw [if_neg h1, if_neg (by omega)]
theorem fin_mat {b n cap : Nat} {ex : Bool} {R : List (List SV)} {H : Heap} (h : EntIn H (.mat b R)) (hv : ∀ row ∈ R, row.all isVal = true) (hn : n = R.length) : Fin (MatRes R) (.own b 0 n cap 1 ex) H := by
  subst hn
  refine ⟨hx [.mat b R] H.nb, ⟨rfl, fun x => ?_⟩, rfl, mat_nr hv, b, 0, cap, ex, _, rfl, by rw [hx_map, xmap_mat], by rw [outerB_length]; omega, hv, fun i => b + 1 + i, fun _ => 0, fun i i' _ _ e => by have e : b + 1 + i = b + 1 + i' := e; omega, fun i _ => by show b + 1 + i ≠ b; omega, fun i hi => ?_⟩
  · rw [hx_map, xmap]
    by_cases hr : b ≤ x ∧ x ≤ b + R.length
    · rw [if_pos hr]; exact .inr (h x hr.1 hr.2).symm
    · rw [if_neg hr]; exact .inl rfl
  · refine ⟨(rowAt R i).length, false, ⟨rowAt R i, false⟩, ?_, ?_, ?_, ?_⟩
    · rw [Nat.zero_add, outerB_get hi]
    · show (hx [.mat b R] H.nb).map (b + 1 + i) = _
      rw [hx_map, xmap, if_pos (by omega), matMap, if_neg (by omega)]
      congr 3; omega
    · simp
    · simp
attribute [go_sem] consE_hx cutR_nil
end Go.Sh

/-
  Squares of numbers, by their entries.
-/
namespace Go.Sh
set_option linter.unusedSimpArgs false
set_option linter.unusedVariables false
open Go Go.Proofs

/-- A square of numbers. -/
def SqI (n : Nat) (M : List (List Int)) : Prop := M.length = n ∧ ∀ i, i < n → (mrow M i).length = n
theorem SqI.zs (n : Nat) : SqI n (zs n) := ⟨zs_length n, fun i h => by rw [zs_row h]; simp⟩
theorem SqI.set {n : Nat} {M : List (List Int)} (h : SqI n M) (i c : Nat) (x : Int) : SqI n (mset M i c x) := ⟨by rw [mset_length, h.1], fun k hk => by rw [mset_row_length]; exact h.2 k hk⟩
theorem SqI.ext {n : Nat} {M M' : List (List Int)} (h : SqI n M) (h' : SqI n M') (e : ∀ x y, x < n → y < n → mat M x y = mat M' x y) : M = M' := by
  refine List.ext_getElem (h.1.trans h'.1.symm) fun i h1 h2 => ?_
  have hi : i < n := by rw [← h.1]; exact h1
  have e1 : M[i] = mrow M i := by simp [mrow, h1]
  have e2 : M'[i] = mrow M' i := by simp [mrow, h2]
  rw [e1, e2]
  exact list_ext ((h.2 i hi).trans (h'.2 i hi).symm) fun k hk => e i k hi (by rw [← h.2 i hi]; exact hk)
def genM (n : Nat) (f : Nat → Nat → Int) : List (List Int) := (List.range n).map fun x => (List.range n).map fun y => f x y
theorem genM_row {n : Nat} {f : Nat → Nat → Int} {x : Nat} (h : x < n) : mrow (genM n f) x = (List.range n).map fun y => f x y := by simp [mrow, genM, h]
theorem genM_sq (n : Nat) (f : Nat → Nat → Int) : SqI n (genM n f) := ⟨by simp [genM], fun i h => by rw [genM_row h]; simp⟩
theorem genM_at {n : Nat} {f : Nat → Nat → Int} {x y : Nat} (hx : x < n) (hy : y < n) : mat (genM n f) x y = f x y := by rw [mat, genM_row hx]; simp [hy]
def bint (b : Bool) : Int := if b = true then 1 else 0
end Go.Sh

/-
  Contracts: the graph of the must-link constraints, its components. Of the reference and of the program.
-/
namespace Go.Sh
set_option linter.unusedSimpArgs false
set_option linter.unusedVariables false
open Go Go.Proofs

def linkB (c : Con) (x y : Nat) : Bool := c.2.2 && (decide (c.1 = x ∧ c.2.1 = y) || decide (c.1 = y ∧ c.2.1 = x))
def mustB (C : List Con) (x y : Nat) : Bool := C.any fun c => linkB c x y
theorem linkB_sym (c : Con) (x y : Nat) : linkB c x y = linkB c y x := by simp only [linkB]; rw [Bool.or_comm]
theorem mustB_sym (C : List Con) (x y : Nat) : mustB C x y = mustB C y x := by
  simp only [mustB]; congr 1; funext c; exact linkB_sym c x y
theorem mustB_succ {C : List Con} {k : Nat} (h : k < C.length) (x y : Nat) : mustB (C.take (k + 1)) x y = (mustB (C.take k) x y || linkB (cg C k) x y) := by
  have e : cg C k = C[k] := by simp [cg, h]
  rw [mustB, List.take_succ_eq_append_getElem h, List.any_append, e]
  simp [mustB]
theorem areCons_t {n : Int} {C : List Con} (h : areCons n C = true) : (1 ≤ n ∧ n ≤ 8) ∧ C.length ≤ 10 ∧ ∀ c ∈ C, 0 ≤ c.1 ∧ c.1 < c.2.1 ∧ c.2.1 < n := by
  simp only [areCons, Bool.and_eq_true] at h
  refine ⟨inR_of h.1, of_decide_eq_true h.2.1, fun c hc => ?_⟩
  have := List.all_eq_true.1 h.2.2 c hc
  simp only [goodCon, Bool.and_eq_true] at this
  have h1 := inR_of this.1
  have h2 := inR_of this.2.1
  have h3 := of_decide_eq_true this.2.2
  omega
theorem cg_mem {C : List Con} {k : Nat} (h : k < C.length) : cg C k ∈ C := by simp [cg, h]
theorem con_nat {n : Int} {C : List Con} (h : areCons n C = true) {k : Nat} (hk : k < C.length) : ∃ (x y : Nat) (s : Bool), cg C k = ((x : Int), (y : Int), s) ∧ x < y ∧ (y : Int) < n := by
  obtain ⟨a, b, s, hc⟩ := con_ex C k
  have := (areCons_t h).2.2 _ (cg_mem hk)
  rw [hc] at this
  simp only at this
  refine ⟨a.toNat, b.toNat, s, ?_, by omega, by omega⟩
  rw [hc]
  congr 1
  · omega
  · congr 1; omega
theorem linkB_at (x y : Nat) (s : Bool) (a b : Nat) : linkB ((x : Int), (y : Int), s) a b = (s && (decide (x = a ∧ y = b) || decide (x = b ∧ y = a))) := by
  simp only [linkB]
  congr 1
  have e1 : ((x : Int) = a ∧ (y : Int) = b) ↔ (x = a ∧ y = b) := by omega
  have e2 : ((x : Int) = b ∧ (y : Int) = a) ↔ (x = b ∧ y = a) := by omega
  rw [decide_eq_decide.2 e1, decide_eq_decide.2 e2]
def mustM (n : Nat) (C : List Con) : List (List Int) := genM n fun x y => bint (mustB C x y)

set_option maxHeartbeats 4000000 in
theorem Try.mustMatrix_f (n : Nat) (C : List Con) (h : areCons n C = true) : FCall Try.prog 174 [.val (.int .i64 n), rc C] (MatRes (mi (mustM n C))) := by
  obtain ⟨hn, hC, hg⟩ := areCons_t h
  have hn8 : n ≤ 8 := by omega
  have lC := cons_length C
  refine FCall.of_body Try.func174 rfl (by kernel_rfl) (by simp [Try.ntmps174]) ?_
  refine SW_of_vc2 (onD 6 [(30, 32)] []) Try.mixed _ _ _ (by kernel_rfl) ?_
  simp (disch := omega) only [Try.ntmps174, Try.results174, go_sem, rc]
  refine (Try.square_one n (by omega)).callMat (mi_vals _) 0 (viewL_cons_of (view_int) viewL_nil_of) ?_
  simp (disch := omega) only [Try.ntmps174, Try.results174, go_sem, rc, zs_length]
  refine LoopW.loop (fun p : Nat × List (List Int) × Nat => ⟨ofL [(5, .own 0 0 n n 1 false), (10, rc C), (11, .val (.int .i64 C.length)), (12, .val (.int .i64 p.1))], hx [.mat 0 (mi p.2.1)] p.2.2⟩)
    (fun p => p.1 ≤ C.length ∧ SqI n p.2.1 ∧ n < p.2.2 ∧ ∀ x y, x < n → y < n → mat p.2.1 x y = bint (mustB (C.take p.1) x y)) (fun p => C.length - p.1) (0, zs n, n + 1) ⟨by simp, .zs n, by simp, fun x y _ _ => zs_at⟩
    (Wk.ofX (by simp only [go_sem, ↓List.forall_mem_cons, List.not_mem_nil, false_implies, implies_true, and_true, true_and, and_self, ri_eq, Int.natCast_add, Int.cast_ofNat_Int, rc]; try simp) (by simp only [List.forall_mem_cons]; exact ⟨.self, by simp⟩) (Nat.le_refl _)) ?_
  rintro ⟨k, M, nb⟩ ⟨hk, hM, hnb, hMM⟩
  simp only at hk hM hnb hMM
  have hM1 := hM.1
  refine SW_of_vc2 (onD 6 [(30, 32)] []) Try.mixed _ _ _ (by kernel_rfl) ?_
  by_cases hlt : k < C.length
  · obtain ⟨x, y, s, hc, hxy, hyn⟩ := con_nat h hlt
    have hy : y < n := by omega
    have hx : x < n := by omega
    obtain ⟨q0, q1, q2, q3⟩ := cons_of hlt hc
    have hsucc := mustB_succ hlt
    rw [hc] at hsucc
    have r1 := hM.2 x hx
    have r2 := hM.2 y hy
    have l2 : (mset M x y 1).length = n := by rw [mset_length, hM1]
    have r3 : (mrow (mset M x y 1) y).length = n := by rw [mset_row_length, r2]
    cases s with
    | true =>
      have hnew : ∀ a b, a < n → b < n → mat (mset (mset M x y 1) y x 1) a b = bint (mustB (C.take (k + 1)) a b) := by
        intro a b ha hb
        rw [mset_at _ _ _ _ (by omega) (by omega), mset_at _ _ _ _ (by omega) (by omega), hMM a b ha hb, hsucc, linkB_at]
        by_cases e1 : a = y ∧ b = x
        · have : (decide (x = a ∧ y = b) || decide (x = b ∧ y = a)) = true := by simp; omega
          rw [if_pos e1, this]; simp [bint]
        · rw [if_neg e1]
          by_cases e2 : a = x ∧ b = y
          · have : (decide (x = a ∧ y = b) || decide (x = b ∧ y = a)) = true := by simp; omega
            rw [if_pos e2, this]; simp [bint]
          · have : (decide (x = a ∧ y = b) || decide (x = b ∧ y = a)) = false := by simp; omega
            rw [if_neg e2, this]; simp
      simp (disch := omega) only [Try.ntmps174, Try.results174, go_sem, rc, q3, lC, outerB_getI, xmap_skipI, xmap_rowI, xset_rowI, xset_skipI, r1, r2, r3]
      refine ⟨(k + 1, mset (mset M x y 1) y x 1, nb + 1), ⟨hlt, (hM.set _ _ _).set _ _ _, by show n < nb + 1; omega, hnew⟩, by show C.length - (k + 1) < C.length - k; omega, ?_⟩
      exact Wk.ofX (by simp only [go_sem, ↓List.forall_mem_cons, List.not_mem_nil, false_implies, implies_true, and_true, true_and, and_self, ri_eq, Int.natCast_add, Int.cast_ofNat_Int, rc]; try simp) (by simp only [List.forall_mem_cons]; exact ⟨EntIn.self.skipM (by simp only [mi_length, mset_length]; omega), by simp⟩) (Nat.le_refl _)
    | false =>
      have hnew : ∀ a b, a < n → b < n → mat M a b = bint (mustB (C.take (k + 1)) a b) := by
        intro a b ha hb
        rw [hMM a b ha hb, hsucc, linkB_at]; simp
      simp (disch := omega) only [Try.ntmps174, Try.results174, go_sem, rc, q3, lC]
      refine ⟨(k + 1, M, nb + 1), ⟨hlt, hM, by show n < nb + 1; omega, hnew⟩, by show C.length - (k + 1) < C.length - k; omega, ?_⟩
      exact Wk.ofX (by simp only [go_sem, ↓List.forall_mem_cons, List.not_mem_nil, false_implies, implies_true, and_true, true_and, and_self, ri_eq, Int.natCast_add, Int.cast_ofNat_Int, rc]; try simp) (by simp only [List.forall_mem_cons]; exact ⟨EntIn.self.skipM (by simp only [mi_length]; omega), by simp⟩) (Nat.le_refl _)
  · obtain rfl : k = C.length := by omega
    rw [List.take_length] at hMM
    have he : M = mustM n C := hM.ext (genM_sq n _) fun x y hx hy => by rw [hMM x y hx hy, mustM, genM_at hx hy]
    simp (disch := omega) only [Try.ntmps174, Try.results174, go_sem, rc]
    rw [← he]
    exact fin_mat .self (mi_vals _) (by rw [mi_length, hM1])
theorem mustM_wm {n : Nat} {C : List Con} (h : areCons n C = true) : WM (mustM n C) := by
  obtain ⟨hn, hC, hg⟩ := areCons_t h
  have hs := genM_sq n fun x y => bint (mustB C x y)
  have hb : ∀ b, 0 ≤ bint b ∧ bint b ≤ 1 := fun b => by cases b <;> simp [bint]
  have e1 : (mustM n C).length = n := hs.1
  refine ⟨by rw [e1]; omega, fun i hi => by rw [e1] at hi ⊢; exact hs.2 i hi, fun i k hi hk => ?_, fun i hi => ?_⟩
  · rw [e1] at hi hk
    rw [mustM, genM_at hi hk, genM_at hk hi, mustB_sym]
    have := hb (mustB C k i)
    exact ⟨by omega, rfl⟩
  · rw [e1] at hi
    rw [mustM, genM_at hi hi]
    have : mustB C i i = false := by
      rw [mustB, List.any_eq_false]
      intro c hc
      have := hg c hc
      simp only [linkB]
      simp
      omega
    rw [this]; rfl
theorem mustM_pB {n : Nat} {C : List Con} {x y : Nat} (hx : x < n) (hy : y < n) : pB (mustM n C) x y = mustB C x y := by
  rw [pB, mustM, genM_at hx hy]
  cases mustB C x y <;> simp [bint]
theorem mustM_length (n : Nat) (C : List Con) : (mustM n C).length = n := (genM_sq n _).1
/-- The component of each item in the graph of the must-link constraints. -/
noncomputable def must (n : Int) (C : List Con) : List Int := if areCons n C = true then comp n.toNat (mustB C) else []
theorem must_t {n : Int} {C : List Con} (h : areCons n C = true) : must n C = comp n.toNat (mustB C) := by rw [must, if_pos h]
theorem must_f {n : Int} {C : List Con} (h : areCons n C = false) : must n C = [] := by rw [must, if_neg (by rw [h]; simp)]
theorem must_ok {n : Nat} {C : List Con} : CompL n (mustB C) (comp n (mustB C)) := comp_ok fun x y _ _ h => by rw [mustB_sym]; exact h
theorem must_length {n : Int} {C : List Con} (h : areCons n C = true) : (must n C).length = n.toNat := by rw [must_t h]; exact must_ok.len
theorem must_pcomp {n : Nat} {C : List Con} (h : areCons n C = true) : pcomp (mustM n C) = comp n (mustB C) := by
  have hw := mustM_wm h
  rw [pcomp_t hw, mustM_length]
  have hc := comp_ok (n := n) (B := pB (mustM n C)) (by have := hw.sym; rwa [mustM_length] at this)
  exact (hc.congr fun x y hx hy => mustM_pB hx hy).eq.symm ▸ rfl

set_option maxHeartbeats 1000000 in
theorem Try.implMust_f (n : Int) (C : List Con) (hC : C.length ≤ 1048576) (h : areCons n C = true) : FCall Try.prog 171 [.val (.int .i64 n), rc C] (FlatRes n.toNat 1 (ints (must n C))) := by
  obtain ⟨⟨n1, n2⟩, _, _⟩ := areCons_t h
  obtain ⟨m, rfl⟩ := Int.eq_ofNat_of_zero_le (by omega : 0 ≤ n)
  have w1 := Try.implAreConstraints_ok m C hC
  rw [h] at w1
  have hw := mustM_wm h
  have hl := mustM_length m C
  have w3 := Try.implPC_one (mustM m C) (by rw [hl]; omega) (fun i hi => by rw [hw.2.1 i hi, hl]; omega) hw
  have hp := must_pcomp h
  rw [must_t h, Int.toNat_natCast]
  rw [hp, hl] at w3
  refine FCall.of_body Try.func171 rfl (by kernel_rfl) (by simp [Try.ntmps171]) ?_
  refine SW_of_vc Try.mixed _ _ _ (by kernel_rfl) ?_
  simp (disch := omega) only [Try.ntmps171, Try.results171, go_sem, rc]
  refine w1.callV 0 (viewL_cons_of (view_int) (viewL_cons_of (view_row) viewL_nil_of)) ?_
  simp (disch := omega) only [Try.ntmps171, Try.results171, go_sem, rc]
  refine (Try.mustMatrix_f m C h).mat.callMat (mi_vals _) 0 (viewL_cons_of (view_int) (viewL_cons_of (view_row) viewL_nil_of)) ?_
  simp (disch := omega) only [Try.ntmps171, Try.results171, go_sem, rc, hl]
  refine w3.callOne (ints_vals _) 2 (viewL_cons_of (view_mi .self hl.symm) viewL_nil_of) ?_
  simp (disch := omega) only [Try.ntmps171, Try.results171, go_sem, rc]
  exact fin_ints must_ok.len.symm (by rw [hx_map, xmap_blk, if_pos rfl])
theorem Try.implMust_nil (n : Int) (C : List Con) (hC : C.length ≤ 1048576) (h : areCons n C = false) : FCall Try.prog 171 [.val (.int .i64 n), rc C] (fun r _ => r = .val (.slice none 0 0)) := by
  have w1 := Try.implAreConstraints_ok n C hC
  rw [h] at w1
  refine FCall.of_body Try.func171 rfl (by kernel_rfl) (by simp [Try.ntmps171]) ?_
  refine SW_of_vc Try.mixed _ _ _ (by kernel_rfl) ?_
  simp (disch := omega) only [Try.ntmps171, Try.results171, go_sem, rc]
  refine w1.callV 0 (viewL_cons_of (view_int) (viewL_cons_of (view_row) viewL_nil_of)) ?_
  simp (disch := omega) only [Try.ntmps171, Try.results171, go_sem, rc]
  exact Fin.val rfl
theorem Try.implMust_one (n : Int) (C : List Con) (hC : C.length ≤ 1048576) (h : areCons n C = true) : FCall Try.prog 171 [.val (.int .i64 n), rc C] (OneRes n.toNat 1 (ints (must n C))) := (Try.implMust_f n C hC h).one
theorem Try.implMust_ok (n : Int) (C : List Con) (hC : C.length ≤ 1048576) : PCall Try.prog 171 [.val (.int .i64 n), rc C] (ri (must n C)) := by
  rcases Bool.eq_false_or_eq_true (areCons n C) with h | h
  · exact (Try.implMust_f n C hC h).pcall 2 (fun _ _ h => flat_view h)
  · rw [must_f h]; exact (Try.implMust_nil n C hC h).pcall 0 (by rintro r H rfl; exact view_nil)
end Go.Sh

/-
  Contracts: the components of the must-link constraints, of the reference.
-/
namespace Go.Sh
set_option linter.unusedSimpArgs false
set_option linter.unusedVariables false
open Go Go.Proofs

set_option maxHeartbeats 4000000 in
theorem Try.specMust_f (n : Int) (C : List Con) (hC : C.length ≤ 1048576) (h : areCons n C = true) : FCall Try.prog 154 [.val (.int .i64 n), rc C] (FlatRes n.toNat 1 (ints (must n C))) := by
  obtain ⟨⟨n1, n2⟩, hC10, hg⟩ := areCons_t h
  obtain ⟨m, rfl⟩ := Int.eq_ofNat_of_zero_le (by omega : 0 ≤ n)
  have w1 := Try.specAreConstraints_ok m C hC (by omega) (by omega)
  rw [h] at w1
  have lC := cons_length C
  rw [must_t h, Int.toNat_natCast]
  refine FCall.of_body Try.func154 rfl (by kernel_rfl) (by simp [Try.ntmps154]) ?_
  refine SW_of_vc Try.mixed _ _ _ (by kernel_rfl) ?_
  simp (disch := omega) only [Try.ntmps154, Try.results154, go_sem, rc]
  refine w1.callV 0 (viewL_cons_of (view_int) (viewL_cons_of (view_row) viewL_nil_of)) ?_
  simp (disch := omega) only [Try.ntmps154, Try.results154, go_sem, rc]
  refine (Try.l17Links_one m (by omega)).callMat (mb_vals _) 0 (viewL_cons_of (view_int) viewL_nil_of) ?_
  simp (disch := omega) only [Try.ntmps154, Try.results154, go_sem, rc, bz_length]
  refine LoopW.loop (fun p : Nat × List (List Bool) => ⟨ofL [(0, .val (.int .i64 m)), (1, rc C), (5, .own 0 0 m m 1 false), (6, .val (.int .i64 p.1))], hx [.mat 0 (mb p.2)] (m + 1)⟩)
    (fun p => p.1 ≤ C.length ∧ Sq m p.2 ∧ ∀ x y, x < m → y < m → bmat p.2 x y = mustB (C.take p.1) x y) (fun p => C.length - p.1) (0, bz m) ⟨by simp, .bz _, fun x y _ _ => by simpa [mustB] using bz_at⟩
    (Wk.ofX (by simp only [go_sem, ↓List.forall_mem_cons, List.not_mem_nil, false_implies, implies_true, and_true, true_and, and_self, ri_eq, Int.natCast_add, Int.cast_ofNat_Int, rc]; try simp) (by simp only [List.forall_mem_cons]; exact ⟨.self, by simp⟩) (Nat.le_refl _)) ?_
  rintro ⟨k, X⟩ ⟨hk, hX, hXX⟩
  simp only at hk hX hXX
  have hX1 := hX.1
  refine SW_of_vc Try.mixed _ _ _ (by kernel_rfl) ?_
  by_cases hlt : k < C.length
  · obtain ⟨x, y, s, hc, hxy, hyn⟩ := con_nat h hlt
    have hy : y < m := by omega
    have hx : x < m := by omega
    obtain ⟨q0, q1, q2, q3⟩ := cons_of hlt hc
    have hsucc := mustB_succ hlt
    rw [hc] at hsucc
    have r1 := hX.2 x hx
    have r2 := hX.2 y hy
    have l2 : (bset X x y true).length = m := by rw [bset_length, hX1]
    have r3 : (brow (bset X x y true) y).length = m := by rw [bset_row_length, r2]
    cases s with
    | true =>
      have hnew : ∀ a b, a < m → b < m → bmat (bset (bset X x y true) y x true) a b = mustB (C.take (k + 1)) a b := by
        intro a b ha hb
        rw [bset_at _ _ _ _ (by omega) (by omega), bset_at _ _ _ _ (by omega) (by omega), hXX a b ha hb, hsucc, linkB_at]
        by_cases e1 : a = y ∧ b = x
        · have : (decide (x = a ∧ y = b) || decide (x = b ∧ y = a)) = true := by simp; omega
          rw [if_pos e1, this]; simp
        · rw [if_neg e1]
          by_cases e2 : a = x ∧ b = y
          · have : (decide (x = a ∧ y = b) || decide (x = b ∧ y = a)) = true := by simp; omega
            rw [if_pos e2, this]; simp
          · have : (decide (x = a ∧ y = b) || decide (x = b ∧ y = a)) = false := by simp; omega
            rw [if_neg e2, this]; simp
      simp (disch := omega) only [Try.ntmps154, Try.results154, go_sem, rc, q0, q1, q2, lC, outerB_getB, xmap_skipB, xmap_rowB, xset_rowB, xset_skipB, r1, r2, r3, bools_set]
      refine ⟨(k + 1, bset (bset X x y true) y x true), ⟨hlt, (hX.set _ _ _).set _ _ _, hnew⟩, by show C.length - (k + 1) < C.length - k; omega, ?_⟩
      exact Wk.ofX (by simp only [go_sem, ↓List.forall_mem_cons, List.not_mem_nil, false_implies, implies_true, and_true, true_and, and_self, ri_eq, Int.natCast_add, Int.cast_ofNat_Int, rc]; try simp) (by simp only [List.forall_mem_cons]; exact ⟨.self, by simp⟩) (Nat.le_refl _)
    | false =>
      have hnew : ∀ a b, a < m → b < m → bmat X a b = mustB (C.take (k + 1)) a b := by
        intro a b ha hb
        rw [hXX a b ha hb, hsucc, linkB_at]; simp
      simp (disch := omega) only [Try.ntmps154, Try.results154, go_sem, rc, q0, q1, q2, lC]
      refine ⟨(k + 1, X), ⟨hlt, hX, hnew⟩, by show C.length - (k + 1) < C.length - k; omega, ?_⟩
      exact Wk.ofX (by simp only [go_sem, ↓List.forall_mem_cons, List.not_mem_nil, false_implies, implies_true, and_true, true_and, and_self, ri_eq, Int.natCast_add, Int.cast_ofNat_Int, rc]; try simp) (by simp only [List.forall_mem_cons]; exact ⟨.self, by simp⟩) (Nat.le_refl _)
  · obtain rfl : k = C.length := by omega
    rw [List.take_length] at hXX
    have w := Try.l17Labels_f m X (by omega) hX.1 hX.2 (fun x y hx hy h => by rw [hXX y x hy hx, mustB_sym]; rw [hXX x y hx hy] at h; exact h)
    have w2 : FCall Try.prog 167 [.val (.int .i64 m), rb X] (FlatRes m 1 (ints (comp m (mustB C)))) := w.mono fun r H ⟨h1, h2⟩ => by
      rw [(h1.congr hXX).eq] at h2; exact h2
    simp (disch := omega) only [Try.ntmps154, Try.results154, go_sem, rc]
    refine w2.one.callOne (ints_vals _) 2 (viewL_cons_of view_int (viewL_cons_of (view_mb .self hX.1.symm) viewL_nil_of)) ?_
    simp (disch := omega) only [Try.ntmps154, Try.results154, go_sem, rc]
    exact fin_ints must_ok.len.symm (by rw [hx_map, xmap_blk, if_pos rfl])
theorem Try.specMust_not (n : Int) (C : List Con) (hC : C.length ≤ 1048576) (g1 : -9223372036854775808 ≤ n) (g2 : n ≤ 9223372036854775807) (h : areCons n C = false) : FCall Try.prog 154 [.val (.int .i64 n), rc C] (FlatRes 0 1 (ints [])) := by
  have w1 := Try.specAreConstraints_ok n C hC g1 g2
  rw [h] at w1
  refine FCall.of_body Try.func154 rfl (by kernel_rfl) (by simp [Try.ntmps154]) ?_
  refine SW_of_vc Try.mixed _ _ _ (by kernel_rfl) ?_
  simp (disch := omega) only [Try.ntmps154, Try.results154, go_sem, rc]
  refine w1.callV 0 (viewL_cons_of (view_int) (viewL_cons_of (view_row) viewL_nil_of)) ?_
  simp (disch := omega) only [Try.ntmps154, Try.results154, go_sem, rc]
  exact fin_ints (L := []) (b := 0) (e2 := false) rfl rfl
theorem Try.specMust_ok (n : Int) (C : List Con) (hC : C.length ≤ 1048576) (g1 : -9223372036854775808 ≤ n) (g2 : n ≤ 9223372036854775807) : PCall Try.prog 154 [.val (.int .i64 n), rc C] (ri (must n C)) := by
  rcases Bool.eq_false_or_eq_true (areCons n C) with h | h
  · exact (Try.specMust_f n C hC h).pcall 2 (fun _ _ h => flat_view h)
  · rw [must_f h]; exact (Try.specMust_not n C hC g1 g2 h).pcall 2 (fun _ _ h => flat_view h)
end Go.Sh

/-
  Contracts: conflicts of constraints. Of the reference and of the program.
-/
namespace Go.Sh
set_option linter.unusedSimpArgs false
set_option linter.unusedVariables false
open Go Go.Proofs

def cfl (L : List Int) (c : Con) : Bool := !c.2.2 && decide (L.getD c.1.toNat 0 = L.getD c.2.1.toNat 0)
noncomputable def conflict (n : Int) (C : List Con) : Int := if areCons n C = true then fidx (cfl (must n C)) C else -1
theorem conflict_t {n : Int} {C : List Con} (h : areCons n C = true) : conflict n C = fidx (cfl (must n C)) C := by rw [conflict, if_pos h]
theorem conflict_f {n : Int} {C : List Con} (h : areCons n C = false) : conflict n C = -1 := by rw [conflict, if_neg (by rw [h]; simp)]
theorem cfl_at (L : List Int) (x y : Nat) (s : Bool) : cfl L ((x : Int), (y : Int), s) = (!s && decide (L.getD x 0 = L.getD y 0)) := rfl

set_option maxHeartbeats 2000000 in
theorem Try.findFn_ok (L : List Int) (x y : Nat) (s : Bool) (hx : x < L.length) (hy : y < L.length) (hL : L.length ≤ 1048576) :
    PCall Try.prog 172 [.agg [.val (.int .i64 x), .val (.int .i64 y), .val (.bool s)], .rptr [ri L] 0] (.val (.bool (!s && decide (L.getD x 0 = L.getD y 0)))) := by
  refine FCall.pcall (R := fun r _ => r = .val (.bool (!s && decide (L.getD x 0 = L.getD y 0)))) ?_ 0 (by rintro r H rfl; exact view_bool)
  refine FCall.of_body Try.func172 rfl (by kernel_rfl) (by simp [Try.ntmps172]) ?_
  refine SW_of_vc Try.mixed _ _ _ (by kernel_rfl) ?_
  cases s with
  | true =>
    simp (disch := omega) only [Try.ntmps172, Try.results172, go_sem]
    exact Fin.val rfl
  | false =>
    have g1 := ints_get hx
    have g2 := ints_get hy
    generalize L.getD x 0 = a at *
    generalize L.getD y 0 = b at *
    by_cases h : a = b
    · simp (disch := omega) only [Try.ntmps172, Try.results172, go_sem, g1, g2]
      exact Fin.val (by simp [h])
    · simp (disch := omega) only [Try.ntmps172, Try.results172, go_sem, g1, g2]
      exact Fin.val (by simp [h])

theorem Try.implFind_ok (n : Int) (C : List Con) (hC : C.length ≤ 1048576) : PCall Try.prog 164 [.val (.int .i64 n), rc C] (.val (.int .i64 (conflict n C))) := by
  refine FCall.pcall (R := fun r _ => r = .val (.int .i64 (conflict n C))) ?_ 0 (by rintro r H rfl; exact view_int)
  refine FCall.of_body Try.func164 rfl (by kernel_rfl) (by simp [Try.ntmps164]) ?_
  refine SW_of_vc Try.mixed _ _ _ (by kernel_rfl) ?_
  rcases Bool.eq_false_or_eq_true (areCons n C) with h | h
  · have hl := must_length h
    obtain ⟨⟨n1, n2⟩, _, hg⟩ := areCons_t h
    rw [conflict_t h]
    simp (disch := omega) only [Try.ntmps164, Try.results164, go_sem, rc]
    refine (Try.implMust_one n C hC h).callOne (ints_vals _) 0 (viewL_cons_of (view_int) (viewL_cons_of (view_row) viewL_nil_of)) ?_
    simp (disch := omega) only [Try.ntmps164, Try.results164, go_sem, rc]
    refine (Try.indexFuncM_ok 172 [.rptr [ri (must n C)] 0] C (cfl (must n C)) hC (cap_rptr _ _) (fun k hk => ?_)).callV 3
      (viewL_cons_of view_row (viewL_cons_of (view_clos (viewL_cons_of (view_optr rfl (viewL_cons_of (view_own rfl hl.symm) viewL_nil_of)) viewL_nil_of)) viewL_nil_of)) ?_
    · obtain ⟨x, y, s, hc, hxy, hyn⟩ := con_nat h hk
      rw [hc]
      exact Try.findFn_ok (must n C) x y s (by omega) (by omega) (by omega)
    simp (disch := omega) only [Try.ntmps164, Try.results164, go_sem, rc]
    exact Fin.val rfl
  · rw [conflict_f h]
    simp (disch := omega) only [Try.ntmps164, Try.results164, go_sem, rc]
    refine (Try.implMust_nil n C hC h).callVal 0 (viewL_cons_of (view_int) (viewL_cons_of (view_row) viewL_nil_of)) ?_
    simp (disch := omega) only [Try.ntmps164, Try.results164, go_sem, rc]
    exact Fin.val rfl

set_option maxHeartbeats 2000000 in
theorem Try.specFind_ok (n : Int) (C : List Con) (hC : C.length ≤ 1048576) (z1 : -9223372036854775808 ≤ n) (z2 : n ≤ 9223372036854775807) : PCall Try.prog 134 [.val (.int .i64 n), rc C] (.val (.int .i64 (conflict n C))) := by
  refine FCall.pcall (R := fun r _ => r = .val (.int .i64 (conflict n C))) ?_ 0 (by rintro r H rfl; exact view_int)
  refine FCall.of_body Try.func134 rfl (by kernel_rfl) (by simp [Try.ntmps134]) ?_
  refine SW_of_vc Try.mixed _ _ _ (by kernel_rfl) ?_
  have lC := cons_length C
  have w := Try.specMust_ok n C hC z1 z2
  simp (disch := omega) only [Try.ntmps134, Try.results134, go_sem, rc]
  refine w.callV 0 (viewL_cons_of (view_int) (viewL_cons_of (view_row) viewL_nil_of)) ?_
  simp (disch := omega) only [Try.ntmps134, Try.results134, go_sem, rc]
  refine LoopW.loop (fun k : Nat => ⟨ofL [(1, rc C), (5, ri (must n C)), (6, .val (.int .i64 k))], hp [] 0⟩) (fun k => k ≤ C.length ∧ (areCons n C = true → ∀ i, i < k → cfl (must n C) (cg C i) = false) ∧ (areCons n C = false → k = 0)) (fun k => C.length - k) 0 ⟨by omega, by simp, by simp⟩ (Wk.of (by simp only [go_sem, ↓List.forall_mem_cons, List.not_mem_nil, false_implies, implies_true, and_true, true_and, and_self, ri_eq, Int.natCast_add, Int.cast_ofNat_Int, rc]; try simp) rfl) ?_
  rintro k ⟨hk, hkk, hk0⟩
  refine SW_of_vc Try.mixed _ _ _ (by kernel_rfl) ?_
  rcases Bool.eq_false_or_eq_true (areCons n C) with h | h
  · have hl := must_length h
    obtain ⟨⟨n1, n2⟩, _, hg⟩ := areCons_t h
    have hkk := hkk h
    rw [conflict_t h]
    generalize must n C = L at *
    by_cases hlt : k < C.length
    · obtain ⟨x, y, s, hc, hxy, hyn⟩ := con_nat h hlt
      obtain ⟨q0, q1, q2, q3⟩ := cons_of hlt hc
      have hcf := cfl_at L x y s
      cases s with
      | true =>
        simp (disch := omega) only [Try.ntmps134, Try.results134, go_sem, rc, q0, q1, q2, lC]
        refine ⟨k + 1, ⟨by omega, fun _ i hi => ?_, fun e => by rw [h] at e; cases e⟩, by omega, Wk.of (by simp only [go_sem, ↓List.forall_mem_cons, List.not_mem_nil, false_implies, implies_true, and_true, true_and, and_self, ri_eq, Int.natCast_add, Int.cast_ofNat_Int, rc]; try simp) rfl⟩
        rcases Nat.lt_succ_iff_lt_or_eq.mp hi with g | rfl
        · exact hkk i g
        · rw [hc, hcf]; rfl
      | false =>
        have g1 := ints_get (L := L) (k := x) (by omega)
        have g2 := ints_get (L := L) (k := y) (by omega)
        generalize hva : L.getD x 0 = a at *
        generalize hvb : L.getD y 0 = b at *
        by_cases hab : a = b
        · simp (disch := omega) only [Try.ntmps134, Try.results134, go_sem, rc, q0, q1, q2, lC, g1, g2]
          exact Fin.val (by rw [fidx_some hlt hkk (by rw [hc, hcf]; simp [hab])])
        · simp (disch := omega) only [Try.ntmps134, Try.results134, go_sem, rc, q0, q1, q2, lC, g1, g2]
          refine ⟨k + 1, ⟨by omega, fun _ i hi => ?_, fun e => by rw [h] at e; cases e⟩, by omega, Wk.of (by simp only [go_sem, ↓List.forall_mem_cons, List.not_mem_nil, false_implies, implies_true, and_true, true_and, and_self, ri_eq, Int.natCast_add, Int.cast_ofNat_Int, rc]; try simp) rfl⟩
          rcases Nat.lt_succ_iff_lt_or_eq.mp hi with g | rfl
          · exact hkk i g
          · rw [hc, hcf]; simp [hab]
    · simp (disch := omega) only [Try.ntmps134, Try.results134, go_sem, rc, lC]
      exact Fin.val (by rw [fidx_none (fun i hi => hkk i (by omega))])
  · have hm := must_f h
    rw [conflict_f h]
    by_cases hlt : k < C.length
    · simp (disch := omega) only [Try.ntmps134, Try.results134, go_sem, rc, lC, hm]
      exact Fin.val rfl
    · simp (disch := omega) only [Try.ntmps134, Try.results134, go_sem, rc, lC, hm]
      exact Fin.val rfl

def consistent (n : Int) (C : List Con) : Prop := areCons n C = true ∧ conflict n C < 0
open Classical in
noncomputable def isCst (n : Int) (C : List Con) : Bool := areCons n C && decide (conflict n C < 0)
theorem Try.implConsistent_ok (n : Int) (C : List Con) (hC : C.length ≤ 1048576) : PCall Try.prog 150 [.val (.int .i64 n), rc C] (.val (.bool (isCst n C))) := by
  refine FCall.pcall (R := fun r _ => r = .val (.bool (isCst n C))) ?_ 0 (by rintro r H rfl; exact view_bool)
  refine FCall.of_body Try.func150 rfl (by kernel_rfl) (by simp [Try.ntmps150]) ?_
  refine SW_of_vc Try.mixed _ _ _ (by kernel_rfl) ?_
  have w1 := Try.implAreConstraints_ok n C hC
  have w2 := Try.implFind_ok n C hC
  rcases Bool.eq_false_or_eq_true (areCons n C) with h | h
  · rw [h] at w1
    by_cases hc : conflict n C < 0
    · simp (disch := omega) only [Try.ntmps150, Try.results150, go_sem, rc]
      refine w1.callV 0 (viewL_cons_of (view_int) (viewL_cons_of (view_row) viewL_nil_of)) ?_
      simp (disch := omega) only [Try.ntmps150, Try.results150, go_sem, rc]
      refine w2.callV 0 (viewL_cons_of (view_int) (viewL_cons_of (view_row) viewL_nil_of)) ?_
      simp (disch := omega) only [Try.ntmps150, Try.results150, go_sem, rc]
      exact Fin.val (by simp [isCst, h, hc])
    · simp (disch := omega) only [Try.ntmps150, Try.results150, go_sem, rc]
      refine w1.callV 0 (viewL_cons_of (view_int) (viewL_cons_of (view_row) viewL_nil_of)) ?_
      simp (disch := omega) only [Try.ntmps150, Try.results150, go_sem, rc]
      refine w2.callV 0 (viewL_cons_of (view_int) (viewL_cons_of (view_row) viewL_nil_of)) ?_
      simp (disch := omega) only [Try.ntmps150, Try.results150, go_sem, rc]
      exact Fin.val (by simp [isCst, hc])
  · rw [h] at w1
    simp (disch := omega) only [Try.ntmps150, Try.results150, go_sem, rc]
    refine w1.callV 0 (viewL_cons_of (view_int) (viewL_cons_of (view_row) viewL_nil_of)) ?_
    simp (disch := omega) only [Try.ntmps150, Try.results150, go_sem, rc]
    exact Fin.val (by simp [isCst, h])
theorem Try.specConsistent_ok (n : Int) (C : List Con) (hC : C.length ≤ 1048576) (z1 : -9223372036854775808 ≤ n) (z2 : n ≤ 9223372036854775807) : PCall Try.prog 110 [.val (.int .i64 n), rc C] (.val (.bool (isCst n C))) := by
  refine FCall.pcall (R := fun r _ => r = .val (.bool (isCst n C))) ?_ 0 (by rintro r H rfl; exact view_bool)
  refine FCall.of_body Try.func110 rfl (by kernel_rfl) (by simp [Try.ntmps110]) ?_
  refine SW_of_vc Try.mixed _ _ _ (by kernel_rfl) ?_
  have w1 := Try.specAreConstraints_ok n C hC z1 z2
  have w2 := Try.specFind_ok n C hC z1 z2
  rcases Bool.eq_false_or_eq_true (areCons n C) with h | h
  · rw [h] at w1
    by_cases hc : conflict n C < 0
    · simp (disch := omega) only [Try.ntmps110, Try.results110, go_sem, rc]
      refine w1.callV 0 (viewL_cons_of (view_int) (viewL_cons_of (view_row) viewL_nil_of)) ?_
      simp (disch := omega) only [Try.ntmps110, Try.results110, go_sem, rc]
      refine w2.callV 0 (viewL_cons_of (view_int) (viewL_cons_of (view_row) viewL_nil_of)) ?_
      simp (disch := omega) only [Try.ntmps110, Try.results110, go_sem, rc]
      exact Fin.val (by simp [isCst, h, hc])
    · simp (disch := omega) only [Try.ntmps110, Try.results110, go_sem, rc]
      refine w1.callV 0 (viewL_cons_of (view_int) (viewL_cons_of (view_row) viewL_nil_of)) ?_
      simp (disch := omega) only [Try.ntmps110, Try.results110, go_sem, rc]
      refine w2.callV 0 (viewL_cons_of (view_int) (viewL_cons_of (view_row) viewL_nil_of)) ?_
      simp (disch := omega) only [Try.ntmps110, Try.results110, go_sem, rc]
      exact Fin.val (by simp [isCst, hc])
  · rw [h] at w1
    simp (disch := omega) only [Try.ntmps110, Try.results110, go_sem, rc]
    refine w1.callV 0 (viewL_cons_of (view_int) (viewL_cons_of (view_row) viewL_nil_of)) ?_
    simp (disch := omega) only [Try.ntmps110, Try.results110, go_sem, rc]
    exact Fin.val (by simp [isCst, h])
end Go.Sh

/-
  Contracts: how constraints relate two items. Of the reference and of the program.
-/
namespace Go.Sh
set_option linter.unusedSimpArgs false
set_option linter.unusedVariables false
open Go Go.Proofs

def apF (L : List Int) (p q : Int) (c : Con) : Bool := !c.2.2 && ((decide (L.getD c.1.toNat 0 = p) && decide (L.getD c.2.1.toNat 0 = q)) || (decide (L.getD c.1.toNat 0 = q) && decide (L.getD c.2.1.toNat 0 = p)))
theorem apF_at (L : List Int) (p q : Int) (x y : Nat) (s : Bool) : apF L p q ((x : Int), (y : Int), s) = (!s && ((decide (L.getD x 0 = p) && decide (L.getD y 0 = q)) || (decide (L.getD x 0 = q) && decide (L.getD y 0 = p)))) := rfl
noncomputable def relOf (n : Int) (C : List Con) (a b : Int) : Int :=
  if isCst n C = true ∧ inR a 0 (n - 1) = true ∧ inR b 0 (n - 1) = true then
    (if (must n C).getD a.toNat 0 = (must n C).getD b.toNat 0 then 1 else if C.any (apF (must n C) ((must n C).getD a.toNat 0) ((must n C).getD b.toNat 0)) = true then -1 else 0)
  else 0
theorem isCst_t {n : Int} {C : List Con} (h : isCst n C = true) : areCons n C = true := by
  simp only [isCst, Bool.and_eq_true] at h; exact h.1

end Go.Sh

/-
  What the search for the best partition finds: plain.
-/
namespace Go.Sh
set_option linter.unusedSimpArgs false
set_option linter.unusedVariables false
open Go Go.Proofs

def topP (nx : Int) (L : List Int) : Int := L.foldl (fun m x => max m (x + 1)) nx
theorem topP_append (nx : Int) (L K : List Int) : topP nx (L ++ K) = topP (topP nx L) K := by simp [topP, List.foldl_append]
theorem okP_append2 : ∀ (L K : List Int) (nx : Int), okP nx (L ++ K) = (okP nx L && okP (topP nx L) K)
  | [], K, nx => by simp [okP, topP]
  | x :: L, K, nx => by
    rw [List.cons_append, okP, okP_append2 L K, okP, Bool.and_assoc]
    rfl
theorem take_snocB {L : List Int} {k : Nat} (h : k < L.length) : L.take (k + 1) = L.take k ++ [L.getD k 0] := by
  rw [List.take_succ_eq_append_getElem h]; simp [h]
theorem okP_take {L : List Int} (h0 : ∀ x, x < L.length → 0 ≤ L.getD x 0) (hc : ∀ x v, x < L.length → 0 ≤ v → v < L.getD x 0 → ∃ y, y < x ∧ L.getD y 0 = v) : ∀ k, k ≤ L.length →
    okP 0 (L.take k) = true ∧ 0 ≤ topP 0 (L.take k) ∧ ∀ y, y < k → L.getD y 0 + 1 ≤ topP 0 (L.take k)
  | 0, _ => by simp [okP, topP]
  | k + 1, hk => by
    obtain ⟨h1, h2, h3⟩ := okP_take h0 hc k (by omega)
    rw [take_snocB (by omega), okP_append2, topP_append]
    have e : topP (topP 0 (L.take k)) [L.getD k 0] = max (topP 0 (L.take k)) (L.getD k 0 + 1) := rfl
    have hk0 := h0 k (by omega)
    have hle : L.getD k 0 ≤ topP 0 (L.take k) := by
      by_cases hz : L.getD k 0 = 0
      · omega
      · obtain ⟨y, g1, g2⟩ := hc k (L.getD k 0 - 1) (by omega) (by omega) (by omega)
        have := h3 y g1
        omega
    rw [e]
    refine ⟨?_, by omega, fun y hy => ?_⟩
    · simp only [okP, h1, Bool.and_true, Bool.true_and, inR, Bool.and_eq_true, decide_eq_true_eq]
      exact ⟨hk0, hle⟩
    · rcases Nat.lt_succ_iff_lt_or_eq.mp hy with h | rfl
      · have := h3 y h; omega
      · omega
theorem CompL.okP {n : Nat} {B : Nat → Nat → Bool} {L : List Int} (h : CompL n B L) : okP 0 L = true := by
  have hl := h.len
  have := (okP_take (L := L) (fun x hx => h.nn x (by omega)) (fun x v hx => h.can x v (by omega)) L.length (Nat.le_refl _)).1
  rwa [List.take_length] at this
theorem CompL.part {n : Nat} {B : Nat → Nat → Bool} {L : List Int} (h : CompL n B L) (h1 : 1 ≤ n) (h8 : n ≤ 8) : isPart L = true := by
  have hl := h.len
  rw [isPart, h.okP, hl]
  simp [inR]; omega
theorem must_part {n : Nat} {C : List Con} (h : areCons n C = true) : isPart (must n C) = true := by
  obtain ⟨⟨h1, h2⟩, _⟩ := areCons_t h
  rw [must_t h]
  exact must_ok.part (by omega) (by omega)
theorem isCst_neg {n : Int} {C : List Con} (h : isCst n C = true) : conflict n C < 0 := by
  rw [isCst, Bool.and_eq_true] at h
  simpa using h.2
/-- The closure of consistent constraints keeps them. -/
theorem must_keeps {n : Nat} {C : List Con} (h : isCst n C = true) : C.all (kp (must n C)) = true := by
  have ha := isCst_t h
  have hn := isCst_neg h
  rw [conflict_t ha] at hn
  have hno : C.any (cfl (must n C)) = false := by
    rw [← Bool.not_eq_true, ← fidx_ge]; omega
  have hl := must_length ha
  rw [List.all_eq_true]
  intro c hc
  obtain ⟨⟨h1, h2⟩, _, hg⟩ := areCons_t ha
  obtain ⟨g1, g2, g3⟩ := hg c hc
  rw [List.any_eq_false] at hno
  have hcf := hno c hc
  obtain ⟨a, b, s⟩ := c
  simp only at g1 g2 g3
  obtain ⟨x, rfl⟩ := Int.eq_ofNat_of_zero_le g1
  obtain ⟨y, rfl⟩ := Int.eq_ofNat_of_zero_le (by omega : 0 ≤ b)
  have r1 : inR (x : Int) 0 (((must n C).length : Int) - 1) = true := by rw [hl]; simp [inR]; omega
  have r2 : inR (y : Int) 0 (((must n C).length : Int) - 1) = true := by rw [hl]; simp [inR]; omega
  rw [kp]
  simp only [r1, r2, Bool.true_and]
  cases s with
  | false =>
    simp only [cfl, Bool.not_false, Bool.true_and, decide_eq_true_eq] at hcf
    rw [decide_eq_false hcf]; rfl
  | true =>
    have : mustB C x y = true := by
      rw [mustB, List.any_eq_true]
      exact ⟨_, hc, by simp [linkB]⟩
    have e : (must n C).getD x 0 = (must n C).getD y 0 := by
      rw [must_t ha]
      have hx : x < ((n : Int)).toNat := by omega
      have hy : y < ((n : Int)).toNat := by omega
      exact (must_ok.iff x y hx hy).2 (.one hx hy this)
    have e2 : (must n C).getD ((x : Int)).toNat 0 = (must n C).getD ((y : Int)).toNat 0 := e
    rw [decide_eq_true e2]; rfl

/-- What a search of all partitions keeps true. -/
theorem foldl_inv {α β : Type} {g : α → β → α} {I : α → Prop} : ∀ (l : List β) (s : α), I s → (∀ s x, x ∈ l → I s → I (g s x)) → I (l.foldl g s)
  | [], _, h, _ => h
  | x :: l, s, h, hg => by rw [List.foldl_cons]; exact foldl_inv l _ (hg s x (by simp) h) fun s y hy => hg s y (by simp [hy])
theorem each_inv {f : BS → List Int → BS} {I : BS → Prop} {n : Nat} (hf : ∀ s q, q.length = n → okP 0 q = true → I s → I (f s q)) : ∀ (k : Nat) (p : List Int) (nx : Nat) (s : BS), p.length + k = n → okP 0 p = true → topP 0 p = nx → I s → I (each f k p nx s)
  | 0, p, nx, s, hl, hp, _, hs => hf s p (by omega) hp hs
  | k + 1, p, nx, s, hl, hp, ht, hs => by
    rw [each]
    refine foldl_inv _ s hs fun s x hx hs => each_inv hf k _ _ s (by simp; omega) ?_ ?_ hs
    · have hx := List.mem_range.1 hx
      rw [okP_append2, hp, ht]
      simp [okP, inR]; omega
    · rw [topP_append, ht]
      simp [topP]; omega
theorem foldl_rel {α : Type} {g : α → Nat → α} {R : α → α → Prop} (hr : ∀ a, R a a) (ht : ∀ a b c, R a b → R b c → R a c) (hg : ∀ s x, R s (g s x)) : ∀ (l : List Nat) (s : α), R s (l.foldl g s)
  | [], s => hr s
  | x :: l, s => by rw [List.foldl_cons]; exact ht _ _ _ (hg s x) (foldl_rel hr ht hg l _)
theorem each_rel {f : BS → List Int → BS} {R : BS → BS → Prop} (hr : ∀ a, R a a) (ht : ∀ a b c, R a b → R b c → R a c) (hf : ∀ s q, R s (f s q)) : ∀ (k : Nat) (p : List Int) (nx : Nat) (s : BS), R s (each f k p nx s)
  | 0, p, nx, s => hf s p
  | k + 1, p, nx, s => by
    rw [each]
    exact foldl_rel hr ht (fun s x => each_rel hr ht hf k _ _ s) _ s
/-- Every partition is looked at. -/
theorem foldl_visit {α : Type} {g : α → Nat → α} {R : α → α → Prop} (ht : ∀ a b c, R a b → R b c → R a c) (hr : ∀ a, R a a) (hg : ∀ s x, R s (g s x)) {y : Nat} : ∀ (l : List Nat) (s : α), y ∈ l → ∃ s1, R s s1 ∧ R (g s1 y) (l.foldl g s)
  | x :: l, s, h => by
    rw [List.foldl_cons]
    by_cases e : y = x
    · subst e
      exact ⟨s, hr s, foldl_rel hr ht hg l _⟩
    · obtain ⟨s1, h1, h2⟩ := foldl_visit ht hr hg l (g s x) (by simpa [e] using h)
      exact ⟨s1, ht _ _ _ (hg s x) h1, h2⟩
theorem each_visit {f : BS → List Int → BS} {R : BS → BS → Prop} (hr : ∀ a, R a a) (ht : ∀ a b c, R a b → R b c → R a c) (hf : ∀ s q, R s (f s q)) : ∀ (k : Nat) (p r : List Int) (nx : Nat) (s : BS), r.length = k → okP nx r = true → ∃ s1, R s s1 ∧ R (f s1 (p ++ r)) (each f k p nx s)
  | 0, p, r, nx, s, hl, hp => by
    obtain rfl := List.length_eq_zero_iff.1 hl
    exact ⟨s, hr s, by rw [List.append_nil]; exact hr _⟩
  | k + 1, p, [], nx, s, hl, hp => by simp at hl
  | k + 1, p, y :: r, nx, s, hl, hp => by
    rw [okP, Bool.and_eq_true] at hp
    obtain ⟨y0, y1⟩ := inR_of hp.1
    obtain ⟨x, rfl⟩ := Int.eq_ofNat_of_zero_le y0
    rw [each]
    obtain ⟨s1, h1, h2⟩ := foldl_visit (g := fun s (x : Nat) => each f k (p ++ [(x : Int)]) (max nx (x + 1)) s) ht hr (fun s x => each_rel hr ht hf k _ _ s) (y := x) (List.range (nx + 1)) s (List.mem_range.2 (by omega))
    obtain ⟨s2, g1, g2⟩ := each_visit hr ht hf k (p ++ [(x : Int)]) r (max nx (x + 1)) s1 (by simpa using hl) (by
      have e : (((max nx (x + 1) : Nat)) : Int) = max (nx : Int) ((x : Int) + 1) := by omega
      rw [e]; exact hp.2)
    refine ⟨s2, ht _ _ _ h1 g1, ht _ _ _ ?_ h2⟩
    rw [List.append_assoc] at g2
    exact g2

def bs (M : List (List Int)) (C : List Con) : BS := each (updB M C) M.length [] 0 ⟨[], -1, 0⟩
structure Best (M : List (List Int)) (C : List Con) (s : BS) : Prop where
  nn : s.least < 0 → s.least = -1 ∧ s.first = [] ∧ s.count = 0
  ok : 0 ≤ s.least → s.first.length = M.length ∧ okP 0 s.first = true ∧ C.all (kp s.first) = true ∧ cc M s.first M.length = s.least ∧ 0 < s.count
theorem Best.updB {M : List (List Int)} {C : List Con} (hw : WM M) {s : BS} {q : List Int} (hl : q.length = M.length) (hq : okP 0 q = true) (h : Best M C s) : Best M C (updB M C s q) := by
  unfold Go.Sh.updB
  have hc := cc_b (L := q) hw M.length (Nat.le_refl _)
  split
  · rename_i hk
    rw [hl]
    split
    · exact ⟨fun g => by simp only at g; omega, fun _ => ⟨hl, hq, hk, rfl, by simp⟩⟩
    · split
      · rename_i g1 g2
        refine ⟨fun g => by simp only at g; omega, fun g => ?_⟩
        obtain ⟨a1, a2, a3, a4, a5⟩ := h.ok (by omega)
        exact ⟨a1, a2, a3, a4, by simp⟩
      · exact h
  · exact h
theorem bs_best {M : List (List Int)} {C : List Con} (hw : WM M) : Best M C (bs M C) :=
  each_inv (n := M.length) (fun s q h1 h2 h3 => h3.updB hw h1 h2) M.length [] 0 _ (by simp) rfl rfl ⟨fun _ => ⟨rfl, rfl, rfl⟩, fun h => by simp at h⟩
def Dn (s t : BS) : Prop := 0 ≤ s.least → 0 ≤ t.least ∧ t.least ≤ s.least
theorem upd_dn {M : List (List Int)} {C : List Con} (hw : WM M) (s : BS) (q : List Int) : q.length = M.length → Dn s (updB M C s q) := by
  intro hl h
  have hc := cc_b (L := q) hw M.length (Nat.le_refl _)
  unfold updB
  rw [hl]
  split
  · split
    · exact ⟨hc.1, by show cc M q M.length ≤ _; omega⟩
    · split
      · exact ⟨h, Int.le_refl _⟩
      · exact ⟨h, Int.le_refl _⟩
  · exact ⟨h, Int.le_refl _⟩
/-- No partition that keeps the constraints costs less. -/
theorem bs_least {M : List (List Int)} {C : List Con} (hw : WM M) {q : List Int} (hl : q.length = M.length) (hq : okP 0 q = true) (hk : C.all (kp q) = true) : 0 ≤ (bs M C).least ∧ (bs M C).least ≤ cc M q M.length := by
  have hc := cc_b (L := q) hw M.length (Nat.le_refl _)
  let f : BS → List Int → BS := fun s p => if p.length = M.length then updB M C s p else s
  have hfe : ∀ (k : Nat) (p : List Int) (nx : Nat) (s : BS), p.length + k = M.length → each f k p nx s = each (updB M C) k p nx s := by
    intro k
    induction k with
    | zero => intro p nx s h; exact if_pos (by omega)
    | succ k ih =>
      intro p nx s h
      rw [each, each]
      exact foldl_same _ _ fun s x _ => ih _ _ _ (by simp; omega)
  obtain ⟨s1, _, h2⟩ := each_visit (f := f) (R := Dn) (fun a h => ⟨h, Int.le_refl _⟩) (fun a b c h1 h2 h => by
    obtain ⟨a1, a2⟩ := h1 h
    obtain ⟨b1, b2⟩ := h2 a1
    exact ⟨b1, by omega⟩) (fun s p => by
      show Dn s (if p.length = M.length then updB M C s p else s)
      split
      · rename_i h; exact upd_dn hw s p h
      · exact fun h => ⟨h, Int.le_refl _⟩) M.length [] q 0 ⟨[], -1, 0⟩ hl hq
  rw [hfe _ _ _ _ (by simp), List.nil_append] at h2
  have e : f s1 q = updB M C s1 q := if_pos hl
  have h3 : 0 ≤ (updB M C s1 q).least ∧ (updB M C s1 q).least ≤ cc M q M.length := by
    unfold updB
    rw [if_pos hk, hl]
    split
    · exact ⟨hc.1, Int.le_refl _⟩
    · split
      · rename_i g1 g2
        exact ⟨by show 0 ≤ s1.least; omega, by show s1.least ≤ _; omega⟩
      · exact ⟨by omega, by omega⟩
  rw [e] at h2
  obtain ⟨a1, a2⟩ := h2 h3.1
  exact ⟨a1, by have : (each (updB M C) M.length [] 0 ⟨[], -1, 0⟩) = bs M C := rfl
                rw [this] at a2; omega⟩
/-- Consistent constraints are kept by a partition. -/
theorem bs_ok {M : List (List Int)} {C : List Con} (hw : WM M) (h : isCst M.length C = true) : 0 ≤ (bs M C).least := by
  have hp := must_part (isCst_t h)
  have hl := must_length (isCst_t h)
  rw [isPart, Bool.and_eq_true] at hp
  exact (bs_least hw (q := must M.length C) (by omega) hp.1 (must_keeps h)).1
theorem bs_walk {M : List (List Int)} {C : List Con} (hw : WM M) (h : areCons M.length C = true) : walkB M C M.length [] 0 0 ⟨[], -1, 0⟩ = bs M C := by
  have hg : C.all (goodCon M.length) = true := by
    rw [areCons] at h
    simp only [Bool.and_eq_true] at h
    exact h.2.2
  exact walk_each hw hg M.length [] 0 _ (by simp) (fun c hc hlt => by
    have g := List.all_eq_true.1 hg c hc
    simp only [goodCon, Bool.and_eq_true] at g
    have := inR_of g.2.1
    simp at hlt; omega)
end Go.Sh

/-
  Lists of structs as cells, for elements of any fixed number of cells; triangles.
-/
namespace Go.Sh
set_option linter.unusedSimpArgs false
set_option linter.unusedVariables false
open Go

section
variable {α : Type} {enc : α → List SV} {z : Nat}
def encL (enc : α → List SV) (L : List α) : List SV := L.flatMap enc
theorem encL_nil : encL enc [] = [] := rfl
theorem encL_cons (a : α) (L : List α) : encL enc (a :: L) = enc a ++ encL enc L := rfl
theorem encL_length (hz : ∀ a, (enc a).length = z) : ∀ L : List α, (encL enc L).length = L.length * z
  | [] => by simp [encL]
  | a :: L => by
    rw [encL_cons, List.length_append, hz, encL_length hz L, List.length_cons, Nat.add_mul, Nat.one_mul, Nat.add_comm]
theorem encL_drop (hz : ∀ a, (enc a).length = z) : ∀ (L : List α) (k : Nat), (encL enc L).drop (k * z) = encL enc (L.drop k)
  | L, 0 => by simp
  | [], k + 1 => by simp [encL]
  | a :: L, k + 1 => by
    rw [encL_cons, Nat.add_mul, Nat.one_mul, Nat.add_comm (k * z) z, ← hz a, List.drop_append, List.drop_eq_nil_of_le (by omega), List.nil_append, Nat.add_sub_cancel_left, hz a, encL_drop hz L k]
    rfl
theorem encL_load (hz : ∀ a, (enc a).length = z) {L : List α} {k : Nat} (h : k < L.length) : ((encL enc L).drop (k * z)).take z = enc L[k] := by
  rw [encL_drop hz, List.drop_eq_getElem_cons h, encL_cons, ← hz L[k], List.take_left]
theorem encL_at (hz : ∀ a, (enc a).length = z) {L : List α} {k i : Nat} (h : k < L.length) (hi : i < z) : (encL enc L)[k * z + i]? = (enc L[k])[i]? := by
  have h2 : (((encL enc L).drop (k * z)).take z)[i]? = (enc L[k])[i]? := by rw [encL_load hz h]
  rw [List.getElem?_take, if_pos hi, List.getElem?_drop] at h2
  exact h2
theorem encL_append (A B : List α) : encL enc A ++ encL enc B = encL enc (A ++ B) := by simp [encL]
theorem encL_take_self (hz : ∀ a, (enc a).length = z) (L : List α) : (encL enc L).take (L.length * z) = encL enc L := by rw [← encL_length hz, List.take_length]
theorem encL_vals (hv : ∀ a, (enc a).all isVal = true) : ∀ L : List α, (encL enc L).all isVal = true
  | [] => rfl
  | a :: L => by rw [encL_cons, List.all_append, hv, encL_vals hv L]; rfl
theorem splice_ge : ∀ (new l : List SV) (x : SV) (o : Nat), splice (x :: l) (o + 1) new = x :: splice l o new
  | [], l, x, o => rfl
  | c :: new, l, x, o => by
    show splice (x :: l.set o c) (o + 1 + 1) new = x :: splice (l.set o c) (o + 1) new
    exact splice_ge new (l.set o c) x (o + 1)
theorem splice_app : ∀ (pre l new : List SV) (o : Nat), splice (pre ++ l) (pre.length + o) new = pre ++ splice l o new
  | [], l, new, o => by simp
  | p :: pre, l, new, o => by
    have e : (p :: pre).length + o = pre.length + o + 1 := by simp; omega
    rw [e, List.cons_append, splice_ge, splice_app pre l new o, List.cons_append]
theorem splice_front : ∀ (new old l : List SV), old.length = new.length → splice (old ++ l) 0 new = new ++ l
  | [], old, l, h => by
    have : old = [] := List.length_eq_zero_iff.1 (by simpa using h)
    subst this; rfl
  | c :: new, [], l, h => by simp at h
  | c :: new, o :: old, l, h => by
    show splice ((o :: (old ++ l)).set 0 c) (0 + 1) new = c :: (new ++ l)
    rw [List.set_cons_zero, splice_ge, splice_front new old l (by simpa using h)]
theorem encL_splice (hz : ∀ a, (enc a).length = z) : ∀ {L : List α} {k : Nat} (a : α), k < L.length → splice (encL enc L) (k * z) (enc a) = encL enc (L.set k a)
  | [], k, a, h => by simp at h
  | b :: L, 0, a, _ => by
    rw [encL_cons, Nat.zero_mul, splice_front _ _ _ (by rw [hz, hz])]; rfl
  | b :: L, k + 1, a, h => by
    have e : (k + 1) * z = (enc b).length + k * z := by rw [hz, Nat.add_mul, Nat.one_mul, Nat.add_comm]
    rw [encL_cons, e, splice_app, encL_splice hz a (by simpa using h)]; rfl
theorem rep_enc (hz : ∀ a, (enc a).length = z) (h0 : 0 < z) (d : α) (n : Nat) : rep (enc d) (n * z) = encL enc (List.replicate n d) := by
  apply List.ext_getElem?
  intro i
  by_cases h : i < n * z
  · have h3 : i / z < n := Nat.div_lt_of_lt_mul (by rw [Nat.mul_comm]; exact h)
    have hm : i % z < z := Nat.mod_lt _ h0
    have e : i = i / z * z + i % z := (Nat.div_add_mod' i z).symm
    have h4 : (encL enc (List.replicate n d))[i]? = (enc d)[i % z]? := by
      conv => lhs; rw [e]
      rw [encL_at hz (by simpa using h3) hm]
      simp
    rw [h4]
    simp only [rep, List.getElem?_map]
    rw [List.getElem?_range h]
    simp only [Option.map_some, hz d]
    rw [List.getElem?_eq_getElem (by rw [hz d]; exact hm), List.getD_eq_getElem?_getD, List.getElem?_eq_getElem (by rw [hz d]; exact hm)]
    rfl
  · rw [List.getElem?_eq_none (by simp [rep]; omega), List.getElem?_eq_none (by rw [encL_length hz]; simp; omega)]
end

/-- A triangle: its items, its weight. -/
abbrev Tri := Int × Int × Int × Int
def tri4 (t : Tri) : List SV := [.val (.int .i64 t.1), .val (.int .i64 t.2.1), .val (.int .i64 t.2.2.1), .val (.int .i64 t.2.2.2)]
theorem tri4_z (t : Tri) : (tri4 t).length = 4 := rfl
theorem tri4_v (t : Tri) : (tri4 t).all isVal = true := rfl
def rt (T : List Tri) : SV := .row T.length false (encL tri4 T)
def tg (T : List Tri) (k : Nat) : Tri := T.getD k (0, 0, 0, 0)
theorem tri_of {T : List Tri} {k : Nat} {a b c w : Int} (h : k < T.length) (e : tg T k = (a, b, c, w)) : (encL tri4 T)[k * 4]? = some (.val (.int .i64 a)) ∧ (encL tri4 T)[k * 4 + 1]? = some (.val (.int .i64 b)) ∧ (encL tri4 T)[k * 4 + 2]? = some (.val (.int .i64 c)) ∧ (encL tri4 T)[k * 4 + 3]? = some (.val (.int .i64 w)) ∧
    ((encL tri4 T).drop (k * 4)).take 4 = [.val (.int .i64 a), .val (.int .i64 b), .val (.int .i64 c), .val (.int .i64 w)] := by
  have e2 : T[k] = (a, b, c, w) := by rw [← e]; simp [tg, h]
  have g := fun i hi => encL_at (enc := tri4) (z := 4) tri4_z h (i := i) hi
  rw [e2] at g
  refine ⟨g 0 (by omega), g 1 (by omega), g 2 (by omega), g 3 (by omega), ?_⟩
  rw [encL_load tri4_z h, e2]; rfl
theorem tri_set4 {T : List Tri} {k : Nat} {a b c w : Int} (h : k < T.length) : ((((encL tri4 T).set (k * 4) (.val (.int .i64 a))).set (k * 4 + 1) (.val (.int .i64 b))).set (k * 4 + 1 + 1) (.val (.int .i64 c))).set (k * 4 + 1 + 1 + 1) (.val (.int .i64 w)) = encL tri4 (T.set k (a, b, c, w)) := by
  have := encL_splice (enc := tri4) (z := 4) tri4_z (a, b, c, w) h
  simpa only [splice, tri4] using this
theorem rep_tri (n : Nat) : rep [.val (.int .i64 0), .val (.int .i64 0), .val (.int .i64 0), .val (.int .i64 0)] (n * 4) = encL tri4 (List.replicate n (0, 0, 0, 0)) := rep_enc (enc := tri4) tri4_z (by omega) (0, 0, 0, 0) n
theorem tri_ex (T : List Tri) (k : Nat) : ∃ a b c w, tg T k = (a, b, c, w) := ⟨_, _, _, _, rfl⟩
theorem viewL_encL {H : Heap} {f : Nat} : ∀ T : List Tri, viewL H f (encL tri4 T) = some (encL tri4 T)
  | [] => viewL_nil_of
  | t :: T => viewL_cons_of view_int (viewL_cons_of view_int (viewL_cons_of view_int (viewL_cons_of view_int (viewL_encL T))))
theorem flat_viewT {T : List Tri} {n : Nat} {r : SV} {H : Heap} (h : FlatRes n 4 (encL tri4 T) r H) : view H 2 r = some (rt T) := by
  have hl := h.length
  rw [encL_length (z := 4) tri4_z] at hl
  have hn : T.length = n := by omega
  obtain ⟨b, off, cap, ex, blk, rfl, h1, h2, h3, h4⟩ := h
  simp only [view, h1, h3, if_true, h2, viewL_encL, rt, hn]
end Go.Sh

/-
  Contracts: a number repeated.
-/
namespace Go.Sh
set_option linter.unusedSimpArgs false
set_option linter.unusedVariables false
open Go Go.Proofs

theorem fin_tup2 {R : SV → Heap → Prop} {a b : Value} {H : Heap} (h : R (.tup [.val a, .val b]) ⟨fun _ => none, H.nb⟩) : Fin R (.tup [.val a, .val b]) H :=
  ⟨⟨fun _ => none, H.nb⟩, ⟨rfl, fun _ => .inl rfl⟩, by simp [noRow, noRowL], fun b blk hb => by simp at hb, h⟩
theorem view_tup2 {H : Heap} {f : Nat} {j k : IntKind} {a b : Int} : view H (f + 1) (.tup [.val (.int j a), .val (.int k b)]) = some (.tup [.val (.int j a), .val (.int k b)]) := by
  simp only [view, viewL, viewV]

set_option maxHeartbeats 4000000 in
theorem Try.mul64_ok (n : Nat) (h : n ≤ 8) : PCall Try.prog 147 [.val (.int .u64 1), .val (.int .u64 n)] (.tup [.val (.int .u64 0), .val (.int .u64 n)]) := by
  refine FCall.pcall (R := fun r _ => r = .tup [.val (.int .u64 0), .val (.int .u64 n)]) ?_ 1 (by rintro r H rfl; exact view_tup2)
  refine FCall.of_body Try.func147 rfl (by kernel_rfl) (by simp [Try.ntmps147]) ?_
  refine SW_of_vc Try.mixed _ _ _ (by kernel_rfl) ?_
  simp (disch := omega) only [Try.ntmps147, Try.results147, go_sem]
  refine fin_tup2 ?_
  rcases (by omega : n = 0 ∨ n = 1 ∨ n = 2 ∨ n = 3 ∨ n = 4 ∨ n = 5 ∨ n = 6 ∨ n = 7 ∨ n = 8) with rfl | rfl | rfl | rfl | rfl | rfl | rfl | rfl | rfl
  all_goals kernel_rfl
set_option maxHeartbeats 4000000 in
theorem Try.bitsMul_ok (n : Nat) (h : n ≤ 8) : PCall Try.prog 127 [.val (.int .u64 1), .val (.int .u64 n)] (.tup [.val (.int .u64 0), .val (.int .u64 n)]) := by
  refine FCall.pcall (R := fun r _ => r = .tup [.val (.int .u64 0), .val (.int .u64 n)]) ?_ 1 (by rintro r H rfl; exact view_tup2)
  refine FCall.of_body Try.func127 rfl (by kernel_rfl) (by simp [Try.ntmps127]) ?_
  refine SW_of_vc Try.mixed _ _ _ (by kernel_rfl) ?_
  simp (disch := omega) only [Try.ntmps127, Try.results127, go_sem]
  refine (Try.mul64_ok n h).callV 0 (viewL_cons_of (view_int) (viewL_cons_of (view_int) viewL_nil_of)) ?_
  simp (disch := omega) only [Try.ntmps127, Try.results127, go_sem]
  exact fin_tup2 rfl

def repL (n c : Nat) (a : Int) : List Int := List.replicate c a ++ List.replicate (n - c) 0
theorem repL_length {n c : Nat} {a : Int} (h : c ≤ n) : (repL n c a).length = n := by simp [repL]; omega
theorem repL_zero (n : Nat) (a : Int) : repL n 0 a = List.replicate n 0 := by simp [repL]
theorem repL_all (n : Nat) (a : Int) : repL n n a = List.replicate n a := by simp [repL]
theorem repL_splice {n c m : Nat} {a : Int} (h : c + m ≤ n) : splice (ints (repL n c a)) c (ints (List.replicate m a)) = ints (repL n (c + m) a) := by
  have e1 : ints (repL n c a) = ints (List.replicate c a) ++ (ints (List.replicate m 0) ++ ints (List.replicate (n - c - m) 0)) := by
    rw [repL, ints_append, ints_append]
    congr 2
    have : n - c = m + (n - c - m) := by omega
    conv => lhs; rw [this]
    rw [← List.replicate_append_replicate]
  have e2 : c = (ints (List.replicate c a)).length + 0 := by simp [ints]
  rw [e1]
  conv => lhs; arg 2; rw [e2]
  rw [splice_app, splice_front _ _ _ (by simp [ints]), repL, ints_append, ints_append]
  congr 1
  rw [← List.replicate_append_replicate, List.append_assoc]
  congr 3; omega
theorem repL_take {n c m : Nat} {a : Int} (h : m ≤ c) : (repL n c a).take m = List.replicate m a := by
  rw [repL, List.take_append_of_le_length (by simpa using h), List.take_replicate]
  congr 1; omega

set_option maxHeartbeats 4000000 in
theorem Try.repeat_f (n : Nat) (a : Int) (h1 : 1 ≤ n) (h : n ≤ 8) : FCall Try.prog 97 [ri [a], .val (.int .i64 n)] (FlatRes n 1 (ints (List.replicate n a))) := by
  refine FCall.of_body Try.func97 rfl (by kernel_rfl) (by simp [Try.ntmps97]) ?_
  refine SW_of_vc Try.mixed _ _ _ (by kernel_rfl) ?_
  have hz := repL_zero n a
  have e1 : IntKind.u64.wrap ((1 : Nat) : Int) = 1 := by kernel_rfl
  have e2 : IntKind.u64.wrap (n : Int) = n := by
    rcases (by omega : n = 1 ∨ n = 2 ∨ n = 3 ∨ n = 4 ∨ n = 5 ∨ n = 6 ∨ n = 7 ∨ n = 8) with rfl | rfl | rfl | rfl | rfl | rfl | rfl | rfl
    all_goals kernel_rfl
  simp (disch := omega) only [Try.ntmps97, Try.results97, go_sem, e1, e2]
  have hmin : min 1 n = 1 := by omega
  have hlr : (List.replicate n (0 : Int)).length = n := by simp
  have ht1 : (ints (List.replicate n 0)).take n = ints (List.replicate n 0) := ints_take_of hlr
  have ht2 : (ints [a]).take 1 = ints [a] := rfl
  have hs0 : splice (ints (List.replicate n 0)) 0 (ints [a]) = ints (repL n 1 a) := by
    have := repL_splice (n := n) (c := 0) (m := 1) (a := a) (by omega)
    rwa [hz] at this
  refine (Try.bitsMul_ok n h).callV 0 (viewL_cons_of (view_int) (viewL_cons_of (view_int) viewL_nil_of)) ?_
  simp (disch := omega) only [Try.ntmps97, Try.results97, go_sem, e1, e2, hlr, ht1, ints_flat, hmin, ht2, hs0]
  refine LoopW.loop (fun c : Nat => ⟨ofL [(7, .own 0 0 n n 1 true), (8, .val (.int .i64 c))], hp [(0, ⟨ints (repL n c a), true⟩)] 1⟩) (fun c => 1 ≤ c ∧ c ≤ n) (fun c => n - c) 1 ⟨by omega, h1⟩ (Wk.of (by simp only [go_sem, ↓List.forall_mem_cons, List.not_mem_nil, false_implies, implies_true, and_true, true_and, and_self, ri_eq, Int.natCast_add, Int.cast_ofNat_Int]; try simp) rfl) ?_
  rintro c ⟨hc1, hc⟩
  have hl := repL_length (a := a) hc
  refine SW_of_vc Try.mixed _ _ _ (by kernel_rfl) ?_
  by_cases hlt : c < n
  · obtain ⟨m, hm⟩ : ∃ m, min c (n - c) = m := ⟨_, rfl⟩
    have hm1 : c + m ≤ n := by omega
    have hm2 : m ≤ c := by omega
    have hm3 : 1 ≤ m := by omega
    have hsp := repL_splice (n := n) (c := c) (m := m) (a := a) hm1
    have htk := repL_take (n := n) (c := c) (m := m) (a := a) hm2
    have htc : ((ints (repL n c a)).take c).take m = ints (List.replicate m a) := by rw [List.take_take, Nat.min_eq_left hm2, ints_take, htk]
    have hfl : ((ints (repL n c a)).take c).all flat = true := by rw [ints_take]; exact ints_flat _
    simp (disch := omega) only [Try.ntmps97, Try.results97, go_sem, hl, hfl, hm, htc, hsp]
    exact ⟨c + m, ⟨by omega, hm1⟩, by omega, Wk.of (by simp only [go_sem, ↓List.forall_mem_cons, List.not_mem_nil, false_implies, implies_true, and_true, true_and, and_self, ri_eq, Int.natCast_add, Int.cast_ofNat_Int]; try simp) rfl⟩
  · obtain rfl : c = n := by omega
    rw [repL_all]
    simp (disch := omega) only [Try.ntmps97, Try.results97, go_sem]
    exact fin_ints (by simp) (by rw [hp_map, hmap_cons, if_pos rfl])
theorem Try.repeat_one (n : Nat) (a : Int) (h1 : 1 ≤ n) (h : n ≤ 8) : FCall Try.prog 97 [ri [a], .val (.int .i64 n)] (OneRes n 1 (ints (List.replicate n a))) := (Try.repeat_f n a h1 h).one
end Go.Sh

/-
  Contracts: labels by first occurrence. Of the reference.
-/
namespace Go.Sh
set_option linter.unusedSimpArgs false
set_option linter.unusedVariables false
open Go Go.Proofs

theorem cstep_nodup {s : List Int × List Int} {x : Int} (h : s.1.Nodup) : (cstep s x).1.Nodup := by
  unfold cstep
  split
  · exact h
  · rename_i hx
    show (s.1 ++ [x]).Nodup
    rw [List.nodup_append]
    refine ⟨h, by simp, ?_⟩
    intro a ha b hb
    simp at hb
    subst hb
    exact fun e => hx (e ▸ ha)
theorem cst_nodup : ∀ (L : List Int) (s : List Int × List Int), s.1.Nodup → (L.foldl cstep s).1.Nodup
  | [], s, h => h
  | x :: L, s, h => cst_nodup L (cstep s x) (cstep_nodup h)
theorem idx_eq {x : Int} {L : List Int} {k : Nat} (hk : k < L.length) (hd : L.Nodup) (e : L.getD k 0 = x) : idx x (L.take (k + 1)) = k := by
  refine idx_some (by simp; omega) (fun i hi => ?_) ?_
  · intro h
    have hi' : i < L.length := by omega
    have h1 : L[i] = L[k] := by
      have h2 : (L.take (k + 1)).getD i 0 = L[i] := by simp [hi', show i < k + 1 by omega]
      have h3 : L.getD k 0 = L[k] := by simp [hk]
      rw [← h2, h, ← h3, e]
    exact List.pairwise_iff_getElem.1 hd i k hi' hk hi h1
  · rw [← e]; simp [hk]
theorem idx_ne {x : Int} {L : List Int} {k : Nat} (hk : k < L.length) (e : L.getD k 0 ≠ x) : idx x (L.take (k + 1)) = idx x (L.take k) := by
  have h3 : L.getD k 0 = L[k] := by simp [hk]
  rw [h3] at e
  rw [List.take_succ_eq_append_getElem hk]
  unfold idx
  by_cases h : x ∈ L.take k
  · rw [if_pos h, if_pos (List.mem_append.2 (.inl h)), List.idxOf_append, if_pos h]
  · rw [if_neg h, if_neg]
    simp only [List.mem_append, List.mem_singleton, not_or]
    exact ⟨h, fun h => e h.symm⟩
theorem idx_nil (x : Int) : idx x [] = -1 := by simp [idx]

set_option maxHeartbeats 2000000 in
theorem Try.specCanon_f (L : List Int) (hL : L.length ≤ 1048576) : FCall Try.prog 100 [ri L] (FlatRes L.length 1 (ints (canon L))) := by
  refine FCall.of_body Try.func100 rfl (by kernel_rfl) (by simp [Try.ntmps100]) ?_
  refine SW_of_vc Try.mixed _ _ _ (by kernel_rfl) ?_
  simp (disch := omega) only [Try.ntmps100, Try.results100, go_sem]
  refine LoopW.loop (fun p : Nat × Nat × Nat × Nat => ⟨ofL [(0, ri L), (3, .own p.2.1 0 (cst (L.take p.1)).2.length (cst (L.take p.1)).2.length 1 false), (4, .own p.2.2.1 0 (cst (L.take p.1)).1.length (cst (L.take p.1)).1.length 1 false), (5, .val (.int .i64 p.1))],
      hp [(p.2.1, ⟨ints (cst (L.take p.1)).2, false⟩), (p.2.2.1, ⟨ints (cst (L.take p.1)).1, false⟩)] p.2.2.2⟩)
    (fun p => p.1 ≤ L.length ∧ p.2.1 < p.2.2.2 ∧ p.2.2.1 < p.2.2.2 ∧ p.2.1 ≠ p.2.2.1) (fun p => L.length - p.1) (0, 0, 1, 2) ⟨by simp, by simp, by simp, by simp⟩
    (Wk.ofH (by simp only [go_sem, ↓List.forall_mem_cons, List.not_mem_nil, false_implies, implies_true, and_true, true_and, and_self, ri_eq, Int.natCast_add, Int.cast_ofNat_Int, List.take_zero, cst_zero, List.length_nil]; try simp) (by simp (disch := omega) only [go_sem, ↓List.forall_mem_cons, List.not_mem_nil, false_implies, implies_true, and_true, true_and, and_self, ri_eq, Int.natCast_add, Int.cast_ofNat_Int, if_pos, if_neg, Nat.reduceAdd, List.nil_append, List.take_zero, cst_zero, ints_nil]; try simp) (by simp [hp])) ?_
  rintro ⟨k, b1, b2, nb⟩ ⟨hk, hb1, hb2, hb3⟩
  simp only at hk hb1 hb2 hb3
  have l1 := cst_len1 (L.take k)
  have l2 := cst_len2 (L.take k)
  have l3 : (L.take k).length = k := by simp; omega
  have e1 := fun h => cst_succ (L := L) (k := k) h
  have hd : (cst (L.take k)).1.Nodup := cst_nodup _ _ (by simp)
  generalize he : cst (L.take k) = st at *
  obtain ⟨seen, out⟩ := st
  simp only at l1 l2 e1 hd ⊢
  refine SW_of_vc Try.mixed _ _ _ (by kernel_rfl) ?_
  by_cases hlt : k < L.length
  · have e1 := e1 hlt
    simp (disch := omega) only [Try.ntmps100, Try.results100, go_sem]
    refine LoopW.loop (fun i : Nat => ⟨ofL [(0, ri L), (3, .own b1 0 out.length out.length 1 false), (4, .own b2 0 seen.length seen.length 1 false), (5, .val (.int .i64 k)), (6, .val (.int .i64 (idx (L.getD k 0) (seen.take i)))), (7, .val (.int .i64 i))],
        hp [(b1, ⟨ints out, false⟩), (b2, ⟨ints seen, false⟩)] nb⟩) (fun i => i ≤ seen.length) (fun i => seen.length - i) 0 (by omega) (Wk.of (by simp only [go_sem, ↓List.forall_mem_cons, List.not_mem_nil, false_implies, implies_true, and_true, true_and, and_self, ri_eq, Int.natCast_add, Int.cast_ofNat_Int, List.take_zero, idx_nil]; try simp) rfl) ?_
    intro i hi
    refine SW_of_vc Try.mixed _ _ _ (by kernel_rfl) ?_
    by_cases hil : i < seen.length
    · by_cases hx : seen.getD i 0 = L.getD k 0
      · have ei := idx_eq hil hd hx
        simp (disch := omega) only [Try.ntmps100, Try.results100, go_sem]
        exact ⟨i + 1, by omega, by omega, Wk.of (by simp only [go_sem, ↓List.forall_mem_cons, List.not_mem_nil, false_implies, implies_true, and_true, true_and, and_self, ri_eq, Int.natCast_add, Int.cast_ofNat_Int, ei]; try simp) rfl⟩
      · have ei := idx_ne hil hx
        simp (disch := omega) only [Try.ntmps100, Try.results100, go_sem]
        exact ⟨i + 1, by omega, by omega, Wk.of (by simp only [go_sem, ↓List.forall_mem_cons, List.not_mem_nil, false_implies, implies_true, and_true, true_and, and_self, ri_eq, Int.natCast_add, Int.cast_ofNat_Int, ei]; try simp) rfl⟩
    · obtain rfl : i = seen.length := by omega
      rw [List.take_length]
      by_cases hm : L.getD k 0 ∈ seen
      · have hi := idx_nonneg hm
        simp (disch := omega) only [Try.ntmps100, Try.results100, go_sem]
        simp only [cstep, if_pos hm] at e1
        refine ⟨(k + 1, nb + 1, b2, nb + 1 + 1), ⟨hlt, by show nb + 1 < nb + 1 + 1; omega, by show b2 < nb + 1 + 1; omega, by show nb + 1 ≠ b2; omega⟩, by show L.length - (k + 1) < L.length - k; omega, ?_⟩
        exact Wk.ofH (by simp only [go_sem, ↓List.forall_mem_cons, List.not_mem_nil, false_implies, implies_true, and_true, true_and, and_self, ri_eq, Int.natCast_add, Int.cast_ofNat_Int, e1, List.length_append, List.length_cons, List.length_nil, Nat.zero_add]; try simp) (by simp (disch := omega) only [go_sem, ↓List.forall_mem_cons, List.not_mem_nil, false_implies, implies_true, and_true, true_and, and_self, ri_eq, Int.natCast_add, Int.cast_ofNat_Int, if_pos, if_neg, Nat.reduceAdd, List.nil_append, e1]; try simp) (by simp [hp])
      · rw [idx_neg hm]
        simp (disch := omega) only [Try.ntmps100, Try.results100, go_sem]
        simp only [cstep, if_neg hm] at e1
        refine ⟨(k + 1, nb + 1 + 1 + 1, nb + 1, nb + 1 + 1 + 1 + 1), ⟨hlt, by show nb + 1 + 1 + 1 < nb + 1 + 1 + 1 + 1; omega, by show nb + 1 < nb + 1 + 1 + 1 + 1; omega, by show nb + 1 + 1 + 1 ≠ nb + 1; omega⟩, by show L.length - (k + 1) < L.length - k; omega, ?_⟩
        exact Wk.ofH (by simp only [go_sem, ↓List.forall_mem_cons, List.not_mem_nil, false_implies, implies_true, and_true, true_and, and_self, ri_eq, Int.natCast_add, Int.cast_ofNat_Int, e1, List.length_append, List.length_cons, List.length_nil, Nat.zero_add]; try simp) (by simp (disch := omega) only [go_sem, ↓List.forall_mem_cons, List.not_mem_nil, false_implies, implies_true, and_true, true_and, and_self, ri_eq, Int.natCast_add, Int.cast_ofNat_Int, if_pos, if_neg, Nat.reduceAdd, List.nil_append, e1]; try simp) (by simp [hp])
  · simp (disch := omega) only [Try.ntmps100, Try.results100, go_sem]
    have e2 : canon L = out := by
      have : L.take k = L := List.take_of_length_le (by omega)
      rw [canon, ← this, he]
    have e3 : out.length = L.length := by rw [l2, l3]; omega
    rw [e2, e3]
    exact fin_ints e3.symm (by rw [hp_map, hmap_cons, if_pos rfl])
theorem Try.specCanon_ok (L : List Int) (hL : L.length ≤ 1048576) : PCall Try.prog 100 [ri L] (ri (canon L)) :=
  (Try.specCanon_f L hL).pcall 2 (fun _ _ h => flat_view h)
end Go.Sh

/-
  Contracts: pairs of partitions and their meet. Of the reference and of the program.
-/
namespace Go.Sh
set_option linter.unusedSimpArgs false
set_option linter.unusedVariables false
open Go Go.Proofs

def pairB (A B : List Int) : Bool := isPart A && (isPart B && decide (A.length = B.length))
theorem pairB_t {A B : List Int} (h : pairB A B = true) : isPart A = true ∧ isPart B = true ∧ A.length = B.length := by
  simpa [pairB] using h

theorem okP_bound : ∀ (L : List Int) (nx : Int), okP nx L = true → ∀ i, i < L.length → 0 ≤ L.getD i 0 ∧ L.getD i 0 ≤ nx + i
  | [], nx, _, i, hi => by simp at hi
  | x :: L, nx, h, i, hi => by
    rw [okP, Bool.and_eq_true] at h
    obtain ⟨h1, h2⟩ := inR_of h.1
    match i with
    | 0 => simp; omega
    | i + 1 =>
      have := okP_bound L (max nx (x + 1)) h.2 i (by simpa using hi)
      have e : (x :: L).getD (i + 1) 0 = L.getD i 0 := by simp
      rw [e]
      omega
theorem isPart_len {L : List Int} (h : isPart L = true) : 1 ≤ L.length ∧ L.length ≤ 8 := by
  rw [isPart, Bool.and_eq_true] at h
  have := inR_of h.2
  omega
theorem isPart_bound {L : List Int} (h : isPart L = true) {i : Nat} (hi : i < L.length) : 0 ≤ L.getD i 0 ∧ L.getD i 0 ≤ 7 := by
  have hl := isPart_len h
  rw [isPart, Bool.and_eq_true] at h
  have := okP_bound L 0 h.1 i hi
  omega

def both (A B : List Int) : List Int := List.zipWith (fun x y => x * 8 + y) A B
theorem both_length {A B : List Int} (h : A.length = B.length) : (both A B).length = A.length := by simp [both, h]
theorem both_take {A B : List Int} {k : Nat} (h : A.length = B.length) (hk : k < A.length) : (both A B).take (k + 1) = (both A B).take k ++ [A.getD k 0 * 8 + B.getD k 0] := by
  have hb : k < (both A B).length := by rw [both_length h]; exact hk
  rw [List.take_succ_eq_append_getElem hb]
  congr 2
  have hk2 : k < B.length := by omega
  simp [both, hk, hk2]
theorem both_take_len {A B : List Int} {k : Nat} (h : A.length = B.length) (hk : k ≤ A.length) : ((both A B).take k).length = k := by
  rw [List.length_take, both_length h]; omega
def meet (A B : List Int) : List Int := canon (if pairB A B = true then both A B else [])

def meetF (A B : List Int) : Nat × Nat × Nat → St
  | (0, _, nb) => ⟨ofL [(0, ri A), (1, ri B), (5, .val (.slice none 0 0)), (12, .val (.int .i64 A.length)), (13, .val (.int .i64 0))], hp [] nb⟩
  | (k + 1, b, nb) => ⟨ofL [(0, ri A), (1, ri B), (5, .own b 0 (k + 1) (k + 1) 1 false), (12, .val (.int .i64 A.length)), (13, .val (.int .i64 ((k + 1 : Nat) : Int)))], hp [(b, ⟨ints ((both A B).take (k + 1)), false⟩)] nb⟩

theorem meet_f {A B : List Int} (h : pairB A B = false) : meet A B = [] := by rw [meet, if_neg (by simp [h])]; rfl
theorem meet_length {A B : List Int} (h : pairB A B = true) : (meet A B).length = A.length := by
  rw [meet, if_pos h, canon_length, both_length (pairB_t h).2.2]

end Go.Sh

/-
  Labels by first occurrence: what they tell of the list; refinement as equality of the meet.
-/
namespace Go.Sh
set_option linter.unusedSimpArgs false
set_option linter.unusedVariables false
open Go Go.Proofs

theorem idx_append {x y : Int} {S : List Int} (h : x ∈ S) : idx x (S ++ [y]) = idx x S := by
  unfold idx
  rw [if_pos h, if_pos (List.mem_append.2 (.inl h)), List.idxOf_append, if_pos h]
theorem idx_last {x : Int} {S : List Int} (h : ¬ x ∈ S) : idx x (S ++ [x]) = S.length := by
  unfold idx
  rw [if_pos (by simp), List.idxOf_append, if_neg h]
  simp
theorem idx_inj {x y : Int} {S : List Int} (hx : x ∈ S) (hy : y ∈ S) (h : idx x S = idx y S) : x = y := by
  unfold idx at h
  rw [if_pos hx, if_pos hy] at h
  have h' : S.idxOf x = S.idxOf y := by omega
  have h1 := List.getElem_idxOf (List.idxOf_lt_length_of_mem hx)
  have h2 := List.getElem_idxOf (List.idxOf_lt_length_of_mem hy)
  rw [← h1, ← h2]
  simp only [h']

theorem cst_spec (X : List Int) : ∀ k, k ≤ X.length → (∀ i, i < k → X.getD i 0 ∈ (cst (X.take k)).1 ∧ (cst (X.take k)).2.getD i 0 = idx (X.getD i 0) (cst (X.take k)).1) ∧ ∀ z, z ∈ (cst (X.take k)).1 → ∃ i, i < k ∧ X.getD i 0 = z
  | 0, _ => by
    refine ⟨fun i hi => by omega, fun z hz => ?_⟩
    rw [List.take_zero, cst_zero] at hz
    simp at hz
  | k + 1, hk => by
    obtain ⟨h1, h2⟩ := cst_spec X k (by omega)
    have e := cst_succ (L := X) (k := k) (by omega)
    have hlen : (cst (X.take k)).2.length = k := by rw [cst_len2]; simp; omega
    rw [e]
    generalize hs : cst (X.take k) = st at *
    obtain ⟨S, O⟩ := st
    simp only at h1 h2 hlen ⊢
    unfold cstep
    simp only
    by_cases hx : X.getD k 0 ∈ S
    · rw [if_pos hx]
      refine ⟨fun i hi => ?_, fun z hz => ?_⟩
      · rcases Nat.lt_succ_iff_lt_or_eq.mp hi with h | rfl
        · obtain ⟨g1, g2⟩ := h1 i h
          refine ⟨g1, ?_⟩
          rw [← g2]
          simp [List.getD, List.getElem?_append_left (show i < O.length by omega)]
        · refine ⟨hx, ?_⟩
          simp [List.getD, List.getElem?_append_right (show O.length ≤ i by omega), hlen]
      · obtain ⟨i, g1, g2⟩ := h2 z hz
        exact ⟨i, by omega, g2⟩
    · rw [if_neg hx]
      refine ⟨fun i hi => ?_, fun z hz => ?_⟩
      · rcases Nat.lt_succ_iff_lt_or_eq.mp hi with h | rfl
        · obtain ⟨g1, g2⟩ := h1 i h
          refine ⟨List.mem_append.2 (.inl g1), ?_⟩
          show (O ++ [(S.length : Int)]).getD i 0 = idx (X.getD i 0) (S ++ [X.getD k 0])
          rw [idx_append g1, ← g2]
          simp [List.getD, List.getElem?_append_left (show i < O.length by omega)]
        · refine ⟨by simp, ?_⟩
          show (O ++ [(S.length : Int)]).getD i 0 = idx (X.getD i 0) (S ++ [X.getD i 0])
          rw [idx_last hx]
          simp [List.getD, List.getElem?_append_right (show O.length ≤ i by omega), hlen]
      · rcases List.mem_append.1 hz with h | h
        · obtain ⟨i, g1, g2⟩ := h2 z h
          exact ⟨i, by omega, g2⟩
        · simp at h
          exact ⟨k, by omega, by simpa using h.symm⟩

theorem canon_inj {X : List Int} {i k : Nat} (hi : i < X.length) (hk : k < X.length) (h : (canon X).getD i 0 = (canon X).getD k 0) : X.getD i 0 = X.getD k 0 := by
  have := (cst_spec X X.length (Nat.le_refl _)).1
  rw [List.take_length] at this
  obtain ⟨g1, g2⟩ := this i hi
  obtain ⟨q1, q2⟩ := this k hk
  refine idx_inj g1 q1 ?_
  rw [← g2, ← q2]
  exact h

theorem canon_congr {X Y : List Int} (hl : X.length = Y.length) (h : ∀ i k, i < X.length → k < X.length → (X.getD i 0 = X.getD k 0 ↔ Y.getD i 0 = Y.getD k 0)) : canon X = canon Y := by
  have key : ∀ k, k ≤ X.length → (cst (X.take k)).2 = (cst (Y.take k)).2 ∧ (cst (X.take k)).1.length = (cst (Y.take k)).1.length := by
    intro k
    induction k with
    | zero => intro _; simp
    | succ k ih =>
      intro hk
      obtain ⟨i1, i2⟩ := ih (by omega)
      obtain ⟨x1, x2⟩ := cst_spec X k (by omega)
      obtain ⟨y1, y2⟩ := cst_spec Y k (by omega)
      rw [cst_succ (L := X) (by omega), cst_succ (L := Y) (by omega)]
      generalize hs : cst (X.take k) = sx at *
      generalize ht : cst (Y.take k) = sy at *
      obtain ⟨SX, OX⟩ := sx
      obtain ⟨SY, OY⟩ := sy
      simp only at i1 i2 x1 x2 y1 y2
      subst i1
      unfold cstep
      simp only
      by_cases hx : X.getD k 0 ∈ SX
      · obtain ⟨i, g1, g2⟩ := x2 _ hx
        have hy' := (h i k (by omega) (by omega)).1 g2
        have hy : Y.getD k 0 ∈ SY := by rw [← hy']; exact (y1 i g1).1
        rw [if_pos hx, if_pos hy]
        refine ⟨?_, i2⟩
        show OX ++ [idx (X.getD k 0) SX] = OX ++ [idx (Y.getD k 0) SY]
        rw [← g2, ← hy', ← (x1 i g1).2, ← (y1 i g1).2]
      · have hy : ¬ Y.getD k 0 ∈ SY := by
          intro hy
          obtain ⟨i, g1, g2⟩ := y2 _ hy
          have hx' := (h i k (by omega) (by omega)).2 g2
          exact hx (by rw [← hx']; exact (x1 i g1).1)
        rw [if_neg hx, if_neg hy]
        refine ⟨?_, ?_⟩
        · show OX ++ [(SX.length : Int)] = OX ++ [(SY.length : Int)]
          rw [i2]
        · simp [i2]
  have := (key X.length (Nat.le_refl _)).1
  rw [List.take_length] at this
  rw [canon, this, hl, List.take_length]; rfl

def rng (n : Nat) : List Int := (List.range n).map fun x : Nat => (x : Int)
theorem rng_succ (n : Nat) : rng (n + 1) = rng n ++ [(n : Int)] := by simp [rng, List.range_succ]
theorem rng_len (n : Nat) : (rng n).length = n := by simp [rng]
theorem rng_mem {n : Nat} {x : Int} : x ∈ rng n ↔ 0 ≤ x ∧ x < n := by
  simp only [rng, List.mem_map, List.mem_range]
  constructor
  · rintro ⟨a, h, rfl⟩; omega
  · rintro ⟨h1, h2⟩; exact ⟨x.toNat, by omega, by omega⟩
theorem rng_get {n i : Nat} (h : i < n) : (rng n).getD i 0 = i := by simp [rng, h]
theorem rng_idx {n : Nat} {x : Int} (h1 : 0 ≤ x) (h2 : x < n) : idx x (rng n) = x := by
  have hk : x.toNat < (rng n).length := by rw [rng_len]; omega
  have := idx_some (x := x) hk (fun i hi => by rw [rng_get (by omega)]; omega) (by rw [rng_get (by omega)]; omega)
  rw [this]; omega
theorem fold_part : ∀ (L : List Int) (n : Nat) (out : List Int), okP n L = true → ∃ m, L.foldl cstep (rng n, out) = (rng m, out ++ L)
  | [], n, out, _ => ⟨n, by simp⟩
  | x :: L, n, out, h => by
    rw [okP, Bool.and_eq_true] at h
    obtain ⟨h1, h2⟩ := inR_of h.1
    rw [List.foldl_cons]
    by_cases hx : x < n
    · have hm : x ∈ rng n := rng_mem.2 ⟨h1, hx⟩
      have e : max (n : Int) (x + 1) = n := by omega
      have h3 := h.2
      rw [e] at h3
      obtain ⟨m, hm'⟩ := fold_part L n (out ++ [x]) h3
      refine ⟨m, ?_⟩
      have : cstep (rng n, out) x = (rng n, out ++ [x]) := by
        unfold cstep
        rw [if_pos hm, rng_idx h1 hx]
      rw [this, hm']
      simp
    · have hm : ¬ x ∈ rng n := fun h => hx (rng_mem.1 h).2
      have ex : x = n := by omega
      have e : max (n : Int) (x + 1) = ((n + 1 : Nat) : Int) := by omega
      have h3 := h.2
      rw [e] at h3
      obtain ⟨m, hm'⟩ := fold_part L (n + 1) (out ++ [x]) h3
      refine ⟨m, ?_⟩
      have : cstep (rng n, out) x = (rng (n + 1), out ++ [x]) := by
        unfold cstep
        rw [if_neg hm, rng_succ]
        simp only [rng_len, ex]
      rw [this, hm']
      simp
theorem canon_part {A : List Int} (h : isPart A = true) : canon A = A := by
  rw [isPart, Bool.and_eq_true] at h
  obtain ⟨m, hm⟩ := fold_part A 0 [] h.1
  have : rng 0 = [] := rfl
  rw [this] at hm
  rw [canon, cst, hm]
  simp

def Ref (A B : List Int) : Prop := ∀ i k, k < i → i < A.length → A.getD i 0 = A.getD k 0 → B.getD i 0 = B.getD k 0
theorem both_get {A B : List Int} {k : Nat} (hl : A.length = B.length) (hk : k < A.length) : (both A B).getD k 0 = A.getD k 0 * 8 + B.getD k 0 := by
  have hk2 : k < B.length := by omega
  simp [both, List.getElem?_zipWith, hk, hk2]
theorem meet_iff {A B : List Int} (h : pairB A B = true) : meet A B = A ↔ Ref A B := by
  obtain ⟨pa, pb, hl⟩ := pairB_t h
  have hbl := both_length hl
  rw [meet, if_pos h]
  have hpat : ∀ i k, i < A.length → k < A.length → ((both A B).getD i 0 = (both A B).getD k 0 ↔ (A.getD i 0 = A.getD k 0 ∧ B.getD i 0 = B.getD k 0)) := by
    intro i k hi hk
    rw [both_get hl hi, both_get hl hk]
    have b1 := isPart_bound pb (i := i) (by omega)
    have b2 := isPart_bound pb (i := k) (by omega)
    constructor
    · intro e; omega
    · rintro ⟨e1, e2⟩; rw [e1, e2]
  constructor
  · intro e i k hki hi ha
    have h1 : (canon (both A B)).getD i 0 = (canon (both A B)).getD k 0 := by rw [e]; exact ha
    have h2 := canon_inj (by omega) (by omega) h1
    exact ((hpat i k hi (by omega)).1 h2).2
  · intro hr
    have hr' : ∀ i k, i < A.length → k < A.length → A.getD i 0 = A.getD k 0 → B.getD i 0 = B.getD k 0 := by
      intro i k hi hk e
      rcases Nat.lt_trichotomy k i with h | h | h
      · exact hr i k h hi e
      · rw [h]
      · exact (hr k i h hk e.symm).symm
    rw [canon_congr (Y := A) (by omega) (fun i k hi hk => ?_), canon_part pa]
    rw [hpat i k (by omega) (by omega)]
    exact ⟨fun e => e.1, fun e => ⟨e, hr' i k (by omega) (by omega) e⟩⟩
end Go.Sh

/-
  Contracts: is a list of numbers an order? Of the reference and of the program.
-/
namespace Go.Sh
set_option linter.unusedSimpArgs false
set_option linter.unusedVariables false
open Go Go.Proofs

theorem row_take {L : List Int} {k : Nat} (h : k ≤ L.length) : SV.row k false ((ints L).take k) = ri (L.take k) := by
  rw [ri]; simp [ints, Nat.min_eq_left h]

set_option maxHeartbeats 2000000 in
theorem Try.implIsOrder_ok (n : Int) (L : List Int) (hL : L.length ≤ 1048576) : PCall Try.prog 48 [.val (.int .i64 n), ri L] (.val (.bool (isOrd n L))) := by
  refine FCall.pcall (R := fun r _ => r = .val (.bool (isOrd n L))) ?_ 0 (by rintro r H rfl; simp [view, viewV])
  refine FCall.of_body Try.func48 rfl (by kernel_rfl) (by simp [Try.ntmps48]) ?_
  refine SW_of_vc Try.mixed _ _ _ (by kernel_rfl) ?_
  simp (disch := omega) only [Try.ntmps48, Try.results48, go_sem]
  refine (Try.within_ok _ _ _).call (by simp [viewL, view, viewV]) ?_
  cases hin : inR n 1 8 with
  | false =>
    simp (disch := omega) only [Try.ntmps48, Try.results48, go_sem, hin]
    exact Fin.val (by rw [isOrd, hin]; rfl)
  | true =>
    obtain ⟨n1, n2⟩ := inR_of hin
    by_cases hl : (L.length : Int) = n
    · simp (disch := omega) only [Try.ntmps48, Try.results48, go_sem, hin, hl]
      refine LoopW.loop (fun k : Nat => ⟨ofL [(0, .val (.int .i64 n)), (1, ri L), (16, ri L), (17, .val (.int .i64 n)), (18, .val (.int .i64 k))], hp [] 0⟩) (fun k => k ≤ L.length ∧ okO n [] L = okO n (L.take k) (L.drop k)) (fun k => L.length - k) 0 ⟨by omega, by simp⟩ (Wk.of (by simp only [go_sem, ↓List.forall_mem_cons, List.not_mem_nil, false_implies, implies_true, and_true, true_and, and_self, ri_eq, Int.natCast_add, Int.cast_ofNat_Int, hl]; try simp) rfl) ?_
      rintro k ⟨hk, hkk⟩
      refine SW_of_vc Try.mixed _ _ _ (by kernel_rfl) ?_
      by_cases hlt : k < L.length
      · simp (disch := omega) only [Try.ntmps48, Try.results48, go_sem]
        refine (Try.isItem_ok _ _ (by omega) (by omega)).call (by simp [viewL, view, viewV]) ?_
        cases hi : inR (L.getD k 0) 0 (n - 1) with
        | false =>
          simp (disch := omega) only [Try.ntmps48, Try.results48, go_sem, hi]
          refine Fin.val ?_
          rw [isOrd, hin, hkk, okO_step hlt, hi]; simp
        | true =>
          simp (disch := omega) only [Try.ntmps48, Try.results48, go_sem, hi, row_take hk]
          refine (Try.slicesContains_ok (L.take k) _ (by simp; omega)).call (by simp [viewL, view, viewV, ri]) ?_
          cases hc : (L.take k).contains (L.getD k 0) with
          | true =>
            simp (disch := omega) only [Try.ntmps48, Try.results48, go_sem, hc]
            refine Fin.val ?_
            rw [isOrd, hin, hkk, okO_step hlt, hi, hc]; simp
          | false =>
            simp (disch := omega) only [Try.ntmps48, Try.results48, go_sem, hc]
            refine ⟨k + 1, ⟨by omega, ?_⟩, by omega, Wk.of (by simp only [go_sem, ↓List.forall_mem_cons, List.not_mem_nil, false_implies, implies_true, and_true, true_and, and_self, ri_eq, Int.natCast_add, Int.cast_ofNat_Int]; try simp) rfl⟩
            rw [hkk, okO_step hlt, hi, hc]; simp
      · simp (disch := omega) only [Try.ntmps48, Try.results48, go_sem]
        refine Fin.val ?_
        rw [isOrd, hin, hkk, List.drop_eq_nil_of_le (by omega)]; simp [okO, hl]
    · simp (disch := omega) only [Try.ntmps48, Try.results48, go_sem, hin, hl]
      exact Fin.val (by rw [isOrd, hin]; simp [hl])
end Go.Sh

/-
  Sets of items as bits.
-/
namespace Go.Sh
set_option linter.unusedSimpArgs false
set_option linter.unusedVariables false
open Go

theorem bit_step : ∀ m : _root_.Fin 256, ∀ x y : _root_.Fin 8, 0 ≤ kor .i64 (m.val : Int) (kshl .i64 1 (x.val : Int)) ∧ kor .i64 (m.val : Int) (kshl .i64 1 (x.val : Int)) < 256 ∧
    (kand .i64 (kshr .i64 (kor .i64 (m.val : Int) (kshl .i64 1 (x.val : Int))) (y.val : Int)) 1 = 1 ↔ (kand .i64 (kshr .i64 (m.val : Int) (y.val : Int)) 1 = 1 ∨ y = x)) := by decide +kernel

def bits (m : Int) (L : List Int) : Prop := 0 ≤ m ∧ m < 256 ∧ ∀ y : Int, 0 ≤ y → y < 8 → (kand .i64 (kshr .i64 m y) 1 = 1 ↔ y ∈ L)
theorem bits_nil : bits 0 [] := by
  refine ⟨by omega, by omega, ?_⟩
  have h : ∀ y : _root_.Fin 8, ¬ kand .i64 (kshr .i64 0 (y.val : Int)) 1 = 1 := by decide +kernel
  intro y h1 h2
  have := h ⟨y.toNat, by omega⟩
  simp only [Int.toNat_of_nonneg h1] at this
  simp [this]
theorem bits_step {m x : Int} {L : List Int} (h : bits m L) (h1 : 0 ≤ x) (h2 : x < 8) : bits (kor .i64 m (kshl .i64 1 x)) (L ++ [x]) := by
  obtain ⟨a, b, c⟩ := h
  have e (y : Int) (h3 : 0 ≤ y) (h4 : y < 8) := bit_step ⟨m.toNat, by omega⟩ ⟨x.toNat, by omega⟩ ⟨y.toNat, by omega⟩
  simp only [Int.toNat_of_nonneg a, Int.toNat_of_nonneg h1] at e
  refine ⟨(e 0 (by omega) (by omega)).1, (e 0 (by omega) (by omega)).2.1, fun y h3 h4 => ?_⟩
  have e2 := (e y h3 h4).2.2
  simp only [Int.toNat_of_nonneg h3] at e2
  rw [e2, List.mem_append, c y h3 h4, List.mem_singleton]
  have : ((⟨y.toNat, by omega⟩ : _root_.Fin 8) = ⟨x.toNat, by omega⟩) ↔ y = x := by
    rw [_root_.Fin.mk.injEq]; omega
  rw [this]
end Go.Sh

/-
  Contracts: is a list of numbers an order? Of the reference.
-/
namespace Go.Sh
set_option linter.unusedSimpArgs false
set_option linter.unusedVariables false
open Go Go.Proofs

set_option maxHeartbeats 2000000 in
theorem Try.specIsOrder_ok (n : Int) (L : List Int) (hL : L.length ≤ 1048576) (g1 : -9223372036854775808 ≤ n) (g2 : n ≤ 9223372036854775807) : PCall Try.prog 49 [.val (.int .i64 n), ri L] (.val (.bool (isOrd n L))) := by
  refine FCall.pcall (R := fun r _ => r = .val (.bool (isOrd n L))) ?_ 0 (by rintro r H rfl; simp [view, viewV])
  refine FCall.of_body Try.func49 rfl (by kernel_rfl) (by simp [Try.ntmps49]) ?_
  refine SW_of_vc Try.mixed _ _ _ (by kernel_rfl) ?_
  simp (disch := omega) only [Try.ntmps49, Try.results49, go_sem]
  cases hin : inR n 1 8 with
  | true =>
    obtain ⟨n1, n2⟩ := inR_of hin
    refine LoopW.loop (fun p : Nat × Int => ⟨ofL [(0, .val (.int .i64 n)), (1, ri L), (5, .val (.int .i64 p.2)), (6, .val (.int .i64 p.1))], hp [] 0⟩) (fun p => p.1 ≤ L.length ∧ bits p.2 (L.take p.1) ∧ okO n [] L = okO n (L.take p.1) (L.drop p.1)) (fun p => L.length - p.1) (0, 0) ⟨by simp, by simpa using bits_nil, by simp⟩ (Wk.of (by simp only [go_sem, ↓List.forall_mem_cons, List.not_mem_nil, false_implies, implies_true, and_true, true_and, and_self, ri_eq, Int.natCast_add, Int.cast_ofNat_Int]; try simp) rfl) ?_
    rintro ⟨k, m⟩ ⟨hk, hb, hkk⟩
    simp only at hk hb hkk
    refine SW_of_vc Try.mixed _ _ _ (by kernel_rfl) ?_
    by_cases hlt : k < L.length
    · simp (disch := omega) only [Try.ntmps49, Try.results49, go_sem]
      refine (Try.l1In_ok _ _ _).call (by simp [viewL, view, viewV]) ?_
      cases hi : inR (L.getD k 0) 0 (n - 1) with
      | false =>
        simp (disch := omega) only [Try.ntmps49, Try.results49, go_sem, hi]
        refine Fin.val ?_
        rw [isOrd, hin, hkk, okO_step hlt, hi]; simp
      | true =>
        obtain ⟨i1, i2⟩ := inR_of hi
        have hb' := hb.2.2 (L.getD k 0) i1 (by omega)
        by_cases hc : L.getD k 0 ∈ L.take k
        · have e1 := hb'.mpr hc
          have hc' : (L.take k).contains (L.getD k 0) = true := by simpa using hc
          simp (disch := omega) only [Try.ntmps49, Try.results49, go_sem, hi, e1]
          refine Fin.val ?_
          rw [isOrd, hin, hkk, okO_step hlt, hi, hc']; simp
        · have hc' : (L.take k).contains (L.getD k 0) = false := by simpa using hc
          have e1 : ¬ kand .i64 (kshr .i64 m (L.getD k 0)) 1 = 1 := fun e => hc (hb'.mp e)
          simp (disch := omega) only [Try.ntmps49, Try.results49, go_sem, hi]
          refine ⟨(k + 1, kor .i64 m (kshl .i64 1 (L.getD k 0))), ⟨by show k + 1 ≤ _; omega, ?_, ?_⟩, by show L.length - (k + 1) < L.length - k; omega, Wk.of (by simp only [go_sem, ↓List.forall_mem_cons, List.not_mem_nil, false_implies, implies_true, and_true, true_and, and_self, ri_eq, Int.natCast_add, Int.cast_ofNat_Int]; try simp) rfl⟩
          · have := bits_step hb i1 (by omega)
            show bits _ (L.take (k + 1))
            rw [List.take_succ_eq_append_getElem hlt]
            simpa [hlt] using this
          · show _ = okO n (L.take (k + 1)) (L.drop (k + 1))
            rw [hkk, okO_step hlt, hi, hc']; simp
    · simp (disch := omega) only [Try.ntmps49, Try.results49, go_sem]
      refine (Try.l1In_ok _ _ _).call (by simp [viewL, view, viewV]) ?_
      by_cases hl : (L.length : Int) = n
      · simp (disch := omega) only [Try.ntmps49, Try.results49, go_sem, hin]
        refine Fin.val ?_
        rw [isOrd, hin, hkk, List.drop_eq_nil_of_le (by omega)]; simp [okO, hl]
      · simp (disch := omega) only [Try.ntmps49, Try.results49, go_sem, hin]
        refine Fin.val ?_
        rw [isOrd, hin]; simp [hl]
  | false =>
    have hr : isOrd n L = false := by rw [isOrd, hin]; rfl
    rw [hr]
    refine LoopW.loop (fun p : Nat × Int => ⟨ofL [(0, .val (.int .i64 n)), (1, ri L), (5, .val (.int .i64 p.2)), (6, .val (.int .i64 p.1))], hp [] 0⟩) (fun p => p.1 ≤ L.length) (fun p => L.length - p.1) (0, 0) (by simp) (Wk.of (by simp only [go_sem, ↓List.forall_mem_cons, List.not_mem_nil, false_implies, implies_true, and_true, true_and, and_self, ri_eq, Int.natCast_add, Int.cast_ofNat_Int]; try simp) rfl) ?_
    rintro ⟨k, m⟩ hk
    simp only at hk
    refine SW_of_vc Try.mixed _ _ _ (by kernel_rfl) ?_
    by_cases hlt : k < L.length
    · simp (disch := omega) only [Try.ntmps49, Try.results49, go_sem]
      refine (Try.l1In_ok _ _ _).call (by simp [viewL, view, viewV]) ?_
      cases hi : inR (L.getD k 0) 0 (IntKind.i64.wrap (n - 1)) with
      | false =>
        simp (disch := omega) only [Try.ntmps49, Try.results49, go_sem, hi]
        exact Fin.val rfl
      | true =>
        obtain ⟨i1, _⟩ := inR_of hi
        by_cases h8 : 8 < n
        · simp (disch := omega) only [Try.ntmps49, Try.results49, go_sem, hi]
          exact Fin.val rfl
        · by_cases e1 : kand .i64 (kshr .i64 m (L.getD k 0)) 1 = 1
          · simp (disch := omega) only [Try.ntmps49, Try.results49, go_sem, hi, e1]
            exact Fin.val rfl
          · simp (disch := omega) only [Try.ntmps49, Try.results49, go_sem, hi]
            exact ⟨(k + 1, kor .i64 m (kshl .i64 1 (L.getD k 0))), by show k + 1 ≤ _; omega, by show L.length - (k + 1) < L.length - k; omega, Wk.of (by simp only [go_sem, ↓List.forall_mem_cons, List.not_mem_nil, false_implies, implies_true, and_true, true_and, and_self, ri_eq, Int.natCast_add, Int.cast_ofNat_Int]; try simp) rfl⟩
    · simp (disch := omega) only [Try.ntmps49, Try.results49, go_sem]
      refine (Try.l1In_ok _ _ _).call (by simp [viewL, view, viewV]) ?_
      simp (disch := omega) only [Try.ntmps49, Try.results49, go_sem, hin]
      exact Fin.val rfl
end Go.Sh

/-
  Pivots. Plain; and of the program and the reference.
-/
namespace Go.Sh
set_option linter.unusedSimpArgs false
set_option linter.unusedVariables false
open Go Go.Proofs

theorem ord_t {n : Int} {L : List Int} (h : isOrd n L = true) : (1 ≤ n ∧ n ≤ 8) ∧ (L.length : Int) = n ∧ (∀ k, k < L.length → 0 ≤ L.getD k 0 ∧ L.getD k 0 ≤ n - 1) ∧ ∀ i k, i < k → k < L.length → L.getD i 0 ≠ L.getD k 0 := by
  simp only [isOrd, Bool.and_eq_true] at h
  have hl := of_decide_eq_true h.2.1
  have hs : ∀ k, k ≤ L.length → okO n (L.take k) (L.drop k) = true := by
    intro k
    induction k with
    | zero => intro _; simpa using h.2.2
    | succ k ih =>
      intro hk
      have := ih (by omega)
      rw [okO_step (by omega), Bool.and_eq_true, Bool.and_eq_true] at this
      exact this.2.2
  have hk : ∀ k, k < L.length → inR (L.getD k 0) 0 (n - 1) = true ∧ (L.take k).contains (L.getD k 0) = false := fun k hk => by
    have := hs k (by omega)
    rw [okO_step hk, Bool.and_eq_true, Bool.and_eq_true] at this
    exact ⟨this.1, by simpa using this.2.1⟩
  refine ⟨inR_of h.1, hl, fun k h => inR_of (hk k h).1, fun i k hik hkl e => ?_⟩
  have h2 := (hk k hkl).2
  have : L.getD k 0 ∈ L.take k := by
    rw [← e]
    have hi : i < (L.take k).length := by rw [List.length_take]; omega
    have e2 : L.getD i 0 = (L.take k)[i] := by simp [show i < L.length by omega]
    rw [e2]; exact List.getElem_mem hi
  rw [List.contains_iff_mem.2 this] at h2
  cases h2

def gen (n : Nat) (f : Nat → Int) : List Int := (List.range n).map f
theorem gen_length (n : Nat) (f : Nat → Int) : (gen n f).length = n := by simp [gen]
theorem gen_at {n : Nat} {f : Nat → Int} {x : Nat} (h : x < n) : (gen n f).getD x 0 = f x := by simp [gen, h]
theorem gen_congr {n : Nat} {f g : Nat → Int} (h : ∀ x, x < n → f x = g x) : gen n f = gen n g := List.map_congr_left fun x hx => h x (by simpa using hx)
theorem gen_set {n k : Nat} {f : Nat → Int} {a : Int} (h : k < n) : (gen n f).set k a = gen n fun x => if x = k then a else f x := by
  refine list_ext (by simp [gen]) fun x hx => ?_
  rw [List.length_set, gen_length] at hx
  rw [getD_set (by rw [gen_length]; exact h), gen_at hx, gen_at hx]
theorem gen_self {n : Nat} {L : List Int} (h : L.length = n) : L = gen n fun x => L.getD x 0 := list_ext (by rw [gen_length, h]) fun x hx => by rw [gen_at (by omega)]
/-- The labels after i items of the order: the number of the pivot. -/
def pv (M : List (List Int)) (O : List Int) : Nat → List Int
  | 0 => List.replicate M.length (-1)
  | i + 1 => if 0 ≤ (pv M O i).getD (O.getD i 0).toNat 0 then pv M O i else gen M.length fun x => if (pv M O i).getD x 0 < 0 ∧ (x = (O.getD i 0).toNat ∨ 0 < mat M (O.getD i 0).toNat x) then (i : Int) else (pv M O i).getD x 0
theorem pv_length (M : List (List Int)) (O : List Int) : ∀ i, (pv M O i).length = M.length
  | 0 => by simp [pv]
  | i + 1 => by
    rw [pv]
    split
    · exact pv_length M O i
    · exact gen_length _ _
theorem pv_skip {M : List (List Int)} {O : List Int} {i p : Nat} (hp : O.getD i 0 = p) (h : 0 ≤ (pv M O i).getD p 0) : pv M O (i + 1) = pv M O i := by rw [pv, hp, Int.toNat_natCast, if_pos h]
theorem pv_step {M : List (List Int)} {O : List Int} {i p : Nat} (hp : O.getD i 0 = p) (h : (pv M O i).getD p 0 < 0) : pv M O (i + 1) = gen M.length fun x => if (pv M O i).getD x 0 < 0 ∧ (x = p ∨ 0 < mat M p x) then (i : Int) else (pv M O i).getD x 0 := by rw [pv, hp, Int.toNat_natCast, if_neg (by omega)]
theorem pv_r (M : List (List Int)) (O : List Int) : ∀ i x, x < M.length → -1 ≤ (pv M O i).getD x 0 ∧ (pv M O i).getD x 0 < i
  | 0, x, h => by rw [pv, getD_rep h]; simp
  | i + 1, x, h => by
    have ih := pv_r M O i x h
    rw [pv]
    split
    · omega
    · rw [gen_at h]
      split <;> omega
def fO (O : List Int) (q : Int) : Int := if q < 0 then -1 else O.getD q.toNat 0
/-- .. and the pivot itself. -/
def pw (M : List (List Int)) (O : List Int) (i : Nat) : List Int := gen M.length fun x => fO O ((pv M O i).getD x 0)
theorem pw_zero (M : List (List Int)) (O : List Int) : pw M O 0 = List.replicate M.length (-1) := by
  refine list_ext (by rw [pw, gen_length]; simp) fun x hx => ?_
  rw [pw, gen_length] at hx
  rw [pw, gen_at hx, pv, getD_rep hx]; rfl
theorem pw_at {M : List (List Int)} {O : List Int} {i x : Nat} (h : x < M.length) : (pw M O i).getD x 0 = fO O ((pv M O i).getD x 0) := gen_at h
theorem fO_neg {O : List Int} (h : ∀ k, k < O.length → 0 ≤ O.getD k 0) {q : Int} (hq : q < O.length) : fO O q < 0 ↔ q < 0 := by
  unfold fO
  split
  · simp_all
  · have := h q.toNat (by omega); omega
theorem pw_step {M : List (List Int)} {O : List Int} {i p : Nat} (ho : ∀ k, k < O.length → 0 ≤ O.getD k 0) (hi : i < O.length) (hp : O.getD i 0 = p) (h : (pv M O i).getD p 0 < 0) :
    pw M O (i + 1) = gen M.length fun x => if (pw M O i).getD x 0 < 0 ∧ (x = p ∨ 0 < mat M p x) then (p : Int) else (pw M O i).getD x 0 := by
  rw [pw, pv_step hp h]
  refine gen_congr fun x hx => ?_
  rw [gen_at hx, pw_at hx]
  have hr := pv_r M O i x hx
  have hn := fO_neg ho (q := (pv M O i).getD x 0) (by omega)
  by_cases hc : (pv M O i).getD x 0 < 0 ∧ (x = p ∨ 0 < mat M p x)
  · rw [if_pos hc, if_pos ⟨hn.2 hc.1, hc.2⟩, fO, if_neg (by omega), Int.toNat_natCast, hp]
  · rw [if_neg hc, if_neg (fun g => hc ⟨hn.1 g.1, g.2⟩)]
theorem pw_canon {M : List (List Int)} {O : List Int} (h : isOrd M.length O = true) : canon (pw M O O.length) = canon (pv M O O.length) := by
  obtain ⟨h1, h2, h3, h4⟩ := ord_t h
  have ho : ∀ k, k < O.length → 0 ≤ O.getD k 0 := fun k hk => (h3 k hk).1
  refine canon_congr (by rw [pw, gen_length, pv_length]) fun i k hi hk => ?_
  rw [pw, gen_length] at hi hk
  rw [pw_at hi, pw_at hk]
  have r1 := pv_r M O O.length i hi
  have r2 := pv_r M O O.length k hk
  have n1 := fO_neg ho (q := (pv M O O.length).getD i 0) (by omega)
  have n2 := fO_neg ho (q := (pv M O O.length).getD k 0) (by omega)
  generalize (pv M O O.length).getD i 0 = a at *
  generalize (pv M O O.length).getD k 0 = b at *
  refine ⟨fun e => ?_, fun e => by rw [e]⟩
  by_cases ha : a < 0
  · have := n1.2 ha
    have := n2.1 (by omega)
    omega
  · have hb : ¬ b < 0 := fun g => by have := n2.2 g; have := n1.1 (by omega); omega
    rw [fO, fO, if_neg ha, if_neg hb] at e
    rcases Nat.lt_trichotomy a.toNat b.toNat with g | g | g
    · exact absurd e (h4 _ _ g (by omega))
    · omega
    · exact absurd e.symm (h4 _ _ g (by omega))
open Classical in
noncomputable def piv (M : List (List Int)) (O : List Int) : List Int := if WM M ∧ isOrd M.length O = true then canon (pv M O O.length) else []
theorem piv_t {M : List (List Int)} {O : List Int} (h : WM M ∧ isOrd M.length O = true) : piv M O = canon (pv M O O.length) := by rw [piv, if_pos h]
theorem piv_f {M : List (List Int)} {O : List Int} (h : ¬ (WM M ∧ isOrd M.length O = true)) : piv M O = [] := by rw [piv, if_neg h]
theorem piv_length {M : List (List Int)} {O : List Int} (h : WM M ∧ isOrd M.length O = true) : (piv M O).length = M.length := by rw [piv_t h, canon_length, pv_length]

/-- Inside a step of the program: the first k items looked at. -/
def pwk (M : List (List Int)) (P : List Int) (p k : Nat) : List Int := gen M.length fun x => if P.getD x 0 < 0 ∧ (x = p ∨ (x < k ∧ 0 < mat M p x)) then (p : Int) else P.getD x 0
theorem pwk_zero {M : List (List Int)} {P : List Int} {p : Nat} (hl : P.length = M.length) (hp : p < M.length) (h : P.getD p 0 < 0) : P.set p p = pwk M P p 0 := by
  refine list_ext (by rw [List.length_set, pwk, gen_length, hl]) fun x hx => ?_
  rw [List.length_set] at hx
  rw [getD_set (by omega), pwk, gen_at (by omega)]
  by_cases e : x = p
  · rw [if_pos e, if_pos ⟨by rw [e]; exact h, .inl e⟩]
  · rw [if_neg e, if_neg (by rintro ⟨_, g | g⟩ <;> omega)]
theorem pwk_at {M : List (List Int)} {P : List Int} {p k x : Nat} (h : x < M.length) : (pwk M P p k).getD x 0 = if P.getD x 0 < 0 ∧ (x = p ∨ (x < k ∧ 0 < mat M p x)) then (p : Int) else P.getD x 0 := gen_at h
theorem pwk_put {M : List (List Int)} {P : List Int} {p k : Nat} (hk : k < M.length) (hw : 0 < mat M p k) (h : (pwk M P p k).getD k 0 < 0) : (pwk M P p k).set k p = pwk M P p (k + 1) := by
  rw [pwk, gen_set hk, pwk]
  refine gen_congr fun x hx => ?_
  have hkk := pwk_at (P := P) (p := p) (k := k) hk
  rw [hkk] at h
  by_cases e : x = k
  · subst e
    have hP : P.getD x 0 < 0 := by
      split at h
      · omega
      · exact h
    rw [if_pos rfl, if_pos ⟨hP, .inr ⟨by omega, hw⟩⟩]
  · rw [if_neg e]
    by_cases hc : P.getD x 0 < 0 ∧ (x = p ∨ (x < k ∧ 0 < mat M p x))
    · rw [if_pos hc, if_pos ⟨hc.1, hc.2.imp id fun g => ⟨by omega, g.2⟩⟩]
    · rw [if_neg hc, if_neg (fun g => hc ⟨g.1, g.2.imp id fun q => ⟨by omega, q.2⟩⟩)]
theorem pwk_skip {M : List (List Int)} {P : List Int} {p k : Nat} (h : ¬ (0 < mat M p k ∧ (pwk M P p k).getD k 0 < 0)) (hk : k < M.length) : pwk M P p k = pwk M P p (k + 1) := by
  refine gen_congr fun x hx => ?_
  by_cases e : x = k
  · subst e
    by_cases hc : P.getD x 0 < 0 ∧ (x = p ∨ (x < x ∧ 0 < mat M p x))
    · rw [if_pos hc, if_pos ⟨hc.1, hc.2.imp id fun g => ⟨by omega, g.2⟩⟩]
    · rw [if_neg hc]
      rw [pwk_at hx, if_neg hc] at h
      rw [if_neg (fun g => ?_)]
      rcases g.2 with g2 | g2
      · exact hc ⟨g.1, .inl g2⟩
      · exact h ⟨g2.2, g.1⟩
  · by_cases hc : P.getD x 0 < 0 ∧ (x = p ∨ (x < k ∧ 0 < mat M p x))
    · rw [if_pos hc, if_pos ⟨hc.1, hc.2.imp id fun g => ⟨by omega, g.2⟩⟩]
    · rw [if_neg hc, if_neg (fun g => hc ⟨g.1, g.2.imp id fun q => ⟨by omega, q.2⟩⟩)]
theorem pwk_all {M : List (List Int)} {P : List Int} {p : Nat} : pwk M P p M.length = gen M.length fun x => if P.getD x 0 < 0 ∧ (x = p ∨ 0 < mat M p x) then (p : Int) else P.getD x 0 := by
  refine gen_congr fun x hx => ?_
  by_cases hc : P.getD x 0 < 0 ∧ (x = p ∨ 0 < mat M p x)
  · rw [if_pos hc, if_pos ⟨hc.1, hc.2.imp id fun g => ⟨hx, g⟩⟩]
  · rw [if_neg hc, if_neg (fun g => hc ⟨g.1, g.2.imp id fun q => q.2⟩)]

set_option maxHeartbeats 8000000 in
theorem Try.implPiv_f (M : List (List Int)) (O : List Int) (hM : M.length ≤ 1048576) (hR : ∀ i, i < M.length → (mrow M i).length ≤ 1048576) (hO : O.length ≤ 1048576) (h : WM M ∧ isOrd M.length O = true) : FCall Try.prog 43 [rr M, ri O] (FlatRes M.length 1 (ints (piv M O))) := by
  obtain ⟨hw, hord⟩ := h
  obtain ⟨h1, h2, h3, h4⟩ := ord_t hord
  have ho : ∀ k, k < O.length → 0 ≤ O.getD k 0 := fun k hk => (h3 k hk).1
  have w1 := Try.implIsWM_ok M hM hR
  rw [isWM_t hw] at w1
  have w2 := Try.implIsOrder_ok M.length O hO
  rw [hord] at w2
  have hpl : ∀ i, (pw M O i).length = M.length := fun i => gen_length _ _
  have w4 := (Try.implCanon_f (pw M O O.length) (by rw [hpl]; omega) (fun e => by have := hpl O.length; rw [e] at this; simp at this; omega)).one
  rw [hpl, pw_canon hord, ← piv_t ⟨hw, hord⟩] at w4
  refine FCall.of_body Try.func43 rfl (by kernel_rfl) (by simp [Try.ntmps43]) ?_
  refine SW_of_vc Try.mixed _ _ _ (by kernel_rfl) ?_
  simp (disch := omega) only [Try.ntmps43, Try.results43, go_sem, rr_eq]
  refine w1.callV 0 (viewL_cons_of (view_row) viewL_nil_of) ?_
  simp (disch := omega) only [Try.ntmps43, Try.results43, go_sem, rr_eq]
  refine w2.callV 0 (viewL_cons_of (view_int) (viewL_cons_of (view_rowL (by first | rfl | simp [marks_length, canon_length] | omega)) viewL_nil_of)) ?_
  simp (disch := omega) only [Try.ntmps43, Try.results43, go_sem, rr_eq]
  refine (Try.repeat_one M.length (-1) (by omega) (by omega)).callOne (ints_vals _) 1 (viewL_cons_of (view_own (L := [-1]) (e2 := false) rfl rfl) (viewL_cons_of view_int viewL_nil_of)) ?_
  simp (disch := omega) only [Try.ntmps43, Try.results43, go_sem, rr_eq]
  refine LoopW.loop (fun i : Nat => ⟨ofL [(0, rr M), (5, .own 1 0 M.length M.length 1 false), (24, ri O), (25, .val (.int .i64 O.length)), (26, .val (.int .i64 i))], hp [(1, ⟨ints (pw M O i), false⟩)] 2⟩) (fun i => i ≤ O.length) (fun i => O.length - i) 0 (by omega)
    (Wk.ofH (by simp only [go_sem, ↓List.forall_mem_cons, List.not_mem_nil, false_implies, implies_true, and_true, true_and, and_self, ri_eq, Int.natCast_add, Int.cast_ofNat_Int, rr_eq]; try simp) (by intro q hq; simp at hq; subst hq; rw [pw_zero]; rfl) (Nat.le_refl _)) ?_
  intro i hi
  have hl := hpl i
  refine SW_of_vc Try.mixed _ _ _ (by kernel_rfl) ?_
  by_cases hlt : i < O.length
  case neg =>
    obtain rfl : i = O.length := by omega
    simp (disch := omega) only [Try.ntmps43, Try.results43, go_sem, rr_eq]
    refine w4.callOne (ints_vals _) 1 (viewL_cons_of (view_own (e2 := false) rfl hl.symm) viewL_nil_of) ?_
    simp (disch := omega) only [Try.ntmps43, Try.results43, go_sem, rr_eq]
    exact fin_ints (piv_length ⟨hw, hord⟩).symm (by rw [hp_map, hmap_cons, if_pos rfl])
  obtain ⟨p, hpp⟩ := Int.eq_ofNat_of_zero_le (h3 i hlt).1
  have hpM : p < M.length := by have := (h3 i hlt).2; omega
  have g1 := ints_get hlt
  rw [hpp] at g1
  have g2 : (ints (pw M O i))[p]? = some (.val (.int .i64 ((pw M O i).getD p 0))) := ints_get' hl hpM
  have hneg := fO_neg ho (q := (pv M O i).getD p 0) (by have := (pv_r M O i p hpM).2; omega)
  rw [← pw_at hpM] at hneg
  by_cases hs : 0 ≤ (pw M O i).getD p 0
  · have hskip : pw M O (i + 1) = pw M O i := by rw [pw, pw, pv_skip hpp (by omega)]
    generalize (pw M O i).getD p 0 = v at *
    simp (disch := omega) only [Try.ntmps43, Try.results43, go_sem, rr_eq, g1, g2, hl]
    exact ⟨i + 1, hlt, by omega, Wk.ofH (by simp only [go_sem, ↓List.forall_mem_cons, List.not_mem_nil, false_implies, implies_true, and_true, true_and, and_self, ri_eq, Int.natCast_add, Int.cast_ofNat_Int, rr_eq]; try simp) (by simp (disch := omega) only [go_sem, ↓List.forall_mem_cons, List.not_mem_nil, false_implies, implies_true, and_true, true_and, and_self, ri_eq, Int.natCast_add, Int.cast_ofNat_Int, if_pos, if_neg, Nat.reduceAdd, List.nil_append, hskip]; try simp) (Nat.le_refl _)⟩
  · have hz := pwk_zero (M := M) hl hpM (by omega : (pw M O i).getD p 0 < 0)
    have hend := pwk_all (M := M) (P := pw M O i) (p := p)
    rw [← pw_step ho hlt hpp (hneg.1 (by omega))] at hend
    have hrp := hw.2.1 p hpM
    have hkl : ∀ k, (pwk M (pw M O i) p k).length = M.length := fun k => gen_length _ _
    generalize (pw M O i).getD p 0 = v at *
    simp (disch := omega) only [Try.ntmps43, Try.results43, go_sem, rr_eq, g1, g2, hl, hz, rows_get, hrp]
    clear hz g2 hl
    refine LoopW.loop (fun k : Nat => ⟨ofL [(0, rr M), (5, .own 1 0 M.length M.length 1 false), (7, .val (.int .i64 p)), (24, ri O), (25, .val (.int .i64 O.length)), (26, .val (.int .i64 i)), (42, .row M.length false (ints (mrow M p))), (43, .val (.int .i64 M.length)), (44, .val (.int .i64 k))], hp [(1, ⟨ints (pwk M (pw M O i) p k), false⟩)] 2⟩) (fun k => k ≤ M.length) (fun k => M.length - k) 0 (by omega)
      (Wk.ofH (by simp only [go_sem, ↓List.forall_mem_cons, List.not_mem_nil, false_implies, implies_true, and_true, true_and, and_self, ri_eq, Int.natCast_add, Int.cast_ofNat_Int, rr_eq, hrp]; try simp) (by simp (disch := omega) only [go_sem, ↓List.forall_mem_cons, List.not_mem_nil, false_implies, implies_true, and_true, true_and, and_self, ri_eq, Int.natCast_add, Int.cast_ofNat_Int, if_pos, if_neg, Nat.reduceAdd, List.nil_append]; try simp) (Nat.le_refl _)) ?_
    intro k hk
    have hl := hkl k
    refine SW_of_vc Try.mixed _ _ _ (by kernel_rfl) ?_
    by_cases hlk : k < M.length
    · have g3 : (ints (mrow M p))[k]? = some (.val (.int .i64 (mat M p k))) := ints_get' hrp hlk
      have g4 : (ints (pwk M (pw M O i) p k))[k]? = some (.val (.int .i64 ((pwk M (pw M O i) p k).getD k 0))) := ints_get' hl hlk
      by_cases e1 : 0 < mat M p k
      · by_cases e2 : (pwk M (pw M O i) p k).getD k 0 < 0
        · have hput := pwk_put hlk e1 e2
          generalize (pwk M (pw M O i) p k).getD k 0 = u at *
          generalize mat M p k = mm at *
          simp (disch := omega) only [Try.ntmps43, Try.results43, go_sem, g3, g4, hl, hput]
          exact ⟨k + 1, hlk, by omega, Wk.ofH (by simp only [go_sem, ↓List.forall_mem_cons, List.not_mem_nil, false_implies, implies_true, and_true, true_and, and_self, ri_eq, Int.natCast_add, Int.cast_ofNat_Int, rr_eq]; try simp) (by simp (disch := omega) only [go_sem, ↓List.forall_mem_cons, List.not_mem_nil, false_implies, implies_true, and_true, true_and, and_self, ri_eq, Int.natCast_add, Int.cast_ofNat_Int, if_pos, if_neg, Nat.reduceAdd, List.nil_append]; try simp) (Nat.le_refl _)⟩
        · have hsk := pwk_skip (fun g => e2 g.2) hlk
          generalize (pwk M (pw M O i) p k).getD k 0 = u at *
          generalize mat M p k = mm at *
          simp (disch := omega) only [Try.ntmps43, Try.results43, go_sem, g3, g4, hl]
          exact ⟨k + 1, hlk, by omega, Wk.ofH (by simp only [go_sem, ↓List.forall_mem_cons, List.not_mem_nil, false_implies, implies_true, and_true, true_and, and_self, ri_eq, Int.natCast_add, Int.cast_ofNat_Int, rr_eq]; try simp) (by simp (disch := omega) only [go_sem, ↓List.forall_mem_cons, List.not_mem_nil, false_implies, implies_true, and_true, true_and, and_self, ri_eq, Int.natCast_add, Int.cast_ofNat_Int, if_pos, if_neg, Nat.reduceAdd, List.nil_append, ← hsk]; try simp) (Nat.le_refl _)⟩
      · have hsk := pwk_skip (P := pw M O i) (fun g => e1 g.1) hlk
        generalize mat M p k = mm at *
        simp (disch := omega) only [Try.ntmps43, Try.results43, go_sem, g3, hl]
        exact ⟨k + 1, hlk, by omega, Wk.ofH (by simp only [go_sem, ↓List.forall_mem_cons, List.not_mem_nil, false_implies, implies_true, and_true, true_and, and_self, ri_eq, Int.natCast_add, Int.cast_ofNat_Int, rr_eq]; try simp) (by simp (disch := omega) only [go_sem, ↓List.forall_mem_cons, List.not_mem_nil, false_implies, implies_true, and_true, true_and, and_self, ri_eq, Int.natCast_add, Int.cast_ofNat_Int, if_pos, if_neg, Nat.reduceAdd, List.nil_append, ← hsk]; try simp) (Nat.le_refl _)⟩
    · obtain rfl : k = M.length := by omega
      rw [hend]
      simp (disch := omega) only [Try.ntmps43, Try.results43, go_sem]
      exact ⟨i + 1, hlt, by omega, Wk.ofH (by simp only [go_sem, ↓List.forall_mem_cons, List.not_mem_nil, false_implies, implies_true, and_true, true_and, and_self, ri_eq, Int.natCast_add, Int.cast_ofNat_Int, rr_eq]; try simp) (by simp (disch := omega) only [go_sem, ↓List.forall_mem_cons, List.not_mem_nil, false_implies, implies_true, and_true, true_and, and_self, ri_eq, Int.natCast_add, Int.cast_ofNat_Int, if_pos, if_neg, Nat.reduceAdd, List.nil_append]; try simp) (Nat.le_refl _)⟩
end Go.Sh
