/-
  Texts put together: N1, K2, K3, N2, M0, U1, U2, V3, FI3, FI4, M1, CT3, CT4, EParsePartition. What each proves stands at its own head, with its conditions.
-/
import Derived.Test.YtkmckbjgffaieaaDoorZParsePartition3

/-
  Plain: components of a graph over 0 .. n-1, numbered by their first item; that the labels are determined; what a search leaves behind.
-/
namespace Go.Sh
set_option linter.unusedSimpArgs false
set_option linter.unusedVariables false
open Go Go.Proofs

inductive Rch (n : Nat) (B : Nat → Nat → Bool) : Nat → Nat → Prop
  | refl {x : Nat} : Rch n B x x
  | tail {x y z : Nat} : Rch n B x y → y < n → z < n → B y z = true → Rch n B x z
theorem Rch.trans {n : Nat} {B : Nat → Nat → Bool} {x y z : Nat} (h : Rch n B x y) (g : Rch n B y z) : Rch n B x z := by
  induction g with
  | refl => exact h
  | tail _ h1 h2 h3 ih => exact .tail ih h1 h2 h3
theorem Rch.one {n : Nat} {B : Nat → Nat → Bool} {x y : Nat} (h1 : x < n) (h2 : y < n) (h : B x y = true) : Rch n B x y := .tail .refl h1 h2 h
theorem Rch.symm {n : Nat} {B : Nat → Nat → Bool} (hs : ∀ x y, x < n → y < n → B x y = true → B y x = true) {x y : Nat} (h : Rch n B x y) : Rch n B y x := by
  induction h with
  | refl => exact .refl
  | tail _ h1 h2 h3 ih => exact (Rch.one h2 h1 (hs _ _ h1 h2 h3)).trans ih
theorem Rch.mono {n : Nat} {B B' : Nat → Nat → Bool} (hb : ∀ x y, x < n → y < n → B x y = true → Rch n B' x y) {x y : Nat} (h : Rch n B x y) : Rch n B' x y := by
  induction h with
  | refl => exact .refl
  | tail _ h1 h2 h3 ih => exact ih.trans (hb _ _ h1 h2 h3)
theorem Rch.lt {n : Nat} {B : Nat → Nat → Bool} {x y : Nat} (h : Rch n B x y) (hx : x < n) : y < n := by
  cases h with
  | refl => exact hx
  | tail _ _ h2 _ => exact h2
def RchK (n : Nat) (B : Nat → Nat → Bool) : Nat → Nat → Nat → Prop
  | 0, x, y => x = y
  | k + 1, x, z => RchK n B k x z ∨ ∃ y, y < n ∧ z < n ∧ RchK n B k x y ∧ B y z = true
theorem RchK.rch {n : Nat} {B : Nat → Nat → Bool} : ∀ {k x y : Nat}, RchK n B k x y → Rch n B x y
  | 0, x, y, h => by rw [RchK] at h; subst h; exact .refl
  | k + 1, x, z, h => by
    rw [RchK] at h
    rcases h with h | ⟨y, h1, h2, h3, h4⟩
    · exact RchK.rch h
    · exact .tail (RchK.rch h3) h1 h2 h4
theorem RchK.self {n : Nat} {B : Nat → Nat → Bool} : ∀ {k x : Nat}, RchK n B k x x
  | 0, x => rfl
  | k + 1, x => .inl RchK.self
theorem countP_lt {α : Type} {p q : α → Bool} : ∀ {l : List α} {i : α}, (∀ x ∈ l, p x = true → q x = true) → i ∈ l → q i = true → p i = false → l.countP p < l.countP q
  | [], i, _, h, _, _ => by simp at h
  | a :: l, i, hpq, h, hq, hp => by
    have hle : l.countP p ≤ l.countP q := List.countP_mono_left (fun x hx h => hpq x (by simp [hx]) h)
    rcases List.mem_cons.1 h with rfl | h
    · rw [List.countP_cons_of_neg (by simp [hp]), List.countP_cons_of_pos hq]; omega
    · have := countP_lt (fun x hx => hpq x (by simp [hx])) h hq hp
      rw [List.countP_cons, List.countP_cons]
      have := hpq a (by simp)
      cases hpa : p a with
      | false => simp; omega
      | true => simp [this hpa]; omega
open Classical in
theorem rch_closed {n : Nat} {B : Nat → Nat → Bool} {i : Nat} (hi : i < n) : ∀ k, (∀ x y, x < n → y < n → RchK n B k i x → B x y = true → RchK n B k i y) ∨ k + 1 ≤ (List.range n).countP (fun x => decide (RchK n B k i x))
  | 0 => by
    right
    have : 0 < (List.range n).countP (fun x => decide (RchK n B 0 i x)) := List.countP_pos_iff.2 ⟨i, by simpa using hi, by simp [RchK]⟩
    omega
  | k + 1 => by
    by_cases hc : ∀ x y, x < n → y < n → RchK n B k i x → B x y = true → RchK n B k i y
    · left
      intro x y hx hy h hb
      refine .inl (hc x y hx hy ?_ hb)
      rcases h with h | ⟨z, h1, h2, h3, h4⟩
      · exact h
      · exact hc z x h1 h2 h3 h4
    · right
      have ih := (rch_closed hi k).resolve_left hc
      have : ∃ x y, x < n ∧ y < n ∧ RchK n B k i x ∧ B x y = true ∧ ¬ RchK n B k i y := by
        refine Classical.byContradiction fun hn => hc fun x y hx hy h hb => Classical.byContradiction fun h2 => hn ⟨x, y, hx, hy, h, hb, h2⟩
      obtain ⟨x, y, hx, hy, h, hb, h2⟩ := this
      have := countP_lt (p := fun x => decide (RchK n B k i x)) (q := fun x => decide (RchK n B (k + 1) i x)) (l := List.range n) (i := y)
        (fun z _ hz => decide_eq_true (.inl (of_decide_eq_true hz))) (by simpa using hy) (decide_eq_true (.inr ⟨x, hx, hy, h, hb⟩)) (decide_eq_false h2)
      omega
theorem rch_bound {n : Nat} {B : Nat → Nat → Bool} {i x : Nat} (hi : i < n) (h : Rch n B i x) : RchK n B n i x := by
  have hc := (rch_closed (B := B) hi n).resolve_right (fun h => by
    have := List.countP_le_length (l := List.range n) (p := fun x => @decide (RchK n B n i x) (Classical.propDecidable _))
    simp only [List.length_range] at this
    omega)
  induction h with
  | refl => exact RchK.self
  | tail _ h1 h2 h3 ih => exact hc _ _ h1 h2 ih h3

/-- The labels of the components. -/
structure CompL (n : Nat) (B : Nat → Nat → Bool) (L : List Int) : Prop where
  len : L.length = n
  nn : ∀ x, x < n → 0 ≤ L.getD x 0
  can : ∀ x v, x < n → 0 ≤ v → v < L.getD x 0 → ∃ y, y < x ∧ L.getD y 0 = v
  iff : ∀ x y, x < n → y < n → (L.getD x 0 = L.getD y 0 ↔ Rch n B x y)
theorem list_ext {L L' : List Int} (h : L.length = L'.length) (g : ∀ x, x < L.length → L.getD x 0 = L'.getD x 0) : L = L' := by
  refine List.ext_getElem h fun i h1 h2 => ?_
  have := g i h1
  simpa [h1, h2] using this
theorem CompL.uniq {n : Nat} {B B' : Nat → Nat → Bool} {L L' : List Int} (h : CompL n B L) (h' : CompL n B' L') (hb : ∀ x y, x < n → y < n → (Rch n B x y ↔ Rch n B' x y)) : L = L' := by
  refine list_ext (h.len.trans h'.len.symm) (fun x hx => ?_)
  rw [h.len] at hx
  induction x using Nat.strongRecOn with
  | _ x ih =>
    rcases Int.lt_trichotomy (L.getD x 0) (L'.getD x 0) with hl | he | hl
    · obtain ⟨y, hy, e⟩ := h'.can x _ hx (h.nn x hx) hl
      have e2 := ih y hy (by omega)
      have := (h.iff y x (by omega) hx).1 (by omega)
      have := (h'.iff y x (by omega) hx).2 ((hb _ _ (by omega) hx).1 this)
      omega
    · exact he
    · obtain ⟨y, hy, e⟩ := h.can x _ hx (h'.nn x hx) hl
      have e2 := ih y hy (by omega)
      have := (h'.iff y x (by omega) hx).1 (by omega)
      have := (h.iff y x (by omega) hx).2 ((hb _ _ (by omega) hx).2 this)
      omega
open Classical in
noncomputable def comp (n : Nat) (B : Nat → Nat → Bool) : List Int := if h : ∃ L, CompL n B L then Classical.choose h else []
theorem CompL.eq {n : Nat} {B : Nat → Nat → Bool} {L : List Int} (h : CompL n B L) : L = comp n B := by
  have hex : ∃ L, CompL n B L := ⟨L, h⟩
  rw [comp, dif_pos hex]
  exact h.uniq (Classical.choose_spec hex) (fun _ _ _ _ => Iff.rfl)
theorem CompL.comp {n : Nat} {B : Nat → Nat → Bool} {L : List Int} (h : CompL n B L) : CompL n B (comp n B) := by rw [← h.eq]; exact h

/-- Items before i are labelled, with whole components. -/
structure PartL (n : Nat) (B : Nat → Nat → Bool) (i : Nat) (c : Int) (O : List Int) : Prop where
  len : O.length = n
  c0 : 0 ≤ c
  ci : c ≤ i
  done : ∀ x, x < i → x < n → 0 ≤ O.getD x 0
  rng : ∀ x, x < n → O.getD x 0 < c
  vals : ∀ v, 0 ≤ v → v < c → ∃ y, y < i ∧ y < n ∧ O.getD y 0 = v
  can : ∀ x v, x < n → 0 ≤ v → v < O.getD x 0 → ∃ y, y < x ∧ O.getD y 0 = v
  clo : ∀ x y, x < n → y < n → 0 ≤ O.getD x 0 → B x y = true → O.getD y 0 = O.getD x 0
  snd : ∀ x y, x < n → y < n → 0 ≤ O.getD x 0 → O.getD x 0 = O.getD y 0 → Rch n B x y
theorem getD_rep {n x : Nat} {a : Int} (h : x < n) : (List.replicate n a).getD x 0 = a := by simp [h]
theorem PartL.zero (n : Nat) (B : Nat → Nat → Bool) : PartL n B 0 0 (List.replicate n (-1)) where
  len := by simp
  c0 := by omega
  ci := by omega
  done x h := by omega
  rng x h := by rw [getD_rep h]; omega
  vals v h1 h2 := by omega
  can x v h h1 h2 := by rw [getD_rep h] at h2; omega
  clo x y h1 _ h2 := by rw [getD_rep h1] at h2; omega
  snd x y h1 _ h2 := by rw [getD_rep h1] at h2; omega
theorem PartL.skip {n : Nat} {B : Nat → Nat → Bool} {i : Nat} {c : Int} {O : List Int} (h : PartL n B i c O) (hi : 0 ≤ O.getD i 0) : PartL n B (i + 1) c O where
  len := h.len
  c0 := h.c0
  ci := by have := h.ci; omega
  done x hx hn := by
    rcases Nat.lt_succ_iff_lt_or_eq.1 hx with g | rfl
    · exact h.done x g hn
    · exact hi
  rng := h.rng
  vals v h1 h2 := by
    obtain ⟨y, g1, g2⟩ := h.vals v h1 h2
    exact ⟨y, by omega, g2⟩
  can := h.can
  clo := h.clo
  snd := h.snd
theorem PartL.path {n : Nat} {B : Nat → Nat → Bool} {i : Nat} {c : Int} {O : List Int} (h : PartL n B i c O) {x y : Nat} (hr : Rch n B x y) (h0 : 0 ≤ O.getD x 0) : O.getD y 0 = O.getD x 0 := by
  induction hr with
  | refl => rfl
  | tail _ h1 h2 h3 ih => rw [h.clo _ _ h1 h2 (by rw [ih]; exact h0) h3, ih]
/-- O' is O with the component of i labelled c. -/
structure NewL (n : Nat) (B : Nat → Nat → Bool) (c : Int) (i : Nat) (O O' : List Int) : Prop where
  len : O'.length = n
  new : ∀ x, x < n → Rch n B i x → O'.getD x 0 = c
  old : ∀ x, x < n → ¬ Rch n B i x → 0 ≤ O.getD x 0 → O'.getD x 0 = O.getD x 0
  neg : ∀ x, x < n → ¬ Rch n B i x → O.getD x 0 < 0 → O'.getD x 0 < 0
theorem PartL.unl {n : Nat} {B : Nat → Nat → Bool} (hs : ∀ x y, x < n → y < n → B x y = true → B y x = true) {i : Nat} {c : Int} {O : List Int} (h : PartL n B i c O) {k : Nat} (h0 : O.getD k 0 < 0) {x : Nat} (hr : Rch n B k x) : O.getD x 0 < 0 := by
  refine Int.not_le.1 fun hn => ?_
  have := h.path (hr.symm hs) hn
  omega
theorem PartL.step {n : Nat} {B : Nat → Nat → Bool} (hs : ∀ x y, x < n → y < n → B x y = true → B y x = true) {i : Nat} {c : Int} {O O' : List Int} (h : PartL n B i c O) (hi : i < n) (h0 : O.getD i 0 < 0) (g : NewL n B c i O O') : PartL n B (i + 1) (c + 1) O' := by
  have hun : ∀ x, Rch n B i x → O.getD x 0 < 0 := fun x hr => h.unl hs h0 hr
  have hkeep : ∀ x, x < n → 0 ≤ O.getD x 0 → O'.getD x 0 = O.getD x 0 := fun x hx hn => g.old x hx (fun hr => by have := hun x hr; omega) hn
  have hback : ∀ x, x < n → ¬ Rch n B i x → 0 ≤ O'.getD x 0 → O'.getD x 0 = O.getD x 0 ∧ 0 ≤ O.getD x 0 := by
    intro x hx hr hn
    by_cases h1 : 0 ≤ O.getD x 0
    · exact ⟨hkeep x hx h1, h1⟩
    · have := g.neg x hx hr (by omega); omega
  have hc0 := h.c0
  have hci := h.ci
  refine ⟨g.len, by omega, by omega, ?_, ?_, ?_, ?_, ?_, ?_⟩
  · intro x hx hn
    rcases Nat.lt_succ_iff_lt_or_eq.1 hx with k | rfl
    · have := h.done x k hn
      rw [hkeep x hn this]; exact this
    · rw [g.new x hn .refl]; omega
  · intro x hx
    by_cases hr : Rch n B i x
    · rw [g.new x hx hr]; omega
    · by_cases hn : 0 ≤ O'.getD x 0
      · have := hback x hx hr hn
        have := h.rng x hx
        omega
      · omega
  · intro v h1 h2
    by_cases hv : v = c
    · exact ⟨i, by omega, hi, by rw [g.new i hi .refl, hv]⟩
    · obtain ⟨y, k1, k2, k3⟩ := h.vals v h1 (by omega)
      exact ⟨y, by omega, k2, by rw [hkeep y k2 (by omega), k3]⟩
  · intro x v hx h1 h2
    by_cases hr : Rch n B i x
    · rw [g.new x hx hr] at h2
      obtain ⟨y, k1, k2, k3⟩ := h.vals v h1 h2
      have : ¬ x < i := fun hl => by have := h.done x hl hx; have := hun x hr; omega
      exact ⟨y, by omega, by rw [hkeep y k2 (by omega), k3]⟩
    · have hb := hback x hx hr (by omega)
      rw [hb.1] at h2
      obtain ⟨y, k1, k2⟩ := h.can x v hx h1 h2
      exact ⟨y, k1, by rw [hkeep y (by omega) (by omega), k2]⟩
  · intro x y hx hy h1 hb
    by_cases hr : Rch n B i x
    · rw [g.new x hx hr, g.new y hy (.tail hr hx hy hb)]
    · have hq := hback x hx hr h1
      have := h.clo x y hx hy hq.2 hb
      rw [hkeep y hy (by omega)]
      omega
  · intro x y hx hy h1 he
    by_cases hr : Rch n B i x
    · by_cases hr2 : Rch n B i y
      · exact (hr.symm hs).trans hr2
      · have := g.new x hx hr
        have := hback y hy hr2 (by omega)
        have := h.rng y hy
        omega
    · have hq := hback x hx hr h1
      by_cases hr2 : Rch n B i y
      · have := g.new y hy hr2
        have := h.rng x hx
        omega
      · have := hback y hy hr2 (by omega)
        exact h.snd x y hx hy hq.2 (by omega)
theorem PartL.final {n : Nat} {B : Nat → Nat → Bool} {i : Nat} {c : Int} {O : List Int} (h : PartL n B i c O) (hi : n ≤ i) : CompL n B O where
  len := h.len
  nn x hx := h.done x (by omega) hx
  can := h.can
  iff x y hx hy := ⟨fun e => h.snd x y hx hy (h.done x (by omega) hx) e, fun r => (h.path r (h.done x (by omega) hx)).symm⟩

/-! ### The search that calls itself -/
structure DfsL (n : Nat) (B : Nat → Nat → Bool) (c : Int) (i : Nat) (O O' : List Int) : Prop where
  len : O'.length = n
  self : O'.getD i 0 = c
  keep : ∀ x, x < n → 0 ≤ O.getD x 0 → O'.getD x 0 = O.getD x 0
  new : ∀ x, x < n → O.getD x 0 < 0 → O'.getD x 0 < 0 ∨ (O'.getD x 0 = c ∧ Rch n B i x)
  clo : ∀ x y, x < n → y < n → O.getD x 0 < 0 → 0 ≤ O'.getD x 0 → B x y = true → 0 ≤ O'.getD y 0
structure DfsK (n : Nat) (B : Nat → Nat → Bool) (c : Int) (i : Nat) (O : List Int) (k : Nat) (O' : List Int) : Prop where
  len : O'.length = n
  self : O'.getD i 0 = c
  keep : ∀ x, x < n → 0 ≤ O.getD x 0 → O'.getD x 0 = O.getD x 0
  new : ∀ x, x < n → O.getD x 0 < 0 → O'.getD x 0 < 0 ∨ (O'.getD x 0 = c ∧ Rch n B i x)
  clo : ∀ x y, x < n → y < n → x ≠ i → O.getD x 0 < 0 → 0 ≤ O'.getD x 0 → B x y = true → 0 ≤ O'.getD y 0
  cli : ∀ y, y < n → y < k → B i y = true → 0 ≤ O'.getD y 0
theorem getD_set {L : List Int} {i x : Nat} {a : Int} (hi : i < L.length) : (L.set i a).getD x 0 = if x = i then a else L.getD x 0 := by
  simp only [List.getD_eq_getElem?_getD, List.getElem?_set]
  by_cases h : i = x
  · subst h; simp [hi]
  · have : ¬ x = i := fun e => h e.symm
    simp [h, this]
theorem DfsK.start {n : Nat} {B : Nat → Nat → Bool} {c : Int} {i : Nat} {O : List Int} (hl : O.length = n) (hi : i < n) (h0 : O.getD i 0 < 0) : DfsK n B c i O 0 (O.set i c) where
  len := by simpa using hl
  self := by rw [getD_set (by omega), if_pos rfl]
  keep x hx h := by
    rw [getD_set (by omega), if_neg (fun e => by subst e; omega)]
  new x hx h := by
    rw [getD_set (by omega)]
    by_cases e : x = i
    · subst e; rw [if_pos rfl]; exact .inr ⟨rfl, .refl⟩
    · rw [if_neg e]; exact .inl h
  clo x y hx hy hne h h2 hb := by
    rw [getD_set (by omega), if_neg hne] at h2; omega
  cli y _ h := by omega
theorem DfsK.skip {n : Nat} {B : Nat → Nat → Bool} {c : Int} {i k : Nat} {O O' : List Int} (h : DfsK n B c i O k O') (hk : B i k = true → 0 ≤ O'.getD k 0) : DfsK n B c i O (k + 1) O' := by
  refine ⟨h.len, h.self, h.keep, h.new, h.clo, fun y hy hlt hb => ?_⟩
  rcases Nat.lt_succ_iff_lt_or_eq.1 hlt with g | rfl
  · exact h.cli y hy g hb
  · exact hk hb
theorem DfsK.step {n : Nat} {B : Nat → Nat → Bool} {c : Int} (hc : 0 ≤ c) {i k : Nat} {O O1 O2 : List Int} (hi : i < n) (hk : k < n) (h : DfsK n B c i O k O1) (hb : B i k = true) (hneg : O1.getD k 0 < 0) (g : DfsL n B c k O1 O2) : DfsK n B c i O (k + 1) O2 where
  len := g.len
  self := by rw [g.keep i hi (by rw [h.self]; exact hc), h.self]
  keep x hx h1 := by rw [g.keep x hx (by rw [h.keep x hx h1]; exact h1), h.keep x hx h1]
  new x hx h1 := by
    rcases h.new x hx h1 with g1 | ⟨g1, g2⟩
    · rcases g.new x hx g1 with g3 | ⟨g3, g4⟩
      · exact .inl g3
      · exact .inr ⟨g3, (Rch.one hi hk hb).trans g4⟩
    · exact .inr ⟨by rw [g.keep x hx (by omega), g1], g2⟩
  clo x y hx hy hne h1 h2 hb := by
    by_cases h3 : 0 ≤ O1.getD x 0
    · have := h.clo x y hx hy hne h1 h3 hb
      rw [g.keep y hy this]; exact this
    · exact g.clo x y hx hy (by omega) h2 hb
  cli y hy hlt hb := by
    rcases Nat.lt_succ_iff_lt_or_eq.1 hlt with k1 | rfl
    · have := h.cli y hy k1 hb
      rw [g.keep y hy this]; exact this
    · rw [g.self]; exact hc
theorem DfsK.final {n : Nat} {B : Nat → Nat → Bool} {c : Int} {i k : Nat} {O O' : List Int} (h : DfsK n B c i O k O') (hk : n ≤ k) : DfsL n B c i O O' where
  len := h.len
  self := h.self
  keep := h.keep
  new := h.new
  clo x y hx hy h1 h2 hb := by
    by_cases e : x = i
    · subst e; exact h.cli y hy (by omega) hb
    · exact h.clo x y hx hy e h1 h2 hb
def negs (n : Nat) (O : List Int) : Nat := (List.range n).countP fun x => decide (O.getD x 0 < 0)
theorem DfsK.negs {n : Nat} {B : Nat → Nat → Bool} {c : Int} (hc : 0 ≤ c) {i k : Nat} {O O' : List Int} (h : DfsK n B c i O k O') (hi : i < n) (h0 : O.getD i 0 < 0) : negs n O' < negs n O := by
  refine countP_lt (i := i) (fun x hx hd => ?_) (by simpa using hi) (decide_eq_true h0) (decide_eq_false (by rw [h.self]; omega))
  have hx : x < n := by simpa using hx
  have := of_decide_eq_true hd
  refine decide_eq_true (Int.not_le.1 fun hn => ?_)
  rw [h.keep x hx hn] at this
  omega
theorem negs_pos {n i : Nat} {O : List Int} (hi : i < n) (h : O.getD i 0 < 0) : 0 < negs n O := List.countP_pos_iff.2 ⟨i, by simpa using hi, decide_eq_true h⟩
theorem DfsL.newL {n : Nat} {B : Nat → Nat → Bool} (hs : ∀ x y, x < n → y < n → B x y = true → B y x = true) {i j : Nat} {c : Int} {O O' : List Int} (h : PartL n B j c O) (hi : i < n) (h0 : O.getD i 0 < 0) (g : DfsL n B c i O O') : NewL n B c i O O' where
  len := g.len
  new x hx hr := by
    have hun : ∀ x, Rch n B i x → O.getD x 0 < 0 := fun x hr => h.unl hs h0 hr
    induction hr with
    | refl => exact g.self
    | tail h1 h2 h3 h4 ih =>
      have e := ih h2
      have hc0 := h.c0
      have := g.clo _ _ h2 h3 (hun _ h1) (by omega) h4
      rcases g.new _ h3 (hun _ (.tail h1 h2 h3 h4)) with k | k
      · omega
      · exact k.1
  old x hx _ h1 := g.keep x hx h1
  neg x hx hr h1 := by
    rcases g.new x hx h1 with k | k
    · exact k
    · exact absurd k.2 hr

/-! ### The search by rounds -/
structure SpI (n : Nat) (B : Nat → Nat → Bool) (c : Int) (i : Nat) (O : List Int) (s a b : Nat) (O' : List Int) : Prop where
  len : O'.length = n
  all : ∀ x, x < n → O'.getD x 0 = O.getD x 0 ∨ (O'.getD x 0 = c ∧ Rch n B i x)
  rk : ∀ x, x < n → RchK n B s i x → O'.getD x 0 = c
  rows : ∀ z y, z < a → z < n → y < n → RchK n B s i z → B z y = true → O'.getD y 0 = c
  row : ∀ y, y < b → y < n → RchK n B s i a → B a y = true → O'.getD y 0 = c
theorem SpI.start {n : Nat} {B : Nat → Nat → Bool} {c : Int} {i : Nat} {O : List Int} (hl : O.length = n) (hi : i < n) : SpI n B c i O 0 0 0 (O.set i c) where
  len := by simpa using hl
  all x hx := by
    rw [getD_set (by omega)]
    by_cases e : x = i
    · subst e; rw [if_pos rfl]; exact .inr ⟨rfl, .refl⟩
    · rw [if_neg e]; exact .inl rfl
  rk x hx hr := by
    rw [RchK] at hr; subst hr
    rw [getD_set (by omega), if_pos rfl]
  rows z y h := by omega
  row y h := by omega
theorem SpI.skip {n : Nat} {B : Nat → Nat → Bool} {c : Int} {i s a b : Nat} {O O' : List Int} (h : SpI n B c i O s a b O') (ha : a < n) (hn : ¬ (O'.getD a 0 = c ∧ B a b = true)) : SpI n B c i O s a (b + 1) O' := by
  refine ⟨h.len, h.all, h.rk, h.rows, fun y hy hyn hr hb => ?_⟩
  rcases Nat.lt_succ_iff_lt_or_eq.1 hy with g | rfl
  · exact h.row y g hyn hr hb
  · exact absurd ⟨h.rk a ha hr, hb⟩ hn
theorem SpI.put {n : Nat} {B : Nat → Nat → Bool} {c : Int} {i s a b : Nat} {O O' : List Int} (hr : ∀ x, x < n → O.getD x 0 < c) (h : SpI n B c i O s a b O') (ha : a < n) (hb : b < n) (h1 : O'.getD a 0 = c) (h2 : B a b = true) : SpI n B c i O s a (b + 1) (O'.set b c) := by
  have hl := h.len
  have g : ∀ x, (O'.set b c).getD x 0 = if x = b then c else O'.getD x 0 := fun x => getD_set (by omega)
  have ra : Rch n B i a := by
    rcases h.all a ha with e | e
    · have := hr a ha; omega
    · exact e.2
  have hk : ∀ x, O'.getD x 0 = c → (O'.set b c).getD x 0 = c := fun x e => by
    rw [g]; split
    · rfl
    · exact e
  refine ⟨by simpa using hl, fun x hx => ?_, fun x hx hr => hk x (h.rk x hx hr), fun z y h3 h4 h5 h6 h7 => hk y (h.rows z y h3 h4 h5 h6 h7), fun y hy hyn h3 h4 => ?_⟩
  · rw [g]
    by_cases e : x = b
    · subst e; rw [if_pos rfl]; exact .inr ⟨rfl, .tail ra ha hb h2⟩
    · rw [if_neg e]; exact h.all x hx
  · rcases Nat.lt_succ_iff_lt_or_eq.1 hy with k | rfl
    · exact hk y (h.row y k hyn h3 h4)
    · rw [g, if_pos rfl]
theorem SpI.next {n : Nat} {B : Nat → Nat → Bool} {c : Int} {i s a b : Nat} {O O' : List Int} (h : SpI n B c i O s a b O') (hb : n ≤ b) : SpI n B c i O s (a + 1) 0 O' := by
  refine ⟨h.len, h.all, h.rk, fun z y h1 h2 h3 h4 h5 => ?_, fun y hy => by omega⟩
  rcases Nat.lt_succ_iff_lt_or_eq.1 h1 with g | rfl
  · exact h.rows z y g h2 h3 h4 h5
  · exact h.row y (by omega) h3 h4 h5
theorem SpI.round {n : Nat} {B : Nat → Nat → Bool} {c : Int} {i s a b : Nat} {O O' : List Int} (h : SpI n B c i O s a b O') (ha : n ≤ a) : SpI n B c i O (s + 1) 0 0 O' := by
  refine ⟨h.len, h.all, fun x hx hr => ?_, fun z y h1 => by omega, fun y h1 => by omega⟩
  rcases hr with hr | ⟨y, h1, h2, h3, h4⟩
  · exact h.rk x hx hr
  · exact h.rows y x (by omega) h1 h2 h3 h4
theorem SpI.newL {n : Nat} {B : Nat → Nat → Bool} {c : Int} {i a b : Nat} {O O' : List Int} (hi : i < n) (h : SpI n B c i O n a b O') : NewL n B c i O O' where
  len := h.len
  new x hx hr := h.rk x hx (rch_bound hi hr)
  old x hx hr _ := by
    rcases h.all x hx with e | e
    · exact e
    · exact absurd e.2 hr
  neg x hx hr h0 := by
    rcases h.all x hx with e | e
    · omega
    · exact absurd e.2 hr
open Classical in
theorem PartL.ex {n : Nat} {B : Nat → Nat → Bool} (hs : ∀ x y, x < n → y < n → B x y = true → B y x = true) : ∀ i, i ≤ n → ∃ c O, PartL n B i c O
  | 0, _ => ⟨0, _, .zero n B⟩
  | i + 1, hi => by
    obtain ⟨c, O, h⟩ := PartL.ex hs i (by omega)
    by_cases h0 : 0 ≤ O.getD i 0
    · exact ⟨c, O, h.skip h0⟩
    · have e : ∀ x, x < n → ((List.range n).map fun x => if Rch n B i x then c else O.getD x 0).getD x 0 = if Rch n B i x then c else O.getD x 0 := by
        intro x hx
        simp [hx]
      refine ⟨c + 1, _, h.step hs (by omega) (by omega) (O' := (List.range n).map fun x => if Rch n B i x then c else O.getD x 0) ⟨by simp, fun x hx hr => ?_, fun x hx hr _ => ?_, fun x hx hr h1 => ?_⟩⟩
      · rw [e x hx, if_pos hr]
      · rw [e x hx, if_neg hr]
      · rw [e x hx, if_neg hr]; exact h1
theorem comp_ok {n : Nat} {B : Nat → Nat → Bool} (hs : ∀ x y, x < n → y < n → B x y = true → B y x = true) : CompL n B (comp n B) := by
  obtain ⟨c, O, h⟩ := PartL.ex hs n (Nat.le_refl _)
  exact (h.final (Nat.le_refl _)).comp
theorem comp_congr {n : Nat} {B B' : Nat → Nat → Bool} {L L' : List Int} (h : CompL n B L) (h' : CompL n B' L') (h1 : ∀ x y, x < n → y < n → B x y = true → Rch n B' x y) (h2 : ∀ x y, x < n → y < n → B' x y = true → Rch n B x y) : comp n B = comp n B' := by
  rw [← h.eq, ← h'.eq]
  exact h.uniq h' (fun x y _ _ => ⟨fun r => r.mono h1, fun r => r.mono h2⟩)
end Go.Sh

/-
  Contracts: is it a weight matrix? Of the reference and of the program.
-/
namespace Go.Sh
set_option linter.unusedSimpArgs false
set_option linter.unusedVariables false
open Go Go.Proofs

def WM (M : List (List Int)) : Prop := (1 ≤ M.length ∧ M.length ≤ 8) ∧ (∀ i, i < M.length → (mrow M i).length = M.length) ∧ (∀ i k, i < M.length → k < M.length → (-1000 ≤ mat M i k ∧ mat M i k ≤ 1000) ∧ mat M i k = mat M k i) ∧ ∀ i, i < M.length → mat M i i = 0
open Classical in
noncomputable def isWM (M : List (List Int)) : Bool := decide (WM M)
open Classical in
theorem isWM_f {M : List (List Int)} (h : ¬ WM M) : isWM M = false := decide_eq_false h
open Classical in
theorem isWM_t {M : List (List Int)} (h : WM M) : isWM M = true := decide_eq_true h

open Classical in
theorem WM_of {M : List (List Int)} (h : isWM M = true) : WM M := by
  unfold isWM at h
  exact of_decide_eq_true h
theorem inR_not {x a b : Int} (h : inR x a b = false) : ¬ (a ≤ x ∧ x ≤ b) := by
  rintro ⟨h1, h2⟩
  rw [inR_tt h1 h2] at h
  cases h
theorem ints_get' {L : List Int} {k n : Nat} (hl : L.length = n) (h : k < n) : (ints L)[k]? = some (.val (.int .i64 (L.getD k 0))) := ints_get (by omega)

set_option maxHeartbeats 4000000 in
theorem Tryd.specIsWM_ok (M : List (List Int)) (hM : M.length ≤ 1048576) (hR : ∀ i, i < M.length → (mrow M i).length ≤ 1048576) : PCall Tryd.prog 59 [rr M] (.val (.bool (isWM M))) := by
  refine FCall.pcall (R := fun r _ => r = .val (.bool (isWM M))) ?_ 0 (by rintro r H rfl; exact view_bool)
  refine FCall.of_body Tryd.func59 rfl (by kernel_rfl) (by simp [Tryd.ntmps59]) ?_
  refine SW_of_vc Tryd.mixed _ _ _ (by kernel_rfl) ?_
  simp (disch := omega) only [Tryd.ntmps59, Tryd.results59, go_sem, rr_eq]
  refine LoopW.loop (fun i : Nat => ⟨ofL [(0, rr M), (3, .val (.int .i64 i))], hp [] 0⟩) (fun i => i ≤ M.length ∧ ∀ x, x < i → (mrow M x).length = M.length) (fun i => M.length - i) 0 ⟨by omega, by intro x h; omega⟩ (Wk.of (by simp only [go_sem, ↓List.forall_mem_cons, List.not_mem_nil, false_implies, implies_true, and_true, true_and, and_self, ri_eq, Int.natCast_add, Int.cast_ofNat_Int, rr_eq]; try simp) rfl) ?_
  rintro i ⟨hi, hii⟩
  refine SW_of_vc Tryd.mixed _ _ _ (by kernel_rfl) ?_
  by_cases hlt : i < M.length
  · by_cases hr : (mrow M i).length = M.length
    · simp (disch := omega) only [Tryd.ntmps59, Tryd.results59, go_sem, rr_eq, rows_get, hr]
      refine ⟨i + 1, ⟨by omega, fun x hx => ?_⟩, by omega, Wk.of (by simp only [go_sem, ↓List.forall_mem_cons, List.not_mem_nil, false_implies, implies_true, and_true, true_and, and_self, ri_eq, Int.natCast_add, Int.cast_ofNat_Int, rr_eq]; try simp) rfl⟩
      rcases Nat.lt_succ_iff_lt_or_eq.mp hx with h | rfl
      · exact hii x h
      · exact hr
    · have hri := hR i hlt
      simp (disch := omega) only [Tryd.ntmps59, Tryd.results59, go_sem, rr_eq, rows_get]
      exact Fin.val (by rw [isWM_f (fun h => hr (h.2.1 i hlt))])
  · obtain rfl : i = M.length := by omega
    simp (disch := omega) only [Tryd.ntmps59, Tryd.results59, go_sem, rr_eq]
    refine LoopW.loop (fun i : Nat => ⟨ofL [(0, rr M), (4, .val (.int .i64 i))], hp [] 0⟩) (fun i => i ≤ M.length ∧ ∀ x k, x < i → k < M.length → (-1000 ≤ mat M x k ∧ mat M x k ≤ 1000) ∧ mat M x k = mat M k x ∧ (x = k → mat M x k = 0)) (fun i => M.length - i) 0 ⟨by omega, by intro x k h; omega⟩ (Wk.of (by simp only [go_sem, ↓List.forall_mem_cons, List.not_mem_nil, false_implies, implies_true, and_true, true_and, and_self, ri_eq, Int.natCast_add, Int.cast_ofNat_Int, rr_eq]; try simp) rfl) ?_
    rintro i ⟨hi1, hi2⟩
    refine SW_of_vc Tryd.mixed _ _ _ (by kernel_rfl) ?_
    by_cases hlt1 : i < M.length
    · simp (disch := omega) only [Tryd.ntmps59, Tryd.results59, go_sem, rr_eq]
      refine LoopW.loop (fun k : Nat => ⟨ofL [(0, rr M), (4, .val (.int .i64 i)), (5, .val (.int .i64 k))], hp [] 0⟩) (fun k => k ≤ M.length ∧ ∀ y, y < k → (-1000 ≤ mat M i y ∧ mat M i y ≤ 1000) ∧ mat M i y = mat M y i ∧ (i = y → mat M i y = 0)) (fun k => M.length - k) 0 ⟨by omega, by intro y h; omega⟩ (Wk.of (by simp only [go_sem, ↓List.forall_mem_cons, List.not_mem_nil, false_implies, implies_true, and_true, true_and, and_self, ri_eq, Int.natCast_add, Int.cast_ofNat_Int, rr_eq]; try simp) rfl) ?_
      rintro k ⟨hk1, hk2⟩
      refine SW_of_vc Tryd.mixed _ _ _ (by kernel_rfl) ?_
      by_cases hlt2 : k < M.length
      · have hri := hii i hlt1
        have hrk := hii k hlt2
        have g1 : (ints (mrow M i))[k]? = some (.val (.int .i64 (mat M i k))) := ints_get' hri hlt2
        have g2 : (ints (mrow M k))[i]? = some (.val (.int .i64 (mat M k i))) := ints_get' hrk hlt1
        obtain ⟨a, ha⟩ : ∃ a, mat M i k = a := ⟨_, rfl⟩
        obtain ⟨b, hb⟩ : ∃ b, mat M k i = b := ⟨_, rfl⟩
        rw [ha] at g1
        rw [hb] at g2
        have w := Tryd.l1In_ok a (-1000) 1000
        rcases Bool.eq_false_or_eq_true (inR a (-1000) 1000) with h1 | h1
        · obtain ⟨r1, r2⟩ := inR_of h1
          rw [h1] at w
          by_cases h2 : a = b
          · by_cases h3 : i = k
            · by_cases h4 : a = 0
              · simp (disch := omega) only [Tryd.ntmps59, Tryd.results59, go_sem, rr_eq, rows_get, hri, hrk, g1, g2]
                refine w.callDV 0 (viewL_cons_of (view_int) (viewL_cons_of (view_int) (viewL_cons_of (view_int) viewL_nil_of))) ?_
                simp (disch := omega) only [Tryd.ntmps59, Tryd.results59, go_sem, rr_eq, rows_get, hri, hrk, g1, g2]
                refine ⟨k + 1, ⟨by omega, fun y hy => ?_⟩, by omega, Wk.of (by simp only [go_sem, ↓List.forall_mem_cons, List.not_mem_nil, false_implies, implies_true, and_true, true_and, and_self, ri_eq, Int.natCast_add, Int.cast_ofNat_Int, rr_eq]; try simp) rfl⟩
                rcases Nat.lt_succ_iff_lt_or_eq.mp hy with h | rfl
                · exact hk2 y h
                · rw [ha, hb]; exact ⟨⟨r1, r2⟩, h2, fun _ => h4⟩
              · simp (disch := omega) only [Tryd.ntmps59, Tryd.results59, go_sem, rr_eq, rows_get, hri, hrk, g1, g2]
                refine w.callDV 0 (viewL_cons_of (view_int) (viewL_cons_of (view_int) (viewL_cons_of (view_int) viewL_nil_of))) ?_
                simp (disch := omega) only [Tryd.ntmps59, Tryd.results59, go_sem, rr_eq, rows_get, hri, hrk, g1, g2]
                exact Fin.val (by rw [isWM_f (fun h => h4 (by have := h.2.2.2 i hlt1; rw [← ha, ← h3]; exact this))])
            · simp (disch := omega) only [Tryd.ntmps59, Tryd.results59, go_sem, rr_eq, rows_get, hri, hrk, g1, g2]
              refine w.callDV 0 (viewL_cons_of (view_int) (viewL_cons_of (view_int) (viewL_cons_of (view_int) viewL_nil_of))) ?_
              simp (disch := omega) only [Tryd.ntmps59, Tryd.results59, go_sem, rr_eq, rows_get, hri, hrk, g1, g2]
              refine ⟨k + 1, ⟨by omega, fun y hy => ?_⟩, by omega, Wk.of (by simp only [go_sem, ↓List.forall_mem_cons, List.not_mem_nil, false_implies, implies_true, and_true, true_and, and_self, ri_eq, Int.natCast_add, Int.cast_ofNat_Int, rr_eq]; try simp) rfl⟩
              rcases Nat.lt_succ_iff_lt_or_eq.mp hy with h | rfl
              · exact hk2 y h
              · rw [ha, hb]; exact ⟨⟨r1, r2⟩, h2, fun e => absurd e h3⟩
          · simp (disch := omega) only [Tryd.ntmps59, Tryd.results59, go_sem, rr_eq, rows_get, hri, hrk, g1, g2]
            refine w.callDV 0 (viewL_cons_of (view_int) (viewL_cons_of (view_int) (viewL_cons_of (view_int) viewL_nil_of))) ?_
            simp (disch := omega) only [Tryd.ntmps59, Tryd.results59, go_sem, rr_eq, rows_get, hri, hrk, g1, g2]
            exact Fin.val (by rw [isWM_f (fun h => h2 (by have := (h.2.2.1 i k hlt1 hlt2).2; rw [ha, hb] at this; exact this))])
        · rw [h1] at w
          simp (disch := omega) only [Tryd.ntmps59, Tryd.results59, go_sem, rr_eq, rows_get, hri, hrk, g1, g2]
          refine w.callDV 0 (viewL_cons_of (view_int) (viewL_cons_of (view_int) (viewL_cons_of (view_int) viewL_nil_of))) ?_
          simp (disch := omega) only [Tryd.ntmps59, Tryd.results59, go_sem, rr_eq]
          exact Fin.val (by rw [isWM_f (fun h => inR_not h1 (by have := (h.2.2.1 i k hlt1 hlt2).1; rw [ha] at this; exact this))])
      · obtain rfl : k = M.length := by omega
        simp (disch := omega) only [Tryd.ntmps59, Tryd.results59, go_sem, rr_eq]
        refine ⟨i + 1, ⟨by omega, fun x y hx hy => ?_⟩, by omega, Wk.of (by simp only [go_sem, ↓List.forall_mem_cons, List.not_mem_nil, false_implies, implies_true, and_true, true_and, and_self, ri_eq, Int.natCast_add, Int.cast_ofNat_Int, rr_eq]; try simp) rfl⟩
        rcases Nat.lt_succ_iff_lt_or_eq.mp hx with h | rfl
        · exact hi2 x y h hy
        · exact hk2 y hy
    · obtain rfl : i = M.length := by omega
      have w := Tryd.l1In_ok (M.length : Int) 1 8
      rcases Bool.eq_false_or_eq_true (inR (M.length : Int) 1 8) with h1 | h1
      · obtain ⟨r1, r2⟩ := inR_of h1
        rw [h1] at w
        simp (disch := omega) only [Tryd.ntmps59, Tryd.results59, go_sem, rr_eq]
        refine w.callV 0 (viewL_cons_of (view_int) (viewL_cons_of (view_int) (viewL_cons_of (view_int) viewL_nil_of))) ?_
        simp (disch := omega) only [Tryd.ntmps59, Tryd.results59, go_sem, rr_eq]
        exact Fin.val (by rw [isWM_t ⟨⟨by omega, by omega⟩, hii, fun x y hx hy => ⟨(hi2 x y hx hy).1, (hi2 x y hx hy).2.1⟩, fun x hx => (hi2 x x hx hx).2.2 rfl⟩])
      · rw [h1] at w
        simp (disch := omega) only [Tryd.ntmps59, Tryd.results59, go_sem, rr_eq]
        refine w.callV 0 (viewL_cons_of (view_int) (viewL_cons_of (view_int) (viewL_cons_of (view_int) viewL_nil_of))) ?_
        simp (disch := omega) only [Tryd.ntmps59, Tryd.results59, go_sem, rr_eq]
        exact Fin.val (by rw [isWM_f (fun h => inR_not h1 (by have := h.1; omega))])

set_option maxHeartbeats 4000000 in
theorem Tryd.implIsWM_ok (M : List (List Int)) (hM : M.length ≤ 1048576) (hR : ∀ i, i < M.length → (mrow M i).length ≤ 1048576) : PCall Tryd.prog 60 [rr M] (.val (.bool (isWM M))) := by
  refine FCall.pcall (R := fun r _ => r = .val (.bool (isWM M))) ?_ 0 (by rintro r H rfl; exact view_bool)
  refine FCall.of_body Tryd.func60 rfl (by kernel_rfl) (by simp [Tryd.ntmps60]) ?_
  refine SW_of_vc Tryd.mixed _ _ _ (by kernel_rfl) ?_
  have w := Tryd.within_ok (M.length : Int) 1 8
  rcases Bool.eq_false_or_eq_true (inR (M.length : Int) 1 8) with hn | hn
  · obtain ⟨n1, n2⟩ := inR_of hn
    rw [hn] at w
    simp (disch := omega) only [Tryd.ntmps60, Tryd.results60, go_sem, rr_eq]
    refine w.callV 0 (viewL_cons_of (view_int) (viewL_cons_of (view_int) (viewL_cons_of (view_int) viewL_nil_of))) ?_
    simp (disch := omega) only [Tryd.ntmps60, Tryd.results60, go_sem, rr_eq]
    refine LoopW.loop (fun i : Nat => ⟨ofL [(0, rr M), (11, rr M), (12, .val (.int .i64 M.length)), (13, .val (.int .i64 i))], hp [] 0⟩) (fun i => i ≤ M.length ∧ ∀ x, x < i → (mrow M x).length = M.length ∧ mat M x x = 0 ∧ ∀ y, y < x → (-1000 ≤ mat M x y ∧ mat M x y ≤ 1000) ∧ mat M y x = mat M x y) (fun i => M.length - i) 0 ⟨by omega, by intro x h; omega⟩ (Wk.of (by simp only [go_sem, ↓List.forall_mem_cons, List.not_mem_nil, false_implies, implies_true, and_true, true_and, and_self, ri_eq, Int.natCast_add, Int.cast_ofNat_Int, rr_eq]; try simp) rfl) ?_
    rintro i ⟨hi, hii⟩
    refine SW_of_vc Tryd.mixed _ _ _ (by kernel_rfl) ?_
    by_cases hlt : i < M.length
    · have hrm := hR i hlt
      by_cases hr : (mrow M i).length = M.length
      · have g0 : (ints (mrow M i))[i]? = some (.val (.int .i64 (mat M i i))) := ints_get' hr hlt
        by_cases hd : mat M i i = 0
        · rw [hd] at g0
          simp (disch := omega) only [Tryd.ntmps60, Tryd.results60, go_sem, rr_eq, rows_get, hr, g0]
          have hlt' : ((mrow M i).take i).length = i := by simp; omega
          refine LoopW.loop (fun k : Nat => ⟨ofL [(0, rr M), (3, .val (.int .i64 i)), (11, rr M), (12, .val (.int .i64 M.length)), (13, .val (.int .i64 i)), (32, .row i false ((ints (mrow M i)).take i)), (33, .val (.int .i64 i)), (34, .val (.int .i64 k))], hp [] 0⟩)
            (fun k => k ≤ i ∧ ∀ y, y < k → (-1000 ≤ mat M i y ∧ mat M i y ≤ 1000) ∧ mat M y i = mat M i y) (fun k => i - k) 0 ⟨by omega, by intro y h; omega⟩ (Wk.of (by simp only [go_sem, ↓List.forall_mem_cons, List.not_mem_nil, false_implies, implies_true, and_true, true_and, and_self, ri_eq, Int.natCast_add, Int.cast_ofNat_Int, rr_eq]; try simp) rfl) ?_
          rintro k ⟨hk, hkk⟩
          refine SW_of_vc Tryd.mixed _ _ _ (by kernel_rfl) ?_
          by_cases hki : k < i
          · have hrk := (hii k hki).1
            have g1 : ((ints (mrow M i)).take i)[k]? = some (.val (.int .i64 (mat M i k))) := by
              rw [List.getElem?_take, if_pos hki]; exact ints_get' hr (by omega)
            have g2 : (ints (mrow M k))[i]? = some (.val (.int .i64 (mat M k i))) := ints_get' hrk hlt
            obtain ⟨a, ha⟩ : ∃ a, mat M i k = a := ⟨_, rfl⟩
            obtain ⟨b, hb⟩ : ∃ b, mat M k i = b := ⟨_, rfl⟩
            rw [ha] at g1
            rw [hb] at g2
            have w2 := Tryd.within_ok a (-1000) 1000
            rcases Bool.eq_false_or_eq_true (inR a (-1000) 1000) with h1 | h1
            · obtain ⟨r1, r2⟩ := inR_of h1
              rw [h1] at w2
              by_cases h2 : b = a
              · simp (disch := omega) only [Tryd.ntmps60, Tryd.results60, go_sem, rr_eq, rows_get, hrk, g1, g2]
                refine w2.callV 0 (viewL_cons_of (view_int) (viewL_cons_of (view_int) (viewL_cons_of (view_int) viewL_nil_of))) ?_
                simp (disch := omega) only [Tryd.ntmps60, Tryd.results60, go_sem, rr_eq, rows_get, hrk, g1, g2]
                refine ⟨k + 1, ⟨by omega, fun y hy => ?_⟩, by omega, Wk.of (by simp only [go_sem, ↓List.forall_mem_cons, List.not_mem_nil, false_implies, implies_true, and_true, true_and, and_self, ri_eq, Int.natCast_add, Int.cast_ofNat_Int, rr_eq]; try simp) rfl⟩
                rcases Nat.lt_succ_iff_lt_or_eq.mp hy with h | rfl
                · exact hkk y h
                · rw [ha, hb]; exact ⟨⟨r1, r2⟩, h2⟩
              · simp (disch := omega) only [Tryd.ntmps60, Tryd.results60, go_sem, rr_eq, rows_get, hrk, g1, g2]
                refine w2.callV 0 (viewL_cons_of (view_int) (viewL_cons_of (view_int) (viewL_cons_of (view_int) viewL_nil_of))) ?_
                simp (disch := omega) only [Tryd.ntmps60, Tryd.results60, go_sem, rr_eq, rows_get, hrk, g1, g2]
                exact Fin.val (by rw [isWM_f (fun h => h2 (by have := (h.2.2.1 k i (by omega) hlt).2; rw [ha, hb] at this; exact this))])
            · rw [h1] at w2
              simp (disch := omega) only [Tryd.ntmps60, Tryd.results60, go_sem, rr_eq, rows_get, hrk, g1, g2]
              refine w2.callV 0 (viewL_cons_of (view_int) (viewL_cons_of (view_int) (viewL_cons_of (view_int) viewL_nil_of))) ?_
              simp (disch := omega) only [Tryd.ntmps60, Tryd.results60, go_sem, rr_eq]
              exact Fin.val (by rw [isWM_f (fun h => inR_not h1 (by have := (h.2.2.1 i k hlt (by omega)).1; rw [ha] at this; exact this))])
          · obtain rfl : k = i := by omega
            simp (disch := omega) only [Tryd.ntmps60, Tryd.results60, go_sem, rr_eq]
            refine ⟨k + 1, ⟨by omega, fun x hx => ?_⟩, by omega, Wk.of (by simp only [go_sem, ↓List.forall_mem_cons, List.not_mem_nil, false_implies, implies_true, and_true, true_and, and_self, ri_eq, Int.natCast_add, Int.cast_ofNat_Int, rr_eq]; try simp) rfl⟩
            rcases Nat.lt_succ_iff_lt_or_eq.mp hx with h | rfl
            · exact hii x h
            · exact ⟨hr, hd, hkk⟩
        · obtain ⟨d, hd'⟩ : ∃ d, mat M i i = d := ⟨_, rfl⟩
          rw [hd'] at g0 hd
          simp (disch := omega) only [Tryd.ntmps60, Tryd.results60, go_sem, rr_eq, rows_get, hr, g0]
          exact Fin.val (by rw [isWM_f (fun h => hd (by rw [← hd']; exact h.2.2.2 i hlt))])
      · simp (disch := omega) only [Tryd.ntmps60, Tryd.results60, go_sem, rr_eq, rows_get]
        exact Fin.val (by rw [isWM_f (fun h => hr (h.2.1 i hlt))])
    · obtain rfl : i = M.length := by omega
      simp (disch := omega) only [Tryd.ntmps60, Tryd.results60, go_sem, rr_eq]
      refine Fin.val ?_
      rw [isWM_t ⟨⟨by omega, by omega⟩, fun x hx => (hii x hx).1, fun x y hx hy => ?_, fun x hx => (hii x hx).2.1⟩]
      rcases Nat.lt_trichotomy y x with h | h | h
      · obtain ⟨q1, q2⟩ := (hii x hx).2.2 y h
        exact ⟨q1, q2.symm⟩
      · subst h
        have := (hii y hy).2.1
        exact ⟨by omega, rfl⟩
      · obtain ⟨q1, q2⟩ := (hii y hy).2.2 x h
        exact ⟨by omega, q2⟩
  · rw [hn] at w
    simp (disch := omega) only [Tryd.ntmps60, Tryd.results60, go_sem, rr_eq]
    refine w.callV 0 (viewL_cons_of (view_int) (viewL_cons_of (view_int) (viewL_cons_of (view_int) viewL_nil_of))) ?_
    simp (disch := omega) only [Tryd.ntmps60, Tryd.results60, go_sem, rr_eq]
    exact Fin.val (by rw [isWM_f (fun h => inR_not hn (by have := h.1; omega))])
end Go.Sh

/-
  What comes in as a matrix: its measures.
-/
namespace Go.Sh
set_option linter.unusedSimpArgs false
set_option linter.unusedVariables false
open Go Go.Proofs

theorem mrow_le {M : List (List Int)} {i : Nat} (h : i < M.length) : ((mrow M i).length : Int) ≤ msum M M.length := by
  have h1 := msum_succ h
  have h2 := msum_nonneg M i
  have h3 := msum_mono (M := M) (k := i + 1) (j := M.length) (by omega) (Nat.le_refl _)
  omega
theorem mrow_max {M : List (List Int)} (hw : (∀ l ∈ M, (∀ n ∈ l, i64R n) ∧ l.length ≤ maxLen) ∧ M.length ≤ maxLen) : M.length ≤ 9223372036854775807 ∧ ∀ i, i < M.length → (mrow M i).length ≤ 9223372036854775807 := by
  refine ⟨hw.2, fun i hi => ?_⟩
  have := (hw.1 M[i] (List.getElem_mem hi)).2
  have e : mrow M i = M[i] := by simp [mrow, hi]
  rw [e]
  exact this
end Go.Sh

/-
  Contracts: a square of zeros; the components of a graph of positive weights. Of the program.
-/
namespace Go.Sh
set_option linter.unusedSimpArgs false
set_option linter.unusedVariables false
open Go Go.Proofs

def zs (n : Nat) : List (List Int) := List.replicate n (List.replicate n 0)
theorem zs_length (n : Nat) : (zs n).length = n := by simp [zs]
theorem zs_row {n i : Nat} (h : i < n) : mrow (zs n) i = List.replicate n 0 := by simp [zs, mrow, h]
theorem zs_at {n i k : Nat} : mat (zs n) i k = 0 := by
  simp only [zs, mat, mrow, List.getD_eq_getElem?_getD, List.getElem?_replicate]
  by_cases h : i < n
  · by_cases h2 : k < n <;> simp [h, h2]
  · simp [h]
def outerQ (n k : Nat) : List SV := (List.range n).map fun i => if i < k then .own (i + 1) 0 n n 1 true else .val (.slice none 0 0)
theorem outerQ_length (n k : Nat) : (outerQ n k).length = n := by simp [outerQ]
theorem outerQ_zero (n : Nat) : outerQ n 0 = List.replicate n (.val (.slice none 0 0)) := by
  apply List.ext_getElem <;> simp [outerQ]
theorem outerQ_get {n k i : Nat} (h : i < n) : (outerQ n k)[i]? = some (if i < k then .own (i + 1) 0 n n 1 true else .val (.slice none 0 0)) := by
  simp only [outerQ, List.getElem?_map]
  rw [List.getElem?_range h]; rfl
theorem outerQ_set {n k : Nat} (h : k < n) : (outerQ n k).set k (.own (k + 1) 0 n n 1 true) = outerQ n (k + 1) := by
  apply List.ext_getElem?
  intro i
  by_cases hi : i < n
  · rw [outerQ_get hi, List.getElem?_set, outerQ_length, outerQ_get hi]
    by_cases hk : k = i
    · subst hk; simp [h]
    · by_cases h1 : i < k
      · simp [hk, h1, show i < k + 1 by omega]
      · simp [hk, h1, show ¬ i < k + 1 by omega]
  · rw [List.getElem?_eq_none (by rw [List.length_set, outerQ_length]; omega), List.getElem?_eq_none (by rw [outerQ_length]; omega)]
def HQ (n k : Nat) : Heap := ⟨fun x => if x = 0 then some ⟨outerQ n k, true⟩ else if x ≤ k then some ⟨ints (List.replicate n 0), true⟩ else none, k + 1⟩
def HQp (n k : Nat) : Heap := (HQ n k).push ⟨ints (List.replicate n 0), true⟩
theorem HQ_nb (n k : Nat) : (HQ n k).nb = k + 1 := rfl
theorem HQ_map (n k : Nat) : (HQ n k).map 0 = some ⟨outerQ n k, true⟩ := rfl
theorem HQp_map (n k : Nat) : (HQp n k).map 0 = some ⟨outerQ n k, true⟩ := by
  simp only [HQp, Heap.push, HQ]
  rw [if_neg (by omega)]
  rfl
theorem HQp_set {n k : Nat} : (HQp n k).set 0 (some ⟨outerQ n (k + 1), true⟩) = HQ n (k + 1) := by
  refine Heap.ext' (fun x => ?_) rfl
  simp only [HQp, HQ, Heap.push, Heap.set]
  by_cases h0 : x = 0
  · simp [h0]
  · by_cases h1 : x = k + 1
    · simp [h1]
    · by_cases h2 : x ≤ k
      · simp [h0, h1, h2, show x ≤ k + 1 by omega]
      · simp [h0, h1, h2, show ¬ x ≤ k + 1 by omega]
theorem HQ_zero (n : Nat) : HQ n 0 = hp [(0, ⟨List.replicate n (.val (.slice none 0 0)), true⟩)] 1 := by
  refine Heap.ext' (fun x => ?_) rfl
  simp only [HQ, hp, hmap, outerQ_zero]
  by_cases h0 : x = 0
  · simp [h0]
  · simp [h0]
theorem outerQ_nr (n k : Nat) : noRowL (outerQ n k) = true := by
  unfold outerQ
  generalize List.range n = l
  induction l with
  | nil => rfl
  | cons a l ih =>
    simp only [List.map_cons, noRowL, ih, Bool.and_true]
    split <;> rfl
theorem HQ_nr (n k : Nat) : nrHeap (HQ n k) := by
  intro b blk hb
  simp only [HQ] at hb
  split at hb
  · simp at hb; subst hb; exact outerQ_nr n k
  · split at hb
    · simp at hb; subst hb; exact noRowL_ints _
    · simp at hb
theorem HQ_res (n : Nat) : MatRes (mi (zs n)) (.own 0 0 n n 1 true) (HQ n n) := by
  have hl : (mi (zs n)).length = n := by rw [mi_length, zs_length]
  refine ⟨0, 0, n, true, _, by rw [hl], HQ_map n n, by rw [hl, outerQ_length]; omega, mi_vals _, fun i => i + 1, fun _ => 0, fun i i' _ _ h => by simpa using h, fun i _ => by simp, fun i hi => ?_⟩
  rw [hl] at hi
  have hr : rowAt (mi (zs n)) i = ints (List.replicate n 0) := by rw [mi_row (by rwa [zs_length]), zs_row hi]
  refine ⟨n, true, ⟨ints (List.replicate n 0), true⟩, ?_, ?_, ?_, ?_⟩
  · rw [hr, Nat.zero_add, outerQ_get hi, if_pos hi, ints_length, List.length_replicate]
  · simp only [HQ]
    rw [if_neg (by omega), if_pos (by omega)]
  · rw [hr]; simp
  · rw [hr]; simp

set_option maxHeartbeats 1000000 in
theorem Tryd.square_f (n : Nat) (hn : n ≤ 1048576) : FCall Tryd.prog 71 [.val (.int .i64 n)] (MatRes (mi (zs n))) := by
  refine FCall.of_body Tryd.func71 rfl (by kernel_rfl) (by simp [Tryd.ntmps71]) ?_
  refine SW_of_vc Tryd.mixed _ _ _ (by kernel_rfl) ?_
  simp (disch := omega) only [Tryd.ntmps71, Tryd.results71, go_sem]
  refine LoopW.loop (fun k : Nat => ⟨ofL [(0, .val (.int .i64 n)), (3, .own 0 0 n n 1 true), (8, .val (.int .i64 n)), (9, .val (.int .i64 k))], HQ n k⟩) (fun k => k ≤ n) (fun k => n - k) 0 (by omega)
    (Wk.of (by simp only [go_sem, ↓List.forall_mem_cons, List.not_mem_nil, false_implies, implies_true, and_true, true_and, and_self, ri_eq, Int.natCast_add, Int.cast_ofNat_Int]; try simp) (by rw [HQ_zero])) ?_
  intro k hk
  have ho := outerQ_length n k
  refine SW_of_vc Tryd.mixed _ _ _ (by kernel_rfl) ?_
  by_cases hlt : k < n
  · have hos := outerQ_set hlt
    have e : (HQ n k).push ⟨ints (List.replicate n 0), true⟩ = HQp n k := rfl
    simp (disch := omega) only [Tryd.ntmps71, Tryd.results71, go_sem, HQ_nb, e, HQp_map, ho, hos, HQp_set]
    exact ⟨k + 1, by omega, by omega, Wk.of (by simp only [go_sem, ↓List.forall_mem_cons, List.not_mem_nil, false_implies, implies_true, and_true, true_and, and_self, ri_eq, Int.natCast_add, Int.cast_ofNat_Int]; try simp) rfl⟩
  · obtain rfl : k = n := by omega
    simp (disch := omega) only [Tryd.ntmps71, Tryd.results71, go_sem]
    exact ⟨HQ k k, ⟨rfl, fun _ => .inr rfl⟩, rfl, HQ_nr k _, HQ_res k⟩
theorem Tryd.square_one (n : Nat) (hn : n ≤ 1048576) : FCall Tryd.prog 71 [.val (.int .i64 n)] (MatOne (mi (zs n))) := (Tryd.square_f n hn).mat

/-! ### The search -/
def pB (M : List (List Int)) (x y : Nat) : Bool := decide (0 < mat M x y)
theorem WM.sym {M : List (List Int)} (h : WM M) : ∀ x y, x < M.length → y < M.length → pB M x y = true → pB M y x = true := by
  intro x y hx hy hb
  have := (h.2.2.1 x y hx hy).2
  rw [pB] at hb ⊢
  rw [← this]; exact hb
def vClos : SV := .clos (.func 96) [] [.optr 3 0, .optr 2 0, .optr 0 0, .optr 4 0]
def vHeap (M : List (List Int)) (O : List Int) (c : Int) : List (Nat × Blk) := [(4, ⟨[vClos], true⟩), (3, ⟨[.val (.int .i64 c)], true⟩), (2, ⟨[.own 1 0 M.length M.length 1 true], true⟩), (1, ⟨ints O, true⟩), (0, ⟨[rr M], true⟩)]

set_option maxHeartbeats 4000000 in
theorem Tryd.visit_ok {M : List (List Int)} (hw : WM M) {c : Int} (hc : 0 ≤ c) : ∀ (fu : Nat) (O : List Int) (i : Nat), O.length = M.length → i < M.length → O.getD i 0 < 0 → negs M.length O ≤ fu →
    CallS Tryd.prog 96 [.val (.int .i64 i), .optr 3 0, .optr 2 0, .optr 0 0, .optr 4 0] (hp (vHeap M O c) 5) (fun r H' => ∃ O', r = .tup [] ∧ H' = hp (vHeap M O' c) 5 ∧ DfsL M.length (pB M) c i O O')
  | 0, O, i, hl, hi, h0, hf => by have := negs_pos hi h0; omega
  | fu + 1, O, i, hl, hi, h0, hf => by
    have hln := hw.1
    have hri := hw.2.1 i hi
    refine CallS.of_body Tryd.func96 rfl (by kernel_rfl) (by simp [Tryd.ntmps96]) ?_
    refine SW_of_vc Tryd.mixed _ _ _ (by kernel_rfl) ?_
    rw [vHeap]
    simp (disch := omega) only [Tryd.ntmps96, Tryd.results96, go_sem, rr_eq, hl, rows_get, hri]
    refine LoopW.loop (fun p : Nat × List Int => ⟨ofL [(1, .optr 3 0), (2, .optr 2 0), (3, .optr 0 0), (4, .optr 4 0), (15, .row M.length false (ints (mrow M i))), (16, .val (.int .i64 M.length)), (17, .val (.int .i64 p.1))], hp (vHeap M p.2 c) 5⟩)
      (fun p => p.1 ≤ M.length ∧ DfsK M.length (pB M) c i O p.1 p.2) (fun p => M.length - p.1) (0, O.set i c) ⟨by simp, .start hl hi h0⟩ (Wk.of (by simp only [go_sem, ↓List.forall_mem_cons, List.not_mem_nil, false_implies, implies_true, and_true, true_and, and_self, ri_eq, Int.natCast_add, Int.cast_ofNat_Int, rr_eq, hri]; try simp) rfl) ?_
    rintro ⟨k, O1⟩ ⟨hk, hd⟩
    simp only at hk hd
    have hl1 := hd.len
    refine SW_of_vc Tryd.mixed _ _ _ (by kernel_rfl) ?_
    rw [vHeap]
    by_cases hlt : k < M.length
    · have g1 : (ints (mrow M i))[k]? = some (.val (.int .i64 (mat M i k))) := ints_get' hri hlt
      have g2 : (ints O1)[k]? = some (.val (.int .i64 (O1.getD k 0))) := ints_get' hl1 hlt
      obtain ⟨a, ha⟩ : ∃ a, mat M i k = a := ⟨_, rfl⟩
      obtain ⟨b, hb⟩ : ∃ b, O1.getD k 0 = b := ⟨_, rfl⟩
      have hpb : pB M i k = decide (0 < a) := by rw [pB, ha]
      rw [ha] at g1
      rw [hb] at g2
      by_cases h1 : 0 < a
      · by_cases h2 : b < 0
        · have w := Tryd.visit_ok hw hc fu O1 k hl1 hlt (by omega) (by have := hd.negs hc hi h0; omega)
          rw [vHeap, vClos] at w
          simp (disch := omega) only [Tryd.ntmps96, Tryd.results96, go_sem, vClos, g1, g2, hl1, ints_length]
          refine w.callX ?_
          rintro r H' ⟨O2, rfl, rfl, hd2⟩
          simp (disch := omega) only [Tryd.ntmps96, Tryd.results96, go_sem]
          exact ⟨(k + 1, O2), ⟨hlt, hd.step hc hi hlt (by rw [hpb]; exact decide_eq_true h1) (by omega) hd2⟩, by show M.length - (k + 1) < M.length - k; omega, Wk.of (by simp only [go_sem, ↓List.forall_mem_cons, List.not_mem_nil, false_implies, implies_true, and_true, true_and, and_self, ri_eq, Int.natCast_add, Int.cast_ofNat_Int]; try simp) rfl⟩
        · simp (disch := omega) only [Tryd.ntmps96, Tryd.results96, go_sem, vClos, g1, g2, hl1, ints_length]
          exact ⟨(k + 1, O1), ⟨hlt, hd.skip (fun _ => by omega)⟩, by show M.length - (k + 1) < M.length - k; omega, Wk.of (by simp only [go_sem, ↓List.forall_mem_cons, List.not_mem_nil, false_implies, implies_true, and_true, true_and, and_self, ri_eq, Int.natCast_add, Int.cast_ofNat_Int]; try simp) rfl⟩
      · simp (disch := omega) only [Tryd.ntmps96, Tryd.results96, go_sem, vClos, g1, g2, hl1, ints_length]
        exact ⟨(k + 1, O1), ⟨hlt, hd.skip (fun h => by rw [hpb] at h; exact absurd (of_decide_eq_true h) h1)⟩, by show M.length - (k + 1) < M.length - k; omega, Wk.of (by simp only [go_sem, ↓List.forall_mem_cons, List.not_mem_nil, false_implies, implies_true, and_true, true_and, and_self, ri_eq, Int.natCast_add, Int.cast_ofNat_Int]; try simp) rfl⟩
    · simp (disch := omega) only [Tryd.ntmps96, Tryd.results96, go_sem]
      exact ⟨O1, rfl, hd.final (by omega)⟩

def fillN (n k : Nat) : List Int := List.replicate k (-1) ++ List.replicate (n - k) 0
theorem fillN_zero (n : Nat) : fillN n 0 = List.replicate n 0 := by simp [fillN]
theorem fillN_length {n k : Nat} (h : k ≤ n) : (fillN n k).length = n := by simp [fillN]; omega
theorem fillN_set {n k : Nat} (h : k < n) : (fillN n k).set k (-1) = fillN n (k + 1) := by
  apply List.ext_getElem?
  intro i
  simp [fillN, List.getElem?_set, List.getElem?_append, List.getElem?_replicate]
  grind
theorem fillN_all (n : Nat) : fillN n n = List.replicate n (-1) := by simp [fillN]

theorem Fin.imp {R R' : SV → Heap → Prop} {r : SV} {H : Heap} (h : ∀ r H, R r H → R' r H) (f : Fin R r H) : Fin R' r H := by
  obtain ⟨H2, a, b, c, d⟩ := f
  exact ⟨H2, a, b, c, h _ _ d⟩
set_option maxHeartbeats 4000000 in
theorem Tryd.implPC_f (M : List (List Int)) (hM : M.length ≤ 1048576) (hR : ∀ i, i < M.length → (mrow M i).length ≤ 1048576) (hw : WM M) : FCall Tryd.prog 72 [rr M] (fun r H => CompL M.length (pB M) (comp M.length (pB M)) ∧ FlatRes M.length 1 (ints (comp M.length (pB M))) r H) := by
  have hln := hw.1
  have w1 := Tryd.implIsWM_ok M hM hR
  rw [isWM_t hw] at w1
  refine FCall.of_body Tryd.func72 rfl (by kernel_rfl) (by simp [Tryd.ntmps72]) ?_
  refine SW_of_vc Tryd.mixed _ _ _ (by kernel_rfl) ?_
  simp (disch := omega) only [Tryd.ntmps72, Tryd.results72, go_sem, rr_eq]
  refine w1.callV 0 (viewL_cons_of (view_row) viewL_nil_of) ?_
  simp (disch := omega) only [Tryd.ntmps72, Tryd.results72, go_sem, rr_eq]
  refine LoopW.loop (fun k : Nat => ⟨ofL [(1, .optr 0 0), (3, .optr 2 0), (15, .val (.int .i64 M.length)), (16, .val (.int .i64 k))], hp [(2, ⟨[.own 1 0 M.length M.length 1 true], true⟩), (1, ⟨ints (fillN M.length k), true⟩), (0, ⟨[rr M], true⟩)] 3⟩) (fun k => k ≤ M.length) (fun k => M.length - k) 0 (by omega)
    (Wk.of (by simp only [go_sem, ↓List.forall_mem_cons, List.not_mem_nil, false_implies, implies_true, and_true, true_and, and_self, ri_eq, Int.natCast_add, Int.cast_ofNat_Int]; try simp) (by rw [fillN_zero]; rfl)) ?_
  intro k hk
  have hfl := fillN_length hk
  refine SW_of_vc Tryd.mixed _ _ _ (by kernel_rfl) ?_
  by_cases hlt : k < M.length
  · have hfs := fillN_set hlt
    simp (disch := omega) only [Tryd.ntmps72, Tryd.results72, go_sem, rr_eq, hfl, hfs]
    exact ⟨k + 1, by omega, by omega, Wk.of (by simp only [go_sem, ↓List.forall_mem_cons, List.not_mem_nil, false_implies, implies_true, and_true, true_and, and_self, ri_eq, Int.natCast_add, Int.cast_ofNat_Int]; try simp) rfl⟩
  · obtain rfl : k = M.length := by omega
    simp (disch := omega) only [Tryd.ntmps72, Tryd.results72, go_sem, rr_eq, fillN_all]
    refine LoopW.loop (fun p : Nat × List Int × Int => ⟨ofL [(3, .optr 2 0), (5, .optr 3 0), (6, .optr 4 0), (25, .val (.int .i64 M.length)), (26, .val (.int .i64 p.1))], hp (vHeap M p.2.1 p.2.2) 5⟩)
      (fun p => p.1 ≤ M.length ∧ PartL M.length (pB M) p.1 p.2.2 p.2.1) (fun p => M.length - p.1) (0, List.replicate M.length (-1), 0) ⟨by simp, .zero _ _⟩ (Wk.of (by simp only [go_sem, ↓List.forall_mem_cons, List.not_mem_nil, false_implies, implies_true, and_true, true_and, and_self, ri_eq, Int.natCast_add, Int.cast_ofNat_Int]; try simp) rfl) ?_
    rintro ⟨i, O, c⟩ ⟨hi, hpl⟩
    simp only at hi hpl
    have hl := hpl.len
    have hc0 := hpl.c0
    have hci := hpl.ci
    refine SW_of_vc Tryd.mixed _ _ _ (by kernel_rfl) ?_
    rw [vHeap]
    by_cases hlt : i < M.length
    · have g2 : (ints O)[i]? = some (.val (.int .i64 (O.getD i 0))) := ints_get' hl hlt
      obtain ⟨b, hb⟩ : ∃ b, O.getD i 0 = b := ⟨_, rfl⟩
      rw [hb] at g2
      by_cases h2 : b < 0
      · have w := Tryd.visit_ok hw hc0 (negs M.length O) O i hl hlt (by omega) (Nat.le_refl _)
        rw [vHeap, vClos] at w
        simp (disch := omega) only [Tryd.ntmps72, Tryd.results72, go_sem, vClos, g2, hl]
        refine w.callX ?_
        rintro r H' ⟨O2, rfl, rfl, hd⟩
        rw [vHeap]
        simp (disch := omega) only [Tryd.ntmps72, Tryd.results72, go_sem, vClos]
        exact ⟨(i + 1, O2, c + 1), ⟨hlt, hpl.step hw.sym hlt (by omega) (hd.newL hw.sym hpl hlt (by omega))⟩, by show M.length - (i + 1) < M.length - i; omega, Wk.of (by simp only [go_sem, ↓List.forall_mem_cons, List.not_mem_nil, false_implies, implies_true, and_true, true_and, and_self, ri_eq, Int.natCast_add, Int.cast_ofNat_Int]; try simp) rfl⟩
      · simp (disch := omega) only [Tryd.ntmps72, Tryd.results72, go_sem, vClos, g2, hl]
        exact ⟨(i + 1, O, c), ⟨hlt, hpl.skip (by omega)⟩, by show M.length - (i + 1) < M.length - i; omega, Wk.of (by simp only [go_sem, ↓List.forall_mem_cons, List.not_mem_nil, false_implies, implies_true, and_true, true_and, and_self, ri_eq, Int.natCast_add, Int.cast_ofNat_Int]; try simp) rfl⟩
    · have hC := hpl.final (by omega)
      have hc2 := hC.comp
      rw [← hC.eq] at hc2 ⊢
      simp (disch := omega) only [Tryd.ntmps72, Tryd.results72, go_sem, vClos]
      exact Fin.imp (fun _ _ h => ⟨hc2, h⟩) (fin_ints hl.symm (by rw [hp_map]; simp only [hmap_cons]; rfl))
theorem Tryd.implPC_nil (M : List (List Int)) (hM : M.length ≤ 1048576) (hR : ∀ i, i < M.length → (mrow M i).length ≤ 1048576) (hw : ¬ WM M) : FCall Tryd.prog 72 [rr M] (fun r _ => r = .val (.slice none 0 0)) := by
  have w1 := Tryd.implIsWM_ok M hM hR
  rw [isWM_f hw] at w1
  refine FCall.of_body Tryd.func72 rfl (by kernel_rfl) (by simp [Tryd.ntmps72]) ?_
  refine SW_of_vc Tryd.mixed _ _ _ (by kernel_rfl) ?_
  simp (disch := omega) only [Tryd.ntmps72, Tryd.results72, go_sem, rr_eq]
  refine w1.callV 0 (viewL_cons_of (view_row) viewL_nil_of) ?_
  simp (disch := omega) only [Tryd.ntmps72, Tryd.results72, go_sem, rr_eq]
  exact Fin.val rfl
end Go.Sh

/-
  Squares of numbers, by their entries.
-/
namespace Go.Sh
set_option linter.unusedSimpArgs false
set_option linter.unusedVariables false
open Go Go.Proofs

/-- A square of numbers. -/
def SqI (n : Nat) (M : List (List Int)) : Prop := M.length = n ∧ ∀ i, i < n → (mrow M i).length = n
theorem SqI.zs (n : Nat) : SqI n (zs n) := ⟨zs_length n, fun i h => by rw [zs_row h]; simp⟩
theorem SqI.set {n : Nat} {M : List (List Int)} (h : SqI n M) (i c : Nat) (x : Int) : SqI n (mset M i c x) := ⟨by rw [mset_length, h.1], fun k hk => by rw [mset_row_length]; exact h.2 k hk⟩
theorem SqI.ext {n : Nat} {M M' : List (List Int)} (h : SqI n M) (h' : SqI n M') (e : ∀ x y, x < n → y < n → mat M x y = mat M' x y) : M = M' := by
  refine List.ext_getElem (h.1.trans h'.1.symm) fun i h1 h2 => ?_
  have hi : i < n := by rw [← h.1]; exact h1
  have e1 : M[i] = mrow M i := by simp [mrow, h1]
  have e2 : M'[i] = mrow M' i := by simp [mrow, h2]
  rw [e1, e2]
  exact list_ext ((h.2 i hi).trans (h'.2 i hi).symm) fun k hk => e i k hi (by rw [← h.2 i hi]; exact hk)
def genM (n : Nat) (f : Nat → Nat → Int) : List (List Int) := (List.range n).map fun x => (List.range n).map fun y => f x y
theorem genM_row {n : Nat} {f : Nat → Nat → Int} {x : Nat} (h : x < n) : mrow (genM n f) x = (List.range n).map fun y => f x y := by simp [mrow, genM, h]
theorem genM_sq (n : Nat) (f : Nat → Nat → Int) : SqI n (genM n f) := ⟨by simp [genM], fun i h => by rw [genM_row h]; simp⟩
theorem genM_at {n : Nat} {f : Nat → Nat → Int} {x y : Nat} (hx : x < n) (hy : y < n) : mat (genM n f) x y = f x y := by rw [mat, genM_row hx]; simp [hy]
def bint (b : Bool) : Int := if b = true then 1 else 0
end Go.Sh

/-
  Contracts: the rows and columns of some items. Of the program.
-/
namespace Go.Sh
set_option linter.unusedSimpArgs false
set_option linter.unusedVariables false
open Go Go.Proofs

/-- Strictly ascending numbers from 0 to n - 1, in the first k places. -/
def selTo (n : Int) (S : List Int) (k : Nat) : Prop := ∀ i, i < k → (0 ≤ S.getD i 0 ∧ S.getD i 0 ≤ n - 1) ∧ (0 < i → S.getD (i - 1) 0 < S.getD i 0)
def SelP (n : Int) (S : List Int) : Prop := selTo n S S.length
open Classical in
noncomputable def isSel (n : Int) (S : List Int) : Bool := decide (SelP n S)
open Classical in
theorem isSel_t {n : Int} {S : List Int} (h : SelP n S) : isSel n S = true := decide_eq_true h
open Classical in
theorem isSel_f {n : Int} {S : List Int} (h : ¬ SelP n S) : isSel n S = false := decide_eq_false h
theorem selTo_succ {n : Int} {S : List Int} {k : Nat} (h : selTo n S k) (h1 : 0 ≤ S.getD k 0 ∧ S.getD k 0 ≤ n - 1) (h2 : 0 < k → S.getD (k - 1) 0 < S.getD k 0) : selTo n S (k + 1) := by
  intro i hi
  rcases Nat.lt_succ_iff_lt_or_eq.1 hi with g | rfl
  · exact h i g
  · exact ⟨h1, h2⟩
theorem sel_not {n : Int} {S : List Int} {k : Nat} (hk : k < S.length) (h : ¬ ((0 ≤ S.getD k 0 ∧ S.getD k 0 ≤ n - 1) ∧ (0 < k → S.getD (k - 1) 0 < S.getD k 0))) : isSel n S = false := isSel_f fun g => h (g k hk)
theorem sel_len {n : Int} {S : List Int} (h : SelP n S) : ∀ i, i < S.length → (i : Int) ≤ S.getD i 0
  | 0, hi => by have := (h 0 hi).1.1; omega
  | i + 1, hi => by
    have := sel_len h i (by omega)
    have h2 := (h (i + 1) hi).2 (by omega)
    simp only [Nat.add_sub_cancel] at h2
    omega
theorem sel_length {n : Int} {S : List Int} (h : SelP n S) (hn : 0 ≤ n) : (S.length : Int) ≤ n := by
  by_cases h0 : S.length = 0
  · omega
  · have h1 := sel_len h (S.length - 1) (by omega)
    have h2 := (h (S.length - 1) (by omega)).1.2
    omega

def subM (M : List (List Int)) (S : List Int) : List (List Int) := genM S.length fun x y => mat M (S.getD x 0).toNat (S.getD y 0).toNat
theorem subM_length (M : List (List Int)) (S : List Int) : (subM M S).length = S.length := (genM_sq _ _).1
theorem subM_row {M : List (List Int)} {S : List Int} {i : Nat} (h : i < S.length) : (mrow (subM M S) i).length = S.length := (genM_sq _ _).2 i h

end Go.Sh

/-
  Contracts: the rows and columns of some items. Of the program and of the reference.
-/
namespace Go.Sh
set_option linter.unusedSimpArgs false
set_option linter.unusedVariables false
open Go Go.Proofs

open Classical in
noncomputable def sbm (M : List (List Int)) (S : List Int) : List (List Int) := if WM M ∧ SelP M.length S then subM M S else []
theorem sbm_t {M : List (List Int)} {S : List Int} (h : WM M ∧ SelP M.length S) : sbm M S = subM M S := by rw [sbm, if_pos h]
theorem sbm_f {M : List (List Int)} {S : List Int} (h : ¬ (WM M ∧ SelP M.length S)) : sbm M S = [] := by rw [sbm, if_neg h]

theorem fin_rows0 {b cap : Nat} {ex : Bool} {H : Heap} (h1 : H.map b = some ⟨[], false⟩) : Fin (MatRes (mi [])) (.own b 0 0 cap 1 ex) H := by
  have h : EntIn (hx [.mat b []] H.nb) (.mat b []) := .self
  refine fin_mat (R := mi []) ?_ (mi_vals _) rfl
  intro x hx1 hx2
  have : x = b := by simp [mi] at hx2; omega
  subst this
  rw [h1, matMap, if_pos rfl]; rfl
theorem take_snoc {α : Type} {R : List α} {l : List α} {a : α} (h : l = R.take l.length) (hl : l.length < R.length) (ha : R[l.length]? = some a) : l ++ [a] = R.take (l ++ [a]).length := by
  have e : (l ++ [a]).length = l.length + 1 := by simp
  rw [e, List.take_add_one, ha, ← h]; rfl

end Go.Sh

/-
  Contracts: the blocks of a partition. Of the reference.
-/
namespace Go.Sh
set_option linter.unusedSimpArgs false
set_option linter.unusedVariables false
open Go Go.Proofs

set_option maxHeartbeats 4000000 in
theorem Tryd.specBlocks_f (L : List Int) (hL : L.length ≤ 1048576) : FCall Tryd.prog 50 [ri L] (MatRes (mi (blocksOf L))) := by
  have w := Tryd.specIsPartition_ok L hL
  refine FCall.of_body Tryd.func50 rfl (by kernel_rfl) (by simp [Tryd.ntmps50]) ?_
  refine SW_of_vc2 (onD 7 [(30, 40), (35, 40), (37, 40), (30, 30)] []) Tryd.mixed _ _ _ (by kernel_rfl) ?_
  rcases Bool.eq_false_or_eq_true (isPart L) with hp1 | hp1
  case inr =>
    rw [hp1] at w
    rw [blocksOf_f hp1]
    simp (disch := omega) only [Tryd.ntmps50, Tryd.results50, go_sem]
    refine LoopW.loop (fun _ : Unit => ⟨ofL [(0, ri L), (3, .own 0 0 0 0 1 false), (4, .val (.int .i64 0))], hx [.blk 0 ⟨[], false⟩] 1⟩) (fun _ => True) (fun _ => 0) () trivial (Wk.ofX (by simp only [go_sem, ↓List.forall_mem_cons, List.not_mem_nil, false_implies, implies_true, and_true, true_and, and_self, ri_eq, Int.natCast_add, Int.cast_ofNat_Int]; try simp) (by simp [EntIn, hp, hmap]) (by simp [hp])) ?_
    rintro _ _
    refine SW_of_vc2 (onD 7 [(30, 40), (35, 40), (37, 40), (30, 30)] []) Tryd.mixed _ _ _ (by kernel_rfl) ?_
    by_cases h0 : 0 < L.length
    · simp (disch := omega) only [Tryd.ntmps50, Tryd.results50, go_sem]
      refine w.callV 0 (viewL_cons_of (view_rowL (by first | rfl | simp [marks_length, canon_length] | omega)) viewL_nil_of) ?_
      simp (disch := omega) only [Tryd.ntmps50, Tryd.results50, go_sem]
      exact fin_rows0 (by rw [hx_map, xmap_blk, if_pos rfl])
    · simp (disch := omega) only [Tryd.ntmps50, Tryd.results50, go_sem]
      exact fin_rows0 (by rw [hx_map, xmap_blk, if_pos rfl])
  obtain ⟨l1, l2⟩ := isPart_len hp1
  rw [hp1] at w
  rw [blocksOf_t hp1]
  simp (disch := omega) only [Tryd.ntmps50, Tryd.results50, go_sem]
  refine LoopW.loop (fun p : Nat × List (Nat × List SV) × Nat × Nat => ⟨ofL [(0, ri L), (3, .own p.2.2.1 0 p.2.1.length p.2.1.length 1 false), (4, .val (.int .i64 p.1))], hx [.blk p.2.2.1 ⟨outerN false p.2.1, false⟩, .rows false p.2.1] p.2.2.2⟩)
    (fun p => p.1 ≤ L.length ∧ NrOk p.2.2.1 p.2.2.2 p.2.1 ∧ p.2.1.map (·.2) = mi (blkTo L p.1)) (fun p => L.length - p.1) (0, [], 0, 1) ⟨by simp, .nil (by simp), rfl⟩ (Wk.ofX (by simp only [go_sem, ↓List.forall_mem_cons, List.not_mem_nil, false_implies, implies_true, and_true, true_and, and_self, ri_eq, Int.natCast_add, Int.cast_ofNat_Int]; try simp) (by simp [EntIn, outerN, hp, hmap]) (by simp [hp])) ?_
  rintro ⟨k, nr, ob, nb⟩ ⟨hk, ho, hrows⟩
  simp only at hk ho hrows
  have hob := ho.1
  have hnl := nr_len hrows
  have hol := outerN_length false nr
  have hot : (outerN false nr).take nr.length = outerN false nr := List.take_of_length_le (by omega)
  have hble := blkTo_le L k
  refine SW_of_vc2 (onD 7 [(30, 40), (35, 40), (37, 40), (30, 30)] []) Tryd.mixed _ _ _ (by kernel_rfl) ?_
  by_cases hlt : k < L.length
  · obtain ⟨x, hx, hxl⟩ := blk_at hp1 hlt
    have g1 := ints_get hlt
    rw [hx] at g1
    by_cases hnew : x = (blkTo L k).length
    · have hxe : x = nr.length := by omega
      subst hxe
      have hn := blkTo_new (L := L) (k := k) (by rw [hx, hnew])
      have hg2 : ∀ nm, (outerN false nr ++ [SV.own nm 0 0 0 1 false])[nr.length]? = some (.own nm 0 0 0 1 false) := fun nm => by rw [List.getElem?_append_right (by omega), hol]; simp
      have hs2 : ∀ nm nm', (outerN false nr ++ [SV.own nm' 0 0 0 1 false]).set nr.length (.own nm 0 1 1 1 false) = outerN false (nr ++ [(nm, ints [(k : Int)])]) := fun nm nm' => by
        rw [outerN_snoc, List.set_append_right _ _ (by omega), hol, Nat.sub_self]; rfl
      simp (disch := omega) only [Tryd.ntmps50, Tryd.results50, go_sem, g1]
      refine w.callV 0 (viewL_cons_of (view_rowL (by first | rfl | simp [marks_length, canon_length] | omega)) viewL_nil_of) ?_
      simp (disch := omega) only [Tryd.ntmps50, Tryd.results50, go_sem, g1, hol, hot, hg2, hs2, xdel_cut, List.length_append, List.length_singleton]
      refine ⟨(k + 1, nr ++ [(nb + 1 + 1 + 1 + 1, ints [(k : Int)])], nb + 1 + 1, nb + 1 + 1 + 1 + 1 + 1), ⟨hlt, ho.snoc (by omega) (by show nb ≤ nb + 1 + 1; omega) (by show nb + 1 + 1 + 1 + 1 ≠ nb + 1 + 1; omega) (by show nb + 1 + 1 + 1 + 1 < nb + 1 + 1 + 1 + 1 + 1; omega) (by show nb + 1 + 1 < nb + 1 + 1 + 1 + 1 + 1; omega), ?_⟩, by show L.length - (k + 1) < L.length - k; omega, ?_⟩
      · show (nr ++ _).map (·.2) = mi (blkTo L (k + 1))
        rw [hn, List.map_append, hrows, mi_snoc]; rfl
      · refine Wk.ofX (by simp only [go_sem, ↓List.forall_mem_cons, List.not_mem_nil, false_implies, implies_true, and_true, true_and, and_self, ri_eq, Int.natCast_add, Int.cast_ofNat_Int, List.length_append, List.length_singleton]; try simp) ?_ (Nat.le_refl _)
        simp only [List.forall_mem_cons]
        refine ⟨?_, ?_, by simp⟩
        · simp (disch := omega) only [EntIn, hx_map, xmap_blk, if_pos, if_neg, ↓reduceIte]
        · refine EntIn.snoc ?_ ?_
          · have hne : ∀ p ∈ nr, p.1 < nb ∧ p.1 ≠ ob := ho.2.1
            refine EntIn.skipR (EntIn.skipR (EntIn.skipR (EntIn.skipR (EntIn.skipC (EntIn.skipC (EntIn.selfR ho.2.2) ?_) ?_) ?_) ?_) ?_) ?_
            all_goals
              intro p hp
              have := hne p hp
              omega
          · simp (disch := omega) only [hx_map, xmap_blk, if_pos, if_neg, ↓reduceIte]; rfl
    · have hxn : x < nr.length := by omega
      obtain ⟨hr1, hr2⟩ := nr_row hrows hxn
      have hold := blkTo_old hx hr2
      have hgo := outerN_get (fl := false) hxn
      have hgr := xmap_rowsAt (fl := false) (l := []) ho.2.2 hxn
      have hlt' := ho.2.1 _ (nrAt_mem hxn)
      have hrle := blkTo_row L k x
      have hset := fun nm => outerN_set (fl := false) (nr := nr) (x := x) (nm := nm) (r := ints (mrow (blkTo L k) x ++ [(k : Int)])) rfl
      rw [hr1] at hgo hgr
      rw [ints_length, List.length_append, List.length_singleton] at hset
      rw [ints_length] at hgo
      generalize hnm : (nrAt nr x).1 = nm at *
      simp (disch := omega) only [Tryd.ntmps50, Tryd.results50, go_sem, g1]
      refine w.callV 0 (viewL_cons_of (view_rowL (by first | rfl | simp [marks_length, canon_length] | omega)) viewL_nil_of) ?_
      simp (disch := omega) only [Tryd.ntmps50, Tryd.results50, go_sem, g1, hol, hot, hgo, hgr, hset]
      refine ⟨(k + 1, nr.set x (nb + 1, ints (mrow (blkTo L k) x ++ [(k : Int)])), ob, nb + 1 + 1), ⟨hlt, ho.set (by omega) (by show nb + 1 < nb + 1 + 1; omega), ?_⟩, by show L.length - (k + 1) < L.length - k; omega, ?_⟩
      · show (nr.set x _).map (·.2) = mi (blkTo L (k + 1))
        rw [hold, List.map_set, hrows, mi_set]
      · refine Wk.ofX (by simp only [go_sem, ↓List.forall_mem_cons, List.not_mem_nil, false_implies, implies_true, and_true, true_and, and_self, ri_eq, Int.natCast_add, Int.cast_ofNat_Int, List.length_set]; try simp) ?_ (Nat.le_refl _)
        simp only [List.forall_mem_cons]
        refine ⟨?_, ?_, by simp⟩
        · simp (disch := omega) only [EntIn, hx_map, xmap_blk, if_pos, if_neg, ↓reduceIte]
        · refine EntIn.setN (fun j hj hne => ?_) (by rw [hx_map, xmap_blk, if_pos rfl])
          have h1 := ho.2.1 _ (nrAt_mem hj)
          have h2 := nr_ne ho.2.2 hj hxn hne
          rw [hnm] at h2
          rw [hx_map, xmap_blk, if_neg (by omega), xmap_blk, if_neg (by omega), xmap_blk, if_neg (by omega), xmap_cut, if_neg (by omega)]
          exact xmap_rowsAt ho.2.2 hj
  · have hkl : k = L.length := by omega
    rw [hkl] at hrows
    have := fin_rows (H := hx [Ent.blk ob { cells := outerN false nr, ex := false }, Ent.rows false nr] nb) (R := mi (blkTo L L.length)) ho
      (fun p hp => mi_vals (blkTo L L.length) _ (by rw [← hrows]; exact List.mem_map_of_mem hp)) (by rw [hx_map, xmap_blk, if_pos rfl])
      (EntIn.skipR (EntIn.selfR ho.2.2) (fun p hp => (ho.2.1 p hp).2)) hrows.symm
    simp (disch := omega) only [Tryd.ntmps50, Tryd.results50, go_sem]
    exact this
theorem Tryd.specBlocks_ok (L : List Int) (hL : L.length ≤ 1048576) : PCall Tryd.prog 50 [ri L] (rr (blocksOf L)) :=
  (Tryd.specBlocks_f L hL).mat.pcall 2 (fun _ _ h => h.viewI)
end Go.Sh

/-
  FormatPartition: contracts.
-/
namespace Go.Sh
set_option linter.unusedSimpArgs false
set_option linter.unusedVariables false
open Go Go.Proofs

theorem join_snoc (xs : List (List UInt8)) (y sep : List UInt8) (h : xs ≠ []) : Lib.join (xs ++ [y]) sep = Lib.join xs sep ++ sep ++ y := by
  cases xs with
  | nil => exact absurd rfl h
  | cons x r => rw [List.cons_append, Lib.join_cons, Lib.join_cons]; simp [Lib.joinTail]
def accP (M : List (List Int)) (i : Nat) : List UInt8 := Lib.join ((M.take i).map fmtB) [124]
theorem accP_zero (M : List (List Int)) : accP M 0 = [] := rfl
theorem accP_all (M : List (List Int)) : accP M M.length = Lib.join (M.map fmtB) [124] := by rw [accP, List.take_length]
theorem take_mrow {M : List (List Int)} {i : Nat} (h : i < M.length) : M.take (i + 1) = M.take i ++ [mrow M i] := by
  rw [List.take_add_one, List.getElem?_eq_getElem h]; simp [mrow, h]
theorem accP_one {M : List (List Int)} (h : 0 < M.length) : accP M 1 = fmtB (mrow M 0) := by
  rw [accP, take_mrow (i := 0) h, List.take_zero, List.nil_append, List.map_cons, List.map_nil, Lib.join_one]
theorem accP_succ {M : List (List Int)} {i : Nat} (h : i < M.length) (h0 : 0 < i) : accP M (i + 1) = accP M i ++ [124] ++ fmtB (mrow M i) := by
  rw [accP, take_mrow h, List.map_append, List.map_cons, List.map_nil, join_snoc _ _ _ (by
    intro e
    have := congrArg List.length e
    rw [List.length_map, List.length_take, List.length_nil] at this
    omega)]
  rfl
def accR (r : List Int) (k : Nat) : List UInt8 := fmtB (r.take k)
theorem accR_zero (r : List Int) : accR r 0 = [] := rfl
theorem accR_all (r : List Int) : accR r r.length = fmtB r := by rw [accR, List.take_length]
theorem accR_succ {r : List Int} {k : Nat} (h : k < r.length) : accR r (k + 1) = accR r k ++ Lib.itoa (r.getD k 0) := by
  rw [accR, accR, fmtB_eq, fmtB_eq, List.take_add_one, List.getElem?_eq_getElem h, List.map_append, List.flatten_append]
  simp [h]
/-- Few blocks, few items, small items. -/
structure BOk (M : List (List Int)) : Prop where
  ln : M.length ≤ 8
  row : ∀ i, (mrow M i).length ≤ 8
  it : ∀ i, i < M.length → ∀ y ∈ mrow M i, ∃ x : Nat, y = x ∧ x < 8
theorem BOk.of (L : List Int) : BOk (blocksOf L) := by
  cases h : isPart L with
  | false => rw [blocksOf_f h]; exact ⟨by simp, fun i => by simp [mrow], fun i hi => by simp at hi⟩
  | true =>
    obtain ⟨h1, h2, h3, h4⟩ := part_blk h
    rw [blocksOf_t h]
    refine ⟨h2, fun i => by have := blkTo_row L L.length i; omega, fun i hi => h4 _ ?_⟩
    simp [mrow, hi]
theorem BOk.accR_le {M : List (List Int)} (h : BOk M) {i : Nat} (hi : i < M.length) (k : Nat) : (accR (mrow M i) k).length ≤ 8 := by
  rw [accR, (fmtB_no fun y hy => h.it i hi y (List.mem_of_mem_take hy)).2, List.length_take]
  have := h.row i
  omega
theorem BOk.fmtB_le {M : List (List Int)} (h : BOk M) {i : Nat} (hi : i < M.length) : (fmtB (mrow M i)).length ≤ 8 := by
  rw [← accR_all]; exact h.accR_le hi _
theorem BOk.accP_le {M : List (List Int)} (h : BOk M) : ∀ {i : Nat}, i ≤ M.length → (accP M i).length ≤ 9 * i
  | 0, _ => by simp [accP_zero]
  | i + 1, hi => by
    have ih := h.accP_le (i := i) (by omega)
    have h8 := h.fmtB_le (i := i) (by omega)
    cases i with
    | zero => rw [accP_one (by omega)]; omega
    | succ i => rw [accP_succ (by omega) (by omega)]; simp; omega
theorem BOk.at {M : List (List Int)} (h : BOk M) {i k : Nat} (hi : i < M.length) (hk : k < (mrow M i).length) : ∃ x : Nat, (mrow M i).getD k 0 = x ∧ x < 8 := h.it i hi _ (by simp [hk])

set_option maxHeartbeats 4000000 in
theorem Tryd.specFP_ok (L : List Int) (hL : L.length ≤ 1048576) : PCall Tryd.prog 10 [ri L] (str (fmtP L)) := by
  have wB := Tryd.specBlocks_ok L hL
  have hB := BOk.of L
  have hfin : accP (blocksOf L) (blocksOf L).length = fmtP L := accP_all _
  refine FCall.pcall (R := fun r _ => r = str (fmtP L)) ?_ 0 (by rintro r H rfl; exact view_str)
  refine FCall.of_body Tryd.func10 rfl (by kernel_rfl) (by simp [Tryd.ntmps10]) ?_
  generalize blocksOf L = M at *
  have hln := hB.ln
  refine SW_of_vc Tryd.mixed _ _ _ (by kernel_rfl) ?_
  simp (disch := omega) only [Tryd.ntmps10, Tryd.results10, go_sem]
  refine wB.callV 0 (viewL_cons_of (view_row) viewL_nil_of) ?_
  simp (disch := omega) only [Tryd.ntmps10, Tryd.results10, go_sem]
  refine LoopW.loop (fun i : Nat => ⟨ofL [(3, rr M), (4, str (accP M i)), (5, .val (.int .i64 i))], hp [] 0⟩) (fun i => i ≤ M.length) (fun i => M.length - i) 0 (by omega) (Wk.of (by simp only [go_sem, ↓List.forall_mem_cons, List.not_mem_nil, false_implies, implies_true, and_true, true_and, and_self, ri_eq, Int.natCast_add, Int.cast_ofNat_Int, accP_zero]; try simp) rfl) ?_
  intro i hi
  refine SW_of_vc Tryd.mixed _ _ _ (by kernel_rfl) ?_
  have hal := hB.accP_le hi
  by_cases hlt : i < M.length
  · have hrow := hB.row i
    have hg := rows_get hlt
    generalize hrm : mrow M i = r at *
    by_cases h0 : i = 0
    · obtain ⟨pre, hpre⟩ : ∃ pre, accP M i = pre := ⟨_, rfl⟩
      have hnext : accP M (i + 1) = pre ++ accR r r.length := by
        subst h0
        rw [accP_one hlt, hrm, ← hpre, accP_zero, accR_all, List.nil_append]
      have hpl : pre.length ≤ 80 := by rw [← hpre]; omega
      simp (disch := omega) only [Tryd.ntmps10, Tryd.results10, go_sem, rr_eq, hg]
      refine LoopW.loop (fun k : Nat => ⟨ofL [(3, rr M), (4, str (pre ++ accR r k)), (5, .val (.int .i64 i)), (6, .val (.int .i64 k))], hp [] 0⟩) (fun k => k ≤ r.length) (fun k => r.length - k) 0 (by omega) (Wk.of (by simp only [go_sem, ↓List.forall_mem_cons, List.not_mem_nil, false_implies, implies_true, and_true, true_and, and_self, ri_eq, Int.natCast_add, Int.cast_ofNat_Int, rr_eq, hpre, accR_zero, List.append_nil]; try simp) rfl) ?_
      intro k hk
      refine SW_of_vc Tryd.mixed _ _ _ (by kernel_rfl) ?_
      have hrl := hB.accR_le hlt k
      rw [hrm] at hrl
      by_cases hkl : k < r.length
      · obtain ⟨x, hx, hx8⟩ := hB.at hlt (k := k) (by rw [hrm]; exact hkl)
        rw [hrm] at hx
        have g1 := ints_get hkl
        have hw := Tryd.specFI_ok (r.getD k 0) (by omega) (by omega)
        have hil := itoa_le (n := r.getD k 0) (by omega) (by omega)
        simp (disch := omega) only [Tryd.ntmps10, Tryd.results10, go_sem, rr_eq, hg, g1]
        refine hw.callV 0 (viewL_cons_of (view_int) viewL_nil_of) ?_
        simp (disch := omega) only [Tryd.ntmps10, Tryd.results10, go_sem, rr_eq, List.length_append]
        exact ⟨k + 1, by omega, by omega, Wk.of (by simp only [go_sem, ↓List.forall_mem_cons, List.not_mem_nil, false_implies, implies_true, and_true, true_and, and_self, ri_eq, Int.natCast_add, Int.cast_ofNat_Int, rr_eq, accR_succ hkl, List.append_assoc]; try simp) rfl⟩
      · obtain rfl : k = r.length := by omega
        simp (disch := omega) only [Tryd.ntmps10, Tryd.results10, go_sem, rr_eq, hg]
        exact ⟨i + 1, by omega, by omega, Wk.of (by simp only [go_sem, ↓List.forall_mem_cons, List.not_mem_nil, false_implies, implies_true, and_true, true_and, and_self, ri_eq, Int.natCast_add, Int.cast_ofNat_Int, rr_eq, hnext]; try simp) rfl⟩
    · obtain ⟨pre, hpre⟩ : ∃ pre, accP M i ++ [124] = pre := ⟨_, rfl⟩
      have hnext : accP M (i + 1) = pre ++ accR r r.length := by
        rw [accP_succ hlt (by omega), hrm, ← hpre, accR_all]
      have hpl : pre.length ≤ 80 := by rw [← hpre]; simp; omega
      simp (disch := omega) only [Tryd.ntmps10, Tryd.results10, go_sem, rr_eq, hg]
      refine LoopW.loop (fun k : Nat => ⟨ofL [(3, rr M), (4, str (pre ++ accR r k)), (5, .val (.int .i64 i)), (6, .val (.int .i64 k))], hp [] 0⟩) (fun k => k ≤ r.length) (fun k => r.length - k) 0 (by omega) (Wk.of (by simp only [go_sem, ↓List.forall_mem_cons, List.not_mem_nil, false_implies, implies_true, and_true, true_and, and_self, ri_eq, Int.natCast_add, Int.cast_ofNat_Int, rr_eq, hpre, accR_zero, List.append_nil]; try simp) rfl) ?_
      intro k hk
      refine SW_of_vc Tryd.mixed _ _ _ (by kernel_rfl) ?_
      have hrl := hB.accR_le hlt k
      rw [hrm] at hrl
      by_cases hkl : k < r.length
      · obtain ⟨x, hx, hx8⟩ := hB.at hlt (k := k) (by rw [hrm]; exact hkl)
        rw [hrm] at hx
        have g1 := ints_get hkl
        have hw := Tryd.specFI_ok (r.getD k 0) (by omega) (by omega)
        have hil := itoa_le (n := r.getD k 0) (by omega) (by omega)
        simp (disch := omega) only [Tryd.ntmps10, Tryd.results10, go_sem, rr_eq, hg, g1]
        refine hw.callV 0 (viewL_cons_of (view_int) viewL_nil_of) ?_
        simp (disch := omega) only [Tryd.ntmps10, Tryd.results10, go_sem, rr_eq, List.length_append]
        exact ⟨k + 1, by omega, by omega, Wk.of (by simp only [go_sem, ↓List.forall_mem_cons, List.not_mem_nil, false_implies, implies_true, and_true, true_and, and_self, ri_eq, Int.natCast_add, Int.cast_ofNat_Int, rr_eq, accR_succ hkl, List.append_assoc]; try simp) rfl⟩
      · obtain rfl : k = r.length := by omega
        simp (disch := omega) only [Tryd.ntmps10, Tryd.results10, go_sem, rr_eq, hg]
        exact ⟨i + 1, by omega, by omega, Wk.of (by simp only [go_sem, ↓List.forall_mem_cons, List.not_mem_nil, false_implies, implies_true, and_true, true_and, and_self, ri_eq, Int.natCast_add, Int.cast_ofNat_Int, rr_eq, hnext]; try simp) rfl⟩
  · obtain rfl : i = M.length := by omega
    simp (disch := omega) only [Tryd.ntmps10, Tryd.results10, go_sem, rr_eq]
    exact Fin.val (by rw [hfin])
end Go.Sh

/-
  FormatPartition of the program; the law walked.
-/
namespace Go.Sh
set_option linter.unusedSimpArgs false
set_option linter.unusedVariables false
open Go Go.Proofs

def fpF (M : List (List Int)) : Nat × Nat × Nat → St
  | (0, _, nb) => ⟨ofL [(3, .val (.slice none 0 0)), (10, rr M), (11, .val (.int .i64 M.length)), (12, .val (.int .i64 0))], hp [] nb⟩
  | (k + 1, ob, nb) => ⟨ofL [(3, .own ob 0 (k + 1) (k + 1) 1 false), (10, rr M), (11, .val (.int .i64 M.length)), (12, .val (.int .i64 ((k + 1 : Nat) : Int)))], hx [.blk ob ⟨strs ((M.map fmtB).take (k + 1)), false⟩] nb⟩
theorem strs_take_snoc {M : List (List Int)} {k : Nat} (h : k < M.length) : strs ((M.map fmtB).take k) ++ [.val (.string (sb (fmtB (mrow M k))))] = strs ((M.map fmtB).take (k + 1)) := by
  rw [strs_snoc, ← List.map_take, ← List.map_take, take_mrow h]; simp

set_option maxHeartbeats 4000000 in
theorem Tryd.implFP_ok (L : List Int) (hL : L.length ≤ 1048576) : PCall Tryd.prog 12 [ri L] (str (fmtP L)) := by
  have w := Tryd.implIsPartition_ok L hL
  refine FCall.pcall (R := fun r _ => r = str (fmtP L)) ?_ 0 (by rintro r H rfl; exact view_str)
  refine FCall.of_body Tryd.func12 rfl (by kernel_rfl) (by simp [Tryd.ntmps12]) ?_
  refine SW_of_vc Tryd.mixed _ _ _ (by kernel_rfl) ?_
  rcases Bool.eq_false_or_eq_true (isPart L) with h | h
  case inr =>
    rw [h] at w
    simp (disch := omega) only [Tryd.ntmps12, Tryd.results12, go_sem]
    refine w.callV 0 (viewL_cons_of (view_rowL (by first | rfl | simp [marks_length, canon_length] | omega)) viewL_nil_of) ?_
    simp (disch := omega) only [Tryd.ntmps12, Tryd.results12, go_sem]
    exact Fin.val (by rw [fmtP_f h])
  rw [h] at w
  have wB : PCall Tryd.prog 52 [ri L] (rr (blocksOf L)) := by
    rw [blocksOf_t h]; exact (Tryd.blocks_f L h).mat.pcall 2 (fun _ _ h => h.viewI)
  have hB := BOk.of L
  have hfin : Lib.join ((blocksOf L).map fmtB) [124] = fmtP L := rfl
  have hJl : (fmtP L).length ≤ 140737488355328 := by
    rw [← hfin, ← accP_all]
    have := hB.accP_le (Nat.le_refl _)
    have := hB.ln
    omega
  generalize blocksOf L = M at *
  have hln := hB.ln
  have hJ := Tryd.join_ok (M.map fmtB) [124] (by simp; omega) (by rw [hfin]; exact hJl)
  rw [hfin] at hJ
  simp (disch := omega) only [Tryd.ntmps12, Tryd.results12, go_sem]
  refine w.callV 0 (viewL_cons_of (view_rowL (by first | rfl | simp [marks_length, canon_length] | omega)) viewL_nil_of) ?_
  simp (disch := omega) only [Tryd.ntmps12, Tryd.results12, go_sem]
  refine wB.callV 0 (viewL_cons_of (view_rowL (by first | rfl | simp [marks_length, canon_length] | omega)) viewL_nil_of) ?_
  simp (disch := omega) only [Tryd.ntmps12, Tryd.results12, go_sem, rr_eq]
  refine LoopW.loop (fpF M) (fun p => p.1 ≤ M.length ∧ (0 < p.1 → p.2.1 < p.2.2)) (fun p => M.length - p.1) (0, 0, 0) (by simp) (Wk.of (by simp only [go_sem, ↓List.forall_mem_cons, List.not_mem_nil, false_implies, implies_true, and_true, true_and, and_self, ri_eq, Int.natCast_add, Int.cast_ofNat_Int, rr_eq]; try simp) rfl) ?_
  rintro ⟨k, ob, nb⟩ ⟨hk, hob⟩
  simp only at hk hob
  refine SW_of_vc Tryd.mixed _ _ _ (by kernel_rfl) ?_
  by_cases hlt : k < M.length
  · have hrow := hB.row k
    have hg := rows_get hlt
    have hsn := strs_take_snoc hlt
    have hal := hB.accR_le hlt (mrow M k).length
    rw [accR_all] at hal
    have wJ : PCall Tryd.prog 53 [ri (mrow M k), str []] (str (fmtB (mrow M k))) := Tryd.joinInts_ok (mrow M k) [] (by omega) (fun i hi => by
      obtain ⟨x, hx, hx8⟩ := hB.at hlt hi
      rw [hx]
      exact Tryd.implFIs_ok x (by omega)) (by show (fmtB (mrow M k)).length ≤ _; omega)
    generalize mrow M k = r at *
    cases k with
    | zero =>
      rw [fpF]
      rw [List.take_zero, strs_nil, List.nil_append] at hsn
      simp (disch := omega) only [Tryd.ntmps12, Tryd.results12, go_sem, rr_eq, hg, Int.natCast_zero]
      refine wJ.callV 0 (viewL_cons_of (view_rowL rfl) (viewL_cons_of view_str viewL_nil_of)) ?_
      simp (disch := omega) only [Tryd.ntmps12, Tryd.results12, go_sem, rr_eq]
      refine ⟨(1, nb + 1, nb + 1 + 1), ⟨hlt, fun _ => by show nb + 1 < nb + 1 + 1; omega⟩, by show M.length - 1 < M.length; omega, ?_⟩
      rw [fpF, ← hsn]
      refine Wk.ofX (by simp only [go_sem, ↓List.forall_mem_cons, List.not_mem_nil, false_implies, implies_true, and_true, true_and, and_self, ri_eq, Int.natCast_add, Int.cast_ofNat_Int, rr_eq]; try simp) ?_ (Nat.le_refl _)
      simp only [List.forall_mem_cons]
      refine ⟨?_, by simp⟩
      simp (disch := omega) only [EntIn, hp_map, hmap_cons, if_pos, if_neg, ↓reduceIte]
    | succ k =>
      rw [fpF]
      simp (disch := omega) only [Tryd.ntmps12, Tryd.results12, go_sem, rr_eq, hg]
      refine wJ.callV 0 (viewL_cons_of (view_rowL rfl) (viewL_cons_of view_str viewL_nil_of)) ?_
      have hob := hob (by omega)
      have hsl : (strs ((M.map fmtB).take (k + 1))).length = k + 1 := by rw [strs_length, List.length_take, List.length_map]; omega
      have hst : (strs ((M.map fmtB).take (k + 1))).take (k + 1) = strs ((M.map fmtB).take (k + 1)) := List.take_of_length_le (by omega)
      simp (disch := omega) only [Tryd.ntmps12, Tryd.results12, go_sem, rr_eq, hsn, hsl, hst]
      refine ⟨(k + 1 + 1, nb + 1, nb + 1 + 1), ⟨hlt, fun _ => by show nb + 1 < nb + 1 + 1; omega⟩, by show M.length - (k + 1 + 1) < M.length - (k + 1); omega, ?_⟩
      rw [fpF]
      refine Wk.ofX (by simp only [go_sem, ↓List.forall_mem_cons, List.not_mem_nil, false_implies, implies_true, and_true, true_and, and_self, ri_eq, Int.natCast_add, Int.cast_ofNat_Int, rr_eq]; try simp) ?_ (Nat.le_refl _)
      simp only [List.forall_mem_cons]
      refine ⟨?_, by simp⟩
      simp (disch := omega) only [EntIn, hx_map, xmap_blk, if_pos, if_neg, ↓reduceIte]
  · obtain rfl : k = M.length := by omega
    cases hM : M.length with
    | zero =>
      obtain rfl : M = [] := List.length_eq_zero_iff.1 hM
      rw [fpF]
      simp (disch := omega) only [Tryd.ntmps12, Tryd.results12, go_sem, List.length_nil, Int.natCast_zero]
      refine hJ.callV 2 (viewL_cons_of view_nilS (viewL_cons_of view_str viewL_nil_of)) ?_
      simp (disch := omega) only [Tryd.ntmps12, Tryd.results12, go_sem]
      exact Fin.val rfl
    | succ k =>
      have htk : (M.map fmtB).take (k + 1) = M.map fmtB := List.take_of_length_le (by simp; omega)
      rw [fpF, htk]
      simp (disch := omega) only [Tryd.ntmps12, Tryd.results12, go_sem]
      refine hJ.callV 2 (viewL_cons_of (view_ownS (e2 := false) (L := M.map fmtB) (by first | rfl | (simp (disch := omega) only [hx_map, hp_map, xmap_blk, hmap_cons, xmap_skipI, xmap_nil, if_pos, if_neg, ↓reduceIte]; try rfl)) (by simp; omega)) (viewL_cons_of view_str viewL_nil_of)) ?_
      simp (disch := omega) only [Tryd.ntmps12, Tryd.results12, go_sem]
      exact Fin.val rfl

set_option maxHeartbeats 4000000 in
theorem Tryd.exactFormatPartition_ok (L : List Int) : PCall Tryd.prog 3 [ri L] (.val (.bool true)) := by
  refine FCall.pcall (R := fun r _ => r = .val (.bool true)) ?_ 0 (by rintro r H rfl; exact view_bool)
  refine FCall.of_body Tryd.func3 rfl (by kernel_rfl) (by simp [Tryd.ntmps3]) ?_
  refine SW_of_vc Tryd.mixed _ _ _ (by kernel_rfl) ?_
  by_cases sL : 1048576 < L.length
  · simp (disch := omega) only [Tryd.ntmps3, Tryd.results3, go_sem]
    exact Fin.val rfl
  have hL : L.length ≤ 1048576 := by omega
  have wS := Tryd.specFP_ok L hL
  have wI := Tryd.implFP_ok L hL
  simp (disch := omega) only [Tryd.ntmps3, Tryd.results3, go_sem]
  refine (Tryd.toIntS_ok L hL).callV 0 (viewL_cons_of (view_row) viewL_nil_of) ?_
  simp (disch := omega) only [Tryd.ntmps3, Tryd.results3, go_sem]
  refine wS.callV 0 (viewL_cons_of (view_row) viewL_nil_of) ?_
  simp (disch := omega) only [Tryd.ntmps3, Tryd.results3, go_sem]
  refine (Tryd.toIntS_ok L hL).callV 0 (viewL_cons_of (view_row) viewL_nil_of) ?_
  simp (disch := omega) only [Tryd.ntmps3, Tryd.results3, go_sem]
  refine wI.callV 0 (viewL_cons_of (view_row) viewL_nil_of) ?_
  simp (disch := omega) only [Tryd.ntmps3, Tryd.results3, go_sem, beq_self_eq_true, Bool.not_true]
  refine (Tryd.toIntS_ok L hL).callV 0 (viewL_cons_of (view_row) viewL_nil_of) ?_
  simp (disch := omega) only [Tryd.ntmps3, Tryd.results3, go_sem]
  refine (Tryd.eqIntS_ok L L (by omega) (by omega)).callV 0 (viewL_cons_of (view_row) (viewL_cons_of (view_row) viewL_nil_of)) ?_
  simp (disch := omega) only [Tryd.ntmps3, Tryd.results3, go_sem, decide_true, beq_self_eq_true]
  exact Fin.val rfl
end Go.Sh

/-
  Contracts: an item moved to another block. Of the program.
-/
namespace Go.Sh
set_option linter.unusedSimpArgs false
set_option linter.unusedVariables false
open Go Go.Proofs

def top (L : List Int) (k : Nat) : Int := (L.take k).foldl max (-1)
theorem top_zero (L : List Int) : top L 0 = -1 := rfl
theorem top_succ {L : List Int} {k : Nat} (h : k < L.length) : top L (k + 1) = max (top L k) (L.getD k 0) := by
  rw [top, List.take_succ_eq_append_getElem h, List.foldl_append]
  simp [top, h]
theorem top_ge (L : List Int) : ∀ k, k ≤ L.length → -1 ≤ top L k
  | 0, _ => by rw [top_zero]; omega
  | k + 1, h => by
    have := top_ge L k (by omega)
    rw [top_succ (by omega)]; omega
theorem top_part {L : List Int} (h : isPart L = true) : ∀ k, k ≤ L.length → top L k ≤ 7
  | 0, _ => by rw [top_zero]; omega
  | k + 1, hk => by
    have := top_part h k (by omega)
    have := (isPart_bound h (i := k) (by omega)).2
    rw [top_succ (by omega)]; omega
def moveOk (L : List Int) (it bl : Int) : Bool := isPart L && (inR it 0 ((L.length : Int) - 1) && inR bl 0 (top L L.length + 1))
def moveTo (L : List Int) (it bl : Int) : List Int := if moveOk L it bl = true then canon (L.set it.toNat bl) else L
theorem moveTo_length (L : List Int) (it bl : Int) : (moveTo L it bl).length = L.length := by
  unfold moveTo
  split
  · rw [canon_length]; simp
  · rfl

theorem fin_tup {n z cap b : Nat} {ex e2 : Bool} {cs : List SV} {u : Value} {H : Heap} (hn : cs.length = n * z) (hv : cs.all isVal = true) (hb : H.map b = some ⟨cs, e2⟩) :
    Fin (fun r H => ∃ r0, r = .tup [r0, .val u] ∧ FlatRes n z cs r0 H) (.tup [.own b 0 n cap z ex, .val u]) H := by
  obtain ⟨H2, h1, _, h3, h4⟩ := flat_fin (ex := ex) (cap := cap) hn hv hb
  exact ⟨H2, h1, by simp [noRow, noRowL], h3, _, rfl, h4⟩

end Go.Sh

/-
  ParsePartition of the reference.
-/
namespace Go.Sh
set_option linter.unusedSimpArgs false
set_option linter.unusedVariables false
open Go Go.Proofs

theorem view_tupB {L : List Int} {n : Nat} {u : Bool} {r r0 : SV} {H : Heap} (h : r = .tup [r0, .val (.bool u)]) (hf : FlatRes n 1 (ints L) r0 H) : view H 3 r = some (.tup [ri L, .val (.bool u)]) := by
  subst h
  have h1 : viewL H 2 [r0, .val (.bool u)] = some [ri L, .val (.bool u)] := viewL_cons_of (flat_view hf) (viewL_cons_of view_bool viewL_nil_of)
  simp only [view, h1]
theorem spc_snoc : ∀ (i : Int) (qs : List (List UInt8)) (q : List UInt8) (p : List Int × Int), spc i (qs ++ [q]) p = q.foldl (sput (i + qs.length)) (spc i qs p)
  | i, [], q, p => by simp [spc]
  | i, r :: qs, q, p => by
    rw [List.cons_append, spc, spc, spc_snoc (i + 1) qs q]
    congr 2
    rw [List.length_cons]; omega
/-- Eight places, of which some are used. -/
def P8 (p : List Int × Int) : Prop := p.1.length = 8 ∧ 0 ≤ p.2 ∧ p.2 ≤ 8
theorem P8.put {p : List Int × Int} (h : P8 p) (i : Int) (c : UInt8) : P8 (sput i p c) := by
  rw [sput]
  split
  · obtain ⟨h1, h2, h3⟩ := h
    exact ⟨by simp [h1], by simp only; omega, by simp only; omega⟩
  · exact h
theorem P8.fold {i : Int} : ∀ {q : List UInt8} {p : List Int × Int}, P8 p → P8 (q.foldl (sput i) p)
  | [], _, h => h
  | c :: q, _, h => P8.fold (q := q) (h.put i c)
theorem P8.spc : ∀ {qs : List (List UInt8)} {i : Int} {p : List Int × Int}, P8 p → P8 (spc i qs p)
  | [], _, _, h => h
  | q :: qs, i, _, h => P8.spc (qs := qs) (i := i + 1) (h.fold (i := i) (q := q))
theorem P8.zero : P8 (List.replicate 8 0, 0) := ⟨by simp, by simp, by simp⟩
def spAt (s : List UInt8) (i : Nat) : List Int × Int := spc 0 ((cutL 124 s).take i) (List.replicate 8 0, 0)
def spIn (s : List UInt8) (i k : Nat) : List Int × Int := (((cutL 124 s).getD i []).take k).foldl (sput i) (spAt s i)
theorem spAt8 (s : List UInt8) (i : Nat) : P8 (spAt s i) := P8.zero.spc
theorem spIn8 (s : List UInt8) (i k : Nat) : P8 (spIn s i k) := (spAt8 s i).fold
theorem spAt_zero (s : List UInt8) : spAt s 0 = (List.replicate 8 0, 0) := rfl
theorem spIn_zero (s : List UInt8) (i : Nat) : spIn s i 0 = spAt s i := rfl
theorem spIn_succ (s : List UInt8) {i k : Nat} (h : k < ((cutL 124 s).getD i []).length) : spIn s i (k + 1) = sput i (spIn s i k) (((cutL 124 s).getD i []).getD k 0) := by
  rw [spIn, List.take_add_one, List.getElem?_eq_getElem h, List.foldl_append]
  simp only [Option.toList_some, List.foldl_cons, List.foldl_nil]
  have e : ((cutL 124 s).getD i [])[k] = ((cutL 124 s).getD i []).getD k 0 := by
    generalize (cutL 124 s).getD i [] = q at *
    simp [List.getD, h]
  rw [e]; rfl
theorem spIn_all (s : List UInt8) {i : Nat} (h : i < (cutL 124 s).length) : spIn s i ((cutL 124 s).getD i []).length = spAt s (i + 1) := by
  have e : (cutL 124 s).take (i + 1) = (cutL 124 s).take i ++ [(cutL 124 s).getD i []] := by
    rw [List.take_add_one, List.getElem?_eq_getElem h]; simp [List.getD, h]
  rw [spIn, List.take_length, spAt, spAt, e, spc_snoc]
  congr 2
  rw [List.length_take]; omega
theorem sdec_at (s : List UInt8) {i : Nat} (h : i = 8 ∨ i = (cutL 124 s).length ∧ i ≤ 8) : sdec s = (spAt s i).1.take (spAt s i).2.toNat := by
  have e : (cutL 124 s).take 8 = (cutL 124 s).take i := by
    rcases h with h | ⟨h1, h2⟩
    · rw [h]
    · rw [h1, List.take_length, List.take_of_length_le (by omega)]
  rw [sdec, e]; rfl
theorem cutL_part (c : UInt8) : ∀ (s : List UInt8), ∀ q ∈ cutL c s, q.length ≤ s.length
  | [], q, h => by simp [cutL] at h; subst h; simp
  | x :: s, q, h => by
    rw [cutL] at h
    have ih := cutL_part c s
    split at h
    · rcases List.mem_cons.1 h with rfl | h
      · simp
      · have := ih q h; simp; omega
    · obtain ⟨p, ps, e⟩ := cutL_ne c s
      rw [e] at h ih
      rcases List.mem_cons.1 h with rfl | h
      · have := ih p (by simp); simp; omega
      · have := ih q (List.mem_cons_of_mem _ h); simp; omega

def PPRes (s : List UInt8) (r : SV) (H : Heap) : Prop := ∃ r0, r = .tup [r0, .val (.bool (pp s).2)] ∧ FlatRes (pp s).1.length 1 (ints (pp s).1) r0 H
theorem pp_end {s : List UInt8} {l : List Int} {u : Bool} {b n cap : Nat} {ex e2 : Bool} {H : Heap} (hpp : pp s = (l, u)) (hn : n = l.length) (hb : H.map b = some ⟨ints l, e2⟩) : Fin (PPRes s) (.tup [.own b 0 n cap 1 ex, .val (.bool u)]) H := by
  subst hn
  have hR : PPRes s = fun r H => ∃ r0, r = .tup [r0, .val (.bool u)] ∧ FlatRes l.length 1 (ints l) r0 H := by funext r H; rw [PPRes, hpp]
  rw [hR]
  exact fin_tup (by rw [ints_length, Nat.mul_one]) (ints_vals _) hb
set_option maxHeartbeats 16000000 in
theorem Tryd.specPP_f (s : List UInt8) (hs : s.length ≤ 1048576) : FCall Tryd.prog 24 [str s] (PPRes s) := by
  have wc : PCall Tryd.prog 61 [str s, .val (.int .u8 124)] (rst (cutL 124 s)) := Tryd.l2Cut_ok s 124 hs
  have hcl := cutL_len 124 s
  have hcc : s.count 124 ≤ s.length := List.count_le_length
  refine FCall.of_body Tryd.func24 rfl (by kernel_rfl) (by simp [Tryd.ntmps24]) ?_
  refine SW_of_vc Tryd.mixed _ _ _ (by kernel_rfl) ?_
  simp (disch := omega) only [Tryd.ntmps24, Tryd.results24, go_sem]
  refine wc.callV 0 (viewL_cons_of view_str (viewL_cons_of view_int viewL_nil_of)) ?_
  simp (disch := omega) only [Tryd.ntmps24, Tryd.results24, go_sem]
  refine LoopW.loop (fun i : Nat => ⟨ofL [(0, str s), (4, .own 0 0 8 8 1 true), (5, .val (.int .i64 (spAt s i).2)), (6, rst (cutL 124 s)), (7, .val (.int .i64 i))], hp [(0, ⟨ints (spAt s i).1, true⟩)] 1⟩)
    (fun i => i ≤ (cutL 124 s).length ∧ i ≤ 8) (fun i => 8 - i) 0 (by simp) (Wk.of (by simp only [go_sem, ↓List.forall_mem_cons, List.not_mem_nil, false_implies, implies_true, and_true, true_and, and_self, ri_eq, Int.natCast_add, Int.cast_ofNat_Int, rst, spAt_zero]; try simp) (by rw [spAt_zero])) ?_
  intro i ⟨hi, hi8⟩
  have h8 := spAt8 s i
  refine SW_of_vc Tryd.mixed _ _ _ (by kernel_rfl) ?_
  by_cases hlt : i < (cutL 124 s).length ∧ i < 8
  · obtain ⟨hlt, hlt8⟩ := hlt
    have hg := strs_get hlt
    have hql : ((cutL 124 s).getD i []).length ≤ s.length := cutL_part 124 s _ (by simp [List.getD, hlt])
    have hnext := spIn_all s hlt
    simp (disch := omega) only [Tryd.ntmps24, Tryd.results24, go_sem, rst, hg]
    refine LoopW.loop (fun k : Nat => ⟨ofL [(0, str s), (4, .own 0 0 8 8 1 true), (5, .val (.int .i64 (spIn s i k).2)), (6, rst (cutL 124 s)), (7, .val (.int .i64 i)), (8, .val (.int .i64 k))], hp [(0, ⟨ints (spIn s i k).1, true⟩)] 1⟩)
      (fun k => k ≤ ((cutL 124 s).getD i []).length) (fun k => ((cutL 124 s).getD i []).length - k) 0 (by simp) (Wk.of (by simp only [go_sem, ↓List.forall_mem_cons, List.not_mem_nil, false_implies, implies_true, and_true, true_and, and_self, ri_eq, Int.natCast_add, Int.cast_ofNat_Int, rst, spIn_zero]; try simp) rfl) ?_
    intro k hk
    obtain ⟨g1, g2, g3⟩ := spIn8 s i k
    refine SW_of_vc Tryd.mixed _ _ _ (by kernel_rfl) ?_
    by_cases hkl : k < ((cutL 124 s).getD i []).length
    · have hsuc := spIn_succ s hkl
      generalize (cutL 124 s).getD i [] = q at *
      have hix := sb_ix hkl
      have hc8 : (q.getD k 0).toNat < 256 := UInt8.toNat_lt _
      generalize q.getD k 0 = c at *
      generalize spIn s i k = p at *
      have hin := Tryd.l1In_ok ((c.toNat : Int) - 48) 0 7
      by_cases hx : 0 ≤ (c.toNat : Int) - 48 ∧ (c.toNat : Int) - 48 ≤ 7
      · have e : inR ((c.toNat : Int) - 48) 0 7 = true := inR_tt hx.1 hx.2
        rw [e] at hin
        rw [sput, if_pos hx] at hsuc
        simp (disch := omega) only [Tryd.ntmps24, Tryd.results24, go_sem, rst, hg, hix]
        refine hin.callV 0 (viewL_cons_of (view_int) (viewL_cons_of (view_int) (viewL_cons_of (view_int) viewL_nil_of))) ?_
        have hn : ((c.toNat : Int) - 48).toNat = c.toNat - 48 := by omega
        have hmax : (if p.2 < (c.toNat : Int) - 48 + 1 then (c.toNat : Int) - 48 + 1 else p.2) = max p.2 ((c.toNat : Int) - 48 + 1) := by split <;> omega
        simp (disch := omega) only [Tryd.ntmps24, Tryd.results24, go_sem, rst, hg, hn, hmax]
        exact ⟨k + 1, by omega, by omega, Wk.of (by simp only [go_sem, ↓List.forall_mem_cons, List.not_mem_nil, false_implies, implies_true, and_true, true_and, and_self, ri_eq, Int.natCast_add, Int.cast_ofNat_Int, rst, hsuc]; try simp) (by simp only [hsuc])⟩
      · have e : inR ((c.toNat : Int) - 48) 0 7 = false := by
          cases h : inR ((c.toNat : Int) - 48) 0 7 with
          | false => rfl
          | true => exact absurd (inR_of h) hx
        rw [e] at hin
        rw [sput, if_neg hx] at hsuc
        simp (disch := omega) only [Tryd.ntmps24, Tryd.results24, go_sem, rst, hg, hix]
        refine hin.callV 0 (viewL_cons_of (view_int) (viewL_cons_of (view_int) (viewL_cons_of (view_int) viewL_nil_of))) ?_
        simp (disch := omega) only [Tryd.ntmps24, Tryd.results24, go_sem, rst, hg]
        exact ⟨k + 1, by omega, by omega, Wk.of (by simp only [go_sem, ↓List.forall_mem_cons, List.not_mem_nil, false_implies, implies_true, and_true, true_and, and_self, ri_eq, Int.natCast_add, Int.cast_ofNat_Int, rst, hsuc]; try simp) (by simp only [hsuc])⟩
    · obtain rfl : k = ((cutL 124 s).getD i []).length := by omega
      simp (disch := omega) only [Tryd.ntmps24, Tryd.results24, go_sem, rst, hg]
      exact ⟨i + 1, by omega, by omega, Wk.of (by simp only [go_sem, ↓List.forall_mem_cons, List.not_mem_nil, false_implies, implies_true, and_true, true_and, and_self, ri_eq, Int.natCast_add, Int.cast_ofNat_Int, rst, hnext]; try simp) (by simp only [hnext])⟩
  · have hd := sdec_at s (i := i) (by omega)
    obtain ⟨h1, h2, h3⟩ := h8
    have hlen : (sdec s).length = (spAt s i).2.toNat := by rw [hd, List.length_take]; omega
    have wF := Tryd.specFP_ok (sdec s) (by omega)
    have hcells : (ints (spAt s i).1).take (spAt s i).2.toNat = ints (sdec s) := by rw [hd]; simp [ints]
    generalize spAt s i = p at *
    have hex : (i : Int) < (cutL 124 s).length → ¬ (i : Int) < 8 := fun h => by omega
    have hi8b : i < (cutL 124 s).length → i = 8 := by omega
    have hlen2 : (ints (sdec s)).length = p.2.toNat := by rw [ints_length, hlen]
    by_cases hn0 : p.2 = 0
    · have hnil : sdec s = [] := List.length_eq_zero_iff.1 (by omega)
      have hn1 : p.2.toNat = 0 := by omega
      rw [hnil] at hcells wF
      by_cases hlt2 : i < (cutL 124 s).length
      · have hi8 := hi8b hlt2
        by_cases hs0 : s = []
        · have hpp : pp s = ([], false) := pp_f fun h => h.1 hs0
          have hs1 : (s == ([] : List UInt8)) = true := by rw [hs0]; rfl
          simp (disch := omega) only [Tryd.ntmps24, Tryd.results24, go_sem, rst, hcells, hs1, ints_flat]
          exact pp_end (e2 := false) hpp rfl (by first | rfl | (simp (disch := omega) only [hx_map, hp_map, xmap_blk, hmap_cons, xmap_skipI, xmap_nil, if_pos, if_neg, ↓reduceIte]; try rfl))
        have hs1 : (s == ([] : List UInt8)) = false := by rw [beq_eq_false_iff_ne]; exact hs0
        simp (disch := omega) only [Tryd.ntmps24, Tryd.results24, go_sem, rst, hcells, hs1, ints_flat]
        refine wF.callV 2 (viewL_cons_of (view_own (L := ([] : List Int)) (e2 := false) (by first | rfl | (simp (disch := omega) only [hx_map, hp_map, xmap_blk, hmap_cons, xmap_skipI, xmap_nil, if_pos, if_neg, ↓reduceIte]; try rfl)) (by first | rfl | omega)) viewL_nil_of) ?_
        by_cases hf : fmtP (sdec s) = s
        · have hpp : pp s = (sdec s, true) := pp_t hs0 hf
          have hf1 : (fmtP (sdec s) == s) = true := by rw [hf]; exact beq_self_eq_true s
          rw [hnil] at hf1 hpp
          simp (disch := omega) only [Tryd.ntmps24, Tryd.results24, go_sem, rst, hf1]
          exact pp_end (e2 := false) hpp (by first | rfl | omega) (by first | rfl | (simp (disch := omega) only [hx_map, hp_map, xmap_blk, hmap_cons, xmap_skipI, xmap_nil, if_pos, if_neg, ↓reduceIte]; try rfl))
        · have hpp : pp s = ([], false) := pp_f fun h => hf h.2
          have hf1 : (fmtP (sdec s) == s) = false := by rw [beq_eq_false_iff_ne]; exact hf
          rw [hnil] at hf1
          simp (disch := omega) only [Tryd.ntmps24, Tryd.results24, go_sem, rst, hf1]
          exact pp_end (e2 := false) hpp rfl (by first | rfl | (simp (disch := omega) only [hx_map, hp_map, xmap_blk, hmap_cons, xmap_skipI, xmap_nil, if_pos, if_neg, ↓reduceIte]; try rfl))
      · have hi8 := hi8b
        by_cases hs0 : s = []
        · have hpp : pp s = ([], false) := pp_f fun h => h.1 hs0
          have hs1 : (s == ([] : List UInt8)) = true := by rw [hs0]; rfl
          simp (disch := omega) only [Tryd.ntmps24, Tryd.results24, go_sem, rst, hcells, hs1, ints_flat]
          exact pp_end (e2 := false) hpp rfl (by first | rfl | (simp (disch := omega) only [hx_map, hp_map, xmap_blk, hmap_cons, xmap_skipI, xmap_nil, if_pos, if_neg, ↓reduceIte]; try rfl))
        have hs1 : (s == ([] : List UInt8)) = false := by rw [beq_eq_false_iff_ne]; exact hs0
        simp (disch := omega) only [Tryd.ntmps24, Tryd.results24, go_sem, rst, hcells, hs1, ints_flat]
        refine wF.callV 2 (viewL_cons_of (view_own (L := ([] : List Int)) (e2 := false) (by first | rfl | (simp (disch := omega) only [hx_map, hp_map, xmap_blk, hmap_cons, xmap_skipI, xmap_nil, if_pos, if_neg, ↓reduceIte]; try rfl)) (by first | rfl | omega)) viewL_nil_of) ?_
        by_cases hf : fmtP (sdec s) = s
        · have hpp : pp s = (sdec s, true) := pp_t hs0 hf
          have hf1 : (fmtP (sdec s) == s) = true := by rw [hf]; exact beq_self_eq_true s
          rw [hnil] at hf1 hpp
          simp (disch := omega) only [Tryd.ntmps24, Tryd.results24, go_sem, rst, hf1]
          exact pp_end (e2 := false) hpp (by first | rfl | omega) (by first | rfl | (simp (disch := omega) only [hx_map, hp_map, xmap_blk, hmap_cons, xmap_skipI, xmap_nil, if_pos, if_neg, ↓reduceIte]; try rfl))
        · have hpp : pp s = ([], false) := pp_f fun h => hf h.2
          have hf1 : (fmtP (sdec s) == s) = false := by rw [beq_eq_false_iff_ne]; exact hf
          rw [hnil] at hf1
          simp (disch := omega) only [Tryd.ntmps24, Tryd.results24, go_sem, rst, hf1]
          exact pp_end (e2 := false) hpp rfl (by first | rfl | (simp (disch := omega) only [hx_map, hp_map, xmap_blk, hmap_cons, xmap_skipI, xmap_nil, if_pos, if_neg, ↓reduceIte]; try rfl))
    · by_cases hlt2 : i < (cutL 124 s).length
      · have hi8 := hi8b hlt2
        by_cases hs0 : s = []
        · have hpp : pp s = ([], false) := pp_f fun h => h.1 hs0
          have hs1 : (s == ([] : List UInt8)) = true := by rw [hs0]; rfl
          simp (disch := omega) only [Tryd.ntmps24, Tryd.results24, go_sem, rst, hcells, hs1, ints_flat]
          exact pp_end (e2 := false) hpp rfl (by first | rfl | (simp (disch := omega) only [hx_map, hp_map, xmap_blk, hmap_cons, xmap_skipI, xmap_nil, if_pos, if_neg, ↓reduceIte]; try rfl))
        have hs1 : (s == ([] : List UInt8)) = false := by rw [beq_eq_false_iff_ne]; exact hs0
        simp (disch := omega) only [Tryd.ntmps24, Tryd.results24, go_sem, rst, hcells, hs1, ints_flat]
        refine wF.callV 2 (viewL_cons_of (view_own (L := sdec s) (e2 := false) (by first | rfl | (simp (disch := omega) only [hx_map, hp_map, xmap_blk, hmap_cons, xmap_skipI, xmap_nil, if_pos, if_neg, ↓reduceIte]; try rfl)) (by first | rfl | omega)) viewL_nil_of) ?_
        by_cases hf : fmtP (sdec s) = s
        · have hpp : pp s = (sdec s, true) := pp_t hs0 hf
          have hf1 : (fmtP (sdec s) == s) = true := by rw [hf]; exact beq_self_eq_true s
          simp (disch := omega) only [Tryd.ntmps24, Tryd.results24, go_sem, rst, hf1]
          exact pp_end (e2 := false) hpp (by first | rfl | omega) (by first | rfl | (simp (disch := omega) only [hx_map, hp_map, xmap_blk, hmap_cons, xmap_skipI, xmap_nil, if_pos, if_neg, ↓reduceIte]; try rfl))
        · have hpp : pp s = ([], false) := pp_f fun h => hf h.2
          have hf1 : (fmtP (sdec s) == s) = false := by rw [beq_eq_false_iff_ne]; exact hf
          simp (disch := omega) only [Tryd.ntmps24, Tryd.results24, go_sem, rst, hf1]
          exact pp_end (e2 := false) hpp rfl (by first | rfl | (simp (disch := omega) only [hx_map, hp_map, xmap_blk, hmap_cons, xmap_skipI, xmap_nil, if_pos, if_neg, ↓reduceIte]; try rfl))
      · have hi8 := hi8b
        by_cases hs0 : s = []
        · have hpp : pp s = ([], false) := pp_f fun h => h.1 hs0
          have hs1 : (s == ([] : List UInt8)) = true := by rw [hs0]; rfl
          simp (disch := omega) only [Tryd.ntmps24, Tryd.results24, go_sem, rst, hcells, hs1, ints_flat]
          exact pp_end (e2 := false) hpp rfl (by first | rfl | (simp (disch := omega) only [hx_map, hp_map, xmap_blk, hmap_cons, xmap_skipI, xmap_nil, if_pos, if_neg, ↓reduceIte]; try rfl))
        have hs1 : (s == ([] : List UInt8)) = false := by rw [beq_eq_false_iff_ne]; exact hs0
        simp (disch := omega) only [Tryd.ntmps24, Tryd.results24, go_sem, rst, hcells, hs1, ints_flat]
        refine wF.callV 2 (viewL_cons_of (view_own (L := sdec s) (e2 := false) (by first | rfl | (simp (disch := omega) only [hx_map, hp_map, xmap_blk, hmap_cons, xmap_skipI, xmap_nil, if_pos, if_neg, ↓reduceIte]; try rfl)) (by first | rfl | omega)) viewL_nil_of) ?_
        by_cases hf : fmtP (sdec s) = s
        · have hpp : pp s = (sdec s, true) := pp_t hs0 hf
          have hf1 : (fmtP (sdec s) == s) = true := by rw [hf]; exact beq_self_eq_true s
          simp (disch := omega) only [Tryd.ntmps24, Tryd.results24, go_sem, rst, hf1]
          exact pp_end (e2 := false) hpp (by first | rfl | omega) (by first | rfl | (simp (disch := omega) only [hx_map, hp_map, xmap_blk, hmap_cons, xmap_skipI, xmap_nil, if_pos, if_neg, ↓reduceIte]; try rfl))
        · have hpp : pp s = ([], false) := pp_f fun h => hf h.2
          have hf1 : (fmtP (sdec s) == s) = false := by rw [beq_eq_false_iff_ne]; exact hf
          simp (disch := omega) only [Tryd.ntmps24, Tryd.results24, go_sem, rst, hf1]
          exact pp_end (e2 := false) hpp rfl (by first | rfl | (simp (disch := omega) only [hx_map, hp_map, xmap_blk, hmap_cons, xmap_skipI, xmap_nil, if_pos, if_neg, ↓reduceIte]; try rfl))
theorem Tryd.specPP_ok (s : List UInt8) (hs : s.length ≤ 1048576) : PCall Tryd.prog 24 [str s] (.tup [ri (pp s).1, .val (.bool (pp s).2)]) :=
  (Tryd.specPP_f s hs).pcall 3 (fun r H ⟨r0, h1, h2⟩ => view_tupB h1 h2)
end Go.Sh

/-
  ParsePartition of the program.
-/
namespace Go.Sh
set_option linter.unusedSimpArgs false
set_option linter.unusedVariables false
open Go Go.Proofs

theorem iput_app {n : Nat} {i : Int} : ∀ (a b : List UInt8) (l : List Int), iput n i (a ++ b) l = (iput n i a l).bind (iput n i b)
  | [], b, l => rfl
  | c :: a, b, l => by
    rw [List.cons_append, iput, iput]
    split
    · exact iput_app a b _
    · rfl
theorem ipc_app {n : Nat} : ∀ (qs rs : List (List UInt8)) (i : Int) (l : List Int), ipc n i (qs ++ rs) l = (ipc n i qs l).bind (fun l1 => ipc n (i + qs.length) rs l1)
  | [], rs, i, l => by simp [ipc]
  | q :: qs, rs, i, l => by
    rw [List.cons_append, ipc, ipc]
    cases iput n i q l with
    | none => rfl
    | some l1 =>
      simp only
      rw [ipc_app qs rs (i + 1) l1]
      congr 1
      funext l2
      congr 1
      rw [List.length_cons]; omega
theorem iput_len {n : Nat} {i : Int} : ∀ {a : List UInt8} {l l' : List Int}, iput n i a l = some l' → l'.length = l.length
  | [], l, l', h => by simp [iput] at h; rw [h]
  | c :: a, l, l', h => by
    rw [iput] at h
    split at h
    · rw [iput_len h, List.length_set]
    · cases h
theorem getD_take_succ {q : List UInt8} {j : Nat} (h : j < q.length) : q.take (j + 1) = q.take j ++ [q.getD j 0] := by
  rw [List.take_add_one, List.getElem?_eq_getElem h]; simp [List.getD, h]
theorem take_drop_at {q : List UInt8} {j : Nat} (h : j < q.length) : q = q.take j ++ q.getD j 0 :: q.drop (j + 1) := by
  have h1 : q.drop j = q.getD j 0 :: q.drop (j + 1) := by rw [List.drop_eq_getElem_cons h]; congr 1; simp [List.getD, h]
  rw [← h1, List.take_append_drop]
theorem takeS_succ {q : List (List UInt8)} {j : Nat} (h : j < q.length) : q.take (j + 1) = q.take j ++ [q.getD j []] := by
  rw [List.take_add_one, List.getElem?_eq_getElem h]; simp [List.getD, h]
theorem takeS_drop {q : List (List UInt8)} {j : Nat} (h : j < q.length) : q = q.take j ++ q.getD j [] :: q.drop (j + 1) := by
  have h1 : q.drop j = q.getD j [] :: q.drop (j + 1) := by rw [List.drop_eq_getElem_cons h]; congr 1; simp [List.getD, h]
  rw [← h1, List.take_append_drop]
theorem fin_val2 {R : SV → Heap → Prop} {a b : Value} {H : Heap} (h : R (.tup [.val a, .val b]) ⟨fun _ => none, H.nb⟩) : Fin R (.tup [.val a, .val b]) H :=
  ⟨⟨fun _ => none, H.nb⟩, ⟨rfl, fun _ => .inl rfl⟩, by simp [noRow, noRowL], fun b blk hb => by simp at hb, h⟩
def IPR (s : List UInt8) (r : SV) (H : Heap) : Prop := (∃ l, pp s = (l, true) ∧ ∃ r0, r = .tup [r0, .val (.bool true)] ∧ FlatRes l.length 1 (ints l) r0 H) ∨ (pp s = ([], false) ∧ r = .tup [.val (.slice none 0 0), .val (.bool false)])
theorem ipr_f {s : List UInt8} {H : Heap} (h : pp s = ([], false)) : Fin (IPR s) (.tup [.val (.slice none 0 0), .val (.bool false)]) H := fin_val2 (.inr ⟨h, rfl⟩)
theorem ipr_t {s : List UInt8} {l : List Int} {b n cap : Nat} {ex e2 : Bool} {H : Heap} (h : pp s = (l, true)) (hn : n = l.length) (hb : H.map b = some ⟨ints l, e2⟩) : Fin (IPR s) (.tup [.own b 0 n cap 1 ex, .val (.bool true)]) H := by
  obtain ⟨H2, h1, h2, h3, r0, h4, h5⟩ := pp_end (cap := cap) (ex := ex) h hn hb
  refine ⟨H2, h1, h2, h3, .inl ⟨l, h, r0, ?_, ?_⟩⟩
  · rw [h4, h]
  · rw [h] at h5; exact h5
/-- The list behind k pieces. -/
def ipAt (s : List UInt8) (k : Nat) (l : List Int) : Prop := ipc (s.length - s.count 124) 0 ((cutL 124 s).take k) (List.replicate (s.length - s.count 124) 0) = some l ∧ l.length = s.length - s.count 124
def ipIn (s : List UInt8) (k j : Nat) (l : List Int) : Prop := ∃ l0, ipAt s k l0 ∧ iput (s.length - s.count 124) k (((cutL 124 s).getD k []).take j) l0 = some l ∧ l.length = s.length - s.count 124
theorem ipIn.zero {s : List UInt8} {k : Nat} {l : List Int} (h : ipAt s k l) : ipIn s k 0 l := ⟨l, h, by rw [List.take_zero]; rfl, h.2⟩
theorem ipIn.succ {s : List UInt8} {k j : Nat} {l : List Int} (h : ipIn s k j l) (hj : j < ((cutL 124 s).getD k []).length) (hx : 0 ≤ ((((cutL 124 s).getD k []).getD j 0).toNat : Int) - 48 ∧ ((((cutL 124 s).getD k []).getD j 0).toNat : Int) - 48 ≤ ((s.length - s.count 124 : Nat) : Int) - 1) :
    ipIn s k (j + 1) (l.set ((((cutL 124 s).getD k []).getD j 0).toNat - 48) k) := by
  obtain ⟨l0, h1, h2, h3⟩ := h
  refine ⟨l0, h1, ?_, by rw [List.length_set]; exact h3⟩
  rw [getD_take_succ hj, iput_app, h2]
  show iput _ _ [_] l = _
  rw [iput, if_pos hx]; rfl
theorem ipIn.fail {s : List UInt8} {k j : Nat} {l : List Int} (h : ipIn s k j l) (hk : k < (cutL 124 s).length) (h16 : s.length ≤ 16) (hj : j < ((cutL 124 s).getD k []).length) (hx : ¬ (0 ≤ ((((cutL 124 s).getD k []).getD j 0).toNat : Int) - 48 ∧ ((((cutL 124 s).getD k []).getD j 0).toNat : Int) - 48 ≤ ((s.length - s.count 124 : Nat) : Int) - 1)) : pp s = ([], false) := by
  refine pp_in ?_
  obtain ⟨l0, h1, h2, h3⟩ := h
  have e1 : iput (s.length - s.count 124) k ((cutL 124 s).getD k []) l0 = none := by
    conv => lhs; rw [take_drop_at hj]
    rw [iput_app, h2]
    show iput _ _ (_ :: _) l = _
    rw [iput, if_neg hx]
  rw [idec, if_neg (by omega)]
  conv => lhs; rw [takeS_drop hk]
  rw [ipc_app, h1.1]
  show ipc _ _ (_ :: _) l0 = _
  have e2 : (0 : Int) + (((cutL 124 s).take k).length : Int) = k := by rw [List.length_take]; omega
  rw [e2, ipc, e1]
theorem ipIn.next {s : List UInt8} {k : Nat} {l : List Int} (h : ipIn s k ((cutL 124 s).getD k []).length l) (hk : k < (cutL 124 s).length) : ipAt s (k + 1) l := by
  obtain ⟨l0, h1, h2, h3⟩ := h
  rw [List.take_length] at h2
  refine ⟨?_, h3⟩
  rw [takeS_succ hk, ipc_app, h1.1]
  show ipc _ _ [_] l0 = _
  have e2 : (0 : Int) + (((cutL 124 s).take k).length : Int) = k := by rw [List.length_take]; omega
  rw [e2, ipc, h2]; rfl
theorem ipAt.all {s : List UInt8} {l : List Int} (h : ipAt s (cutL 124 s).length l) (h16 : s.length ≤ 16) : idec s = some l := by
  have h1 := h.1
  rw [List.take_length] at h1
  rw [idec, if_neg (by omega), h1]

set_option maxHeartbeats 8000000 in
theorem Tryd.implPP_f (s : List UInt8) (hs : s.length ≤ 1048576) : FCall Tryd.prog 25 [str s] (IPR s) := by
  have wc := Tryd.count_ok s 124
  have ws := Tryd.split_ok s 124 hs
  have hcl := cutL_len 124 s
  have hcc : s.count 124 ≤ s.length := List.count_le_length
  refine FCall.of_body Tryd.func25 rfl (by kernel_rfl) (by simp [Tryd.ntmps25]) ?_
  refine SW_of_vc Tryd.mixed _ _ _ (by kernel_rfl) ?_
  by_cases h16 : 16 < s.length
  · have hpp : pp s = ([], false) := pp_in (by rw [idec, if_pos h16])
    simp (disch := omega) only [Tryd.ntmps25, Tryd.results25, go_sem]
    exact ipr_f hpp
  have h16 : s.length ≤ 16 := by omega
  simp (disch := omega) only [Tryd.ntmps25, Tryd.results25, go_sem]
  refine wc.callV 0 (viewL_cons_of view_str (viewL_cons_of view_str viewL_nil_of)) ?_
  have hsub : ((s.length : Int) - (s.count 124 : Int)) = ((s.length - s.count 124 : Nat) : Int) := by omega
  have hz : ipAt s 0 (List.replicate (s.length - s.count 124) 0) := ⟨by rw [List.take_zero]; rfl, by simp⟩
  have hn8 : s.length - s.count 124 ≤ 16 := by omega
  have step := fun k j l (h : ipIn s k j l) hj hx => h.succ hj hx
  have fail := fun k j l (h : ipIn s k j l) hk hj hx => h.fail hk h16 hj hx
  generalize hN : s.length - s.count 124 = N at *
  simp (disch := omega) only [Tryd.ntmps25, Tryd.results25, go_sem, hsub]
  refine ws.callV 0 (viewL_cons_of view_str (viewL_cons_of view_str viewL_nil_of)) ?_
  simp (disch := omega) only [Tryd.ntmps25, Tryd.results25, go_sem, rst]
  refine LoopW.loop (fun p : Nat × List Int => ⟨ofL [(0, str s), (4, .own 0 0 N N 1 true), (19, rst (cutL 124 s)), (20, .val (.int .i64 (cutL 124 s).length)), (21, .val (.int .i64 p.1))], hp [(0, ⟨ints p.2, true⟩)] 1⟩)
    (fun p => p.1 ≤ (cutL 124 s).length ∧ ipAt s p.1 p.2) (fun p => (cutL 124 s).length - p.1) (0, List.replicate N 0) ⟨by simp, hz⟩ (Wk.of (by simp only [go_sem, ↓List.forall_mem_cons, List.not_mem_nil, false_implies, implies_true, and_true, true_and, and_self, ri_eq, Int.natCast_add, Int.cast_ofNat_Int, rst]; try simp) rfl) ?_
  rintro ⟨k, l⟩ ⟨hk, hl⟩
  simp only at hk hl
  refine SW_of_vc Tryd.mixed _ _ _ (by kernel_rfl) ?_
  by_cases hlt : k < (cutL 124 s).length
  · have hg := strs_get hlt
    simp (disch := omega) only [Tryd.ntmps25, Tryd.results25, go_sem, rst, hg]
    have hql : ((cutL 124 s).getD k []).length ≤ s.length := cutL_part 124 s _ (by simp [List.getD, hlt])
    have stepk := step k
    have failk := fail k
    have nextk := fun l (h : ipIn s k ((cutL 124 s).getD k []).length l) => h.next hlt
    have zk := ipIn.zero hl
    generalize (cutL 124 s).getD k [] = q at *
    refine LoopW.loop (fun p : Nat × List Int => ⟨ofL [(0, str s), (4, .own 0 0 N N 1 true), (19, rst (cutL 124 s)), (20, .val (.int .i64 (cutL 124 s).length)), (21, .val (.int .i64 k)), (5, .val (.int .i64 k)), (6, str q), (27, .val (.int .i64 q.length)), (28, .val (.int .i64 p.1))], hp [(0, ⟨ints p.2, true⟩)] 1⟩)
      (fun p => p.1 ≤ q.length ∧ ipIn s k p.1 p.2) (fun p => q.length - p.1) (0, l) ⟨by simp, zk⟩ (Wk.of (by simp only [go_sem, ↓List.forall_mem_cons, List.not_mem_nil, false_implies, implies_true, and_true, true_and, and_self, ri_eq, Int.natCast_add, Int.cast_ofNat_Int, rst]; try simp) rfl) ?_
    rintro ⟨j, l'⟩ ⟨hj, hl'⟩
    simp only at hj hl'
    have hll : l'.length = N := by obtain ⟨_, _, _, h3⟩ := hl'; rw [h3, hN]
    refine SW_of_vc Tryd.mixed _ _ _ (by kernel_rfl) ?_
    by_cases hjl : j < q.length
    · have hix := sb_ix hjl
      have hc8 : (q.getD j 0).toNat < 256 := UInt8.toNat_lt _
      have st := stepk j l' hl' hjl
      have fl := failk j l' hl' hlt hjl
      generalize q.getD j 0 = c at *
      have hin := Tryd.isItem_ok ((c.toNat : Int) - 48) (N : Int) (by omega) (by omega)
      by_cases hx : 0 ≤ (c.toNat : Int) - 48 ∧ (c.toNat : Int) - 48 ≤ (N : Int) - 1
      · have e : inR ((c.toNat : Int) - 48) 0 ((N : Int) - 1) = true := inR_tt hx.1 hx.2
        rw [e] at hin
        have st := st hx
        have hn : ((c.toNat : Int) - 48).toNat = c.toNat - 48 := by omega
        simp (disch := omega) only [Tryd.ntmps25, Tryd.results25, go_sem, rst, hix]
        refine hin.callV 0 (viewL_cons_of (view_int) (viewL_cons_of (view_int) viewL_nil_of)) ?_
        simp (disch := omega) only [Tryd.ntmps25, Tryd.results25, go_sem, rst, hn]
        exact ⟨(j + 1, l'.set (c.toNat - 48) k), ⟨hjl, st⟩, by simp only; omega, Wk.of (by simp only [go_sem, ↓List.forall_mem_cons, List.not_mem_nil, false_implies, implies_true, and_true, true_and, and_self, ri_eq, Int.natCast_add, Int.cast_ofNat_Int, rst]; try simp) rfl⟩
      · have e : inR ((c.toNat : Int) - 48) 0 ((N : Int) - 1) = false := by
          cases h : inR ((c.toNat : Int) - 48) 0 ((N : Int) - 1) with
          | false => rfl
          | true => exact absurd (inR_of h) hx
        rw [e] at hin
        have hpp := fl hx
        simp (disch := omega) only [Tryd.ntmps25, Tryd.results25, go_sem, rst, hix]
        refine hin.callV 0 (viewL_cons_of (view_int) (viewL_cons_of (view_int) viewL_nil_of)) ?_
        simp (disch := omega) only [Tryd.ntmps25, Tryd.results25, go_sem, rst]
        exact ipr_f hpp
    · obtain rfl : j = q.length := by omega
      have hnext := nextk l' hl'
      simp (disch := omega) only [Tryd.ntmps25, Tryd.results25, go_sem, rst]
      exact ⟨(k + 1, l'), ⟨hlt, hnext⟩, by simp only; omega, Wk.of (by simp only [go_sem, ↓List.forall_mem_cons, List.not_mem_nil, false_implies, implies_true, and_true, true_and, and_self, ri_eq, Int.natCast_add, Int.cast_ofNat_Int, rst]; try simp) rfl⟩
  · obtain rfl : k = (cutL 124 s).length := by omega
    have hid := hl.all h16
    have hll : l.length = N := by rw [hl.2, hN]
    have wF := Tryd.implFP_ok l (by omega)
    by_cases hs0 : s = []
    · have hpp : pp s = ([], false) := pp_f fun h => h.1 hs0
      have hs1 : (s == ([] : List UInt8)) = true := by rw [hs0]; rfl
      simp (disch := omega) only [Tryd.ntmps25, Tryd.results25, go_sem, rst, hs1]
      exact ipr_f hpp
    have hs1 : (s == ([] : List UInt8)) = false := by rw [beq_eq_false_iff_ne]; exact hs0
    simp (disch := omega) only [Tryd.ntmps25, Tryd.results25, go_sem, rst, hs1]
    refine wF.callV 2 (viewL_cons_of (view_own (L := l) (e2 := true) (by first | rfl | (simp (disch := omega) only [hx_map, hp_map, xmap_blk, hmap_cons, xmap_skipI, xmap_nil, if_pos, if_neg, ↓reduceIte]; try rfl)) hll.symm) viewL_nil_of) ?_
    by_cases hf : fmtP l = s
    · have hpp : pp s = (l, true) := pp_t hs0 hf
      have hf1 : (fmtP l == s) = true := by rw [hf]; exact beq_self_eq_true s
      simp (disch := omega) only [Tryd.ntmps25, Tryd.results25, go_sem, rst, hf1]
      exact ipr_t (e2 := true) hpp hll.symm (by first | rfl | (simp (disch := omega) only [hx_map, hp_map, xmap_blk, hmap_cons, xmap_skipI, xmap_nil, if_pos, if_neg, ↓reduceIte]; try rfl))
    · have hpp : pp s = ([], false) := pp_is hid hf
      have hf1 : (fmtP l == s) = false := by rw [beq_eq_false_iff_ne]; exact hf
      simp (disch := omega) only [Tryd.ntmps25, Tryd.results25, go_sem, rst, hf1]
      exact ipr_f hpp
theorem Tryd.implPP_t (s : List UInt8) (hs : s.length ≤ 1048576) {l : List Int} (h : pp s = (l, true)) : FCall Tryd.prog 25 [str s] (fun r H => r = .tup [.own 0 0 l.length l.length 1 false, .val (.bool true)] ∧ H = Heap.one ⟨ints l, false⟩) :=
  ((Tryd.implPP_f s hs).mono (R' := fun r H => ∃ r0, r = .tup [r0, .val (.bool true)] ∧ FlatRes l.length 1 (ints l) r0 H) (fun r H hr => by
    rcases hr with ⟨l', h1, r0, h2, h3⟩ | ⟨h1, _⟩
    · rw [h] at h1
      obtain rfl : l = l' := congrArg Prod.fst h1
      exact ⟨r0, h2, h3⟩
    · rw [h] at h1; cases h1)).oneT
theorem Tryd.implPP_n (s : List UInt8) (hs : s.length ≤ 1048576) (h : pp s = ([], false)) : FCall Tryd.prog 25 [str s] (fun r _ => r = .tup ([Value.slice none 0 0, Value.bool false].map .val)) :=
  (Tryd.implPP_f s hs).mono (fun r H hr => by
    rcases hr with ⟨l', h1, _⟩ | ⟨h1, h2⟩
    · rw [h] at h1; cases h1
    · exact h2)
theorem pp_le (s : List UInt8) : (pp s).1.length ≤ 8 := by
  rw [pp]; split
  · rename_i h
    have := isPart_len (fmtP_part (L := sdec s) (by rw [h.2]; exact h.1))
    exact this.2
  · simp
theorem pp_cases (s : List UInt8) : (∃ l, pp s = (l, true)) ∨ pp s = ([], false) := by
  rw [pp]; split
  · exact .inl ⟨_, rfl⟩
  · exact .inr rfl
end Go.Sh

/-
  The law FnExactParsePartition, walked.
-/
namespace Go.Sh
set_option linter.unusedSimpArgs false
set_option linter.unusedVariables false
open Go Go.Proofs

theorem view_tupN {H : Heap} {f : Nat} {r : SV} (h : r = .tup ([Value.slice none 0 0, Value.bool false].map .val)) : view H (f + 1) r = some (.tup [ri [], .val (.bool false)]) := by
  subst h
  have h1 : viewL H f [.val (.slice none 0 0), .val (.bool false)] = some [ri [], .val (.bool false)] := viewL_cons_of view_nil (viewL_cons_of view_bool viewL_nil_of)
  simp only [List.map_cons, List.map_nil, view, h1]
set_option maxHeartbeats 16000000 in
theorem Tryd.exactParsePartition_ok (s : List UInt8) : PCall Tryd.prog 6 [str s] (.val (.bool true)) := by
  refine FCall.pcall (R := fun r _ => r = .val (.bool true)) ?_ 0 (by rintro r H rfl; exact view_bool)
  refine FCall.of_body Tryd.func6 rfl (by kernel_rfl) (by simp [Tryd.ntmps6]) ?_
  refine SW_of_vc Tryd.mixed _ _ _ (by kernel_rfl) ?_
  by_cases sL : 1048576 < s.length
  · simp (disch := omega) only [Tryd.ntmps6, Tryd.results6, go_sem]
    exact Fin.val rfl
  have hs : s.length ≤ 1048576 := by omega
  have wS := Tryd.specPP_ok s hs
  have hle := pp_le s
  rcases pp_cases s with ⟨l, hp⟩ | hp
  · have wT := Tryd.implPP_t s hs hp
    have wI : PCall Tryd.prog 25 [str s] (.tup [ri l, .val (.bool true)]) := wT.pcall 3 (fun r H ⟨h1, h2⟩ => by
      subst h1; subst h2
      have h3 : viewL (Heap.one ⟨ints l, false⟩) 2 [.own 0 0 l.length l.length 1 false, .val (.bool true)] = some [ri l, .val (.bool true)] := viewL_cons_of (view_own (L := l) (e2 := false) (by simp [Heap.one]) rfl) (viewL_cons_of view_bool viewL_nil_of)
      simp only [view, h3])
    rw [hp] at wS hle
    simp only at hle wS
    have hmk := held_marks l.length 1
    simp (disch := omega) only [Tryd.ntmps6, Tryd.results6, go_sem]
    refine wS.callV 0 (viewL_cons_of view_str viewL_nil_of) ?_
    simp (disch := omega) only [Tryd.ntmps6, Tryd.results6, go_sem]
    refine wT.callOneT (ints_vals _) 0 (viewL_cons_of view_str viewL_nil_of) ?_
    simp (disch := omega) only [Tryd.ntmps6, Tryd.results6, go_sem]
    refine (Tryd.eqIntS_ok l l (by omega) (by omega)).callV 2 (viewL_cons_of (view_own (L := l) (e2 := false) (by first | rfl | (simp (disch := omega) only [hx_map, hp_map, xmap_blk, hmap_cons, xmap_skipI, xmap_nil, if_pos, if_neg, ↓reduceIte]; try rfl)) (by first | rfl | omega | (simp [marks_length]; done) | (simp [marks_length]; omega) | (rw [marksT_length] <;> omega) | (rw [marksC_length] <;> omega))) (viewL_cons_of view_row viewL_nil_of)) ?_
    simp (disch := omega) only [Tryd.ntmps6, Tryd.results6, go_sem, decide_true, beq_self_eq_true, bne_self_eq_false]
    refine (Tryd.markIntS_ok l 1 _ _ _ _ false false (by first | rfl | (simp (disch := omega) only [hx_map, hp_map, xmap_blk, hmap_cons, xmap_skipI, xmap_nil, if_pos, if_neg, ↓reduceIte]; try rfl)) (by first | rfl | omega | (simp [marks_length]; done) | (simp [marks_length]; omega) | (rw [marksT_length] <;> omega) | (rw [marksC_length] <;> omega)) (by omega) (by omega) (by omega)).callDet ?_
    simp (disch := omega) only [Tryd.ntmps6, Tryd.results6, go_sem]
    refine (Tryd.heldIntS_ok (marks l.length 1) 1 (by rw [marks_length]; omega) (by omega) (by omega)).callV 2 (viewL_cons_of (view_own (L := marks l.length 1) (e2 := false) (by first | rfl | (simp (disch := omega) only [hx_map, hp_map, xmap_blk, hmap_cons, xmap_skipI, xmap_nil, if_pos, if_neg, ↓reduceIte]; try rfl)) (by first | rfl | omega | (simp [marks_length]; done) | (simp [marks_length]; omega) | (rw [marksT_length] <;> omega) | (rw [marksC_length] <;> omega))) (viewL_cons_of view_int viewL_nil_of)) ?_
    simp (disch := omega) only [Tryd.ntmps6, Tryd.results6, go_sem, hmk, bne_self_eq_false]
    refine wI.callV 2 (viewL_cons_of view_str viewL_nil_of) ?_
    simp (disch := omega) only [Tryd.ntmps6, Tryd.results6, go_sem]
    refine (Tryd.eqIntS_ok l l (by omega) (by omega)).callV 2 (viewL_cons_of (view_row) (viewL_cons_of (view_row) viewL_nil_of)) ?_
    simp (disch := omega) only [Tryd.ntmps6, Tryd.results6, go_sem, decide_true, beq_self_eq_true, bne_self_eq_false]
    refine (Tryd.heldIntS_ok (marks l.length 1) 1 (by rw [marks_length]; omega) (by omega) (by omega)).callV 2 (viewL_cons_of (view_own (L := marks l.length 1) (e2 := false) (by first | rfl | (simp (disch := omega) only [hx_map, hp_map, xmap_blk, hmap_cons, xmap_skipI, xmap_nil, if_pos, if_neg, ↓reduceIte]; try rfl)) (by first | rfl | omega | (simp [marks_length]; done) | (simp [marks_length]; omega) | (rw [marksT_length] <;> omega) | (rw [marksC_length] <;> omega))) (viewL_cons_of view_int viewL_nil_of)) ?_
    simp (disch := omega) only [Tryd.ntmps6, Tryd.results6, go_sem, hmk, bne_self_eq_false]
    exact Fin.val rfl
  · have wN := Tryd.implPP_n s hs hp
    have wI : PCall Tryd.prog 25 [str s] (.tup [ri [], .val (.bool false)]) := wN.pcall 1 (fun r H h => view_tupN h)
    rw [hp] at wS
    simp only at wS
    have hmk : held [] 1 = 1 := by simp [held, marks]
    simp (disch := omega) only [Tryd.ntmps6, Tryd.results6, go_sem]
    refine wS.callV 0 (viewL_cons_of view_str viewL_nil_of) ?_
    simp (disch := omega) only [Tryd.ntmps6, Tryd.results6, go_sem]
    refine wN.callTup 0 (viewL_cons_of view_str viewL_nil_of) ?_
    simp (disch := omega) only [Tryd.ntmps6, Tryd.results6, go_sem, List.map_cons, List.map_nil]
    refine (Tryd.eqIntS_ok [] [] (by simp) (by simp)).callV 2 (viewL_cons_of view_nil (viewL_cons_of view_row viewL_nil_of)) ?_
    simp (disch := omega) only [Tryd.ntmps6, Tryd.results6, go_sem, decide_true, beq_self_eq_true, bne_self_eq_false]
    refine (Tryd.markIntS_nil 1 _ (by omega) (by omega)).callDet ?_
    simp (disch := omega) only [Tryd.ntmps6, Tryd.results6, go_sem]
    refine (Tryd.heldIntS_ok [] 1 (by simp) (by omega) (by omega)).callV 2 (viewL_cons_of view_nil (viewL_cons_of view_int viewL_nil_of)) ?_
    simp (disch := omega) only [Tryd.ntmps6, Tryd.results6, go_sem, hmk, bne_self_eq_false]
    refine wI.callV 2 (viewL_cons_of view_str viewL_nil_of) ?_
    simp (disch := omega) only [Tryd.ntmps6, Tryd.results6, go_sem]
    refine (Tryd.eqIntS_ok [] [] (by simp) (by simp)).callV 2 (viewL_cons_of (view_row) (viewL_cons_of (view_row) viewL_nil_of)) ?_
    simp (disch := omega) only [Tryd.ntmps6, Tryd.results6, go_sem, decide_true, beq_self_eq_true, bne_self_eq_false]
    refine (Tryd.heldIntS_ok [] 1 (by simp) (by omega) (by omega)).callV 2 (viewL_cons_of view_nil (viewL_cons_of view_int viewL_nil_of)) ?_
    simp (disch := omega) only [Tryd.ntmps6, Tryd.results6, go_sem, hmk, bne_self_eq_false]
    exact Fin.val rfl
end Go.Sh
