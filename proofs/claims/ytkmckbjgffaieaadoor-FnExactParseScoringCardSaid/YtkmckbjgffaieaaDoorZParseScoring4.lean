/-
  Texts put together: V2, N1, K2, K3, N2, M0, U1, U2, V3, FI3, G1, HM1, PW1, G2, PW2, FS1, PS1, AT3, NL1, PS2, EParseScoring, TB3. What each proves stands at its own head, with its conditions.
-/
import Derived.Test.YtkmckbjgffaieaaDoorZParseScoring3
import Derived.Test.YtkmckbjgffaieaaDoorRows
import Derived.LaidMore
import Derived.Lib.LaidU8

/-
  Contracts: the blocks of a partition. Of the program.
-/
namespace Go.Sh
set_option linter.unusedSimpArgs false
set_option linter.unusedVariables false
open Go Go.Proofs

def blkF (L : List Int) : Nat × List (Nat × List SV) × Nat × Nat → St
  | (0, _, _, nb) => ⟨ofL [(3, .val (.slice none 0 0)), (6, ri L), (7, .val (.int .i64 L.length)), (8, .val (.int .i64 0))], hp [] nb⟩
  | (k + 1, nr, ob, nb) => ⟨ofL [(3, .own ob 0 nr.length nr.length 1 false), (6, ri L), (7, .val (.int .i64 L.length)), (8, .val (.int .i64 ((k + 1 : Nat) : Int)))], hx [.blk ob ⟨outerN false nr, false⟩, .rows false nr] nb⟩

set_option maxHeartbeats 4000000 in
theorem Tryd.blocks_f (L : List Int) (hp1 : isPart L = true) : FCall Tryd.prog 52 [ri L] (MatRes (mi (blkTo L L.length))) := by
  obtain ⟨l1, l2⟩ := isPart_len hp1
  refine FCall.of_body Tryd.func52 rfl (by kernel_rfl) (by simp [Tryd.ntmps52]) ?_
  refine SW_of_vc Tryd.mixed _ _ _ (by kernel_rfl) ?_
  simp (disch := omega) only [Tryd.ntmps52, Tryd.results52, go_sem]
  refine LoopW.loop (blkF L) (fun p => p.1 ≤ L.length ∧ (0 < p.1 → NrOk p.2.2.1 p.2.2.2 p.2.1 ∧ p.2.1.map (·.2) = mi (blkTo L p.1))) (fun p => L.length - p.1) (0, [], 0, 0) ⟨by simp, by simp⟩ (Wk.of (by simp only [go_sem, ↓List.forall_mem_cons, List.not_mem_nil, false_implies, implies_true, and_true, true_and, and_self, ri_eq, Int.natCast_add, Int.cast_ofNat_Int]; try simp) rfl) ?_
  rintro ⟨k, nr, ob, nb⟩ ⟨hk, hinv⟩
  simp only at hk hinv
  refine SW_of_vc Tryd.mixed _ _ _ (by kernel_rfl) ?_
  cases k with
  | zero =>
    have hlt : 0 < L.length := by omega
    obtain ⟨x, hx, hxl⟩ := blk_at hp1 hlt
    have hx0 : x = 0 := by simp [blkTo] at hxl; exact hxl
    subst hx0
    have hn := blkTo_new (L := L) (k := 0) (by rw [hx]; rfl)
    have hb1 : blkTo L 1 = [[0]] := by rw [hn]; rfl
    have g1 := ints_get hlt
    rw [hx] at g1
    rw [blkF]
    simp (disch := omega) only [Tryd.ntmps52, Tryd.results52, go_sem, g1, Int.natCast_zero]
    refine ⟨(1, [(nb + 1 + 1 + 1, ints [0])], nb + 1, nb + 1 + 1 + 1 + 1), ⟨l1, fun _ => ⟨⟨by show nb + 1 < nb + 1 + 1 + 1 + 1; omega, by intro p hp; simp at hp; subst hp; simp only []; omega, by simp⟩, ?_⟩⟩, by show L.length - 1 < L.length; omega, ?_⟩
    · show [ints [0]] = mi (blkTo L 1)
      rw [hb1]; rfl
    · rw [blkF]
      refine Wk.ofX (by simp only [go_sem, ↓List.forall_mem_cons, List.not_mem_nil, false_implies, implies_true, and_true, true_and, and_self, ri_eq, Int.natCast_add, Int.cast_ofNat_Int, List.length_singleton]; try simp) ?_ (Nat.le_refl _)
      simp only [List.forall_mem_cons]
      refine ⟨?_, ?_, by simp⟩
      · simp (disch := omega) only [EntIn, hp_map, hmap_cons, if_pos, if_neg, ↓reduceIte]; rfl
      · intro p hp
        simp at hp
        subst hp
        simp (disch := omega) only [hp_map, hmap_cons, if_pos, if_neg, ↓reduceIte]; rfl
  | succ k =>
    obtain ⟨ho, hrows⟩ := hinv (by omega)
    have hob := ho.1
    have hnl := nr_len hrows
    have hol := outerN_length false nr
    have hot : (outerN false nr).take nr.length = outerN false nr := List.take_of_length_le (by omega)
    have hble := blkTo_le L (k + 1)
    rw [blkF]
    by_cases hlt : k + 1 < L.length
    · obtain ⟨x, hx, hxl⟩ := blk_at hp1 hlt
      have g1 := ints_get hlt
      rw [hx] at g1
      by_cases hnew : x = (blkTo L (k + 1)).length
      · have hxe : x = nr.length := by omega
        subst hxe
        have hn := blkTo_new (L := L) (k := k + 1) (by rw [hx, hnew])
        have hg2 : (outerN false nr ++ [SV.val (.slice none 0 0)])[nr.length]? = some (.val (.slice none 0 0)) := by rw [List.getElem?_append_right (by omega), hol]; simp
        have hs2 : ∀ nm, (outerN false nr ++ [SV.val (.slice none 0 0)]).set nr.length (.own nm 0 1 1 1 false) = outerN false (nr ++ [(nm, ints [((k + 1 : Nat) : Int)])]) := fun nm => by
          rw [outerN_snoc, List.set_append_right _ _ (by omega), hol, Nat.sub_self]; rfl
        simp (disch := omega) only [Tryd.ntmps52, Tryd.results52, go_sem, g1, hol, hot, hg2, hs2, List.length_append, List.length_singleton]
        refine ⟨(k + 1 + 1, nr ++ [(nb + 1 + 1 + 1, ints [((k + 1 : Nat) : Int)])], nb + 1, nb + 1 + 1 + 1 + 1), ⟨hlt, fun _ => ⟨ho.snoc (by omega) (by show nb ≤ nb + 1; omega) (by show nb + 1 + 1 + 1 ≠ nb + 1; omega) (by show nb + 1 + 1 + 1 < nb + 1 + 1 + 1 + 1; omega) (by show nb + 1 < nb + 1 + 1 + 1 + 1; omega), ?_⟩⟩, by show L.length - (k + 1 + 1) < L.length - (k + 1); omega, ?_⟩
        · show (nr ++ _).map (·.2) = mi (blkTo L (k + 1 + 1))
          rw [hn, List.map_append, hrows, mi_snoc]; rfl
        · rw [blkF]
          refine Wk.ofX (by simp only [go_sem, ↓List.forall_mem_cons, List.not_mem_nil, false_implies, implies_true, and_true, true_and, and_self, ri_eq, Int.natCast_add, Int.cast_ofNat_Int, List.length_append, List.length_singleton]; try simp) ?_ (Nat.le_refl _)
          simp only [List.forall_mem_cons]
          refine ⟨?_, ?_, by simp⟩
          · simp (disch := omega) only [EntIn, hx_map, xmap_blk, if_pos, if_neg, ↓reduceIte]
          · refine EntIn.snoc ?_ ?_
            · have hne : ∀ p ∈ nr, p.1 < nb ∧ p.1 ≠ ob := ho.2.1
              refine EntIn.skipR (EntIn.skipR (EntIn.skipR (EntIn.skipR (EntIn.skipC (EntIn.selfR ho.2.2) ?_) ?_) ?_) ?_) ?_
              all_goals
                intro p hp
                have := hne p hp
                omega
            · simp (disch := omega) only [hx_map, xmap_blk, if_pos, if_neg, ↓reduceIte]; rfl
      · have hxn : x < nr.length := by omega
        obtain ⟨hr1, hr2⟩ := nr_row hrows hxn
        have hold := blkTo_old hx hr2
        have hgo := outerN_get (fl := false) hxn
        have hgr := xmap_rowsAt (fl := false) (l := []) ho.2.2 hxn
        have hlt' := ho.2.1 _ (nrAt_mem hxn)
        have hrle := blkTo_row L (k + 1) x
        have hset := fun nm => outerN_set (fl := false) (nr := nr) (x := x) (nm := nm) (r := ints (mrow (blkTo L (k + 1)) x ++ [((k + 1 : Nat) : Int)])) rfl
        rw [hr1] at hgo hgr
        rw [ints_length, List.length_append, List.length_singleton] at hset
        rw [ints_length] at hgo
        generalize hnm : (nrAt nr x).1 = nm at *
        simp (disch := omega) only [Tryd.ntmps52, Tryd.results52, go_sem, g1, hol, hot, hgo, hgr, hset]
        refine ⟨(k + 1 + 1, nr.set x (nb + 1, ints (mrow (blkTo L (k + 1)) x ++ [((k + 1 : Nat) : Int)])), ob, nb + 1 + 1), ⟨hlt, fun _ => ⟨ho.set (by omega) (by show nb + 1 < nb + 1 + 1; omega), ?_⟩⟩, by show L.length - (k + 1 + 1) < L.length - (k + 1); omega, ?_⟩
        · show (nr.set x _).map (·.2) = mi (blkTo L (k + 1 + 1))
          rw [hold, List.map_set, hrows, mi_set]
        · rw [blkF]
          refine Wk.ofX (by simp only [go_sem, ↓List.forall_mem_cons, List.not_mem_nil, false_implies, implies_true, and_true, true_and, and_self, ri_eq, Int.natCast_add, Int.cast_ofNat_Int, List.length_set]; try simp) ?_ (Nat.le_refl _)
          simp only [List.forall_mem_cons]
          refine ⟨?_, ?_, by simp⟩
          · simp (disch := omega) only [EntIn, hx_map, xmap_blk, if_pos, if_neg, ↓reduceIte]
          · refine EntIn.setN (fun j hj hne => ?_) (by rw [hx_map, xmap_blk, if_pos rfl])
            have h1 := ho.2.1 _ (nrAt_mem hj)
            have h2 := nr_ne ho.2.2 hj hxn hne
            rw [hnm] at h2
            rw [hx_map, xmap_blk, if_neg (by omega), xmap_blk, if_neg (by omega), xmap_blk, if_neg (by omega), xmap_cut, if_neg (by omega)]
            exact xmap_rowsAt ho.2.2 hj
    · have hkl : k + 1 = L.length := by omega
      rw [hkl] at hrows
      have := fin_rows (H := hx [Ent.blk ob { cells := outerN false nr, ex := false }, Ent.rows false nr] nb) (R := mi (blkTo L L.length)) ho
        (fun p hp => mi_vals (blkTo L L.length) _ (by rw [← hrows]; exact List.mem_map_of_mem hp)) (by rw [hx_map, xmap_blk, if_pos rfl])
        (EntIn.skipR (EntIn.selfR ho.2.2) (fun p hp => (ho.2.1 p hp).2)) hrows.symm
      simp (disch := omega) only [Tryd.ntmps52, Tryd.results52, go_sem]
      exact this

def sblk (L : List Int) : List (List Int) := blocksOf L
end Go.Sh

/-
  Plain: components of a graph over 0 .. n-1, numbered by their first item; that the labels are determined; what a search leaves behind.
-/
namespace Go.Sh
set_option linter.unusedSimpArgs false
set_option linter.unusedVariables false
open Go Go.Proofs

inductive Rch (n : Nat) (B : Nat → Nat → Bool) : Nat → Nat → Prop
  | refl {x : Nat} : Rch n B x x
  | tail {x y z : Nat} : Rch n B x y → y < n → z < n → B y z = true → Rch n B x z
theorem Rch.trans {n : Nat} {B : Nat → Nat → Bool} {x y z : Nat} (h : Rch n B x y) (g : Rch n B y z) : Rch n B x z := by
  induction g with
  | refl => exact h
  | tail _ h1 h2 h3 ih => exact .tail ih h1 h2 h3
theorem Rch.one {n : Nat} {B : Nat → Nat → Bool} {x y : Nat} (h1 : x < n) (h2 : y < n) (h : B x y = true) : Rch n B x y := .tail .refl h1 h2 h
theorem Rch.symm {n : Nat} {B : Nat → Nat → Bool} (hs : ∀ x y, x < n → y < n → B x y = true → B y x = true) {x y : Nat} (h : Rch n B x y) : Rch n B y x := by
  induction h with
  | refl => exact .refl
  | tail _ h1 h2 h3 ih => exact (Rch.one h2 h1 (hs _ _ h1 h2 h3)).trans ih
theorem Rch.mono {n : Nat} {B B' : Nat → Nat → Bool} (hb : ∀ x y, x < n → y < n → B x y = true → Rch n B' x y) {x y : Nat} (h : Rch n B x y) : Rch n B' x y := by
  induction h with
  | refl => exact .refl
  | tail _ h1 h2 h3 ih => exact ih.trans (hb _ _ h1 h2 h3)
theorem Rch.lt {n : Nat} {B : Nat → Nat → Bool} {x y : Nat} (h : Rch n B x y) (hx : x < n) : y < n := by
  cases h with
  | refl => exact hx
  | tail _ _ h2 _ => exact h2
def RchK (n : Nat) (B : Nat → Nat → Bool) : Nat → Nat → Nat → Prop
  | 0, x, y => x = y
  | k + 1, x, z => RchK n B k x z ∨ ∃ y, y < n ∧ z < n ∧ RchK n B k x y ∧ B y z = true
theorem RchK.rch {n : Nat} {B : Nat → Nat → Bool} : ∀ {k x y : Nat}, RchK n B k x y → Rch n B x y
  | 0, x, y, h => by rw [RchK] at h; subst h; exact .refl
  | k + 1, x, z, h => by
    rw [RchK] at h
    rcases h with h | ⟨y, h1, h2, h3, h4⟩
    · exact RchK.rch h
    · exact .tail (RchK.rch h3) h1 h2 h4
theorem RchK.self {n : Nat} {B : Nat → Nat → Bool} : ∀ {k x : Nat}, RchK n B k x x
  | 0, x => rfl
  | k + 1, x => .inl RchK.self
theorem countP_lt {α : Type} {p q : α → Bool} : ∀ {l : List α} {i : α}, (∀ x ∈ l, p x = true → q x = true) → i ∈ l → q i = true → p i = false → l.countP p < l.countP q
  | [], i, _, h, _, _ => by simp at h
  | a :: l, i, hpq, h, hq, hp => by
    have hle : l.countP p ≤ l.countP q := List.countP_mono_left (fun x hx h => hpq x (by simp [hx]) h)
    rcases List.mem_cons.1 h with rfl | h
    · rw [List.countP_cons_of_neg (by simp [hp]), List.countP_cons_of_pos hq]; omega
    · have := countP_lt (fun x hx => hpq x (by simp [hx])) h hq hp
      rw [List.countP_cons, List.countP_cons]
      have := hpq a (by simp)
      cases hpa : p a with
      | false => simp; omega
      | true => simp [this hpa]; omega
open Classical in
theorem rch_closed {n : Nat} {B : Nat → Nat → Bool} {i : Nat} (hi : i < n) : ∀ k, (∀ x y, x < n → y < n → RchK n B k i x → B x y = true → RchK n B k i y) ∨ k + 1 ≤ (List.range n).countP (fun x => decide (RchK n B k i x))
  | 0 => by
    right
    have : 0 < (List.range n).countP (fun x => decide (RchK n B 0 i x)) := List.countP_pos_iff.2 ⟨i, by simpa using hi, by simp [RchK]⟩
    omega
  | k + 1 => by
    by_cases hc : ∀ x y, x < n → y < n → RchK n B k i x → B x y = true → RchK n B k i y
    · left
      intro x y hx hy h hb
      refine .inl (hc x y hx hy ?_ hb)
      rcases h with h | ⟨z, h1, h2, h3, h4⟩
      · exact h
      · exact hc z x h1 h2 h3 h4
    · right
      have ih := (rch_closed hi k).resolve_left hc
      have : ∃ x y, x < n ∧ y < n ∧ RchK n B k i x ∧ B x y = true ∧ ¬ RchK n B k i y := by
        refine Classical.byContradiction fun hn => hc fun x y hx hy h hb => Classical.byContradiction fun h2 => hn ⟨x, y, hx, hy, h, hb, h2⟩
      obtain ⟨x, y, hx, hy, h, hb, h2⟩ := this
      have := countP_lt (p := fun x => decide (RchK n B k i x)) (q := fun x => decide (RchK n B (k + 1) i x)) (l := List.range n) (i := y)
        (fun z _ hz => decide_eq_true (.inl (of_decide_eq_true hz))) (by simpa using hy) (decide_eq_true (.inr ⟨x, hx, hy, h, hb⟩)) (decide_eq_false h2)
      omega
theorem rch_bound {n : Nat} {B : Nat → Nat → Bool} {i x : Nat} (hi : i < n) (h : Rch n B i x) : RchK n B n i x := by
  have hc := (rch_closed (B := B) hi n).resolve_right (fun h => by
    have := List.countP_le_length (l := List.range n) (p := fun x => @decide (RchK n B n i x) (Classical.propDecidable _))
    simp only [List.length_range] at this
    omega)
  induction h with
  | refl => exact RchK.self
  | tail _ h1 h2 h3 ih => exact hc _ _ h1 h2 ih h3

/-- The labels of the components. -/
structure CompL (n : Nat) (B : Nat → Nat → Bool) (L : List Int) : Prop where
  len : L.length = n
  nn : ∀ x, x < n → 0 ≤ L.getD x 0
  can : ∀ x v, x < n → 0 ≤ v → v < L.getD x 0 → ∃ y, y < x ∧ L.getD y 0 = v
  iff : ∀ x y, x < n → y < n → (L.getD x 0 = L.getD y 0 ↔ Rch n B x y)
theorem list_ext {L L' : List Int} (h : L.length = L'.length) (g : ∀ x, x < L.length → L.getD x 0 = L'.getD x 0) : L = L' := by
  refine List.ext_getElem h fun i h1 h2 => ?_
  have := g i h1
  simpa [h1, h2] using this
theorem CompL.uniq {n : Nat} {B B' : Nat → Nat → Bool} {L L' : List Int} (h : CompL n B L) (h' : CompL n B' L') (hb : ∀ x y, x < n → y < n → (Rch n B x y ↔ Rch n B' x y)) : L = L' := by
  refine list_ext (h.len.trans h'.len.symm) (fun x hx => ?_)
  rw [h.len] at hx
  induction x using Nat.strongRecOn with
  | _ x ih =>
    rcases Int.lt_trichotomy (L.getD x 0) (L'.getD x 0) with hl | he | hl
    · obtain ⟨y, hy, e⟩ := h'.can x _ hx (h.nn x hx) hl
      have e2 := ih y hy (by omega)
      have := (h.iff y x (by omega) hx).1 (by omega)
      have := (h'.iff y x (by omega) hx).2 ((hb _ _ (by omega) hx).1 this)
      omega
    · exact he
    · obtain ⟨y, hy, e⟩ := h.can x _ hx (h'.nn x hx) hl
      have e2 := ih y hy (by omega)
      have := (h'.iff y x (by omega) hx).1 (by omega)
      have := (h.iff y x (by omega) hx).2 ((hb _ _ (by omega) hx).2 this)
      omega
open Classical in
noncomputable def comp (n : Nat) (B : Nat → Nat → Bool) : List Int := if h : ∃ L, CompL n B L then Classical.choose h else []
theorem CompL.eq {n : Nat} {B : Nat → Nat → Bool} {L : List Int} (h : CompL n B L) : L = comp n B := by
  have hex : ∃ L, CompL n B L := ⟨L, h⟩
  rw [comp, dif_pos hex]
  exact h.uniq (Classical.choose_spec hex) (fun _ _ _ _ => Iff.rfl)
theorem CompL.comp {n : Nat} {B : Nat → Nat → Bool} {L : List Int} (h : CompL n B L) : CompL n B (comp n B) := by rw [← h.eq]; exact h

/-- Items before i are labelled, with whole components. -/
structure PartL (n : Nat) (B : Nat → Nat → Bool) (i : Nat) (c : Int) (O : List Int) : Prop where
  len : O.length = n
  c0 : 0 ≤ c
  ci : c ≤ i
  done : ∀ x, x < i → x < n → 0 ≤ O.getD x 0
  rng : ∀ x, x < n → O.getD x 0 < c
  vals : ∀ v, 0 ≤ v → v < c → ∃ y, y < i ∧ y < n ∧ O.getD y 0 = v
  can : ∀ x v, x < n → 0 ≤ v → v < O.getD x 0 → ∃ y, y < x ∧ O.getD y 0 = v
  clo : ∀ x y, x < n → y < n → 0 ≤ O.getD x 0 → B x y = true → O.getD y 0 = O.getD x 0
  snd : ∀ x y, x < n → y < n → 0 ≤ O.getD x 0 → O.getD x 0 = O.getD y 0 → Rch n B x y
theorem getD_rep {n x : Nat} {a : Int} (h : x < n) : (List.replicate n a).getD x 0 = a := by simp [h]
theorem PartL.zero (n : Nat) (B : Nat → Nat → Bool) : PartL n B 0 0 (List.replicate n (-1)) where
  len := by simp
  c0 := by omega
  ci := by omega
  done x h := by omega
  rng x h := by rw [getD_rep h]; omega
  vals v h1 h2 := by omega
  can x v h h1 h2 := by rw [getD_rep h] at h2; omega
  clo x y h1 _ h2 := by rw [getD_rep h1] at h2; omega
  snd x y h1 _ h2 := by rw [getD_rep h1] at h2; omega
theorem PartL.skip {n : Nat} {B : Nat → Nat → Bool} {i : Nat} {c : Int} {O : List Int} (h : PartL n B i c O) (hi : 0 ≤ O.getD i 0) : PartL n B (i + 1) c O where
  len := h.len
  c0 := h.c0
  ci := by have := h.ci; omega
  done x hx hn := by
    rcases Nat.lt_succ_iff_lt_or_eq.1 hx with g | rfl
    · exact h.done x g hn
    · exact hi
  rng := h.rng
  vals v h1 h2 := by
    obtain ⟨y, g1, g2⟩ := h.vals v h1 h2
    exact ⟨y, by omega, g2⟩
  can := h.can
  clo := h.clo
  snd := h.snd
theorem PartL.path {n : Nat} {B : Nat → Nat → Bool} {i : Nat} {c : Int} {O : List Int} (h : PartL n B i c O) {x y : Nat} (hr : Rch n B x y) (h0 : 0 ≤ O.getD x 0) : O.getD y 0 = O.getD x 0 := by
  induction hr with
  | refl => rfl
  | tail _ h1 h2 h3 ih => rw [h.clo _ _ h1 h2 (by rw [ih]; exact h0) h3, ih]
/-- O' is O with the component of i labelled c. -/
structure NewL (n : Nat) (B : Nat → Nat → Bool) (c : Int) (i : Nat) (O O' : List Int) : Prop where
  len : O'.length = n
  new : ∀ x, x < n → Rch n B i x → O'.getD x 0 = c
  old : ∀ x, x < n → ¬ Rch n B i x → 0 ≤ O.getD x 0 → O'.getD x 0 = O.getD x 0
  neg : ∀ x, x < n → ¬ Rch n B i x → O.getD x 0 < 0 → O'.getD x 0 < 0
theorem PartL.unl {n : Nat} {B : Nat → Nat → Bool} (hs : ∀ x y, x < n → y < n → B x y = true → B y x = true) {i : Nat} {c : Int} {O : List Int} (h : PartL n B i c O) {k : Nat} (h0 : O.getD k 0 < 0) {x : Nat} (hr : Rch n B k x) : O.getD x 0 < 0 := by
  refine Int.not_le.1 fun hn => ?_
  have := h.path (hr.symm hs) hn
  omega
theorem PartL.step {n : Nat} {B : Nat → Nat → Bool} (hs : ∀ x y, x < n → y < n → B x y = true → B y x = true) {i : Nat} {c : Int} {O O' : List Int} (h : PartL n B i c O) (hi : i < n) (h0 : O.getD i 0 < 0) (g : NewL n B c i O O') : PartL n B (i + 1) (c + 1) O' := by
  have hun : ∀ x, Rch n B i x → O.getD x 0 < 0 := fun x hr => h.unl hs h0 hr
  have hkeep : ∀ x, x < n → 0 ≤ O.getD x 0 → O'.getD x 0 = O.getD x 0 := fun x hx hn => g.old x hx (fun hr => by have := hun x hr; omega) hn
  have hback : ∀ x, x < n → ¬ Rch n B i x → 0 ≤ O'.getD x 0 → O'.getD x 0 = O.getD x 0 ∧ 0 ≤ O.getD x 0 := by
    intro x hx hr hn
    by_cases h1 : 0 ≤ O.getD x 0
    · exact ⟨hkeep x hx h1, h1⟩
    · have := g.neg x hx hr (by omega); omega
  have hc0 := h.c0
  have hci := h.ci
  refine ⟨g.len, by omega, by omega, ?_, ?_, ?_, ?_, ?_, ?_⟩
  · intro x hx hn
    rcases Nat.lt_succ_iff_lt_or_eq.1 hx with k | rfl
    · have := h.done x k hn
      rw [hkeep x hn this]; exact this
    · rw [g.new x hn .refl]; omega
  · intro x hx
    by_cases hr : Rch n B i x
    · rw [g.new x hx hr]; omega
    · by_cases hn : 0 ≤ O'.getD x 0
      · have := hback x hx hr hn
        have := h.rng x hx
        omega
      · omega
  · intro v h1 h2
    by_cases hv : v = c
    · exact ⟨i, by omega, hi, by rw [g.new i hi .refl, hv]⟩
    · obtain ⟨y, k1, k2, k3⟩ := h.vals v h1 (by omega)
      exact ⟨y, by omega, k2, by rw [hkeep y k2 (by omega), k3]⟩
  · intro x v hx h1 h2
    by_cases hr : Rch n B i x
    · rw [g.new x hx hr] at h2
      obtain ⟨y, k1, k2, k3⟩ := h.vals v h1 h2
      have : ¬ x < i := fun hl => by have := h.done x hl hx; have := hun x hr; omega
      exact ⟨y, by omega, by rw [hkeep y k2 (by omega), k3]⟩
    · have hb := hback x hx hr (by omega)
      rw [hb.1] at h2
      obtain ⟨y, k1, k2⟩ := h.can x v hx h1 h2
      exact ⟨y, k1, by rw [hkeep y (by omega) (by omega), k2]⟩
  · intro x y hx hy h1 hb
    by_cases hr : Rch n B i x
    · rw [g.new x hx hr, g.new y hy (.tail hr hx hy hb)]
    · have hq := hback x hx hr h1
      have := h.clo x y hx hy hq.2 hb
      rw [hkeep y hy (by omega)]
      omega
  · intro x y hx hy h1 he
    by_cases hr : Rch n B i x
    · by_cases hr2 : Rch n B i y
      · exact (hr.symm hs).trans hr2
      · have := g.new x hx hr
        have := hback y hy hr2 (by omega)
        have := h.rng y hy
        omega
    · have hq := hback x hx hr h1
      by_cases hr2 : Rch n B i y
      · have := g.new y hy hr2
        have := h.rng x hx
        omega
      · have := hback y hy hr2 (by omega)
        exact h.snd x y hx hy hq.2 (by omega)
theorem PartL.final {n : Nat} {B : Nat → Nat → Bool} {i : Nat} {c : Int} {O : List Int} (h : PartL n B i c O) (hi : n ≤ i) : CompL n B O where
  len := h.len
  nn x hx := h.done x (by omega) hx
  can := h.can
  iff x y hx hy := ⟨fun e => h.snd x y hx hy (h.done x (by omega) hx) e, fun r => (h.path r (h.done x (by omega) hx)).symm⟩

/-! ### The search that calls itself -/
structure DfsL (n : Nat) (B : Nat → Nat → Bool) (c : Int) (i : Nat) (O O' : List Int) : Prop where
  len : O'.length = n
  self : O'.getD i 0 = c
  keep : ∀ x, x < n → 0 ≤ O.getD x 0 → O'.getD x 0 = O.getD x 0
  new : ∀ x, x < n → O.getD x 0 < 0 → O'.getD x 0 < 0 ∨ (O'.getD x 0 = c ∧ Rch n B i x)
  clo : ∀ x y, x < n → y < n → O.getD x 0 < 0 → 0 ≤ O'.getD x 0 → B x y = true → 0 ≤ O'.getD y 0
structure DfsK (n : Nat) (B : Nat → Nat → Bool) (c : Int) (i : Nat) (O : List Int) (k : Nat) (O' : List Int) : Prop where
  len : O'.length = n
  self : O'.getD i 0 = c
  keep : ∀ x, x < n → 0 ≤ O.getD x 0 → O'.getD x 0 = O.getD x 0
  new : ∀ x, x < n → O.getD x 0 < 0 → O'.getD x 0 < 0 ∨ (O'.getD x 0 = c ∧ Rch n B i x)
  clo : ∀ x y, x < n → y < n → x ≠ i → O.getD x 0 < 0 → 0 ≤ O'.getD x 0 → B x y = true → 0 ≤ O'.getD y 0
  cli : ∀ y, y < n → y < k → B i y = true → 0 ≤ O'.getD y 0
theorem getD_set {L : List Int} {i x : Nat} {a : Int} (hi : i < L.length) : (L.set i a).getD x 0 = if x = i then a else L.getD x 0 := by
  simp only [List.getD_eq_getElem?_getD, List.getElem?_set]
  by_cases h : i = x
  · subst h; simp [hi]
  · have : ¬ x = i := fun e => h e.symm
    simp [h, this]
theorem DfsK.start {n : Nat} {B : Nat → Nat → Bool} {c : Int} {i : Nat} {O : List Int} (hl : O.length = n) (hi : i < n) (h0 : O.getD i 0 < 0) : DfsK n B c i O 0 (O.set i c) where
  len := by simpa using hl
  self := by rw [getD_set (by omega), if_pos rfl]
  keep x hx h := by
    rw [getD_set (by omega), if_neg (fun e => by subst e; omega)]
  new x hx h := by
    rw [getD_set (by omega)]
    by_cases e : x = i
    · subst e; rw [if_pos rfl]; exact .inr ⟨rfl, .refl⟩
    · rw [if_neg e]; exact .inl h
  clo x y hx hy hne h h2 hb := by
    rw [getD_set (by omega), if_neg hne] at h2; omega
  cli y _ h := by omega
theorem DfsK.skip {n : Nat} {B : Nat → Nat → Bool} {c : Int} {i k : Nat} {O O' : List Int} (h : DfsK n B c i O k O') (hk : B i k = true → 0 ≤ O'.getD k 0) : DfsK n B c i O (k + 1) O' := by
  refine ⟨h.len, h.self, h.keep, h.new, h.clo, fun y hy hlt hb => ?_⟩
  rcases Nat.lt_succ_iff_lt_or_eq.1 hlt with g | rfl
  · exact h.cli y hy g hb
  · exact hk hb
theorem DfsK.step {n : Nat} {B : Nat → Nat → Bool} {c : Int} (hc : 0 ≤ c) {i k : Nat} {O O1 O2 : List Int} (hi : i < n) (hk : k < n) (h : DfsK n B c i O k O1) (hb : B i k = true) (hneg : O1.getD k 0 < 0) (g : DfsL n B c k O1 O2) : DfsK n B c i O (k + 1) O2 where
  len := g.len
  self := by rw [g.keep i hi (by rw [h.self]; exact hc), h.self]
  keep x hx h1 := by rw [g.keep x hx (by rw [h.keep x hx h1]; exact h1), h.keep x hx h1]
  new x hx h1 := by
    rcases h.new x hx h1 with g1 | ⟨g1, g2⟩
    · rcases g.new x hx g1 with g3 | ⟨g3, g4⟩
      · exact .inl g3
      · exact .inr ⟨g3, (Rch.one hi hk hb).trans g4⟩
    · exact .inr ⟨by rw [g.keep x hx (by omega), g1], g2⟩
  clo x y hx hy hne h1 h2 hb := by
    by_cases h3 : 0 ≤ O1.getD x 0
    · have := h.clo x y hx hy hne h1 h3 hb
      rw [g.keep y hy this]; exact this
    · exact g.clo x y hx hy (by omega) h2 hb
  cli y hy hlt hb := by
    rcases Nat.lt_succ_iff_lt_or_eq.1 hlt with k1 | rfl
    · have := h.cli y hy k1 hb
      rw [g.keep y hy this]; exact this
    · rw [g.self]; exact hc
theorem DfsK.final {n : Nat} {B : Nat → Nat → Bool} {c : Int} {i k : Nat} {O O' : List Int} (h : DfsK n B c i O k O') (hk : n ≤ k) : DfsL n B c i O O' where
  len := h.len
  self := h.self
  keep := h.keep
  new := h.new
  clo x y hx hy h1 h2 hb := by
    by_cases e : x = i
    · subst e; exact h.cli y hy (by omega) hb
    · exact h.clo x y hx hy e h1 h2 hb
def negs (n : Nat) (O : List Int) : Nat := (List.range n).countP fun x => decide (O.getD x 0 < 0)
theorem DfsK.negs {n : Nat} {B : Nat → Nat → Bool} {c : Int} (hc : 0 ≤ c) {i k : Nat} {O O' : List Int} (h : DfsK n B c i O k O') (hi : i < n) (h0 : O.getD i 0 < 0) : negs n O' < negs n O := by
  refine countP_lt (i := i) (fun x hx hd => ?_) (by simpa using hi) (decide_eq_true h0) (decide_eq_false (by rw [h.self]; omega))
  have hx : x < n := by simpa using hx
  have := of_decide_eq_true hd
  refine decide_eq_true (Int.not_le.1 fun hn => ?_)
  rw [h.keep x hx hn] at this
  omega
theorem negs_pos {n i : Nat} {O : List Int} (hi : i < n) (h : O.getD i 0 < 0) : 0 < negs n O := List.countP_pos_iff.2 ⟨i, by simpa using hi, decide_eq_true h⟩
theorem DfsL.newL {n : Nat} {B : Nat → Nat → Bool} (hs : ∀ x y, x < n → y < n → B x y = true → B y x = true) {i j : Nat} {c : Int} {O O' : List Int} (h : PartL n B j c O) (hi : i < n) (h0 : O.getD i 0 < 0) (g : DfsL n B c i O O') : NewL n B c i O O' where
  len := g.len
  new x hx hr := by
    have hun : ∀ x, Rch n B i x → O.getD x 0 < 0 := fun x hr => h.unl hs h0 hr
    induction hr with
    | refl => exact g.self
    | tail h1 h2 h3 h4 ih =>
      have e := ih h2
      have hc0 := h.c0
      have := g.clo _ _ h2 h3 (hun _ h1) (by omega) h4
      rcases g.new _ h3 (hun _ (.tail h1 h2 h3 h4)) with k | k
      · omega
      · exact k.1
  old x hx _ h1 := g.keep x hx h1
  neg x hx hr h1 := by
    rcases g.new x hx h1 with k | k
    · exact k
    · exact absurd k.2 hr

/-! ### The search by rounds -/
structure SpI (n : Nat) (B : Nat → Nat → Bool) (c : Int) (i : Nat) (O : List Int) (s a b : Nat) (O' : List Int) : Prop where
  len : O'.length = n
  all : ∀ x, x < n → O'.getD x 0 = O.getD x 0 ∨ (O'.getD x 0 = c ∧ Rch n B i x)
  rk : ∀ x, x < n → RchK n B s i x → O'.getD x 0 = c
  rows : ∀ z y, z < a → z < n → y < n → RchK n B s i z → B z y = true → O'.getD y 0 = c
  row : ∀ y, y < b → y < n → RchK n B s i a → B a y = true → O'.getD y 0 = c
theorem SpI.start {n : Nat} {B : Nat → Nat → Bool} {c : Int} {i : Nat} {O : List Int} (hl : O.length = n) (hi : i < n) : SpI n B c i O 0 0 0 (O.set i c) where
  len := by simpa using hl
  all x hx := by
    rw [getD_set (by omega)]
    by_cases e : x = i
    · subst e; rw [if_pos rfl]; exact .inr ⟨rfl, .refl⟩
    · rw [if_neg e]; exact .inl rfl
  rk x hx hr := by
    rw [RchK] at hr; subst hr
    rw [getD_set (by omega), if_pos rfl]
  rows z y h := by omega
  row y h := by omega
theorem SpI.skip {n : Nat} {B : Nat → Nat → Bool} {c : Int} {i s a b : Nat} {O O' : List Int} (h : SpI n B c i O s a b O') (ha : a < n) (hn : ¬ (O'.getD a 0 = c ∧ B a b = true)) : SpI n B c i O s a (b + 1) O' := by
  refine ⟨h.len, h.all, h.rk, h.rows, fun y hy hyn hr hb => ?_⟩
  rcases Nat.lt_succ_iff_lt_or_eq.1 hy with g | rfl
  · exact h.row y g hyn hr hb
  · exact absurd ⟨h.rk a ha hr, hb⟩ hn
theorem SpI.put {n : Nat} {B : Nat → Nat → Bool} {c : Int} {i s a b : Nat} {O O' : List Int} (hr : ∀ x, x < n → O.getD x 0 < c) (h : SpI n B c i O s a b O') (ha : a < n) (hb : b < n) (h1 : O'.getD a 0 = c) (h2 : B a b = true) : SpI n B c i O s a (b + 1) (O'.set b c) := by
  have hl := h.len
  have g : ∀ x, (O'.set b c).getD x 0 = if x = b then c else O'.getD x 0 := fun x => getD_set (by omega)
  have ra : Rch n B i a := by
    rcases h.all a ha with e | e
    · have := hr a ha; omega
    · exact e.2
  have hk : ∀ x, O'.getD x 0 = c → (O'.set b c).getD x 0 = c := fun x e => by
    rw [g]; split
    · rfl
    · exact e
  refine ⟨by simpa using hl, fun x hx => ?_, fun x hx hr => hk x (h.rk x hx hr), fun z y h3 h4 h5 h6 h7 => hk y (h.rows z y h3 h4 h5 h6 h7), fun y hy hyn h3 h4 => ?_⟩
  · rw [g]
    by_cases e : x = b
    · subst e; rw [if_pos rfl]; exact .inr ⟨rfl, .tail ra ha hb h2⟩
    · rw [if_neg e]; exact h.all x hx
  · rcases Nat.lt_succ_iff_lt_or_eq.1 hy with k | rfl
    · exact hk y (h.row y k hyn h3 h4)
    · rw [g, if_pos rfl]
theorem SpI.next {n : Nat} {B : Nat → Nat → Bool} {c : Int} {i s a b : Nat} {O O' : List Int} (h : SpI n B c i O s a b O') (hb : n ≤ b) : SpI n B c i O s (a + 1) 0 O' := by
  refine ⟨h.len, h.all, h.rk, fun z y h1 h2 h3 h4 h5 => ?_, fun y hy => by omega⟩
  rcases Nat.lt_succ_iff_lt_or_eq.1 h1 with g | rfl
  · exact h.rows z y g h2 h3 h4 h5
  · exact h.row y (by omega) h3 h4 h5
theorem SpI.round {n : Nat} {B : Nat → Nat → Bool} {c : Int} {i s a b : Nat} {O O' : List Int} (h : SpI n B c i O s a b O') (ha : n ≤ a) : SpI n B c i O (s + 1) 0 0 O' := by
  refine ⟨h.len, h.all, fun x hx hr => ?_, fun z y h1 => by omega, fun y h1 => by omega⟩
  rcases hr with hr | ⟨y, h1, h2, h3, h4⟩
  · exact h.rk x hx hr
  · exact h.rows y x (by omega) h1 h2 h3 h4
theorem SpI.newL {n : Nat} {B : Nat → Nat → Bool} {c : Int} {i a b : Nat} {O O' : List Int} (hi : i < n) (h : SpI n B c i O n a b O') : NewL n B c i O O' where
  len := h.len
  new x hx hr := h.rk x hx (rch_bound hi hr)
  old x hx hr _ := by
    rcases h.all x hx with e | e
    · exact e
    · exact absurd e.2 hr
  neg x hx hr h0 := by
    rcases h.all x hx with e | e
    · omega
    · exact absurd e.2 hr
open Classical in
theorem PartL.ex {n : Nat} {B : Nat → Nat → Bool} (hs : ∀ x y, x < n → y < n → B x y = true → B y x = true) : ∀ i, i ≤ n → ∃ c O, PartL n B i c O
  | 0, _ => ⟨0, _, .zero n B⟩
  | i + 1, hi => by
    obtain ⟨c, O, h⟩ := PartL.ex hs i (by omega)
    by_cases h0 : 0 ≤ O.getD i 0
    · exact ⟨c, O, h.skip h0⟩
    · have e : ∀ x, x < n → ((List.range n).map fun x => if Rch n B i x then c else O.getD x 0).getD x 0 = if Rch n B i x then c else O.getD x 0 := by
        intro x hx
        simp [hx]
      refine ⟨c + 1, _, h.step hs (by omega) (by omega) (O' := (List.range n).map fun x => if Rch n B i x then c else O.getD x 0) ⟨by simp, fun x hx hr => ?_, fun x hx hr _ => ?_, fun x hx hr h1 => ?_⟩⟩
      · rw [e x hx, if_pos hr]
      · rw [e x hx, if_neg hr]
      · rw [e x hx, if_neg hr]; exact h1
theorem comp_ok {n : Nat} {B : Nat → Nat → Bool} (hs : ∀ x y, x < n → y < n → B x y = true → B y x = true) : CompL n B (comp n B) := by
  obtain ⟨c, O, h⟩ := PartL.ex hs n (Nat.le_refl _)
  exact (h.final (Nat.le_refl _)).comp
theorem comp_congr {n : Nat} {B B' : Nat → Nat → Bool} {L L' : List Int} (h : CompL n B L) (h' : CompL n B' L') (h1 : ∀ x y, x < n → y < n → B x y = true → Rch n B' x y) (h2 : ∀ x y, x < n → y < n → B' x y = true → Rch n B x y) : comp n B = comp n B' := by
  rw [← h.eq, ← h'.eq]
  exact h.uniq h' (fun x y _ _ => ⟨fun r => r.mono h1, fun r => r.mono h2⟩)
end Go.Sh

/-
  Contracts: is it a weight matrix? Of the reference and of the program.
-/
namespace Go.Sh
set_option linter.unusedSimpArgs false
set_option linter.unusedVariables false
open Go Go.Proofs

def WM (M : List (List Int)) : Prop := (1 ≤ M.length ∧ M.length ≤ 8) ∧ (∀ i, i < M.length → (mrow M i).length = M.length) ∧ (∀ i k, i < M.length → k < M.length → (-1000 ≤ mat M i k ∧ mat M i k ≤ 1000) ∧ mat M i k = mat M k i) ∧ ∀ i, i < M.length → mat M i i = 0
open Classical in
noncomputable def isWM (M : List (List Int)) : Bool := decide (WM M)
open Classical in
theorem isWM_f {M : List (List Int)} (h : ¬ WM M) : isWM M = false := decide_eq_false h
open Classical in
theorem isWM_t {M : List (List Int)} (h : WM M) : isWM M = true := decide_eq_true h

open Classical in
theorem WM_of {M : List (List Int)} (h : isWM M = true) : WM M := by
  unfold isWM at h
  exact of_decide_eq_true h
theorem inR_not {x a b : Int} (h : inR x a b = false) : ¬ (a ≤ x ∧ x ≤ b) := by
  rintro ⟨h1, h2⟩
  rw [inR_tt h1 h2] at h
  cases h
theorem ints_get' {L : List Int} {k n : Nat} (hl : L.length = n) (h : k < n) : (ints L)[k]? = some (.val (.int .i64 (L.getD k 0))) := ints_get (by omega)

set_option maxHeartbeats 4000000 in
theorem Tryd.specIsWM_ok (M : List (List Int)) (hM : M.length ≤ 1048576) (hR : ∀ i, i < M.length → (mrow M i).length ≤ 1048576) : PCall Tryd.prog 59 [rr M] (.val (.bool (isWM M))) := by
  refine FCall.pcall (R := fun r _ => r = .val (.bool (isWM M))) ?_ 0 (by rintro r H rfl; exact view_bool)
  refine FCall.of_body Tryd.func59 rfl (by kernel_rfl) (by simp [Tryd.ntmps59]) ?_
  refine SW_of_vc Tryd.mixed _ _ _ (by kernel_rfl) ?_
  simp (disch := omega) only [Tryd.ntmps59, Tryd.results59, go_sem, rr_eq]
  refine LoopW.loop (fun i : Nat => ⟨ofL [(0, rr M), (3, .val (.int .i64 i))], hp [] 0⟩) (fun i => i ≤ M.length ∧ ∀ x, x < i → (mrow M x).length = M.length) (fun i => M.length - i) 0 ⟨by omega, by intro x h; omega⟩ (Wk.of (by simp only [go_sem, ↓List.forall_mem_cons, List.not_mem_nil, false_implies, implies_true, and_true, true_and, and_self, ri_eq, Int.natCast_add, Int.cast_ofNat_Int, rr_eq]; try simp) rfl) ?_
  rintro i ⟨hi, hii⟩
  refine SW_of_vc Tryd.mixed _ _ _ (by kernel_rfl) ?_
  by_cases hlt : i < M.length
  · by_cases hr : (mrow M i).length = M.length
    · simp (disch := omega) only [Tryd.ntmps59, Tryd.results59, go_sem, rr_eq, rows_get, hr]
      refine ⟨i + 1, ⟨by omega, fun x hx => ?_⟩, by omega, Wk.of (by simp only [go_sem, ↓List.forall_mem_cons, List.not_mem_nil, false_implies, implies_true, and_true, true_and, and_self, ri_eq, Int.natCast_add, Int.cast_ofNat_Int, rr_eq]; try simp) rfl⟩
      rcases Nat.lt_succ_iff_lt_or_eq.mp hx with h | rfl
      · exact hii x h
      · exact hr
    · have hri := hR i hlt
      simp (disch := omega) only [Tryd.ntmps59, Tryd.results59, go_sem, rr_eq, rows_get]
      exact Fin.val (by rw [isWM_f (fun h => hr (h.2.1 i hlt))])
  · obtain rfl : i = M.length := by omega
    simp (disch := omega) only [Tryd.ntmps59, Tryd.results59, go_sem, rr_eq]
    refine LoopW.loop (fun i : Nat => ⟨ofL [(0, rr M), (4, .val (.int .i64 i))], hp [] 0⟩) (fun i => i ≤ M.length ∧ ∀ x k, x < i → k < M.length → (-1000 ≤ mat M x k ∧ mat M x k ≤ 1000) ∧ mat M x k = mat M k x ∧ (x = k → mat M x k = 0)) (fun i => M.length - i) 0 ⟨by omega, by intro x k h; omega⟩ (Wk.of (by simp only [go_sem, ↓List.forall_mem_cons, List.not_mem_nil, false_implies, implies_true, and_true, true_and, and_self, ri_eq, Int.natCast_add, Int.cast_ofNat_Int, rr_eq]; try simp) rfl) ?_
    rintro i ⟨hi1, hi2⟩
    refine SW_of_vc Tryd.mixed _ _ _ (by kernel_rfl) ?_
    by_cases hlt1 : i < M.length
    · simp (disch := omega) only [Tryd.ntmps59, Tryd.results59, go_sem, rr_eq]
      refine LoopW.loop (fun k : Nat => ⟨ofL [(0, rr M), (4, .val (.int .i64 i)), (5, .val (.int .i64 k))], hp [] 0⟩) (fun k => k ≤ M.length ∧ ∀ y, y < k → (-1000 ≤ mat M i y ∧ mat M i y ≤ 1000) ∧ mat M i y = mat M y i ∧ (i = y → mat M i y = 0)) (fun k => M.length - k) 0 ⟨by omega, by intro y h; omega⟩ (Wk.of (by simp only [go_sem, ↓List.forall_mem_cons, List.not_mem_nil, false_implies, implies_true, and_true, true_and, and_self, ri_eq, Int.natCast_add, Int.cast_ofNat_Int, rr_eq]; try simp) rfl) ?_
      rintro k ⟨hk1, hk2⟩
      refine SW_of_vc Tryd.mixed _ _ _ (by kernel_rfl) ?_
      by_cases hlt2 : k < M.length
      · have hri := hii i hlt1
        have hrk := hii k hlt2
        have g1 : (ints (mrow M i))[k]? = some (.val (.int .i64 (mat M i k))) := ints_get' hri hlt2
        have g2 : (ints (mrow M k))[i]? = some (.val (.int .i64 (mat M k i))) := ints_get' hrk hlt1
        obtain ⟨a, ha⟩ : ∃ a, mat M i k = a := ⟨_, rfl⟩
        obtain ⟨b, hb⟩ : ∃ b, mat M k i = b := ⟨_, rfl⟩
        rw [ha] at g1
        rw [hb] at g2
        have w := Tryd.l1In_ok a (-1000) 1000
        rcases Bool.eq_false_or_eq_true (inR a (-1000) 1000) with h1 | h1
        · obtain ⟨r1, r2⟩ := inR_of h1
          rw [h1] at w
          by_cases h2 : a = b
          · by_cases h3 : i = k
            · by_cases h4 : a = 0
              · simp (disch := omega) only [Tryd.ntmps59, Tryd.results59, go_sem, rr_eq, rows_get, hri, hrk, g1, g2]
                refine w.callDV 0 (viewL_cons_of (view_int) (viewL_cons_of (view_int) (viewL_cons_of (view_int) viewL_nil_of))) ?_
                simp (disch := omega) only [Tryd.ntmps59, Tryd.results59, go_sem, rr_eq, rows_get, hri, hrk, g1, g2]
                refine ⟨k + 1, ⟨by omega, fun y hy => ?_⟩, by omega, Wk.of (by simp only [go_sem, ↓List.forall_mem_cons, List.not_mem_nil, false_implies, implies_true, and_true, true_and, and_self, ri_eq, Int.natCast_add, Int.cast_ofNat_Int, rr_eq]; try simp) rfl⟩
                rcases Nat.lt_succ_iff_lt_or_eq.mp hy with h | rfl
                · exact hk2 y h
                · rw [ha, hb]; exact ⟨⟨r1, r2⟩, h2, fun _ => h4⟩
              · simp (disch := omega) only [Tryd.ntmps59, Tryd.results59, go_sem, rr_eq, rows_get, hri, hrk, g1, g2]
                refine w.callDV 0 (viewL_cons_of (view_int) (viewL_cons_of (view_int) (viewL_cons_of (view_int) viewL_nil_of))) ?_
                simp (disch := omega) only [Tryd.ntmps59, Tryd.results59, go_sem, rr_eq, rows_get, hri, hrk, g1, g2]
                exact Fin.val (by rw [isWM_f (fun h => h4 (by have := h.2.2.2 i hlt1; rw [← ha, ← h3]; exact this))])
            · simp (disch := omega) only [Tryd.ntmps59, Tryd.results59, go_sem, rr_eq, rows_get, hri, hrk, g1, g2]
              refine w.callDV 0 (viewL_cons_of (view_int) (viewL_cons_of (view_int) (viewL_cons_of (view_int) viewL_nil_of))) ?_
              simp (disch := omega) only [Tryd.ntmps59, Tryd.results59, go_sem, rr_eq, rows_get, hri, hrk, g1, g2]
              refine ⟨k + 1, ⟨by omega, fun y hy => ?_⟩, by omega, Wk.of (by simp only [go_sem, ↓List.forall_mem_cons, List.not_mem_nil, false_implies, implies_true, and_true, true_and, and_self, ri_eq, Int.natCast_add, Int.cast_ofNat_Int, rr_eq]; try simp) rfl⟩
              rcases Nat.lt_succ_iff_lt_or_eq.mp hy with h | rfl
              · exact hk2 y h
              · rw [ha, hb]; exact ⟨⟨r1, r2⟩, h2, fun e => absurd e h3⟩
          · simp (disch := omega) only [Tryd.ntmps59, Tryd.results59, go_sem, rr_eq, rows_get, hri, hrk, g1, g2]
            refine w.callDV 0 (viewL_cons_of (view_int) (viewL_cons_of (view_int) (viewL_cons_of (view_int) viewL_nil_of))) ?_
            simp (disch := omega) only [Tryd.ntmps59, Tryd.results59, go_sem, rr_eq, rows_get, hri, hrk, g1, g2]
            exact Fin.val (by rw [isWM_f (fun h => h2 (by have := (h.2.2.1 i k hlt1 hlt2).2; rw [ha, hb] at this; exact this))])
        · rw [h1] at w
          simp (disch := omega) only [Tryd.ntmps59, Tryd.results59, go_sem, rr_eq, rows_get, hri, hrk, g1, g2]
          refine w.callDV 0 (viewL_cons_of (view_int) (viewL_cons_of (view_int) (viewL_cons_of (view_int) viewL_nil_of))) ?_
          simp (disch := omega) only [Tryd.ntmps59, Tryd.results59, go_sem, rr_eq]
          exact Fin.val (by rw [isWM_f (fun h => inR_not h1 (by have := (h.2.2.1 i k hlt1 hlt2).1; rw [ha] at this; exact this))])
      · obtain rfl : k = M.length := by omega
        simp (disch := omega) only [Tryd.ntmps59, Tryd.results59, go_sem, rr_eq]
        refine ⟨i + 1, ⟨by omega, fun x y hx hy => ?_⟩, by omega, Wk.of (by simp only [go_sem, ↓List.forall_mem_cons, List.not_mem_nil, false_implies, implies_true, and_true, true_and, and_self, ri_eq, Int.natCast_add, Int.cast_ofNat_Int, rr_eq]; try simp) rfl⟩
        rcases Nat.lt_succ_iff_lt_or_eq.mp hx with h | rfl
        · exact hi2 x y h hy
        · exact hk2 y hy
    · obtain rfl : i = M.length := by omega
      have w := Tryd.l1In_ok (M.length : Int) 1 8
      rcases Bool.eq_false_or_eq_true (inR (M.length : Int) 1 8) with h1 | h1
      · obtain ⟨r1, r2⟩ := inR_of h1
        rw [h1] at w
        simp (disch := omega) only [Tryd.ntmps59, Tryd.results59, go_sem, rr_eq]
        refine w.callV 0 (viewL_cons_of (view_int) (viewL_cons_of (view_int) (viewL_cons_of (view_int) viewL_nil_of))) ?_
        simp (disch := omega) only [Tryd.ntmps59, Tryd.results59, go_sem, rr_eq]
        exact Fin.val (by rw [isWM_t ⟨⟨by omega, by omega⟩, hii, fun x y hx hy => ⟨(hi2 x y hx hy).1, (hi2 x y hx hy).2.1⟩, fun x hx => (hi2 x x hx hx).2.2 rfl⟩])
      · rw [h1] at w
        simp (disch := omega) only [Tryd.ntmps59, Tryd.results59, go_sem, rr_eq]
        refine w.callV 0 (viewL_cons_of (view_int) (viewL_cons_of (view_int) (viewL_cons_of (view_int) viewL_nil_of))) ?_
        simp (disch := omega) only [Tryd.ntmps59, Tryd.results59, go_sem, rr_eq]
        exact Fin.val (by rw [isWM_f (fun h => inR_not h1 (by have := h.1; omega))])

set_option maxHeartbeats 4000000 in
theorem Tryd.implIsWM_ok (M : List (List Int)) (hM : M.length ≤ 1048576) (hR : ∀ i, i < M.length → (mrow M i).length ≤ 1048576) : PCall Tryd.prog 60 [rr M] (.val (.bool (isWM M))) := by
  refine FCall.pcall (R := fun r _ => r = .val (.bool (isWM M))) ?_ 0 (by rintro r H rfl; exact view_bool)
  refine FCall.of_body Tryd.func60 rfl (by kernel_rfl) (by simp [Tryd.ntmps60]) ?_
  refine SW_of_vc Tryd.mixed _ _ _ (by kernel_rfl) ?_
  have w := Tryd.within_ok (M.length : Int) 1 8
  rcases Bool.eq_false_or_eq_true (inR (M.length : Int) 1 8) with hn | hn
  · obtain ⟨n1, n2⟩ := inR_of hn
    rw [hn] at w
    simp (disch := omega) only [Tryd.ntmps60, Tryd.results60, go_sem, rr_eq]
    refine w.callV 0 (viewL_cons_of (view_int) (viewL_cons_of (view_int) (viewL_cons_of (view_int) viewL_nil_of))) ?_
    simp (disch := omega) only [Tryd.ntmps60, Tryd.results60, go_sem, rr_eq]
    refine LoopW.loop (fun i : Nat => ⟨ofL [(0, rr M), (11, rr M), (12, .val (.int .i64 M.length)), (13, .val (.int .i64 i))], hp [] 0⟩) (fun i => i ≤ M.length ∧ ∀ x, x < i → (mrow M x).length = M.length ∧ mat M x x = 0 ∧ ∀ y, y < x → (-1000 ≤ mat M x y ∧ mat M x y ≤ 1000) ∧ mat M y x = mat M x y) (fun i => M.length - i) 0 ⟨by omega, by intro x h; omega⟩ (Wk.of (by simp only [go_sem, ↓List.forall_mem_cons, List.not_mem_nil, false_implies, implies_true, and_true, true_and, and_self, ri_eq, Int.natCast_add, Int.cast_ofNat_Int, rr_eq]; try simp) rfl) ?_
    rintro i ⟨hi, hii⟩
    refine SW_of_vc Tryd.mixed _ _ _ (by kernel_rfl) ?_
    by_cases hlt : i < M.length
    · have hrm := hR i hlt
      by_cases hr : (mrow M i).length = M.length
      · have g0 : (ints (mrow M i))[i]? = some (.val (.int .i64 (mat M i i))) := ints_get' hr hlt
        by_cases hd : mat M i i = 0
        · rw [hd] at g0
          simp (disch := omega) only [Tryd.ntmps60, Tryd.results60, go_sem, rr_eq, rows_get, hr, g0]
          have hlt' : ((mrow M i).take i).length = i := by simp; omega
          refine LoopW.loop (fun k : Nat => ⟨ofL [(0, rr M), (3, .val (.int .i64 i)), (11, rr M), (12, .val (.int .i64 M.length)), (13, .val (.int .i64 i)), (32, .row i false ((ints (mrow M i)).take i)), (33, .val (.int .i64 i)), (34, .val (.int .i64 k))], hp [] 0⟩)
            (fun k => k ≤ i ∧ ∀ y, y < k → (-1000 ≤ mat M i y ∧ mat M i y ≤ 1000) ∧ mat M y i = mat M i y) (fun k => i - k) 0 ⟨by omega, by intro y h; omega⟩ (Wk.of (by simp only [go_sem, ↓List.forall_mem_cons, List.not_mem_nil, false_implies, implies_true, and_true, true_and, and_self, ri_eq, Int.natCast_add, Int.cast_ofNat_Int, rr_eq]; try simp) rfl) ?_
          rintro k ⟨hk, hkk⟩
          refine SW_of_vc Tryd.mixed _ _ _ (by kernel_rfl) ?_
          by_cases hki : k < i
          · have hrk := (hii k hki).1
            have g1 : ((ints (mrow M i)).take i)[k]? = some (.val (.int .i64 (mat M i k))) := by
              rw [List.getElem?_take, if_pos hki]; exact ints_get' hr (by omega)
            have g2 : (ints (mrow M k))[i]? = some (.val (.int .i64 (mat M k i))) := ints_get' hrk hlt
            obtain ⟨a, ha⟩ : ∃ a, mat M i k = a := ⟨_, rfl⟩
            obtain ⟨b, hb⟩ : ∃ b, mat M k i = b := ⟨_, rfl⟩
            rw [ha] at g1
            rw [hb] at g2
            have w2 := Tryd.within_ok a (-1000) 1000
            rcases Bool.eq_false_or_eq_true (inR a (-1000) 1000) with h1 | h1
            · obtain ⟨r1, r2⟩ := inR_of h1
              rw [h1] at w2
              by_cases h2 : b = a
              · simp (disch := omega) only [Tryd.ntmps60, Tryd.results60, go_sem, rr_eq, rows_get, hrk, g1, g2]
                refine w2.callV 0 (viewL_cons_of (view_int) (viewL_cons_of (view_int) (viewL_cons_of (view_int) viewL_nil_of))) ?_
                simp (disch := omega) only [Tryd.ntmps60, Tryd.results60, go_sem, rr_eq, rows_get, hrk, g1, g2]
                refine ⟨k + 1, ⟨by omega, fun y hy => ?_⟩, by omega, Wk.of (by simp only [go_sem, ↓List.forall_mem_cons, List.not_mem_nil, false_implies, implies_true, and_true, true_and, and_self, ri_eq, Int.natCast_add, Int.cast_ofNat_Int, rr_eq]; try simp) rfl⟩
                rcases Nat.lt_succ_iff_lt_or_eq.mp hy with h | rfl
                · exact hkk y h
                · rw [ha, hb]; exact ⟨⟨r1, r2⟩, h2⟩
              · simp (disch := omega) only [Tryd.ntmps60, Tryd.results60, go_sem, rr_eq, rows_get, hrk, g1, g2]
                refine w2.callV 0 (viewL_cons_of (view_int) (viewL_cons_of (view_int) (viewL_cons_of (view_int) viewL_nil_of))) ?_
                simp (disch := omega) only [Tryd.ntmps60, Tryd.results60, go_sem, rr_eq, rows_get, hrk, g1, g2]
                exact Fin.val (by rw [isWM_f (fun h => h2 (by have := (h.2.2.1 k i (by omega) hlt).2; rw [ha, hb] at this; exact this))])
            · rw [h1] at w2
              simp (disch := omega) only [Tryd.ntmps60, Tryd.results60, go_sem, rr_eq, rows_get, hrk, g1, g2]
              refine w2.callV 0 (viewL_cons_of (view_int) (viewL_cons_of (view_int) (viewL_cons_of (view_int) viewL_nil_of))) ?_
              simp (disch := omega) only [Tryd.ntmps60, Tryd.results60, go_sem, rr_eq]
              exact Fin.val (by rw [isWM_f (fun h => inR_not h1 (by have := (h.2.2.1 i k hlt (by omega)).1; rw [ha] at this; exact this))])
          · obtain rfl : k = i := by omega
            simp (disch := omega) only [Tryd.ntmps60, Tryd.results60, go_sem, rr_eq]
            refine ⟨k + 1, ⟨by omega, fun x hx => ?_⟩, by omega, Wk.of (by simp only [go_sem, ↓List.forall_mem_cons, List.not_mem_nil, false_implies, implies_true, and_true, true_and, and_self, ri_eq, Int.natCast_add, Int.cast_ofNat_Int, rr_eq]; try simp) rfl⟩
            rcases Nat.lt_succ_iff_lt_or_eq.mp hx with h | rfl
            · exact hii x h
            · exact ⟨hr, hd, hkk⟩
        · obtain ⟨d, hd'⟩ : ∃ d, mat M i i = d := ⟨_, rfl⟩
          rw [hd'] at g0 hd
          simp (disch := omega) only [Tryd.ntmps60, Tryd.results60, go_sem, rr_eq, rows_get, hr, g0]
          exact Fin.val (by rw [isWM_f (fun h => hd (by rw [← hd']; exact h.2.2.2 i hlt))])
      · simp (disch := omega) only [Tryd.ntmps60, Tryd.results60, go_sem, rr_eq, rows_get]
        exact Fin.val (by rw [isWM_f (fun h => hr (h.2.1 i hlt))])
    · obtain rfl : i = M.length := by omega
      simp (disch := omega) only [Tryd.ntmps60, Tryd.results60, go_sem, rr_eq]
      refine Fin.val ?_
      rw [isWM_t ⟨⟨by omega, by omega⟩, fun x hx => (hii x hx).1, fun x y hx hy => ?_, fun x hx => (hii x hx).2.1⟩]
      rcases Nat.lt_trichotomy y x with h | h | h
      · obtain ⟨q1, q2⟩ := (hii x hx).2.2 y h
        exact ⟨q1, q2.symm⟩
      · subst h
        have := (hii y hy).2.1
        exact ⟨by omega, rfl⟩
      · obtain ⟨q1, q2⟩ := (hii y hy).2.2 x h
        exact ⟨by omega, q2⟩
  · rw [hn] at w
    simp (disch := omega) only [Tryd.ntmps60, Tryd.results60, go_sem, rr_eq]
    refine w.callV 0 (viewL_cons_of (view_int) (viewL_cons_of (view_int) (viewL_cons_of (view_int) viewL_nil_of))) ?_
    simp (disch := omega) only [Tryd.ntmps60, Tryd.results60, go_sem, rr_eq]
    exact Fin.val (by rw [isWM_f (fun h => inR_not hn (by have := h.1; omega))])
end Go.Sh

/-
  What comes in as a matrix: its measures.
-/
namespace Go.Sh
set_option linter.unusedSimpArgs false
set_option linter.unusedVariables false
open Go Go.Proofs

theorem mrow_le {M : List (List Int)} {i : Nat} (h : i < M.length) : ((mrow M i).length : Int) ≤ msum M M.length := by
  have h1 := msum_succ h
  have h2 := msum_nonneg M i
  have h3 := msum_mono (M := M) (k := i + 1) (j := M.length) (by omega) (Nat.le_refl _)
  omega
theorem mrow_max {M : List (List Int)} (hw : (∀ l ∈ M, (∀ n ∈ l, i64R n) ∧ l.length ≤ maxLen) ∧ M.length ≤ maxLen) : M.length ≤ 9223372036854775807 ∧ ∀ i, i < M.length → (mrow M i).length ≤ 9223372036854775807 := by
  refine ⟨hw.2, fun i hi => ?_⟩
  have := (hw.1 M[i] (List.getElem_mem hi)).2
  have e : mrow M i = M[i] := by simp [mrow, hi]
  rw [e]
  exact this
end Go.Sh

/-
  Contracts: a square of zeros; the components of a graph of positive weights. Of the program.
-/
namespace Go.Sh
set_option linter.unusedSimpArgs false
set_option linter.unusedVariables false
open Go Go.Proofs

def zs (n : Nat) : List (List Int) := List.replicate n (List.replicate n 0)
theorem zs_length (n : Nat) : (zs n).length = n := by simp [zs]
theorem zs_row {n i : Nat} (h : i < n) : mrow (zs n) i = List.replicate n 0 := by simp [zs, mrow, h]
theorem zs_at {n i k : Nat} : mat (zs n) i k = 0 := by
  simp only [zs, mat, mrow, List.getD_eq_getElem?_getD, List.getElem?_replicate]
  by_cases h : i < n
  · by_cases h2 : k < n <;> simp [h, h2]
  · simp [h]
def outerQ (n k : Nat) : List SV := (List.range n).map fun i => if i < k then .own (i + 1) 0 n n 1 true else .val (.slice none 0 0)
theorem outerQ_length (n k : Nat) : (outerQ n k).length = n := by simp [outerQ]
theorem outerQ_zero (n : Nat) : outerQ n 0 = List.replicate n (.val (.slice none 0 0)) := by
  apply List.ext_getElem <;> simp [outerQ]
theorem outerQ_get {n k i : Nat} (h : i < n) : (outerQ n k)[i]? = some (if i < k then .own (i + 1) 0 n n 1 true else .val (.slice none 0 0)) := by
  simp only [outerQ, List.getElem?_map]
  rw [List.getElem?_range h]; rfl
theorem outerQ_set {n k : Nat} (h : k < n) : (outerQ n k).set k (.own (k + 1) 0 n n 1 true) = outerQ n (k + 1) := by
  apply List.ext_getElem?
  intro i
  by_cases hi : i < n
  · rw [outerQ_get hi, List.getElem?_set, outerQ_length, outerQ_get hi]
    by_cases hk : k = i
    · subst hk; simp [h]
    · by_cases h1 : i < k
      · simp [hk, h1, show i < k + 1 by omega]
      · simp [hk, h1, show ¬ i < k + 1 by omega]
  · rw [List.getElem?_eq_none (by rw [List.length_set, outerQ_length]; omega), List.getElem?_eq_none (by rw [outerQ_length]; omega)]
def HQ (n k : Nat) : Heap := ⟨fun x => if x = 0 then some ⟨outerQ n k, true⟩ else if x ≤ k then some ⟨ints (List.replicate n 0), true⟩ else none, k + 1⟩
def HQp (n k : Nat) : Heap := (HQ n k).push ⟨ints (List.replicate n 0), true⟩
theorem HQ_nb (n k : Nat) : (HQ n k).nb = k + 1 := rfl
theorem HQ_map (n k : Nat) : (HQ n k).map 0 = some ⟨outerQ n k, true⟩ := rfl
theorem HQp_map (n k : Nat) : (HQp n k).map 0 = some ⟨outerQ n k, true⟩ := by
  simp only [HQp, Heap.push, HQ]
  rw [if_neg (by omega)]
  rfl
theorem HQp_set {n k : Nat} : (HQp n k).set 0 (some ⟨outerQ n (k + 1), true⟩) = HQ n (k + 1) := by
  refine Heap.ext' (fun x => ?_) rfl
  simp only [HQp, HQ, Heap.push, Heap.set]
  by_cases h0 : x = 0
  · simp [h0]
  · by_cases h1 : x = k + 1
    · simp [h1]
    · by_cases h2 : x ≤ k
      · simp [h0, h1, h2, show x ≤ k + 1 by omega]
      · simp [h0, h1, h2, show ¬ x ≤ k + 1 by omega]
theorem HQ_zero (n : Nat) : HQ n 0 = hp [(0, ⟨List.replicate n (.val (.slice none 0 0)), true⟩)] 1 := by
  refine Heap.ext' (fun x => ?_) rfl
  simp only [HQ, hp, hmap, outerQ_zero]
  by_cases h0 : x = 0
  · simp [h0]
  · simp [h0]
theorem outerQ_nr (n k : Nat) : noRowL (outerQ n k) = true := by
  unfold outerQ
  generalize List.range n = l
  induction l with
  | nil => rfl
  | cons a l ih =>
    simp only [List.map_cons, noRowL, ih, Bool.and_true]
    split <;> rfl
theorem HQ_nr (n k : Nat) : nrHeap (HQ n k) := by
  intro b blk hb
  simp only [HQ] at hb
  split at hb
  · simp at hb; subst hb; exact outerQ_nr n k
  · split at hb
    · simp at hb; subst hb; exact noRowL_ints _
    · simp at hb
theorem HQ_res (n : Nat) : MatRes (mi (zs n)) (.own 0 0 n n 1 true) (HQ n n) := by
  have hl : (mi (zs n)).length = n := by rw [mi_length, zs_length]
  refine ⟨0, 0, n, true, _, by rw [hl], HQ_map n n, by rw [hl, outerQ_length]; omega, mi_vals _, fun i => i + 1, fun _ => 0, fun i i' _ _ h => by simpa using h, fun i _ => by simp, fun i hi => ?_⟩
  rw [hl] at hi
  have hr : rowAt (mi (zs n)) i = ints (List.replicate n 0) := by rw [mi_row (by rwa [zs_length]), zs_row hi]
  refine ⟨n, true, ⟨ints (List.replicate n 0), true⟩, ?_, ?_, ?_, ?_⟩
  · rw [hr, Nat.zero_add, outerQ_get hi, if_pos hi, ints_length, List.length_replicate]
  · simp only [HQ]
    rw [if_neg (by omega), if_pos (by omega)]
  · rw [hr]; simp
  · rw [hr]; simp

set_option maxHeartbeats 1000000 in
theorem Tryd.square_f (n : Nat) (hn : n ≤ 1048576) : FCall Tryd.prog 71 [.val (.int .i64 n)] (MatRes (mi (zs n))) := by
  refine FCall.of_body Tryd.func71 rfl (by kernel_rfl) (by simp [Tryd.ntmps71]) ?_
  refine SW_of_vc Tryd.mixed _ _ _ (by kernel_rfl) ?_
  simp (disch := omega) only [Tryd.ntmps71, Tryd.results71, go_sem]
  refine LoopW.loop (fun k : Nat => ⟨ofL [(0, .val (.int .i64 n)), (3, .own 0 0 n n 1 true), (8, .val (.int .i64 n)), (9, .val (.int .i64 k))], HQ n k⟩) (fun k => k ≤ n) (fun k => n - k) 0 (by omega)
    (Wk.of (by simp only [go_sem, ↓List.forall_mem_cons, List.not_mem_nil, false_implies, implies_true, and_true, true_and, and_self, ri_eq, Int.natCast_add, Int.cast_ofNat_Int]; try simp) (by rw [HQ_zero])) ?_
  intro k hk
  have ho := outerQ_length n k
  refine SW_of_vc Tryd.mixed _ _ _ (by kernel_rfl) ?_
  by_cases hlt : k < n
  · have hos := outerQ_set hlt
    have e : (HQ n k).push ⟨ints (List.replicate n 0), true⟩ = HQp n k := rfl
    simp (disch := omega) only [Tryd.ntmps71, Tryd.results71, go_sem, HQ_nb, e, HQp_map, ho, hos, HQp_set]
    exact ⟨k + 1, by omega, by omega, Wk.of (by simp only [go_sem, ↓List.forall_mem_cons, List.not_mem_nil, false_implies, implies_true, and_true, true_and, and_self, ri_eq, Int.natCast_add, Int.cast_ofNat_Int]; try simp) rfl⟩
  · obtain rfl : k = n := by omega
    simp (disch := omega) only [Tryd.ntmps71, Tryd.results71, go_sem]
    exact ⟨HQ k k, ⟨rfl, fun _ => .inr rfl⟩, rfl, HQ_nr k _, HQ_res k⟩
theorem Tryd.square_one (n : Nat) (hn : n ≤ 1048576) : FCall Tryd.prog 71 [.val (.int .i64 n)] (MatOne (mi (zs n))) := (Tryd.square_f n hn).mat

/-! ### The search -/
def pB (M : List (List Int)) (x y : Nat) : Bool := decide (0 < mat M x y)
theorem WM.sym {M : List (List Int)} (h : WM M) : ∀ x y, x < M.length → y < M.length → pB M x y = true → pB M y x = true := by
  intro x y hx hy hb
  have := (h.2.2.1 x y hx hy).2
  rw [pB] at hb ⊢
  rw [← this]; exact hb
def vClos : SV := .clos (.func 96) [] [.optr 3 0, .optr 2 0, .optr 0 0, .optr 4 0]
def vHeap (M : List (List Int)) (O : List Int) (c : Int) : List (Nat × Blk) := [(4, ⟨[vClos], true⟩), (3, ⟨[.val (.int .i64 c)], true⟩), (2, ⟨[.own 1 0 M.length M.length 1 true], true⟩), (1, ⟨ints O, true⟩), (0, ⟨[rr M], true⟩)]

set_option maxHeartbeats 4000000 in
theorem Tryd.visit_ok {M : List (List Int)} (hw : WM M) {c : Int} (hc : 0 ≤ c) : ∀ (fu : Nat) (O : List Int) (i : Nat), O.length = M.length → i < M.length → O.getD i 0 < 0 → negs M.length O ≤ fu →
    CallS Tryd.prog 96 [.val (.int .i64 i), .optr 3 0, .optr 2 0, .optr 0 0, .optr 4 0] (hp (vHeap M O c) 5) (fun r H' => ∃ O', r = .tup [] ∧ H' = hp (vHeap M O' c) 5 ∧ DfsL M.length (pB M) c i O O')
  | 0, O, i, hl, hi, h0, hf => by have := negs_pos hi h0; omega
  | fu + 1, O, i, hl, hi, h0, hf => by
    have hln := hw.1
    have hri := hw.2.1 i hi
    refine CallS.of_body Tryd.func96 rfl (by kernel_rfl) (by simp [Tryd.ntmps96]) ?_
    refine SW_of_vc Tryd.mixed _ _ _ (by kernel_rfl) ?_
    rw [vHeap]
    simp (disch := omega) only [Tryd.ntmps96, Tryd.results96, go_sem, rr_eq, hl, rows_get, hri]
    refine LoopW.loop (fun p : Nat × List Int => ⟨ofL [(1, .optr 3 0), (2, .optr 2 0), (3, .optr 0 0), (4, .optr 4 0), (15, .row M.length false (ints (mrow M i))), (16, .val (.int .i64 M.length)), (17, .val (.int .i64 p.1))], hp (vHeap M p.2 c) 5⟩)
      (fun p => p.1 ≤ M.length ∧ DfsK M.length (pB M) c i O p.1 p.2) (fun p => M.length - p.1) (0, O.set i c) ⟨by simp, .start hl hi h0⟩ (Wk.of (by simp only [go_sem, ↓List.forall_mem_cons, List.not_mem_nil, false_implies, implies_true, and_true, true_and, and_self, ri_eq, Int.natCast_add, Int.cast_ofNat_Int, rr_eq, hri]; try simp) rfl) ?_
    rintro ⟨k, O1⟩ ⟨hk, hd⟩
    simp only at hk hd
    have hl1 := hd.len
    refine SW_of_vc Tryd.mixed _ _ _ (by kernel_rfl) ?_
    rw [vHeap]
    by_cases hlt : k < M.length
    · have g1 : (ints (mrow M i))[k]? = some (.val (.int .i64 (mat M i k))) := ints_get' hri hlt
      have g2 : (ints O1)[k]? = some (.val (.int .i64 (O1.getD k 0))) := ints_get' hl1 hlt
      obtain ⟨a, ha⟩ : ∃ a, mat M i k = a := ⟨_, rfl⟩
      obtain ⟨b, hb⟩ : ∃ b, O1.getD k 0 = b := ⟨_, rfl⟩
      have hpb : pB M i k = decide (0 < a) := by rw [pB, ha]
      rw [ha] at g1
      rw [hb] at g2
      by_cases h1 : 0 < a
      · by_cases h2 : b < 0
        · have w := Tryd.visit_ok hw hc fu O1 k hl1 hlt (by omega) (by have := hd.negs hc hi h0; omega)
          rw [vHeap, vClos] at w
          simp (disch := omega) only [Tryd.ntmps96, Tryd.results96, go_sem, vClos, g1, g2, hl1, ints_length]
          refine w.callX ?_
          rintro r H' ⟨O2, rfl, rfl, hd2⟩
          simp (disch := omega) only [Tryd.ntmps96, Tryd.results96, go_sem]
          exact ⟨(k + 1, O2), ⟨hlt, hd.step hc hi hlt (by rw [hpb]; exact decide_eq_true h1) (by omega) hd2⟩, by show M.length - (k + 1) < M.length - k; omega, Wk.of (by simp only [go_sem, ↓List.forall_mem_cons, List.not_mem_nil, false_implies, implies_true, and_true, true_and, and_self, ri_eq, Int.natCast_add, Int.cast_ofNat_Int]; try simp) rfl⟩
        · simp (disch := omega) only [Tryd.ntmps96, Tryd.results96, go_sem, vClos, g1, g2, hl1, ints_length]
          exact ⟨(k + 1, O1), ⟨hlt, hd.skip (fun _ => by omega)⟩, by show M.length - (k + 1) < M.length - k; omega, Wk.of (by simp only [go_sem, ↓List.forall_mem_cons, List.not_mem_nil, false_implies, implies_true, and_true, true_and, and_self, ri_eq, Int.natCast_add, Int.cast_ofNat_Int]; try simp) rfl⟩
      · simp (disch := omega) only [Tryd.ntmps96, Tryd.results96, go_sem, vClos, g1, g2, hl1, ints_length]
        exact ⟨(k + 1, O1), ⟨hlt, hd.skip (fun h => by rw [hpb] at h; exact absurd (of_decide_eq_true h) h1)⟩, by show M.length - (k + 1) < M.length - k; omega, Wk.of (by simp only [go_sem, ↓List.forall_mem_cons, List.not_mem_nil, false_implies, implies_true, and_true, true_and, and_self, ri_eq, Int.natCast_add, Int.cast_ofNat_Int]; try simp) rfl⟩
    · simp (disch := omega) only [Tryd.ntmps96, Tryd.results96, go_sem]
      exact ⟨O1, rfl, hd.final (by omega)⟩

def fillN (n k : Nat) : List Int := List.replicate k (-1) ++ List.replicate (n - k) 0
theorem fillN_zero (n : Nat) : fillN n 0 = List.replicate n 0 := by simp [fillN]
theorem fillN_length {n k : Nat} (h : k ≤ n) : (fillN n k).length = n := by simp [fillN]; omega
theorem fillN_set {n k : Nat} (h : k < n) : (fillN n k).set k (-1) = fillN n (k + 1) := by
  apply List.ext_getElem?
  intro i
  simp [fillN, List.getElem?_set, List.getElem?_append, List.getElem?_replicate]
  grind
theorem fillN_all (n : Nat) : fillN n n = List.replicate n (-1) := by simp [fillN]

theorem Fin.imp {R R' : SV → Heap → Prop} {r : SV} {H : Heap} (h : ∀ r H, R r H → R' r H) (f : Fin R r H) : Fin R' r H := by
  obtain ⟨H2, a, b, c, d⟩ := f
  exact ⟨H2, a, b, c, h _ _ d⟩
set_option maxHeartbeats 4000000 in
theorem Tryd.implPC_f (M : List (List Int)) (hM : M.length ≤ 1048576) (hR : ∀ i, i < M.length → (mrow M i).length ≤ 1048576) (hw : WM M) : FCall Tryd.prog 72 [rr M] (fun r H => CompL M.length (pB M) (comp M.length (pB M)) ∧ FlatRes M.length 1 (ints (comp M.length (pB M))) r H) := by
  have hln := hw.1
  have w1 := Tryd.implIsWM_ok M hM hR
  rw [isWM_t hw] at w1
  refine FCall.of_body Tryd.func72 rfl (by kernel_rfl) (by simp [Tryd.ntmps72]) ?_
  refine SW_of_vc Tryd.mixed _ _ _ (by kernel_rfl) ?_
  simp (disch := omega) only [Tryd.ntmps72, Tryd.results72, go_sem, rr_eq]
  refine w1.callV 0 (viewL_cons_of (view_row) viewL_nil_of) ?_
  simp (disch := omega) only [Tryd.ntmps72, Tryd.results72, go_sem, rr_eq]
  refine LoopW.loop (fun k : Nat => ⟨ofL [(1, .optr 0 0), (3, .optr 2 0), (15, .val (.int .i64 M.length)), (16, .val (.int .i64 k))], hp [(2, ⟨[.own 1 0 M.length M.length 1 true], true⟩), (1, ⟨ints (fillN M.length k), true⟩), (0, ⟨[rr M], true⟩)] 3⟩) (fun k => k ≤ M.length) (fun k => M.length - k) 0 (by omega)
    (Wk.of (by simp only [go_sem, ↓List.forall_mem_cons, List.not_mem_nil, false_implies, implies_true, and_true, true_and, and_self, ri_eq, Int.natCast_add, Int.cast_ofNat_Int]; try simp) (by rw [fillN_zero]; rfl)) ?_
  intro k hk
  have hfl := fillN_length hk
  refine SW_of_vc Tryd.mixed _ _ _ (by kernel_rfl) ?_
  by_cases hlt : k < M.length
  · have hfs := fillN_set hlt
    simp (disch := omega) only [Tryd.ntmps72, Tryd.results72, go_sem, rr_eq, hfl, hfs]
    exact ⟨k + 1, by omega, by omega, Wk.of (by simp only [go_sem, ↓List.forall_mem_cons, List.not_mem_nil, false_implies, implies_true, and_true, true_and, and_self, ri_eq, Int.natCast_add, Int.cast_ofNat_Int]; try simp) rfl⟩
  · obtain rfl : k = M.length := by omega
    simp (disch := omega) only [Tryd.ntmps72, Tryd.results72, go_sem, rr_eq, fillN_all]
    refine LoopW.loop (fun p : Nat × List Int × Int => ⟨ofL [(3, .optr 2 0), (5, .optr 3 0), (6, .optr 4 0), (25, .val (.int .i64 M.length)), (26, .val (.int .i64 p.1))], hp (vHeap M p.2.1 p.2.2) 5⟩)
      (fun p => p.1 ≤ M.length ∧ PartL M.length (pB M) p.1 p.2.2 p.2.1) (fun p => M.length - p.1) (0, List.replicate M.length (-1), 0) ⟨by simp, .zero _ _⟩ (Wk.of (by simp only [go_sem, ↓List.forall_mem_cons, List.not_mem_nil, false_implies, implies_true, and_true, true_and, and_self, ri_eq, Int.natCast_add, Int.cast_ofNat_Int]; try simp) rfl) ?_
    rintro ⟨i, O, c⟩ ⟨hi, hpl⟩
    simp only at hi hpl
    have hl := hpl.len
    have hc0 := hpl.c0
    have hci := hpl.ci
    refine SW_of_vc Tryd.mixed _ _ _ (by kernel_rfl) ?_
    rw [vHeap]
    by_cases hlt : i < M.length
    · have g2 : (ints O)[i]? = some (.val (.int .i64 (O.getD i 0))) := ints_get' hl hlt
      obtain ⟨b, hb⟩ : ∃ b, O.getD i 0 = b := ⟨_, rfl⟩
      rw [hb] at g2
      by_cases h2 : b < 0
      · have w := Tryd.visit_ok hw hc0 (negs M.length O) O i hl hlt (by omega) (Nat.le_refl _)
        rw [vHeap, vClos] at w
        simp (disch := omega) only [Tryd.ntmps72, Tryd.results72, go_sem, vClos, g2, hl]
        refine w.callX ?_
        rintro r H' ⟨O2, rfl, rfl, hd⟩
        rw [vHeap]
        simp (disch := omega) only [Tryd.ntmps72, Tryd.results72, go_sem, vClos]
        exact ⟨(i + 1, O2, c + 1), ⟨hlt, hpl.step hw.sym hlt (by omega) (hd.newL hw.sym hpl hlt (by omega))⟩, by show M.length - (i + 1) < M.length - i; omega, Wk.of (by simp only [go_sem, ↓List.forall_mem_cons, List.not_mem_nil, false_implies, implies_true, and_true, true_and, and_self, ri_eq, Int.natCast_add, Int.cast_ofNat_Int]; try simp) rfl⟩
      · simp (disch := omega) only [Tryd.ntmps72, Tryd.results72, go_sem, vClos, g2, hl]
        exact ⟨(i + 1, O, c), ⟨hlt, hpl.skip (by omega)⟩, by show M.length - (i + 1) < M.length - i; omega, Wk.of (by simp only [go_sem, ↓List.forall_mem_cons, List.not_mem_nil, false_implies, implies_true, and_true, true_and, and_self, ri_eq, Int.natCast_add, Int.cast_ofNat_Int]; try simp) rfl⟩
    · have hC := hpl.final (by omega)
      have hc2 := hC.comp
      rw [← hC.eq] at hc2 ⊢
      simp (disch := omega) only [Tryd.ntmps72, Tryd.results72, go_sem, vClos]
      exact Fin.imp (fun _ _ h => ⟨hc2, h⟩) (fin_ints hl.symm (by rw [hp_map]; simp only [hmap_cons]; rfl))
theorem Tryd.implPC_nil (M : List (List Int)) (hM : M.length ≤ 1048576) (hR : ∀ i, i < M.length → (mrow M i).length ≤ 1048576) (hw : ¬ WM M) : FCall Tryd.prog 72 [rr M] (fun r _ => r = .val (.slice none 0 0)) := by
  have w1 := Tryd.implIsWM_ok M hM hR
  rw [isWM_f hw] at w1
  refine FCall.of_body Tryd.func72 rfl (by kernel_rfl) (by simp [Tryd.ntmps72]) ?_
  refine SW_of_vc Tryd.mixed _ _ _ (by kernel_rfl) ?_
  simp (disch := omega) only [Tryd.ntmps72, Tryd.results72, go_sem, rr_eq]
  refine w1.callV 0 (viewL_cons_of (view_row) viewL_nil_of) ?_
  simp (disch := omega) only [Tryd.ntmps72, Tryd.results72, go_sem, rr_eq]
  exact Fin.val rfl
end Go.Sh

/-
  Squares of numbers, by their entries.
-/
namespace Go.Sh
set_option linter.unusedSimpArgs false
set_option linter.unusedVariables false
open Go Go.Proofs

/-- A square of numbers. -/
def SqI (n : Nat) (M : List (List Int)) : Prop := M.length = n ∧ ∀ i, i < n → (mrow M i).length = n
theorem SqI.zs (n : Nat) : SqI n (zs n) := ⟨zs_length n, fun i h => by rw [zs_row h]; simp⟩
theorem SqI.set {n : Nat} {M : List (List Int)} (h : SqI n M) (i c : Nat) (x : Int) : SqI n (mset M i c x) := ⟨by rw [mset_length, h.1], fun k hk => by rw [mset_row_length]; exact h.2 k hk⟩
theorem SqI.ext {n : Nat} {M M' : List (List Int)} (h : SqI n M) (h' : SqI n M') (e : ∀ x y, x < n → y < n → mat M x y = mat M' x y) : M = M' := by
  refine List.ext_getElem (h.1.trans h'.1.symm) fun i h1 h2 => ?_
  have hi : i < n := by rw [← h.1]; exact h1
  have e1 : M[i] = mrow M i := by simp [mrow, h1]
  have e2 : M'[i] = mrow M' i := by simp [mrow, h2]
  rw [e1, e2]
  exact list_ext ((h.2 i hi).trans (h'.2 i hi).symm) fun k hk => e i k hi (by rw [← h.2 i hi]; exact hk)
def genM (n : Nat) (f : Nat → Nat → Int) : List (List Int) := (List.range n).map fun x => (List.range n).map fun y => f x y
theorem genM_row {n : Nat} {f : Nat → Nat → Int} {x : Nat} (h : x < n) : mrow (genM n f) x = (List.range n).map fun y => f x y := by simp [mrow, genM, h]
theorem genM_sq (n : Nat) (f : Nat → Nat → Int) : SqI n (genM n f) := ⟨by simp [genM], fun i h => by rw [genM_row h]; simp⟩
theorem genM_at {n : Nat} {f : Nat → Nat → Int} {x y : Nat} (hx : x < n) (hy : y < n) : mat (genM n f) x y = f x y := by rw [mat, genM_row hx]; simp [hy]
def bint (b : Bool) : Int := if b = true then 1 else 0
end Go.Sh

/-
  Contracts: the rows and columns of some items. Of the program.
-/
namespace Go.Sh
set_option linter.unusedSimpArgs false
set_option linter.unusedVariables false
open Go Go.Proofs

/-- Strictly ascending numbers from 0 to n - 1, in the first k places. -/
def selTo (n : Int) (S : List Int) (k : Nat) : Prop := ∀ i, i < k → (0 ≤ S.getD i 0 ∧ S.getD i 0 ≤ n - 1) ∧ (0 < i → S.getD (i - 1) 0 < S.getD i 0)
def SelP (n : Int) (S : List Int) : Prop := selTo n S S.length
open Classical in
noncomputable def isSel (n : Int) (S : List Int) : Bool := decide (SelP n S)
open Classical in
theorem isSel_t {n : Int} {S : List Int} (h : SelP n S) : isSel n S = true := decide_eq_true h
open Classical in
theorem isSel_f {n : Int} {S : List Int} (h : ¬ SelP n S) : isSel n S = false := decide_eq_false h
theorem selTo_succ {n : Int} {S : List Int} {k : Nat} (h : selTo n S k) (h1 : 0 ≤ S.getD k 0 ∧ S.getD k 0 ≤ n - 1) (h2 : 0 < k → S.getD (k - 1) 0 < S.getD k 0) : selTo n S (k + 1) := by
  intro i hi
  rcases Nat.lt_succ_iff_lt_or_eq.1 hi with g | rfl
  · exact h i g
  · exact ⟨h1, h2⟩
theorem sel_not {n : Int} {S : List Int} {k : Nat} (hk : k < S.length) (h : ¬ ((0 ≤ S.getD k 0 ∧ S.getD k 0 ≤ n - 1) ∧ (0 < k → S.getD (k - 1) 0 < S.getD k 0))) : isSel n S = false := isSel_f fun g => h (g k hk)
theorem sel_len {n : Int} {S : List Int} (h : SelP n S) : ∀ i, i < S.length → (i : Int) ≤ S.getD i 0
  | 0, hi => by have := (h 0 hi).1.1; omega
  | i + 1, hi => by
    have := sel_len h i (by omega)
    have h2 := (h (i + 1) hi).2 (by omega)
    simp only [Nat.add_sub_cancel] at h2
    omega
theorem sel_length {n : Int} {S : List Int} (h : SelP n S) (hn : 0 ≤ n) : (S.length : Int) ≤ n := by
  by_cases h0 : S.length = 0
  · omega
  · have h1 := sel_len h (S.length - 1) (by omega)
    have h2 := (h (S.length - 1) (by omega)).1.2
    omega

def subM (M : List (List Int)) (S : List Int) : List (List Int) := genM S.length fun x y => mat M (S.getD x 0).toNat (S.getD y 0).toNat
theorem subM_length (M : List (List Int)) (S : List Int) : (subM M S).length = S.length := (genM_sq _ _).1
theorem subM_row {M : List (List Int)} {S : List Int} {i : Nat} (h : i < S.length) : (mrow (subM M S) i).length = S.length := (genM_sq _ _).2 i h

end Go.Sh

/-
  Contracts: the rows and columns of some items. Of the program and of the reference.
-/
namespace Go.Sh
set_option linter.unusedSimpArgs false
set_option linter.unusedVariables false
open Go Go.Proofs

open Classical in
noncomputable def sbm (M : List (List Int)) (S : List Int) : List (List Int) := if WM M ∧ SelP M.length S then subM M S else []
theorem sbm_t {M : List (List Int)} {S : List Int} (h : WM M ∧ SelP M.length S) : sbm M S = subM M S := by rw [sbm, if_pos h]
theorem sbm_f {M : List (List Int)} {S : List Int} (h : ¬ (WM M ∧ SelP M.length S)) : sbm M S = [] := by rw [sbm, if_neg h]

theorem fin_rows0 {b cap : Nat} {ex : Bool} {H : Heap} (h1 : H.map b = some ⟨[], false⟩) : Fin (MatRes (mi [])) (.own b 0 0 cap 1 ex) H := by
  have h : EntIn (hx [.mat b []] H.nb) (.mat b []) := .self
  refine fin_mat (R := mi []) ?_ (mi_vals _) rfl
  intro x hx1 hx2
  have : x = b := by simp [mi] at hx2; omega
  subst this
  rw [h1, matMap, if_pos rfl]; rfl
theorem take_snoc {α : Type} {R : List α} {l : List α} {a : α} (h : l = R.take l.length) (hl : l.length < R.length) (ha : R[l.length]? = some a) : l ++ [a] = R.take (l ++ [a]).length := by
  have e : (l ++ [a]).length = l.length + 1 := by simp
  rw [e, List.take_add_one, ha, ← h]; rfl

end Go.Sh

/-
  Contracts: the blocks of a partition. Of the reference.
-/
namespace Go.Sh
set_option linter.unusedSimpArgs false
set_option linter.unusedVariables false
open Go Go.Proofs

set_option maxHeartbeats 4000000 in
theorem Tryd.specBlocks_f (L : List Int) (hL : L.length ≤ 1048576) : FCall Tryd.prog 50 [ri L] (MatRes (mi (blocksOf L))) := by
  have w := Tryd.specIsPartition_ok L hL
  refine FCall.of_body Tryd.func50 rfl (by kernel_rfl) (by simp [Tryd.ntmps50]) ?_
  refine SW_of_vc2 (onD 7 [(30, 40), (35, 40), (37, 40), (30, 30)] []) Tryd.mixed _ _ _ (by kernel_rfl) ?_
  rcases Bool.eq_false_or_eq_true (isPart L) with hp1 | hp1
  case inr =>
    rw [hp1] at w
    rw [blocksOf_f hp1]
    simp (disch := omega) only [Tryd.ntmps50, Tryd.results50, go_sem]
    refine LoopW.loop (fun _ : Unit => ⟨ofL [(0, ri L), (3, .own 0 0 0 0 1 false), (4, .val (.int .i64 0))], hx [.blk 0 ⟨[], false⟩] 1⟩) (fun _ => True) (fun _ => 0) () trivial (Wk.ofX (by simp only [go_sem, ↓List.forall_mem_cons, List.not_mem_nil, false_implies, implies_true, and_true, true_and, and_self, ri_eq, Int.natCast_add, Int.cast_ofNat_Int]; try simp) (by simp [EntIn, hp, hmap]) (by simp [hp])) ?_
    rintro _ _
    refine SW_of_vc2 (onD 7 [(30, 40), (35, 40), (37, 40), (30, 30)] []) Tryd.mixed _ _ _ (by kernel_rfl) ?_
    by_cases h0 : 0 < L.length
    · simp (disch := omega) only [Tryd.ntmps50, Tryd.results50, go_sem]
      refine w.callV 0 (viewL_cons_of (view_rowL (by first | rfl | simp [marks_length, canon_length] | omega)) viewL_nil_of) ?_
      simp (disch := omega) only [Tryd.ntmps50, Tryd.results50, go_sem]
      exact fin_rows0 (by rw [hx_map, xmap_blk, if_pos rfl])
    · simp (disch := omega) only [Tryd.ntmps50, Tryd.results50, go_sem]
      exact fin_rows0 (by rw [hx_map, xmap_blk, if_pos rfl])
  obtain ⟨l1, l2⟩ := isPart_len hp1
  rw [hp1] at w
  rw [blocksOf_t hp1]
  simp (disch := omega) only [Tryd.ntmps50, Tryd.results50, go_sem]
  refine LoopW.loop (fun p : Nat × List (Nat × List SV) × Nat × Nat => ⟨ofL [(0, ri L), (3, .own p.2.2.1 0 p.2.1.length p.2.1.length 1 false), (4, .val (.int .i64 p.1))], hx [.blk p.2.2.1 ⟨outerN false p.2.1, false⟩, .rows false p.2.1] p.2.2.2⟩)
    (fun p => p.1 ≤ L.length ∧ NrOk p.2.2.1 p.2.2.2 p.2.1 ∧ p.2.1.map (·.2) = mi (blkTo L p.1)) (fun p => L.length - p.1) (0, [], 0, 1) ⟨by simp, .nil (by simp), rfl⟩ (Wk.ofX (by simp only [go_sem, ↓List.forall_mem_cons, List.not_mem_nil, false_implies, implies_true, and_true, true_and, and_self, ri_eq, Int.natCast_add, Int.cast_ofNat_Int]; try simp) (by simp [EntIn, outerN, hp, hmap]) (by simp [hp])) ?_
  rintro ⟨k, nr, ob, nb⟩ ⟨hk, ho, hrows⟩
  simp only at hk ho hrows
  have hob := ho.1
  have hnl := nr_len hrows
  have hol := outerN_length false nr
  have hot : (outerN false nr).take nr.length = outerN false nr := List.take_of_length_le (by omega)
  have hble := blkTo_le L k
  refine SW_of_vc2 (onD 7 [(30, 40), (35, 40), (37, 40), (30, 30)] []) Tryd.mixed _ _ _ (by kernel_rfl) ?_
  by_cases hlt : k < L.length
  · obtain ⟨x, hx, hxl⟩ := blk_at hp1 hlt
    have g1 := ints_get hlt
    rw [hx] at g1
    by_cases hnew : x = (blkTo L k).length
    · have hxe : x = nr.length := by omega
      subst hxe
      have hn := blkTo_new (L := L) (k := k) (by rw [hx, hnew])
      have hg2 : ∀ nm, (outerN false nr ++ [SV.own nm 0 0 0 1 false])[nr.length]? = some (.own nm 0 0 0 1 false) := fun nm => by rw [List.getElem?_append_right (by omega), hol]; simp
      have hs2 : ∀ nm nm', (outerN false nr ++ [SV.own nm' 0 0 0 1 false]).set nr.length (.own nm 0 1 1 1 false) = outerN false (nr ++ [(nm, ints [(k : Int)])]) := fun nm nm' => by
        rw [outerN_snoc, List.set_append_right _ _ (by omega), hol, Nat.sub_self]; rfl
      simp (disch := omega) only [Tryd.ntmps50, Tryd.results50, go_sem, g1]
      refine w.callV 0 (viewL_cons_of (view_rowL (by first | rfl | simp [marks_length, canon_length] | omega)) viewL_nil_of) ?_
      simp (disch := omega) only [Tryd.ntmps50, Tryd.results50, go_sem, g1, hol, hot, hg2, hs2, xdel_cut, List.length_append, List.length_singleton]
      refine ⟨(k + 1, nr ++ [(nb + 1 + 1 + 1 + 1, ints [(k : Int)])], nb + 1 + 1, nb + 1 + 1 + 1 + 1 + 1), ⟨hlt, ho.snoc (by omega) (by show nb ≤ nb + 1 + 1; omega) (by show nb + 1 + 1 + 1 + 1 ≠ nb + 1 + 1; omega) (by show nb + 1 + 1 + 1 + 1 < nb + 1 + 1 + 1 + 1 + 1; omega) (by show nb + 1 + 1 < nb + 1 + 1 + 1 + 1 + 1; omega), ?_⟩, by show L.length - (k + 1) < L.length - k; omega, ?_⟩
      · show (nr ++ _).map (·.2) = mi (blkTo L (k + 1))
        rw [hn, List.map_append, hrows, mi_snoc]; rfl
      · refine Wk.ofX (by simp only [go_sem, ↓List.forall_mem_cons, List.not_mem_nil, false_implies, implies_true, and_true, true_and, and_self, ri_eq, Int.natCast_add, Int.cast_ofNat_Int, List.length_append, List.length_singleton]; try simp) ?_ (Nat.le_refl _)
        simp only [List.forall_mem_cons]
        refine ⟨?_, ?_, by simp⟩
        · simp (disch := omega) only [EntIn, hx_map, xmap_blk, if_pos, if_neg, ↓reduceIte]
        · refine EntIn.snoc ?_ ?_
          · have hne : ∀ p ∈ nr, p.1 < nb ∧ p.1 ≠ ob := ho.2.1
            refine EntIn.skipR (EntIn.skipR (EntIn.skipR (EntIn.skipR (EntIn.skipC (EntIn.skipC (EntIn.selfR ho.2.2) ?_) ?_) ?_) ?_) ?_) ?_
            all_goals
              intro p hp
              have := hne p hp
              omega
          · simp (disch := omega) only [hx_map, xmap_blk, if_pos, if_neg, ↓reduceIte]; rfl
    · have hxn : x < nr.length := by omega
      obtain ⟨hr1, hr2⟩ := nr_row hrows hxn
      have hold := blkTo_old hx hr2
      have hgo := outerN_get (fl := false) hxn
      have hgr := xmap_rowsAt (fl := false) (l := []) ho.2.2 hxn
      have hlt' := ho.2.1 _ (nrAt_mem hxn)
      have hrle := blkTo_row L k x
      have hset := fun nm => outerN_set (fl := false) (nr := nr) (x := x) (nm := nm) (r := ints (mrow (blkTo L k) x ++ [(k : Int)])) rfl
      rw [hr1] at hgo hgr
      rw [ints_length, List.length_append, List.length_singleton] at hset
      rw [ints_length] at hgo
      generalize hnm : (nrAt nr x).1 = nm at *
      simp (disch := omega) only [Tryd.ntmps50, Tryd.results50, go_sem, g1]
      refine w.callV 0 (viewL_cons_of (view_rowL (by first | rfl | simp [marks_length, canon_length] | omega)) viewL_nil_of) ?_
      simp (disch := omega) only [Tryd.ntmps50, Tryd.results50, go_sem, g1, hol, hot, hgo, hgr, hset]
      refine ⟨(k + 1, nr.set x (nb + 1, ints (mrow (blkTo L k) x ++ [(k : Int)])), ob, nb + 1 + 1), ⟨hlt, ho.set (by omega) (by show nb + 1 < nb + 1 + 1; omega), ?_⟩, by show L.length - (k + 1) < L.length - k; omega, ?_⟩
      · show (nr.set x _).map (·.2) = mi (blkTo L (k + 1))
        rw [hold, List.map_set, hrows, mi_set]
      · refine Wk.ofX (by simp only [go_sem, ↓List.forall_mem_cons, List.not_mem_nil, false_implies, implies_true, and_true, true_and, and_self, ri_eq, Int.natCast_add, Int.cast_ofNat_Int, List.length_set]; try simp) ?_ (Nat.le_refl _)
        simp only [List.forall_mem_cons]
        refine ⟨?_, ?_, by simp⟩
        · simp (disch := omega) only [EntIn, hx_map, xmap_blk, if_pos, if_neg, ↓reduceIte]
        · refine EntIn.setN (fun j hj hne => ?_) (by rw [hx_map, xmap_blk, if_pos rfl])
          have h1 := ho.2.1 _ (nrAt_mem hj)
          have h2 := nr_ne ho.2.2 hj hxn hne
          rw [hnm] at h2
          rw [hx_map, xmap_blk, if_neg (by omega), xmap_blk, if_neg (by omega), xmap_blk, if_neg (by omega), xmap_cut, if_neg (by omega)]
          exact xmap_rowsAt ho.2.2 hj
  · have hkl : k = L.length := by omega
    rw [hkl] at hrows
    have := fin_rows (H := hx [Ent.blk ob { cells := outerN false nr, ex := false }, Ent.rows false nr] nb) (R := mi (blkTo L L.length)) ho
      (fun p hp => mi_vals (blkTo L L.length) _ (by rw [← hrows]; exact List.mem_map_of_mem hp)) (by rw [hx_map, xmap_blk, if_pos rfl])
      (EntIn.skipR (EntIn.selfR ho.2.2) (fun p hp => (ho.2.1 p hp).2)) hrows.symm
    simp (disch := omega) only [Tryd.ntmps50, Tryd.results50, go_sem]
    exact this
theorem Tryd.specBlocks_ok (L : List Int) (hL : L.length ≤ 1048576) : PCall Tryd.prog 50 [ri L] (rr (blocksOf L)) :=
  (Tryd.specBlocks_f L hL).mat.pcall 2 (fun _ _ h => h.viewI)
end Go.Sh

/-
  FormatPartition: contracts.
-/
namespace Go.Sh
set_option linter.unusedSimpArgs false
set_option linter.unusedVariables false
open Go Go.Proofs

theorem join_snoc (xs : List (List UInt8)) (y sep : List UInt8) (h : xs ≠ []) : Lib.join (xs ++ [y]) sep = Lib.join xs sep ++ sep ++ y := by
  cases xs with
  | nil => exact absurd rfl h
  | cons x r => rw [List.cons_append, Lib.join_cons, Lib.join_cons]; simp [Lib.joinTail]
def accP (M : List (List Int)) (i : Nat) : List UInt8 := Lib.join ((M.take i).map fmtB) [124]
theorem accP_zero (M : List (List Int)) : accP M 0 = [] := rfl
theorem accP_all (M : List (List Int)) : accP M M.length = Lib.join (M.map fmtB) [124] := by rw [accP, List.take_length]
theorem take_mrow {M : List (List Int)} {i : Nat} (h : i < M.length) : M.take (i + 1) = M.take i ++ [mrow M i] := by
  rw [List.take_add_one, List.getElem?_eq_getElem h]; simp [mrow, h]
theorem accP_one {M : List (List Int)} (h : 0 < M.length) : accP M 1 = fmtB (mrow M 0) := by
  rw [accP, take_mrow (i := 0) h, List.take_zero, List.nil_append, List.map_cons, List.map_nil, Lib.join_one]
theorem accP_succ {M : List (List Int)} {i : Nat} (h : i < M.length) (h0 : 0 < i) : accP M (i + 1) = accP M i ++ [124] ++ fmtB (mrow M i) := by
  rw [accP, take_mrow h, List.map_append, List.map_cons, List.map_nil, join_snoc _ _ _ (by
    intro e
    have := congrArg List.length e
    rw [List.length_map, List.length_take, List.length_nil] at this
    omega)]
  rfl
def accR (r : List Int) (k : Nat) : List UInt8 := fmtB (r.take k)
theorem accR_zero (r : List Int) : accR r 0 = [] := rfl
theorem accR_all (r : List Int) : accR r r.length = fmtB r := by rw [accR, List.take_length]
theorem accR_succ {r : List Int} {k : Nat} (h : k < r.length) : accR r (k + 1) = accR r k ++ Lib.itoa (r.getD k 0) := by
  rw [accR, accR, fmtB_eq, fmtB_eq, List.take_add_one, List.getElem?_eq_getElem h, List.map_append, List.flatten_append]
  simp [h]
/-- Few blocks, few items, small items. -/
structure BOk (M : List (List Int)) : Prop where
  ln : M.length ≤ 8
  row : ∀ i, (mrow M i).length ≤ 8
  it : ∀ i, i < M.length → ∀ y ∈ mrow M i, ∃ x : Nat, y = x ∧ x < 8
theorem BOk.of (L : List Int) : BOk (blocksOf L) := by
  cases h : isPart L with
  | false => rw [blocksOf_f h]; exact ⟨by simp, fun i => by simp [mrow], fun i hi => by simp at hi⟩
  | true =>
    obtain ⟨h1, h2, h3, h4⟩ := part_blk h
    rw [blocksOf_t h]
    refine ⟨h2, fun i => by have := blkTo_row L L.length i; omega, fun i hi => h4 _ ?_⟩
    simp [mrow, hi]
theorem BOk.accR_le {M : List (List Int)} (h : BOk M) {i : Nat} (hi : i < M.length) (k : Nat) : (accR (mrow M i) k).length ≤ 8 := by
  rw [accR, (fmtB_no fun y hy => h.it i hi y (List.mem_of_mem_take hy)).2, List.length_take]
  have := h.row i
  omega
theorem BOk.fmtB_le {M : List (List Int)} (h : BOk M) {i : Nat} (hi : i < M.length) : (fmtB (mrow M i)).length ≤ 8 := by
  rw [← accR_all]; exact h.accR_le hi _
theorem BOk.accP_le {M : List (List Int)} (h : BOk M) : ∀ {i : Nat}, i ≤ M.length → (accP M i).length ≤ 9 * i
  | 0, _ => by simp [accP_zero]
  | i + 1, hi => by
    have ih := h.accP_le (i := i) (by omega)
    have h8 := h.fmtB_le (i := i) (by omega)
    cases i with
    | zero => rw [accP_one (by omega)]; omega
    | succ i => rw [accP_succ (by omega) (by omega)]; simp; omega
theorem BOk.at {M : List (List Int)} (h : BOk M) {i k : Nat} (hi : i < M.length) (hk : k < (mrow M i).length) : ∃ x : Nat, (mrow M i).getD k 0 = x ∧ x < 8 := h.it i hi _ (by simp [hk])

set_option maxHeartbeats 4000000 in
theorem Tryd.specFP_ok (L : List Int) (hL : L.length ≤ 1048576) : PCall Tryd.prog 10 [ri L] (str (fmtP L)) := by
  have wB := Tryd.specBlocks_ok L hL
  have hB := BOk.of L
  have hfin : accP (blocksOf L) (blocksOf L).length = fmtP L := accP_all _
  refine FCall.pcall (R := fun r _ => r = str (fmtP L)) ?_ 0 (by rintro r H rfl; exact view_str)
  refine FCall.of_body Tryd.func10 rfl (by kernel_rfl) (by simp [Tryd.ntmps10]) ?_
  generalize blocksOf L = M at *
  have hln := hB.ln
  refine SW_of_vc Tryd.mixed _ _ _ (by kernel_rfl) ?_
  simp (disch := omega) only [Tryd.ntmps10, Tryd.results10, go_sem]
  refine wB.callV 0 (viewL_cons_of (view_row) viewL_nil_of) ?_
  simp (disch := omega) only [Tryd.ntmps10, Tryd.results10, go_sem]
  refine LoopW.loop (fun i : Nat => ⟨ofL [(3, rr M), (4, str (accP M i)), (5, .val (.int .i64 i))], hp [] 0⟩) (fun i => i ≤ M.length) (fun i => M.length - i) 0 (by omega) (Wk.of (by simp only [go_sem, ↓List.forall_mem_cons, List.not_mem_nil, false_implies, implies_true, and_true, true_and, and_self, ri_eq, Int.natCast_add, Int.cast_ofNat_Int, accP_zero]; try simp) rfl) ?_
  intro i hi
  refine SW_of_vc Tryd.mixed _ _ _ (by kernel_rfl) ?_
  have hal := hB.accP_le hi
  by_cases hlt : i < M.length
  · have hrow := hB.row i
    have hg := rows_get hlt
    generalize hrm : mrow M i = r at *
    by_cases h0 : i = 0
    · obtain ⟨pre, hpre⟩ : ∃ pre, accP M i = pre := ⟨_, rfl⟩
      have hnext : accP M (i + 1) = pre ++ accR r r.length := by
        subst h0
        rw [accP_one hlt, hrm, ← hpre, accP_zero, accR_all, List.nil_append]
      have hpl : pre.length ≤ 80 := by rw [← hpre]; omega
      simp (disch := omega) only [Tryd.ntmps10, Tryd.results10, go_sem, rr_eq, hg]
      refine LoopW.loop (fun k : Nat => ⟨ofL [(3, rr M), (4, str (pre ++ accR r k)), (5, .val (.int .i64 i)), (6, .val (.int .i64 k))], hp [] 0⟩) (fun k => k ≤ r.length) (fun k => r.length - k) 0 (by omega) (Wk.of (by simp only [go_sem, ↓List.forall_mem_cons, List.not_mem_nil, false_implies, implies_true, and_true, true_and, and_self, ri_eq, Int.natCast_add, Int.cast_ofNat_Int, rr_eq, hpre, accR_zero, List.append_nil]; try simp) rfl) ?_
      intro k hk
      refine SW_of_vc Tryd.mixed _ _ _ (by kernel_rfl) ?_
      have hrl := hB.accR_le hlt k
      rw [hrm] at hrl
      by_cases hkl : k < r.length
      · obtain ⟨x, hx, hx8⟩ := hB.at hlt (k := k) (by rw [hrm]; exact hkl)
        rw [hrm] at hx
        have g1 := ints_get hkl
        have hw := Tryd.specFI_ok (r.getD k 0) (by omega) (by omega)
        have hil := itoa_le (n := r.getD k 0) (by omega) (by omega)
        simp (disch := omega) only [Tryd.ntmps10, Tryd.results10, go_sem, rr_eq, hg, g1]
        refine hw.callV 0 (viewL_cons_of (view_int) viewL_nil_of) ?_
        simp (disch := omega) only [Tryd.ntmps10, Tryd.results10, go_sem, rr_eq, List.length_append]
        exact ⟨k + 1, by omega, by omega, Wk.of (by simp only [go_sem, ↓List.forall_mem_cons, List.not_mem_nil, false_implies, implies_true, and_true, true_and, and_self, ri_eq, Int.natCast_add, Int.cast_ofNat_Int, rr_eq, accR_succ hkl, List.append_assoc]; try simp) rfl⟩
      · obtain rfl : k = r.length := by omega
        simp (disch := omega) only [Tryd.ntmps10, Tryd.results10, go_sem, rr_eq, hg]
        exact ⟨i + 1, by omega, by omega, Wk.of (by simp only [go_sem, ↓List.forall_mem_cons, List.not_mem_nil, false_implies, implies_true, and_true, true_and, and_self, ri_eq, Int.natCast_add, Int.cast_ofNat_Int, rr_eq, hnext]; try simp) rfl⟩
    · obtain ⟨pre, hpre⟩ : ∃ pre, accP M i ++ [124] = pre := ⟨_, rfl⟩
      have hnext : accP M (i + 1) = pre ++ accR r r.length := by
        rw [accP_succ hlt (by omega), hrm, ← hpre, accR_all]
      have hpl : pre.length ≤ 80 := by rw [← hpre]; simp; omega
      simp (disch := omega) only [Tryd.ntmps10, Tryd.results10, go_sem, rr_eq, hg]
      refine LoopW.loop (fun k : Nat => ⟨ofL [(3, rr M), (4, str (pre ++ accR r k)), (5, .val (.int .i64 i)), (6, .val (.int .i64 k))], hp [] 0⟩) (fun k => k ≤ r.length) (fun k => r.length - k) 0 (by omega) (Wk.of (by simp only [go_sem, ↓List.forall_mem_cons, List.not_mem_nil, false_implies, implies_true, and_true, true_and, and_self, ri_eq, Int.natCast_add, Int.cast_ofNat_Int, rr_eq, hpre, accR_zero, List.append_nil]; try simp) rfl) ?_
      intro k hk
      refine SW_of_vc Tryd.mixed _ _ _ (by kernel_rfl) ?_
      have hrl := hB.accR_le hlt k
      rw [hrm] at hrl
      by_cases hkl : k < r.length
      · obtain ⟨x, hx, hx8⟩ := hB.at hlt (k := k) (by rw [hrm]; exact hkl)
        rw [hrm] at hx
        have g1 := ints_get hkl
        have hw := Tryd.specFI_ok (r.getD k 0) (by omega) (by omega)
        have hil := itoa_le (n := r.getD k 0) (by omega) (by omega)
        simp (disch := omega) only [Tryd.ntmps10, Tryd.results10, go_sem, rr_eq, hg, g1]
        refine hw.callV 0 (viewL_cons_of (view_int) viewL_nil_of) ?_
        simp (disch := omega) only [Tryd.ntmps10, Tryd.results10, go_sem, rr_eq, List.length_append]
        exact ⟨k + 1, by omega, by omega, Wk.of (by simp only [go_sem, ↓List.forall_mem_cons, List.not_mem_nil, false_implies, implies_true, and_true, true_and, and_self, ri_eq, Int.natCast_add, Int.cast_ofNat_Int, rr_eq, accR_succ hkl, List.append_assoc]; try simp) rfl⟩
      · obtain rfl : k = r.length := by omega
        simp (disch := omega) only [Tryd.ntmps10, Tryd.results10, go_sem, rr_eq, hg]
        exact ⟨i + 1, by omega, by omega, Wk.of (by simp only [go_sem, ↓List.forall_mem_cons, List.not_mem_nil, false_implies, implies_true, and_true, true_and, and_self, ri_eq, Int.natCast_add, Int.cast_ofNat_Int, rr_eq, hnext]; try simp) rfl⟩
  · obtain rfl : i = M.length := by omega
    simp (disch := omega) only [Tryd.ntmps10, Tryd.results10, go_sem, rr_eq]
    exact Fin.val (by rw [hfin])
end Go.Sh

/-
  Contracts: constraints, copied and compared.
-/
namespace Go.Sh
set_option linter.unusedSimpArgs false
set_option linter.unusedVariables false
open Go Go.Proofs

def dc : Con := (0, 0, false)
def cg (C : List Con) (k : Nat) : Con := C.getD k dc
theorem cons_length (C : List Con) : (cons C).length = C.length * 3 := by
  induction C with
  | nil => rfl
  | cons c C ih =>
    have e : cons (c :: C) = con3 c ++ cons C := rfl
    rw [e, List.length_append, ih]
    simp [con3]; omega
theorem cons_drop : ∀ (C : List Con) (k : Nat), (cons C).drop (k * 3) = cons (C.drop k)
  | C, 0 => by simp
  | [], k + 1 => by simp [cons]
  | c :: C, k + 1 => by
    have e : cons (c :: C) = con3 c ++ cons C := rfl
    have e2 : (k + 1) * 3 = k * 3 + 1 + 1 + 1 := by omega
    rw [e, e2]
    show (cons C).drop (k * 3) = cons (C.drop k)
    exact cons_drop C k
theorem cons_load {C : List Con} {k : Nat} (h : k < C.length) : ((cons C).drop (k * 3)).take 3 = [.val (.int .i64 (cg C k).1), .val (.int .i64 (cg C k).2.1), .val (.bool (cg C k).2.2)] := by
  rw [cons_drop, List.drop_eq_getElem_cons h]
  have e : cg C k = C[k] := by simp [cg, h]
  rw [e]
  rfl
theorem cons_at {C : List Con} {k i : Nat} (h : k < C.length) (hi : i < 3) : (cons C)[k * 3 + i]? = (con3 (cg C k))[i]? := by
  have := cons_load h
  have h2 : (((cons C).drop (k * 3)).take 3)[i]? = (con3 (cg C k))[i]? := by rw [this]; rfl
  rw [List.getElem?_take, if_pos hi, List.getElem?_drop] at h2
  exact h2
theorem cons_at0 {C : List Con} {k : Nat} (h : k < C.length) : (cons C)[k * 3]? = some (.val (.int .i64 (cg C k).1)) := cons_at (i := 0) h (by omega)
theorem cons_at1 {C : List Con} {k : Nat} (h : k < C.length) : (cons C)[k * 3 + 1]? = some (.val (.int .i64 (cg C k).2.1)) := cons_at h (by omega)
theorem cons_at2 {C : List Con} {k : Nat} (h : k < C.length) : (cons C)[k * 3 + 2]? = some (.val (.bool (cg C k).2.2)) := cons_at h (by omega)
theorem con_ex (C : List Con) (k : Nat) : ∃ a b s, cg C k = (a, b, s) := ⟨_, _, _, rfl⟩
theorem cons_of {C : List Con} {k : Nat} {a b : Int} {s : Bool} (h : k < C.length) (e : cg C k = (a, b, s)) : (cons C)[k * 3]? = some (.val (.int .i64 a)) ∧ (cons C)[k * 3 + 1]? = some (.val (.int .i64 b)) ∧ (cons C)[k * 3 + 2]? = some (.val (.bool s)) ∧
    ((cons C).drop (k * 3)).take 3 = [.val (.int .i64 a), .val (.int .i64 b), .val (.bool s)] := by
  have h0 := cons_at0 h
  have h1 := cons_at1 h
  have h2 := cons_at2 h
  have h3 := cons_load h
  rw [e] at h0 h1 h2 h3
  exact ⟨h0, h1, h2, h3⟩
theorem cons_vals (C : List Con) : (cons C).all isVal = true := by
  induction C with
  | nil => rfl
  | cons c C ih =>
    have e : cons (c :: C) = con3 c ++ cons C := rfl
    rw [e, List.all_append, ih]; rfl
theorem cons_append (A B : List Con) : cons A ++ cons B = cons (A ++ B) := by simp [cons]
theorem cons_splice : ∀ {C : List Con} {k : Nat} {a b : Int} {s : Bool}, k < C.length → splice (cons C) (k * 3) [.val (.int .i64 a), .val (.int .i64 b), .val (.bool s)] = cons (C.set k (a, b, s))
  | [], k, a, b, s, h => by simp at h
  | c :: C, 0, a, b, s, _ => rfl
  | c :: C, k + 1, a, b, s, h => by
    have ih := cons_splice (C := C) (k := k) (a := a) (b := b) (s := s) (by simpa using h)
    have e : cons (c :: C) = .val (.int .i64 c.1) :: .val (.int .i64 c.2.1) :: .val (.bool c.2.2) :: cons C := rfl
    have e2 : cons ((c :: C).set (k + 1) (a, b, s)) = .val (.int .i64 c.1) :: .val (.int .i64 c.2.1) :: .val (.bool c.2.2) :: cons (C.set k (a, b, s)) := rfl
    have e3 : (k + 1) * 3 = k * 3 + 1 + 1 + 1 := by omega
    rw [e2, ← ih, e, e3]
    simp only [splice, List.set_cons_succ]
theorem cons_set3 {C : List Con} {k : Nat} {a b : Int} {s : Bool} (h : k < C.length) : (((cons C).set (k * 3) (.val (.int .i64 a))).set (k * 3 + 1) (.val (.int .i64 b))).set (k * 3 + 1 + 1) (.val (.bool s)) = cons (C.set k (a, b, s)) := by
  have := cons_splice (a := a) (b := b) (s := s) h
  simpa only [splice] using this
theorem rep_cons (n : Nat) : rep [.val (.int .i64 0), .val (.int .i64 0), .val (.bool false)] (n * 3) = cons (List.replicate n dc) := by
  apply List.ext_getElem?
  intro i
  by_cases h : i < n * 3
  · have h3 : i / 3 < n := by omega
    have e : i = i / 3 * 3 + i % 3 := by omega
    have h4 : (cons (List.replicate n dc))[i]? = (con3 dc)[i % 3]? := by
      conv => lhs; rw [e]
      rw [cons_at (by simpa using h3) (by omega)]
      congr 2
      simp [cg, h3]
    rw [h4]
    simp only [rep, List.getElem?_map]
    rw [List.getElem?_range h]
    have : i % 3 < 3 := by omega
    simp only [Option.map_some, List.length_cons, List.length_nil]
    match i % 3, this with
    | 0, _ => rfl
    | 1, _ => rfl
    | 2, _ => rfl
  · rw [List.getElem?_eq_none (by simp [rep]; omega), List.getElem?_eq_none (by rw [cons_length]; simp; omega)]

def fillG {α : Type} (z : α) (L : List α) (k : Nat) : List α := L.take k ++ List.replicate (L.length - k) z
theorem fillG_zero {α : Type} (z : α) (L : List α) : fillG z L 0 = List.replicate L.length z := by simp [fillG]
theorem fillG_length {α : Type} (z : α) (L : List α) (k : Nat) (h : k ≤ L.length) : (fillG z L k).length = L.length := by simp [fillG]; omega
theorem fillG_set {α : Type} (z d : α) (L : List α) (k : Nat) (h : k < L.length) : (fillG z L k).set k (L.getD k d) = fillG z L (k + 1) := by
  apply List.ext_getElem?
  intro i
  simp [fillG, List.getElem?_set, List.getElem?_append, List.getElem?_take, List.getElem?_replicate]
  grind
theorem fillG_all {α : Type} (z : α) (L : List α) : fillG z L L.length = L := by simp [fillG]

def sc (c : Con) : SV := .agg [.val (.int .i64 c.1), .val (.int .i64 c.2.1), .val (.bool c.2.2)]
theorem view_con {H : Heap} {f : Nat} {k1 k2 : IntKind} {a b : Int} {s : Bool} : view H (f + 1) (.agg [.val (.int k1 a), .val (.int k2 b), .val (.bool s)]) = some (.agg [.val (.int k1 a), .val (.int k2 b), .val (.bool s)]) :=
  view_agg (viewL_cons_of view_int (viewL_cons_of view_int (viewL_cons_of view_bool viewL_nil_of)))

theorem flat_viewC {C : List Con} {n : Nat} {r : SV} {H : Heap} (h : FlatRes n 3 (cons C) r H) : view H 2 r = some (rc C) := by
  have hl := h.length
  rw [cons_length] at hl
  have hn : C.length = n := by omega
  obtain ⟨b, off, cap, ex, blk, rfl, h1, h2, h3, h4⟩ := h
  have hv : ∀ {cs : List SV} {f : Nat}, cs.all isVal = true → (∀ v, SV.val v ∈ cs → viewV v = .val v) → viewL H f cs = some cs := by
    intro cs f
    induction cs with
    | nil => intro _ _; exact viewL_nil_of
    | cons s cs ih =>
      intro ha hb
      simp only [List.all_cons, Bool.and_eq_true] at ha
      obtain ⟨v, rfl⟩ := isVal_of ha.1
      refine viewL_cons_of ?_ (ih ha.2 (fun v hv => hb v (by simp [hv])))
      simp only [view, hb v (by simp)]
  have hc : ∀ v, SV.val v ∈ cons C → viewV v = .val v := by
    intro v hv
    obtain ⟨i, hi⟩ := List.mem_iff_getElem?.1 hv
    obtain ⟨c, _, g2⟩ := cons_get C i _ hi
    have h3 : i % 3 < 3 := by omega
    match i % 3, h3, g2 with
    | 0, _, g2 => simp [con3] at g2; rw [← g2]; rfl
    | 1, _, g2 => simp [con3] at g2; rw [← g2]; rfl
    | 2, _, g2 => simp [con3] at g2; rw [← g2]; rfl
  simp only [view, h1, h3, if_true, h2, hv h4 hc, rc, hn]
theorem cg_take_succ {A B : List Con} {k : Nat} (hA : k < A.length) (hB : k < B.length) (h : A.take k = B.take k) (e : cg A k = cg B k) : A.take (k + 1) = B.take (k + 1) := by
  rw [List.take_succ_eq_append_getElem hA, List.take_succ_eq_append_getElem hB, h]
  simp [cg, hA, hB] at e
  rw [e]

end Go.Sh

/-
  Heaps changed: plain.
-/
namespace Go.Sh
set_option linter.unusedSimpArgs false
set_option linter.unusedVariables false
open Go

theorem hset_map (H : Heap) (b x : Nat) (k : Option Blk) : (H.set b k).map x = if x = b then k else H.map x := rfl
theorem hset_nb (H : Heap) (b : Nat) (k : Option Blk) : (H.set b k).nb = H.nb := rfl
theorem hpush_map (H : Heap) (x : Nat) (k : Blk) : (H.push k).map x = if x = H.nb then some k else H.map x := rfl
theorem hpush_nb (H : Heap) (k : Blk) : (H.push k).nb = H.nb + 1 := rfl
end Go.Sh

/-
  Contracts: tests, rules, sets of rules and scorings, measured, copied and compared.
-/
namespace Go.Sh
set_option linter.unusedSimpArgs false
set_option linter.unusedVariables false
open Go Go.Proofs

/-! ### Tests: two numbers and a Bool, as constraints are -/
def rules (R : List (List Con)) : List SV := R.map rc
def rR (R : List (List Con)) : SV := .row R.length false (rules R)
def rg (R : List (List Con)) (k : Nat) : List Con := R.getD k []
theorem rules_length (R : List (List Con)) : (rules R).length = R.length := by simp [rules]
theorem rules_get {R : List (List Con)} {k : Nat} (h : k < R.length) : (rules R)[k]? = some (.row (rg R k).length false (cons (rg R k))) := by simp [rules, rg, h, rc]
theorem rules_load {R : List (List Con)} {k : Nat} (h : k < R.length) : ((rules R).drop k).take 1 = [.row (rg R k).length false (cons (rg R k))] := by
  rw [List.drop_eq_getElem_cons (by rw [rules_length]; exact h)]
  simp [rules, rg, h, rc]
def rsum (R : List (List Con)) (k : Nat) : Int := ((R.take k).map fun r => (r.length : Int)).sum
theorem rsum_succ {R : List (List Con)} {k : Nat} (h : k < R.length) : rsum R (k + 1) = rsum R k + (rg R k).length := by
  have e : rg R k = R[k] := by simp [rg, h]
  rw [rsum, List.take_succ_eq_append_getElem h, List.map_append, List.sum_append, e]
  simp only [List.map_cons, List.map_nil, List.sum_cons, List.sum_nil, Int.add_zero]
  rfl
theorem rsum_nonneg (R : List (List Con)) (k : Nat) : 0 ≤ rsum R k := by
  unfold rsum
  induction R.take k with
  | nil => simp
  | cons a l ih => simp only [List.map_cons, List.sum_cons]; omega
theorem rsum_mono {R : List (List Con)} {k : Nat} : ∀ d, k + d ≤ R.length → rsum R k ≤ rsum R (k + d)
  | 0, _ => by simp
  | d + 1, h => by
    have ih := rsum_mono (R := R) (k := k) d (by omega)
    have := rsum_succ (R := R) (k := k + d) (by omega)
    rw [show k + (d + 1) = k + d + 1 by omega]; omega
theorem rsum_le {R : List (List Con)} {k : Nat} (h : k ≤ R.length) : rsum R k ≤ rsum R R.length := by
  have := rsum_mono (R := R) (k := k) (R.length - k) (by omega)
  rwa [show k + (R.length - k) = R.length by omega] at this
theorem rg_le {R : List (List Con)} {k : Nat} (h : k < R.length) : (rg R k).length ≤ rsum R R.length := by
  have h1 := rsum_succ h
  have h2 := rsum_le (R := R) (k := k + 1) h
  have h3 := rsum_nonneg R k
  omega
theorem view_rule {H : Heap} {f n : Nat} {ex : Bool} {cs : List SV} : view H (f + 1) (.agg [.row n ex cs]) = some (.agg [.row n false cs]) := view_agg (viewL_cons_of view_row viewL_nil_of)

theorem FlatRes.isOwn {n z : Nat} {cs : List SV} {r : SV} {H : Heap} (h : FlatRes n z cs r H) : IsOwn n z r := by
  obtain ⟨b, off, cap, ex, blk, e, _⟩ := h
  exact ⟨b, off, cap, ex, e⟩
theorem rules_take (R : List (List Con)) {k : Nat} (h : k < R.length) : (R.take (k + 1)).map rc = (R.take k).map rc ++ [rc (rg R k)] := by
  rw [List.take_succ_eq_append_getElem h, List.map_append]; simp [rg, h]
theorem view_agg1_inv {H : Heap} {f : Nat} {s t : SV} (h : view H (f + 1) (.agg [s]) = some (.agg [t])) : view H f s = some t := by
  simp only [view] at h
  split at h
  · rename_i cs hcs
    simp at h; subst h
    cases f
    all_goals
      simp only [viewL] at hcs
      split at hcs
      · rename_i a b ha hb
        simp at hcs hb
        rw [ha, hcs.1]
      · simp at hcs
  · simp at h
theorem viewL_append {H : Heap} {f : Nat} : ∀ {a b a' b' : List SV}, viewL H f a = some a' → viewL H f b = some b' → viewL H f (a ++ b) = some (a' ++ b')
  | [], b, a', b', h, g => by
    have : a' = [] := by cases f <;> simpa [viewL] using h.symm
    subst this; exact g
  | s :: a, b, a', b', h, g => by
    have key : ∃ t ts, view H f s = some t ∧ viewL H f a = some ts ∧ a' = t :: ts := by
      cases f
      all_goals
        simp only [viewL] at h
        split at h
        · rename_i t ts ht hts
          exact ⟨t, ts, ht, hts, by simpa using h.symm⟩
        · simp at h
    obtain ⟨t, ts, ht, hts, rfl⟩ := key
    exact viewL_cons_of ht (viewL_append hts g)
theorem noRowL_append {a b : List SV} (h : noRowL a = true) (g : noRowL b = true) : noRowL (a ++ b) = true := by
  induction a with
  | nil => exact g
  | cons s a ih =>
    simp only [noRowL, Bool.and_eq_true] at h
    simp only [List.cons_append, noRowL, h.1, ih h.2, Bool.and_self]
/-- The outer block of a copy of rules, k of them copied. -/
structure RuB (R : List (List Con)) (k : Nat) (rs : List SV) (H : Heap) : Prop where
  ln : rs.length = k
  o : H.map 0 = some ⟨rs ++ List.replicate (R.length - k) (.val (.slice none 0 0)), true⟩
  nr : noRowL rs = true
  vw : ∀ H' : Heap, (∀ b, 1 ≤ b → b < H.nb → H'.map b = H.map b) → viewL H' 2 rs = some ((R.take k).map rc)
  hn : ∀ b blk, 1 ≤ b → b < H.nb → H.map b = some blk → noRowL blk.cells = true
  nb : 1 ≤ H.nb
abbrev sS (W : List Int) (b : Int) : SV := .agg [ri W, .val (.int .i64 b)]
theorem view_sS {H : Heap} {f n : Nat} {ex : Bool} {cs : List SV} {k : IntKind} {b : Int} : view H (f + 1) (.agg [.row n ex cs, .val (.int k b)]) = some (.agg [.row n false cs, .val (.int k b)]) := view_agg (viewL_cons_of view_row (viewL_cons_of view_int viewL_nil_of))
theorem Tryd.szScoring_ok (L : List Int) (b : Int) (l : Int) (hL : L.length ≤ 9223372036854775807) (h0 : 0 ≤ l) (h1 : l ≤ 1048576) : PCall Tryd.prog 14 [sS L b, .val (.int .i64 l)] (.val (.int .i64 (if l < L.length then -1 else l - L.length))) := by
  refine FCall.pcall (R := fun r _ => r = .val (.int .i64 (if l < L.length then -1 else l - L.length))) ?_ 0 (by rintro r H rfl; exact view_int)
  refine FCall.of_body Tryd.func14 rfl (by kernel_rfl) (by simp [Tryd.ntmps14]) ?_
  have w := Tryd.szIntS_ok L l hL h0 h1
  refine SW_of_vc Tryd.mixed _ _ _ (by kernel_rfl) ?_
  by_cases hl : l < L.length
  · rw [if_pos hl] at w
    simp (disch := omega) only [Tryd.ntmps14, Tryd.results14, go_sem]
    refine w.callV 0 (viewL_cons_of (view_row) (viewL_cons_of (view_int) viewL_nil_of)) ?_
    simp (disch := omega) only [Tryd.ntmps14, Tryd.results14, go_sem]
    exact Fin.val rfl
  · rw [if_neg hl] at w
    simp (disch := omega) only [Tryd.ntmps14, Tryd.results14, go_sem]
    refine w.callV 0 (viewL_cons_of (view_row) (viewL_cons_of (view_int) viewL_nil_of)) ?_
    simp (disch := omega) only [Tryd.ntmps14, Tryd.results14, go_sem]
    exact Fin.val rfl
theorem Tryd.toScoring_ok (L : List Int) (a : Int) (hL : L.length ≤ 1048576) : PCall Tryd.prog 16 [sS L a] (sS L a) := by
  refine FCall.pcall (R := fun r H => ∃ b, r = .agg [.own b 0 L.length L.length 1 false, .val (.int .i64 a)] ∧ H.map b = some ⟨ints L, false⟩) ?_ 2 ?_
  · refine FCall.of_body Tryd.func16 rfl (by kernel_rfl) (by simp [Tryd.ntmps16]) ?_
    refine SW_of_vc Tryd.mixed _ _ _ (by kernel_rfl) ?_
    simp (disch := omega) only [Tryd.ntmps16, Tryd.results16, go_sem]
    refine (Tryd.toIntS_one L hL).callOne (ints_vals L) 0 (viewL_cons_of (view_rowL (by first | rfl | simp [marks_length, canon_length] | omega)) viewL_nil_of) ?_
    simp (disch := omega) only [Tryd.ntmps16, Tryd.results16, go_sem]
    refine ⟨⟨fun x => if x = 3 then some ⟨ints L, false⟩ else none, _⟩, ⟨rfl, fun x => ?_⟩, rfl, fun b blk hb => ?_, 3, rfl, rfl⟩
    · by_cases hx : x = 3
      · subst hx; right; simp [hp, hmap]
      · left; simp [hx]
    · by_cases hx : b = 3
      · subst hx; simp at hb; subst hb; exact noRowL_ints L
      · simp [hx] at hb
  · rintro r H ⟨b, rfl, hb⟩
    exact view_agg (viewL_cons_of (view_own hb rfl) (viewL_cons_of view_int viewL_nil_of))
theorem Tryd.eqScoring_ok (L : List Int) (a : Int) (hL : L.length ≤ 1048576) : PCall Tryd.prog 18 [sS L a, sS L a] (.val (.bool true)) := by
  refine FCall.pcall (R := fun r _ => r = .val (.bool true)) ?_ 0 (by rintro r H rfl; exact view_bool)
  refine FCall.of_body Tryd.func18 rfl (by kernel_rfl) (by simp [Tryd.ntmps18]) ?_
  refine SW_of_vc Tryd.mixed _ _ _ (by kernel_rfl) ?_
  simp (disch := omega) only [Tryd.ntmps18, Tryd.results18, go_sem]
  refine (Tryd.eqIntS_ok L L (by omega) (by omega)).callV 0 (viewL_cons_of (view_rowL (by first | rfl | simp [marks_length, canon_length] | omega)) (viewL_cons_of (view_rowL (by first | rfl | simp [marks_length, canon_length] | omega)) viewL_nil_of)) ?_
  simp (disch := omega) only [Tryd.ntmps18, Tryd.results18, go_sem, bne_self_eq_false, beq_self_eq_true]
  exact Fin.val rfl
end Go.Sh

/-
  Contracts: are these constraints? Of the reference and of the program.
-/
namespace Go.Sh
set_option linter.unusedSimpArgs false
set_option linter.unusedVariables false
open Go Go.Proofs

def fidx (pr : Con → Bool) (C : List Con) : Int := match C.findIdx? pr with | some i => (i : Int) | none => -1
theorem fidx_none {pr : Con → Bool} {C : List Con} (h : ∀ i, i < C.length → pr (cg C i) = false) : fidx pr C = -1 := by
  have : C.findIdx? pr = none := by
    rw [List.findIdx?_eq_none_iff]
    intro x hx
    obtain ⟨i, hi, e⟩ := List.getElem_of_mem hx
    have := h i hi
    simpa [cg, hi, e] using this
  rw [fidx, this]
theorem fidx_some {pr : Con → Bool} {C : List Con} {k : Nat} (hk : k < C.length) (h : ∀ i, i < k → pr (cg C i) = false) (e : pr (cg C k) = true) : fidx pr C = k := by
  have : C.findIdx? pr = some k := by
    rw [List.findIdx?_eq_some_iff_getElem]
    refine ⟨hk, by simpa [cg, hk] using e, fun j hj => ?_⟩
    have hj' : j < C.length := by omega
    have := h j hj
    simp [cg, hj'] at this
    simp [this]
  rw [fidx, this]
theorem fidx_ge (pr : Con → Bool) (C : List Con) : (0 ≤ fidx pr C) ↔ C.any pr = true := by
  rw [fidx]
  cases h : C.findIdx? pr with
  | none =>
    rw [List.findIdx?_eq_none_iff] at h
    constructor
    · intro e; simp at e
    · intro e
      obtain ⟨x, hx, h1⟩ := List.any_eq_true.1 e
      rw [h x hx] at h1; cases h1
  | some i =>
    rw [List.findIdx?_eq_some_iff_getElem] at h
    obtain ⟨hi, h1, _⟩ := h
    simp only [Int.natCast_nonneg, true_iff, List.any_eq_true]
    exact ⟨C[i], List.getElem_mem hi, h1⟩

def goodCon (n : Int) (c : Con) : Bool := inR c.1 0 (n - 1) && (inR c.2.1 0 (n - 1) && decide (c.1 < c.2.1))
def areCons (n : Int) (C : List Con) : Bool := inR n 1 8 && (decide (C.length ≤ 10) && C.all (goodCon n))

theorem cap_rptr (cs : List SV) (off : Nat) : ∀ H fu, viewL H fu [.rptr cs off] = some [.rptr cs off] := fun _ _ => viewL_cons_of view_rptr viewL_nil_of

theorem not_any_not {C : List Con} {p : Con → Bool} : (!C.any fun c => !p c) = C.all p := by
  induction C with
  | nil => rfl
  | cons c C ih => simp only [List.any_cons, List.all_cons, ← ih]; cases p c <;> simp

end Go.Sh

/-
  Contracts: vectors of features, scorings, the score of a pair.
-/
namespace Go.Sh
set_option linter.unusedSimpArgs false
set_option linter.unusedVariables false
open Go Go.Proofs

/-- Where the first element is that meets a test. -/
def fx {α : Type} (pr : α → Bool) (L : List α) : Int := match L.findIdx? pr with | some i => (i : Int) | none => -1
theorem fx_none {α : Type} {pr : α → Bool} {L : List α} (d : α) (h : ∀ i, i < L.length → pr (L.getD i d) = false) : fx pr L = -1 := by
  have : L.findIdx? pr = none := by
    rw [List.findIdx?_eq_none_iff]
    intro x hx
    obtain ⟨i, hi, e⟩ := List.getElem_of_mem hx
    have := h i hi
    simpa [hi, e] using this
  rw [fx, this]
theorem fx_some {α : Type} {pr : α → Bool} {L : List α} (d : α) {k : Nat} (hk : k < L.length) (h : ∀ i, i < k → pr (L.getD i d) = false) (e : pr (L.getD k d) = true) : fx pr L = k := by
  have : L.findIdx? pr = some k := by
    rw [List.findIdx?_eq_some_iff_getElem]
    refine ⟨hk, by simpa [hk] using e, fun j hj => ?_⟩
    have hj' : j < L.length := by omega
    have := h j hj
    simp [hj'] at this
    simp [this]
  rw [fx, this]
theorem fx_ge {α : Type} (pr : α → Bool) (L : List α) : (0 ≤ fx pr L) ↔ L.any pr = true := by
  rw [fx]
  cases h : L.findIdx? pr with
  | none =>
    rw [List.findIdx?_eq_none_iff] at h
    constructor
    · intro e; simp at e
    · intro e
      obtain ⟨x, hx, h1⟩ := List.any_eq_true.1 e
      rw [h x hx] at h1; cases h1
  | some i =>
    rw [List.findIdx?_eq_some_iff_getElem] at h
    obtain ⟨hi, h1, _⟩ := h
    simp only [Int.natCast_nonneg, true_iff, List.any_eq_true]
    exact ⟨L[i], List.getElem_mem hi, h1⟩
theorem any_not {α : Type} {L : List α} {p : α → Bool} : (!L.any fun c => !p c) = L.all p := by
  induction L with
  | nil => rfl
  | cons c C ih => simp only [List.any_cons, List.all_cons, ← ih]; cases p c <;> simp
theorem all_getD {α : Type} {L : List α} {p : α → Bool} (d : α) : L.all p = true ↔ ∀ i, i < L.length → p (L.getD i d) = true := by
  rw [List.all_eq_true]
  constructor
  · intro h i hi
    have := h L[i] (List.getElem_mem hi)
    simpa [hi] using this
  · intro h x hx
    obtain ⟨i, hi, e⟩ := List.getElem_of_mem hx
    have := h i hi
    simpa [hi, e] using this
theorem all_not {α : Type} {L : List α} {p : α → Bool} (d : α) {i : Nat} (hi : i < L.length) (h : p (L.getD i d) = false) : L.all p = false := by
  cases hc : L.all p with
  | false => rfl
  | true => rw [(all_getD d).1 hc i hi] at h; cases h

def isFV (f : List Int) : Bool := decide (f.length = 6) && f.all fun x => inR x 0 1000
theorem isFV_t {f : List Int} (h : isFV f = true) : f.length = 6 ∧ ∀ i, i < 6 → 0 ≤ f.getD i 0 ∧ f.getD i 0 ≤ 1000 := by
  rw [isFV, Bool.and_eq_true] at h
  have hl := of_decide_eq_true h.1
  exact ⟨hl, fun i hi => inR_of ((all_getD 0).1 h.2 i (by omega))⟩
def wsum (W : List Int) (k : Nat) : Int := (W.take k).sum
theorem wsum_succ {W : List Int} {k : Nat} (h : k < W.length) : wsum W (k + 1) = wsum W k + W.getD k 0 := by
  rw [wsum, List.take_succ_eq_append_getElem h, List.sum_append, wsum]; simp [h]
def isSc (W : List Int) (b : Int) : Bool := (W.all fun x => inR x 0 9) && (decide (W.length = 6) && (decide (0 < wsum W W.length) && inR b 0 1000))
theorem wsum_b {W : List Int} (h : ∀ i, i < W.length → 0 ≤ W.getD i 0 ∧ W.getD i 0 ≤ 9) : ∀ k, k ≤ W.length → 0 ≤ wsum W k ∧ wsum W k ≤ 9 * k
  | 0, _ => by simp [wsum]
  | k + 1, hk => by
    have ih := wsum_b h k (by omega)
    have := h k (by omega)
    rw [wsum_succ (by omega)]
    omega

set_option maxHeartbeats 2000000 in
theorem Tryd.specSc_ok (W : List Int) (b : Int) (hW : W.length ≤ 1048576) : PCall Tryd.prog 56 [sS W b] (.val (.bool (isSc W b))) := by
  refine FCall.pcall (R := fun r _ => r = .val (.bool (isSc W b))) ?_ 0 (by rintro r H rfl; exact view_bool)
  refine FCall.of_body Tryd.func56 rfl (by kernel_rfl) (by simp [Tryd.ntmps56]) ?_
  have lC := ints_length W
  have ws0 : wsum W 0 = 0 := by simp [wsum]
  refine SW_of_vc Tryd.mixed _ _ _ (by kernel_rfl) ?_
  simp (disch := omega) only [Tryd.ntmps56, Tryd.results56, go_sem]
  refine LoopW.loop (fun k : Nat => ⟨ofL [(1, .optr 0 0), (3, .val (.int .i64 (wsum W k))), (4, .val (.int .i64 k))], hp [(0, ⟨[ri W, .val (.int .i64 b)], true⟩)] 1⟩) (fun k => k ≤ W.length ∧ ∀ i, i < k → inR (W.getD i 0) 0 9 = true) (fun k => W.length - k) 0 ⟨by omega, by simp⟩ (Wk.of (by simp only [go_sem, ↓List.forall_mem_cons, List.not_mem_nil, false_implies, implies_true, and_true, true_and, and_self, ri_eq, Int.natCast_add, Int.cast_ofNat_Int, ws0]; try simp) (by first | rfl | (simp only [ri]; done))) ?_
  rintro k ⟨hk, hkk⟩
  have hws : 0 ≤ wsum W k ∧ wsum W k ≤ 9 * k := by
    have h1 : ∀ k, (∀ i, i < k → inR (W.getD i 0) 0 9 = true) → k ≤ W.length → 0 ≤ wsum W k ∧ wsum W k ≤ 9 * k := by
      intro k
      induction k with
      | zero => intro _ _; simp [wsum]
      | succ k ih =>
        intro h1 h2
        have := ih (fun i hi => h1 i (by omega)) (by omega)
        have h3 := inR_of (h1 k (by omega))
        rw [wsum_succ (by omega)]; omega
    exact h1 k hkk hk
  refine SW_of_vc Tryd.mixed _ _ _ (by kernel_rfl) ?_
  by_cases hlt : k < W.length
  · have gk : (ints W)[k]? = some (.val (.int .i64 (W.getD k 0))) := ints_get hlt
    have w := Tryd.l1In_ok (W.getD k 0) 0 9
    have hsu := wsum_succ hlt
    cases he : inR (W.getD k 0) 0 9 with
    | true =>
      have hr := inR_of he
      have hnx : ∀ i, i < k + 1 → inR (W.getD i 0) 0 9 = true := fun i hi => by
        rcases Nat.lt_succ_iff_lt_or_eq.mp hi with h | rfl
        · exact hkk i h
        · exact he
      rw [he] at w
      generalize W.getD k 0 = x at *
      simp (disch := omega) only [Tryd.ntmps56, Tryd.results56, go_sem, gk, lC]
      refine w.callV 0 (viewL_cons_of (view_int) (viewL_cons_of (view_int) (viewL_cons_of (view_int) viewL_nil_of))) ?_
      simp (disch := omega) only [Tryd.ntmps56, Tryd.results56, go_sem, gk, lC]
      exact ⟨k + 1, ⟨by omega, hnx⟩, by omega, Wk.of (by simp only [go_sem, ↓List.forall_mem_cons, List.not_mem_nil, false_implies, implies_true, and_true, true_and, and_self, ri_eq, Int.natCast_add, Int.cast_ofNat_Int, hsu]; try simp) (by first | rfl | (simp only [ri]; done))⟩
    | false =>
      rw [he] at w
      simp (disch := omega) only [Tryd.ntmps56, Tryd.results56, go_sem, gk, lC]
      refine w.callV 0 (viewL_cons_of (view_int) (viewL_cons_of (view_int) (viewL_cons_of (view_int) viewL_nil_of))) ?_
      simp (disch := omega) only [Tryd.ntmps56, Tryd.results56, go_sem, gk, lC]
      exact Fin.val (by rw [isSc, all_not 0 hlt he, Bool.false_and])
  · obtain rfl : k = W.length := by omega
    have hall : (W.all fun x => inR x 0 9) = true := (all_getD 0).2 fun i hi => hkk i (by omega)
    by_cases h6 : W.length = 6
    · by_cases hs : 0 < wsum W W.length
      · have w := Tryd.l1In_ok b 0 1000
        have ef : isSc W b = inR b 0 1000 := by rw [isSc, hall, decide_eq_true h6, decide_eq_true hs]; rfl
        rw [ef]
        clear ef hall hkk
        generalize wsum W W.length = z at *
        simp (disch := omega) only [Tryd.ntmps56, Tryd.results56, go_sem]
        refine w.callV 0 (viewL_cons_of (view_int) (viewL_cons_of (view_int) (viewL_cons_of (view_int) viewL_nil_of))) ?_
        simp (disch := omega) only [Tryd.ntmps56, Tryd.results56, go_sem]
        exact Fin.val rfl
      · have ef : isSc W b = false := by rw [isSc, decide_eq_false hs]; simp
        rw [ef]
        clear ef hall hkk
        generalize wsum W W.length = z at *
        simp (disch := omega) only [Tryd.ntmps56, Tryd.results56, go_sem]
        exact Fin.val rfl
    · have ef : isSc W b = false := by rw [isSc, decide_eq_false h6]; simp
      rw [ef]
      clear ef
      simp (disch := omega) only [Tryd.ntmps56, Tryd.results56, go_sem]
      exact Fin.val rfl

set_option maxHeartbeats 2000000 in
theorem Tryd.implSc_ok (W : List Int) (b : Int) (hW : W.length ≤ 1048576) : PCall Tryd.prog 57 [sS W b] (.val (.bool (isSc W b))) := by
  refine FCall.pcall (R := fun r _ => r = .val (.bool (isSc W b))) ?_ 0 (by rintro r H rfl; exact view_bool)
  refine FCall.of_body Tryd.func57 rfl (by kernel_rfl) (by simp [Tryd.ntmps57]) ?_
  have lC := ints_length W
  have ws0 : wsum W 0 = 0 := by simp [wsum]
  refine SW_of_vc Tryd.mixed _ _ _ (by kernel_rfl) ?_
  simp (disch := omega) only [Tryd.ntmps57, Tryd.results57, go_sem]
  refine LoopW.loop (fun k : Nat => ⟨ofL [(1, .optr 0 0), (3, .val (.int .i64 (wsum W k))), (7, ri W), (8, .val (.int .i64 W.length)), (9, .val (.int .i64 k))], hp [(0, ⟨[ri W, .val (.int .i64 b)], true⟩)] 1⟩) (fun k => k ≤ W.length ∧ ∀ i, i < k → inR (W.getD i 0) 0 9 = true) (fun k => W.length - k) 0 ⟨by omega, by simp⟩ (Wk.of (by simp only [go_sem, ↓List.forall_mem_cons, List.not_mem_nil, false_implies, implies_true, and_true, true_and, and_self, ri_eq, Int.natCast_add, Int.cast_ofNat_Int, ws0]; try simp) (by first | rfl | (simp only [ri]; done))) ?_
  rintro k ⟨hk, hkk⟩
  have hws : 0 ≤ wsum W k ∧ wsum W k ≤ 9 * k := by
    have h1 : ∀ k, (∀ i, i < k → inR (W.getD i 0) 0 9 = true) → k ≤ W.length → 0 ≤ wsum W k ∧ wsum W k ≤ 9 * k := by
      intro k
      induction k with
      | zero => intro _ _; simp [wsum]
      | succ k ih =>
        intro h1 h2
        have := ih (fun i hi => h1 i (by omega)) (by omega)
        have h3 := inR_of (h1 k (by omega))
        rw [wsum_succ (by omega)]; omega
    exact h1 k hkk hk
  refine SW_of_vc Tryd.mixed _ _ _ (by kernel_rfl) ?_
  by_cases hlt : k < W.length
  · have gk : (ints W)[k]? = some (.val (.int .i64 (W.getD k 0))) := ints_get hlt
    have w := Tryd.within_ok (W.getD k 0) 0 9
    have hsu := wsum_succ hlt
    cases he : inR (W.getD k 0) 0 9 with
    | true =>
      have hr := inR_of he
      have hnx : ∀ i, i < k + 1 → inR (W.getD i 0) 0 9 = true := fun i hi => by
        rcases Nat.lt_succ_iff_lt_or_eq.mp hi with h | rfl
        · exact hkk i h
        · exact he
      rw [he] at w
      generalize W.getD k 0 = x at *
      simp (disch := omega) only [Tryd.ntmps57, Tryd.results57, go_sem, gk, lC]
      refine w.callV 0 (viewL_cons_of (view_int) (viewL_cons_of (view_int) (viewL_cons_of (view_int) viewL_nil_of))) ?_
      simp (disch := omega) only [Tryd.ntmps57, Tryd.results57, go_sem, gk, lC]
      exact ⟨k + 1, ⟨by omega, hnx⟩, by omega, Wk.of (by simp only [go_sem, ↓List.forall_mem_cons, List.not_mem_nil, false_implies, implies_true, and_true, true_and, and_self, ri_eq, Int.natCast_add, Int.cast_ofNat_Int, hsu]; try simp) (by first | rfl | (simp only [ri]; done))⟩
    | false =>
      rw [he] at w
      simp (disch := omega) only [Tryd.ntmps57, Tryd.results57, go_sem, gk, lC]
      refine w.callV 0 (viewL_cons_of (view_int) (viewL_cons_of (view_int) (viewL_cons_of (view_int) viewL_nil_of))) ?_
      simp (disch := omega) only [Tryd.ntmps57, Tryd.results57, go_sem, gk, lC]
      exact Fin.val (by rw [isSc, all_not 0 hlt he, Bool.false_and])
  · obtain rfl : k = W.length := by omega
    have hall : (W.all fun x => inR x 0 9) = true := (all_getD 0).2 fun i hi => hkk i (by omega)
    by_cases h6 : W.length = 6
    · by_cases hs : 0 < wsum W W.length
      · have w := Tryd.within_ok b 0 1000
        have ef : isSc W b = inR b 0 1000 := by rw [isSc, hall, decide_eq_true h6, decide_eq_true hs]; rfl
        rw [ef]
        clear ef hall hkk
        generalize wsum W W.length = z at *
        simp (disch := omega) only [Tryd.ntmps57, Tryd.results57, go_sem]
        refine w.callV 0 (viewL_cons_of (view_int) (viewL_cons_of (view_int) (viewL_cons_of (view_int) viewL_nil_of))) ?_
        simp (disch := omega) only [Tryd.ntmps57, Tryd.results57, go_sem]
        exact Fin.val rfl
      · have ef : isSc W b = false := by rw [isSc, decide_eq_false hs]; simp
        rw [ef]
        clear ef hall hkk
        generalize wsum W W.length = z at *
        simp (disch := omega) only [Tryd.ntmps57, Tryd.results57, go_sem]
        exact Fin.val rfl
    · have ef : isSc W b = false := by rw [isSc, decide_eq_false h6]; simp
      rw [ef]
      clear ef
      simp (disch := omega) only [Tryd.ntmps57, Tryd.results57, go_sem]
      exact Fin.val rfl

/-! ### The score of a pair -/
def dot (f W : List Int) : Nat → Int
  | 0 => 0
  | k + 1 => dot f W k + f.getD k 0 * W.getD k 0
theorem mul_b {x y : Int} (h1 : 0 ≤ x ∧ x ≤ 1000) (h2 : 0 ≤ y ∧ y ≤ 9) : 0 ≤ x * y ∧ x * y ≤ 9000 := by
  constructor
  · exact Int.mul_nonneg h1.1 h2.1
  · have : x * y ≤ 1000 * 9 := Int.mul_le_mul h1.2 h2.2 h2.1 (by omega)
    omega
theorem dot_b {f W : List Int} (hf : ∀ i, i < 6 → 0 ≤ f.getD i 0 ∧ f.getD i 0 ≤ 1000) (hW : ∀ i, i < 6 → 0 ≤ W.getD i 0 ∧ W.getD i 0 ≤ 9) : ∀ k, k ≤ 6 → 0 ≤ dot f W k ∧ dot f W k ≤ 9000 * k
  | 0, _ => by simp [dot]
  | k + 1, hk => by
    have ih := dot_b hf hW k (by omega)
    have := mul_b (hf k (by omega)) (hW k (by omega))
    rw [dot]; omega
theorem isSc_t {W : List Int} {b : Int} (h : isSc W b = true) : W.length = 6 ∧ (∀ i, i < 6 → 0 ≤ W.getD i 0 ∧ W.getD i 0 ≤ 9) ∧ 0 < wsum W 6 ∧ 0 ≤ b ∧ b ≤ 1000 := by
  simp only [isSc, Bool.and_eq_true] at h
  obtain ⟨h1, h2, h3, h4⟩ := h
  have hl := of_decide_eq_true h2
  have hs := of_decide_eq_true h3
  rw [hl] at hs
  exact ⟨hl, fun i hi => inR_of ((all_getD 0).1 h1 i (by omega)), hs, inR_of h4⟩

end Go.Sh

/-
  FormatScoring: contracts; the law walked.
-/
namespace Go.Sh
set_option linter.unusedSimpArgs false
set_option linter.unusedVariables false
open Go Go.Proofs

def fmtS (W : List Int) (b : Int) : List UInt8 := if isSc W b = true then fmtB W ++ [45] ++ Lib.itoa b else []
theorem isSc_facts {W : List Int} {b : Int} (h : isSc W b = true) : W.length = 6 ∧ (∀ i, i < W.length → ∃ x : Nat, W.getD i 0 = x ∧ x ≤ 9) ∧ 0 ≤ b ∧ b ≤ 1000 := by
  simp only [isSc, Bool.and_eq_true, decide_eq_true_eq] at h
  obtain ⟨h1, h2, h3, h4⟩ := h
  have := inR_of h4
  refine ⟨h2, fun i hi => ?_, this.1, this.2⟩
  have h5 := List.all_eq_true.1 h1 (W.getD i 0) (by simp [hi])
  have := inR_of h5
  exact ⟨(W.getD i 0).toNat, by omega, by omega⟩
theorem accR_len {r : List Int} (h : ∀ i, i < r.length → ∃ x : Nat, r.getD i 0 = x ∧ x ≤ 9) : ∀ k, k ≤ r.length → (accR r k).length = k
  | 0, _ => rfl
  | k + 1, hk => by
    obtain ⟨x, hx, hx9⟩ := h k (by omega)
    rw [accR_succ (by omega), List.length_append, accR_len h k (by omega), hx, itoa_small (by omega)]; rfl
set_option maxHeartbeats 4000000 in
theorem Tryd.specFS_ok (W : List Int) (b : Int) (hW : W.length ≤ 1048576) : PCall Tryd.prog 15 [sS W b] (str (fmtS W b)) := by
  have w := Tryd.specSc_ok W b hW
  have lC := ints_length W
  refine FCall.pcall (R := fun r _ => r = str (fmtS W b)) ?_ 0 (by rintro r H rfl; exact view_str)
  refine FCall.of_body Tryd.func15 rfl (by kernel_rfl) (by simp [Tryd.ntmps15]) ?_
  refine SW_of_vc Tryd.mixed _ _ _ (by kernel_rfl) ?_
  cases he : isSc W b with
  | false =>
    rw [he] at w
    simp (disch := omega) only [Tryd.ntmps15, Tryd.results15, go_sem]
    refine w.callV 1 (viewL_cons_of view_sS viewL_nil_of) ?_
    simp (disch := omega) only [Tryd.ntmps15, Tryd.results15, go_sem]
    exact Fin.val (by rw [fmtS, he]; rfl)
  | true =>
    rw [he] at w
    obtain ⟨h6, hit, hb0, hb1⟩ := isSc_facts he
    have hal := accR_len hit
    simp (disch := omega) only [Tryd.ntmps15, Tryd.results15, go_sem]
    refine w.callV 1 (viewL_cons_of view_sS viewL_nil_of) ?_
    simp (disch := omega) only [Tryd.ntmps15, Tryd.results15, go_sem]
    refine LoopW.loop (fun k : Nat => ⟨ofL [(1, .optr 0 0), (3, str (accR W k)), (4, .val (.int .i64 k))], hp [(0, ⟨[ri W, .val (.int .i64 b)], true⟩)] 1⟩) (fun k => k ≤ W.length) (fun k => W.length - k) 0 (by omega) (Wk.of (by simp only [go_sem, ↓List.forall_mem_cons, List.not_mem_nil, false_implies, implies_true, and_true, true_and, and_self, ri_eq, Int.natCast_add, Int.cast_ofNat_Int, accR_zero]; try simp) (by first | rfl | (simp only [ri]; done))) ?_
    intro k hk
    refine SW_of_vc Tryd.mixed _ _ _ (by kernel_rfl) ?_
    have hak := hal k hk
    by_cases hlt : k < W.length
    · have gk : (ints W)[k]? = some (.val (.int .i64 (W.getD k 0))) := ints_get hlt
      obtain ⟨x, hx, hx9⟩ := hit k hlt
      have hw := Tryd.specFI_ok (W.getD k 0) (by omega) (by omega)
      have hil := itoa_le (n := W.getD k 0) (by omega) (by omega)
      simp (disch := omega) only [Tryd.ntmps15, Tryd.results15, go_sem, gk, lC]
      refine hw.callV 0 (viewL_cons_of (view_int) viewL_nil_of) ?_
      simp (disch := omega) only [Tryd.ntmps15, Tryd.results15, go_sem, gk, lC]
      exact ⟨k + 1, by omega, by omega, Wk.of (by simp only [go_sem, ↓List.forall_mem_cons, List.not_mem_nil, false_implies, implies_true, and_true, true_and, and_self, ri_eq, Int.natCast_add, Int.cast_ofNat_Int, accR_succ hlt]; try simp) (by first | rfl | (simp only [ri]; done))⟩
    · obtain rfl : k = W.length := by omega
      have hw := Tryd.specFI_ok b (by omega) (by omega)
      have hil := itoa_le (n := b) (by omega) (by omega)
      simp (disch := omega) only [Tryd.ntmps15, Tryd.results15, go_sem, lC]
      refine hw.callV 0 (viewL_cons_of (view_int) viewL_nil_of) ?_
      simp (disch := omega) only [Tryd.ntmps15, Tryd.results15, go_sem, lC, List.length_append, List.length_singleton, List.length_cons, List.length_nil]
      exact Fin.val (by rw [fmtS, he, accR_all]; simp)
set_option maxHeartbeats 4000000 in
theorem Tryd.implFS_ok (W : List Int) (b : Int) (hW : W.length ≤ 1048576) : PCall Tryd.prog 17 [sS W b] (str (fmtS W b)) := by
  have w := Tryd.implSc_ok W b hW
  have lC := ints_length W
  refine FCall.pcall (R := fun r _ => r = str (fmtS W b)) ?_ 0 (by rintro r H rfl; exact view_str)
  refine FCall.of_body Tryd.func17 rfl (by kernel_rfl) (by simp [Tryd.ntmps17]) ?_
  refine SW_of_vc Tryd.mixed _ _ _ (by kernel_rfl) ?_
  cases he : isSc W b with
  | false =>
    rw [he] at w
    simp (disch := omega) only [Tryd.ntmps17, Tryd.results17, go_sem]
    refine w.callV 1 (viewL_cons_of view_sS viewL_nil_of) ?_
    simp (disch := omega) only [Tryd.ntmps17, Tryd.results17, go_sem]
    exact Fin.val (by rw [fmtS, he]; rfl)
  | true =>
    rw [he] at w
    obtain ⟨h6, hit, hb0, hb1⟩ := isSc_facts he
    have hal := accR_len hit W.length (Nat.le_refl _)
    rw [accR_all] at hal
    have wJ : PCall Tryd.prog 53 [ri W, str []] (str (fmtB W)) := Tryd.joinInts_ok W [] hW (fun i hi => by
      obtain ⟨x, hx, hx8⟩ := hit i hi
      rw [hx]
      exact Tryd.implFI_ok x (by omega) (by omega)) (by show (fmtB W).length ≤ _; omega)
    have hw := Tryd.implFI_ok b (by omega) (by omega)
    have hil := itoa_le (n := b) (by omega) (by omega)
    simp (disch := omega) only [Tryd.ntmps17, Tryd.results17, go_sem]
    refine w.callV 1 (viewL_cons_of view_sS viewL_nil_of) ?_
    simp (disch := omega) only [Tryd.ntmps17, Tryd.results17, go_sem]
    refine wJ.callDV 0 (viewL_cons_of view_row (viewL_cons_of view_str viewL_nil_of)) ?_
    simp (disch := omega) only [Tryd.ntmps17, Tryd.results17, go_sem, List.length_append, List.length_singleton, List.length_cons, List.length_nil]
    refine hw.callDV 0 (viewL_cons_of (view_int) viewL_nil_of) ?_
    simp (disch := omega) only [Tryd.ntmps17, Tryd.results17, go_sem, List.length_append, List.length_singleton, List.length_cons, List.length_nil]
    exact Fin.val (by rw [fmtS, he]; simp)
set_option maxHeartbeats 8000000 in
theorem Tryd.exactFormatScoring_ok (W : List Int) (b : Int) (hWw : W.length ≤ 9223372036854775807) : PCall Tryd.prog 4 [sS W b] (.val (.bool true)) := by
  refine FCall.pcall (R := fun r _ => r = .val (.bool true)) ?_ 0 (by rintro r H rfl; exact view_bool)
  refine FCall.of_body Tryd.func4 rfl (by kernel_rfl) (by simp [Tryd.ntmps4]) ?_
  refine SW_of_vc Tryd.mixed _ _ _ (by kernel_rfl) ?_
  have zS := Tryd.szScoring_ok W b 1048576 hWw (by omega) (by omega)
  by_cases s2 : (1048576 : Int) < W.length
  · rw [if_pos s2] at zS
    simp (disch := omega) only [Tryd.ntmps4, Tryd.results4, go_sem]
    refine zS.callV 1 (viewL_cons_of view_sS (viewL_cons_of view_int viewL_nil_of)) ?_
    simp (disch := omega) only [Tryd.ntmps4, Tryd.results4, go_sem]
    exact Fin.val rfl
  rw [if_neg s2] at zS
  have hW : W.length ≤ 1048576 := by omega
  have wS := Tryd.specFS_ok W b hW
  have wI := Tryd.implFS_ok W b hW
  have tS := Tryd.toScoring_ok W b hW
  have eS := Tryd.eqScoring_ok W b hW
  generalize fmtS W b = q at *
  simp (disch := omega) only [Tryd.ntmps4, Tryd.results4, go_sem]
  refine zS.callV 1 (viewL_cons_of view_sS (viewL_cons_of view_int viewL_nil_of)) ?_
  simp (disch := omega) only [Tryd.ntmps4, Tryd.results4, go_sem]
  refine tS.callV 1 (viewL_cons_of view_sS viewL_nil_of) ?_
  simp (disch := omega) only [Tryd.ntmps4, Tryd.results4, go_sem]
  refine wS.callV 1 (viewL_cons_of view_sS viewL_nil_of) ?_
  simp (disch := omega) only [Tryd.ntmps4, Tryd.results4, go_sem]
  refine tS.callV 1 (viewL_cons_of view_sS viewL_nil_of) ?_
  simp (disch := omega) only [Tryd.ntmps4, Tryd.results4, go_sem]
  refine wI.callV 1 (viewL_cons_of view_sS viewL_nil_of) ?_
  simp (disch := omega) only [Tryd.ntmps4, Tryd.results4, go_sem, beq_self_eq_true, Bool.not_true]
  refine tS.callDV 1 (viewL_cons_of view_sS viewL_nil_of) ?_
  simp (disch := omega) only [Tryd.ntmps4, Tryd.results4, go_sem]
  refine eS.callDV 1 (viewL_cons_of view_sS (viewL_cons_of view_sS viewL_nil_of)) ?_
  simp (disch := omega) only [Tryd.ntmps4, Tryd.results4, go_sem, decide_true, beq_self_eq_true]
  exact Fin.val rfl
end Go.Sh

/-
  Scorings read back from their text: plain law.
-/
namespace Go.Sh
set_option linter.unusedSimpArgs false
set_option linter.unusedVariables false
open Go Go.Proofs

def sW (t : List UInt8) : List Int := (t.take 6).map fun c => (c.toNat : Int) - 48
def sB (t : List UInt8) : Int := if 6 < t.length then (pint (t.drop 7)).getD 0 else 0
/-- The scoring that a text spells. -/
def psc (t : List UInt8) : Option (List Int × Int) := if t ≠ [] ∧ fmtS (sW t) (sB t) = t then some (sW t, sB t) else none
theorem digs_of {W : List Int} (h : ∀ i, i < W.length → ∃ x : Nat, W.getD i 0 = x ∧ x ≤ 9) : (fmtB W).length = W.length ∧ (fmtB W).map (fun c => (c.toNat : Int) - 48) = W ∧ (45 : UInt8) ∉ fmtB W := by
  induction W with
  | nil => exact ⟨by simp [fmtB, Lib.join_nil], by simp [fmtB, Lib.join_nil], by simp [fmtB, Lib.join_nil]⟩
  | cons y W ih =>
    obtain ⟨x, hx, hx9⟩ := h 0 (by simp)
    simp only [List.getD_cons_zero] at hx
    subst hx
    obtain ⟨h1, h2, h3⟩ := ih fun i hi => by
      have := h (i + 1) (by simpa using hi)
      simpa using this
    rw [fmtB_cons (by omega)]
    refine ⟨by simp [h1], ?_, fun hm => ?_⟩
    · rw [List.map_cons, h2, ch_nat (by omega)]
      congr 1; omega
    · rcases List.mem_cons.1 hm with e | hm
      · have := congrArg UInt8.toNat e
        rw [ch_nat (by omega)] at this
        simp at this; omega
      · exact h3 hm
theorem fmtS_parts {W : List Int} {b : Int} {t : List UInt8} (h : fmtS W b = t) (h0 : t ≠ []) : isSc W b = true ∧ t = fmtB W ++ 45 :: Lib.itoa b := by
  rw [fmtS] at h
  split at h
  · rename_i hs
    refine ⟨hs, ?_⟩
    rw [← h]; simp
  · exact absurd h.symm h0
theorem psc_fmt {W : List Int} {b : Int} {t : List UInt8} (h : fmtS W b = t) (h0 : t ≠ []) : psc t = some (W, b) := by
  obtain ⟨hs, ht⟩ := fmtS_parts h h0
  obtain ⟨h6, hit, hb0, hb1⟩ := isSc_facts hs
  obtain ⟨d1, d2, _⟩ := digs_of hit
  have e1 : sW t = W := by
    rw [sW, ht, List.take_left' (by omega), d2]
  have e2 : sB t = b := by
    rw [sB, ht, if_pos (by rw [List.length_append, List.length_cons]; omega)]
    have : (fmtB W ++ 45 :: Lib.itoa b).drop 7 = Lib.itoa b := by
      rw [List.drop_append, List.drop_eq_nil_of_le (by omega), d1, h6]; rfl
    rw [this, pint_itoa (by omega) (by omega)]; rfl
  rw [psc, e1, e2, if_pos ⟨h0, h⟩]
theorem psc_some {t : List UInt8} {W : List Int} {b : Int} (h : psc t = some (W, b)) : t ≠ [] ∧ fmtS W b = t ∧ sW t = W ∧ sB t = b := by
  rw [psc] at h
  split at h
  · rename_i hh
    simp only [Option.some.injEq, Prod.mk.injEq] at h
    rw [h.1, h.2] at hh
    exact ⟨hh.1, hh.2, h.1, h.2⟩
  · cases h
/-- What strings.Cut gives at a byte. -/
def cut2 (c : UInt8) (s : List UInt8) : List UInt8 × List UInt8 × Bool :=
  if 0 ≤ Lib.indexByte s c then (s.take (Lib.indexByte s c).toNat, s.drop ((Lib.indexByte s c).toNat + 1), true) else (s, [], false)
theorem cut2_app {c : UInt8} {p q : List UInt8} (h : c ∉ p) : cut2 c (p ++ c :: q) = (p, q, true) := by
  have key : Lib.indexByte (p ++ c :: q) c = p.length := by
    have hge := Lib.indexByte_ge (p ++ c :: q) c
    by_cases hn : Lib.indexByte (p ++ c :: q) c = -1
    · have := Lib.indexByte_none hn p.length
      simp at this
    · obtain ⟨m, hm⟩ := Int.eq_ofNat_of_zero_le (a := Lib.indexByte (p ++ c :: q) c) (by omega)
      obtain ⟨h1, h2⟩ := Lib.indexByte_some hm
      have g1 : ¬ m < p.length := fun hlt => by
        rw [List.getElem?_append_left hlt] at h1
        exact h (List.mem_of_getElem? h1)
      have g2 : ¬ p.length < m := fun hlt => h2 _ hlt (by simp)
      rw [hm]; omega
  rw [cut2, key, if_pos (by omega)]
  simp
/-- What the program reads: none at a text that spells no scoring. -/
theorem psc_num {t : List UInt8} (h : pint (cut2 45 t).2.1 = none) : psc t = none := by
  cases hp : psc t with
  | none => rfl
  | some q =>
    obtain ⟨W, b⟩ := q
    obtain ⟨h0, h1, _⟩ := psc_some hp
    obtain ⟨hs, ht⟩ := fmtS_parts h1 h0
    obtain ⟨h6, hit, hb0, hb1⟩ := isSc_facts hs
    obtain ⟨_, _, d3⟩ := digs_of hit
    rw [ht, cut2_app d3, pint_itoa (by omega) (by omega)] at h
    cases h
theorem psc_cut {t : List UInt8} {n : Int} (h : pint (cut2 45 t).2.1 = some n) : psc t = if fmtS ((cut2 45 t).1.map fun c => (c.toNat : Int) - 48) n = t then some ((cut2 45 t).1.map fun c => (c.toNat : Int) - 48, n) else none := by
  have h0 : t ≠ [] := by
    rintro rfl
    have : pint (cut2 45 ([] : List UInt8)).2.1 = none := by
      have : Lib.indexByte ([] : List UInt8) 45 = -1 := by decide
      rw [cut2, this]
      exact pint_nil
    rw [this] at h; cases h
  split
  · rename_i hf
    exact psc_fmt hf h0
  · rename_i hf
    cases hp : psc t with
    | none => rfl
    | some q =>
      obtain ⟨W, b⟩ := q
      obtain ⟨_, h1, _⟩ := psc_some hp
      obtain ⟨hs, ht⟩ := fmtS_parts h1 h0
      obtain ⟨h6, hit, hb0, hb1⟩ := isSc_facts hs
      obtain ⟨_, d2, d3⟩ := digs_of hit
      exfalso
      apply hf
      rw [ht, cut2_app d3, pint_itoa (by omega) (by omega)] at h
      simp only [Option.some.injEq] at h
      rw [ht, cut2_app d3, d2, ← h, ← ht]; exact h1
end Go.Sh

/-
  strings.Cut at a byte: contract.
-/
namespace Go.Sh
set_option linter.unusedSimpArgs false
set_option linter.unusedVariables false
open Go Go.Proofs

theorem fin_tri {R : SV → Heap → Prop} {a b c : Value} {H : Heap} (h : R (.tup [.val a, .val b, .val c]) ⟨fun _ => none, H.nb⟩) : Fin R (.tup [.val a, .val b, .val c]) H :=
  ⟨⟨fun _ => none, H.nb⟩, ⟨rfl, fun _ => .inl rfl⟩, by simp [noRow, noRowL], fun b blk hb => by simp at hb, h⟩
theorem view_cut {H : Heap} {f : Nat} {a b : ByteArray} {u : Bool} : view H (f + 1) (.tup [.val (.string a), .val (.string b), .val (.bool u)]) = some (.tup [.val (.string a), .val (.string b), .val (.bool u)]) := by
  have h1 : viewL H f [.val (.string a), .val (.string b), .val (.bool u)] = some [.val (.string a), .val (.string b), .val (.bool u)] := viewL_cons_of view_str (viewL_cons_of view_str (viewL_cons_of view_bool viewL_nil_of))
  simp only [view, h1]
abbrev cutR (c : UInt8) (s : List UInt8) : SV := .tup [str (cut2 c s).1, str (cut2 c s).2.1, .val (.bool (cut2 c s).2.2)]
theorem Tryd.sindex_ok (s : List UInt8) (c : UInt8) : PCall Tryd.prog 101 [str s, str [c]] (.val (.int .i64 (Lib.indexByte s c))) := by
  refine ⟨⟨_, Tryd.func101, rfl, rfl⟩, fun w vs hl _ => ?_⟩
  simp only [LRel, VRel] at hl
  obtain ⟨v, rest, rfl, rfl, v2, rest2, rfl, rfl, rfl⟩ := hl
  refine (Tryd.stringslite_Index_one (sb s) c w).mono ?_
  rintro e w' ⟨rfl, rfl⟩
  refine ⟨_, rfl, RowKit.Below.refl _ _, ?_⟩
  simp only [VRel, sb_data]
set_option maxHeartbeats 1000000 in
theorem Tryd.scut_ok (s : List UInt8) (c : UInt8) (hs : s.length ≤ 1048576) : PCall Tryd.prog 91 [str s, str [c]] (cutR c s) := by
  have wi := Tryd.sindex_ok s c
  refine FCall.pcall (R := fun r _ => r = cutR c s) ?_ 1 (by rintro r H rfl; exact view_cut)
  refine FCall.of_body Tryd.func91 rfl (by kernel_rfl) (by simp [Tryd.ntmps91]) ?_
  refine SW_of_vc Tryd.mixed _ _ _ (by kernel_rfl) ?_
  rcases cutL_idx s c with ⟨h1, _⟩ | ⟨m, h1, h2, _⟩
  · have hc : cut2 c s = (s, [], false) := by rw [cut2, h1]; rfl
    rw [h1] at wi
    simp (disch := omega) only [Tryd.ntmps91, Tryd.results91, go_sem]
    refine wi.callV 0 (viewL_cons_of view_str (viewL_cons_of view_str viewL_nil_of)) ?_
    simp (disch := omega) only [Tryd.ntmps91, Tryd.results91, go_sem]
    exact fin_tri (by unfold cutR; rw [hc])
  · have hc : cut2 c s = (s.take m, s.drop (m + 1), true) := by rw [cut2, h1, if_pos (by omega), Int.toNat_natCast]
    rw [h1] at wi
    have t1 : ((m : Int) + ((1 : Nat) : Int)).toNat = m + 1 := by omega
    have t2 : ((m : Int) + 1).toNat = m + 1 := by omega
    have t3 : (s.drop (m + 1)).take (s.length - (m + 1)) = s.drop (m + 1) := List.take_of_length_le (by rw [List.length_drop]; exact Nat.le_refl _)
    simp (disch := omega) only [Tryd.ntmps91, Tryd.results91, go_sem]
    refine wi.callV 0 (viewL_cons_of view_str (viewL_cons_of view_str viewL_nil_of)) ?_
    simp (disch := omega) only [Tryd.ntmps91, Tryd.results91, go_sem, t1, t2, t3]
    exact fin_tri (by unfold cutR; rw [hc])
theorem Tryd.cut_ok (s : List UInt8) (c : UInt8) (hs : s.length ≤ 1048576) : PCall Tryd.prog 67 [str s, str [c]] (cutR c s) := by
  have wi := Tryd.scut_ok s c hs
  refine FCall.pcall (R := fun r _ => r = cutR c s) ?_ 1 (by rintro r H rfl; exact view_cut)
  refine FCall.of_body Tryd.func67 rfl (by kernel_rfl) (by simp [Tryd.ntmps67]) ?_
  refine SW_of_vc Tryd.mixed _ _ _ (by kernel_rfl) ?_
  simp (disch := omega) only [Tryd.ntmps67, Tryd.results67, go_sem]
  refine wi.callV 0 (viewL_cons_of view_str (viewL_cons_of view_str viewL_nil_of)) ?_
  simp (disch := omega) only [Tryd.ntmps67, Tryd.results67, go_sem]
  exact fin_tri rfl
end Go.Sh

/-
  A slice of ints that is nil as long as it is empty.
-/
namespace Go.Sh
set_option linter.unusedSimpArgs false
set_option linter.unusedVariables false
open Go Go.Proofs

/-- A slice of ints that is nil as long as it is empty. -/
def nlI (b : Nat) (T : List Int) : SV := if T.length = 0 then .val (.slice none 0 0) else .own b 0 T.length T.length 1 false
def nlH (b : Nat) (T : List Int) : List (Nat × Blk) := if T.length = 0 then [] else [(b, ⟨ints T, false⟩)]
theorem nlI_f {b : Nat} {T : List Int} (h : T.length ≠ 0) : nlI b T = .own b 0 T.length T.length 1 false := if_neg h
theorem nlH_f {b : Nat} {T : List Int} (h : T.length ≠ 0) : nlH b T = [(b, ⟨ints T, false⟩)] := if_neg h
theorem nlI_t {b : Nat} {T : List Int} (h : T.length = 0) : nlI b T = .val (.slice none 0 0) := if_pos h
theorem nlH_t {b : Nat} {T : List Int} (h : T.length = 0) : nlH b T = [] := if_pos h
theorem nlH_in {b : Nat} {T : List Int} {H : Heap} (h : T.length ≠ 0 → H.map b = some ⟨ints T, false⟩) : ∀ q ∈ nlH b T, H.map q.1 = some q.2 := by
  intro q hq
  unfold nlH at hq
  split at hq
  · simp at hq
  · rename_i h0
    simp at hq; subst hq
    exact h h0
theorem nlH_map {b : Nat} {T : List Int} (h : T.length ≠ 0) : hmap (nlH b T) b = some ⟨ints T, false⟩ := by rw [nlH_f h, hmap_cons, if_pos rfl]

theorem nlI_nil (b : Nat) : nlI b [] = .val (.slice none 0 0) := rfl
theorem delB_nlH {b x : Nat} {T : List Int} (h : T.length ≠ 0 → b ≠ x) : delB (nlH b T) x = nlH b T := by
  by_cases h0 : T.length = 0
  · rw [nlH_t h0]; rfl
  · rw [nlH_f h0]; have := h h0; simp [delB, this]
end Go.Sh

/-
  ParseScoring: contracts of both.
-/
namespace Go.Sh
set_option linter.unusedSimpArgs false
set_option linter.unusedVariables false
open Go Go.Proofs

def sk (t : List UInt8) (k : Nat) : List Int := (t.take k).map fun c => (c.toNat : Int) - 48
theorem sk_length {t : List UInt8} {k : Nat} (h : k ≤ t.length) : (sk t k).length = k := by simp [sk, h]
theorem sk_snoc {t : List UInt8} {k : Nat} (h : k < t.length) : ints (sk t k) ++ [.val (.int .i64 (((t.getD k 0).toNat : Int) - 48))] = ints (sk t (k + 1)) := by
  rw [sk, sk, take_succD h]; simp [ints]
theorem sk_all {t : List UInt8} : sk t t.length = t.map fun c => (c.toNat : Int) - 48 := by rw [sk, List.take_length]
theorem sk_six {t : List UInt8} {k : Nat} (h : k = 6 ∨ (k = t.length ∧ k ≤ 6)) : sk t k = sW t := by
  rcases h with rfl | ⟨rfl, h⟩
  · rfl
  · rw [sk_all, sW, List.take_of_length_le h]
def ScR (t : List UInt8) (r : SV) (H : Heap) : Prop :=
  match psc t with
  | some (W, b) => ∃ r0, r = .tup [.agg [r0, .val (.int .i64 b)], .val (.bool true)] ∧ FlatRes W.length 1 (ints W) r0 H
  | none => r = .tup [.agg [.val (.slice none 0 0), .val (.int .i64 0)], .val (.bool false)]
theorem fin_sc {t : List UInt8} {W : List Int} {x : Int} {b n cap : Nat} {ex e2 : Bool} {H : Heap} (h : psc t = some (W, x)) (hn : n = W.length) (hb : H.map b = some ⟨ints W, e2⟩) : Fin (ScR t) (.tup [.agg [.own b 0 n cap 1 ex, .val (.int .i64 x)], .val (.bool true)]) H := by
  subst hn
  obtain ⟨H2, h1, h2, h3, h4⟩ := fin_ints (cap := cap) (ex := ex) rfl hb
  exact ⟨H2, h1, by simp [noRow, noRowL], h3, by rw [ScR, h]; exact ⟨_, rfl, h4⟩⟩
theorem fin_scn {t : List UInt8} {H : Heap} (h : psc t = none) : Fin (ScR t) (.tup [.agg [.val (.slice none 0 0), .val (.int .i64 0)], .val (.bool false)]) H :=
  ⟨⟨fun _ => none, H.nb⟩, ⟨rfl, fun _ => .inl rfl⟩, by simp [noRow, noRowL], fun b blk hb => by simp at hb, by rw [ScR, h]⟩
theorem fmtS_nil (b : Int) : fmtS [] b = [] := by
  rw [fmtS, if_neg]
  intro h
  have := (isSc_facts h).1
  simp at this
theorem view_sOwn {H : Heap} {f b n cap : Nat} {ex e2 : Bool} {W : List Int} {x : Int} (hb : H.map b = some ⟨ints W, e2⟩) (hn : n = W.length) : view H (f + 2) (.agg [.own b 0 n cap 1 ex, .val (.int .i64 x)]) = some (sS W x) :=
  view_agg (viewL_cons_of (view_own hb hn) (viewL_cons_of view_int viewL_nil_of))
theorem view_sNil {H : Heap} {f : Nat} {x : Int} : view H (f + 1) (.agg [.val (.slice none 0 0), .val (.int .i64 x)]) = some (sS [] x) :=
  view_agg (viewL_cons_of view_nil (viewL_cons_of view_int viewL_nil_of))
set_option maxHeartbeats 4000000 in
theorem Tryd.specPS_f (t : List UInt8) (ht : t.length ≤ 1048576) : FCall Tryd.prog 28 [str t] (ScR t) := by
  refine FCall.of_body Tryd.func28 rfl (by kernel_rfl) (by simp [Tryd.ntmps28]) ?_
  refine SW_of_vc2 (onD 5 [(17, 24)] []) Tryd.mixed _ _ _ (by kernel_rfl) ?_
  simp (disch := omega) only [Tryd.ntmps28, Tryd.results28, go_sem]
  refine LoopW.loop (fun p : Nat × Nat × Nat => ⟨ofL [(0, str t), (2, .optr 0 0), (4, .optr 1 0), (5, .val (.int .i64 p.1))], hp ([(0, ⟨[.val (.slice none 0 0), .val (.int .i64 0)], true⟩), (1, ⟨[nlI p.2.1 (sk t p.1), .val (.int .i64 0)], true⟩)] ++ nlH p.2.1 (sk t p.1)) p.2.2⟩)
    (fun p => p.1 ≤ t.length ∧ p.1 ≤ 6 ∧ 2 ≤ p.2.2 ∧ (p.1 ≠ 0 → 2 ≤ p.2.1 ∧ p.2.1 < p.2.2)) (fun p => 6 - p.1) (0, 2, 2) ⟨by simp, by simp, by simp, fun h => absurd rfl h⟩ (Wk.ofH (by simp only [go_sem, ↓List.forall_mem_cons, List.not_mem_nil, false_implies, implies_true, and_true, true_and, and_self, ri_eq, Int.natCast_add, Int.cast_ofNat_Int]; try simp) (by
      simp only [nlI_t (T := sk t 0) rfl, nlH_t (T := sk t 0) rfl, List.append_nil, List.forall_mem_cons, List.not_mem_nil, false_implies, implies_true, and_true]
      refine ⟨?_, ?_⟩ <;> simp (disch := omega) only [hp_map, hmap_cons, if_pos, if_neg, ↓reduceIte]) (by simp [hp])) ?_
  rintro ⟨k, ob, nb⟩ ⟨hk, hk6, hn2, ho⟩
  simp only at hk hk6 hn2 ho
  have hkl := sk_length hk
  refine SW_of_vc2 (onD 5 [(17, 24)] []) Tryd.mixed _ _ _ (by kernel_rfl) ?_
  by_cases hlt : k < t.length ∧ k < 6
  · obtain ⟨hlt, hlt6⟩ := hlt
    have hix := sb_ix hlt
    have hsn := sk_snoc hlt
    have hl2 := sk_length (t := t) (k := k + 1) hlt
    have e2 : ∀ b, nlI b (sk t (k + 1)) = .own b 0 (k + 1) (k + 1) 1 false := fun b => by rw [nlI_f (by omega), hl2]
    have e3 : ∀ b, nlH b (sk t (k + 1)) = [(b, ⟨ints (sk t (k + 1)), false⟩)] := fun b => nlH_f (by omega)
    have hc8 : (t.getD k 0).toNat < 256 := UInt8.toNat_lt _
    generalize t.getD k 0 = c at *
    by_cases hz : k = 0
    · have e0 := nlI_t (b := ob) (T := sk t k) (by omega)
      have h0 := nlH_t (b := ob) (T := sk t k) (by omega)
      have hsn0 : [SV.val (.int .i64 ((c.toNat : Int) - 48))] = ints (sk t (k + 1)) := by rw [← hsn, List.length_eq_zero_iff.1 (by omega : (sk t k).length = 0)]; rfl
      have e2z : ∀ b, nlI b (sk t (k + 1)) = .own b 0 1 1 1 false := fun b => by
        have hk1 : k + 1 = 1 := by omega
        rw [e2, hk1]
      simp (disch := omega) only [Tryd.ntmps28, Tryd.results28, go_sem, hix, e0, h0, List.append_nil]
      refine ⟨(k + 1, nb + 1, nb + 1 + 1), ⟨hlt, hlt6, by show 2 ≤ nb + 1 + 1; omega, fun _ => ⟨by show 2 ≤ nb + 1; omega, by show nb + 1 < nb + 1 + 1; omega⟩⟩, by show 6 - (k + 1) < 6 - k; omega, Wk.ofH (by simp only [go_sem, ↓List.forall_mem_cons, List.not_mem_nil, false_implies, implies_true, and_true, true_and, and_self, ri_eq, Int.natCast_add, Int.cast_ofNat_Int]; try simp) ?_ (Nat.le_refl _)⟩
      simp only [e2z, e3, List.cons_append, List.nil_append, List.forall_mem_cons, List.not_mem_nil, false_implies, implies_true, and_true]
      rw [← hsn0]
      refine ⟨?_, ?_, ?_⟩ <;> simp (disch := omega) only [hp_map, hmap_cons, if_pos, if_neg, ↓reduceIte]
    · have e0 := nlI_f (b := ob) (T := sk t k) (by omega)
      have h0 := nlH_f (b := ob) (T := sk t k) (by omega)
      obtain ⟨o1, o2⟩ := ho hz
      rw [hkl] at e0
      have hil : (ints (sk t k)).length = k := by rw [ints_length, hkl]
      have hit : (ints (sk t k)).take k = ints (sk t k) := List.take_of_length_le (by omega)
      simp (disch := omega) only [Tryd.ntmps28, Tryd.results28, go_sem, hix, e0, h0, List.cons_append, List.nil_append, hil, hit, hsn]
      refine ⟨(k + 1, nb + 1, nb + 1 + 1), ⟨hlt, hlt6, by show 2 ≤ nb + 1 + 1; omega, fun _ => ⟨by show 2 ≤ nb + 1; omega, by show nb + 1 < nb + 1 + 1; omega⟩⟩, by show 6 - (k + 1) < 6 - k; omega, Wk.ofH (by simp only [go_sem, ↓List.forall_mem_cons, List.not_mem_nil, false_implies, implies_true, and_true, true_and, and_self, ri_eq, Int.natCast_add, Int.cast_ofNat_Int]; try simp) ?_ (Nat.le_refl _)⟩
      simp only [e2, e3, List.cons_append, List.nil_append, List.forall_mem_cons, List.not_mem_nil, false_implies, implies_true, and_true]
      refine ⟨?_, ?_, ?_⟩ <;> simp (disch := omega) only [hp_map, hmap_cons, if_pos, if_neg, ↓reduceIte]
  · have hend : k = 6 ∨ (k = t.length ∧ k ≤ 6) := by omega
    have hW := sk_six hend
    by_cases h0 : t = []
    · subst h0
      obtain rfl : k = 0 := by simpa using hk
      have hpn : psc [] = none := by rw [psc, if_neg]; exact fun h => h.1 rfl
      simp (disch := omega) only [Tryd.ntmps28, Tryd.results28, go_sem, List.length_nil, beq_self_eq_true]
      exact fin_scn hpn
    have hl0 : 0 < t.length := List.length_pos_iff.2 h0
    have he0 : (t == ([] : List UInt8)) = false := by rw [beq_eq_false_iff_ne]; exact h0
    have hz : k ≠ 0 := by omega
    obtain ⟨o1, o2⟩ := ho hz
    have e0 := nlI_f (b := ob) (T := sk t k) (by omega)
    have h0 := nlH_f (b := ob) (T := sk t k) (by omega)
    rw [hkl] at e0
    by_cases h6 : 6 < t.length
    · obtain rfl : k = 6 := by omega
      have hB : sB t = (pint (t.drop 7)).getD 0 := by rw [sB, if_pos h6]
      have wP := Tryd.specPI_ok (t.drop 7) (by rw [List.length_drop]; omega)
      have t3 : (t.drop 7).take (t.length - 7) = t.drop 7 := List.take_of_length_le (by rw [List.length_drop]; exact Nat.le_refl _)
      rw [pIR, ← hB] at wP
      have wF := Tryd.specFS_ok (sk t 6) (sB t) (by omega)
      by_cases hf : fmtS (sk t 6) (sB t) = t
      · have hp : psc t = some (sk t 6, sB t) := by rw [hW] at hf ⊢; rw [psc, if_pos ⟨by assumption, hf⟩]
        have hf1 : (fmtS (sk t 6) (sB t) == t) = true := by rw [hf]; exact beq_self_eq_true t
        simp (disch := omega) only [Tryd.ntmps28, Tryd.results28, go_sem, e0, h0, List.cons_append, List.nil_append, he0, t3]
        refine wP.callV 0 (viewL_cons_of view_str viewL_nil_of) ?_
        simp (disch := omega) only [Tryd.ntmps28, Tryd.results28, go_sem, e0, h0, List.cons_append, List.nil_append, he0, t3]
        refine wF.callV 2 (viewL_cons_of (view_sOwn (W := sk t 6) (e2 := false) (by first | rfl | (simp (disch := omega) only [hx_map, hp_map, xmap_blk, hmap_cons, xmap_skipI, xmap_nil, if_pos, if_neg, ↓reduceIte]; try rfl)) hkl.symm) viewL_nil_of) ?_
        simp (disch := omega) only [Tryd.ntmps28, Tryd.results28, go_sem, hf1, Bool.not_true]
        exact fin_sc (e2 := false) hp hkl.symm (by first | rfl | (simp (disch := omega) only [hx_map, hp_map, xmap_blk, hmap_cons, xmap_skipI, xmap_nil, if_pos, if_neg, ↓reduceIte]; try rfl))
      · have hp : psc t = none := by rw [hW] at hf; rw [psc, if_neg (fun h => hf h.2)]
        have hf1 : (fmtS (sk t 6) (sB t) == t) = false := by rw [beq_eq_false_iff_ne]; exact hf
        simp (disch := omega) only [Tryd.ntmps28, Tryd.results28, go_sem, e0, h0, List.cons_append, List.nil_append, he0, t3]
        refine wP.callV 0 (viewL_cons_of view_str viewL_nil_of) ?_
        simp (disch := omega) only [Tryd.ntmps28, Tryd.results28, go_sem, e0, h0, List.cons_append, List.nil_append, he0, t3]
        refine wF.callV 2 (viewL_cons_of (view_sOwn (W := sk t 6) (e2 := false) (by first | rfl | (simp (disch := omega) only [hx_map, hp_map, xmap_blk, hmap_cons, xmap_skipI, xmap_nil, if_pos, if_neg, ↓reduceIte]; try rfl)) hkl.symm) viewL_nil_of) ?_
        simp (disch := omega) only [Tryd.ntmps28, Tryd.results28, go_sem, hf1, Bool.not_false]
        exact fin_scn hp
    · have hlk : k = t.length := by omega
      have hB : sB t = 0 := by rw [sB, if_neg h6]
      have wF := Tryd.specFS_ok (sk t k) 0 (by omega)
      by_cases hf : fmtS (sk t k) 0 = t
      · have hp : psc t = some (sk t k, 0) := by rw [hW] at hf ⊢; rw [psc, hB, if_pos ⟨by assumption, hf⟩]
        have hf1 : (fmtS (sk t k) 0 == t) = true := by rw [hf]; exact beq_self_eq_true t
        simp (disch := omega) only [Tryd.ntmps28, Tryd.results28, go_sem, e0, h0, List.cons_append, List.nil_append, he0]
        refine wF.callV 2 (viewL_cons_of (view_sOwn (W := sk t k) (e2 := false) (by first | rfl | (simp (disch := omega) only [hx_map, hp_map, xmap_blk, hmap_cons, xmap_skipI, xmap_nil, if_pos, if_neg, ↓reduceIte]; try rfl)) hkl.symm) viewL_nil_of) ?_
        simp (disch := omega) only [Tryd.ntmps28, Tryd.results28, go_sem, hf1, Bool.not_true]
        exact fin_sc (e2 := false) hp hkl.symm (by first | rfl | (simp (disch := omega) only [hx_map, hp_map, xmap_blk, hmap_cons, xmap_skipI, xmap_nil, if_pos, if_neg, ↓reduceIte]; try rfl))
      · have hp : psc t = none := by rw [hW] at hf; rw [psc, hB, if_neg (fun h => hf h.2)]
        have hf1 : (fmtS (sk t k) 0 == t) = false := by rw [beq_eq_false_iff_ne]; exact hf
        simp (disch := omega) only [Tryd.ntmps28, Tryd.results28, go_sem, e0, h0, List.cons_append, List.nil_append, he0]
        refine wF.callV 2 (viewL_cons_of (view_sOwn (W := sk t k) (e2 := false) (by first | rfl | (simp (disch := omega) only [hx_map, hp_map, xmap_blk, hmap_cons, xmap_skipI, xmap_nil, if_pos, if_neg, ↓reduceIte]; try rfl)) hkl.symm) viewL_nil_of) ?_
        simp (disch := omega) only [Tryd.ntmps28, Tryd.results28, go_sem, hf1, Bool.not_false]
        exact fin_scn hp
set_option maxHeartbeats 4000000 in
theorem Tryd.implPS_f (t : List UInt8) (ht : t.length ≤ 1048576) : FCall Tryd.prog 29 [str t] (ScR t) := by
  have wC := Tryd.cut_ok t 45 ht
  have hc1 : (cut2 45 t).1.length ≤ 1048576 ∧ (cut2 45 t).2.1.length ≤ 1048576 := by
    rw [cut2]; split <;> simp [List.length_take, List.length_drop] <;> omega
  have hnum := @psc_num t
  have hcut := fun n => @psc_cut t n
  rw [cutR] at wC
  refine FCall.of_body Tryd.func29 rfl (by kernel_rfl) (by simp [Tryd.ntmps29]) ?_
  refine SW_of_vc2 (onD 9 [(32, 39)] []) Tryd.mixed _ _ _ (by kernel_rfl) ?_
  generalize (cut2 45 t).1 = d at *
  generalize (cut2 45 t).2.1 = m at *
  generalize (cut2 45 t).2.2 = u at *
  obtain ⟨hd, hm⟩ := hc1
  have wP := Tryd.implPI_ok m hm
  cases hpm : pint m with
  | none =>
    have hp := hnum hpm
    rw [pIR, hpm] at wP
    simp (disch := omega) only [Tryd.ntmps29, Tryd.results29, go_sem]
    refine wC.callV 0 (viewL_cons_of view_str (viewL_cons_of view_str viewL_nil_of)) ?_
    simp (disch := omega) only [Tryd.ntmps29, Tryd.results29, go_sem]
    refine wP.callV 0 (viewL_cons_of view_str viewL_nil_of) ?_
    simp (disch := omega) only [Tryd.ntmps29, Tryd.results29, go_sem, Option.getD_none, Option.isSome_none]
    exact fin_scn hp
  | some n =>
    have hpp := hcut n hpm
    rw [← sk_all] at hpp
    rw [pIR, hpm] at wP
    simp (disch := omega) only [Tryd.ntmps29, Tryd.results29, go_sem]
    refine wC.callV 0 (viewL_cons_of view_str (viewL_cons_of view_str viewL_nil_of)) ?_
    simp (disch := omega) only [Tryd.ntmps29, Tryd.results29, go_sem]
    refine wP.callV 0 (viewL_cons_of view_str viewL_nil_of) ?_
    simp (disch := omega) only [Tryd.ntmps29, Tryd.results29, go_sem, Option.getD_some, Option.isSome_some]
    refine LoopW.loop (fun p : Nat × Nat × Nat => ⟨ofL [(0, str t), (2, .optr 0 0), (4, str d), (9, .optr 1 0), (28, .val (.int .i64 d.length)), (29, .val (.int .i64 p.1))], hp ([(0, ⟨[.val (.slice none 0 0), .val (.int .i64 0)], true⟩), (1, ⟨[nlI p.2.1 (sk d p.1), .val (.int .i64 n)], true⟩)] ++ nlH p.2.1 (sk d p.1)) p.2.2⟩)
      (fun p => p.1 ≤ d.length ∧ 2 ≤ p.2.2 ∧ (p.1 ≠ 0 → 2 ≤ p.2.1 ∧ p.2.1 < p.2.2)) (fun p => d.length - p.1) (0, 2, 2) ⟨by simp, by simp, fun h => absurd rfl h⟩ (Wk.ofH (by simp only [go_sem, ↓List.forall_mem_cons, List.not_mem_nil, false_implies, implies_true, and_true, true_and, and_self, ri_eq, Int.natCast_add, Int.cast_ofNat_Int]; try simp) (by
        simp only [nlI_t (T := sk d 0) rfl, nlH_t (T := sk d 0) rfl, List.append_nil, List.forall_mem_cons, List.not_mem_nil, false_implies, implies_true, and_true]
        refine ⟨?_, ?_⟩ <;> simp (disch := omega) only [hp_map, hmap_cons, if_pos, if_neg, ↓reduceIte]) (by simp [hp])) ?_
    rintro ⟨k, ob, nb⟩ ⟨hk, hn2, ho⟩
    simp only at hk hn2 ho
    have hkl := sk_length hk
    refine SW_of_vc2 (onD 9 [(32, 39)] []) Tryd.mixed _ _ _ (by kernel_rfl) ?_
    by_cases hlt : k < d.length
    · have hix := sb_ix hlt
      have hsn := sk_snoc hlt
      have hl2 := sk_length (t := d) (k := k + 1) hlt
      have e2 : ∀ b, nlI b (sk d (k + 1)) = .own b 0 (k + 1) (k + 1) 1 false := fun b => by rw [nlI_f (by omega), hl2]
      have e3 : ∀ b, nlH b (sk d (k + 1)) = [(b, ⟨ints (sk d (k + 1)), false⟩)] := fun b => nlH_f (by omega)
      have hc8 : (d.getD k 0).toNat < 256 := UInt8.toNat_lt _
      generalize d.getD k 0 = c at *
      by_cases hz : k = 0
      · have e0 := nlI_t (b := ob) (T := sk d k) (by omega)
        have h0 := nlH_t (b := ob) (T := sk d k) (by omega)
        have hsn0 : [SV.val (.int .i64 ((c.toNat : Int) - 48))] = ints (sk d (k + 1)) := by rw [← hsn, List.length_eq_zero_iff.1 (by omega : (sk d k).length = 0)]; rfl
        have e2z : ∀ b, nlI b (sk d (k + 1)) = .own b 0 1 1 1 false := fun b => by
          have hk1 : k + 1 = 1 := by omega
          rw [e2, hk1]
        simp (disch := omega) only [Tryd.ntmps29, Tryd.results29, go_sem, hix, e0, h0, List.append_nil]
        refine ⟨(k + 1, nb + 1, nb + 1 + 1), ⟨hlt, by show 2 ≤ nb + 1 + 1; omega, fun _ => ⟨by show 2 ≤ nb + 1; omega, by show nb + 1 < nb + 1 + 1; omega⟩⟩, by show d.length - (k + 1) < d.length - k; omega, Wk.ofH (by simp only [go_sem, ↓List.forall_mem_cons, List.not_mem_nil, false_implies, implies_true, and_true, true_and, and_self, ri_eq, Int.natCast_add, Int.cast_ofNat_Int]; try simp) ?_ (Nat.le_refl _)⟩
        simp only [e2z, e3, List.cons_append, List.nil_append, List.forall_mem_cons, List.not_mem_nil, false_implies, implies_true, and_true]
        rw [← hsn0]
        refine ⟨?_, ?_, ?_⟩ <;> simp (disch := omega) only [hp_map, hmap_cons, if_pos, if_neg, ↓reduceIte]
      · have e0 := nlI_f (b := ob) (T := sk d k) (by omega)
        have h0 := nlH_f (b := ob) (T := sk d k) (by omega)
        obtain ⟨o1, o2⟩ := ho hz
        rw [hkl] at e0
        have hil : (ints (sk d k)).length = k := by rw [ints_length, hkl]
        have hit : (ints (sk d k)).take k = ints (sk d k) := List.take_of_length_le (by omega)
        simp (disch := omega) only [Tryd.ntmps29, Tryd.results29, go_sem, hix, e0, h0, List.cons_append, List.nil_append, hil, hit, hsn]
        refine ⟨(k + 1, nb + 1, nb + 1 + 1), ⟨hlt, by show 2 ≤ nb + 1 + 1; omega, fun _ => ⟨by show 2 ≤ nb + 1; omega, by show nb + 1 < nb + 1 + 1; omega⟩⟩, by show d.length - (k + 1) < d.length - k; omega, Wk.ofH (by simp only [go_sem, ↓List.forall_mem_cons, List.not_mem_nil, false_implies, implies_true, and_true, true_and, and_self, ri_eq, Int.natCast_add, Int.cast_ofNat_Int]; try simp) ?_ (Nat.le_refl _)⟩
        simp only [e2, e3, List.cons_append, List.nil_append, List.forall_mem_cons, List.not_mem_nil, false_implies, implies_true, and_true]
        refine ⟨?_, ?_, ?_⟩ <;> simp (disch := omega) only [hp_map, hmap_cons, if_pos, if_neg, ↓reduceIte]
    · obtain rfl : k = d.length := by omega
      by_cases hz : d.length = 0
      · have e0 := nlI_t (b := ob) (T := sk d d.length) (by omega)
        have h0 := nlH_t (b := ob) (T := sk d d.length) (by omega)
        have hd0 : sk d d.length = [] := List.length_eq_zero_iff.1 (by omega)
        have wF := Tryd.implFS_ok [] n (by simp)
        rw [fmtS_nil] at wF
        rw [hd0, fmtS_nil] at hpp
        have ht0 : t ≠ [] := by
          rintro rfl
          rw [if_pos rfl] at hpp
          rw [psc, if_neg (fun h => h.1 rfl)] at hpp
          cases hpp
        have hp : psc t = none := by rw [hpp, if_neg (fun h => ht0 h.symm)]
        have hf1 : (([] : List UInt8) == t) = false := by rw [beq_eq_false_iff_ne]; exact fun h => ht0 h.symm
        simp (disch := omega) only [Tryd.ntmps29, Tryd.results29, go_sem, e0, h0, List.append_nil]
        refine wF.callV 2 (viewL_cons_of view_sNil viewL_nil_of) ?_
        simp (disch := omega) only [Tryd.ntmps29, Tryd.results29, go_sem, hf1, Bool.not_false]
        exact fin_scn hp
      obtain ⟨o1, o2⟩ := ho hz
      have e0 := nlI_f (b := ob) (T := sk d d.length) (by omega)
      have h0 := nlH_f (b := ob) (T := sk d d.length) (by omega)
      rw [hkl] at e0
      have wF := Tryd.implFS_ok (sk d d.length) n (by omega)
      by_cases hf : fmtS (sk d d.length) n = t
      · rw [if_pos hf] at hpp
        have hf1 : (fmtS (sk d d.length) n == t) = true := by rw [hf]; exact beq_self_eq_true t
        simp (disch := omega) only [Tryd.ntmps29, Tryd.results29, go_sem, e0, h0, List.cons_append, List.nil_append]
        refine wF.callV 2 (viewL_cons_of (view_sOwn (W := sk d d.length) (e2 := false) (by first | rfl | (simp (disch := omega) only [hx_map, hp_map, xmap_blk, hmap_cons, xmap_skipI, xmap_nil, if_pos, if_neg, ↓reduceIte]; try rfl)) hkl.symm) viewL_nil_of) ?_
        simp (disch := omega) only [Tryd.ntmps29, Tryd.results29, go_sem, hf1, Bool.not_true]
        exact fin_sc (e2 := false) hpp hkl.symm (by first | rfl | (simp (disch := omega) only [hx_map, hp_map, xmap_blk, hmap_cons, xmap_skipI, xmap_nil, if_pos, if_neg, ↓reduceIte]; try rfl))
      · rw [if_neg hf] at hpp
        have hf1 : (fmtS (sk d d.length) n == t) = false := by rw [beq_eq_false_iff_ne]; exact hf
        simp (disch := omega) only [Tryd.ntmps29, Tryd.results29, go_sem, e0, h0, List.cons_append, List.nil_append]
        refine wF.callV 2 (viewL_cons_of (view_sOwn (W := sk d d.length) (e2 := false) (by first | rfl | (simp (disch := omega) only [hx_map, hp_map, xmap_blk, hmap_cons, xmap_skipI, xmap_nil, if_pos, if_neg, ↓reduceIte]; try rfl)) hkl.symm) viewL_nil_of) ?_
        simp (disch := omega) only [Tryd.ntmps29, Tryd.results29, go_sem, hf1, Bool.not_false]
        exact fin_scn hpp
end Go.Sh

/-
  The law FnExactParseScoring, walked.
-/
namespace Go.Sh
set_option linter.unusedSimpArgs false
set_option linter.unusedVariables false
open Go Go.Proofs

section
variable {P : Program}
theorem FCall.oneS {f : FuncId} {args : List SV} {n z : Nat} {cs : List SV} {x u : Value} (h : FCall P f args (fun r H => ∃ r0, r = .tup [.agg [r0, .val x], .val u] ∧ FlatRes n z cs r0 H)) :
    FCall P f args (fun r H => r = .tup [.agg [.own 0 0 n n z false, .val x], .val u] ∧ H = Heap.one ⟨cs, false⟩) := by
  refine ⟨h.1, fun w vs hl ht => (h.2 w vs hl ht).mono ?_⟩
  rintro e w' ⟨v, r, j, H, h1, h2, h3, h4, h5, h6, h7, r0, rfl, h8⟩
  simp only [VRel, LRel] at h4
  obtain ⟨vs, rfl, y, rest, rfl, ⟨us, rfl, a, rest2, rfl, ha, b, rest3, rfl, rfl, rfl⟩, c, rest', rfl, rfl, rfl⟩ := h4
  obtain ⟨j', r', v', o'⟩ := one_rel h8 h3 ha
  refine ⟨_, _, j', _, h1, h2, r', ?_, fun k hk => h5 k (o' k hk), by simp [noRow, noRowL], nr_one h8.vals, rfl, rfl⟩
  simp only [VRel, LRel]
  exact ⟨_, rfl, _, _, rfl, ⟨_, rfl, _, _, rfl, by simpa only [VRel] using v', _, _, rfl, rfl, rfl⟩, _, _, rfl, rfl, rfl⟩
theorem FCall.callOneS {f : FuncId} {args args' : List SV} {n z : Nat} {cs : List SV} {x u : Value} {H : Heap} {K : SV → Heap → Prop} (h : FCall P f args' (fun r H => r = .tup [.agg [.own 0 0 n n z false, .val x], .val u] ∧ H = Heap.one ⟨cs, false⟩)) (hc : cs.all isVal = true) (fu : Nat) (hv : viewL H fu args = some args')
    (k : K (.tup [.agg [.own H.nb 0 n n z false, .val x], .val u]) (H.push ⟨cs, false⟩)) : @CallX P f args H ⟨K⟩ := by
  refine ⟨h.1, fun j w vs r hl => ((h.callS fu hv).2 j w vs r hl).mono ?_⟩
  rintro e w' ⟨r1, v, j', H', h1, h2, h3, h4, r0, H0, ⟨rfl, rfl⟩, rfl, rfl⟩
  refine ⟨_, v, j', _, h1, h2, h3, h4, ?_⟩
  rw [merge_one r hc]
  simpa only [shift, shiftL, Nat.zero_add] using k
theorem FCall.callSN {f : FuncId} {args args' : List SV} {a b c : Value} {H : Heap} {K : SV → Heap → Prop} (h : FCall P f args' (fun r _ => r = .tup [.agg [.val a, .val b], .val c])) (fu : Nat) (hv : viewL H fu args = some args')
    (k : K (.tup [.agg [.val a, .val b], .val c]) H) : @CallX P f args H ⟨K⟩ := by
  refine ⟨h.1, fun j w vs r hl => ?_⟩
  have hl' := viewL_sound r.live0 fu args args' vs hv (LRel.tr (Tr.weaken w (fun _ h => h.elim)) (fun _ _ h => h) args vs hl)
  refine (h.2 w vs hl' (r.tab.tr (Tr.weaken w (fun _ h => h.elim)))).mono ?_
  rintro e w' ⟨v, r0, j0, H0, h1, h2, h3, h4, h5, h6, h7, rfl⟩
  obtain ⟨r', nx⟩ := r.below h2
  refine ⟨_, v, j, H, h1, r', ?_, nx, k⟩
  simpa only [VRel, LRel] using h4
end
theorem Tryd.specPS_ok {t : List UInt8} (ht : t.length ≤ 1048576) {W : List Int} {b : Int} {u : Bool} (h : (psc t = some (W, b) ∧ u = true) ∨ (psc t = none ∧ W = [] ∧ b = 0 ∧ u = false)) : PCall Tryd.prog 28 [str t] (.tup [sS W b, .val (.bool u)]) := by
  refine (Tryd.specPS_f t ht).pcall 4 fun r H hr => ?_
  rw [ScR] at hr
  rcases h with ⟨h, rfl⟩ | ⟨h, rfl, rfl, rfl⟩
  · rw [h] at hr
    obtain ⟨r0, rfl, hf⟩ := hr
    have h1 : viewL H 3 [.agg [r0, .val (.int .i64 b)], .val (.bool true)] = some [sS W b, .val (.bool true)] := viewL_cons_of (view_agg (viewL_cons_of (flat_view hf) (viewL_cons_of view_int viewL_nil_of))) (viewL_cons_of view_bool viewL_nil_of)
    simp only [view, h1]
  · rw [h] at hr
    subst hr
    have h1 : viewL H 3 [.agg [.val (.slice none 0 0), .val (.int .i64 0)], .val (.bool false)] = some [sS [] 0, .val (.bool false)] := viewL_cons_of view_sNil (viewL_cons_of view_bool viewL_nil_of)
    simp only [view, h1]
set_option maxHeartbeats 1000000 in
theorem Tryd.markScoring_ok (L : List Int) (x k : Int) (H : Heap) (b n cap : Nat) (ex e2 : Bool) (hb : H.map b = some ⟨ints L, e2⟩) (hbn : b < H.nb) (hn : n = L.length) (hL : L.length ≤ 1099511627776) (hk : 0 ≤ k) (hk2 : k ≤ 1099511627776) :
    CallS Tryd.prog 30 [.agg [.own b 0 n cap 1 ex, .val (.int .i64 x)], .val (.int .i64 k)] H (fun r H' => r = .val (.int .i64 (k + n)) ∧ H' = (H.push ⟨[.own b 0 n cap 1 ex, .val (.int .i64 x)], true⟩).set b (some ⟨ints (marks n k), e2⟩)) := by
  refine CallS.of_body Tryd.func30 rfl (by kernel_rfl) (by simp [Tryd.ntmps30]) ?_
  refine SW_of_vc Tryd.mixed _ _ _ (by kernel_rfl) ?_
  simp (disch := omega) only [Tryd.ntmps30, Tryd.results30, go_sem, hset_map, hset_nb, hpush_map, hpush_nb]
  have hb' : (H.push ⟨[.own b 0 n cap 1 ex, .val (.int .i64 x)], true⟩).map b = some ⟨ints L, e2⟩ := by rw [hpush_map, if_neg (by omega)]; exact hb
  refine (Tryd.markIntS_ok L k _ b n cap ex e2 hb' hn hL hk hk2).callDet ?_
  simp (disch := omega) only [Tryd.ntmps30, Tryd.results30, go_sem, hset_map, hset_nb, hpush_map, hpush_nb]
theorem Tryd.markScoring_nil (x k : Int) (H : Heap) (hk : 0 ≤ k) (hk2 : k ≤ 1099511627776) :
    CallS Tryd.prog 30 [.agg [.val (.slice none 0 0), .val (.int .i64 x)], .val (.int .i64 k)] H (fun r H' => r = .val (.int .i64 k) ∧ H' = (H.push ⟨[.val (.slice none 0 0), .val (.int .i64 x)], true⟩)) := by
  refine CallS.of_body Tryd.func30 rfl (by kernel_rfl) (by simp [Tryd.ntmps30]) ?_
  refine SW_of_vc Tryd.mixed _ _ _ (by kernel_rfl) ?_
  simp (disch := omega) only [Tryd.ntmps30, Tryd.results30, go_sem, hset_map, hset_nb, hpush_map, hpush_nb]
  refine (Tryd.markIntS_nil k _ hk hk2).callDet ?_
  simp (disch := omega) only [Tryd.ntmps30, Tryd.results30, go_sem, hset_map, hset_nb, hpush_map, hpush_nb]
theorem Tryd.heldScoring_ok (L : List Int) (x k : Int) (hh : held L k = k + L.length) (hL : L.length ≤ 1099511627776) (hk : 0 ≤ k) (hk2 : k ≤ 1099511627776) : PCall Tryd.prog 31 [sS L x, .val (.int .i64 k)] (.val (.int .i64 (k + L.length))) := by
  refine FCall.pcall (R := fun r _ => r = .val (.int .i64 (k + L.length))) ?_ 0 (by rintro r H rfl; exact view_int)
  have w := Tryd.heldIntS_ok L k hL hk hk2
  rw [hh] at w
  refine FCall.of_body Tryd.func31 rfl (by kernel_rfl) (by simp [Tryd.ntmps31]) ?_
  refine SW_of_vc Tryd.mixed _ _ _ (by kernel_rfl) ?_
  simp (disch := omega) only [Tryd.ntmps31, Tryd.results31, go_sem]
  refine w.callV 0 (viewL_cons_of (view_row) (viewL_cons_of (view_int) viewL_nil_of)) ?_
  simp (disch := omega) only [Tryd.ntmps31, Tryd.results31, go_sem]
  exact Fin.val rfl
theorem Tryd.implPS_ok {t : List UInt8} (ht : t.length ≤ 1048576) {W : List Int} {b : Int} {u : Bool} (h : (psc t = some (W, b) ∧ u = true) ∨ (psc t = none ∧ W = [] ∧ b = 0 ∧ u = false)) : PCall Tryd.prog 29 [str t] (.tup [sS W b, .val (.bool u)]) := by
  refine (Tryd.implPS_f t ht).pcall 4 fun r H hr => ?_
  rw [ScR] at hr
  rcases h with ⟨h, rfl⟩ | ⟨h, rfl, rfl, rfl⟩
  · rw [h] at hr
    obtain ⟨r0, rfl, hf⟩ := hr
    have h1 : viewL H 3 [.agg [r0, .val (.int .i64 b)], .val (.bool true)] = some [sS W b, .val (.bool true)] := viewL_cons_of (view_agg (viewL_cons_of (flat_view hf) (viewL_cons_of view_int viewL_nil_of))) (viewL_cons_of view_bool viewL_nil_of)
    simp only [view, h1]
  · rw [h] at hr
    subst hr
    have h1 : viewL H 3 [.agg [.val (.slice none 0 0), .val (.int .i64 0)], .val (.bool false)] = some [sS [] 0, .val (.bool false)] := viewL_cons_of view_sNil (viewL_cons_of view_bool viewL_nil_of)
    simp only [view, h1]
set_option maxHeartbeats 16000000 in
theorem Tryd.exactParseScoring_ok (t : List UInt8) : PCall Tryd.prog 7 [str t] (.val (.bool true)) := by
  refine FCall.pcall (R := fun r _ => r = .val (.bool true)) ?_ 0 (by rintro r H rfl; exact view_bool)
  refine FCall.of_body Tryd.func7 rfl (by kernel_rfl) (by simp [Tryd.ntmps7]) ?_
  refine SW_of_vc Tryd.mixed _ _ _ (by kernel_rfl) ?_
  by_cases sL : 1048576 < t.length
  · simp (disch := omega) only [Tryd.ntmps7, Tryd.results7, go_sem]
    exact Fin.val rfl
  have ht : t.length ≤ 1048576 := by omega
  cases hp : psc t with
  | some q =>
    obtain ⟨W, b⟩ := q
    have h6 : W.length = 6 := by
      obtain ⟨h0, h1, _⟩ := psc_some hp
      exact (isSc_facts (fmtS_parts h1 h0).1).1
    have wS := Tryd.specPS_ok ht (.inl ⟨hp, rfl⟩)
    have wI := Tryd.implPS_ok ht (.inl ⟨hp, rfl⟩)
    have wT := ((Tryd.implPS_f t ht).mono (R' := fun r H => ∃ r0, r = .tup [.agg [r0, .val (.int .i64 b)], .val (.bool true)] ∧ FlatRes W.length 1 (ints W) r0 H) (fun r H hr => by rw [ScR, hp] at hr; exact hr)).oneS
    have wE := Tryd.eqScoring_ok W b (by omega)
    have wH := Tryd.heldScoring_ok (marks W.length 1) b 1 (by rw [marks_length]; exact held_marks _ _) (by rw [marks_length]; omega) (by omega) (by omega)
    rw [marks_length] at wH
    simp (disch := omega) only [Tryd.ntmps7, Tryd.results7, go_sem]
    refine wS.callV 0 (viewL_cons_of view_str viewL_nil_of) ?_
    simp (disch := omega) only [Tryd.ntmps7, Tryd.results7, go_sem]
    refine wT.callOneS (ints_vals _) 0 (viewL_cons_of view_str viewL_nil_of) ?_
    simp (disch := omega) only [Tryd.ntmps7, Tryd.results7, go_sem]
    refine wE.callV 2 (viewL_cons_of (view_sOwn (W := W) (e2 := false) (by first | rfl | (simp (disch := omega) only [hx_map, hp_map, xmap_blk, hmap_cons, xmap_skipI, xmap_nil, if_pos, if_neg, ↓reduceIte]; try rfl)) rfl) (viewL_cons_of view_sS viewL_nil_of)) ?_
    simp (disch := omega) only [Tryd.ntmps7, Tryd.results7, go_sem, decide_true, beq_self_eq_true, bne_self_eq_false]
    refine (Tryd.markScoring_ok W b 1 _ _ _ _ false false (by first | rfl | (simp (disch := omega) only [hx_map, hp_map, xmap_blk, hmap_cons, xmap_skipI, xmap_nil, if_pos, if_neg, ↓reduceIte]; try rfl)) (by show 1 < 3; omega) rfl (by omega) (by omega) (by omega)).callDet ?_
    simp (disch := omega) only [Tryd.ntmps7, Tryd.results7, go_sem]
    refine wH.callV 2 (viewL_cons_of (view_sOwn (W := marks W.length 1) (e2 := false) (by first | rfl | (simp (disch := omega) only [hx_map, hp_map, xmap_blk, hmap_cons, xmap_skipI, xmap_nil, if_pos, if_neg, ↓reduceIte]; try rfl)) (by first | rfl | omega | (simp [marks_length]; done) | (simp [marks_length]; omega) | (rw [marksT_length] <;> omega) | (rw [marksC_length] <;> omega))) (viewL_cons_of view_int viewL_nil_of)) ?_
    simp (disch := omega) only [Tryd.ntmps7, Tryd.results7, go_sem, bne_self_eq_false]
    refine wI.callV 2 (viewL_cons_of view_str viewL_nil_of) ?_
    simp (disch := omega) only [Tryd.ntmps7, Tryd.results7, go_sem]
    refine wE.callV 2 (viewL_cons_of view_sS (viewL_cons_of view_sS viewL_nil_of)) ?_
    simp (disch := omega) only [Tryd.ntmps7, Tryd.results7, go_sem, decide_true, beq_self_eq_true, bne_self_eq_false]
    refine wH.callV 2 (viewL_cons_of (view_sOwn (W := marks W.length 1) (e2 := false) (by first | rfl | (simp (disch := omega) only [hx_map, hp_map, xmap_blk, hmap_cons, xmap_skipI, xmap_nil, if_pos, if_neg, ↓reduceIte]; try rfl)) (by first | rfl | omega | (simp [marks_length]; done) | (simp [marks_length]; omega) | (rw [marksT_length] <;> omega) | (rw [marksC_length] <;> omega))) (viewL_cons_of view_int viewL_nil_of)) ?_
    simp (disch := omega) only [Tryd.ntmps7, Tryd.results7, go_sem, bne_self_eq_false]
    exact Fin.val rfl
  | none =>
    have wS := Tryd.specPS_ok ht (.inr ⟨hp, rfl, rfl, rfl⟩)
    have wI := Tryd.implPS_ok ht (.inr ⟨hp, rfl, rfl, rfl⟩)
    have wT := (Tryd.implPS_f t ht).mono (R' := fun r _ => r = .tup [.agg [.val (.slice none 0 0), .val (.int .i64 0)], .val (.bool false)]) (fun r H hr => by rw [ScR, hp] at hr; exact hr)
    have wE := Tryd.eqScoring_ok [] 0 (by simp)
    have wH := Tryd.heldScoring_ok [] 0 1 (by simp [held, marks]) (by simp) (by omega) (by omega)
    rw [List.length_nil] at wH
    simp (disch := omega) only [Tryd.ntmps7, Tryd.results7, go_sem]
    refine wS.callV 0 (viewL_cons_of view_str viewL_nil_of) ?_
    simp (disch := omega) only [Tryd.ntmps7, Tryd.results7, go_sem]
    refine wT.callSN 0 (viewL_cons_of view_str viewL_nil_of) ?_
    simp (disch := omega) only [Tryd.ntmps7, Tryd.results7, go_sem]
    refine wE.callV 2 (viewL_cons_of view_sNil (viewL_cons_of view_sS viewL_nil_of)) ?_
    simp (disch := omega) only [Tryd.ntmps7, Tryd.results7, go_sem, decide_true, beq_self_eq_true, bne_self_eq_false]
    refine (Tryd.markScoring_nil 0 1 _ (by omega) (by omega)).callDet ?_
    simp (disch := omega) only [Tryd.ntmps7, Tryd.results7, go_sem]
    refine wH.callV 2 (viewL_cons_of view_sNil (viewL_cons_of view_int viewL_nil_of)) ?_
    simp (disch := omega) only [Tryd.ntmps7, Tryd.results7, go_sem, bne_self_eq_false]
    refine wI.callV 2 (viewL_cons_of view_str viewL_nil_of) ?_
    simp (disch := omega) only [Tryd.ntmps7, Tryd.results7, go_sem]
    refine wE.callV 2 (viewL_cons_of view_sS (viewL_cons_of view_sS viewL_nil_of)) ?_
    simp (disch := omega) only [Tryd.ntmps7, Tryd.results7, go_sem, decide_true, beq_self_eq_true, bne_self_eq_false]
    refine wH.callV 2 (viewL_cons_of view_sNil (viewL_cons_of view_int viewL_nil_of)) ?_
    simp (disch := omega) only [Tryd.ntmps7, Tryd.results7, go_sem, bne_self_eq_false]
    exact Fin.val rfl
end Go.Sh

/-
  From the row's condition to the table of the powers of ten and the two sentinels of strconv.
-/
namespace Go.Sh
set_option linter.unusedSimpArgs false
set_option linter.unusedVariables false
open Go Go.Proofs

theorem iface_of_trod {H : Type} {enc : TypeId × Value → H} {P : Program} {w : World} {base : Nat} {sp : Nat → Bool} {held : Bool} {fuel : Nat} {t : TypeId} {ms : Array (String × TypeId)} {cs : List Value} {d : DataW H} {p : List MemPlace} (hu : P.underlying t = some (.interface ms))
    (h : DataW.trod enc P w base sp held fuel t cs = some (d, p)) : ∃ v, cs = [v] ∧ ErrV v := by
  cases fuel with
  | zero => simp [DataW.trod] at h
  | succ fuel =>
    rcases cs with _ | ⟨v, _ | ⟨v2, r⟩⟩
    · simp [DataW.trod, hu] at h
    · cases v <;> first | exact ⟨_, rfl, .inl rfl⟩ | exact ⟨_, rfl, .inr ⟨_, _, rfl⟩⟩ | simp [DataW.trod, hu] at h
    · simp [DataW.trod, hu] at h
theorem Tryd.errSG : Tryd.prog.globalNamed "strconv.ErrSyntax" = some 1 := by kernel_rfl
theorem Tryd.errRG : Tryd.prog.globalNamed "strconv.ErrRange" = some 2 := by kernel_rfl
theorem Tryd.ifu : ∃ ms, Tryd.prog.underlying 87 = some (.interface ms) := isIface_t Tryd.ty.if87
theorem Tryd.errOf {W : World} {n : String} {d : DataW Unit} {g : Nat} (hg : Tryd.prog.globalNamed n = some g) (ht : (Tryd.prog.globals[g]?).map (·.type) = some 87) (h : Lib.VarReads Tryd.prog W n d) :
    (∃ (c : Array Value) (e : TypeId) (fr : Nat × Nat), W.heap[g]? = some (.cells c e fr) ∧ c.size = 1) ∧ ∃ v, W.cell? ⟨g, 0, none⟩ = some v ∧ ErrV v := by
  obtain ⟨g', t, cs, fuel, p, e1, e2, e3, e4⟩ := h
  obtain rfl := Option.some.inj (hg.symm.trans e1)
  obtain rfl := Option.some.inj (ht.symm.trans e2)
  obtain ⟨ms, hu⟩ := Tryd.ifu
  obtain ⟨v, hc, hv⟩ := iface_of_trod hu e4
  have hsz : cs.size = 1 := by
    have := congrArg List.length hc
    simpa using this
  have e5 := e3
  simp only [World.var?, hg, Option.bind_some] at e3
  split at e3
  · rename_i cs' e fr hh
    obtain rfl := Option.some.inj e3
    refine ⟨⟨_, _, _, hh, hsz⟩, v, ?_, hv⟩
    rw [World.var?_cell hg e5 0, ← Array.getElem?_toList, hc]; rfl
  · cases e3
theorem Tryd.tabOkE {W : World} {l : List (String × DataW Unit)} (h : laidMetH Tryd.prog l W) (hp : (l.all fun x => x.2.handleName?.isNone) = true) (hm : ("internal/strconv.uint64pow10", Go.Proofs.YtkmckbjgffaieaaDoor.Rows.laid_internal_strconv_uint64pow10) ∈ l)
    (hes : ("strconv.ErrSyntax", Go.Proofs.YtkmckbjgffaieaaDoor.Rows.laid_strconv_ErrSyntax) ∈ l) (her : ("strconv.ErrRange", Go.Proofs.YtkmckbjgffaieaaDoor.Rows.laid_strconv_ErrRange) ∈ l) : TabOk (fun _ => False) W := by
  rw [MakeChecks.laidMetH_plain _ _ _ hp] at h
  have hs := Tryd.errOf Tryd.errSG (by kernel_rfl) (Lib.laidMet.reads h hes)
  have hr := Tryd.errOf Tryd.errRG (by kernel_rfl) (Lib.laidMet.reads h her)
  obtain ⟨g, t, cs, fuel, p, e1, e2, e3, e4⟩ := Lib.laidMet.reads h hm
  obtain rfl := Option.some.inj (Tryd.powG.symm.trans e1)
  obtain rfl := Option.some.inj ((show (Tryd.prog.globals[3]?).map (·.type) = some 133 by kernel_rfl).symm.trans e2)
  have hd : (Go.Proofs.YtkmckbjgffaieaaDoor.Rows.laid_internal_strconv_uint64pow10 : DataW Unit) = Lib.tabData .u64 Lib.pow10Tab := by kernel_rfl
  rw [hd] at e4
  have hc := Lib.cells_of_tab Tryd.underlying133 Tryd.underlying118 (by kernel_rfl) (by kernel_rfl) e4
  have hsz : cs.size = 20 := by
    have := congrArg List.length hc
    simpa [Lib.pow10Tab] using this
  have e5 := e3
  simp only [World.var?, Tryd.powG, Option.bind_some] at e3
  split at e3
  · rename_i cs' e fr hh
    obtain rfl := Option.some.inj e3
    intro p hp
    simp only [TABS, List.mem_cons, List.not_mem_nil, or_false] at hp
    rcases hp with rfl | rfl | rfl
    · refine ⟨⟨_, _, _, hh, by simpa using hsz⟩, fun i Q hq => ?_⟩
      simp only [List.getElem?_map, Option.map_eq_some_iff] at hq
      obtain ⟨k, hk, rfl⟩ := hq
      have hi : i < 20 := by
        have := (List.getElem?_eq_some_iff.1 hk).1
        simpa using this
      obtain rfl : i = k := by simpa [hi] using hk
      refine ⟨_, ?_, rfl, fun h => h⟩
      rw [World.var?_cell Tryd.powG e5 i, ← Array.getElem?_toList, hc]
      simp [Lib.pow10Tab, hi]
    · obtain ⟨⟨c, e, fr, h1, h2⟩, v, h3, h4⟩ := hs
      refine ⟨⟨c, e, fr, h1, h2⟩, fun i Q hq => ?_⟩
      cases i with
      | zero => simp only [List.getElem?_cons_zero, Option.some.injEq] at hq; subst hq; exact ⟨v, h3, h4, fun h => h⟩
      | succ i => simp at hq
    · obtain ⟨⟨c, e, fr, h1, h2⟩, v, h3, h4⟩ := hr
      refine ⟨⟨c, e, fr, h1, h2⟩, fun i Q hq => ?_⟩
      cases i with
      | zero => simp only [List.getElem?_cons_zero, Option.some.injEq] at hq; subst hq; exact ⟨v, h3, h4, fun h => h⟩
      | succ i => simp at hq
  · cases e3
end Go.Sh
