/-
  Texts put together: W1, G2, PW2, Shelf, FI1, FI2, CT1, CT2, PW3, PW4, TB1, J2, PP2, V2, N1, K2, K3. What each proves stands at its own head, with its conditions.
-/
import Derived.Test.YtihglnbaoadmcaaGreatDoorZBuildWeights1
import Derived.Lib.FieldsP
import Derived.Lib.TrimAscii
import Derived.Lib.OthersKept
import Derived.Shelf.Strings.Builder1
import Derived.Shelf.Strings.Builder2
import Derived.Shelf.Strings.OnBuilder
import Derived.Shelf.Small.Bits
import Derived.Shelf.Small.Strs
import Derived.Shelf.Strings.BuilderF
import Derived.Shelf.Strings.BuilderK
import Derived.Shelf.Strings.Builder2Cap
import Derived.Shelf.Strconv.Atoi
import Derived.Shelf.Strconv.Itoa0
import Derived.Shelf.Strconv.Itoa1
import Derived.Shelf.LaysM
import Derived.Shelf.Strconv.Itoa2
import Derived.Shelf.Strconv.Itoa3
import Derived.Shelf.Strconv.AtoiErrFast
import Derived.Shelf.Strconv.ParseIntEmpty
import Derived.Shelf.Strconv.AtoiFail
import Derived.Shelf.Strconv.Clone
import Derived.Shelf.Strconv.SyntaxError
import Derived.Shelf.LaysC
import Derived.Shelf.Strconv.ToError
import Derived.Shelf.Strconv.AtoiErr
import Derived.Shelf.Strconv.Lower
import Derived.Shelf.Strconv.AtoiLong
import Derived.Shelf.Strconv.AtoiInnerAll
import Derived.Shelf.Strconv.RangeError
import Derived.Shelf.Strconv.ToErrorRange
import Derived.Shelf.Strconv.AtoiAll
import Derived.Shelf.Strconv.ErrVarAll
import Derived.Shelf.Strings.Search1
import Derived.Shelf.Strings.Search2
import Derived.Shelf.Strings.Search3
import Derived.Shelf.Strings.Count
import Derived.Shelf.Strings.Shaped
import Derived.Shelf.Sort.Plain
import Derived.Shelf.Strings.Prefix
import Derived.Shelf.Strings.Split
import Derived.Shelf.Strings.Replace
import Derived.Shelf.Strings.SplitShaped
import Derived.Shelf.Strings.RuneCount
import Derived.Shelf.Strings.IndexAny
import Derived.Shelf.Strings.AsciiSet
import Derived.Shelf.Strings.IndexAnyAll
import Derived.Shelf.Strings.FieldsFuncAny
import Derived.Shelf.Strings.FieldsFuncGrows
import Derived.Shelf.Strings.BuilderCap
import Derived.Ground.Names2Prog
import Derived.Shelf.Slices.Clone
import Derived.Shelf.Slices.CompactS
import Derived.Shelf.Slices.Cells
import Derived.Shelf.Slices.In.SortNone
import Derived.Ground.SlgnProg
import Derived.Shelf.SlicesE.Clone
import Derived.Test.YtihglnbaoadmcaaGreatDoorProg
import Derived.Lib.IndexLaws
import Derived.Lib.LaidTab

/-
  Plain law of texts: normal forms, words.
-/
namespace Go.Sh
set_option linter.unusedSimpArgs false
set_option linter.unusedVariables false
open Go Go.Proofs

def isTx (l : List UInt8) : Bool := l.all (fun c => decide (32 ≤ c.toNat) && decide (c.toNat ≤ 126)) && decide (l.length ≤ 40)
def isFd (l : List UInt8) : Bool := isTx l && l.all (fun c => c != 124 && c != 59)
def isSm (c : UInt8) : Bool := decide (97 ≤ c.toNat) && decide (c.toNat ≤ 122)
def isDg (c : UInt8) : Bool := decide (48 ≤ c.toNat) && decide (c.toNat ≤ 57)
def isCp (c : UInt8) : Bool := decide (65 ≤ c.toNat) && decide (c.toNat ≤ 90)
def isWd (c : UInt8) : Bool := isSm c || isCp c || isDg c
def fc (c : UInt8) : UInt8 := if isCp c = true then UInt8.ofNat (c.toNat + 32) else c
def fw (c : UInt8) : UInt8 := if isWd c = true then c else 32
def stp (l : List UInt8) : List UInt8 := (l.filter fun c => c != 39).map fw
def csp (p : List UInt8 × Bool) (c : UInt8) : List UInt8 × Bool := if c = 32 then (p.1, true) else (if p.1 ≠ [] ∧ p.2 = true then p.1 ++ [32, c] else p.1 ++ [c], false)
def clp2 (l : List UInt8) : List UInt8 × Bool := l.foldl csp ([], false)
def clp (l : List UInt8) : List UInt8 := (clp2 l).1
def nrm (l : List UInt8) : List UInt8 := clp (stp (l.map fc))
theorem stp_length (l : List UInt8) : (stp l).length ≤ l.length := by
  rw [stp, List.length_map]; exact List.length_filter_le _ _
theorem take_at {α : Type} {l : List α} {k : Nat} (d : α) (h : k < l.length) : l.take (k + 1) = l.take k ++ [l.getD k d] := by
  rw [List.take_add_one, List.getElem?_eq_getElem h]; simp [List.getD, h]
theorem clp2_at {l : List UInt8} {k : Nat} (h : k < l.length) : clp2 (l.take (k + 1)) = csp (clp2 (l.take k)) (l.getD k 0) := by
  rw [take_at 0 h, clp2, List.foldl_append]; rfl
theorem csp_b (p : List UInt8 × Bool) (c : UInt8) : (csp p c).2 = (c == 32) := by
  by_cases h : c = 32
  · rw [csp, if_pos h, h]; rfl
  · rw [csp, if_neg h]; simp [h]
theorem clp2_sp {l : List UInt8} {k : Nat} (h : k < l.length) : (clp2 (l.take (k + 1))).2 = (l.getD k 0 == 32) := by rw [clp2_at h, csp_b]
/-- The output's last byte is no space; no byte is new. -/
theorem clp2_inv {l : List UInt8} : ∀ k, k ≤ l.length → (∀ c, (clp2 (l.take k)).1.getLast? = some c → c ≠ 32) ∧ (∀ c ∈ (clp2 (l.take k)).1, c ∈ l ∨ c = 32) ∧ (clp2 (l.take k)).1.length + (if (clp2 (l.take k)).2 = true then 1 else 0) ≤ k
  | 0, _ => by simp [clp2]
  | k + 1, h => by
    obtain ⟨h1, h2, h3⟩ := clp2_inv (l := l) k (by omega)
    have hm : l.getD k 0 ∈ l := by simp [List.getD, (by omega : k < l.length)]
    rw [clp2_at (by omega)]
    generalize clp2 (l.take k) = p at *
    by_cases hc : l.getD k 0 = 32
    · rw [csp, if_pos hc]
      refine ⟨h1, h2, ?_⟩
      simp only [↓reduceIte]
      split at h3 <;> omega
    · rw [csp, if_neg hc]
      by_cases hb : p.1 ≠ [] ∧ p.2 = true
      · simp only [if_pos hb]
        refine ⟨fun c hl => ?_, fun c hcm => ?_, ?_⟩
        · simp at hl; subst hl; exact hc
        · simp only [List.mem_append, List.mem_cons, List.not_mem_nil, or_false] at hcm
          rcases hcm with hcm | rfl | rfl
          · exact h2 c hcm
          · exact .inr rfl
          · exact .inl hm
        · simp only [hb.2, ↓reduceIte] at h3
          simp; omega
      · simp only [if_neg hb]
        refine ⟨fun c hl => ?_, fun c hcm => ?_, ?_⟩
        · simp at hl; subst hl; exact hc
        · simp only [List.mem_append, List.mem_cons, List.not_mem_nil, or_false] at hcm
          rcases hcm with hcm | rfl
          · exact h2 c hcm
          · exact .inl hm
        · simp; split at h3 <;> omega
theorem clp_eq (l : List UInt8) : clp l = (clp2 (l.take l.length)).1 := by rw [List.take_length]; rfl
theorem clp_mem {l : List UInt8} {c : UInt8} (h : c ∈ clp l) : c ∈ l ∨ c = 32 := by rw [clp_eq] at h; exact (clp2_inv l.length (Nat.le_refl _)).2.1 c h
theorem clp_length (l : List UInt8) : (clp l).length ≤ l.length := by rw [clp_eq]; have := (clp2_inv (l := l) l.length (Nat.le_refl _)).2.2; omega
theorem nrm_length (l : List UInt8) : (nrm l).length ≤ l.length := by
  have h1 := clp_length (stp (l.map fc)); have h2 := stp_length (l.map fc); rw [List.length_map] at h2; rw [nrm]; omega
/-- The way with a space that is taken off at the end. -/
def clo (p : List UInt8 × Bool) : List UInt8 := if p.1 ≠ [] ∧ p.2 = true then p.1 ++ [32] else p.1
theorem clo_csp {p : List UInt8 × Bool} {c : UInt8} (h : ∀ c, p.1.getLast? = some c → c ≠ 32) : (if c ≠ 32 ∨ (clo p ≠ [] ∧ (clo p).getLast? ≠ some 32) then clo p ++ [c] else clo p) = clo (csp p c) := by
  by_cases hc : c = 32
  · subst hc
    rw [csp, if_pos rfl]
    by_cases hb : p.1 ≠ [] ∧ p.2 = true
    · have e : clo p = p.1 ++ [32] := if_pos hb
      rw [e, if_neg (by simp)]
      rw [clo, if_pos ⟨hb.1, rfl⟩]
    · have e : clo p = p.1 := if_neg hb
      rw [e]
      by_cases h0 : p.1 = []
      · rw [if_neg (by simp [h0]), clo, if_neg (by simp [h0])]
      · rw [if_pos (.inr ⟨h0, fun hl => h 32 hl rfl⟩), clo, if_pos ⟨h0, rfl⟩]
  · rw [if_pos (.inl hc), csp, if_neg hc]
    by_cases hb : p.1 ≠ [] ∧ p.2 = true
    · rw [clo, if_pos hb, if_pos hb, clo, if_neg (by simp)]; simp
    · rw [clo, if_neg hb, if_neg hb, clo, if_neg (by simp)]
theorem clo_trim {p : List UInt8 × Bool} (h : ∀ c, p.1.getLast? = some c → c ≠ 32) : Lib.trimSuffix (clo p) [32] = p.1 := by
  rw [Lib.trimSuffix]
  by_cases hb : p.1 ≠ [] ∧ p.2 = true
  · rw [clo, if_pos hb, if_pos (by simp [Lib.hasSuffix])]; simp
  · rw [clo, if_neg hb, if_neg]
    intro hs
    simp only [Lib.hasSuffix, List.isSuffixOf_iff_suffix] at hs
    obtain ⟨t, ht⟩ := hs
    exact h 32 (by rw [← ht]; simp) rfl

/-! ### The bytes of a normal form -/
theorem fc_nc (c : UInt8) : isCp (fc c) = false := by
  unfold fc
  split
  · rename_i h
    simp only [isCp, Bool.and_eq_true, decide_eq_true_eq] at h ⊢
    simp only [Bool.and_eq_false_iff, decide_eq_false_iff_not]
    rw [UInt8.toNat_ofNat']; omega
  · rename_i h; simpa using h
theorem nrm_mem {l : List UInt8} {c : UInt8} (h : c ∈ nrm l) : (isSm c || isDg c) = true ∨ c = 32 := by
  rcases clp_mem h with h | h
  · simp only [stp, List.mem_map, List.mem_filter] at h
    obtain ⟨x, ⟨⟨y, _, rfl⟩, _⟩, rfl⟩ := h
    unfold fw
    split
    · rename_i hw
      have := fc_nc y
      simp only [isWd, this, Bool.or_false] at hw
      exact .inl hw
    · exact .inr rfl
  · exact .inr h
/-- The words of a text. -/
def wds (t : List UInt8) : List (List UInt8) := (cutL 32 t).filter fun w => w != []
theorem cutL_mem {c : UInt8} : ∀ {t w : List UInt8}, w ∈ cutL c t → ∀ x ∈ w, x ∈ t ∧ x ≠ c
  | [], w, h, x, hx => by
    simp [cutL] at h; subst h; simp at hx
  | a :: t, w, h, x, hx => by
    obtain ⟨p, ps, e⟩ := cutL_ne c t
    by_cases ha : a = c
    · subst ha
      have e2 : cutL a (a :: t) = [] :: cutL a t := cutL_app (p := []) (s := t) (by simp)
      rw [e2] at h
      rcases List.mem_cons.1 h with rfl | h
      · simp at hx
      · obtain ⟨h1, h2⟩ := cutL_mem h x hx
        exact ⟨List.mem_cons_of_mem _ h1, h2⟩
    · have e2 : cutL c (a :: t) = (a :: p) :: ps := by
        simp only [cutL, e]
        simp [ha]
      rw [e2] at h
      rcases List.mem_cons.1 h with rfl | h
      · rcases List.mem_cons.1 hx with rfl | hx
        · exact ⟨by simp, ha⟩
        · obtain ⟨h1, h2⟩ := cutL_mem (w := p) (by rw [e]; simp) x hx
          exact ⟨List.mem_cons_of_mem _ h1, h2⟩
      · obtain ⟨h1, h2⟩ := cutL_mem (w := w) (by rw [e]; simp [h]) x hx
        exact ⟨List.mem_cons_of_mem _ h1, h2⟩
def isTk (w : List UInt8) : Bool := w != [] && w.all fun c => isSm c || isDg c
theorem wds_nrm {l w : List UInt8} (h : w ∈ wds (nrm l)) : isTk w = true := by
  simp only [wds, List.mem_filter] at h
  simp only [isTk, Bool.and_eq_true, List.all_eq_true]
  refine ⟨h.2, fun c hc => ?_⟩
  obtain ⟨h1, h2⟩ := cutL_mem h.1 c hc
  rcases nrm_mem h1 with h3 | h3
  · exact h3
  · exact absurd h3 h2
theorem wds_nil : wds [] = [] := by simp [wds, cutL]
theorem wds_sp (t : List UInt8) : wds (32 :: t) = wds t := by
  have e2 : cutL 32 (32 :: t) = [] :: cutL 32 t := cutL_app (p := []) (s := t) (by simp)
  rw [wds, e2]; simp [wds]
theorem wds_app {p t : List UInt8} (h : (32 : UInt8) ∉ p) (h0 : p ≠ []) : wds (p ++ 32 :: t) = p :: wds t := by
  rw [wds, cutL_app h]; simp [h0, wds]
theorem wds_one {p : List UInt8} (h : (32 : UInt8) ∉ p) (h0 : p ≠ []) : wds p = [p] := by
  rw [wds, cutL_none h]; simp [h0]
theorem spans_on {pr : Nat → Bool} {s : ByteArray} {f pos x : Nat} {st : Option Nat} {acc : List (Nat × Nat)} (h : pos < s.size) (hd : Utf8.decode s pos = (x, 1)) :
    Lib.spansFromP pr s (f + 1) pos st acc = if pr x = true then Lib.spansFromP pr s f (pos + 1) none (match st with | some a => acc ++ [(a, pos)] | none => acc) else Lib.spansFromP pr s f (pos + 1) (some (st.getD pos)) acc := by
  conv => lhs; unfold Lib.spansFromP
  rw [if_pos h, hd]
  cases st <;> rfl
/-- strings.FieldsFunc at bytes below 128, at the space. -/
theorem spans_eq {t : List UInt8} (ha : ∀ c ∈ t, c.toNat < 128) (pr : Nat → Bool) (hp : ∀ x, pr x = decide (x = 32)) : ∀ f pos st acc, t.length ≤ pos + f → pos ≤ t.length →
    (∀ a, st = some a → a < pos ∧ (32 : UInt8) ∉ (t.drop a).take (pos - a)) →
    (Lib.closeSpans (sb t) (Lib.spansFromP pr (sb t) f pos st acc)).map (fun x => (sb t).extract x.1 x.2) = acc.map (fun x => (sb t).extract x.1 x.2) ++ (wds (t.drop (st.getD pos))).map sb
  | f, pos, st, acc, h1, h2, h3 => by
    by_cases hlt : pos < t.length
    · cases f with
      | zero => omega
      | succ f =>
        have hsz : pos < (sb t).size := by rw [sb_size]; exact hlt
        have hd : Utf8.decode (sb t) pos = ((t.getD pos 0).toNat, 1) := by
          have e : (sb t)[pos]'hsz = t.getD pos 0 := by simp [sb, ByteArray.getElem_eq_getElem_data, List.getD, hlt]
          have hb : (t.getD pos 0).toNat < 128 := ha _ (by simp [List.getD, hlt])
          rw [decode_ascii _ _ hsz (by rw [e]; exact hb), e]
        have hdr : t.drop pos = t.getD pos 0 :: t.drop (pos + 1) := by
          rw [List.drop_eq_getElem_cons hlt]; simp [List.getD, hlt]
        have hdec : pr (t.getD pos 0).toNat = decide (t.getD pos 0 = 32) := by
          rw [hp]; congr 1; rw [← UInt8.toNat_inj]; rfl
        rw [spans_on hsz hd, hdec]
        by_cases hc : t.getD pos 0 = 32
        · rw [if_pos (by simpa using hc)]
          cases st with
          | some a =>
            obtain ⟨g1, g2⟩ := h3 a rfl
            rw [spans_eq ha pr hp f (pos + 1) none _ (by omega) (by omega) (fun a h => by cases h)]
            have e : t.drop a = (t.drop a).take (pos - a) ++ 32 :: t.drop (pos + 1) := by
              conv => lhs; rw [← List.take_append_drop (pos - a) (t.drop a)]
              rw [List.drop_drop, show a + (pos - a) = pos by omega, hdr, hc]
            simp only [Option.getD_some, Option.getD_none, List.map_append, List.append_assoc]
            congr 1
            rw [e, wds_app g2 (by intro h0; have := congrArg List.length h0; simp at this; omega)]
            simp [sb_extract]
          | none =>
            rw [spans_eq ha pr hp f (pos + 1) none _ (by omega) (by omega) (fun a h => by cases h)]
            simp only [Option.getD_none]
            rw [hdr, hc, wds_sp]
        · rw [if_neg (by simpa using hc)]
          cases st with
          | some a =>
            obtain ⟨g1, g2⟩ := h3 a rfl
            simp only [Option.getD_some]
            rw [spans_eq ha pr hp f (pos + 1) (some a) _ (by omega) (by omega) (fun a' h => by
              cases h
              refine ⟨by omega, ?_⟩
              rw [show pos + 1 - a = (pos - a) + 1 by omega, take_at 0 (by rw [List.length_drop]; omega)]
              simp only [List.mem_append, List.mem_singleton, not_or]
              refine ⟨g2, fun h => hc ?_⟩
              rw [h]; simp [List.getD, List.getElem?_drop, show a + (pos - a) = pos by omega])]
            rfl
          | none =>
            simp only [Option.getD_none]
            rw [spans_eq ha pr hp f (pos + 1) (some pos) _ (by omega) (by omega) (fun a' h => by
              cases h
              refine ⟨by omega, ?_⟩
              rw [show pos + 1 - pos = 0 + 1 by omega, hdr]
              simp only [List.take_succ_cons, List.take_zero, List.mem_singleton]
              exact fun h => hc h.symm)]
            rfl
    · have e : pos = t.length := by omega
      have hsz : ¬ pos < (sb t).size := by rw [sb_size]; omega
      rw [Lib.spansFromP_end _ _ _ _ _ _ hsz]
      cases st with
      | some a =>
        obtain ⟨g1, g2⟩ := h3 a rfl
        have e2 : (t.drop a).take (pos - a) = t.drop a := List.take_of_length_le (by rw [List.length_drop]; omega)
        rw [e2] at g2
        simp only [Lib.closeSpans, List.map_append, List.map_cons, List.map_nil, Option.getD_some]
        rw [wds_one g2 (by intro h0; have := congrArg List.length h0; simp at this; omega)]
        simp only [sb_size, sb_extract, List.map_cons, List.map_nil]
        rw [List.take_of_length_le (by rw [List.length_drop]; omega)]
      | none =>
        simp only [Lib.closeSpans, Option.getD_none]
        rw [List.drop_of_length_le (by omega), wds_nil]; simp
theorem fields_eq {t : List UInt8} (ha : ∀ c ∈ t, c.toNat < 128) (pr : Nat → Bool) (hp : ∀ x, pr x = decide (x = 32)) : Lib.goFieldsP pr (sb t) = (wds t).map sb := by
  rw [Lib.goFieldsP, Lib.spansOfP, sb_size, spans_eq ha pr hp t.length 0 none [] (by omega) (by omega) (fun a h => by cases h)]
  simp
end Go.Sh

/-
  Contracts: are these constraints? Of the reference and of the program.
-/
namespace Go.Sh
set_option linter.unusedSimpArgs false
set_option linter.unusedVariables false
open Go Go.Proofs

theorem cap_rptr (cs : List SV) (off : Nat) : ∀ H fu, viewL H fu [.rptr cs off] = some [.rptr cs off] := fun _ _ => viewL_cons_of view_rptr viewL_nil_of

end Go.Sh

/-
  Contracts: vectors of features, scorings, the score of a pair.
-/
namespace Go.Sh
set_option linter.unusedSimpArgs false
set_option linter.unusedVariables false
open Go Go.Proofs

/-- Where the first element is that meets a test. -/
def fx {α : Type} (pr : α → Bool) (L : List α) : Int := match L.findIdx? pr with | some i => (i : Int) | none => -1
theorem fx_none {α : Type} {pr : α → Bool} {L : List α} (d : α) (h : ∀ i, i < L.length → pr (L.getD i d) = false) : fx pr L = -1 := by
  have : L.findIdx? pr = none := by
    rw [List.findIdx?_eq_none_iff]
    intro x hx
    obtain ⟨i, hi, e⟩ := List.getElem_of_mem hx
    have := h i hi
    simpa [hi, e] using this
  rw [fx, this]
theorem fx_some {α : Type} {pr : α → Bool} {L : List α} (d : α) {k : Nat} (hk : k < L.length) (h : ∀ i, i < k → pr (L.getD i d) = false) (e : pr (L.getD k d) = true) : fx pr L = k := by
  have : L.findIdx? pr = some k := by
    rw [List.findIdx?_eq_some_iff_getElem]
    refine ⟨hk, by simpa [hk] using e, fun j hj => ?_⟩
    have hj' : j < L.length := by omega
    have := h j hj
    simp [hj'] at this
    simp [this]
  rw [fx, this]
theorem fx_ge {α : Type} (pr : α → Bool) (L : List α) : (0 ≤ fx pr L) ↔ L.any pr = true := by
  rw [fx]
  cases h : L.findIdx? pr with
  | none =>
    rw [List.findIdx?_eq_none_iff] at h
    constructor
    · intro e; simp at e
    · intro e
      obtain ⟨x, hx, h1⟩ := List.any_eq_true.1 e
      rw [h x hx] at h1; cases h1
  | some i =>
    rw [List.findIdx?_eq_some_iff_getElem] at h
    obtain ⟨hi, h1, _⟩ := h
    simp only [Int.natCast_nonneg, true_iff, List.any_eq_true]
    exact ⟨L[i], List.getElem_mem hi, h1⟩
theorem any_not {α : Type} {L : List α} {p : α → Bool} : (!L.any fun c => !p c) = L.all p := by
  induction L with
  | nil => rfl
  | cons c C ih => simp only [List.any_cons, List.all_cons, ← ih]; cases p c <;> simp
theorem all_getD {α : Type} {L : List α} {p : α → Bool} (d : α) : L.all p = true ↔ ∀ i, i < L.length → p (L.getD i d) = true := by
  rw [List.all_eq_true]
  constructor
  · intro h i hi
    have := h L[i] (List.getElem_mem hi)
    simpa [hi] using this
  · intro h x hx
    obtain ⟨i, hi, e⟩ := List.getElem_of_mem hx
    have := h i hi
    simpa [hi, e] using this
theorem all_not {α : Type} {L : List α} {p : α → Bool} (d : α) {i : Nat} (hi : i < L.length) (h : p (L.getD i d) = false) : L.all p = false := by
  cases hc : L.all p with
  | false => rfl
  | true => rw [(all_getD d).1 hc i hi] at h; cases h

set_option maxHeartbeats 1000000 in
theorem Tryz.indexFuncI_ok (f : FuncId) (cap : List SV) (L : List Int) (pr : Int → Bool) (hL : L.length ≤ 1048576) (hcap : ∀ H fu, viewL H fu cap = some cap)
    (hf : ∀ x, PCall Tryz.prog f (.val (.int .i64 x) :: cap) (.val (.bool (pr x)))) :
    PCall Tryz.prog 178 [ri L, .clos (.func f) [] cap] (.val (.int .i64 (fx pr L))) := by
  refine FCall.pcall (R := fun r _ => r = .val (.int .i64 (fx pr L))) ?_ 0 (by rintro r H rfl; exact view_int)
  refine FCall.of_body Tryz.func178 rfl (by kernel_rfl) (by simp [Tryz.ntmps178]) ?_
  refine SW_of_vc Tryz.mixed _ _ _ (by kernel_rfl) ?_
  have lC := ints_length L
  simp (disch := omega) only [Tryz.ntmps178, Tryz.results178, go_sem]
  refine LoopW.loop (fun k : Nat => ⟨ofL [(0, ri L), (1, .clos (.func f) [] cap), (7, .val (.int .i64 L.length)), (8, .val (.int .i64 k))], hp [] 0⟩) (fun k => k ≤ L.length ∧ ∀ i, i < k → pr (L.getD i 0) = false) (fun k => L.length - k) 0 ⟨by omega, by simp⟩ (Wk.of (by simp only [go_sem, ↓List.forall_mem_cons, List.not_mem_nil, false_implies, implies_true, and_true, true_and, and_self, ri_eq, Int.natCast_add, Int.cast_ofNat_Int]; try simp) rfl) ?_
  rintro k ⟨hk, hkk⟩
  refine SW_of_vc Tryz.mixed _ _ _ (by kernel_rfl) ?_
  by_cases hlt : k < L.length
  · have gk : (ints L)[k]? = some (.val (.int .i64 (L.getD k 0))) := ints_get hlt
    simp (disch := omega) only [Tryz.ntmps178, Tryz.results178, go_sem, gk, lC]
    refine (hf _).callV 1 (viewL_cons_of view_int (hcap _ _)) ?_
    cases he : pr (L.getD k 0) with
    | true =>
      simp (disch := omega) only [Tryz.ntmps178, Tryz.results178, go_sem]
      exact Fin.val (by rw [fx_some 0 hlt hkk he])
    | false =>
      simp (disch := omega) only [Tryz.ntmps178, Tryz.results178, go_sem]
      refine ⟨k + 1, ⟨by omega, fun i hi => ?_⟩, by omega, Wk.of (by simp only [go_sem, ↓List.forall_mem_cons, List.not_mem_nil, false_implies, implies_true, and_true, true_and, and_self, ri_eq, Int.natCast_add, Int.cast_ofNat_Int]; try simp) rfl⟩
      rcases Nat.lt_succ_iff_lt_or_eq.mp hi with h | rfl
      · exact hkk i h
      · exact he
  · simp (disch := omega) only [Tryz.ntmps178, Tryz.results178, go_sem]
    exact Fin.val (by rw [fx_none 0 (fun i hi => hkk i (by omega))])
theorem Tryz.containsFuncI_ok (f : FuncId) (cap : List SV) (L : List Int) (pr : Int → Bool) (hL : L.length ≤ 1048576) (hcap : ∀ H fu, viewL H fu cap = some cap)
    (hf : ∀ x, PCall Tryz.prog f (.val (.int .i64 x) :: cap) (.val (.bool (pr x)))) :
    PCall Tryz.prog 135 [ri L, .clos (.func f) [] cap] (.val (.bool (L.any pr))) := by
  refine FCall.pcall (R := fun r _ => r = .val (.bool (L.any pr))) ?_ 0 (by rintro r H rfl; exact view_bool)
  refine FCall.of_body Tryz.func135 rfl (by kernel_rfl) (by simp [Tryz.ntmps135]) ?_
  have w := Tryz.indexFuncI_ok f cap L pr hL hcap hf
  have hg := fx_ge pr L
  generalize fx pr L = q at *
  refine SW_of_vc Tryz.mixed _ _ _ (by kernel_rfl) ?_
  cases h : L.any pr with
  | true =>
    have := hg.mpr h
    simp (disch := omega) only [Tryz.ntmps135, Tryz.results135, go_sem]
    refine w.callV 1 (viewL_cons_of view_row (viewL_cons_of (view_clos (hcap _ _)) viewL_nil_of)) ?_
    simp (disch := omega) only [Tryz.ntmps135, Tryz.results135, go_sem]
    exact Fin.val rfl
  | false =>
    have : ¬ 0 ≤ q := fun e => by rw [hg.mp e] at h; cases h
    simp (disch := omega) only [Tryz.ntmps135, Tryz.results135, go_sem]
    refine w.callV 1 (viewL_cons_of view_row (viewL_cons_of (view_clos (hcap _ _)) viewL_nil_of)) ?_
    simp (disch := omega) only [Tryz.ntmps135, Tryz.results135, go_sem]
    exact Fin.val rfl

/-! ### Vectors of features -/
def isFV (f : List Int) : Bool := decide (f.length = 6) && f.all fun x => inR x 0 1000
theorem isFV_t {f : List Int} (h : isFV f = true) : f.length = 6 ∧ ∀ i, i < 6 → 0 ≤ f.getD i 0 ∧ f.getD i 0 ≤ 1000 := by
  rw [isFV, Bool.and_eq_true] at h
  have hl := of_decide_eq_true h.1
  exact ⟨hl, fun i hi => inR_of ((all_getD 0).1 h.2 i (by omega))⟩
theorem Tryz.implFV1_ok (x : Int) : PCall Tryz.prog 136 [.val (.int .i64 x)] (.val (.bool (!inR x 0 1000))) := by
  refine FCall.pcall (R := fun r _ => r = .val (.bool (!inR x 0 1000))) ?_ 0 (by rintro r H rfl; exact view_bool)
  refine FCall.of_body Tryz.func136 rfl (by kernel_rfl) (by simp [Tryz.ntmps136]) ?_
  have w := Tryz.within_ok x 0 1000
  refine SW_of_vc Tryz.mixed _ _ _ (by kernel_rfl) ?_
  simp (disch := omega) only [Tryz.ntmps136, Tryz.results136, go_sem]
  refine w.callV 0 (viewL_cons_of (view_int) (viewL_cons_of (view_int) (viewL_cons_of (view_int) viewL_nil_of))) ?_
  simp (disch := omega) only [Tryz.ntmps136, Tryz.results136, go_sem]
  exact Fin.val rfl
theorem Tryz.implFV_ok (f : List Int) (hf : f.length ≤ 1048576) : PCall Tryz.prog 91 [ri f] (.val (.bool (isFV f))) := by
  refine FCall.pcall (R := fun r _ => r = .val (.bool (isFV f))) ?_ 0 (by rintro r H rfl; exact view_bool)
  refine FCall.of_body Tryz.func91 rfl (by kernel_rfl) (by simp [Tryz.ntmps91]) ?_
  have w := Tryz.containsFuncI_ok 136 [] f (fun x => !inR x 0 1000) hf (fun _ _ => viewL_nil_of) (fun x => Tryz.implFV1_ok x)
  have e := any_not (L := f) (p := fun x => inR x 0 1000)
  refine SW_of_vc Tryz.mixed _ _ _ (by kernel_rfl) ?_
  by_cases h6 : f.length = 6
  · simp (disch := omega) only [Tryz.ntmps91, Tryz.results91, go_sem, h6]
    refine w.callV 1 (viewL_cons_of (view_rowL h6.symm) (viewL_cons_of (view_clos viewL_nil_of) viewL_nil_of)) ?_
    simp (disch := omega) only [Tryz.ntmps91, Tryz.results91, go_sem]
    exact Fin.val (by rw [e, isFV, decide_eq_true h6, Bool.true_and])
  · simp (disch := omega) only [Tryz.ntmps91, Tryz.results91, go_sem]
    exact Fin.val (by rw [isFV, decide_eq_false h6, Bool.false_and])
set_option maxHeartbeats 1000000 in
theorem Tryz.specFV_ok (f : List Int) (hf : f.length ≤ 1048576) : PCall Tryz.prog 82 [ri f] (.val (.bool (isFV f))) := by
  refine FCall.pcall (R := fun r _ => r = .val (.bool (isFV f))) ?_ 0 (by rintro r H rfl; exact view_bool)
  refine FCall.of_body Tryz.func82 rfl (by kernel_rfl) (by simp [Tryz.ntmps82]) ?_
  have lC := ints_length f
  refine SW_of_vc Tryz.mixed _ _ _ (by kernel_rfl) ?_
  simp (disch := omega) only [Tryz.ntmps82, Tryz.results82, go_sem]
  refine LoopW.loop (fun k : Nat => ⟨ofL [(0, ri f), (3, .val (.int .i64 k))], hp [] 0⟩) (fun k => k ≤ f.length ∧ ∀ i, i < k → inR (f.getD i 0) 0 1000 = true) (fun k => f.length - k) 0 ⟨by omega, by simp⟩ (Wk.of (by simp only [go_sem, ↓List.forall_mem_cons, List.not_mem_nil, false_implies, implies_true, and_true, true_and, and_self, ri_eq, Int.natCast_add, Int.cast_ofNat_Int]; try simp) rfl) ?_
  rintro k ⟨hk, hkk⟩
  refine SW_of_vc Tryz.mixed _ _ _ (by kernel_rfl) ?_
  by_cases hlt : k < f.length
  · have gk : (ints f)[k]? = some (.val (.int .i64 (f.getD k 0))) := ints_get hlt
    have w := Tryz.l1In_ok (f.getD k 0) 0 1000
    cases he : inR (f.getD k 0) 0 1000 with
    | true =>
      rw [he] at w
      simp (disch := omega) only [Tryz.ntmps82, Tryz.results82, go_sem, gk, lC]
      refine w.callV 0 (viewL_cons_of (view_int) (viewL_cons_of (view_int) (viewL_cons_of (view_int) viewL_nil_of))) ?_
      simp (disch := omega) only [Tryz.ntmps82, Tryz.results82, go_sem, gk, lC]
      refine ⟨k + 1, ⟨by omega, fun i hi => ?_⟩, by omega, Wk.of (by simp only [go_sem, ↓List.forall_mem_cons, List.not_mem_nil, false_implies, implies_true, and_true, true_and, and_self, ri_eq, Int.natCast_add, Int.cast_ofNat_Int]; try simp) rfl⟩
      rcases Nat.lt_succ_iff_lt_or_eq.mp hi with h | rfl
      · exact hkk i h
      · exact he
    | false =>
      rw [he] at w
      simp (disch := omega) only [Tryz.ntmps82, Tryz.results82, go_sem, gk, lC]
      refine w.callV 0 (viewL_cons_of (view_int) (viewL_cons_of (view_int) (viewL_cons_of (view_int) viewL_nil_of))) ?_
      simp (disch := omega) only [Tryz.ntmps82, Tryz.results82, go_sem, gk, lC]
      exact Fin.val (by rw [isFV, all_not 0 hlt he, Bool.and_false])
  · have hall : (f.all fun x => inR x 0 1000) = true := (all_getD 0).2 fun i hi => hkk i (by omega)
    by_cases h6 : f.length = 6
    · simp (disch := omega) only [Tryz.ntmps82, Tryz.results82, go_sem, h6]
      exact Fin.val (by rw [isFV, decide_eq_true h6, hall]; rfl)
    · simp (disch := omega) only [Tryz.ntmps82, Tryz.results82, go_sem]
      exact Fin.val (by rw [isFV, decide_eq_false h6, Bool.false_and])

/-! ### Scorings -/
def wsum (W : List Int) (k : Nat) : Int := (W.take k).sum
theorem wsum_succ {W : List Int} {k : Nat} (h : k < W.length) : wsum W (k + 1) = wsum W k + W.getD k 0 := by
  rw [wsum, List.take_succ_eq_append_getElem h, List.sum_append, wsum]; simp [h]
def isSc (W : List Int) (b : Int) : Bool := (W.all fun x => inR x 0 9) && (decide (W.length = 6) && (decide (0 < wsum W W.length) && inR b 0 1000))
theorem wsum_b {W : List Int} (h : ∀ i, i < W.length → 0 ≤ W.getD i 0 ∧ W.getD i 0 ≤ 9) : ∀ k, k ≤ W.length → 0 ≤ wsum W k ∧ wsum W k ≤ 9 * k
  | 0, _ => by simp [wsum]
  | k + 1, hk => by
    have ih := wsum_b h k (by omega)
    have := h k (by omega)
    rw [wsum_succ (by omega)]
    omega

set_option maxHeartbeats 2000000 in
theorem Tryz.specSc_ok (W : List Int) (b : Int) (hW : W.length ≤ 1048576) : PCall Tryz.prog 41 [sS W b] (.val (.bool (isSc W b))) := by
  refine FCall.pcall (R := fun r _ => r = .val (.bool (isSc W b))) ?_ 0 (by rintro r H rfl; exact view_bool)
  refine FCall.of_body Tryz.func41 rfl (by kernel_rfl) (by simp [Tryz.ntmps41]) ?_
  have lC := ints_length W
  have ws0 : wsum W 0 = 0 := by simp [wsum]
  refine SW_of_vc Tryz.mixed _ _ _ (by kernel_rfl) ?_
  simp (disch := omega) only [Tryz.ntmps41, Tryz.results41, go_sem]
  refine LoopW.loop (fun k : Nat => ⟨ofL [(1, .optr 0 0), (3, .val (.int .i64 (wsum W k))), (4, .val (.int .i64 k))], hp [(0, ⟨[ri W, .val (.int .i64 b)], true⟩)] 1⟩) (fun k => k ≤ W.length ∧ ∀ i, i < k → inR (W.getD i 0) 0 9 = true) (fun k => W.length - k) 0 ⟨by omega, by simp⟩ (Wk.of (by simp only [go_sem, ↓List.forall_mem_cons, List.not_mem_nil, false_implies, implies_true, and_true, true_and, and_self, ri_eq, Int.natCast_add, Int.cast_ofNat_Int, ws0]; try simp) (by first | rfl | (simp only [ri]; done))) ?_
  rintro k ⟨hk, hkk⟩
  have hws : 0 ≤ wsum W k ∧ wsum W k ≤ 9 * k := by
    have h1 : ∀ k, (∀ i, i < k → inR (W.getD i 0) 0 9 = true) → k ≤ W.length → 0 ≤ wsum W k ∧ wsum W k ≤ 9 * k := by
      intro k
      induction k with
      | zero => intro _ _; simp [wsum]
      | succ k ih =>
        intro h1 h2
        have := ih (fun i hi => h1 i (by omega)) (by omega)
        have h3 := inR_of (h1 k (by omega))
        rw [wsum_succ (by omega)]; omega
    exact h1 k hkk hk
  refine SW_of_vc Tryz.mixed _ _ _ (by kernel_rfl) ?_
  by_cases hlt : k < W.length
  · have gk : (ints W)[k]? = some (.val (.int .i64 (W.getD k 0))) := ints_get hlt
    have w := Tryz.l1In_ok (W.getD k 0) 0 9
    have hsu := wsum_succ hlt
    cases he : inR (W.getD k 0) 0 9 with
    | true =>
      have hr := inR_of he
      have hnx : ∀ i, i < k + 1 → inR (W.getD i 0) 0 9 = true := fun i hi => by
        rcases Nat.lt_succ_iff_lt_or_eq.mp hi with h | rfl
        · exact hkk i h
        · exact he
      rw [he] at w
      generalize W.getD k 0 = x at *
      simp (disch := omega) only [Tryz.ntmps41, Tryz.results41, go_sem, gk, lC]
      refine w.callV 0 (viewL_cons_of (view_int) (viewL_cons_of (view_int) (viewL_cons_of (view_int) viewL_nil_of))) ?_
      simp (disch := omega) only [Tryz.ntmps41, Tryz.results41, go_sem, gk, lC]
      exact ⟨k + 1, ⟨by omega, hnx⟩, by omega, Wk.of (by simp only [go_sem, ↓List.forall_mem_cons, List.not_mem_nil, false_implies, implies_true, and_true, true_and, and_self, ri_eq, Int.natCast_add, Int.cast_ofNat_Int, hsu]; try simp) (by first | rfl | (simp only [ri]; done))⟩
    | false =>
      rw [he] at w
      simp (disch := omega) only [Tryz.ntmps41, Tryz.results41, go_sem, gk, lC]
      refine w.callV 0 (viewL_cons_of (view_int) (viewL_cons_of (view_int) (viewL_cons_of (view_int) viewL_nil_of))) ?_
      simp (disch := omega) only [Tryz.ntmps41, Tryz.results41, go_sem, gk, lC]
      exact Fin.val (by rw [isSc, all_not 0 hlt he, Bool.false_and])
  · obtain rfl : k = W.length := by omega
    have hall : (W.all fun x => inR x 0 9) = true := (all_getD 0).2 fun i hi => hkk i (by omega)
    by_cases h6 : W.length = 6
    · by_cases hs : 0 < wsum W W.length
      · have w := Tryz.l1In_ok b 0 1000
        have ef : isSc W b = inR b 0 1000 := by rw [isSc, hall, decide_eq_true h6, decide_eq_true hs]; rfl
        rw [ef]
        clear ef hall hkk
        generalize wsum W W.length = z at *
        simp (disch := omega) only [Tryz.ntmps41, Tryz.results41, go_sem]
        refine w.callV 0 (viewL_cons_of (view_int) (viewL_cons_of (view_int) (viewL_cons_of (view_int) viewL_nil_of))) ?_
        simp (disch := omega) only [Tryz.ntmps41, Tryz.results41, go_sem]
        exact Fin.val rfl
      · have ef : isSc W b = false := by rw [isSc, decide_eq_false hs]; simp
        rw [ef]
        clear ef hall hkk
        generalize wsum W W.length = z at *
        simp (disch := omega) only [Tryz.ntmps41, Tryz.results41, go_sem]
        exact Fin.val rfl
    · have ef : isSc W b = false := by rw [isSc, decide_eq_false h6]; simp
      rw [ef]
      clear ef
      simp (disch := omega) only [Tryz.ntmps41, Tryz.results41, go_sem]
      exact Fin.val rfl

set_option maxHeartbeats 2000000 in
theorem Tryz.implSc_ok (W : List Int) (b : Int) (hW : W.length ≤ 1048576) : PCall Tryz.prog 49 [sS W b] (.val (.bool (isSc W b))) := by
  refine FCall.pcall (R := fun r _ => r = .val (.bool (isSc W b))) ?_ 0 (by rintro r H rfl; exact view_bool)
  refine FCall.of_body Tryz.func49 rfl (by kernel_rfl) (by simp [Tryz.ntmps49]) ?_
  have lC := ints_length W
  have ws0 : wsum W 0 = 0 := by simp [wsum]
  refine SW_of_vc Tryz.mixed _ _ _ (by kernel_rfl) ?_
  simp (disch := omega) only [Tryz.ntmps49, Tryz.results49, go_sem]
  refine LoopW.loop (fun k : Nat => ⟨ofL [(1, .optr 0 0), (3, .val (.int .i64 (wsum W k))), (7, ri W), (8, .val (.int .i64 W.length)), (9, .val (.int .i64 k))], hp [(0, ⟨[ri W, .val (.int .i64 b)], true⟩)] 1⟩) (fun k => k ≤ W.length ∧ ∀ i, i < k → inR (W.getD i 0) 0 9 = true) (fun k => W.length - k) 0 ⟨by omega, by simp⟩ (Wk.of (by simp only [go_sem, ↓List.forall_mem_cons, List.not_mem_nil, false_implies, implies_true, and_true, true_and, and_self, ri_eq, Int.natCast_add, Int.cast_ofNat_Int, ws0]; try simp) (by first | rfl | (simp only [ri]; done))) ?_
  rintro k ⟨hk, hkk⟩
  have hws : 0 ≤ wsum W k ∧ wsum W k ≤ 9 * k := by
    have h1 : ∀ k, (∀ i, i < k → inR (W.getD i 0) 0 9 = true) → k ≤ W.length → 0 ≤ wsum W k ∧ wsum W k ≤ 9 * k := by
      intro k
      induction k with
      | zero => intro _ _; simp [wsum]
      | succ k ih =>
        intro h1 h2
        have := ih (fun i hi => h1 i (by omega)) (by omega)
        have h3 := inR_of (h1 k (by omega))
        rw [wsum_succ (by omega)]; omega
    exact h1 k hkk hk
  refine SW_of_vc Tryz.mixed _ _ _ (by kernel_rfl) ?_
  by_cases hlt : k < W.length
  · have gk : (ints W)[k]? = some (.val (.int .i64 (W.getD k 0))) := ints_get hlt
    have w := Tryz.within_ok (W.getD k 0) 0 9
    have hsu := wsum_succ hlt
    cases he : inR (W.getD k 0) 0 9 with
    | true =>
      have hr := inR_of he
      have hnx : ∀ i, i < k + 1 → inR (W.getD i 0) 0 9 = true := fun i hi => by
        rcases Nat.lt_succ_iff_lt_or_eq.mp hi with h | rfl
        · exact hkk i h
        · exact he
      rw [he] at w
      generalize W.getD k 0 = x at *
      simp (disch := omega) only [Tryz.ntmps49, Tryz.results49, go_sem, gk, lC]
      refine w.callV 0 (viewL_cons_of (view_int) (viewL_cons_of (view_int) (viewL_cons_of (view_int) viewL_nil_of))) ?_
      simp (disch := omega) only [Tryz.ntmps49, Tryz.results49, go_sem, gk, lC]
      exact ⟨k + 1, ⟨by omega, hnx⟩, by omega, Wk.of (by simp only [go_sem, ↓List.forall_mem_cons, List.not_mem_nil, false_implies, implies_true, and_true, true_and, and_self, ri_eq, Int.natCast_add, Int.cast_ofNat_Int, hsu]; try simp) (by first | rfl | (simp only [ri]; done))⟩
    | false =>
      rw [he] at w
      simp (disch := omega) only [Tryz.ntmps49, Tryz.results49, go_sem, gk, lC]
      refine w.callV 0 (viewL_cons_of (view_int) (viewL_cons_of (view_int) (viewL_cons_of (view_int) viewL_nil_of))) ?_
      simp (disch := omega) only [Tryz.ntmps49, Tryz.results49, go_sem, gk, lC]
      exact Fin.val (by rw [isSc, all_not 0 hlt he, Bool.false_and])
  · obtain rfl : k = W.length := by omega
    have hall : (W.all fun x => inR x 0 9) = true := (all_getD 0).2 fun i hi => hkk i (by omega)
    by_cases h6 : W.length = 6
    · by_cases hs : 0 < wsum W W.length
      · have w := Tryz.within_ok b 0 1000
        have ef : isSc W b = inR b 0 1000 := by rw [isSc, hall, decide_eq_true h6, decide_eq_true hs]; rfl
        rw [ef]
        clear ef hall hkk
        generalize wsum W W.length = z at *
        simp (disch := omega) only [Tryz.ntmps49, Tryz.results49, go_sem]
        refine w.callV 0 (viewL_cons_of (view_int) (viewL_cons_of (view_int) (viewL_cons_of (view_int) viewL_nil_of))) ?_
        simp (disch := omega) only [Tryz.ntmps49, Tryz.results49, go_sem]
        exact Fin.val rfl
      · have ef : isSc W b = false := by rw [isSc, decide_eq_false hs]; simp
        rw [ef]
        clear ef hall hkk
        generalize wsum W W.length = z at *
        simp (disch := omega) only [Tryz.ntmps49, Tryz.results49, go_sem]
        exact Fin.val rfl
    · have ef : isSc W b = false := by rw [isSc, decide_eq_false h6]; simp
      rw [ef]
      clear ef
      simp (disch := omega) only [Tryz.ntmps49, Tryz.results49, go_sem]
      exact Fin.val rfl

/-! ### The score of a pair -/
def dot (f W : List Int) : Nat → Int
  | 0 => 0
  | k + 1 => dot f W k + f.getD k 0 * W.getD k 0
theorem mul_b {x y : Int} (h1 : 0 ≤ x ∧ x ≤ 1000) (h2 : 0 ≤ y ∧ y ≤ 9) : 0 ≤ x * y ∧ x * y ≤ 9000 := by
  constructor
  · exact Int.mul_nonneg h1.1 h2.1
  · have : x * y ≤ 1000 * 9 := Int.mul_le_mul h1.2 h2.2 h2.1 (by omega)
    omega
theorem dot_b {f W : List Int} (hf : ∀ i, i < 6 → 0 ≤ f.getD i 0 ∧ f.getD i 0 ≤ 1000) (hW : ∀ i, i < 6 → 0 ≤ W.getD i 0 ∧ W.getD i 0 ≤ 9) : ∀ k, k ≤ 6 → 0 ≤ dot f W k ∧ dot f W k ≤ 9000 * k
  | 0, _ => by simp [dot]
  | k + 1, hk => by
    have ih := dot_b hf hW k (by omega)
    have := mul_b (hf k (by omega)) (hW k (by omega))
    rw [dot]; omega
theorem isSc_t {W : List Int} {b : Int} (h : isSc W b = true) : W.length = 6 ∧ (∀ i, i < 6 → 0 ≤ W.getD i 0 ∧ W.getD i 0 ≤ 9) ∧ 0 < wsum W 6 ∧ 0 ≤ b ∧ b ≤ 1000 := by
  simp only [isSc, Bool.and_eq_true] at h
  obtain ⟨h1, h2, h3, h4⟩ := h
  have hl := of_decide_eq_true h2
  have hs := of_decide_eq_true h3
  rw [hl] at hs
  exact ⟨hl, fun i hi => inR_of ((all_getD 0).1 h1 i (by omega)), hs, inR_of h4⟩

set_option maxHeartbeats 2000000 in
theorem Tryz.specComb_ok (f W : List Int) (hf : isFV f = true) (hl : W.length = 6) (hW : ∀ i, i < 6 → 0 ≤ W.getD i 0 ∧ W.getD i 0 ≤ 9) (hs : 0 < wsum W 6) : PCall Tryz.prog 129 [ri f, ri W] (.val (.int .i64 ((dot f W 6).tdiv (wsum W 6)))) := by
  obtain ⟨fl, fr⟩ := isFV_t hf
  refine FCall.pcall (R := fun r _ => r = .val (.int .i64 ((dot f W 6).tdiv (wsum W 6)))) ?_ 0 (by rintro r H rfl; exact view_int)
  refine FCall.of_body Tryz.func129 rfl (by kernel_rfl) (by simp [Tryz.ntmps129]) ?_
  have l1 : (ints f).length = 6 := by rw [ints_length, fl]
  have l2 : (ints W).length = 6 := by rw [ints_length, hl]
  have ws0 : wsum W 0 = 0 := by simp [wsum]
  have d0 : dot f W 0 = 0 := rfl
  refine SW_of_vc Tryz.mixed _ _ _ (by kernel_rfl) ?_
  simp (disch := omega) only [Tryz.ntmps129, Tryz.results129, go_sem, fl, hl, bne_self_eq_false]
  refine LoopW.loop (fun k : Nat => ⟨ofL [(0, ri f), (1, ri W), (5, .val (.int .i64 (dot f W k))), (6, .val (.int .i64 (wsum W k))), (7, .val (.int .i64 k))], hp [] 0⟩) (fun k => k ≤ 6) (fun k => 6 - k) 0 (by omega) (Wk.of (by simp only [go_sem, ↓List.forall_mem_cons, List.not_mem_nil, false_implies, implies_true, and_true, true_and, and_self, ri_eq, Int.natCast_add, Int.cast_ofNat_Int, ws0, d0, fl, hl]; try simp) rfl) ?_
  intro k hk
  have hwb := wsum_b (W := W) (fun i hi => hW i (by omega)) k (by omega)
  have hdb := dot_b fr hW k hk
  have hwb6 := wsum_b (W := W) (fun i hi => hW i (by omega)) 6 (by omega)
  have hdb6 := dot_b fr hW 6 (by omega)
  refine SW_of_vc Tryz.mixed _ _ _ (by kernel_rfl) ?_
  by_cases hlt : k < 6
  · have g1 : (ints f)[k]? = some (.val (.int .i64 (f.getD k 0))) := ints_get (by omega)
    have g2 : (ints W)[k]? = some (.val (.int .i64 (W.getD k 0))) := ints_get (by omega)
    have b1 := fr k hlt
    have b2 := hW k hlt
    have w1 := Tryz.l1In_ok (f.getD k 0) 0 1000
    have w2 := Tryz.l1In_ok (W.getD k 0) 0 1000
    rw [inR_tt (by omega) (by omega)] at w1 w2
    have hsu := wsum_succ (W := W) (k := k) (by omega)
    have hdu : dot f W (k + 1) = dot f W k + f.getD k 0 * W.getD k 0 := rfl
    have hmul : 0 ≤ f.getD k 0 * W.getD k 0 ∧ f.getD k 0 * W.getD k 0 ≤ 9000 := mul_b b1 b2
    generalize f.getD k 0 = x at *
    generalize W.getD k 0 = y at *
    simp (disch := omega) only [Tryz.ntmps129, Tryz.results129, go_sem, g1, g2, l1, l2, fl, hl]
    refine w1.callV 0 (viewL_cons_of (view_int) (viewL_cons_of (view_int) (viewL_cons_of (view_int) viewL_nil_of))) ?_
    simp (disch := omega) only [Tryz.ntmps129, Tryz.results129, go_sem, g1, g2, l1, l2, fl, hl]
    refine w2.callV 0 (viewL_cons_of (view_int) (viewL_cons_of (view_int) (viewL_cons_of (view_int) viewL_nil_of))) ?_
    simp (disch := omega) only [Tryz.ntmps129, Tryz.results129, go_sem, g1, g2, l1, l2, fl, hl]
    exact ⟨k + 1, by omega, by omega, Wk.of (by simp only [go_sem, ↓List.forall_mem_cons, List.not_mem_nil, false_implies, implies_true, and_true, true_and, and_self, ri_eq, Int.natCast_add, Int.cast_ofNat_Int, hsu, hdu, fl, hl]; try simp) rfl⟩
  · obtain rfl : k = 6 := by omega
    have hq : 0 ≤ (dot f W 6).tdiv (wsum W 6) := Int.tdiv_nonneg hdb6.1 hwb6.1
    have hq2 : (dot f W 6).tdiv (wsum W 6) ≤ dot f W 6 := Int.tdiv_le_self _ hdb6.1
    have hne : ¬ wsum W 6 = 0 := by omega
    generalize wsum W 6 = s at *
    generalize dot f W 6 = d at *
    have hne2 : (s == 0) = false := by simpa using hne
    simp (disch := omega) only [Tryz.ntmps129, Tryz.results129, go_sem, l1, l2, fl, hl, hne, hne2]
    exact Fin.val rfl

set_option maxHeartbeats 2000000 in
theorem Tryz.implComb_ok (f W : List Int) (hf : isFV f = true) (hl : W.length = 6) (hW : ∀ i, i < 6 → 0 ≤ W.getD i 0 ∧ W.getD i 0 ≤ 9) (hs : 0 < wsum W 6) : PCall Tryz.prog 137 [ri f, ri W] (.val (.int .i64 ((dot f W 6).tdiv (wsum W 6)))) := by
  obtain ⟨fl, fr⟩ := isFV_t hf
  refine FCall.pcall (R := fun r _ => r = .val (.int .i64 ((dot f W 6).tdiv (wsum W 6)))) ?_ 0 (by rintro r H rfl; exact view_int)
  refine FCall.of_body Tryz.func137 rfl (by kernel_rfl) (by simp [Tryz.ntmps137]) ?_
  have l1 : (ints f).length = 6 := by rw [ints_length, fl]
  have l2 : (ints W).length = 6 := by rw [ints_length, hl]
  have ws0 : wsum W 0 = 0 := by simp [wsum]
  have d0 : dot f W 0 = 0 := rfl
  refine SW_of_vc Tryz.mixed _ _ _ (by kernel_rfl) ?_
  simp (disch := omega) only [Tryz.ntmps137, Tryz.results137, go_sem, fl, hl, bne_self_eq_false]
  refine LoopW.loop (fun k : Nat => ⟨ofL [(0, ri f), (1, ri W), (5, .val (.int .i64 (dot f W k))), (6, .val (.int .i64 (wsum W k))), (14, ri f), (15, .val (.int .i64 6)), (16, .val (.int .i64 k))], hp [] 0⟩) (fun k => k ≤ 6) (fun k => 6 - k) 0 (by omega) (Wk.of (by simp only [go_sem, ↓List.forall_mem_cons, List.not_mem_nil, false_implies, implies_true, and_true, true_and, and_self, ri_eq, Int.natCast_add, Int.cast_ofNat_Int, ws0, d0, fl, hl]; try simp) rfl) ?_
  intro k hk
  have hwb := wsum_b (W := W) (fun i hi => hW i (by omega)) k (by omega)
  have hdb := dot_b fr hW k hk
  have hwb6 := wsum_b (W := W) (fun i hi => hW i (by omega)) 6 (by omega)
  have hdb6 := dot_b fr hW 6 (by omega)
  refine SW_of_vc Tryz.mixed _ _ _ (by kernel_rfl) ?_
  by_cases hlt : k < 6
  · have g1 : (ints f)[k]? = some (.val (.int .i64 (f.getD k 0))) := ints_get (by omega)
    have g2 : (ints W)[k]? = some (.val (.int .i64 (W.getD k 0))) := ints_get (by omega)
    have b1 := fr k hlt
    have b2 := hW k hlt
    have w1 := Tryz.within_ok (f.getD k 0) 0 1000
    have w2 := Tryz.within_ok (W.getD k 0) 0 1000
    rw [inR_tt (by omega) (by omega)] at w1 w2
    have hsu := wsum_succ (W := W) (k := k) (by omega)
    have hdu : dot f W (k + 1) = dot f W k + f.getD k 0 * W.getD k 0 := rfl
    have hmul : 0 ≤ f.getD k 0 * W.getD k 0 ∧ f.getD k 0 * W.getD k 0 ≤ 9000 := mul_b b1 b2
    generalize f.getD k 0 = x at *
    generalize W.getD k 0 = y at *
    simp (disch := omega) only [Tryz.ntmps137, Tryz.results137, go_sem, g1, g2, l1, l2, fl, hl]
    refine w1.callV 0 (viewL_cons_of (view_int) (viewL_cons_of (view_int) (viewL_cons_of (view_int) viewL_nil_of))) ?_
    simp (disch := omega) only [Tryz.ntmps137, Tryz.results137, go_sem, g1, g2, l1, l2, fl, hl]
    refine w2.callV 0 (viewL_cons_of (view_int) (viewL_cons_of (view_int) (viewL_cons_of (view_int) viewL_nil_of))) ?_
    simp (disch := omega) only [Tryz.ntmps137, Tryz.results137, go_sem, g1, g2, l1, l2, fl, hl]
    exact ⟨k + 1, by omega, by omega, Wk.of (by simp only [go_sem, ↓List.forall_mem_cons, List.not_mem_nil, false_implies, implies_true, and_true, true_and, and_self, ri_eq, Int.natCast_add, Int.cast_ofNat_Int, hsu, hdu, fl, hl]; try simp) rfl⟩
  · obtain rfl : k = 6 := by omega
    have hq : 0 ≤ (dot f W 6).tdiv (wsum W 6) := Int.tdiv_nonneg hdb6.1 hwb6.1
    have hq2 : (dot f W 6).tdiv (wsum W 6) ≤ dot f W 6 := Int.tdiv_le_self _ hdb6.1
    have hne : ¬ wsum W 6 = 0 := by omega
    generalize wsum W 6 = s at *
    generalize dot f W 6 = d at *
    have hne2 : (s == 0) = false := by simpa using hne
    simp (disch := omega) only [Tryz.ntmps137, Tryz.results137, go_sem, l1, l2, fl, hl, hne, hne2]
    exact Fin.val rfl

set_option maxHeartbeats 2000000 in
theorem Tryz.specPS_ok (W : List Int) (b : Int) (f : List Int) (hW : W.length ≤ 1048576) (hf : f.length ≤ 1048576) (h1 : isSc W b = true) (h2 : isFV f = true) : PCall Tryz.prog 83 [sS W b, ri f] (.val (.int .i64 ((dot f W 6).tdiv (wsum W 6)))) := by
  obtain ⟨g1, g2, g3, g4⟩ := isSc_t h1
  have w1 := Tryz.specSc_ok W b hW
  have w2 := Tryz.specFV_ok f hf
  rw [h1] at w1
  rw [h2] at w2
  have w3 := Tryz.specComb_ok f W h2 g1 g2 g3
  refine FCall.pcall (R := fun r _ => r = .val (.int .i64 ((dot f W 6).tdiv (wsum W 6)))) ?_ 0 (by rintro r H rfl; exact view_int)
  refine FCall.of_body Tryz.func83 rfl (by kernel_rfl) (by simp [Tryz.ntmps83]) ?_
  refine SW_of_vc Tryz.mixed _ _ _ (by kernel_rfl) ?_
  simp (disch := omega) only [Tryz.ntmps83, Tryz.results83, go_sem]
  refine w1.callV 1 (viewL_cons_of view_sS viewL_nil_of) ?_
  simp (disch := omega) only [Tryz.ntmps83, Tryz.results83, go_sem]
  refine w2.callV 0 (viewL_cons_of (view_row) viewL_nil_of) ?_
  simp (disch := omega) only [Tryz.ntmps83, Tryz.results83, go_sem]
  refine w3.callV 0 (viewL_cons_of (view_row) (viewL_cons_of (view_row) viewL_nil_of)) ?_
  simp (disch := omega) only [Tryz.ntmps83, Tryz.results83, go_sem]
  exact Fin.val rfl

set_option maxHeartbeats 2000000 in
theorem Tryz.implPS_ok (W : List Int) (b : Int) (f : List Int) (hW : W.length ≤ 1048576) (hf : f.length ≤ 1048576) (h1 : isSc W b = true) (h2 : isFV f = true) : PCall Tryz.prog 92 [sS W b, ri f] (.val (.int .i64 ((dot f W 6).tdiv (wsum W 6)))) := by
  obtain ⟨g1, g2, g3, g4⟩ := isSc_t h1
  have w1 := Tryz.implSc_ok W b hW
  have w2 := Tryz.implFV_ok f hf
  rw [h1] at w1
  rw [h2] at w2
  have w3 := Tryz.implComb_ok f W h2 g1 g2 g3
  refine FCall.pcall (R := fun r _ => r = .val (.int .i64 ((dot f W 6).tdiv (wsum W 6)))) ?_ 0 (by rintro r H rfl; exact view_int)
  refine FCall.of_body Tryz.func92 rfl (by kernel_rfl) (by simp [Tryz.ntmps92]) ?_
  refine SW_of_vc Tryz.mixed _ _ _ (by kernel_rfl) ?_
  simp (disch := omega) only [Tryz.ntmps92, Tryz.results92, go_sem]
  refine w1.callV 1 (viewL_cons_of view_sS viewL_nil_of) ?_
  simp (disch := omega) only [Tryz.ntmps92, Tryz.results92, go_sem]
  refine w2.callV 0 (viewL_cons_of (view_row) viewL_nil_of) ?_
  simp (disch := omega) only [Tryz.ntmps92, Tryz.results92, go_sem]
  refine w3.callV 0 (viewL_cons_of (view_row) (viewL_cons_of (view_row) viewL_nil_of)) ?_
  simp (disch := omega) only [Tryz.ntmps92, Tryz.results92, go_sem]
  exact Fin.val rfl
end Go.Sh

/-
  DERIVED: THE SHELF's CONTRACTS AT THIS DUMP, IN PLAIN WORDS (tools/lay-plain.mjs out of 'TryzShelf.lean', which tools/lay-shelf.mjs wrote): THE SAME DECLARATIONS UNDER THE SAME NAMES: 'import', 'namespace', 'open', 'def', 'theorem' AND NOTHING ELSE: no command of the shelf's: FOR A HAND-IN. Each laying: the table of numbers ('.._ren') and one theorem, a field a fact of the dump's own or the kernel's comparison; each contract: ONE APPLICATION.
-/
namespace Go.Proofs
open Go.Shelf
def Tryz.lays172_ren : Go.Shelf.Ren := ⟨fun | 172 => 170 | 244 => 209 | 245 => 210 | 247 => 234 | 279 => 235 | 280 => 236 | 281 => 237 | 282 => 238 | 287 => 268 | 316 => 269 | 171 => 166 | 205 => 270 | 321 => 285 | 322 => 286 | 243 => 206 | 246 => 231 | 283 => 264 | 284 => 265 | 285 => 266 | 286 => 267 | 129 => 263 | 317 => 281 | 318 => 282 | 319 => 283 | 320 => 284 | 337 => 288 | 338 => 289 | n => n, fun | 9 => 9 | 3 => 3 | 75 => 164 | 76 => 165 | 4 => 4 | 5 => 5 | 167 => 207 | 37 => 51 | 0 => 0 | 85 => 208 | 2 => 2 | 168 => 210 | 53 => 231 | 175 => 236 | 46 => 180 | 210 => 239 | 127 => 185 | 145 => 259 | 143 => 257 | 21 => 21 | 171 => 232 | 173 => 234 | 212 => 255 | 51 => 229 | 20 => 20 | 213 => 256 | 232 => 263 | 233 => 264 | 80 => 167 | n => n, fun | 15 => 2 | 16 => 3 | 17 => 6 | 18 => 7 | 19 => 8 | n => n⟩
def Tryz.laysM246_ren : Go.Shelf.Ren := ⟨fun | 246 => 231 | 283 => 264 | 284 => 265 | 285 => 266 | 286 => 267 | 129 => 263 | 317 => 281 | 318 => 282 | 319 => 283 | 320 => 284 | 337 => 288 | 338 => 289 | n => n, fun | 2 => 2 | 3 => 3 | 9 => 9 | 4 => 4 | 171 => 232 | 0 => 0 | 53 => 231 | 37 => 51 | 5 => 5 | 173 => 234 | 212 => 255 | 51 => 229 | 20 => 20 | 213 => 256 | 46 => 180 | 232 => 263 | 233 => 264 | n => n, fun | 17 => 6 | 18 => 7 | 19 => 8 | n => n⟩
def Tryz.laysM243_ren : Go.Shelf.Ren := ⟨fun | 243 => 206 | 246 => 231 | 283 => 264 | 284 => 265 | 285 => 266 | 286 => 267 | 129 => 263 | 317 => 281 | 318 => 282 | 319 => 283 | 320 => 284 | 337 => 288 | 338 => 289 | n => n, fun | 3 => 3 | 9 => 9 | 2 => 2 | 4 => 4 | 171 => 232 | 0 => 0 | 53 => 231 | 37 => 51 | 5 => 5 | 173 => 234 | 212 => 255 | 51 => 229 | 20 => 20 | 213 => 256 | 46 => 180 | 232 => 263 | 233 => 264 | n => n, fun | 17 => 6 | 18 => 7 | 19 => 8 | n => n⟩
def Tryz.laysM171_ren : Go.Shelf.Ren := ⟨fun | 171 => 166 | 243 => 206 | 246 => 231 | 283 => 264 | 284 => 265 | 285 => 266 | 286 => 267 | 129 => 263 | 317 => 281 | 318 => 282 | 319 => 283 | 320 => 284 | 337 => 288 | 338 => 289 | n => n, fun | 3 => 3 | 9 => 9 | 2 => 2 | 4 => 4 | 171 => 232 | 0 => 0 | 53 => 231 | 37 => 51 | 5 => 5 | 173 => 234 | 212 => 255 | 51 => 229 | 20 => 20 | 213 => 256 | 46 => 180 | 232 => 263 | 233 => 264 | n => n, fun | 17 => 6 | 18 => 7 | 19 => 8 | n => n⟩
theorem Tryz.laysM171 : Go.Proofs.LaysM.n171 Tryz.prog Tryz.laysM171_ren := {
  mixed := by kernel_rfl
  f129 := Tryz.func263.trans (congrArg some (by kernel_rfl))
  f171 := Tryz.func166.trans (congrArg some (by kernel_rfl))
  f243 := Tryz.func206.trans (congrArg some (by kernel_rfl))
  f246 := Tryz.func231.trans (congrArg some (by kernel_rfl))
  f283 := Tryz.func264.trans (congrArg some (by kernel_rfl))
  f284 := Tryz.func265.trans (congrArg some (by kernel_rfl))
  f285 := Tryz.func266.trans (congrArg some (by kernel_rfl))
  f286 := Tryz.func267.trans (congrArg some (by kernel_rfl))
  f317 := Tryz.func281.trans (congrArg some (by kernel_rfl))
  f318 := Tryz.func282.trans (congrArg some (by kernel_rfl))
  f319 := Tryz.func283.trans (congrArg some (by kernel_rfl))
  f320 := Tryz.func284.trans (congrArg some (by kernel_rfl))
  f337 := Tryz.func288.trans (congrArg some (by kernel_rfl))
  f338 := Tryz.func289.trans (congrArg some (by kernel_rfl))
  t0 := Tryz.underlying0
  a0 := Tryz.isAgg0
  z0 := Tryz.sizeOf0
  v0 := Tryz.zeroValue0
  t2 := Tryz.underlying2
  a2 := Tryz.isAgg2
  z2 := Tryz.sizeOf2
  v2 := Tryz.zeroValue2
  t3 := Tryz.underlying3
  a3 := Tryz.isAgg3
  z3 := Tryz.sizeOf3
  v3 := Tryz.zeroValue3
  t4 := Tryz.underlying4
  a4 := Tryz.isAgg4
  z4 := Tryz.sizeOf4
  v4 := Tryz.zeroValue4
  t5 := Tryz.underlying5
  a5 := Tryz.isAgg5
  z5 := Tryz.sizeOf5
  v5 := Tryz.zeroValue5
  t9 := Tryz.underlying9
  a9 := Tryz.isAgg9
  z9 := Tryz.sizeOf9
  v9 := Tryz.zeroValue9
  t20 := Tryz.underlying20
  a20 := Tryz.isAgg20
  z20 := Tryz.sizeOf20
  v20 := Tryz.zeroValue20
  t37 := Tryz.underlying51
  a37 := Tryz.isAgg51
  z37 := Tryz.sizeOf51
  v37 := Tryz.zeroValue51
  t46 := Tryz.underlying180
  a46 := Tryz.isAgg180
  z46 := Tryz.sizeOf180
  v46 := Tryz.zeroValue180
  t51 := Tryz.underlying229
  a51 := Tryz.isAgg229
  z51 := Tryz.sizeOf229
  v51 := Tryz.zeroValue229
  t53 := Tryz.underlying231
  a53 := Tryz.isAgg231
  z53 := Tryz.sizeOf231
  v53 := Tryz.zeroValue231
  t171 := Tryz.underlying232
  a171 := Tryz.isAgg232
  z171 := Tryz.sizeOf232
  v171 := Tryz.zeroValue232
  t173 := Tryz.underlying234
  a173 := Tryz.isAgg234
  z173 := Tryz.sizeOf234
  v173 := Tryz.zeroValue234
  t212 := Tryz.underlying255
  a212 := Tryz.isAgg255
  z212 := Tryz.sizeOf255
  v212 := Tryz.zeroValue255
  t213 := Tryz.underlying256
  a213 := Tryz.isAgg256
  z213 := Tryz.sizeOf256
  t232 := Tryz.underlying263
  a232 := Tryz.isAgg263
  z232 := Tryz.sizeOf263
  v232 := Tryz.zeroValue263
  t233 := Tryz.underlying264
  a233 := Tryz.isAgg264
  z233 := Tryz.sizeOf264
  v233 := Tryz.zeroValue264
  g17 := by kernel_rfl
  g18 := by kernel_rfl
  g19 := by kernel_rfl
  i0 := by kernel_rfl
  i2 := by kernel_rfl
  i3 := by kernel_rfl
  i4 := by kernel_rfl
  i5 := by kernel_rfl
  i9 := by kernel_rfl
  i20 := by kernel_rfl
  i37 := by kernel_rfl
  i46 := by kernel_rfl
  i51 := by kernel_rfl
  i53 := by kernel_rfl
  i171 := by kernel_rfl
  i173 := by kernel_rfl
  i212 := by kernel_rfl
  i232 := by kernel_rfl
  i233 := by kernel_rfl
  m17 := by kernel_rfl
  m18 := by kernel_rfl
  m19 := by kernel_rfl }
open Go.RowKit Go.Sort Go.Lib in
/-- strconv.Itoa: "Itoa is equivalent to FormatInt(int64(i), 10).": i's DECIMAL NUMERAL ('Lib.itoa': a '-' where i is negative, then the digits), FOR EVERY int. The world behind the call: the world before it, new blocks behind the heap (the library's 'var a [24]byte'), draws. (LAID: no walk: one application.) -/
theorem Tryz.strconv_Itoa (n : Int) (h0 : -9223372036854775808 ≤ n) (h1 : n ≤ 9223372036854775807) (w : World) (htab : Lib.TabIs Tryz.prog w "internal/strconv.uint64pow10" .u64 Lib.pow10Tab) :
    Calls Tryz.prog 166 #[.int .i64 n] w fun e w' => e = .returned (.string ⟨(Lib.itoa n).toArray⟩) ∧ ∃ k os, w' = grow (w.drewN k) os := Any.strconv_Itoa Tryz.laysM171 n h0 h1 w htab
def Tryz.laysC172_ren : Go.Shelf.Ren := ⟨fun | 172 => 170 | 244 => 209 | 245 => 210 | 247 => 234 | 279 => 235 | 280 => 236 | 281 => 237 | 282 => 238 | 287 => 268 | 316 => 269 | 171 => 166 | 205 => 270 | 321 => 285 | 322 => 286 | 243 => 206 | 246 => 231 | 283 => 264 | 284 => 265 | 285 => 266 | 286 => 267 | 129 => 263 | 317 => 281 | 318 => 282 | 319 => 283 | 320 => 284 | 337 => 288 | 338 => 289 | n => n, fun | 9 => 9 | 3 => 3 | 75 => 164 | 76 => 165 | 4 => 4 | 5 => 5 | 167 => 207 | 37 => 51 | 0 => 0 | 85 => 208 | 2 => 2 | 168 => 210 | 53 => 231 | 175 => 236 | 46 => 180 | 210 => 239 | 127 => 185 | 145 => 259 | 143 => 257 | 21 => 21 | 171 => 232 | 173 => 234 | 212 => 255 | 51 => 229 | 20 => 20 | 213 => 256 | 232 => 263 | 233 => 264 | 80 => 167 | n => n, fun | 15 => 2 | 16 => 3 | 17 => 6 | 18 => 7 | 19 => 8 | n => n⟩
theorem Tryz.laysC172 : Go.Proofs.LaysC.n172 Tryz.prog Tryz.laysC172_ren := {
  mixed := by kernel_rfl
  f129 := Tryz.func263.trans (congrArg some (by kernel_rfl))
  f171 := Tryz.func166.trans (congrArg some (by kernel_rfl))
  f172 := Tryz.func170.trans (congrArg some (by kernel_rfl))
  f205 := Tryz.func270.trans (congrArg some (by kernel_rfl))
  f243 := Tryz.func206.trans (congrArg some (by kernel_rfl))
  f244 := Tryz.func209.trans (congrArg some (by kernel_rfl))
  f245 := Tryz.func210.trans (congrArg some (by kernel_rfl))
  f246 := Tryz.func231.trans (congrArg some (by kernel_rfl))
  f247 := Tryz.func234.trans (congrArg some (by kernel_rfl))
  f279 := Tryz.func235.trans (congrArg some (by kernel_rfl))
  f280 := Tryz.func236.trans (congrArg some (by kernel_rfl))
  f281 := Tryz.func237.trans (congrArg some (by kernel_rfl))
  f282 := Tryz.func238.trans (congrArg some (by kernel_rfl))
  f283 := Tryz.func264.trans (congrArg some (by kernel_rfl))
  f284 := Tryz.func265.trans (congrArg some (by kernel_rfl))
  f285 := Tryz.func266.trans (congrArg some (by kernel_rfl))
  f286 := Tryz.func267.trans (congrArg some (by kernel_rfl))
  f287 := Tryz.func268.trans (congrArg some (by kernel_rfl))
  f316 := Tryz.func269.trans (congrArg some (by kernel_rfl))
  f317 := Tryz.func281.trans (congrArg some (by kernel_rfl))
  f318 := Tryz.func282.trans (congrArg some (by kernel_rfl))
  f319 := Tryz.func283.trans (congrArg some (by kernel_rfl))
  f320 := Tryz.func284.trans (congrArg some (by kernel_rfl))
  f321 := Tryz.func285.trans (congrArg some (by kernel_rfl))
  f322 := Tryz.func286.trans (congrArg some (by kernel_rfl))
  f337 := Tryz.func288.trans (congrArg some (by kernel_rfl))
  f338 := Tryz.func289.trans (congrArg some (by kernel_rfl))
  t0 := Tryz.underlying0
  a0 := Tryz.isAgg0
  z0 := Tryz.sizeOf0
  v0 := Tryz.zeroValue0
  t2 := Tryz.underlying2
  a2 := Tryz.isAgg2
  z2 := Tryz.sizeOf2
  v2 := Tryz.zeroValue2
  t3 := Tryz.underlying3
  a3 := Tryz.isAgg3
  z3 := Tryz.sizeOf3
  v3 := Tryz.zeroValue3
  t4 := Tryz.underlying4
  a4 := Tryz.isAgg4
  z4 := Tryz.sizeOf4
  v4 := Tryz.zeroValue4
  t5 := Tryz.underlying5
  a5 := Tryz.isAgg5
  z5 := Tryz.sizeOf5
  v5 := Tryz.zeroValue5
  t9 := Tryz.underlying9
  a9 := Tryz.isAgg9
  z9 := Tryz.sizeOf9
  v9 := Tryz.zeroValue9
  t20 := Tryz.underlying20
  a20 := Tryz.isAgg20
  z20 := Tryz.sizeOf20
  v20 := Tryz.zeroValue20
  t21 := Tryz.underlying21
  a21 := Tryz.isAgg21
  z21 := Tryz.sizeOf21
  v21 := Tryz.zeroValue21
  t37 := Tryz.underlying51
  a37 := Tryz.isAgg51
  z37 := Tryz.sizeOf51
  v37 := Tryz.zeroValue51
  t46 := Tryz.underlying180
  a46 := Tryz.isAgg180
  z46 := Tryz.sizeOf180
  v46 := Tryz.zeroValue180
  t51 := Tryz.underlying229
  a51 := Tryz.isAgg229
  z51 := Tryz.sizeOf229
  v51 := Tryz.zeroValue229
  t53 := Tryz.underlying231
  a53 := Tryz.isAgg231
  z53 := Tryz.sizeOf231
  v53 := Tryz.zeroValue231
  t75 := Tryz.underlying164
  a75 := Tryz.isAgg164
  z75 := Tryz.sizeOf164
  v75 := Tryz.zeroValue164
  t76 := Tryz.underlying165
  a76 := Tryz.isAgg165
  z76 := Tryz.sizeOf165
  v76 := Tryz.zeroValue165
  t85 := Tryz.underlying208
  a85 := Tryz.isAgg208
  z85 := Tryz.sizeOf208
  v85 := Tryz.zeroValue208
  t127 := Tryz.underlying185
  a127 := Tryz.isAgg185
  z127 := Tryz.sizeOf185
  v127 := Tryz.zeroValue185
  t143 := Tryz.underlying257
  a143 := Tryz.isAgg257
  z143 := Tryz.sizeOf257
  v143 := Tryz.zeroValue257
  t145 := Tryz.underlying259
  a145 := Tryz.isAgg259
  z145 := Tryz.sizeOf259
  v145 := Tryz.zeroValue259
  t167 := Tryz.underlying207
  a167 := Tryz.isAgg207
  z167 := Tryz.sizeOf207
  v167 := Tryz.zeroValue207
  t168 := Tryz.underlying210
  a168 := Tryz.isAgg210
  z168 := Tryz.sizeOf210
  v168 := Tryz.zeroValue210
  t171 := Tryz.underlying232
  a171 := Tryz.isAgg232
  z171 := Tryz.sizeOf232
  v171 := Tryz.zeroValue232
  t173 := Tryz.underlying234
  a173 := Tryz.isAgg234
  z173 := Tryz.sizeOf234
  v173 := Tryz.zeroValue234
  t175 := Tryz.underlying236
  a175 := Tryz.isAgg236
  z175 := Tryz.sizeOf236
  v175 := Tryz.zeroValue236
  t210 := Tryz.underlying239
  a210 := Tryz.isAgg239
  z210 := Tryz.sizeOf239
  v210 := Tryz.zeroValue239
  t212 := Tryz.underlying255
  a212 := Tryz.isAgg255
  z212 := Tryz.sizeOf255
  v212 := Tryz.zeroValue255
  t213 := Tryz.underlying256
  a213 := Tryz.isAgg256
  z213 := Tryz.sizeOf256
  t232 := Tryz.underlying263
  a232 := Tryz.isAgg263
  z232 := Tryz.sizeOf263
  v232 := Tryz.zeroValue263
  t233 := Tryz.underlying264
  a233 := Tryz.isAgg264
  z233 := Tryz.sizeOf264
  v233 := Tryz.zeroValue264
  g15 := by kernel_rfl
  g16 := by kernel_rfl
  g17 := by kernel_rfl
  g18 := by kernel_rfl
  g19 := by kernel_rfl
  t80 := Tryz.underlying167
  a80 := Tryz.isAgg167
  z80 := Tryz.sizeOf167
  v80 := Tryz.zeroValue167
  i0 := by kernel_rfl
  i2 := by kernel_rfl
  i3 := by kernel_rfl
  i4 := by kernel_rfl
  i5 := by kernel_rfl
  i9 := by kernel_rfl
  i20 := by kernel_rfl
  i21 := by kernel_rfl
  i37 := by kernel_rfl
  i46 := by kernel_rfl
  i51 := by kernel_rfl
  i53 := by kernel_rfl
  i75 := by kernel_rfl
  i76 := by kernel_rfl
  i80 := by kernel_rfl
  i85 := by kernel_rfl
  i127 := by kernel_rfl
  i143 := by kernel_rfl
  i145 := by kernel_rfl
  i167 := by kernel_rfl
  i168 := by kernel_rfl
  i171 := by kernel_rfl
  i173 := by kernel_rfl
  i175 := by kernel_rfl
  i210 := by kernel_rfl
  i212 := by kernel_rfl
  i232 := by kernel_rfl
  i233 := by kernel_rfl
  m15 := by kernel_rfl
  m16 := by kernel_rfl
  m17 := by kernel_rfl
  m18 := by kernel_rfl
  m19 := by kernel_rfl
  c0 := by kernel_rfl
  c2 := by kernel_rfl
  c3 := by kernel_rfl
  c4 := by kernel_rfl
  c5 := by kernel_rfl
  c9 := by kernel_rfl
  c20 := by kernel_rfl
  c21 := by kernel_rfl
  c37 := by kernel_rfl
  c46 := by kernel_rfl
  c51 := by kernel_rfl
  c53 := by kernel_rfl
  c75 := by kernel_rfl
  c76 := by kernel_rfl
  c80 := by kernel_rfl
  c85 := by kernel_rfl
  c127 := by kernel_rfl
  c143 := by kernel_rfl
  c145 := by kernel_rfl
  c167 := by kernel_rfl
  c168 := by kernel_rfl
  c171 := by kernel_rfl
  c173 := by kernel_rfl
  c175 := by kernel_rfl
  c210 := by kernel_rfl
  c212 := by kernel_rfl
  c213 := by kernel_rfl
  c232 := by kernel_rfl
  c233 := by kernel_rfl }
open Go.RowKit in
/-- strconv.Atoi, AT EVERY STRING THAT SPELLS AN int ('Lib.atoiAll .. = .ok v'; of whatever length: leading zeros count): v, AND NO ERROR. The world: as it was, or with the one new row that '[]byte(..)' lays. (LAID: no walk: one application.) -/
theorem Tryz.strconv_Atoi_ok (s : ByteArray) (hmax : s.size ≤ 9223372036854775806) (v : Int) (h : Lib.atoiAll s.data.toList = .ok v) (w : World) :
    Calls Tryz.prog 170 #[.string s] w fun e w' => e = .returned (.tuple #[.int .i64 v, .nilIface]) ∧ (w' = w ∨ ∃ t, w' = Lib.bytesWorld w 5 t) := Any.strconv_Atoi_ok Tryz.laysC172 s hmax v h w
open Go.RowKit in
/-- strconv.Atoi, AT EVERY STRING THAT IS NO DECIMAL NUMERAL ('.syntax'): 0, AND AN ERROR THAT IS NOT nil: a *NumError in a new block N: {Func: "Atoi", Num: s's bytes, Err: what the variable ErrSyntax holds}. Of what was there nothing has turned. (LAID: no walk: one application.) -/
theorem Tryz.strconv_Atoi_syntax (s : ByteArray) (hlim : s.size ≤ 281474976710656) (h : Lib.atoiAll s.data.toList = .«syntax») (ev : Value) (w : World) (hv : w.cell? ⟨2, 0, none⟩ = some ev) (hev : ev = .nilIface ∨ ∃ te pe, ev = .iface te pe) :
    Calls Tryz.prog 170 #[.string s] w fun e w' => ∃ N, e = .returned (.tuple #[.int .i64 (0), .iface 210 (.pointer (some ⟨N, 0, none⟩))]) ∧ w.heap.size ≤ N ∧ w'.heap[N]? = some (.cells #[.string ⟨#[65, 116, 111, 105]⟩, .string s, ev] 239 (0, 0)) ∧ Below w.heap.size w w' := Any.strconv_Atoi_syntax Tryz.laysC172 s hlim h ev w hv hev
open Go.RowKit in
/-- strconv.Atoi, AT EVERY NUMERAL THAT NO int HOLDS ('.range'): THE GREATEST OR THE LEAST int, BY THE SIGN ('Lib.atoiSat'), AND AN ERROR THAT IS NOT nil: a *NumError in a new block N: {Func: "Atoi", Num: s's bytes, Err: what the variable ErrRange holds}. Of what was there nothing has turned. (LAID: no walk: one application.) -/
theorem Tryz.strconv_Atoi_range (s : ByteArray) (hlim : s.size ≤ 281474976710656) (h : Lib.atoiAll s.data.toList = .range) (ev : Value) (w : World) (hv : w.cell? ⟨3, 0, none⟩ = some ev) (hev : ev = .nilIface ∨ ∃ te pe, ev = .iface te pe) :
    Calls Tryz.prog 170 #[.string s] w fun e w' => ∃ N, e = .returned (.tuple #[.int .i64 (Lib.atoiSat s.data.toList), .iface 210 (.pointer (some ⟨N, 0, none⟩))]) ∧ w.heap.size ≤ N ∧ w'.heap[N]? = some (.cells #[.string ⟨#[65, 116, 111, 105]⟩, .string s, ev] 239 (0, 0)) ∧ Below w.heap.size w w' := Any.strconv_Atoi_range Tryz.laysC172 s hlim h ev w hv hev
def Tryz.lays190_ren : Go.Shelf.Ren := ⟨fun | 190 => 190 | 125 => 229 | 258 => 228 | 128 => 262 | 129 => 263 | 302 => 253 | 303 => 254 | 304 => 255 | 305 => 256 | 306 => 257 | 307 => 258 | 308 => 259 | 309 => 260 | 310 => 261 | 333 => 275 | 329 => 276 | 330 => 277 | 334 => 278 | 335 => 279 | 336 => 280 | 344 => 287 | n => n, fun | 31 => 57 | 9 => 9 | 3 => 3 | 46 => 180 | 0 => 0 | 51 => 229 | 53 => 231 | 4 => 4 | 183 => 223 | 182 => 222 | 131 => 139 | 5 => 5 | 218 => 248 | 222 => 252 | 228 => 260 | 229 => 261 | n => n, fun | n => n⟩
theorem Tryz.lays190 : Go.Proofs.Lays.n190 Tryz.prog Tryz.lays190_ren := {
  mixed := by kernel_rfl
  f125 := Tryz.func229.trans (congrArg some (by kernel_rfl))
  f128 := Tryz.func262.trans (congrArg some (by kernel_rfl))
  f129 := Tryz.func263.trans (congrArg some (by kernel_rfl))
  f190 := Tryz.func190.trans (congrArg some (by kernel_rfl))
  f258 := Tryz.func228.trans (congrArg some (by kernel_rfl))
  f302 := Tryz.func253.trans (congrArg some (by kernel_rfl))
  f303 := Tryz.func254.trans (congrArg some (by kernel_rfl))
  f304 := Tryz.func255.trans (congrArg some (by kernel_rfl))
  f305 := Tryz.func256.trans (congrArg some (by kernel_rfl))
  f306 := Tryz.func257.trans (congrArg some (by kernel_rfl))
  f307 := Tryz.func258.trans (congrArg some (by kernel_rfl))
  f308 := Tryz.func259.trans (congrArg some (by kernel_rfl))
  f309 := Tryz.func260.trans (congrArg some (by kernel_rfl))
  f310 := Tryz.func261.trans (congrArg some (by kernel_rfl))
  f329 := Tryz.func276.trans (congrArg some (by kernel_rfl))
  f330 := Tryz.func277.trans (congrArg some (by kernel_rfl))
  f333 := Tryz.func275.trans (congrArg some (by kernel_rfl))
  f334 := Tryz.func278.trans (congrArg some (by kernel_rfl))
  f335 := Tryz.func279.trans (congrArg some (by kernel_rfl))
  f336 := Tryz.func280.trans (congrArg some (by kernel_rfl))
  f344 := Tryz.func287.trans (congrArg some (by kernel_rfl))
  t0 := Tryz.underlying0
  a0 := Tryz.isAgg0
  z0 := Tryz.sizeOf0
  v0 := Tryz.zeroValue0
  t3 := Tryz.underlying3
  a3 := Tryz.isAgg3
  z3 := Tryz.sizeOf3
  v3 := Tryz.zeroValue3
  t4 := Tryz.underlying4
  a4 := Tryz.isAgg4
  z4 := Tryz.sizeOf4
  v4 := Tryz.zeroValue4
  t5 := Tryz.underlying5
  a5 := Tryz.isAgg5
  z5 := Tryz.sizeOf5
  v5 := Tryz.zeroValue5
  t9 := Tryz.underlying9
  a9 := Tryz.isAgg9
  z9 := Tryz.sizeOf9
  v9 := Tryz.zeroValue9
  t31 := Tryz.underlying57
  a31 := Tryz.isAgg57
  z31 := Tryz.sizeOf57
  v31 := Tryz.zeroValue57
  t46 := Tryz.underlying180
  a46 := Tryz.isAgg180
  z46 := Tryz.sizeOf180
  v46 := Tryz.zeroValue180
  t51 := Tryz.underlying229
  a51 := Tryz.isAgg229
  z51 := Tryz.sizeOf229
  v51 := Tryz.zeroValue229
  t53 := Tryz.underlying231
  a53 := Tryz.isAgg231
  z53 := Tryz.sizeOf231
  v53 := Tryz.zeroValue231
  t131 := Tryz.underlying139
  a131 := Tryz.isAgg139
  z131 := Tryz.sizeOf139
  v131 := Tryz.zeroValue139
  t182 := Tryz.underlying222
  a182 := Tryz.isAgg222
  z182 := Tryz.sizeOf222
  v182 := Tryz.zeroValue222
  t183 := Tryz.underlying223
  a183 := Tryz.isAgg223
  z183 := Tryz.sizeOf223
  v183 := Tryz.zeroValue223
  t218 := Tryz.underlying248
  a218 := Tryz.isAgg248
  z218 := Tryz.sizeOf248
  v218 := Tryz.zeroValue248
  t222 := Tryz.underlying252
  a222 := Tryz.isAgg252
  z222 := Tryz.sizeOf252
  v222 := Tryz.zeroValue252
  t228 := Tryz.underlying260
  a228 := Tryz.isAgg260
  z228 := Tryz.sizeOf260
  v228 := Tryz.zeroValue260
  t229 := Tryz.underlying261
  a229 := Tryz.isAgg261
  z229 := Tryz.sizeOf261
  v229 := Tryz.zeroValue261 }
open Go.Sort Go.RowKit in
theorem Tryz.slices_Sort_string (blk off cap : Nat) (ss : List (List UInt8)) (w : World) (hH : Holds encStr w blk off ss.toArray) (hblk : blk < w.heap.size) (hsz : ss.length < 4611686018427387904) :
    Calls Tryz.prog 190 #[.slice (some ⟨blk, off, none⟩) ss.length cap] w fun e w' =>
      e = .returned (.tuple #[]) ∧ ∃ n os, w' = grow (putRow encStr (Sort.ahead w n) blk off (ss.mergeSort fun x y => decide (x ≤ y)).toArray) os := Any.slices_Sort_string Tryz.lays190 blk off cap ss w hH hblk hsz
def Tryz.lays207_ren : Go.Shelf.Ren := ⟨fun | 207 => 196 | n => n, fun | 9 => 9 | 4 => 4 | 3 => 3 | n => n, fun | n => n⟩
def Tryz.lays100_ren : Go.Shelf.Ren := ⟨fun | 100 => 148 | 207 => 196 | n => n, fun | 9 => 9 | 4 => 4 | 3 => 3 | n => n, fun | n => n⟩
theorem Tryz.lays100 : Go.Proofs.Lays.n100 Tryz.prog Tryz.lays100_ren := {
  mixed := by kernel_rfl
  f100 := Tryz.func148.trans (congrArg some (by kernel_rfl))
  f207 := Tryz.func196.trans (congrArg some (by kernel_rfl))
  t3 := Tryz.underlying3
  a3 := Tryz.isAgg3
  z3 := Tryz.sizeOf3
  v3 := Tryz.zeroValue3
  t4 := Tryz.underlying4
  a4 := Tryz.isAgg4
  z4 := Tryz.sizeOf4
  v4 := Tryz.zeroValue4
  t9 := Tryz.underlying9
  a9 := Tryz.isAgg9
  z9 := Tryz.sizeOf9
  v9 := Tryz.zeroValue9 }
open Go.RowKit Go.Lib in
/-- strings.HasSuffix: "HasSuffix reports whether the string s ends with suffix.": IT RETURNS 'Lib.hasSuffix s suffix'; the world is as it was. ('hs': no Go string is longer: a caller has it of every string that it was handed.) (LAID: no walk: one application.) -/
theorem Tryz.strings_HasSuffix (s p : ByteArray) (w : World) (hs : s.size ≤ 9223372036854775807) :
    Calls Tryz.prog 148 #[.string s, .string p] w fun e w' => e = .returned (.bool (Lib.hasSuffix s.data.toList p.data.toList)) ∧ w' = w := Any.strings_HasSuffix Tryz.lays100 s p w hs
def Tryz.lays102_ren : Go.Shelf.Ren := ⟨fun | 102 => 219 | 209 => 249 | 207 => 196 | n => n, fun | 9 => 9 | 4 => 4 | 3 => 3 | n => n, fun | n => n⟩
theorem Tryz.lays102 : Go.Proofs.Lays.n102 Tryz.prog Tryz.lays102_ren := {
  mixed := by kernel_rfl
  f102 := Tryz.func219.trans (congrArg some (by kernel_rfl))
  f207 := Tryz.func196.trans (congrArg some (by kernel_rfl))
  f209 := Tryz.func249.trans (congrArg some (by kernel_rfl))
  t3 := Tryz.underlying3
  a3 := Tryz.isAgg3
  z3 := Tryz.sizeOf3
  v3 := Tryz.zeroValue3
  t4 := Tryz.underlying4
  a4 := Tryz.isAgg4
  z4 := Tryz.sizeOf4
  v4 := Tryz.zeroValue4
  t9 := Tryz.underlying9
  a9 := Tryz.isAgg9
  z9 := Tryz.sizeOf9
  v9 := Tryz.zeroValue9 }
open Go.RowKit Go.Lib in
/-- strings.TrimSuffix: "TrimSuffix returns s without the provided trailing suffix string. If s doesn't end with suffix, s is returned unchanged.": IT RETURNS 'Lib.trimSuffix s suffix'; the world is as it was. (LAID: no walk: one application.) -/
theorem Tryz.strings_TrimSuffix (s p : ByteArray) (w : World) (hs : s.size ≤ 9223372036854775807) :
    Calls Tryz.prog 219 #[.string s, .string p] w fun e w' => e = .returned (.string ⟨(Lib.trimSuffix s.data.toList p.data.toList).toArray⟩) ∧ w' = w := Any.strings_TrimSuffix Tryz.lays102 s p w hs
def Tryz.lays221_ren : Go.Shelf.Ren := ⟨fun | 221 => 127 | 268 => 171 | 138 => 172 | 143 => 173 | 195 => 211 | 197 => 212 | 218 => 213 | 219 => 214 | 260 => 239 | 217 => 240 | 225 => 241 | 224 => 242 | 267 => 243 | 266 => 271 | 314 => 272 | n => n, fun | 9 => 9 | 3 => 3 | 31 => 57 | 4 => 4 | 0 => 0 | 105 => 187 | 21 => 21 | 5 => 5 | 46 => 180 | 119 => 241 | 139 => 244 | 138 => 243 | 146 => 245 | 51 => 229 | n => n, fun | 1 => 1 | 3 => 4 | 4 => 5 | n => n⟩
def Tryz.lays154_ren : Go.Shelf.Ren := ⟨fun | 154 => 250 | 138 => 172 | 165 => 167 | 143 => 173 | 166 => 168 | 197 => 212 | 169 => 169 | 195 => 211 | 218 => 213 | 240 => 207 | 241 => 208 | 219 => 214 | 260 => 239 | 276 => 232 | 277 => 233 | 217 => 240 | 225 => 241 | 224 => 242 | 267 => 243 | 266 => 271 | 314 => 272 | n => n, fun | 9 => 9 | 3 => 3 | 4 => 4 | 72 => 162 | 0 => 0 | 76 => 165 | 105 => 187 | 21 => 21 | 5 => 5 | 70 => 160 | 20 => 20 | 37 => 51 | 75 => 164 | 127 => 185 | 164 => 204 | 46 => 180 | 119 => 241 | 139 => 244 | 138 => 243 | 146 => 245 | 51 => 229 | 80 => 167 | n => n, fun | 1 => 1 | 3 => 4 | 4 => 5 | n => n⟩
def Tryz.lays155_ren : Go.Shelf.Ren := ⟨fun | 155 => 221 | 154 => 250 | 138 => 172 | 165 => 167 | 143 => 173 | 166 => 168 | 197 => 212 | 169 => 169 | 195 => 211 | 218 => 213 | 240 => 207 | 241 => 208 | 219 => 214 | 260 => 239 | 276 => 232 | 277 => 233 | 217 => 240 | 225 => 241 | 224 => 242 | 267 => 243 | 266 => 271 | 314 => 272 | n => n, fun | 9 => 9 | 3 => 3 | 4 => 4 | 72 => 162 | 0 => 0 | 76 => 165 | 105 => 187 | 21 => 21 | 5 => 5 | 70 => 160 | 20 => 20 | 37 => 51 | 75 => 164 | 127 => 185 | 164 => 204 | 46 => 180 | 119 => 241 | 139 => 244 | 138 => 243 | 146 => 245 | 51 => 229 | 80 => 167 | n => n, fun | 1 => 1 | 3 => 4 | 4 => 5 | n => n⟩
theorem Tryz.lays155 : Go.Proofs.Lays.n155 Tryz.prog Tryz.lays155_ren := {
  mixed := by kernel_rfl
  f138 := Tryz.func172.trans (congrArg some (by kernel_rfl))
  f143 := Tryz.func173.trans (congrArg some (by kernel_rfl))
  f154 := Tryz.func250.trans (congrArg some (by kernel_rfl))
  f155 := Tryz.func221.trans (congrArg some (by kernel_rfl))
  f165 := Tryz.func167.trans (congrArg some (by kernel_rfl))
  f166 := Tryz.func168.trans (congrArg some (by kernel_rfl))
  f169 := Tryz.func169.trans (congrArg some (by kernel_rfl))
  f195 := Tryz.func211.trans (congrArg some (by kernel_rfl))
  f197 := Tryz.func212.trans (congrArg some (by kernel_rfl))
  f217 := Tryz.func240.trans (congrArg some (by kernel_rfl))
  f218 := Tryz.func213.trans (congrArg some (by kernel_rfl))
  f219 := Tryz.func214.trans (congrArg some (by kernel_rfl))
  f224 := Tryz.func242.trans (congrArg some (by kernel_rfl))
  f225 := Tryz.func241.trans (congrArg some (by kernel_rfl))
  f240 := Tryz.func207.trans (congrArg some (by kernel_rfl))
  f241 := Tryz.func208.trans (congrArg some (by kernel_rfl))
  f260 := Tryz.func239.trans (congrArg some (by kernel_rfl))
  f266 := Tryz.func271.trans (congrArg some (by kernel_rfl))
  f267 := Tryz.func243.trans (congrArg some (by kernel_rfl))
  f276 := Tryz.func232.trans (congrArg some (by kernel_rfl))
  f277 := Tryz.func233.trans (congrArg some (by kernel_rfl))
  f314 := Tryz.func272.trans (congrArg some (by kernel_rfl))
  t0 := Tryz.underlying0
  a0 := Tryz.isAgg0
  z0 := Tryz.sizeOf0
  v0 := Tryz.zeroValue0
  t3 := Tryz.underlying3
  a3 := Tryz.isAgg3
  z3 := Tryz.sizeOf3
  v3 := Tryz.zeroValue3
  t4 := Tryz.underlying4
  a4 := Tryz.isAgg4
  z4 := Tryz.sizeOf4
  v4 := Tryz.zeroValue4
  t5 := Tryz.underlying5
  a5 := Tryz.isAgg5
  z5 := Tryz.sizeOf5
  v5 := Tryz.zeroValue5
  t9 := Tryz.underlying9
  a9 := Tryz.isAgg9
  z9 := Tryz.sizeOf9
  v9 := Tryz.zeroValue9
  t20 := Tryz.underlying20
  a20 := Tryz.isAgg20
  z20 := Tryz.sizeOf20
  v20 := Tryz.zeroValue20
  t21 := Tryz.underlying21
  a21 := Tryz.isAgg21
  z21 := Tryz.sizeOf21
  v21 := Tryz.zeroValue21
  t37 := Tryz.underlying51
  a37 := Tryz.isAgg51
  z37 := Tryz.sizeOf51
  v37 := Tryz.zeroValue51
  t46 := Tryz.underlying180
  a46 := Tryz.isAgg180
  z46 := Tryz.sizeOf180
  v46 := Tryz.zeroValue180
  t51 := Tryz.underlying229
  a51 := Tryz.isAgg229
  z51 := Tryz.sizeOf229
  v51 := Tryz.zeroValue229
  t70 := Tryz.underlying160
  a70 := Tryz.isAgg160
  z70 := Tryz.sizeOf160
  v70 := Tryz.zeroValue160
  t72 := Tryz.underlying162
  a72 := Tryz.isAgg162
  z72 := Tryz.sizeOf162
  v72 := Tryz.zeroValue162
  t75 := Tryz.underlying164
  a75 := Tryz.isAgg164
  z75 := Tryz.sizeOf164
  v75 := Tryz.zeroValue164
  t76 := Tryz.underlying165
  a76 := Tryz.isAgg165
  z76 := Tryz.sizeOf165
  v76 := Tryz.zeroValue165
  t105 := Tryz.underlying187
  a105 := Tryz.isAgg187
  z105 := Tryz.sizeOf187
  v105 := Tryz.zeroValue187
  t119 := Tryz.underlying241
  a119 := Tryz.isAgg241
  z119 := Tryz.sizeOf241
  t127 := Tryz.underlying185
  a127 := Tryz.isAgg185
  z127 := Tryz.sizeOf185
  v127 := Tryz.zeroValue185
  t138 := Tryz.underlying243
  a138 := Tryz.isAgg243
  z138 := Tryz.sizeOf243
  v138 := Tryz.zeroValue243
  t139 := Tryz.underlying244
  a139 := Tryz.isAgg244
  z139 := Tryz.sizeOf244
  v139 := Tryz.zeroValue244
  t146 := Tryz.underlying245
  a146 := Tryz.isAgg245
  z146 := Tryz.sizeOf245
  v146 := Tryz.zeroValue245
  t164 := Tryz.underlying204
  a164 := Tryz.isAgg204
  z164 := Tryz.sizeOf204
  v164 := Tryz.zeroValue204
  g1 := by kernel_rfl
  g3 := by kernel_rfl
  g4 := by kernel_rfl }
theorem Tryz.Builder_Extra_155 : Builder.Extra Tryz.prog Tryz.lays155_ren := {
  sizeBuilder := by kernel_rfl
  liesBuilder := by kernel_rfl
  t5 := Tryz.underlying5
  a5 := Tryz.isAgg5
  z5 := Tryz.sizeOf5
  v5 := Tryz.zeroValue5
  infoByte := by kernel_rfl
  cellsByte := by kernel_rfl
  sizeByte := by kernel_rfl
  neB5 := by decide }
open Go.RowKit Go.Lib in
/-- strings.ReplaceAll: "ReplaceAll returns a copy of the string s with all non-overlapping instances of old replaced by new.": AT AN old THAT IS NOT EMPTY: 'Lib.replaceAll s old new'. (LAID: no walk: one application.) -/
theorem Tryz.strings_ReplaceAll (s old new : ByteArray) (m : Int) (w : World) (hs : s.size < 4294967281) (hm : w.cell? ⟨1, 0, none⟩ = some (.int .i64 m)) (h1 : 1 ≤ old.size) (hlen : s.size + Lib.countB s old * new.size ≤ 140737488355328) :
    Calls Tryz.prog 221 #[.string s, .string old, .string new] w fun e w' =>
      e = .returned (.string ⟨(Lib.replaceAll s.data.toList old.data.toList new.data.toList).toArray⟩) ∧ Below w.heap.size w w' := Any.strings_ReplaceAll Tryz.lays155 Tryz.Builder_Extra_155 s old new m w hs hm h1 hlen
def Tryz.lays150_ren : Go.Shelf.Ren := ⟨fun | 150 => 177 | 153 => 215 | 152 => 244 | 226 => 245 | 227 => 246 | 228 => 247 | 137 => 273 | 119 => 274 | 224 => 242 | 225 => 241 | 217 => 240 | 266 => 271 | n => n, fun | 9 => 9 | 4 => 4 | 3 => 3 | 5 => 5 | 21 => 21 | 117 => 217 | 116 => 216 | 0 => 0 | 46 => 180 | 124 => 247 | n => n, fun | n => n⟩
theorem Tryz.lays150 : Go.Proofs.Lays.n150 Tryz.prog Tryz.lays150_ren := {
  mixed := by kernel_rfl
  f119 := Tryz.func274.trans (congrArg some (by kernel_rfl))
  f137 := Tryz.func273.trans (congrArg some (by kernel_rfl))
  f150 := Tryz.func177.trans (congrArg some (by kernel_rfl))
  f152 := Tryz.func244.trans (congrArg some (by kernel_rfl))
  f153 := Tryz.func215.trans (congrArg some (by kernel_rfl))
  f217 := Tryz.func240.trans (congrArg some (by kernel_rfl))
  f224 := Tryz.func242.trans (congrArg some (by kernel_rfl))
  f225 := Tryz.func241.trans (congrArg some (by kernel_rfl))
  f226 := Tryz.func245.trans (congrArg some (by kernel_rfl))
  f227 := Tryz.func246.trans (congrArg some (by kernel_rfl))
  f228 := Tryz.func247.trans (congrArg some (by kernel_rfl))
  f266 := Tryz.func271.trans (congrArg some (by kernel_rfl))
  t0 := Tryz.underlying0
  a0 := Tryz.isAgg0
  z0 := Tryz.sizeOf0
  v0 := Tryz.zeroValue0
  t3 := Tryz.underlying3
  a3 := Tryz.isAgg3
  z3 := Tryz.sizeOf3
  v3 := Tryz.zeroValue3
  t4 := Tryz.underlying4
  a4 := Tryz.isAgg4
  z4 := Tryz.sizeOf4
  v4 := Tryz.zeroValue4
  t5 := Tryz.underlying5
  a5 := Tryz.isAgg5
  z5 := Tryz.sizeOf5
  v5 := Tryz.zeroValue5
  t9 := Tryz.underlying9
  a9 := Tryz.isAgg9
  z9 := Tryz.sizeOf9
  v9 := Tryz.zeroValue9
  t21 := Tryz.underlying21
  a21 := Tryz.isAgg21
  z21 := Tryz.sizeOf21
  v21 := Tryz.zeroValue21
  t46 := Tryz.underlying180
  a46 := Tryz.isAgg180
  z46 := Tryz.sizeOf180
  v46 := Tryz.zeroValue180
  t116 := Tryz.underlying216
  a116 := Tryz.isAgg216
  z116 := Tryz.sizeOf216
  t117 := Tryz.underlying217
  a117 := Tryz.isAgg217
  z117 := Tryz.sizeOf217
  v117 := Tryz.zeroValue217
  t124 := Tryz.underlying247
  a124 := Tryz.isAgg247
  z124 := Tryz.sizeOf247
  v124 := Tryz.zeroValue247 }
open Go.RowKit Go.Lib in
theorem Tryz.strings_ContainsAny_laid (s chars : ByteArray) (w : World) (hs : s.size < 4294967281) (hcs : chars.size < 4294967281) (has : ∀ (j : Nat) b, s.data.toList[j]? = some b → b.toNat < 128) (hac : ∀ (j : Nat) b, chars.data.toList[j]? = some b → b.toNat < 128) :
    Calls Tryz.prog 177 #[.string s, .string chars] w fun e w' => e = .returned (.bool (Lib.containsAny s.data.toList chars.data.toList)) ∧ Below w.heap.size w w' := Any.strings_ContainsAny_laid Tryz.lays150 (by kernel_rfl) s chars w hs hcs has hac
def Tryz.lays229_ren : Go.Shelf.Ren := ⟨fun | 229 => 192 | n => n, fun | 9 => 9 | 40 => 177 | 31 => 57 | 152 => 199 | 3 => 3 | 0 => 0 | 4 => 4 | 21 => 21 | 154 => 201 | n => n, fun | n => n⟩
theorem Tryz.lays229 : Go.Proofs.Lays.n229 Tryz.prog Tryz.lays229_ren := {
  mixed := by kernel_rfl
  f229 := Tryz.func192.trans (congrArg some (by kernel_rfl))
  t0 := Tryz.underlying0
  a0 := Tryz.isAgg0
  z0 := Tryz.sizeOf0
  v0 := Tryz.zeroValue0
  t3 := Tryz.underlying3
  a3 := Tryz.isAgg3
  z3 := Tryz.sizeOf3
  v3 := Tryz.zeroValue3
  t4 := Tryz.underlying4
  a4 := Tryz.isAgg4
  z4 := Tryz.sizeOf4
  v4 := Tryz.zeroValue4
  t9 := Tryz.underlying9
  a9 := Tryz.isAgg9
  z9 := Tryz.sizeOf9
  v9 := Tryz.zeroValue9
  t21 := Tryz.underlying21
  a21 := Tryz.isAgg21
  z21 := Tryz.sizeOf21
  v21 := Tryz.zeroValue21
  t31 := Tryz.underlying57
  a31 := Tryz.isAgg57
  z31 := Tryz.sizeOf57
  v31 := Tryz.zeroValue57
  t40 := Tryz.underlying177
  a40 := Tryz.isAgg177
  z40 := Tryz.sizeOf177
  v40 := Tryz.zeroValue177
  t152 := Tryz.underlying199
  a152 := Tryz.isAgg199
  z152 := Tryz.sizeOf199
  v152 := Tryz.zeroValue199
  t154 := Tryz.underlying201
  a154 := Tryz.isAgg201
  z154 := Tryz.sizeOf201
  v154 := Tryz.zeroValue201 }
open Go.RowKit Go.Lib in
theorem Tryz.strings_FieldsFunc_grows (g : Nat) (lb : Array Value) (eg : ∀ args w, (callFunc g args).run Tryz.prog w = .ok (.enter g args) w) (p : Nat → Bool) (s : ByteArray) (w : World) (hs : s.size ≤ 4294967296) (hp : PredGrows Tryz.prog g lb p w) :
    Calls Tryz.prog 192 #[.string s, .func (.func g) #[] lb] w fun e w' => ∃ A, e = .returned (.slice (some ⟨A, 0, none⟩) (Lib.goFieldsP p s).length (Lib.goFieldsP p s).length) ∧ w.heap.size ≤ A ∧
      w'.ownsRow w.heap.size 9 1 (.slice (some ⟨A, 0, none⟩) (Lib.goFieldsP p s).length (Lib.goFieldsP p s).length) (Lib.goFieldsP p s).length ((Lib.goFieldsP p s).map Value.string) ∧ Below w.heap.size w w' := Any.strings_FieldsFunc_grows Tryz.lays229 g lb eg p s w hs hp (by kernel_rfl) (by kernel_rfl)
def Tryz.laysNm216_ren : Go.Shelf.Ren := ⟨fun | 16 => 189 | n => n, fun | 24 => 57 | 9 => 9 | 4 => 4 | n => n, fun | n => n⟩
theorem Tryz.laysNm216 : Go.Proofs.Lays2.n16 Tryz.prog Tryz.laysNm216_ren := {
  mixed := by kernel_rfl
  f16 := Tryz.func189.trans (congrArg some (by kernel_rfl))
  t4 := Tryz.underlying4
  a4 := Tryz.isAgg4
  z4 := Tryz.sizeOf4
  v4 := Tryz.zeroValue4
  t9 := Tryz.underlying9
  a9 := Tryz.isAgg9
  z9 := Tryz.sizeOf9
  v9 := Tryz.zeroValue9
  t24 := Tryz.underlying57
  a24 := Tryz.isAgg57
  z24 := Tryz.sizeOf57
  v24 := Tryz.zeroValue57
  i9 := by kernel_rfl }
open Go.RowKit Go.Lib in
/-- The same at nil: nil comes back; the world is as it was. (LAID: no walk: one application.) -/
theorem Tryz.slices_Clone_string_nil (n c : Nat) (w : World) :
    Calls Tryz.prog 189 #[.slice none n c] w fun e w' => e = .returned (.slice none 0 0) ∧ w' = w := Any.slices_Clone_string_nil Tryz.laysNm216 n c w
open Go.RowKit Go.Lib in
/-- The same at a slice of length 0 that is not nil, WHATEVER ITS ADDRESS (no cell is asked for): a slice that is not nil and owns nothing comes back. (LAID: no walk: one application.) -/
theorem Tryz.slices_Clone_string_zero (a : Addr) (c : Nat) (w : World) :
    Calls Tryz.prog 189 #[.slice (some a) 0 c] w fun e w' => ∃ v', e = .returned v' ∧ w'.ownsRow w.heap.size 9 1 v' 0 [] ∧ v' ≠ .slice none 0 0 ∧ Below w.heap.size w w' := Any.slices_Clone_string_zero Tryz.laysNm216 a c w
def Tryz.lays194_ren : Go.Shelf.Ren := ⟨fun | 194 => 191 | n => n, fun | 31 => 57 | 9 => 9 | 3 => 3 | 4 => 4 | 0 => 0 | n => n, fun | n => n⟩
theorem Tryz.lays194 : Go.Proofs.Lays.n194 Tryz.prog Tryz.lays194_ren := {
  mixed := by kernel_rfl
  f194 := Tryz.func191.trans (congrArg some (by kernel_rfl))
  t0 := Tryz.underlying0
  a0 := Tryz.isAgg0
  z0 := Tryz.sizeOf0
  v0 := Tryz.zeroValue0
  t3 := Tryz.underlying3
  a3 := Tryz.isAgg3
  z3 := Tryz.sizeOf3
  v3 := Tryz.zeroValue3
  t4 := Tryz.underlying4
  a4 := Tryz.isAgg4
  z4 := Tryz.sizeOf4
  v4 := Tryz.zeroValue4
  t9 := Tryz.underlying9
  a9 := Tryz.isAgg9
  z9 := Tryz.sizeOf9
  v9 := Tryz.zeroValue9
  t31 := Tryz.underlying57
  a31 := Tryz.isAgg57
  z31 := Tryz.sizeOf57
  v31 := Tryz.zeroValue57 }
open Go.RowKit Go.Lib Go.Sort in
/-- slices.Compact at []string, over an array: the library's two loops are walked. (LAID: no walk: one application.) -/
theorem Tryz.slices_Compact_string_arr (blk off cap : Nat) (d : Array (List UInt8)) (w : World) (hH : Holds encStr w blk off d) (hsz : d.size ≤ 9223372036854775807) (hcap : d.size ≤ cap) :
    Calls Tryz.prog 191 #[.slice (some ⟨blk, off, none⟩) d.size cap] w fun e w' => e = .returned (.slice (some ⟨blk, off, none⟩) (compactUpTo d d.size).length cap) ∧ ∃ q, w' = putRow encStr (Sort.ahead w q) blk off (compactUpTo d d.size ++ List.replicate (d.size - (compactUpTo d d.size).length) []).toArray := Any.slices_Compact_string_arr Tryz.lays194 blk off cap d w hH hsz hcap
open Go.RowKit Go.Lib Go.Sort in
/-- The same at a slice of length 0, a nil one too: it comes back as it is. (LAID: no walk: one application.) -/
theorem Tryz.slices_Compact_string_empty (a : Option Addr) (cap : Nat) (w : World) :
    Calls Tryz.prog 191 #[.slice a 0 cap] w fun e w' => e = .returned (.slice a 0 cap) ∧ w' = w := Any.slices_Compact_string_empty Tryz.lays194 a cap w
open Go.RowKit Go.Sort in
/-- .. and plain. (LAID: no walk: one application.) -/
theorem Tryz.slices_Sort_string_none (p : Option Addr) (cap : Nat) (w : World) :
    Calls Tryz.prog 190 #[.slice p 0 cap] w fun e w' => e = .returned (.tuple #[]) ∧ w' = w := Any.slices_Sort_string_none Tryz.lays190 p cap w
end Go.Proofs

/-
  Numbers as text: contracts.
-/
namespace Go.Sh
set_option linter.unusedSimpArgs false
set_option linter.unusedVariables false
open Go Go.Proofs

theorem decDigits_le (u : Nat) : (Lib.decDigits u).length ≤ u / 2 + 1 := by
  induction u using Nat.strongRecOn with
  | _ u ih =>
    by_cases h : u < 10
    · rw [Lib.decDigits, dif_pos h]; simp
    · rw [Lib.decDigits, dif_neg h]
      have := ih (u / 10) (by omega)
      simp; omega
def digz (u : Nat) : List UInt8 := if u = 0 then [] else Lib.decDigits u
theorem digz_step {u : Nat} (h : u ≠ 0) : digz u = digz (u / 10) ++ [UInt8.ofNat (48 + u % 10)] := by
  rw [digz, if_neg h]
  by_cases h1 : u < 10
  · rw [Lib.decDigits, dif_pos h1, digz, if_pos (by omega), Nat.mod_eq_of_lt h1]; rfl
  · rw [Lib.decDigits, dif_neg h1, digz, if_neg (by omega)]
theorem digz_le (u : Nat) : (digz u).length ≤ u / 2 + 1 := by
  rw [digz]; split
  · simp
  · exact decDigits_le u
theorem itoa_eq (n : Int) (h : n ≠ 0) : Lib.itoa n = if n < 0 then 45 :: digz n.natAbs else digz n.natAbs := by
  rw [Lib.itoa]
  split
  · rw [digz, if_neg (by omega)]
  · rw [digz, if_neg (by omega)]; congr 1; omega
theorem abs_quo (m : Int) : (m.tdiv 10).natAbs = m.natAbs / 10 := by
  rcases Int.le_total 0 m with h | h
  · obtain ⟨k, rfl⟩ := Int.eq_ofNat_of_zero_le h
    have e : (k : Int).tdiv 10 = ((k / 10 : Nat) : Int) := (Int.ofNat_tdiv k 10).symm
    rw [e]; simp only [Int.natAbs_natCast]
  · obtain ⟨k, hk⟩ := Int.eq_ofNat_of_zero_le (a := -m) (by omega)
    obtain rfl : m = -(k : Int) := by omega
    have e : (k : Int).tdiv 10 = ((k / 10 : Nat) : Int) := (Int.ofNat_tdiv k 10).symm
    rw [Int.neg_tdiv, e]; omega
theorem quo_sign (m : Int) : (0 ≤ m → 0 ≤ m.tdiv 10) ∧ (m ≤ 0 → m.tdiv 10 ≤ 0) := by
  constructor
  · intro h; exact Int.tdiv_nonneg h (by omega)
  · intro h
    obtain ⟨k, hk⟩ := Int.eq_ofNat_of_zero_le (a := -m) (by omega)
    obtain rfl : m = -(k : Int) := by omega
    rw [Int.neg_tdiv]
    have : (0 : Int) ≤ (k : Int).tdiv 10 := Int.tdiv_nonneg (by omega) (by omega)
    omega
theorem abs_rem (m : Int) : (if m.tmod 10 < 0 then -(m.tmod 10) else m.tmod 10) = ((m.natAbs % 10 : Nat) : Int) := by
  rcases Int.le_total 0 m with h | h
  · obtain ⟨k, rfl⟩ := Int.eq_ofNat_of_zero_le h
    have e : (k : Int).tmod 10 = ((k % 10 : Nat) : Int) := (Int.ofNat_tmod k 10).symm
    rw [e, if_neg (by omega)]; simp
  · obtain ⟨k, hk⟩ := Int.eq_ofNat_of_zero_le (a := -m) (by omega)
    obtain rfl : m = -(k : Int) := by omega
    have e : (k : Int).tmod 10 = ((k % 10 : Nat) : Int) := (Int.ofNat_tmod k 10).symm
    rw [Int.neg_tmod, e]
    split <;> omega

set_option maxHeartbeats 4000000 in
theorem Tryz.specFI_ok (n : Int) (n1 : -9223372036854775808 ≤ n) (n2 : n ≤ 9223372036854775807) : PCall Tryz.prog 165 [.val (.int .i64 n)] (str (Lib.itoa n)) := by
  refine FCall.pcall (R := fun r _ => r = str (Lib.itoa n)) ?_ 0 (by rintro r H rfl; exact view_str)
  refine FCall.of_body Tryz.func165 rfl (by kernel_rfl) (by simp [Tryz.ntmps165]) ?_
  refine SW_of_vc Tryz.mixed _ _ _ (by kernel_rfl) ?_
  by_cases h0 : n = 0
  · subst h0
    simp (disch := omega) only [Tryz.ntmps165, Tryz.results165, go_sem]
    exact Fin.val (by rw [Lib.itoa, if_neg (by omega)]; rw [Lib.decDigits, dif_pos (by decide)]; rfl)
  have hlen := digz_le n.natAbs
  simp (disch := omega) only [Tryz.ntmps165, Tryz.results165, go_sem, beq_iff_eq]
  refine LoopW.loop (fun p : Int × List UInt8 × Nat => ⟨ofL [(0, .val (.int .i64 p.1)), (3, str p.2.1), (4, .val (.bool (decide (n < 0))))], hp [] p.2.2⟩)
    (fun p => digz p.1.natAbs ++ p.2.1 = digz n.natAbs ∧ p.1.natAbs ≤ n.natAbs ∧ (0 ≤ n → 0 ≤ p.1) ∧ (n ≤ 0 → p.1 ≤ 0)) (fun p => p.1.natAbs) (n, [], 0) ⟨by simp, Nat.le_refl _, id, id⟩ (Wk.of (by simp only [go_sem, ↓List.forall_mem_cons, List.not_mem_nil, false_implies, implies_true, and_true, true_and, and_self, ri_eq, Int.natCast_add, Int.cast_ofNat_Int]; try simp) rfl) ?_
  rintro ⟨m, l, nb⟩ ⟨hd, hm, hs1, hs2⟩
  simp only at hd hm hs1 hs2
  refine SW_of_vc Tryz.mixed _ _ _ (by kernel_rfl) ?_
  by_cases hm0 : m = 0
  · subst hm0
    have hl : l = digz n.natAbs := by simpa [digz] using hd
    have hll : l.length ≤ n.natAbs / 2 + 1 := by rw [hl]; exact hlen
    by_cases hneg : n < 0
    · simp (disch := omega) only [Tryz.ntmps165, Tryz.results165, go_sem]
      exact Fin.val (by rw [itoa_eq n h0, if_pos hneg, hl])
    · simp (disch := omega) only [Tryz.ntmps165, Tryz.results165, go_sem]
      exact Fin.val (by rw [itoa_eq n h0, if_neg hneg, hl])
  · have hll : l.length ≤ n.natAbs / 2 + 1 := by
      have := congrArg List.length hd
      rw [List.length_append] at this; omega
    have hd2 := digz_step (u := m.natAbs) (by omega)
    have hq1 := abs_quo m
    have hq2 := quo_sign m
    have hr := abs_rem m
    have hdig : ∀ x : Int, x = ((m.natAbs % 10 : Nat) : Int) → UInt8.ofNat (IntKind.u8.wrap (48 + x)).toNat = UInt8.ofNat (48 + m.natAbs % 10) := fun x hx => by
      subst hx
      rw [wrap8_id (by omega) (by omega)]
      congr 1
    have hd3 : digz (m.tdiv 10).natAbs ++ UInt8.ofNat (48 + m.natAbs % 10) :: l = digz n.natAbs := by rw [hq1, ← hd, hd2]; simp
    by_cases hneg : m.tmod 10 < 0
    · rw [if_pos hneg] at hr
      have hdg := hdig (0 - m.tmod 10) (by omega)
      simp (disch := omega) only [Tryz.ntmps165, Tryz.results165, go_sem, hdg]
      exact ⟨(m.tdiv 10, UInt8.ofNat (48 + m.natAbs % 10) :: l, nb + 1), ⟨hd3, by simp only; omega, fun h => hq2.1 (hs1 h), fun h => hq2.2 (hs2 h)⟩, by simp only; omega, Wk.ofH (by simp only [go_sem, ↓List.forall_mem_cons, List.not_mem_nil, false_implies, implies_true, and_true, true_and, and_self, ri_eq, Int.natCast_add, Int.cast_ofNat_Int]; try simp) (by simp) (Nat.le_refl _)⟩
    · rw [if_neg hneg] at hr
      have hdg := hdig (m.tmod 10) hr
      simp (disch := omega) only [Tryz.ntmps165, Tryz.results165, go_sem, hdg]
      exact ⟨(m.tdiv 10, UInt8.ofNat (48 + m.natAbs % 10) :: l, nb + 1), ⟨hd3, by simp only; omega, fun h => hq2.1 (hs1 h), fun h => hq2.2 (hs2 h)⟩, by simp only; omega, Wk.ofH (by simp only [go_sem, ↓List.forall_mem_cons, List.not_mem_nil, false_implies, implies_true, and_true, true_and, and_self, ri_eq, Int.natCast_add, Int.cast_ofNat_Int]; try simp) (by simp) (Nat.le_refl _)⟩
end Go.Sh

/-
  Lists of strings; strings.Join; numbers joined: contracts.
-/
namespace Go.Sh
set_option linter.unusedSimpArgs false
set_option linter.unusedVariables false
open Go Go.Proofs

theorem strs_length (L : List (List UInt8)) : (strs L).length = L.length := by simp [strs]
theorem strs_get {L : List (List UInt8)} {k : Nat} (h : k < L.length) : (strs L)[k]? = some (str (L.getD k [])) := by simp [strs, h]
theorem strs_set (L : List (List UInt8)) (k : Nat) (x : List UInt8) : (strs L).set k (.val (.string (sb x))) = strs (L.set k x) := by simp [strs, List.map_set]
theorem strs_append (A B : List (List UInt8)) : strs A ++ strs B = strs (A ++ B) := by simp [strs]
theorem strs_snoc (A : List (List UInt8)) (x : List UInt8) : strs A ++ [.val (.string (sb x))] = strs (A ++ [x]) := by simp [strs]
theorem strs_replicate (n : Nat) (x : List UInt8) : List.replicate n (SV.val (.string (sb x))) = strs (List.replicate n x) := by simp [strs]
theorem strs_nil : strs [] = [] := rfl
theorem noRowL_strs : ∀ L : List (List UInt8), noRowL (strs L) = true
  | [] => rfl
  | x :: L => by
    have := noRowL_strs L
    simp only [strs, List.map_cons, noRowL, noRow, Bool.true_and] at this ⊢
    exact this
theorem viewL_strs {H : Heap} {f : Nat} : ∀ L : List (List UInt8), viewL H f (strs L) = some (strs L)
  | [] => viewL_nil_of
  | x :: L => viewL_cons_of view_str (viewL_strs L)
theorem view_ownS {H : Heap} {b n f cap : Nat} {ex e2 : Bool} {L : List (List UInt8)} (hb : H.map b = some ⟨strs L, e2⟩) (hn : n = L.length) : view H (f + 1) (.own b 0 n cap 1 ex) = some (rst L) := by
  subst hn
  simp only [Sh.view, hb, Nat.mul_one, List.drop_zero]
  rw [if_pos (by simp [strs])]
  have : (strs L).take L.length = strs L := by rw [← strs_length L, List.take_length]
  rw [this, viewL_strs, rst]
theorem view_nilS {H : Heap} {f : Nat} : view H f (.val (.slice none 0 0)) = some (rst []) := by simp only [view, viewV, rst, strs, List.map_nil, List.length_nil]
attribute [go_sem] sb_empty

def fillS (L : List (List UInt8)) (k : Nat) : List (List UInt8) := L.take k ++ List.replicate (L.length - k) []
theorem fillS_zero (L : List (List UInt8)) : fillS L 0 = List.replicate L.length [] := by simp [fillS]
theorem fillS_length (L : List (List UInt8)) (k : Nat) (h : k ≤ L.length) : (fillS L k).length = L.length := by simp [fillS]; omega
theorem fillS_set (L : List (List UInt8)) (k : Nat) (h : k < L.length) : (fillS L k).set k (L.getD k []) = fillS L (k + 1) := by
  apply List.ext_getElem?
  intro i
  simp [fillS, List.getElem?_set, List.getElem?_append, List.getElem?_take, List.getElem?_replicate]
  grind
theorem fillS_all (L : List (List UInt8)) : fillS L L.length = L := by simp [fillS]

end Go.Sh

/-
  Strings cut at a byte: contracts.
-/
namespace Go.Sh
set_option linter.unusedSimpArgs false
set_option linter.unusedVariables false
open Go Go.Proofs

/-- The pieces in their places, empty strings behind them. -/
def slots (P : List (List UInt8)) (n : Nat) : List (List UInt8) := P ++ List.replicate (n - P.length) []
theorem strs_vals (L : List (List UInt8)) : (strs L).all isVal = true := by simp [strs, isVal]
theorem fin_strs {L : List (List UInt8)} {b n cap : Nat} {ex e2 : Bool} {H : Heap} (hn : n = L.length) (hb : H.map b = some ⟨strs L, e2⟩) : Fin (FlatRes L.length 1 (strs L)) (.own b 0 n cap 1 ex) H := by
  subst hn
  obtain ⟨H2, h1, _, h3, h4⟩ := flat_fin (ex := ex) (cap := cap) (n := L.length) (z := 1) (by rw [strs_length, Nat.mul_one]) (strs_vals L) hb
  exact ⟨H2, h1, rfl, h3, h4⟩
theorem flat_viewS {L : List (List UInt8)} {r : SV} {H : Heap} (h : FlatRes L.length 1 (strs L) r H) : view H 1 r = some (rst L) := by
  obtain ⟨b, off, cap, ex, blk, rfl, h1, h2, h3, _⟩ := h
  rw [Nat.mul_one] at h2 h3
  simp only [Sh.view, h1, Nat.mul_one, h2, h3, if_true, viewL_strs, rst]
end Go.Sh

/-
  Strings cut at a byte: the reference.
-/
namespace Go.Sh
set_option linter.unusedSimpArgs false
set_option linter.unusedVariables false
open Go Go.Proofs

theorem drop_getD {s : List UInt8} {f i : Nat} (h : f ≤ i) : (s.drop f).getD (i - f) 0 = s.getD i 0 := by
  simp [List.getD, show f + (i - f) = i by omega]
theorem sb_ix {s : List UInt8} {i : Nat} (h : i < s.length) : (if h : 0 ≤ (i : Int) ∧ i < s.length then some (SV.val (.int .u8 ((sb s)[i]'(by rw [sb_size]; exact h.2)).toNat)) else none) = some (.val (.int .u8 (s.getD i 0).toNat)) := by
  rw [dif_pos ⟨by omega, h⟩]
  simp [sb, ByteArray.getElem_eq_getElem_data, h]
set_option maxHeartbeats 4000000 in
theorem Tryz.l2Cut_f (s : List UInt8) (c : UInt8) (hs : s.length ≤ 1048576) : FCall Tryz.prog 117 [str s, .val (.int .u8 c.toNat)] (FlatRes (cutL c s).length 1 (strs (cutL c s))) := by
  refine FCall.of_body Tryz.func117 rfl (by kernel_rfl) (by simp [Tryz.ntmps117]) ?_
  refine SW_of_vc Tryz.mixed _ _ _ (by kernel_rfl) ?_
  simp (disch := omega) only [Tryz.ntmps117, Tryz.results117, go_sem]
  refine LoopW.loop (fun p : Nat × Nat × List (List UInt8) × Nat × Nat => ⟨ofL [(0, str s), (1, .val (.int .u8 c.toNat)), (5, .own p.2.2.2.1 0 p.2.2.1.length p.2.2.1.length 1 false), (6, .val (.int .i64 p.2.1)), (7, .val (.int .i64 p.1))], hx [.blk p.2.2.2.1 ⟨strs p.2.2.1, false⟩] p.2.2.2.2⟩)
    (fun p => p.1 ≤ s.length ∧ p.2.1 ≤ p.1 ∧ p.2.2.1.length ≤ p.2.1 ∧ cutL c s = p.2.2.1 ++ cutL c (s.drop p.2.1) ∧ (∀ k, p.2.1 ≤ k → k < p.1 → s.getD k 0 ≠ c) ∧ p.2.2.2.1 < p.2.2.2.2) (fun p => s.length - p.1) (0, 0, [], 0, 1) ⟨by simp, by simp, by simp, rfl, fun k h1 h2 => by simp only at h2; omega, by simp⟩
    (Wk.ofX (by simp only [go_sem, ↓List.forall_mem_cons, List.not_mem_nil, false_implies, implies_true, and_true, true_and, and_self, ri_eq, Int.natCast_add, Int.cast_ofNat_Int]; try simp) (by simp [EntIn, hp, hmap, strs]) (by simp [hp])) ?_
  rintro ⟨i, f, P, ob, nb⟩ ⟨hi, hf, hPl, hc, hno, hob⟩
  simp only at hi hf hPl hc hno hob
  have hPs := strs_length P
  have hPt : (strs P).take P.length = strs P := List.take_of_length_le (by omega)
  refine SW_of_vc Tryz.mixed _ _ _ (by kernel_rfl) ?_
  by_cases hlt : i < s.length
  · by_cases he : s.getD i 0 = c
    · have hm : cutL c (s.drop f) = (s.drop f).take (i - f) :: cutL c (s.drop (i + 1)) := by
        have := cutL_first (c := c) (s := s.drop f) (m := i - f) (by rw [List.length_drop]; omega) (by rw [drop_getD hf]; exact he) (fun k hk => by
          have e := drop_getD (s := s) (f := f) (i := f + k) (by omega)
          rw [show f + k - f = k by omega] at e
          rw [e]; exact hno _ (by omega) (by omega))
        rw [this, List.drop_drop]
        congr 3; omega
      have hix := sb_ix hlt
      simp (disch := omega) only [Tryz.ntmps117, Tryz.results117, go_sem, hix, he, beq_self_eq_true, hPs, hPt, strs_snoc]
      have hl1 : (P ++ [(s.drop f).take (i - f)]).length = P.length + 1 := by simp
      refine ⟨(i + 1, i + 1, P ++ [(s.drop f).take (i - f)], nb + 1, nb + 1 + 1), ⟨hlt, Nat.le_refl _, by simp only; omega, by rw [hc, hm]; simp, fun k h1 h2 => by simp only at h1 h2; omega, by simp only; omega⟩, by simp only; omega, ?_⟩
      refine Wk.ofX (by simp only [go_sem, ↓List.forall_mem_cons, List.not_mem_nil, false_implies, implies_true, and_true, true_and, and_self, ri_eq, Int.natCast_add, Int.cast_ofNat_Int, hl1]; try simp) ?_ (Nat.le_refl _)
      simp only [List.forall_mem_cons]
      refine ⟨?_, by simp⟩
      simp (disch := omega) only [EntIn, hx_map, xmap_blk, if_pos, if_neg, ↓reduceIte]
    · have he2 : (((s.getD i 0).toNat : Int) == (c.toNat : Int)) = false := by
        rw [beq_eq_false_iff_ne]
        intro e
        exact he (UInt8.toNat_inj.1 (by exact_mod_cast e))
      have hix := sb_ix hlt
      simp (disch := omega) only [Tryz.ntmps117, Tryz.results117, go_sem, hix, he2]
      refine ⟨(i + 1, f, P, ob, nb), ⟨hlt, by simp only; omega, hPl, hc, fun k h1 h2 => ?_, hob⟩, by simp only; omega, Wk.of (by simp only [go_sem, ↓List.forall_mem_cons, List.not_mem_nil, false_implies, implies_true, and_true, true_and, and_self, ri_eq, Int.natCast_add, Int.cast_ofNat_Int]; try simp) rfl⟩
      simp only at h1 h2
      rcases Nat.lt_succ_iff_lt_or_eq.1 h2 with g | g
      · exact hno k h1 g
      · rw [g]; exact he
  · obtain rfl : i = s.length := by omega
    have t3 : (s.drop f).take (s.length - f) = s.drop f := List.take_of_length_le (by rw [List.length_drop]; exact Nat.le_refl _)
    have hlast : cutL c (s.drop f) = [s.drop f] := cutL_last fun k hk => by
      rw [List.length_drop] at hk
      have e := drop_getD (s := s) (f := f) (i := f + k) (by omega)
      rw [show f + k - f = k by omega] at e
      rw [e]; exact hno _ (by omega) (by omega)
    rw [hlast] at hc
    simp (disch := omega) only [Tryz.ntmps117, Tryz.results117, go_sem, hPs, hPt, t3, strs_snoc]
    rw [hc]
    exact fin_strs (by simp) (by first | rfl | (simp (disch := omega) only [hx_map, hp_map, xmap_blk, hmap_cons, xmap_skipI, xmap_nil, if_pos, if_neg, ↓reduceIte]; try rfl))
theorem Tryz.l2Cut_ok (s : List UInt8) (c : UInt8) (hs : s.length ≤ 1048576) : PCall Tryz.prog 117 [str s, .val (.int .u8 c.toNat)] (rst (cutL c s)) :=
  (Tryz.l2Cut_f s c hs).pcall 1 (fun _ _ h => flat_viewS h)
end Go.Sh

/-
  Contracts: rules: valid, of a test, of a rule, the first that holds.
-/
namespace Go.Sh
set_option linter.unusedSimpArgs false
set_option linter.unusedVariables false
open Go Go.Proofs

def okT (T : List Con) (k : Nat) : Bool := inR (cg T k).1 0 5 && (inR (cg T k).2.1 1 1000 && (decide (k = 0) || decide ((cg T (k - 1)).1 < (cg T k).1)))
def okR (T : List Con) : Bool := ((List.range T.length).all (okT T)) && inR T.length 1 3
def isVR (R : List (List Con)) : Bool := R.all okR && inR R.length 1 3
theorem okR_not {T : List Con} {k : Nat} (hk : k < T.length) (h : okT T k = false) : okR T = false := by
  have : (List.range T.length).all (okT T) = false := by
    rw [List.all_eq_false]; exact ⟨k, by simpa using hk, by rw [h]; simp⟩
  rw [okR, this, Bool.false_and]
theorem okR_of {T : List Con} (h : ∀ k, k < T.length → okT T k = true) : okR T = inR T.length 1 3 := by
  have : (List.range T.length).all (okT T) = true := by
    rw [List.all_eq_true]; intro k hk; exact h k (by simpa using hk)
  rw [okR, this, Bool.true_and]
theorem Tryz.isFeature_ok (x : Int) : PCall Tryz.prog 89 [.val (.int .i64 x)] (.val (.bool (inR x 0 5))) := by
  refine FCall.pcall (R := fun r _ => r = .val (.bool (inR x 0 5))) ?_ 0 (by rintro r H rfl; exact view_bool)
  refine FCall.of_body Tryz.func89 rfl (by kernel_rfl) (by simp [Tryz.ntmps89]) ?_
  have w := Tryz.within_ok x 0 5
  refine SW_of_vc Tryz.mixed _ _ _ (by kernel_rfl) ?_
  simp (disch := omega) only [Tryz.ntmps89, Tryz.results89, go_sem]
  refine w.callV 0 (viewL_cons_of (view_int) (viewL_cons_of (view_int) (viewL_cons_of (view_int) viewL_nil_of))) ?_
  simp (disch := omega) only [Tryz.ntmps89, Tryz.results89, go_sem]
  exact Fin.val rfl
theorem Tryz.isThreshold_ok (x : Int) : PCall Tryz.prog 90 [.val (.int .i64 x)] (.val (.bool (inR x 1 1000))) := by
  refine FCall.pcall (R := fun r _ => r = .val (.bool (inR x 1 1000))) ?_ 0 (by rintro r H rfl; exact view_bool)
  refine FCall.of_body Tryz.func90 rfl (by kernel_rfl) (by simp [Tryz.ntmps90]) ?_
  have w := Tryz.within_ok x 1 1000
  refine SW_of_vc Tryz.mixed _ _ _ (by kernel_rfl) ?_
  simp (disch := omega) only [Tryz.ntmps90, Tryz.results90, go_sem]
  refine w.callV 0 (viewL_cons_of (view_int) (viewL_cons_of (view_int) (viewL_cons_of (view_int) viewL_nil_of))) ?_
  simp (disch := omega) only [Tryz.ntmps90, Tryz.results90, go_sem]
  exact Fin.val rfl

set_option maxRecDepth 20000 in
set_option maxHeartbeats 8000000 in
theorem Tryz.specVR_ok (R : List (List Con)) (hR : R.length ≤ 1048576) (hT : ∀ i, i < R.length → (rg R i).length ≤ 1048576) : PCall Tryz.prog 40 [.agg [rR R]] (.val (.bool (isVR R))) := by
  refine FCall.pcall (R := fun r _ => r = .val (.bool (isVR R))) ?_ 0 (by rintro r H rfl; exact view_bool)
  refine FCall.of_body Tryz.func40 rfl (by kernel_rfl) (by simp [Tryz.ntmps40]) ?_
  have hrl := rules_length R
  refine SW_of_vc Tryz.mixed _ _ _ (by kernel_rfl) ?_
  simp (disch := omega) only [Tryz.ntmps40, Tryz.results40, go_sem, rR]
  refine LoopW.loop (fun i : Nat => ⟨ofL [(1, .optr 0 0), (3, .val (.int .i64 i))], hp [(0, ⟨[rR R], true⟩)] 1⟩) (fun i => i ≤ R.length ∧ ∀ x, x < i → okR (R.getD x []) = true) (fun i => R.length - i) 0 ⟨by omega, by simp⟩ (Wk.of (by simp only [go_sem, ↓List.forall_mem_cons, List.not_mem_nil, false_implies, implies_true, and_true, true_and, and_self, ri_eq, Int.natCast_add, Int.cast_ofNat_Int, rR]; try simp) rfl) ?_
  rintro i ⟨hi, hii⟩
  refine SW_of_vc Tryz.mixed _ _ _ (by kernel_rfl) ?_
  by_cases hlt : i < R.length
  case neg =>
    obtain rfl : i = R.length := by omega
    have w := Tryz.l1In_ok R.length 1 3
    have e : isVR R = inR R.length 1 3 := by rw [isVR, (all_getD []).2 hii, Bool.true_and]
    rw [e]
    simp (disch := omega) only [Tryz.ntmps40, Tryz.results40, go_sem, rR]
    refine w.callV 0 (viewL_cons_of (view_int) (viewL_cons_of (view_int) (viewL_cons_of (view_int) viewL_nil_of))) ?_
    simp (disch := omega) only [Tryz.ntmps40, Tryz.results40, go_sem, rR]
    exact Fin.val rfl
  have gk := rules_get hlt
  have htl := hT i hlt
  have hno : okR (rg R i) = false → isVR R = false := fun h => by rw [isVR, all_not [] hlt h, Bool.false_and]
  have hyes : okR (rg R i) = true → ∀ x, x < i + 1 → okR (R.getD x []) = true := fun h x hx => by
    rcases Nat.lt_succ_iff_lt_or_eq.mp hx with g | rfl
    · exact hii x g
    · exact h
  clear hii
  generalize rg R i = T at *
  have hcl := cons_length T
  simp (disch := omega) only [Tryz.ntmps40, Tryz.results40, go_sem, rR, gk, hrl]
  refine LoopW.loop (fun k : Nat => ⟨ofL [(1, .optr 0 0), (3, .val (.int .i64 i)), (4, rc T), (5, .val (.int .i64 k))], hp [(0, ⟨[rR R], true⟩)] 1⟩) (fun k => k ≤ T.length ∧ ∀ x, x < k → okT T x = true) (fun k => T.length - k) 0 ⟨by omega, by simp⟩ (Wk.of (by simp only [go_sem, ↓List.forall_mem_cons, List.not_mem_nil, false_implies, implies_true, and_true, true_and, and_self, ri_eq, Int.natCast_add, Int.cast_ofNat_Int, rR, rc]; try simp) rfl) ?_
  rintro k ⟨hk, hkk⟩
  refine SW_of_vc Tryz.mixed _ _ _ (by kernel_rfl) ?_
  by_cases hltk : k < T.length
  case neg =>
    obtain rfl : k = T.length := by omega
    have w := Tryz.l1In_ok T.length 1 3
    have e := okR_of hkk
    cases hin : inR T.length 1 3 with
    | true =>
      rw [hin] at w e
      simp (disch := omega) only [Tryz.ntmps40, Tryz.results40, go_sem, rR, rc]
      refine w.callV 0 (viewL_cons_of (view_int) (viewL_cons_of (view_int) (viewL_cons_of (view_int) viewL_nil_of))) ?_
      simp (disch := omega) only [Tryz.ntmps40, Tryz.results40, go_sem, rR, rc]
      exact ⟨i + 1, ⟨hlt, hyes e⟩, by omega, Wk.of (by simp only [go_sem, ↓List.forall_mem_cons, List.not_mem_nil, false_implies, implies_true, and_true, true_and, and_self, ri_eq, Int.natCast_add, Int.cast_ofNat_Int, rR, rc]; try simp) rfl⟩
    | false =>
      rw [hin] at w e
      simp (disch := omega) only [Tryz.ntmps40, Tryz.results40, go_sem, rR, rc]
      refine w.callV 0 (viewL_cons_of (view_int) (viewL_cons_of (view_int) (viewL_cons_of (view_int) viewL_nil_of))) ?_
      simp (disch := omega) only [Tryz.ntmps40, Tryz.results40, go_sem, rR, rc]
      exact Fin.val (by rw [hno e])
  obtain ⟨a, b, s, hc⟩ := con_ex T k
  obtain ⟨q0, q1, _, _⟩ := cons_of hltk hc
  have w1 := Tryz.l1In_ok a 0 5
  have w2 := Tryz.l1In_ok b 1 1000
  have eok : okT T k = (inR a 0 5 && (inR b 1 1000 && (decide (k = 0) || decide ((cg T (k - 1)).1 < a)))) := by rw [okT, hc]
  have hno2 : okT T k = false → isVR R = false := fun h => hno (okR_not hltk h)
  have hyes2 : okT T k = true → ∀ x, x < k + 1 → okT T x = true := fun h x hx => by
    rcases Nat.lt_succ_iff_lt_or_eq.mp hx with g | rfl
    · exact hkk x g
    · exact h
  clear hkk hno hyes
  cases ha : inR a 0 5 with
  | false =>
    rw [ha] at w1 eok
    simp (disch := omega) only [Tryz.ntmps40, Tryz.results40, go_sem, rR, rc, q0, q1, hcl]
    refine w1.callDV 0 (viewL_cons_of (view_int) (viewL_cons_of (view_int) (viewL_cons_of (view_int) viewL_nil_of))) ?_
    simp (disch := omega) only [Tryz.ntmps40, Tryz.results40, go_sem, rR, rc, q0, q1, hcl]
    exact Fin.val (by rw [hno2 (by rw [eok]; rfl)])
  | true =>
    rw [ha] at w1 eok
    cases hb : inR b 1 1000 with
    | false =>
      rw [hb] at w2 eok
      simp (disch := omega) only [Tryz.ntmps40, Tryz.results40, go_sem, rR, rc, q0, q1, hcl]
      refine w1.callDV 0 (viewL_cons_of (view_int) (viewL_cons_of (view_int) (viewL_cons_of (view_int) viewL_nil_of))) ?_
      simp (disch := omega) only [Tryz.ntmps40, Tryz.results40, go_sem, rR, rc, q0, q1, hcl]
      refine w2.callDV 0 (viewL_cons_of (view_int) (viewL_cons_of (view_int) (viewL_cons_of (view_int) viewL_nil_of))) ?_
      simp (disch := omega) only [Tryz.ntmps40, Tryz.results40, go_sem, rR, rc, q0, q1, hcl]
      exact Fin.val (by rw [hno2 (by rw [eok]; rfl)])
    | true =>
      rw [hb] at w2 eok
      cases k with
      | zero =>
        simp (disch := omega) only [Tryz.ntmps40, Tryz.results40, go_sem, rR, rc, q0, q1, hcl]
        refine w1.callDV 0 (viewL_cons_of (view_int) (viewL_cons_of (view_int) (viewL_cons_of (view_int) viewL_nil_of))) ?_
        simp (disch := omega) only [Tryz.ntmps40, Tryz.results40, go_sem, rR, rc, q0, q1, hcl]
        refine w2.callDV 0 (viewL_cons_of (view_int) (viewL_cons_of (view_int) (viewL_cons_of (view_int) viewL_nil_of))) ?_
        simp (disch := omega) only [Tryz.ntmps40, Tryz.results40, go_sem, rR, rc, q0, q1, hcl]
        exact ⟨1, ⟨by omega, hyes2 (by rw [eok]; rfl)⟩, by omega, Wk.of (by simp only [go_sem, ↓List.forall_mem_cons, List.not_mem_nil, false_implies, implies_true, and_true, true_and, and_self, ri_eq, Int.natCast_add, Int.cast_ofNat_Int, rR, rc]; try simp) rfl⟩
      | succ p =>
        obtain ⟨a', b', s', hc'⟩ := con_ex T p
        obtain ⟨p0, _, _, _⟩ := cons_of (k := p) (by omega) hc'
        rw [Nat.add_sub_cancel, hc'] at eok
        have hp1 : (((p + 1 : Nat) : Int)) - 1 = (p : Int) := by omega
        by_cases hlt3 : a' < a
        · simp (disch := omega) only [Tryz.ntmps40, Tryz.results40, go_sem, rR, rc, q0, q1, p0, hcl, hp1]
          refine w1.callDV 0 (viewL_cons_of (view_int) (viewL_cons_of (view_int) (viewL_cons_of (view_int) viewL_nil_of))) ?_
          simp (disch := omega) only [Tryz.ntmps40, Tryz.results40, go_sem, rR, rc, q0, q1, p0, hcl, hp1]
          refine w2.callDV 0 (viewL_cons_of (view_int) (viewL_cons_of (view_int) (viewL_cons_of (view_int) viewL_nil_of))) ?_
          simp (disch := omega) only [Tryz.ntmps40, Tryz.results40, go_sem, rR, rc, q0, q1, p0, hcl, hp1]
          exact ⟨p + 1 + 1, ⟨by omega, hyes2 (by rw [eok]; simp [hlt3])⟩, by omega, Wk.of (by simp only [go_sem, ↓List.forall_mem_cons, List.not_mem_nil, false_implies, implies_true, and_true, true_and, and_self, ri_eq, Int.natCast_add, Int.cast_ofNat_Int, rR, rc]; try simp) rfl⟩
        · simp (disch := omega) only [Tryz.ntmps40, Tryz.results40, go_sem, rR, rc, q0, q1, p0, hcl, hp1]
          refine w1.callDV 0 (viewL_cons_of (view_int) (viewL_cons_of (view_int) (viewL_cons_of (view_int) viewL_nil_of))) ?_
          simp (disch := omega) only [Tryz.ntmps40, Tryz.results40, go_sem, rR, rc, q0, q1, p0, hcl, hp1]
          refine w2.callDV 0 (viewL_cons_of (view_int) (viewL_cons_of (view_int) (viewL_cons_of (view_int) viewL_nil_of))) ?_
          simp (disch := omega) only [Tryz.ntmps40, Tryz.results40, go_sem, rR, rc, q0, q1, p0, hcl, hp1]
          exact Fin.val (by rw [hno2 (by rw [eok]; simp [hlt3])])

set_option maxRecDepth 20000 in
set_option maxHeartbeats 8000000 in
theorem Tryz.implVR_ok (R : List (List Con)) (hR : R.length ≤ 1048576) (hT : ∀ i, i < R.length → (rg R i).length ≤ 1048576) : PCall Tryz.prog 48 [.agg [rR R]] (.val (.bool (isVR R))) := by
  refine FCall.pcall (R := fun r _ => r = .val (.bool (isVR R))) ?_ 0 (by rintro r H rfl; exact view_bool)
  refine FCall.of_body Tryz.func48 rfl (by kernel_rfl) (by simp [Tryz.ntmps48]) ?_
  have hrl := rules_length R
  refine SW_of_vc Tryz.mixed _ _ _ (by kernel_rfl) ?_
  simp (disch := omega) only [Tryz.ntmps48, Tryz.results48, go_sem, rR]
  refine LoopW.loop (fun y : Nat × Nat => ⟨ofL [(1, .optr 0 0), (8, rR R), (9, .val (.int .i64 R.length)), (10, .val (.int .i64 y.1))], hp [(0, ⟨[rR R], true⟩)] y.2⟩) (fun y => y.1 ≤ R.length ∧ 1 ≤ y.2 ∧ ∀ x, x < y.1 → okR (R.getD x []) = true) (fun y => R.length - y.1) (0, 1) ⟨by simp, by simp, by simp⟩ (Wk.of (by simp only [go_sem, ↓List.forall_mem_cons, List.not_mem_nil, false_implies, implies_true, and_true, true_and, and_self, ri_eq, Int.natCast_add, Int.cast_ofNat_Int, rR]; try simp) rfl) ?_
  rintro ⟨i, nb⟩ ⟨hi, hnb, hii⟩
  simp only at hi hnb hii
  refine SW_of_vc Tryz.mixed _ _ _ (by kernel_rfl) ?_
  by_cases hlt : i < R.length
  case neg =>
    obtain rfl : i = R.length := by omega
    have w := Tryz.within_ok R.length 1 3
    have e : isVR R = inR R.length 1 3 := by rw [isVR, (all_getD []).2 hii, Bool.true_and]
    rw [e]
    simp (disch := omega) only [Tryz.ntmps48, Tryz.results48, go_sem, rR]
    refine w.callV 0 (viewL_cons_of (view_int) (viewL_cons_of (view_int) (viewL_cons_of (view_int) viewL_nil_of))) ?_
    simp (disch := omega) only [Tryz.ntmps48, Tryz.results48, go_sem, rR]
    exact Fin.val rfl
  have gk := rules_get hlt
  have gl := rules_load hlt
  have htl := hT i hlt
  have hno : okR (rg R i) = false → isVR R = false := fun h => by rw [isVR, all_not [] hlt h, Bool.false_and]
  have hyes : okR (rg R i) = true → ∀ x, x < i + 1 → okR (R.getD x []) = true := fun h x hx => by
    rcases Nat.lt_succ_iff_lt_or_eq.mp hx with g | rfl
    · exact hii x g
    · exact h
  clear hii
  generalize rg R i = T at *
  have hcl := cons_length T
  have w := Tryz.within_ok T.length 1 3
  cases hin : inR T.length 1 3 with
  | false =>
    rw [hin] at w
    have e : okR T = false := by rw [okR, hin, Bool.and_false]
    simp (disch := omega) only [Tryz.ntmps48, Tryz.results48, go_sem, rR, rc, gk, gl, hrl]
    refine w.callV 0 (viewL_cons_of (view_int) (viewL_cons_of (view_int) (viewL_cons_of (view_int) viewL_nil_of))) ?_
    simp (disch := omega) only [Tryz.ntmps48, Tryz.results48, go_sem, rR, rc, gk, gl, hrl]
    exact Fin.val (by rw [hno e])
  | true =>
  rw [hin] at w
  simp (disch := omega) only [Tryz.ntmps48, Tryz.results48, go_sem, rR, rc, gk, gl, hrl]
  refine w.callV 0 (viewL_cons_of (view_int) (viewL_cons_of (view_int) (viewL_cons_of (view_int) viewL_nil_of))) ?_
  simp (disch := omega) only [Tryz.ntmps48, Tryz.results48, go_sem, rR, rc, gk, gl, hrl]
  refine LoopW.loop (fun y : Nat × Nat => ⟨ofL [(1, .optr 0 0), (4, .optr nb 0), (8, rR R), (9, .val (.int .i64 R.length)), (10, .val (.int .i64 i)), (20, rc T), (21, .val (.int .i64 T.length)), (22, .val (.int .i64 y.1))], hp [(nb, ⟨[rc T], true⟩), (0, ⟨[rR R], true⟩)] y.2⟩) (fun y => y.1 ≤ T.length ∧ nb < y.2 ∧ ∀ x, x < y.1 → okT T x = true) (fun y => T.length - y.1) (0, nb + 1) ⟨by simp, by simp, by simp⟩ (Wk.of (by simp only [go_sem, ↓List.forall_mem_cons, List.not_mem_nil, false_implies, implies_true, and_true, true_and, and_self, ri_eq, Int.natCast_add, Int.cast_ofNat_Int, rR, rc]; try simp) (by first | rfl | (simp only [rR, rc]; done))) ?_
  rintro ⟨k, nb2⟩ ⟨hk, hnb2, hkk⟩
  simp only at hk hnb2 hkk
  refine SW_of_vc Tryz.mixed _ _ _ (by kernel_rfl) ?_
  by_cases hltk : k < T.length
  case neg =>
    obtain rfl : k = T.length := by omega
    have e := okR_of hkk
    rw [hin] at e
    simp (disch := omega) only [Tryz.ntmps48, Tryz.results48, go_sem, rR, rc]
    exact ⟨(i + 1, nb2), ⟨hlt, by show 1 ≤ nb2; omega, hyes e⟩, by show R.length - (i + 1) < R.length - i; omega, Wk.ofH (by simp only [go_sem, ↓List.forall_mem_cons, List.not_mem_nil, false_implies, implies_true, and_true, true_and, and_self, ri_eq, Int.natCast_add, Int.cast_ofNat_Int, rR, rc]; try simp) (by simp (disch := omega) only [hp, hmap, ↓List.forall_mem_cons, List.not_mem_nil, false_implies, implies_true, and_true, if_neg, if_pos, ↓reduceIte, rR]) (by simp [hp])⟩
  obtain ⟨a, b, s, hc⟩ := con_ex T k
  obtain ⟨q0, q1, q2, q3⟩ := cons_of hltk hc
  have w1 := Tryz.isFeature_ok a
  have w2 := Tryz.isThreshold_ok b
  have eok : okT T k = (inR a 0 5 && (inR b 1 1000 && (decide (k = 0) || decide ((cg T (k - 1)).1 < a)))) := by rw [okT, hc]
  have hno2 : okT T k = false → isVR R = false := fun h => hno (okR_not hltk h)
  have hyes2 : okT T k = true → ∀ x, x < k + 1 → okT T x = true := fun h x hx => by
    rcases Nat.lt_succ_iff_lt_or_eq.mp hx with g | rfl
    · exact hkk x g
    · exact h
  clear hkk hno hyes w
  cases ha : inR a 0 5 with
  | false =>
    rw [ha] at w1 eok
    simp (disch := omega) only [Tryz.ntmps48, Tryz.results48, go_sem, rR, rc, q0, q1, q3, hcl]
    refine w1.callDV 0 (viewL_cons_of (view_int) viewL_nil_of) ?_
    simp (disch := omega) only [Tryz.ntmps48, Tryz.results48, go_sem, rR, rc, q0, q1, q3, hcl]
    exact Fin.val (by rw [hno2 (by rw [eok]; rfl)])
  | true =>
    rw [ha] at w1 eok
    cases hb : inR b 1 1000 with
    | false =>
      rw [hb] at w2 eok
      simp (disch := omega) only [Tryz.ntmps48, Tryz.results48, go_sem, rR, rc, q0, q1, q3, hcl]
      refine w1.callDV 0 (viewL_cons_of (view_int) viewL_nil_of) ?_
      simp (disch := omega) only [Tryz.ntmps48, Tryz.results48, go_sem, rR, rc, q0, q1, q3, hcl]
      refine w2.callDV 0 (viewL_cons_of (view_int) viewL_nil_of) ?_
      simp (disch := omega) only [Tryz.ntmps48, Tryz.results48, go_sem, rR, rc, q0, q1, q3, hcl]
      exact Fin.val (by rw [hno2 (by rw [eok]; rfl)])
    | true =>
      rw [hb] at w2 eok
      cases k with
      | zero =>
        have q3z : List.take 3 (cons T) = [.val (.int .i64 a), .val (.int .i64 b), .val (.bool s)] := by simpa using q3
        simp (disch := omega) only [Tryz.ntmps48, Tryz.results48, go_sem, rR, rc, q0, q1, q3z, hcl]
        refine w1.callDV 0 (viewL_cons_of (view_int) viewL_nil_of) ?_
        simp (disch := omega) only [Tryz.ntmps48, Tryz.results48, go_sem, rR, rc, q0, q1, q3z, hcl]
        refine w2.callDV 0 (viewL_cons_of (view_int) viewL_nil_of) ?_
        simp (disch := omega) only [Tryz.ntmps48, Tryz.results48, go_sem, rR, rc, q0, q1, q3z, hcl]
        exact ⟨(1, nb2 + 1), ⟨by show 1 ≤ T.length; omega, by show nb < nb2 + 1; omega, hyes2 (by rw [eok]; rfl)⟩, by show T.length - 1 < T.length - 0; omega, Wk.ofH (by simp only [go_sem, ↓List.forall_mem_cons, List.not_mem_nil, false_implies, implies_true, and_true, true_and, and_self, ri_eq, Int.natCast_add, Int.cast_ofNat_Int, rR, rc]; try simp) (by simp (disch := omega) only [hp, hmap, ↓List.forall_mem_cons, List.not_mem_nil, false_implies, implies_true, and_true, if_neg, if_pos, ↓reduceIte, rR, rc, and_self]) (by simp [hp])⟩
      | succ p =>
        obtain ⟨a', b', s', hc'⟩ := con_ex T p
        obtain ⟨p0, _, _, _⟩ := cons_of (k := p) (by omega) hc'
        rw [Nat.add_sub_cancel, hc'] at eok
        have hp1 : (((p + 1 : Nat) : Int)) - 1 = (p : Int) := by omega
        by_cases hlt3 : a' < a
        · simp (disch := omega) only [Tryz.ntmps48, Tryz.results48, go_sem, rR, rc, q0, q1, q3, hcl, p0, hp1]
          refine w1.callDV 0 (viewL_cons_of (view_int) viewL_nil_of) ?_
          simp (disch := omega) only [Tryz.ntmps48, Tryz.results48, go_sem, rR, rc, q0, q1, q3, hcl, p0, hp1]
          refine w2.callDV 0 (viewL_cons_of (view_int) viewL_nil_of) ?_
          simp (disch := omega) only [Tryz.ntmps48, Tryz.results48, go_sem, rR, rc, q0, q1, q3, hcl, p0, hp1]
          exact ⟨(p + 1 + 1, nb2 + 1), ⟨by show p + 1 + 1 ≤ T.length; omega, by show nb < nb2 + 1; omega, hyes2 (by rw [eok]; simp [hlt3])⟩, by show T.length - (p + 1 + 1) < T.length - (p + 1); omega, Wk.ofH (by simp only [go_sem, ↓List.forall_mem_cons, List.not_mem_nil, false_implies, implies_true, and_true, true_and, and_self, ri_eq, Int.natCast_add, Int.cast_ofNat_Int, rR, rc]; try simp) (by simp (disch := omega) only [hp, hmap, ↓List.forall_mem_cons, List.not_mem_nil, false_implies, implies_true, and_true, if_neg, if_pos, ↓reduceIte, rR, rc, and_self]) (by simp [hp])⟩
        · simp (disch := omega) only [Tryz.ntmps48, Tryz.results48, go_sem, rR, rc, q0, q1, q3, hcl, p0, hp1]
          refine w1.callDV 0 (viewL_cons_of (view_int) viewL_nil_of) ?_
          simp (disch := omega) only [Tryz.ntmps48, Tryz.results48, go_sem, rR, rc, q0, q1, q3, hcl, p0, hp1]
          refine w2.callDV 0 (viewL_cons_of (view_int) viewL_nil_of) ?_
          simp (disch := omega) only [Tryz.ntmps48, Tryz.results48, go_sem, rR, rc, q0, q1, q3, hcl, p0, hp1]
          exact Fin.val (by rw [hno2 (by rw [eok]; simp [hlt3])])
end Go.Sh

/-
  Contracts: a test holds, a rule, the first rule; the weight of a pair.
-/
namespace Go.Sh
set_option linter.unusedSimpArgs false
set_option linter.unusedVariables false
open Go Go.Proofs

def th (f : List Int) (t : Con) : Bool := isFV f && (inR t.1 0 5 && (decide (t.2.1 ≤ f.getD t.1.toNat 0) != t.2.2))
def rh (f : List Int) (T : List Con) : Bool := isFV f && T.all (th f)
def fr (R : List (List Con)) (f : List Int) : Int := if isVR R = true then fx (rh f) R else -1
theorem cg_all {T : List Con} {p : Con → Bool} : T.all p = true ↔ ∀ i, i < T.length → p (cg T i) = true := all_getD dc
set_option maxHeartbeats 2000000 in
theorem Tryz.specTH_ok (f : List Int) (hf : f.length ≤ 1048576) (a b : Int) (s : Bool) : PCall Tryz.prog 154 [.agg [.val (.int .i64 a), .val (.int .i64 b), .val (.bool s)], ri f] (.val (.bool (th f (a, b, s)))) := by
  refine FCall.pcall (R := fun r _ => r = .val (.bool (th f (a, b, s)))) ?_ 0 (by rintro r H rfl; exact view_bool)
  refine FCall.of_body Tryz.func154 rfl (by kernel_rfl) (by simp [Tryz.ntmps154]) ?_
  have w1 := Tryz.specFV_ok f hf
  have w2 := Tryz.l1In_ok a 0 5
  have lf := ints_length f
  unfold th
  simp only
  refine SW_of_vc Tryz.mixed _ _ _ (by kernel_rfl) ?_
  cases h1 : isFV f with
  | false =>
    rw [h1] at w1
    simp (disch := omega) only [Tryz.ntmps154, Tryz.results154, go_sem]
    refine w1.callDV 0 (viewL_cons_of (view_row) viewL_nil_of) ?_
    simp (disch := omega) only [Tryz.ntmps154, Tryz.results154, go_sem]
    exact Fin.val rfl
  | true =>
    rw [h1] at w1
    obtain ⟨fl, fr⟩ := isFV_t h1
    cases h2 : inR a 0 5 with
    | false =>
      rw [h2] at w2
      simp (disch := omega) only [Tryz.ntmps154, Tryz.results154, go_sem]
      refine w1.callDV 0 (viewL_cons_of (view_row) viewL_nil_of) ?_
      simp (disch := omega) only [Tryz.ntmps154, Tryz.results154, go_sem]
      refine w2.callDV 0 (viewL_cons_of (view_int) (viewL_cons_of (view_int) (viewL_cons_of (view_int) viewL_nil_of))) ?_
      simp (disch := omega) only [Tryz.ntmps154, Tryz.results154, go_sem]
      exact Fin.val rfl
    | true =>
      rw [h2] at w2
      have ha := inR_of h2
      obtain ⟨x, rfl⟩ := Int.eq_ofNat_of_zero_le ha.1
      have g1 : (ints f)[x]? = some (.val (.int .i64 (f.getD x 0))) := ints_get (by omega)
      rw [Int.toNat_natCast]
      generalize f.getD x 0 = v at *
      by_cases h3 : b ≤ v
      · cases s <;> simp (disch := omega) only [Tryz.ntmps154, Tryz.results154, go_sem, g1, lf]
        all_goals
          refine w1.callDV 0 (viewL_cons_of (view_row) viewL_nil_of) ?_
          simp (disch := omega) only [Tryz.ntmps154, Tryz.results154, go_sem, g1, lf]
          refine w2.callDV 0 (viewL_cons_of (view_int) (viewL_cons_of (view_int) (viewL_cons_of (view_int) viewL_nil_of))) ?_
          simp (disch := omega) only [Tryz.ntmps154, Tryz.results154, go_sem, g1, lf]
          exact Fin.val (by simp [h3])
      · cases s <;> simp (disch := omega) only [Tryz.ntmps154, Tryz.results154, go_sem, g1, lf]
        all_goals
          refine w1.callDV 0 (viewL_cons_of (view_row) viewL_nil_of) ?_
          simp (disch := omega) only [Tryz.ntmps154, Tryz.results154, go_sem, g1, lf]
          refine w2.callDV 0 (viewL_cons_of (view_int) (viewL_cons_of (view_int) (viewL_cons_of (view_int) viewL_nil_of))) ?_
          simp (disch := omega) only [Tryz.ntmps154, Tryz.results154, go_sem, g1, lf]
          exact Fin.val (by simp [h3])

set_option maxHeartbeats 2000000 in
theorem Tryz.implTH_ok (f : List Int) (hf : f.length ≤ 1048576) (a b : Int) (s : Bool) : PCall Tryz.prog 218 [.agg [.val (.int .i64 a), .val (.int .i64 b), .val (.bool s)], ri f] (.val (.bool (th f (a, b, s)))) := by
  refine FCall.pcall (R := fun r _ => r = .val (.bool (th f (a, b, s)))) ?_ 0 (by rintro r H rfl; exact view_bool)
  refine FCall.of_body Tryz.func218 rfl (by kernel_rfl) (by simp [Tryz.ntmps218]) ?_
  have w1 := Tryz.implFV_ok f hf
  have w2 := Tryz.isFeature_ok a
  have lf := ints_length f
  unfold th
  simp only
  refine SW_of_vc Tryz.mixed _ _ _ (by kernel_rfl) ?_
  cases h1 : isFV f with
  | false =>
    rw [h1] at w1
    simp (disch := omega) only [Tryz.ntmps218, Tryz.results218, go_sem]
    refine w1.callDV 0 (viewL_cons_of (view_row) viewL_nil_of) ?_
    simp (disch := omega) only [Tryz.ntmps218, Tryz.results218, go_sem]
    exact Fin.val rfl
  | true =>
    rw [h1] at w1
    obtain ⟨fl, fr⟩ := isFV_t h1
    cases h2 : inR a 0 5 with
    | false =>
      rw [h2] at w2
      simp (disch := omega) only [Tryz.ntmps218, Tryz.results218, go_sem]
      refine w1.callDV 0 (viewL_cons_of (view_row) viewL_nil_of) ?_
      simp (disch := omega) only [Tryz.ntmps218, Tryz.results218, go_sem]
      refine w2.callDV 0 (viewL_cons_of (view_int) viewL_nil_of) ?_
      simp (disch := omega) only [Tryz.ntmps218, Tryz.results218, go_sem]
      exact Fin.val rfl
    | true =>
      rw [h2] at w2
      have ha := inR_of h2
      obtain ⟨x, rfl⟩ := Int.eq_ofNat_of_zero_le ha.1
      have g1 : (ints f)[x]? = some (.val (.int .i64 (f.getD x 0))) := ints_get (by omega)
      rw [Int.toNat_natCast]
      generalize f.getD x 0 = v at *
      by_cases h3 : b ≤ v
      · cases s <;> simp (disch := omega) only [Tryz.ntmps218, Tryz.results218, go_sem, g1, lf]
        all_goals
          refine w1.callDV 0 (viewL_cons_of (view_row) viewL_nil_of) ?_
          simp (disch := omega) only [Tryz.ntmps218, Tryz.results218, go_sem, g1, lf]
          refine w2.callDV 0 (viewL_cons_of (view_int) viewL_nil_of) ?_
          simp (disch := omega) only [Tryz.ntmps218, Tryz.results218, go_sem, g1, lf]
          exact Fin.val (by simp [h3])
      · cases s <;> simp (disch := omega) only [Tryz.ntmps218, Tryz.results218, go_sem, g1, lf]
        all_goals
          refine w1.callDV 0 (viewL_cons_of (view_row) viewL_nil_of) ?_
          simp (disch := omega) only [Tryz.ntmps218, Tryz.results218, go_sem, g1, lf]
          refine w2.callDV 0 (viewL_cons_of (view_int) viewL_nil_of) ?_
          simp (disch := omega) only [Tryz.ntmps218, Tryz.results218, go_sem, g1, lf]
          exact Fin.val (by simp [h3])

set_option maxHeartbeats 2000000 in
theorem Tryz.specRH_ok (f : List Int) (hf : f.length ≤ 1048576) (T : List Con) (hT : T.length ≤ 1048576) : PCall Tryz.prog 112 [.agg [rc T], ri f] (.val (.bool (rh f T))) := by
  refine FCall.pcall (R := fun r _ => r = .val (.bool (rh f T))) ?_ 0 (by rintro r H rfl; exact view_bool)
  refine FCall.of_body Tryz.func112 rfl (by kernel_rfl) (by simp [Tryz.ntmps112]) ?_
  have lC := cons_length T
  have w1 := Tryz.specFV_ok f hf
  refine SW_of_vc Tryz.mixed _ _ _ (by kernel_rfl) ?_
  simp (disch := omega) only [Tryz.ntmps112, Tryz.results112, go_sem, rc]
  refine LoopW.loop (fun k : Nat => ⟨ofL [(1, ri f), (2, .optr 0 0), (5, .val (.int .i64 k))], hp [(0, ⟨[rc T], true⟩)] 1⟩) (fun k => k ≤ T.length ∧ ∀ i, i < k → th f (cg T i) = true) (fun k => T.length - k) 0 ⟨by omega, by simp⟩ (Wk.of (by simp only [go_sem, ↓List.forall_mem_cons, List.not_mem_nil, false_implies, implies_true, and_true, true_and, and_self, ri_eq, Int.natCast_add, Int.cast_ofNat_Int, rc]; try simp) rfl) ?_
  rintro k ⟨hk, hkk⟩
  refine SW_of_vc Tryz.mixed _ _ _ (by kernel_rfl) ?_
  by_cases hlt : k < T.length
  · obtain ⟨a, b, s, hc⟩ := con_ex T k
    obtain ⟨q0, q1, q2, q3⟩ := cons_of hlt hc
    have w2 := Tryz.specTH_ok f hf a b s
    cases he : th f (a, b, s) with
    | true =>
      rw [he] at w2
      simp (disch := omega) only [Tryz.ntmps112, Tryz.results112, go_sem, rc, q3, lC]
      refine w2.callV 1 (viewL_cons_of (view_con) (viewL_cons_of (view_row) viewL_nil_of)) ?_
      simp (disch := omega) only [Tryz.ntmps112, Tryz.results112, go_sem, rc, q3, lC]
      refine ⟨k + 1, ⟨by omega, fun i hi => ?_⟩, by omega, Wk.of (by simp only [go_sem, ↓List.forall_mem_cons, List.not_mem_nil, false_implies, implies_true, and_true, true_and, and_self, ri_eq, Int.natCast_add, Int.cast_ofNat_Int, rc]; try simp) rfl⟩
      rcases Nat.lt_succ_iff_lt_or_eq.mp hi with h | rfl
      · exact hkk i h
      · rw [hc]; exact he
    | false =>
      rw [he] at w2
      simp (disch := omega) only [Tryz.ntmps112, Tryz.results112, go_sem, rc, q3, lC]
      refine w2.callV 1 (viewL_cons_of (view_con) (viewL_cons_of (view_row) viewL_nil_of)) ?_
      simp (disch := omega) only [Tryz.ntmps112, Tryz.results112, go_sem, rc, q3, lC]
      exact Fin.val (by rw [rh, all_not dc hlt (by show th f (cg T k) = false; rw [hc]; exact he), Bool.and_false])
  · have hall : T.all (th f) = true := cg_all.2 fun i hi => hkk i (by omega)
    simp (disch := omega) only [Tryz.ntmps112, Tryz.results112, go_sem, rc]
    refine w1.callV 0 (viewL_cons_of (view_row) viewL_nil_of) ?_
    simp (disch := omega) only [Tryz.ntmps112, Tryz.results112, go_sem, rc]
    exact Fin.val (by rw [rh, hall, Bool.and_true])
set_option maxHeartbeats 1000000 in
theorem Tryz.indexFuncT_ok (f : FuncId) (cap : List SV) (C : List Con) (pr : Con → Bool) (hC : C.length ≤ 1048576) (hcap : ∀ H fu, viewL H fu cap = some cap)
    (hf : ∀ a b s, PCall Tryz.prog f (.agg [.val (.int .i64 a), .val (.int .i64 b), .val (.bool s)] :: cap) (.val (.bool (pr (a, b, s))))) :
    PCall Tryz.prog 248 [rc C, .clos (.func f) [] cap] (.val (.int .i64 (fx pr C))) := by
  refine FCall.pcall (R := fun r _ => r = .val (.int .i64 (fx pr C))) ?_ 0 (by rintro r H rfl; exact view_int)
  refine FCall.of_body Tryz.func248 rfl (by kernel_rfl) (by simp [Tryz.ntmps248]) ?_
  refine SW_of_vc Tryz.mixed _ _ _ (by kernel_rfl) ?_
  have lC := cons_length C
  simp (disch := omega) only [Tryz.ntmps248, Tryz.results248, go_sem, rc]
  refine LoopW.loop (fun k : Nat => ⟨ofL [(0, rc C), (1, .clos (.func f) [] cap), (7, .val (.int .i64 C.length)), (8, .val (.int .i64 k))], hp [] 0⟩) (fun k => k ≤ C.length ∧ ∀ i, i < k → pr (C.getD i dc) = false) (fun k => C.length - k) 0 ⟨by omega, by simp⟩ (Wk.of (by simp only [go_sem, ↓List.forall_mem_cons, List.not_mem_nil, false_implies, implies_true, and_true, true_and, and_self, ri_eq, Int.natCast_add, Int.cast_ofNat_Int, rc]; try simp) rfl) ?_
  rintro k ⟨hk, hkk⟩
  refine SW_of_vc Tryz.mixed _ _ _ (by kernel_rfl) ?_
  by_cases hlt : k < C.length
  · obtain ⟨a, b, s, hc⟩ := con_ex C k
    obtain ⟨_, _, _, q3⟩ := cons_of hlt hc
    have w := hf a b s
    cases he : pr (a, b, s) with
    | true =>
      rw [he] at w
      simp (disch := omega) only [Tryz.ntmps248, Tryz.results248, go_sem, rc, q3, lC]
      refine w.callV 1 (viewL_cons_of view_con (hcap _ _)) ?_
      simp (disch := omega) only [Tryz.ntmps248, Tryz.results248, go_sem, rc]
      exact Fin.val (by rw [fx_some dc hlt hkk (by show pr (cg C k) = true; rw [hc]; exact he)])
    | false =>
      rw [he] at w
      simp (disch := omega) only [Tryz.ntmps248, Tryz.results248, go_sem, rc, q3, lC]
      refine w.callV 1 (viewL_cons_of view_con (hcap _ _)) ?_
      simp (disch := omega) only [Tryz.ntmps248, Tryz.results248, go_sem, rc]
      refine ⟨k + 1, ⟨by omega, fun i hi => ?_⟩, by omega, Wk.of (by simp only [go_sem, ↓List.forall_mem_cons, List.not_mem_nil, false_implies, implies_true, and_true, true_and, and_self, ri_eq, Int.natCast_add, Int.cast_ofNat_Int, rc]; try simp) rfl⟩
      rcases Nat.lt_succ_iff_lt_or_eq.mp hi with h | rfl
      · exact hkk i h
      · show pr (cg C i) = false; rw [hc]; exact he
  · simp (disch := omega) only [Tryz.ntmps248, Tryz.results248, go_sem, rc]
    exact Fin.val (by rw [fx_none dc (fun i hi => hkk i (by omega))])
theorem Tryz.containsFuncT_ok (f : FuncId) (cap : List SV) (C : List Con) (pr : Con → Bool) (hC : C.length ≤ 1048576) (hcap : ∀ H fu, viewL H fu cap = some cap)
    (hf : ∀ a b s, PCall Tryz.prog f (.agg [.val (.int .i64 a), .val (.int .i64 b), .val (.bool s)] :: cap) (.val (.bool (pr (a, b, s))))) :
    PCall Tryz.prog 216 [rc C, .clos (.func f) [] cap] (.val (.bool (C.any pr))) := by
  refine FCall.pcall (R := fun r _ => r = .val (.bool (C.any pr))) ?_ 0 (by rintro r H rfl; exact view_bool)
  refine FCall.of_body Tryz.func216 rfl (by kernel_rfl) (by simp [Tryz.ntmps216]) ?_
  have w := Tryz.indexFuncT_ok f cap C pr hC hcap hf
  have hg := fx_ge pr C
  generalize fx pr C = q at *
  refine SW_of_vc Tryz.mixed _ _ _ (by kernel_rfl) ?_
  cases h : C.any pr with
  | true =>
    have := hg.mpr h
    simp (disch := omega) only [Tryz.ntmps216, Tryz.results216, go_sem, rc]
    refine w.callV 1 (viewL_cons_of view_row (viewL_cons_of (view_clos (hcap _ _)) viewL_nil_of)) ?_
    simp (disch := omega) only [Tryz.ntmps216, Tryz.results216, go_sem, rc]
    exact Fin.val rfl
  | false =>
    have : ¬ 0 ≤ q := fun e => by rw [hg.mp e] at h; cases h
    simp (disch := omega) only [Tryz.ntmps216, Tryz.results216, go_sem, rc]
    refine w.callV 1 (viewL_cons_of view_row (viewL_cons_of (view_clos (hcap _ _)) viewL_nil_of)) ?_
    simp (disch := omega) only [Tryz.ntmps216, Tryz.results216, go_sem, rc]
    exact Fin.val rfl
theorem Tryz.implRH1_ok (f : List Int) (hf : f.length ≤ 1048576) (a b : Int) (s : Bool) : PCall Tryz.prog 217 [.agg [.val (.int .i64 a), .val (.int .i64 b), .val (.bool s)], .rptr [ri f] 0] (.val (.bool (!th f (a, b, s)))) := by
  refine FCall.pcall (R := fun r _ => r = .val (.bool (!th f (a, b, s)))) ?_ 0 (by rintro r H rfl; exact view_bool)
  refine FCall.of_body Tryz.func217 rfl (by kernel_rfl) (by simp [Tryz.ntmps217]) ?_
  have w := Tryz.implTH_ok f hf a b s
  refine SW_of_vc Tryz.mixed _ _ _ (by kernel_rfl) ?_
  simp (disch := omega) only [Tryz.ntmps217, Tryz.results217, go_sem]
  refine w.callV 1 (viewL_cons_of (view_con) (viewL_cons_of (view_row) viewL_nil_of)) ?_
  simp (disch := omega) only [Tryz.ntmps217, Tryz.results217, go_sem]
  exact Fin.val rfl
set_option maxHeartbeats 2000000 in
theorem Tryz.implRH_ok (f : List Int) (hf : f.length ≤ 1048576) (T : List Con) (hT : T.length ≤ 1048576) : PCall Tryz.prog 181 [.agg [rc T], ri f] (.val (.bool (rh f T))) := by
  refine FCall.pcall (R := fun r _ => r = .val (.bool (rh f T))) ?_ 0 (by rintro r H rfl; exact view_bool)
  refine FCall.of_body Tryz.func181 rfl (by kernel_rfl) (by simp [Tryz.ntmps181]) ?_
  have w1 := Tryz.implFV_ok f hf
  have w := Tryz.containsFuncT_ok 217 [.rptr [ri f] 0] T (fun c => !th f c) hT (cap_rptr _ _) (fun a b s => Tryz.implRH1_ok f hf a b s)
  have e := any_not (L := T) (p := th f)
  refine SW_of_vc Tryz.mixed _ _ _ (by kernel_rfl) ?_
  cases h1 : isFV f with
  | false =>
    rw [h1] at w1
    simp (disch := omega) only [Tryz.ntmps181, Tryz.results181, go_sem, rc]
    refine w1.callV 0 (viewL_cons_of (view_row) viewL_nil_of) ?_
    simp (disch := omega) only [Tryz.ntmps181, Tryz.results181, go_sem, rc]
    exact Fin.val (by rw [rh, h1, Bool.false_and])
  | true =>
    rw [h1] at w1
    simp (disch := omega) only [Tryz.ntmps181, Tryz.results181, go_sem, rc]
    refine w1.callV 0 (viewL_cons_of (view_row) viewL_nil_of) ?_
    simp (disch := omega) only [Tryz.ntmps181, Tryz.results181, go_sem, rc]
    refine w.callV 2 (viewL_cons_of view_row (viewL_cons_of (view_clos (viewL_cons_of (view_optr rfl (viewL_cons_of view_row viewL_nil_of)) viewL_nil_of)) viewL_nil_of)) ?_
    simp (disch := omega) only [Tryz.ntmps181, Tryz.results181, go_sem, rc]
    exact Fin.val (by rw [e, rh, h1, Bool.true_and])

/-! ### The first rule -/
set_option maxHeartbeats 2000000 in
theorem Tryz.specFR_ok (R : List (List Con)) (f : List Int) (hR : R.length ≤ 1048576) (hT : ∀ i, i < R.length → (rg R i).length ≤ 1048576) (hf : f.length ≤ 1048576) : PCall Tryz.prog 64 [.agg [rR R], ri f] (.val (.int .i64 (fr R f))) := by
  refine FCall.pcall (R := fun r _ => r = .val (.int .i64 (fr R f))) ?_ 0 (by rintro r H rfl; exact view_int)
  refine FCall.of_body Tryz.func64 rfl (by kernel_rfl) (by simp [Tryz.ntmps64]) ?_
  have hrl := rules_length R
  have w1 := Tryz.specVR_ok R hR hT
  have e0 : R.length = 0 → fr R f = -1 := fun h => by
    rw [List.length_eq_zero_iff.1 h, fr]; split <;> rfl
  refine SW_of_vc Tryz.mixed _ _ _ (by kernel_rfl) ?_
  simp (disch := omega) only [Tryz.ntmps64, Tryz.results64, go_sem, rR]
  refine LoopW.loop (fun i : Nat => ⟨ofL [(1, ri f), (2, .optr 0 0), (5, .val (.int .i64 i))], hp [(0, ⟨[rR R], true⟩)] 1⟩) (fun i => i ≤ R.length ∧ (0 < i → isVR R = true) ∧ ∀ x, x < i → rh f (R.getD x []) = false) (fun i => R.length - i) 0 ⟨by omega, by simp, by simp⟩ (Wk.of (by simp only [go_sem, ↓List.forall_mem_cons, List.not_mem_nil, false_implies, implies_true, and_true, true_and, and_self, ri_eq, Int.natCast_add, Int.cast_ofNat_Int, rR]; try simp) rfl) ?_
  rintro i ⟨hi, hv, hii⟩
  refine SW_of_vc Tryz.mixed _ _ _ (by kernel_rfl) ?_
  by_cases hlt : i < R.length
  · cases h1 : isVR R with
    | false =>
      rw [h1] at w1
      simp (disch := omega) only [Tryz.ntmps64, Tryz.results64, go_sem, rR]
      refine w1.callV 1 (viewL_cons_of view_rule viewL_nil_of) ?_
      simp (disch := omega) only [Tryz.ntmps64, Tryz.results64, go_sem, rR]
      exact Fin.val (by rw [fr, h1]; rfl)
    | true =>
      rw [h1] at w1
      have gk := rules_get hlt
      have gl := rules_load hlt
      have w2 := Tryz.specRH_ok f hf (rg R i) (hT i hlt)
      cases h2 : rh f (rg R i) with
      | true =>
        rw [h2] at w2
        simp (disch := omega) only [Tryz.ntmps64, Tryz.results64, go_sem, rR, gk, gl, hrl]
        refine w1.callV 1 (viewL_cons_of view_rule viewL_nil_of) ?_
        simp (disch := omega) only [Tryz.ntmps64, Tryz.results64, go_sem, rR, gk, gl, hrl]
        refine w2.callV 1 (viewL_cons_of view_rule (viewL_cons_of view_row viewL_nil_of)) ?_
        simp (disch := omega) only [Tryz.ntmps64, Tryz.results64, go_sem, rR, gk, gl, hrl]
        exact Fin.val (by rw [fr, h1, if_pos rfl, fx_some [] hlt hii h2])
      | false =>
        rw [h2] at w2
        simp (disch := omega) only [Tryz.ntmps64, Tryz.results64, go_sem, rR, gk, gl, hrl]
        refine w1.callV 1 (viewL_cons_of view_rule viewL_nil_of) ?_
        simp (disch := omega) only [Tryz.ntmps64, Tryz.results64, go_sem, rR, gk, gl, hrl]
        refine w2.callV 1 (viewL_cons_of view_rule (viewL_cons_of view_row viewL_nil_of)) ?_
        simp (disch := omega) only [Tryz.ntmps64, Tryz.results64, go_sem, rR, gk, gl, hrl]
        refine ⟨i + 1, ⟨hlt, fun x hx => ?_⟩, by omega, Wk.of (by simp only [go_sem, ↓List.forall_mem_cons, List.not_mem_nil, false_implies, implies_true, and_true, true_and, and_self, ri_eq, Int.natCast_add, Int.cast_ofNat_Int, rR]; try simp) rfl⟩
        rcases Nat.lt_succ_iff_lt_or_eq.mp hx with h | rfl
        · exact hii x h
        · exact h2
  · obtain rfl : i = R.length := by omega
    have e : fr R f = -1 := by
      by_cases h0 : R.length = 0
      · exact e0 h0
      · rw [fr, hv (by omega), if_pos rfl, fx_none [] hii]
    rw [e]
    simp (disch := omega) only [Tryz.ntmps64, Tryz.results64, go_sem, rR]
    exact Fin.val rfl
set_option maxHeartbeats 1000000 in
theorem Tryz.indexFuncR_ok (f : FuncId) (cap : List SV) (R : List (List Con)) (pr : List Con → Bool) (hR : R.length ≤ 1048576) (hcap : ∀ H fu, viewL H fu cap = some cap)
    (hf : ∀ i, i < R.length → PCall Tryz.prog f (.agg [rc (rg R i)] :: cap) (.val (.bool (pr (rg R i))))) :
    PCall Tryz.prog 179 [rR R, .clos (.func f) [] cap] (.val (.int .i64 (fx pr R))) := by
  refine FCall.pcall (R := fun r _ => r = .val (.int .i64 (fx pr R))) ?_ 0 (by rintro r H rfl; exact view_int)
  refine FCall.of_body Tryz.func179 rfl (by kernel_rfl) (by simp [Tryz.ntmps179]) ?_
  refine SW_of_vc Tryz.mixed _ _ _ (by kernel_rfl) ?_
  have hrl := rules_length R
  simp (disch := omega) only [Tryz.ntmps179, Tryz.results179, go_sem, rR]
  refine LoopW.loop (fun k : Nat => ⟨ofL [(0, rR R), (1, .clos (.func f) [] cap), (7, .val (.int .i64 R.length)), (8, .val (.int .i64 k))], hp [] 0⟩) (fun k => k ≤ R.length ∧ ∀ i, i < k → pr (R.getD i []) = false) (fun k => R.length - k) 0 ⟨by omega, by simp⟩ (Wk.of (by simp only [go_sem, ↓List.forall_mem_cons, List.not_mem_nil, false_implies, implies_true, and_true, true_and, and_self, ri_eq, Int.natCast_add, Int.cast_ofNat_Int, rR]; try simp) rfl) ?_
  rintro k ⟨hk, hkk⟩
  refine SW_of_vc Tryz.mixed _ _ _ (by kernel_rfl) ?_
  by_cases hlt : k < R.length
  · have gk := rules_get hlt
    have gl := rules_load hlt
    have w := hf k hlt
    cases he : pr (rg R k) with
    | true =>
      rw [he] at w
      simp (disch := omega) only [Tryz.ntmps179, Tryz.results179, go_sem, rR, gk, gl, hrl]
      refine w.callV 1 (viewL_cons_of view_rule (hcap _ _)) ?_
      simp (disch := omega) only [Tryz.ntmps179, Tryz.results179, go_sem, rR]
      exact Fin.val (by rw [fx_some [] hlt hkk he])
    | false =>
      rw [he] at w
      simp (disch := omega) only [Tryz.ntmps179, Tryz.results179, go_sem, rR, gk, gl, hrl]
      refine w.callV 1 (viewL_cons_of view_rule (hcap _ _)) ?_
      simp (disch := omega) only [Tryz.ntmps179, Tryz.results179, go_sem, rR]
      refine ⟨k + 1, ⟨by omega, fun i hi => ?_⟩, by omega, Wk.of (by simp only [go_sem, ↓List.forall_mem_cons, List.not_mem_nil, false_implies, implies_true, and_true, true_and, and_self, ri_eq, Int.natCast_add, Int.cast_ofNat_Int, rR]; try simp) rfl⟩
      rcases Nat.lt_succ_iff_lt_or_eq.mp hi with h | rfl
      · exact hkk i h
      · exact he
  · simp (disch := omega) only [Tryz.ntmps179, Tryz.results179, go_sem, rR]
    exact Fin.val (by rw [fx_none [] (fun i hi => hkk i (by omega))])
theorem Tryz.implFR1_ok (f : List Int) (hf : f.length ≤ 1048576) (T : List Con) (hT : T.length ≤ 1048576) : PCall Tryz.prog 180 [.agg [rc T], .rptr [ri f] 0] (.val (.bool (rh f T))) := by
  refine FCall.pcall (R := fun r _ => r = .val (.bool (rh f T))) ?_ 0 (by rintro r H rfl; exact view_bool)
  refine FCall.of_body Tryz.func180 rfl (by kernel_rfl) (by simp [Tryz.ntmps180]) ?_
  have w := Tryz.implRH_ok f hf T hT
  refine SW_of_vc Tryz.mixed _ _ _ (by kernel_rfl) ?_
  simp (disch := omega) only [Tryz.ntmps180, Tryz.results180, go_sem, rc]
  refine w.callV 1 (viewL_cons_of view_rule (viewL_cons_of view_row viewL_nil_of)) ?_
  simp (disch := omega) only [Tryz.ntmps180, Tryz.results180, go_sem]
  exact Fin.val rfl
set_option maxHeartbeats 2000000 in
theorem Tryz.implFR_ok (R : List (List Con)) (f : List Int) (hR : R.length ≤ 1048576) (hT : ∀ i, i < R.length → (rg R i).length ≤ 1048576) (hf : f.length ≤ 1048576) : PCall Tryz.prog 138 [.agg [rR R], ri f] (.val (.int .i64 (fr R f))) := by
  refine FCall.pcall (R := fun r _ => r = .val (.int .i64 (fr R f))) ?_ 0 (by rintro r H rfl; exact view_int)
  refine FCall.of_body Tryz.func138 rfl (by kernel_rfl) (by simp [Tryz.ntmps138]) ?_
  have w1 := Tryz.implVR_ok R hR hT
  have w := Tryz.indexFuncR_ok 180 [.rptr [ri f] 0] R (rh f) hR (cap_rptr _ _) (fun i hi => Tryz.implFR1_ok f hf (rg R i) (hT i hi))
  refine SW_of_vc Tryz.mixed _ _ _ (by kernel_rfl) ?_
  cases h1 : isVR R with
  | false =>
    rw [h1] at w1
    simp (disch := omega) only [Tryz.ntmps138, Tryz.results138, go_sem, rR]
    refine w1.callV 1 (viewL_cons_of view_rule viewL_nil_of) ?_
    simp (disch := omega) only [Tryz.ntmps138, Tryz.results138, go_sem, rR]
    exact Fin.val (by rw [fr, h1]; rfl)
  | true =>
    rw [h1] at w1
    simp (disch := omega) only [Tryz.ntmps138, Tryz.results138, go_sem, rR]
    refine w1.callV 1 (viewL_cons_of view_rule viewL_nil_of) ?_
    simp (disch := omega) only [Tryz.ntmps138, Tryz.results138, go_sem, rR]
    refine w.callV 2 (viewL_cons_of view_row (viewL_cons_of (view_clos (viewL_cons_of (view_optr rfl (viewL_cons_of view_row viewL_nil_of)) viewL_nil_of)) viewL_nil_of)) ?_
    simp (disch := omega) only [Tryz.ntmps138, Tryz.results138, go_sem, rR]
    exact Fin.val (by rw [fr, h1, if_pos rfl])

theorem Tryz.specRsH_ok (R : List (List Con)) (f : List Int) (hR : R.length ≤ 1048576) (hT : ∀ i, i < R.length → (rg R i).length ≤ 1048576) (hf : f.length ≤ 1048576) : PCall Tryz.prog 25 [.agg [rR R], ri f] (.val (.bool (decide (0 ≤ fr R f)))) := by
  refine FCall.pcall (R := fun r _ => r = .val (.bool (decide (0 ≤ fr R f)))) ?_ 0 (by rintro r H rfl; exact view_bool)
  refine FCall.of_body Tryz.func25 rfl (by kernel_rfl) (by simp [Tryz.ntmps25]) ?_
  have w := Tryz.specFR_ok R f hR hT hf
  generalize fr R f = q at *
  refine SW_of_vc Tryz.mixed _ _ _ (by kernel_rfl) ?_
  by_cases h : 0 ≤ q
  · simp (disch := omega) only [Tryz.ntmps25, Tryz.results25, go_sem, rR]
    refine w.callV 1 (viewL_cons_of view_rule (viewL_cons_of view_row viewL_nil_of)) ?_
    simp (disch := omega) only [Tryz.ntmps25, Tryz.results25, go_sem, rR]
    exact Fin.val (by simp [h])
  · simp (disch := omega) only [Tryz.ntmps25, Tryz.results25, go_sem, rR]
    refine w.callV 1 (viewL_cons_of view_rule (viewL_cons_of view_row viewL_nil_of)) ?_
    simp (disch := omega) only [Tryz.ntmps25, Tryz.results25, go_sem, rR]
    exact Fin.val (by simp [h])

theorem Tryz.implRsH_ok (R : List (List Con)) (f : List Int) (hR : R.length ≤ 1048576) (hT : ∀ i, i < R.length → (rg R i).length ≤ 1048576) (hf : f.length ≤ 1048576) : PCall Tryz.prog 93 [.agg [rR R], ri f] (.val (.bool (decide (0 ≤ fr R f)))) := by
  refine FCall.pcall (R := fun r _ => r = .val (.bool (decide (0 ≤ fr R f)))) ?_ 0 (by rintro r H rfl; exact view_bool)
  refine FCall.of_body Tryz.func93 rfl (by kernel_rfl) (by simp [Tryz.ntmps93]) ?_
  have w := Tryz.implFR_ok R f hR hT hf
  generalize fr R f = q at *
  refine SW_of_vc Tryz.mixed _ _ _ (by kernel_rfl) ?_
  by_cases h : 0 ≤ q
  · simp (disch := omega) only [Tryz.ntmps93, Tryz.results93, go_sem, rR]
    refine w.callV 1 (viewL_cons_of view_rule (viewL_cons_of view_row viewL_nil_of)) ?_
    simp (disch := omega) only [Tryz.ntmps93, Tryz.results93, go_sem, rR]
    exact Fin.val (by simp [h])
  · simp (disch := omega) only [Tryz.ntmps93, Tryz.results93, go_sem, rR]
    refine w.callV 1 (viewL_cons_of view_rule (viewL_cons_of view_row viewL_nil_of)) ?_
    simp (disch := omega) only [Tryz.ntmps93, Tryz.results93, go_sem, rR]
    exact Fin.val (by simp [h])

/-! ### The weight of a pair -/
def pwt (R : List (List Con)) (W : List Int) (b : Int) (f : List Int) : Int :=
  if (isVR R && (isSc W b && isFV f)) = true then (if 0 ≤ fr R f then (if (dot f W 6).tdiv (wsum W 6) - b < 1 then 1 else (dot f W 6).tdiv (wsum W 6) - b) else (if -1 < (dot f W 6).tdiv (wsum W 6) - b then -1 else (dot f W 6).tdiv (wsum W 6) - b)) else 0

set_option maxHeartbeats 4000000 in
theorem Tryz.specPW_ok (R : List (List Con)) (W : List Int) (b : Int) (f : List Int) (hR : R.length ≤ 1048576) (hT : ∀ i, i < R.length → (rg R i).length ≤ 1048576) (hW : W.length ≤ 1048576) (hf : f.length ≤ 1048576) : PCall Tryz.prog 42 [.agg [rR R], sS W b, ri f] (.val (.int .i64 (pwt R W b f))) := by
  refine FCall.pcall (R := fun r _ => r = .val (.int .i64 (pwt R W b f))) ?_ 0 (by rintro r H rfl; exact view_int)
  refine FCall.of_body Tryz.func42 rfl (by kernel_rfl) (by simp [Tryz.ntmps42]) ?_
  have w1 := Tryz.specVR_ok R hR hT
  have w2 := Tryz.specSc_ok W b hW
  have w3 := Tryz.specFV_ok f hf
  have w4 := Tryz.specRsH_ok R f hR hT hf
  unfold pwt
  cases h1 : isVR R with
  | false =>
    rw [h1] at w1
    refine SW_of_vc Tryz.mixed _ _ _ (by kernel_rfl) ?_
    simp (disch := omega) only [Tryz.ntmps42, Tryz.results42, go_sem, rR]
    refine w1.callV 1 (viewL_cons_of view_rule viewL_nil_of) ?_
    simp (disch := omega) only [Tryz.ntmps42, Tryz.results42, go_sem, rR]
    exact Fin.val rfl
  | true =>
  rw [h1] at w1
  cases h2 : isSc W b with
  | false =>
    rw [h2] at w2
    refine SW_of_vc Tryz.mixed _ _ _ (by kernel_rfl) ?_
    simp (disch := omega) only [Tryz.ntmps42, Tryz.results42, go_sem, rR]
    refine w1.callV 1 (viewL_cons_of view_rule viewL_nil_of) ?_
    simp (disch := omega) only [Tryz.ntmps42, Tryz.results42, go_sem, rR]
    refine w2.callV 1 (viewL_cons_of view_sS viewL_nil_of) ?_
    simp (disch := omega) only [Tryz.ntmps42, Tryz.results42, go_sem, rR]
    exact Fin.val rfl
  | true =>
  have w5 := fun h => Tryz.specPS_ok W b f hW hf h2 h
  obtain ⟨g1, g2, g3, g4, g5⟩ := isSc_t h2
  rw [h2] at w2
  cases h3 : isFV f with
  | false =>
    rw [h3] at w3
    refine SW_of_vc Tryz.mixed _ _ _ (by kernel_rfl) ?_
    simp (disch := omega) only [Tryz.ntmps42, Tryz.results42, go_sem, rR]
    refine w1.callV 1 (viewL_cons_of view_rule viewL_nil_of) ?_
    simp (disch := omega) only [Tryz.ntmps42, Tryz.results42, go_sem, rR]
    refine w2.callV 1 (viewL_cons_of view_sS viewL_nil_of) ?_
    simp (disch := omega) only [Tryz.ntmps42, Tryz.results42, go_sem, rR]
    refine w3.callV 0 (viewL_cons_of (view_row) viewL_nil_of) ?_
    simp (disch := omega) only [Tryz.ntmps42, Tryz.results42, go_sem, rR]
    exact Fin.val rfl
  | true =>
  have w5 := w5 h3
  obtain ⟨f1, f2⟩ := isFV_t h3
  have hdb := dot_b f2 g2 6 (by omega)
  have hq : 0 ≤ (dot f W 6).tdiv (wsum W 6) := Int.tdiv_nonneg hdb.1 (by omega)
  have hq2 : (dot f W 6).tdiv (wsum W 6) ≤ dot f W 6 := Int.tdiv_le_self _ hdb.1
  rw [h3] at w3
  generalize (dot f W 6).tdiv (wsum W 6) = d at *
  simp only [Bool.and_self, if_true]
  refine SW_of_vc Tryz.mixed _ _ _ (by kernel_rfl) ?_
  by_cases h4 : 0 ≤ fr R f
  · rw [decide_eq_true h4] at w4
    rw [if_pos h4]
    by_cases h5 : d - b < 1
    · simp (disch := omega) only [Tryz.ntmps42, Tryz.results42, go_sem, rR]
      refine w1.callV 1 (viewL_cons_of view_rule viewL_nil_of) ?_
      simp (disch := omega) only [Tryz.ntmps42, Tryz.results42, go_sem, rR]
      refine w2.callV 1 (viewL_cons_of view_sS viewL_nil_of) ?_
      simp (disch := omega) only [Tryz.ntmps42, Tryz.results42, go_sem, rR]
      refine w3.callV 0 (viewL_cons_of (view_row) viewL_nil_of) ?_
      simp (disch := omega) only [Tryz.ntmps42, Tryz.results42, go_sem, rR]
      refine w5.callDV 1 (viewL_cons_of view_sS (viewL_cons_of view_row viewL_nil_of)) ?_
      simp (disch := omega) only [Tryz.ntmps42, Tryz.results42, go_sem, rR]
      refine w4.callV 1 (viewL_cons_of view_rule (viewL_cons_of view_row viewL_nil_of)) ?_
      simp (disch := omega) only [Tryz.ntmps42, Tryz.results42, go_sem, rR]
      exact Fin.val (by first | rfl | (rw [if_pos h5]; done))
    · simp (disch := omega) only [Tryz.ntmps42, Tryz.results42, go_sem, rR]
      refine w1.callV 1 (viewL_cons_of view_rule viewL_nil_of) ?_
      simp (disch := omega) only [Tryz.ntmps42, Tryz.results42, go_sem, rR]
      refine w2.callV 1 (viewL_cons_of view_sS viewL_nil_of) ?_
      simp (disch := omega) only [Tryz.ntmps42, Tryz.results42, go_sem, rR]
      refine w3.callV 0 (viewL_cons_of (view_row) viewL_nil_of) ?_
      simp (disch := omega) only [Tryz.ntmps42, Tryz.results42, go_sem, rR]
      refine w5.callDV 1 (viewL_cons_of view_sS (viewL_cons_of view_row viewL_nil_of)) ?_
      simp (disch := omega) only [Tryz.ntmps42, Tryz.results42, go_sem, rR]
      refine w4.callV 1 (viewL_cons_of view_rule (viewL_cons_of view_row viewL_nil_of)) ?_
      simp (disch := omega) only [Tryz.ntmps42, Tryz.results42, go_sem, rR]
      exact Fin.val (by first | rfl | (rw [if_neg h5]; done) | (rw [if_neg h5]; congr 2; omega) | (congr 2; split <;> omega))
  · rw [decide_eq_false h4] at w4
    rw [if_neg h4]
    by_cases h5 : -1 < d - b
    · simp (disch := omega) only [Tryz.ntmps42, Tryz.results42, go_sem, rR]
      refine w1.callV 1 (viewL_cons_of view_rule viewL_nil_of) ?_
      simp (disch := omega) only [Tryz.ntmps42, Tryz.results42, go_sem, rR]
      refine w2.callV 1 (viewL_cons_of view_sS viewL_nil_of) ?_
      simp (disch := omega) only [Tryz.ntmps42, Tryz.results42, go_sem, rR]
      refine w3.callV 0 (viewL_cons_of (view_row) viewL_nil_of) ?_
      simp (disch := omega) only [Tryz.ntmps42, Tryz.results42, go_sem, rR]
      refine w5.callDV 1 (viewL_cons_of view_sS (viewL_cons_of view_row viewL_nil_of)) ?_
      simp (disch := omega) only [Tryz.ntmps42, Tryz.results42, go_sem, rR]
      refine w4.callV 1 (viewL_cons_of view_rule (viewL_cons_of view_row viewL_nil_of)) ?_
      simp (disch := omega) only [Tryz.ntmps42, Tryz.results42, go_sem, rR]
      exact Fin.val (by first | rfl | (rw [if_pos h5]; done))
    · simp (disch := omega) only [Tryz.ntmps42, Tryz.results42, go_sem, rR]
      refine w1.callV 1 (viewL_cons_of view_rule viewL_nil_of) ?_
      simp (disch := omega) only [Tryz.ntmps42, Tryz.results42, go_sem, rR]
      refine w2.callV 1 (viewL_cons_of view_sS viewL_nil_of) ?_
      simp (disch := omega) only [Tryz.ntmps42, Tryz.results42, go_sem, rR]
      refine w3.callV 0 (viewL_cons_of (view_row) viewL_nil_of) ?_
      simp (disch := omega) only [Tryz.ntmps42, Tryz.results42, go_sem, rR]
      refine w5.callDV 1 (viewL_cons_of view_sS (viewL_cons_of view_row viewL_nil_of)) ?_
      simp (disch := omega) only [Tryz.ntmps42, Tryz.results42, go_sem, rR]
      refine w4.callV 1 (viewL_cons_of view_rule (viewL_cons_of view_row viewL_nil_of)) ?_
      simp (disch := omega) only [Tryz.ntmps42, Tryz.results42, go_sem, rR]
      exact Fin.val (by first | rfl | (rw [if_neg h5]; done) | (rw [if_neg h5]; congr 2; omega) | (congr 2; split <;> omega))

set_option maxHeartbeats 4000000 in
theorem Tryz.implPW_ok (R : List (List Con)) (W : List Int) (b : Int) (f : List Int) (hR : R.length ≤ 1048576) (hT : ∀ i, i < R.length → (rg R i).length ≤ 1048576) (hW : W.length ≤ 1048576) (hf : f.length ≤ 1048576) : PCall Tryz.prog 51 [.agg [rR R], sS W b, ri f] (.val (.int .i64 (pwt R W b f))) := by
  refine FCall.pcall (R := fun r _ => r = .val (.int .i64 (pwt R W b f))) ?_ 0 (by rintro r H rfl; exact view_int)
  refine FCall.of_body Tryz.func51 rfl (by kernel_rfl) (by simp [Tryz.ntmps51]) ?_
  have w1 := Tryz.implVR_ok R hR hT
  have w2 := Tryz.implSc_ok W b hW
  have w3 := Tryz.implFV_ok f hf
  have w4 := Tryz.implRsH_ok R f hR hT hf
  unfold pwt
  cases h1 : isVR R with
  | false =>
    rw [h1] at w1
    refine SW_of_vc Tryz.mixed _ _ _ (by kernel_rfl) ?_
    simp (disch := omega) only [Tryz.ntmps51, Tryz.results51, go_sem, rR]
    refine w1.callV 1 (viewL_cons_of view_rule viewL_nil_of) ?_
    simp (disch := omega) only [Tryz.ntmps51, Tryz.results51, go_sem, rR]
    exact Fin.val rfl
  | true =>
  rw [h1] at w1
  cases h2 : isSc W b with
  | false =>
    rw [h2] at w2
    refine SW_of_vc Tryz.mixed _ _ _ (by kernel_rfl) ?_
    simp (disch := omega) only [Tryz.ntmps51, Tryz.results51, go_sem, rR]
    refine w1.callV 1 (viewL_cons_of view_rule viewL_nil_of) ?_
    simp (disch := omega) only [Tryz.ntmps51, Tryz.results51, go_sem, rR]
    refine w2.callV 1 (viewL_cons_of view_sS viewL_nil_of) ?_
    simp (disch := omega) only [Tryz.ntmps51, Tryz.results51, go_sem, rR]
    exact Fin.val rfl
  | true =>
  have w5 := fun h => Tryz.implPS_ok W b f hW hf h2 h
  obtain ⟨g1, g2, g3, g4, g5⟩ := isSc_t h2
  rw [h2] at w2
  cases h3 : isFV f with
  | false =>
    rw [h3] at w3
    refine SW_of_vc Tryz.mixed _ _ _ (by kernel_rfl) ?_
    simp (disch := omega) only [Tryz.ntmps51, Tryz.results51, go_sem, rR]
    refine w1.callV 1 (viewL_cons_of view_rule viewL_nil_of) ?_
    simp (disch := omega) only [Tryz.ntmps51, Tryz.results51, go_sem, rR]
    refine w2.callV 1 (viewL_cons_of view_sS viewL_nil_of) ?_
    simp (disch := omega) only [Tryz.ntmps51, Tryz.results51, go_sem, rR]
    refine w3.callV 0 (viewL_cons_of (view_row) viewL_nil_of) ?_
    simp (disch := omega) only [Tryz.ntmps51, Tryz.results51, go_sem, rR]
    exact Fin.val rfl
  | true =>
  have w5 := w5 h3
  obtain ⟨f1, f2⟩ := isFV_t h3
  have hdb := dot_b f2 g2 6 (by omega)
  have hq : 0 ≤ (dot f W 6).tdiv (wsum W 6) := Int.tdiv_nonneg hdb.1 (by omega)
  have hq2 : (dot f W 6).tdiv (wsum W 6) ≤ dot f W 6 := Int.tdiv_le_self _ hdb.1
  rw [h3] at w3
  generalize (dot f W 6).tdiv (wsum W 6) = d at *
  simp only [Bool.and_self, if_true]
  refine SW_of_vc Tryz.mixed _ _ _ (by kernel_rfl) ?_
  by_cases h4 : 0 ≤ fr R f
  · rw [decide_eq_true h4] at w4
    rw [if_pos h4]
    by_cases h5 : d - b < 1
    · simp (disch := omega) only [Tryz.ntmps51, Tryz.results51, go_sem, rR]
      refine w1.callV 1 (viewL_cons_of view_rule viewL_nil_of) ?_
      simp (disch := omega) only [Tryz.ntmps51, Tryz.results51, go_sem, rR]
      refine w2.callV 1 (viewL_cons_of view_sS viewL_nil_of) ?_
      simp (disch := omega) only [Tryz.ntmps51, Tryz.results51, go_sem, rR]
      refine w3.callV 0 (viewL_cons_of (view_row) viewL_nil_of) ?_
      simp (disch := omega) only [Tryz.ntmps51, Tryz.results51, go_sem, rR]
      refine w5.callDV 1 (viewL_cons_of view_sS (viewL_cons_of view_row viewL_nil_of)) ?_
      simp (disch := omega) only [Tryz.ntmps51, Tryz.results51, go_sem, rR]
      refine w4.callV 1 (viewL_cons_of view_rule (viewL_cons_of view_row viewL_nil_of)) ?_
      simp (disch := omega) only [Tryz.ntmps51, Tryz.results51, go_sem, rR]
      exact Fin.val (by first | rfl | (rw [if_pos h5]; done))
    · simp (disch := omega) only [Tryz.ntmps51, Tryz.results51, go_sem, rR]
      refine w1.callV 1 (viewL_cons_of view_rule viewL_nil_of) ?_
      simp (disch := omega) only [Tryz.ntmps51, Tryz.results51, go_sem, rR]
      refine w2.callV 1 (viewL_cons_of view_sS viewL_nil_of) ?_
      simp (disch := omega) only [Tryz.ntmps51, Tryz.results51, go_sem, rR]
      refine w3.callV 0 (viewL_cons_of (view_row) viewL_nil_of) ?_
      simp (disch := omega) only [Tryz.ntmps51, Tryz.results51, go_sem, rR]
      refine w5.callDV 1 (viewL_cons_of view_sS (viewL_cons_of view_row viewL_nil_of)) ?_
      simp (disch := omega) only [Tryz.ntmps51, Tryz.results51, go_sem, rR]
      refine w4.callV 1 (viewL_cons_of view_rule (viewL_cons_of view_row viewL_nil_of)) ?_
      simp (disch := omega) only [Tryz.ntmps51, Tryz.results51, go_sem, rR]
      exact Fin.val (by first | rfl | (rw [if_neg h5]; done) | (rw [if_neg h5]; congr 2; omega) | (congr 2; split <;> omega))
  · rw [decide_eq_false h4] at w4
    rw [if_neg h4]
    by_cases h5 : -1 < d - b
    · simp (disch := omega) only [Tryz.ntmps51, Tryz.results51, go_sem, rR]
      refine w1.callV 1 (viewL_cons_of view_rule viewL_nil_of) ?_
      simp (disch := omega) only [Tryz.ntmps51, Tryz.results51, go_sem, rR]
      refine w2.callV 1 (viewL_cons_of view_sS viewL_nil_of) ?_
      simp (disch := omega) only [Tryz.ntmps51, Tryz.results51, go_sem, rR]
      refine w3.callV 0 (viewL_cons_of (view_row) viewL_nil_of) ?_
      simp (disch := omega) only [Tryz.ntmps51, Tryz.results51, go_sem, rR]
      refine w5.callDV 1 (viewL_cons_of view_sS (viewL_cons_of view_row viewL_nil_of)) ?_
      simp (disch := omega) only [Tryz.ntmps51, Tryz.results51, go_sem, rR]
      refine w4.callV 1 (viewL_cons_of view_rule (viewL_cons_of view_row viewL_nil_of)) ?_
      simp (disch := omega) only [Tryz.ntmps51, Tryz.results51, go_sem, rR]
      exact Fin.val (by first | rfl | (rw [if_pos h5]; done))
    · simp (disch := omega) only [Tryz.ntmps51, Tryz.results51, go_sem, rR]
      refine w1.callV 1 (viewL_cons_of view_rule viewL_nil_of) ?_
      simp (disch := omega) only [Tryz.ntmps51, Tryz.results51, go_sem, rR]
      refine w2.callV 1 (viewL_cons_of view_sS viewL_nil_of) ?_
      simp (disch := omega) only [Tryz.ntmps51, Tryz.results51, go_sem, rR]
      refine w3.callV 0 (viewL_cons_of (view_row) viewL_nil_of) ?_
      simp (disch := omega) only [Tryz.ntmps51, Tryz.results51, go_sem, rR]
      refine w5.callDV 1 (viewL_cons_of view_sS (viewL_cons_of view_row viewL_nil_of)) ?_
      simp (disch := omega) only [Tryz.ntmps51, Tryz.results51, go_sem, rR]
      refine w4.callV 1 (viewL_cons_of view_rule (viewL_cons_of view_row viewL_nil_of)) ?_
      simp (disch := omega) only [Tryz.ntmps51, Tryz.results51, go_sem, rR]
      exact Fin.val (by first | rfl | (rw [if_neg h5]; done) | (rw [if_neg h5]; congr 2; omega) | (congr 2; split <;> omega))
end Go.Sh

/-
  Numbers of any size as text: with the table of the powers of ten.
-/
namespace Go.Sh
set_option linter.unusedSimpArgs false
set_option linter.unusedVariables false
open Go Go.Proofs

theorem below_drew (w : World) (k : Nat) (os : Array Obj) : RowKit.Below w.heap.size w (Go.Sort.grow (w.drewN k) os) :=
  ⟨rfl, rfl, rfl, by show w.heap.size ≤ (w.heap ++ os).size; rw [Array.size_append]; omega, fun i hi => by
    show (w.heap ++ os)[i]? = w.heap[i]?
    rw [Array.getElem?_append_left hi]⟩
theorem Tryz.powG : Tryz.prog.globalNamed "internal/strconv.uint64pow10" = some 6 := by kernel_rfl
theorem Tryz.pow_tab {O : Nat → Prop} {w : World} (h : TabOk O w) : Lib.TabIs Tryz.prog w "internal/strconv.uint64pow10" .u64 Lib.pow10Tab := by
  obtain ⟨⟨c, e, fr, h1, h2⟩, hc⟩ := h (6, (List.range 20).map fun i v => v = Value.int .u64 ((10 ^ i : Nat) : Int)) (by simp [TABS])
  have hv : w.var? Tryz.prog "internal/strconv.uint64pow10" = some c := by
    unfold World.var?
    rw [Tryz.powG]
    simp only [Option.bind_some, h1]
  unfold Lib.TabIs
  rw [hv]
  congr 1
  simp only [List.length_map, List.length_range] at h2
  apply Array.ext_getElem?
  intro i
  by_cases hi : i < 20
  · obtain ⟨v, g1, g2, _⟩ := hc i (fun v => v = Value.int .u64 ((10 ^ i : Nat) : Int)) (by simp [hi])
    have g3 := World.var?_cell Tryz.powG hv i
    rw [g1, g2] at g3
    rw [← g3]
    simp [Lib.pow10Tab, hi]
  · rw [Array.getElem?_eq_none (by omega), Array.getElem?_eq_none (by simp [Lib.pow10Tab]; omega)]
theorem Tryz.itoa_ok (n : Int) (n1 : -9223372036854775808 ≤ n) (n2 : n ≤ 9223372036854775807) : PCall Tryz.prog 166 [.val (.int .i64 n)] (str (Lib.itoa n)) := by
  refine ⟨⟨_, Tryz.func166, rfl, rfl⟩, fun w vs hl ht => ?_⟩
  simp only [LRel, VRel] at hl
  obtain ⟨v, rest, rfl, rfl, rfl⟩ := hl
  refine (Tryz.strconv_Itoa n n1 n2 w (Tryz.pow_tab ht)).mono ?_
  rintro e w' ⟨rfl, k, os, rfl⟩
  refine ⟨_, rfl, below_drew w k os, ?_⟩
  simp only [VRel]; rfl
theorem Tryz.implFI_ok (n : Int) (n1 : -9223372036854775808 ≤ n) (n2 : n ≤ 9223372036854775807) : PCall Tryz.prog 124 [.val (.int .i64 n)] (str (Lib.itoa n)) := by
  have h := Tryz.itoa_ok n n1 n2
  refine FCall.pcall (R := fun r _ => r = str (Lib.itoa n)) ?_ 0 (by rintro r H rfl; exact view_str)
  refine FCall.of_body Tryz.func124 rfl (by kernel_rfl) (by simp [Tryz.ntmps124]) ?_
  refine SW_of_vc Tryz.mixed _ _ _ (by kernel_rfl) ?_
  simp (disch := omega) only [Tryz.ntmps124, Tryz.results124, go_sem]
  refine h.callV 0 (viewL_cons_of (view_int) viewL_nil_of) ?_
  simp (disch := omega) only [Tryz.ntmps124, Tryz.results124, go_sem]
  exact Fin.val rfl
end Go.Sh

/-
  Labels by first occurrence: what they tell of the list; refinement as equality of the meet.
-/
namespace Go.Sh
set_option linter.unusedSimpArgs false
set_option linter.unusedVariables false
open Go Go.Proofs

def rng (n : Nat) : List Int := (List.range n).map fun x : Nat => (x : Int)
end Go.Sh

/-
  Partitions read back from their text: plain.
-/
namespace Go.Sh
set_option linter.unusedSimpArgs false
set_option linter.unusedVariables false
open Go Go.Proofs

theorem listExt {A B : List Int} (hl : A.length = B.length) (h : ∀ x, x < A.length → A.getD x 0 = B.getD x 0) : A = B := by
  refine List.ext_getElem hl fun i h1 h2 => ?_
  have := h i h1
  simpa [h1, h2] using this
theorem ch_nat {x : Nat} (h : x < 10) : (UInt8.ofNat (48 + x)).toNat = 48 + x := by
  rw [UInt8.toNat_ofNat']; omega
theorem fmtB_cons {x : Nat} (h : x < 10) (b : List Int) : fmtB ((x : Int) :: b) = UInt8.ofNat (48 + x) :: fmtB b := by
  rw [fmtB_eq, fmtB_eq, List.map_cons, itoa_small h, List.flatten_cons]; rfl
/-- The blocks as they stand. -/
theorem part_blk {L : List Int} (h : isPart L = true) : (1 ≤ L.length ∧ L.length ≤ 8) ∧ (blkTo L L.length).length ≤ 8 ∧ 1 ≤ (blkTo L L.length).length ∧ (∀ b ∈ blkTo L L.length, ∀ y ∈ b, ∃ x : Nat, y = x ∧ x < 8) := by
  have hl : 1 ≤ L.length ∧ L.length ≤ 8 := by
    rw [isPart, Bool.and_eq_true] at h
    have := inR_of h.2; omega
  have h1 := blkTo_le L L.length
  have h2 : 1 ≤ (blkTo L L.length).length := by
    have := blkTo_len_mono L (j := 1) (k := L.length) hl.1
    have h3 : L.getD 0 0 < (blkTo L 1).length := blkTo_lt h (k := 0) (by omega)
    obtain ⟨x, hx, _⟩ := blk_at h (k := 0) (by omega)
    rw [hx] at h3
    omega
  refine ⟨hl, by omega, h2, fun b hb y hy => ?_⟩
  obtain ⟨i, hi, rfl⟩ := List.getElem_of_mem hb
  have := (blk_mem h L.length (Nat.le_refl _) i hi).2 y
  have e : mrow (blkTo L L.length) i = (blkTo L L.length)[i] := by simp [mrow, hi]
  rw [e] at this
  obtain ⟨x, x1, x2, _⟩ := this.1 hy
  exact ⟨x, x2, by omega⟩
/-- What is right of a list half read. -/
structure SInv (L : List Int) (p : List Int × Int) (D : Nat → Prop) : Prop where
  ln : p.1.length = 8
  n0 : 0 ≤ p.2
  n1 : p.2 ≤ L.length
  ok : ∀ x, D x → p.1.getD x 0 = L.getD x 0 ∧ (x : Int) < p.2
theorem SInv.put {L : List Int} {p : List Int × Int} {D : Nat → Prop} (h : SInv L p D) {x : Nat} {i : Int} (hx : x < L.length) (h8 : x < 8) (hi : L.getD x 0 = i) : SInv L (sput i p (UInt8.ofNat (48 + x))) (fun y => D y ∨ y = x) := by
  have e : sput i p (UInt8.ofNat (48 + x)) = (p.1.set x i, max p.2 ((x : Int) + 1)) := by
    rw [sput, ch_nat (by omega), if_pos (by omega)]
    congr 2
    · omega
    · omega
  rw [e]
  have := h.n0
  have := h.n1
  refine ⟨by simp [h.ln], by show 0 ≤ max p.2 ((x : Int) + 1); omega, by show max p.2 ((x : Int) + 1) ≤ L.length; omega, fun y hy => ?_⟩
  show (p.1.set x i).getD y 0 = L.getD y 0 ∧ (y : Int) < max p.2 ((x : Int) + 1)
  have hl := h.ln
  by_cases hyx : y = x
  · subst hyx
    refine ⟨?_, by omega⟩
    rw [← hi]; simp [hl, h8]
  · rcases hy with hy | hy
    · obtain ⟨h1, h2⟩ := h.ok y hy
      refine ⟨?_, by omega⟩
      rw [← h1]; simp [List.getElem?_set, Ne.symm hyx]
    · exact absurd hy hyx
theorem SInv.block {L : List Int} {i : Int} : ∀ {b : List Int} {p : List Int × Int} {D : Nat → Prop}, SInv L p D → (∀ y ∈ b, ∃ x : Nat, y = x ∧ x < L.length ∧ x < 8 ∧ L.getD x 0 = i) → SInv L ((fmtB b).foldl (sput i) p) (fun x => D x ∨ (x : Int) ∈ b)
  | [], p, D, h, _ => ⟨h.ln, h.n0, h.n1, fun x hx => h.ok x (by simpa using hx)⟩
  | y :: b, p, D, h, hb => by
    obtain ⟨x, rfl, h1, h2, h3⟩ := hb y (by simp)
    rw [fmtB_cons (by omega), List.foldl_cons]
    have := SInv.block (h.put h1 h2 h3) (b := b) (fun z hz => hb z (by simp [hz]))
    refine ⟨this.ln, this.n0, this.n1, fun z hz => this.ok z ?_⟩
    rcases hz with hz | hz
    · exact .inl (.inl hz)
    · rcases List.mem_cons.1 hz with hz | hz
      · exact .inl (.inr (by exact_mod_cast hz))
      · exact .inr hz
theorem SInv.blocks {L : List Int} : ∀ {B : List (List Int)} {i : Int} {p : List Int × Int} {D : Nat → Prop}, SInv L p D → (∀ j, j < B.length → ∀ y ∈ mrow B j, ∃ x : Nat, y = x ∧ x < L.length ∧ x < 8 ∧ L.getD x 0 = i + j) → SInv L (spc i (B.map fmtB) p) (fun x => D x ∨ ∃ j, j < B.length ∧ (x : Int) ∈ mrow B j)
  | [], i, p, D, h, _ => ⟨h.ln, h.n0, h.n1, fun x hx => h.ok x (by simpa using hx)⟩
  | b :: B, i, p, D, h, hb => by
    have h1 := SInv.block h (b := b) (i := i) (fun y hy => by
      obtain ⟨x, x1, x2, x3, x4⟩ := hb 0 (by simp) y hy
      exact ⟨x, x1, x2, x3, by simpa using x4⟩)
    have h2 := SInv.blocks (B := B) (i := i + 1) h1 (fun j hj y hy => by
      obtain ⟨x, x1, x2, x3, x4⟩ := hb (j + 1) (by simpa using hj) y hy
      exact ⟨x, x1, x2, x3, by rw [x4]; omega⟩)
    rw [List.map_cons, spc]
    refine ⟨h2.ln, h2.n0, h2.n1, fun z hz => h2.ok z ?_⟩
    rcases hz with hz | ⟨j, hj, hz⟩
    · exact .inl (.inl hz)
    · cases j with
      | zero => exact .inl (.inr hz)
      | succ j => exact .inr ⟨j, by simpa using hj, hz⟩
theorem SInv.all {L : List Int} {p : List Int × Int} {D : Nat → Prop} (h : SInv L p D) (hD : ∀ x, x < L.length → D x) (h1 : 1 ≤ L.length ∧ L.length ≤ 8) : p.1.take p.2.toNat = L := by
  have hn : p.2 = L.length := by
    have := (h.ok (L.length - 1) (hD _ (by omega))).2
    have := h.n1
    omega
  rw [hn, Int.toNat_natCast]
  refine listExt (by rw [List.length_take, h.ln]; omega) fun x hx => ?_
  have hx' : x < L.length := by rw [List.length_take, h.ln] at hx; omega
  rw [← (h.ok x (hD x hx')).1]
  simp [List.getElem?_take, hx']
/-! ### What the program reads -/
def iput (n : Nat) (i : Int) : List UInt8 → List Int → Option (List Int)
  | [], l => some l
  | c :: cs, l => if 0 ≤ (c.toNat : Int) - 48 ∧ (c.toNat : Int) - 48 ≤ (n : Int) - 1 then iput n i cs (l.set (c.toNat - 48) i) else none
def ipc (n : Nat) : Int → List (List UInt8) → List Int → Option (List Int)
  | _, [], l => some l
  | i, q :: qs, l => match iput n i q l with
    | some l => ipc n (i + 1) qs l
    | none => none
def IOk (L l : List Int) (D : Nat → Prop) : Prop := l.length = L.length ∧ ∀ x, D x → l.getD x 0 = L.getD x 0
theorem IOk.block {L : List Int} {i : Int} : ∀ {b : List Int} {l : List Int} {D : Nat → Prop}, IOk L l D → (∀ y ∈ b, ∃ x : Nat, y = x ∧ x < L.length ∧ x < 8 ∧ L.getD x 0 = i) → ∃ l', iput L.length i (fmtB b) l = some l' ∧ IOk L l' (fun x => D x ∨ (x : Int) ∈ b)
  | [], l, D, h, _ => ⟨l, rfl, h.1, fun x hx => h.2 x (by simpa using hx)⟩
  | y :: b, l, D, h, hb => by
    obtain ⟨x, rfl, h1, h2, h3⟩ := hb y (by simp)
    rw [fmtB_cons (by omega), iput, ch_nat (by omega), if_pos (by omega), show 48 + x - 48 = x by omega]
    have hset : IOk L (l.set x i) (fun z => D z ∨ z = x) := by
      refine ⟨by rw [List.length_set]; exact h.1, fun z hz => ?_⟩
      by_cases hzx : z = x
      · subst hzx; rw [← h3]; simp [h.1, h1]
      · rcases hz with hz | hz
        · rw [← h.2 z hz]; simp [List.getElem?_set, Ne.symm hzx]
        · exact absurd hz hzx
    obtain ⟨l', e, g⟩ := IOk.block hset (b := b) (fun z hz => hb z (by simp [hz]))
    refine ⟨l', e, g.1, fun z hz => g.2 z ?_⟩
    rcases hz with hz | hz
    · exact .inl (.inl hz)
    · rcases List.mem_cons.1 hz with hz | hz
      · exact .inl (.inr (by exact_mod_cast hz))
      · exact .inr hz
theorem IOk.blocks {L : List Int} : ∀ {B : List (List Int)} {i : Int} {l : List Int} {D : Nat → Prop}, IOk L l D → (∀ j, j < B.length → ∀ y ∈ mrow B j, ∃ x : Nat, y = x ∧ x < L.length ∧ x < 8 ∧ L.getD x 0 = i + j) → ∃ l', ipc L.length i (B.map fmtB) l = some l' ∧ IOk L l' (fun x => D x ∨ ∃ j, j < B.length ∧ (x : Int) ∈ mrow B j)
  | [], i, l, D, h, _ => ⟨l, rfl, h.1, fun x hx => h.2 x (by simpa using hx)⟩
  | b :: B, i, l, D, h, hb => by
    obtain ⟨l1, e1, h1⟩ := IOk.block h (b := b) (i := i) (fun y hy => by
      obtain ⟨x, x1, x2, x3, x4⟩ := hb 0 (by simp) y hy
      exact ⟨x, x1, x2, x3, by simpa using x4⟩)
    obtain ⟨l2, e2, h2⟩ := IOk.blocks (B := B) (i := i + 1) h1 (fun j hj y hy => by
      obtain ⟨x, x1, x2, x3, x4⟩ := hb (j + 1) (by simpa using hj) y hy
      exact ⟨x, x1, x2, x3, by rw [x4]; omega⟩)
    refine ⟨l2, by rw [List.map_cons, ipc, e1]; exact e2, h2.1, fun z hz => h2.2 z ?_⟩
    rcases hz with hz | ⟨j, hj, hz⟩
    · exact .inl (.inl hz)
    · cases j with
      | zero => exact .inl (.inr hz)
      | succ j => exact .inr ⟨j, by simpa using hj, hz⟩
end Go.Sh

/-
  Contracts: the blocks of a partition. Of the program.
-/
namespace Go.Sh
set_option linter.unusedSimpArgs false
set_option linter.unusedVariables false
open Go Go.Proofs

end Go.Sh

/-
  Plain: components of a graph over 0 .. n-1, numbered by their first item; that the labels are determined; what a search leaves behind.
-/
namespace Go.Sh
set_option linter.unusedSimpArgs false
set_option linter.unusedVariables false
open Go Go.Proofs

inductive Rch (n : Nat) (B : Nat → Nat → Bool) : Nat → Nat → Prop
  | refl {x : Nat} : Rch n B x x
  | tail {x y z : Nat} : Rch n B x y → y < n → z < n → B y z = true → Rch n B x z
theorem Rch.trans {n : Nat} {B : Nat → Nat → Bool} {x y z : Nat} (h : Rch n B x y) (g : Rch n B y z) : Rch n B x z := by
  induction g with
  | refl => exact h
  | tail _ h1 h2 h3 ih => exact .tail ih h1 h2 h3
theorem Rch.one {n : Nat} {B : Nat → Nat → Bool} {x y : Nat} (h1 : x < n) (h2 : y < n) (h : B x y = true) : Rch n B x y := .tail .refl h1 h2 h
theorem Rch.symm {n : Nat} {B : Nat → Nat → Bool} (hs : ∀ x y, x < n → y < n → B x y = true → B y x = true) {x y : Nat} (h : Rch n B x y) : Rch n B y x := by
  induction h with
  | refl => exact .refl
  | tail _ h1 h2 h3 ih => exact (Rch.one h2 h1 (hs _ _ h1 h2 h3)).trans ih
theorem Rch.mono {n : Nat} {B B' : Nat → Nat → Bool} (hb : ∀ x y, x < n → y < n → B x y = true → Rch n B' x y) {x y : Nat} (h : Rch n B x y) : Rch n B' x y := by
  induction h with
  | refl => exact .refl
  | tail _ h1 h2 h3 ih => exact ih.trans (hb _ _ h1 h2 h3)
theorem Rch.lt {n : Nat} {B : Nat → Nat → Bool} {x y : Nat} (h : Rch n B x y) (hx : x < n) : y < n := by
  cases h with
  | refl => exact hx
  | tail _ _ h2 _ => exact h2
def RchK (n : Nat) (B : Nat → Nat → Bool) : Nat → Nat → Nat → Prop
  | 0, x, y => x = y
  | k + 1, x, z => RchK n B k x z ∨ ∃ y, y < n ∧ z < n ∧ RchK n B k x y ∧ B y z = true
theorem RchK.self {n : Nat} {B : Nat → Nat → Bool} : ∀ {k x : Nat}, RchK n B k x x
  | 0, x => rfl
  | k + 1, x => .inl RchK.self
/-- The labels of the components. -/
structure CompL (n : Nat) (B : Nat → Nat → Bool) (L : List Int) : Prop where
  len : L.length = n
  nn : ∀ x, x < n → 0 ≤ L.getD x 0
  can : ∀ x v, x < n → 0 ≤ v → v < L.getD x 0 → ∃ y, y < x ∧ L.getD y 0 = v
  iff : ∀ x y, x < n → y < n → (L.getD x 0 = L.getD y 0 ↔ Rch n B x y)
theorem list_ext {L L' : List Int} (h : L.length = L'.length) (g : ∀ x, x < L.length → L.getD x 0 = L'.getD x 0) : L = L' := by
  refine List.ext_getElem h fun i h1 h2 => ?_
  have := g i h1
  simpa [h1, h2] using this
theorem CompL.uniq {n : Nat} {B B' : Nat → Nat → Bool} {L L' : List Int} (h : CompL n B L) (h' : CompL n B' L') (hb : ∀ x y, x < n → y < n → (Rch n B x y ↔ Rch n B' x y)) : L = L' := by
  refine list_ext (h.len.trans h'.len.symm) (fun x hx => ?_)
  rw [h.len] at hx
  induction x using Nat.strongRecOn with
  | _ x ih =>
    rcases Int.lt_trichotomy (L.getD x 0) (L'.getD x 0) with hl | he | hl
    · obtain ⟨y, hy, e⟩ := h'.can x _ hx (h.nn x hx) hl
      have e2 := ih y hy (by omega)
      have := (h.iff y x (by omega) hx).1 (by omega)
      have := (h'.iff y x (by omega) hx).2 ((hb _ _ (by omega) hx).1 this)
      omega
    · exact he
    · obtain ⟨y, hy, e⟩ := h.can x _ hx (h'.nn x hx) hl
      have e2 := ih y hy (by omega)
      have := (h'.iff y x (by omega) hx).1 (by omega)
      have := (h.iff y x (by omega) hx).2 ((hb _ _ (by omega) hx).2 this)
      omega
open Classical in
noncomputable def comp (n : Nat) (B : Nat → Nat → Bool) : List Int := if h : ∃ L, CompL n B L then Classical.choose h else []
theorem CompL.eq {n : Nat} {B : Nat → Nat → Bool} {L : List Int} (h : CompL n B L) : L = comp n B := by
  have hex : ∃ L, CompL n B L := ⟨L, h⟩
  rw [comp, dif_pos hex]
  exact h.uniq (Classical.choose_spec hex) (fun _ _ _ _ => Iff.rfl)
theorem CompL.comp {n : Nat} {B : Nat → Nat → Bool} {L : List Int} (h : CompL n B L) : CompL n B (comp n B) := by rw [← h.eq]; exact h

/-- Items before i are labelled, with whole components. -/
structure PartL (n : Nat) (B : Nat → Nat → Bool) (i : Nat) (c : Int) (O : List Int) : Prop where
  len : O.length = n
  c0 : 0 ≤ c
  ci : c ≤ i
  done : ∀ x, x < i → x < n → 0 ≤ O.getD x 0
  rng : ∀ x, x < n → O.getD x 0 < c
  vals : ∀ v, 0 ≤ v → v < c → ∃ y, y < i ∧ y < n ∧ O.getD y 0 = v
  can : ∀ x v, x < n → 0 ≤ v → v < O.getD x 0 → ∃ y, y < x ∧ O.getD y 0 = v
  clo : ∀ x y, x < n → y < n → 0 ≤ O.getD x 0 → B x y = true → O.getD y 0 = O.getD x 0
  snd : ∀ x y, x < n → y < n → 0 ≤ O.getD x 0 → O.getD x 0 = O.getD y 0 → Rch n B x y
theorem getD_rep {n x : Nat} {a : Int} (h : x < n) : (List.replicate n a).getD x 0 = a := by simp [h]
theorem PartL.zero (n : Nat) (B : Nat → Nat → Bool) : PartL n B 0 0 (List.replicate n (-1)) where
  len := by simp
  c0 := by omega
  ci := by omega
  done x h := by omega
  rng x h := by rw [getD_rep h]; omega
  vals v h1 h2 := by omega
  can x v h h1 h2 := by rw [getD_rep h] at h2; omega
  clo x y h1 _ h2 := by rw [getD_rep h1] at h2; omega
  snd x y h1 _ h2 := by rw [getD_rep h1] at h2; omega
theorem PartL.skip {n : Nat} {B : Nat → Nat → Bool} {i : Nat} {c : Int} {O : List Int} (h : PartL n B i c O) (hi : 0 ≤ O.getD i 0) : PartL n B (i + 1) c O where
  len := h.len
  c0 := h.c0
  ci := by have := h.ci; omega
  done x hx hn := by
    rcases Nat.lt_succ_iff_lt_or_eq.1 hx with g | rfl
    · exact h.done x g hn
    · exact hi
  rng := h.rng
  vals v h1 h2 := by
    obtain ⟨y, g1, g2⟩ := h.vals v h1 h2
    exact ⟨y, by omega, g2⟩
  can := h.can
  clo := h.clo
  snd := h.snd
theorem PartL.path {n : Nat} {B : Nat → Nat → Bool} {i : Nat} {c : Int} {O : List Int} (h : PartL n B i c O) {x y : Nat} (hr : Rch n B x y) (h0 : 0 ≤ O.getD x 0) : O.getD y 0 = O.getD x 0 := by
  induction hr with
  | refl => rfl
  | tail _ h1 h2 h3 ih => rw [h.clo _ _ h1 h2 (by rw [ih]; exact h0) h3, ih]
/-- O' is O with the component of i labelled c. -/
structure NewL (n : Nat) (B : Nat → Nat → Bool) (c : Int) (i : Nat) (O O' : List Int) : Prop where
  len : O'.length = n
  new : ∀ x, x < n → Rch n B i x → O'.getD x 0 = c
  old : ∀ x, x < n → ¬ Rch n B i x → 0 ≤ O.getD x 0 → O'.getD x 0 = O.getD x 0
  neg : ∀ x, x < n → ¬ Rch n B i x → O.getD x 0 < 0 → O'.getD x 0 < 0
theorem PartL.unl {n : Nat} {B : Nat → Nat → Bool} (hs : ∀ x y, x < n → y < n → B x y = true → B y x = true) {i : Nat} {c : Int} {O : List Int} (h : PartL n B i c O) {k : Nat} (h0 : O.getD k 0 < 0) {x : Nat} (hr : Rch n B k x) : O.getD x 0 < 0 := by
  refine Int.not_le.1 fun hn => ?_
  have := h.path (hr.symm hs) hn
  omega
theorem PartL.step {n : Nat} {B : Nat → Nat → Bool} (hs : ∀ x y, x < n → y < n → B x y = true → B y x = true) {i : Nat} {c : Int} {O O' : List Int} (h : PartL n B i c O) (hi : i < n) (h0 : O.getD i 0 < 0) (g : NewL n B c i O O') : PartL n B (i + 1) (c + 1) O' := by
  have hun : ∀ x, Rch n B i x → O.getD x 0 < 0 := fun x hr => h.unl hs h0 hr
  have hkeep : ∀ x, x < n → 0 ≤ O.getD x 0 → O'.getD x 0 = O.getD x 0 := fun x hx hn => g.old x hx (fun hr => by have := hun x hr; omega) hn
  have hback : ∀ x, x < n → ¬ Rch n B i x → 0 ≤ O'.getD x 0 → O'.getD x 0 = O.getD x 0 ∧ 0 ≤ O.getD x 0 := by
    intro x hx hr hn
    by_cases h1 : 0 ≤ O.getD x 0
    · exact ⟨hkeep x hx h1, h1⟩
    · have := g.neg x hx hr (by omega); omega
  have hc0 := h.c0
  have hci := h.ci
  refine ⟨g.len, by omega, by omega, ?_, ?_, ?_, ?_, ?_, ?_⟩
  · intro x hx hn
    rcases Nat.lt_succ_iff_lt_or_eq.1 hx with k | rfl
    · have := h.done x k hn
      rw [hkeep x hn this]; exact this
    · rw [g.new x hn .refl]; omega
  · intro x hx
    by_cases hr : Rch n B i x
    · rw [g.new x hx hr]; omega
    · by_cases hn : 0 ≤ O'.getD x 0
      · have := hback x hx hr hn
        have := h.rng x hx
        omega
      · omega
  · intro v h1 h2
    by_cases hv : v = c
    · exact ⟨i, by omega, hi, by rw [g.new i hi .refl, hv]⟩
    · obtain ⟨y, k1, k2, k3⟩ := h.vals v h1 (by omega)
      exact ⟨y, by omega, k2, by rw [hkeep y k2 (by omega), k3]⟩
  · intro x v hx h1 h2
    by_cases hr : Rch n B i x
    · rw [g.new x hx hr] at h2
      obtain ⟨y, k1, k2, k3⟩ := h.vals v h1 h2
      have : ¬ x < i := fun hl => by have := h.done x hl hx; have := hun x hr; omega
      exact ⟨y, by omega, by rw [hkeep y k2 (by omega), k3]⟩
    · have hb := hback x hx hr (by omega)
      rw [hb.1] at h2
      obtain ⟨y, k1, k2⟩ := h.can x v hx h1 h2
      exact ⟨y, k1, by rw [hkeep y (by omega) (by omega), k2]⟩
  · intro x y hx hy h1 hb
    by_cases hr : Rch n B i x
    · rw [g.new x hx hr, g.new y hy (.tail hr hx hy hb)]
    · have hq := hback x hx hr h1
      have := h.clo x y hx hy hq.2 hb
      rw [hkeep y hy (by omega)]
      omega
  · intro x y hx hy h1 he
    by_cases hr : Rch n B i x
    · by_cases hr2 : Rch n B i y
      · exact (hr.symm hs).trans hr2
      · have := g.new x hx hr
        have := hback y hy hr2 (by omega)
        have := h.rng y hy
        omega
    · have hq := hback x hx hr h1
      by_cases hr2 : Rch n B i y
      · have := g.new y hy hr2
        have := h.rng x hx
        omega
      · have := hback y hy hr2 (by omega)
        exact h.snd x y hx hy hq.2 (by omega)
/-! ### The search that calls itself -/
structure DfsL (n : Nat) (B : Nat → Nat → Bool) (c : Int) (i : Nat) (O O' : List Int) : Prop where
  len : O'.length = n
  self : O'.getD i 0 = c
  keep : ∀ x, x < n → 0 ≤ O.getD x 0 → O'.getD x 0 = O.getD x 0
  new : ∀ x, x < n → O.getD x 0 < 0 → O'.getD x 0 < 0 ∨ (O'.getD x 0 = c ∧ Rch n B i x)
  clo : ∀ x y, x < n → y < n → O.getD x 0 < 0 → 0 ≤ O'.getD x 0 → B x y = true → 0 ≤ O'.getD y 0
structure DfsK (n : Nat) (B : Nat → Nat → Bool) (c : Int) (i : Nat) (O : List Int) (k : Nat) (O' : List Int) : Prop where
  len : O'.length = n
  self : O'.getD i 0 = c
  keep : ∀ x, x < n → 0 ≤ O.getD x 0 → O'.getD x 0 = O.getD x 0
  new : ∀ x, x < n → O.getD x 0 < 0 → O'.getD x 0 < 0 ∨ (O'.getD x 0 = c ∧ Rch n B i x)
  clo : ∀ x y, x < n → y < n → x ≠ i → O.getD x 0 < 0 → 0 ≤ O'.getD x 0 → B x y = true → 0 ≤ O'.getD y 0
  cli : ∀ y, y < n → y < k → B i y = true → 0 ≤ O'.getD y 0
theorem getD_set {L : List Int} {i x : Nat} {a : Int} (hi : i < L.length) : (L.set i a).getD x 0 = if x = i then a else L.getD x 0 := by
  simp only [List.getD_eq_getElem?_getD, List.getElem?_set]
  by_cases h : i = x
  · subst h; simp [hi]
  · have : ¬ x = i := fun e => h e.symm
    simp [h, this]
theorem DfsK.skip {n : Nat} {B : Nat → Nat → Bool} {c : Int} {i k : Nat} {O O' : List Int} (h : DfsK n B c i O k O') (hk : B i k = true → 0 ≤ O'.getD k 0) : DfsK n B c i O (k + 1) O' := by
  refine ⟨h.len, h.self, h.keep, h.new, h.clo, fun y hy hlt hb => ?_⟩
  rcases Nat.lt_succ_iff_lt_or_eq.1 hlt with g | rfl
  · exact h.cli y hy g hb
  · exact hk hb
theorem DfsK.step {n : Nat} {B : Nat → Nat → Bool} {c : Int} (hc : 0 ≤ c) {i k : Nat} {O O1 O2 : List Int} (hi : i < n) (hk : k < n) (h : DfsK n B c i O k O1) (hb : B i k = true) (hneg : O1.getD k 0 < 0) (g : DfsL n B c k O1 O2) : DfsK n B c i O (k + 1) O2 where
  len := g.len
  self := by rw [g.keep i hi (by rw [h.self]; exact hc), h.self]
  keep x hx h1 := by rw [g.keep x hx (by rw [h.keep x hx h1]; exact h1), h.keep x hx h1]
  new x hx h1 := by
    rcases h.new x hx h1 with g1 | ⟨g1, g2⟩
    · rcases g.new x hx g1 with g3 | ⟨g3, g4⟩
      · exact .inl g3
      · exact .inr ⟨g3, (Rch.one hi hk hb).trans g4⟩
    · exact .inr ⟨by rw [g.keep x hx (by omega), g1], g2⟩
  clo x y hx hy hne h1 h2 hb := by
    by_cases h3 : 0 ≤ O1.getD x 0
    · have := h.clo x y hx hy hne h1 h3 hb
      rw [g.keep y hy this]; exact this
    · exact g.clo x y hx hy (by omega) h2 hb
  cli y hy hlt hb := by
    rcases Nat.lt_succ_iff_lt_or_eq.1 hlt with k1 | rfl
    · have := h.cli y hy k1 hb
      rw [g.keep y hy this]; exact this
    · rw [g.self]; exact hc
/-! ### The search by rounds -/
structure SpI (n : Nat) (B : Nat → Nat → Bool) (c : Int) (i : Nat) (O : List Int) (s a b : Nat) (O' : List Int) : Prop where
  len : O'.length = n
  all : ∀ x, x < n → O'.getD x 0 = O.getD x 0 ∨ (O'.getD x 0 = c ∧ Rch n B i x)
  rk : ∀ x, x < n → RchK n B s i x → O'.getD x 0 = c
  rows : ∀ z y, z < a → z < n → y < n → RchK n B s i z → B z y = true → O'.getD y 0 = c
  row : ∀ y, y < b → y < n → RchK n B s i a → B a y = true → O'.getD y 0 = c
theorem SpI.skip {n : Nat} {B : Nat → Nat → Bool} {c : Int} {i s a b : Nat} {O O' : List Int} (h : SpI n B c i O s a b O') (ha : a < n) (hn : ¬ (O'.getD a 0 = c ∧ B a b = true)) : SpI n B c i O s a (b + 1) O' := by
  refine ⟨h.len, h.all, h.rk, h.rows, fun y hy hyn hr hb => ?_⟩
  rcases Nat.lt_succ_iff_lt_or_eq.1 hy with g | rfl
  · exact h.row y g hyn hr hb
  · exact absurd ⟨h.rk a ha hr, hb⟩ hn
theorem SpI.put {n : Nat} {B : Nat → Nat → Bool} {c : Int} {i s a b : Nat} {O O' : List Int} (hr : ∀ x, x < n → O.getD x 0 < c) (h : SpI n B c i O s a b O') (ha : a < n) (hb : b < n) (h1 : O'.getD a 0 = c) (h2 : B a b = true) : SpI n B c i O s a (b + 1) (O'.set b c) := by
  have hl := h.len
  have g : ∀ x, (O'.set b c).getD x 0 = if x = b then c else O'.getD x 0 := fun x => getD_set (by omega)
  have ra : Rch n B i a := by
    rcases h.all a ha with e | e
    · have := hr a ha; omega
    · exact e.2
  have hk : ∀ x, O'.getD x 0 = c → (O'.set b c).getD x 0 = c := fun x e => by
    rw [g]; split
    · rfl
    · exact e
  refine ⟨by simpa using hl, fun x hx => ?_, fun x hx hr => hk x (h.rk x hx hr), fun z y h3 h4 h5 h6 h7 => hk y (h.rows z y h3 h4 h5 h6 h7), fun y hy hyn h3 h4 => ?_⟩
  · rw [g]
    by_cases e : x = b
    · subst e; rw [if_pos rfl]; exact .inr ⟨rfl, .tail ra ha hb h2⟩
    · rw [if_neg e]; exact h.all x hx
  · rcases Nat.lt_succ_iff_lt_or_eq.1 hy with k | rfl
    · exact hk y (h.row y k hyn h3 h4)
    · rw [g, if_pos rfl]
theorem SpI.next {n : Nat} {B : Nat → Nat → Bool} {c : Int} {i s a b : Nat} {O O' : List Int} (h : SpI n B c i O s a b O') (hb : n ≤ b) : SpI n B c i O s (a + 1) 0 O' := by
  refine ⟨h.len, h.all, h.rk, fun z y h1 h2 h3 h4 h5 => ?_, fun y hy => by omega⟩
  rcases Nat.lt_succ_iff_lt_or_eq.1 h1 with g | rfl
  · exact h.rows z y g h2 h3 h4 h5
  · exact h.row y (by omega) h3 h4 h5
theorem SpI.round {n : Nat} {B : Nat → Nat → Bool} {c : Int} {i s a b : Nat} {O O' : List Int} (h : SpI n B c i O s a b O') (ha : n ≤ a) : SpI n B c i O (s + 1) 0 0 O' := by
  refine ⟨h.len, h.all, fun x hx hr => ?_, fun z y h1 => by omega, fun y h1 => by omega⟩
  rcases hr with hr | ⟨y, h1, h2, h3, h4⟩
  · exact h.rk x hx hr
  · exact h.rows y x (by omega) h1 h2 h3 h4
open Classical in
theorem PartL.ex {n : Nat} {B : Nat → Nat → Bool} (hs : ∀ x y, x < n → y < n → B x y = true → B y x = true) : ∀ i, i ≤ n → ∃ c O, PartL n B i c O
  | 0, _ => ⟨0, _, .zero n B⟩
  | i + 1, hi => by
    obtain ⟨c, O, h⟩ := PartL.ex hs i (by omega)
    by_cases h0 : 0 ≤ O.getD i 0
    · exact ⟨c, O, h.skip h0⟩
    · have e : ∀ x, x < n → ((List.range n).map fun x => if Rch n B i x then c else O.getD x 0).getD x 0 = if Rch n B i x then c else O.getD x 0 := by
        intro x hx
        simp [hx]
      refine ⟨c + 1, _, h.step hs (by omega) (by omega) (O' := (List.range n).map fun x => if Rch n B i x then c else O.getD x 0) ⟨by simp, fun x hx hr => ?_, fun x hx hr _ => ?_, fun x hx hr h1 => ?_⟩⟩
      · rw [e x hx, if_pos hr]
      · rw [e x hx, if_neg hr]
      · rw [e x hx, if_neg hr]; exact h1
end Go.Sh

/-
  Contracts: is it a weight matrix? Of the reference and of the program.
-/
namespace Go.Sh
set_option linter.unusedSimpArgs false
set_option linter.unusedVariables false
open Go Go.Proofs

end Go.Sh

/-
  What comes in as a matrix: its measures.
-/
namespace Go.Sh
set_option linter.unusedSimpArgs false
set_option linter.unusedVariables false
open Go Go.Proofs

end Go.Sh
