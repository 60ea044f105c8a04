/-
  Texts put together: ShQ, ST1, W3, Ty, C1, C2, C3, D1, D2, D3, J1, Lift, H1, K1, MX, N5, N6, V1, PP1, W1, W2, G1, HM1, PW1, G2, PW2, W4, Shelf, FI1. What each proves stands at its own head, with its conditions.
-/
import Derived.Test.YtihglnbaoadmcaaGreatDoorZa3
import Derived.Lib.ItoaNum
import Derived.Lib.Join
import Derived.Laws.Strings2
import Derived.Test.YtihglnbaoadmcaaGreatDoorChecked
import Derived.KernelRfl
import Derived.Test.YtihglnbaoadmcaaGreatDoorRows
import Derived.WalkKit
import Derived.ProofKit
import Derived.OpenShut
import Derived.ShutString
import Derived.ChangeOld
import Derived.Below
import Derived.Deep.Slices
import Derived.Lib.FieldsP
import Derived.Lib.TrimAscii
import Derived.Lib.OthersKept
import Derived.Lib.SlicesCompact
import Derived.Shelf.Strings.Builder1
import Derived.Shelf.Strings.Builder2
import Derived.Shelf.Strings.OnBuilder
import Derived.Shelf.Small.Bits
import Derived.Shelf.Small.Strs
import Derived.Shelf.Strings.BuilderF
import Derived.Shelf.Strings.BuilderK
import Derived.Shelf.Strings.Builder2Cap
import Derived.Shelf.Strconv.Atoi
import Derived.Shelf.Strconv.Itoa0
import Derived.Shelf.Strconv.Itoa1
import Derived.Shelf.LaysM
import Derived.Shelf.Strconv.Itoa2
import Derived.Shelf.Strconv.Itoa3
import Derived.Shelf.Strconv.AtoiErrFast
import Derived.Shelf.Strconv.ParseIntEmpty
import Derived.Shelf.Strconv.AtoiFail
import Derived.Shelf.Strconv.Clone
import Derived.Shelf.Strconv.SyntaxError
import Derived.Shelf.LaysC
import Derived.Shelf.Strconv.ToError
import Derived.Shelf.Strconv.AtoiErr
import Derived.Shelf.Strconv.Lower
import Derived.Shelf.Strconv.AtoiLong
import Derived.Shelf.Strconv.AtoiInnerAll
import Derived.Shelf.Strconv.RangeError
import Derived.Shelf.Strconv.ToErrorRange
import Derived.Shelf.Strconv.AtoiAll
import Derived.Shelf.Strconv.ErrVarAll
import Derived.Shelf.Strings.Search1
import Derived.Shelf.Strings.Search2
import Derived.Shelf.Strings.Search3
import Derived.Shelf.Strings.Count
import Derived.Shelf.Strings.Shaped
import Derived.Shelf.Sort.Plain
import Derived.Shelf.Strings.Prefix
import Derived.Shelf.Strings.Split
import Derived.Shelf.Strings.Replace
import Derived.Shelf.Strings.SplitShaped
import Derived.Shelf.Strings.RuneCount
import Derived.Shelf.Strings.IndexAny
import Derived.Shelf.Strings.AsciiSet
import Derived.Shelf.Strings.IndexAnyAll
import Derived.Shelf.Strings.FieldsFuncAny
import Derived.Shelf.Strings.FieldsFuncGrows
import Derived.Shelf.Strings.BuilderCap
import Derived.Ground.Names2Prog
import Derived.Shelf.Slices.Clone
import Derived.Shelf.Slices.CompactS
import Derived.Shelf.Slices.Cells
import Derived.Shelf.Slices.In.SortNone
import Derived.Ground.SlgnProg
import Derived.Shelf.SlicesE.Clone
import Derived.Test.YtihglnbaoadmcaaGreatDoorProg

set_option linter.unusedSimpArgs false
set_option linter.unusedVariables false
namespace Go.Sh
open Go.Proofs
attribute [go_sem] Tryz.ntmps4 Tryz.results4 Tryz.ntmps8 Tryz.results8 Tryz.ntmps12 Tryz.results12 Tryz.ntmps22 Tryz.results22 Tryz.ntmps23 Tryz.results23 Tryz.ntmps24 Tryz.results24 Tryz.ntmps25 Tryz.results25 Tryz.ntmps26 Tryz.results26 Tryz.ntmps27 Tryz.results27 Tryz.ntmps28 Tryz.results28 Tryz.ntmps29 Tryz.results29 Tryz.ntmps30 Tryz.results30 Tryz.ntmps31 Tryz.results31 Tryz.ntmps32 Tryz.results32 Tryz.ntmps33 Tryz.results33 Tryz.ntmps34 Tryz.results34 Tryz.ntmps38 Tryz.results38 Tryz.ntmps39 Tryz.results39 Tryz.ntmps40 Tryz.results40 Tryz.ntmps41 Tryz.results41 Tryz.ntmps42 Tryz.results42 Tryz.ntmps46 Tryz.results46 Tryz.ntmps47 Tryz.results47 Tryz.ntmps48 Tryz.results48 Tryz.ntmps49 Tryz.results49 Tryz.ntmps50 Tryz.results50 Tryz.ntmps51 Tryz.results51 Tryz.ntmps52 Tryz.results52 Tryz.ntmps60 Tryz.results60 Tryz.ntmps61 Tryz.results61 Tryz.ntmps62 Tryz.results62 Tryz.ntmps63 Tryz.results63 Tryz.ntmps64 Tryz.results64 Tryz.ntmps65 Tryz.results65 Tryz.ntmps66 Tryz.results66 Tryz.ntmps67 Tryz.results67 Tryz.ntmps68 Tryz.results68 Tryz.ntmps69 Tryz.results69 Tryz.ntmps70 Tryz.results70 Tryz.ntmps71 Tryz.results71 Tryz.ntmps72 Tryz.results72 Tryz.ntmps73 Tryz.results73 Tryz.ntmps74 Tryz.results74 Tryz.ntmps75 Tryz.results75 Tryz.ntmps76 Tryz.results76 Tryz.ntmps77 Tryz.results77 Tryz.ntmps78 Tryz.results78 Tryz.ntmps79 Tryz.results79 Tryz.ntmps82 Tryz.results82 Tryz.ntmps83 Tryz.results83 Tryz.ntmps86 Tryz.results86 Tryz.ntmps87 Tryz.results87 Tryz.ntmps88 Tryz.results88 Tryz.ntmps89 Tryz.results89 Tryz.ntmps90 Tryz.results90 Tryz.ntmps91 Tryz.results91 Tryz.ntmps92 Tryz.results92 Tryz.ntmps93 Tryz.results93 Tryz.ntmps94 Tryz.results94 Tryz.ntmps95 Tryz.results95 Tryz.ntmps96 Tryz.results96 Tryz.ntmps97 Tryz.results97 Tryz.ntmps98 Tryz.results98 Tryz.ntmps99 Tryz.results99 Tryz.ntmps104 Tryz.results104 Tryz.ntmps105 Tryz.results105 Tryz.ntmps106 Tryz.results106 Tryz.ntmps107 Tryz.results107 Tryz.ntmps108 Tryz.results108 Tryz.ntmps109 Tryz.results109 Tryz.ntmps110 Tryz.results110 Tryz.ntmps111 Tryz.results111 Tryz.ntmps112 Tryz.results112 Tryz.ntmps113 Tryz.results113 Tryz.ntmps114 Tryz.results114 Tryz.ntmps115 Tryz.results115 Tryz.ntmps116 Tryz.results116 Tryz.ntmps117 Tryz.results117 Tryz.ntmps118 Tryz.results118 Tryz.ntmps119 Tryz.results119 Tryz.ntmps120 Tryz.results120 Tryz.ntmps121 Tryz.results121 Tryz.ntmps122 Tryz.results122 Tryz.ntmps123 Tryz.results123 Tryz.ntmps124 Tryz.results124 Tryz.ntmps126 Tryz.results126 Tryz.ntmps127 Tryz.results127 Tryz.ntmps129 Tryz.results129 Tryz.ntmps131 Tryz.results131 Tryz.ntmps132 Tryz.results132 Tryz.ntmps133 Tryz.results133 Tryz.ntmps134 Tryz.results134 Tryz.ntmps135 Tryz.results135 Tryz.ntmps136 Tryz.results136 Tryz.ntmps137 Tryz.results137 Tryz.ntmps138 Tryz.results138 Tryz.ntmps139 Tryz.results139 Tryz.ntmps140 Tryz.results140 Tryz.ntmps141 Tryz.results141 Tryz.ntmps142 Tryz.results142 Tryz.ntmps143 Tryz.results143 Tryz.ntmps144 Tryz.results144 Tryz.ntmps145 Tryz.results145 Tryz.ntmps146 Tryz.results146 Tryz.ntmps147 Tryz.results147 Tryz.ntmps150 Tryz.results150 Tryz.ntmps151 Tryz.results151 Tryz.ntmps152 Tryz.results152 Tryz.ntmps153 Tryz.results153 Tryz.ntmps154 Tryz.results154 Tryz.ntmps155 Tryz.results155 Tryz.ntmps156 Tryz.results156 Tryz.ntmps157 Tryz.results157 Tryz.ntmps158 Tryz.results158 Tryz.ntmps159 Tryz.results159 Tryz.ntmps160 Tryz.results160 Tryz.ntmps161 Tryz.results161 Tryz.ntmps162 Tryz.results162 Tryz.ntmps163 Tryz.results163 Tryz.ntmps164 Tryz.results164 Tryz.ntmps165 Tryz.results165 Tryz.ntmps175 Tryz.results175 Tryz.ntmps176 Tryz.results176 Tryz.ntmps178 Tryz.results178 Tryz.ntmps179 Tryz.results179 Tryz.ntmps180 Tryz.results180 Tryz.ntmps181 Tryz.results181 Tryz.ntmps182 Tryz.results182 Tryz.ntmps183 Tryz.results183 Tryz.ntmps184 Tryz.results184 Tryz.ntmps185 Tryz.results185 Tryz.ntmps186 Tryz.results186 Tryz.ntmps187 Tryz.results187 Tryz.ntmps188 Tryz.results188 Tryz.ntmps189 Tryz.results189 Tryz.ntmps193 Tryz.results193 Tryz.ntmps194 Tryz.results194 Tryz.ntmps195 Tryz.results195 Tryz.ntmps198 Tryz.results198 Tryz.ntmps199 Tryz.results199 Tryz.ntmps200 Tryz.results200 Tryz.ntmps201 Tryz.results201 Tryz.ntmps202 Tryz.results202 Tryz.ntmps203 Tryz.results203 Tryz.ntmps204 Tryz.results204 Tryz.ntmps205 Tryz.results205 Tryz.ntmps216 Tryz.results216 Tryz.ntmps217 Tryz.results217 Tryz.ntmps218 Tryz.results218 Tryz.ntmps220 Tryz.results220 Tryz.ntmps222 Tryz.results222 Tryz.ntmps223 Tryz.results223 Tryz.ntmps224 Tryz.results224 Tryz.ntmps225 Tryz.results225 Tryz.ntmps226 Tryz.results226 Tryz.ntmps227 Tryz.results227 Tryz.ntmps230 Tryz.results230 Tryz.ntmps248 Tryz.results248 Tryz.ntmps251 Tryz.results251 Tryz.ntmps252 Tryz.results252
end Go.Sh
/-
  Results of any shape in memory of their own, known by what they read as.
-/
namespace Go.Sh
open Go Go.RowKit
variable {P : Program}

theorem shiftL_map (k : Nat) : ∀ ss : List SV, shiftL k ss = ss.map (shift k)
  | [] => by simp [shiftL]
  | s :: ss => by simp [shiftL, shiftL_map k ss]
mutual
theorem view_shift {H0 H' : Heap} {n : Nat} (hm : ∀ b blk, H0.map b = some blk → H'.map (b + n) = some ⟨shiftL n blk.cells, blk.ex⟩) : ∀ (f : Nat) (s s' : SV), view H0 f s = some s' → view H' f (shift n s) = some s'
  | f, .undef, s', h => by cases f <;> simpa [view, shift] using h
  | f, .val u, s', h => by cases f <;> simpa [view, shift] using h
  | f, .row m ex cs, s', h => by cases f <;> simpa [view, shift] using h
  | f, .rptr cs off, s', h => by cases f <;> simpa [view, shift] using h
  | 0, .own _ _ _ _ _ _, s', h => by simp [view] at h
  | f + 1, .own b off m cap sz ex, s', h => by
    simp only [view] at h
    split at h
    · rename_i blk hb
      split at h
      · rename_i hle
        split at h
        · rename_i cs hcs
          simp only [shift, view, hm b blk hb, shiftL_length, hle, if_true]
          have := viewL_shift hm f _ _ hcs
          rw [shiftL_map] at this
          rw [shiftL_map, ← List.map_drop, ← List.map_take, this]
          exact h
        · simp at h
      · simp at h
    · simp at h
  | 0, .optr _ _, s', h => by simp [view] at h
  | f + 1, .optr b off, s', h => by
    simp only [view] at h
    split at h
    · rename_i blk hb
      split at h
      · rename_i cs hcs
        simp only [shift, view, hm b blk hb, viewL_shift hm f _ _ hcs]
        exact h
      · simp at h
    · simp at h
  | 0, .agg _, s', h => by simp [view] at h
  | f + 1, .agg cs, s', h => by
    simp only [view] at h
    split at h
    · rename_i cs' hcs
      simp only [shift, view, viewL_shift hm f _ _ hcs]
      exact h
    · simp at h
  | 0, .tup _, s', h => by simp [view] at h
  | f + 1, .tup cs, s', h => by
    simp only [view] at h
    split at h
    · rename_i cs' hcs
      simp only [shift, view, viewL_shift hm f _ _ hcs]
      exact h
    · simp at h
  | 0, .clos _ _ _, s', h => by simp [view] at h
  | f + 1, .clos fn a c, s', h => by
    simp only [view] at h
    split at h
    · rename_i a' c' ha hc
      simp only [shift, view, viewL_shift hm f _ _ ha, viewL_shift hm f _ _ hc]
      exact h
    · simp at h
  | 0, .iface _ _, s', h => by simp [view] at h
  | f + 1, .iface t s, s', h => by
    simp only [view] at h
    split at h
    · rename_i s'' hs
      simp only [shift, view, view_shift hm f _ _ hs]
      exact h
    · simp at h
theorem viewL_shift {H0 H' : Heap} {n : Nat} (hm : ∀ b blk, H0.map b = some blk → H'.map (b + n) = some ⟨shiftL n blk.cells, blk.ex⟩) : ∀ (f : Nat) (ss ss' : List SV), viewL H0 f ss = some ss' → viewL H' f (shiftL n ss) = some ss'
  | f, [], ss', h => by cases f <;> simpa [viewL, shiftL] using h
  | f, s :: ss, ss', h => by
    have key : ∃ t ts, view H0 f s = some t ∧ viewL H0 f ss = some ts ∧ ss' = t :: ts := by
      cases f
      all_goals
        simp only [viewL] at h
        split at h
        · rename_i t ts ht hts
          exact ⟨t, ts, ht, hts, by simpa using h.symm⟩
        · simp at h
    obtain ⟨t, ts, ht, hts, rfl⟩ := key
    have := z6 (view_shift hm f s t ht) (viewL_shift hm f ss ts hts)
    simpa only [shiftL] using this
end
mutual
theorem noRow_shift (n : Nat) : ∀ s : SV, noRow s = true → noRow (shift n s) = true
  | .undef, _ => rfl
  | .val _, _ => rfl
  | .row _ _ _, h => by simp [noRow] at h
  | .rptr _ _, h => by simp [noRow] at h
  | .own _ _ _ _ _ _, _ => rfl
  | .optr _ _, _ => rfl
  | .agg cs, h => by simp only [noRow] at h; simp only [shift, noRow]; exact noRowL_shift n cs h
  | .tup cs, h => by simp only [noRow] at h; simp only [shift, noRow]; exact noRowL_shift n cs h
  | .clos _ a c, h => by simp only [noRow, Bool.and_eq_true] at h; simp only [shift, noRow, noRowL_shift n a h.1, noRowL_shift n c h.2, Bool.and_self]
  | .iface _ s, h => by simp only [noRow] at h; simp only [shift, noRow]; exact noRow_shift n s h
theorem noRowL_shift (n : Nat) : ∀ ss : List SV, noRowL ss = true → noRowL (shiftL n ss) = true
  | [], _ => by simp [shiftL, noRowL]
  | s :: ss, h => by simp only [noRowL, Bool.and_eq_true] at h; simp only [shiftL, noRowL, noRow_shift n s h.1, noRowL_shift n ss h.2, Bool.and_self]
end
structure VIn (lo : Nat) (H : Heap) (fu : Nat) (T r : SV) : Prop where
  nr : noRow r = true
  vw : ∀ H' : Heap, (∀ b, lo ≤ b → b < H.nb → H'.map b = H.map b) → view H' fu r = some T
  hn : ∀ b blk, lo ≤ b → b < H.nb → H.map b = some blk → noRowL blk.cells = true
end Go.Sh

/-
  Strings as lists of bytes.
-/
namespace Go.Sh
open Go

abbrev str (l : List UInt8) : SV := .val (.string (sb l))
@[go_sem] theorem sb_mk (l : List UInt8) : ByteArray.mk (List.toArray l) = sb l := rfl
@[go_sem] theorem sb_size (l : List UInt8) : (sb l).size = l.length := by simp [sb, ByteArray.size]
@[go_sem] theorem sb_append (a b : List UInt8) : sb a ++ sb b = sb (a ++ b) := by
  apply ByteArray.ext
  simp [sb]
@[go_sem] theorem sb_toList (l : List UInt8) : (sb l).toList = l := ByteArray.toList_mk l
@[go_sem] theorem sb_extract (l : List UInt8) (a b : Nat) : (sb l).extract a b = sb ((l.drop a).take (b - a)) := ByteArray.extract_mk l a b
@[go_sem] theorem sb_data (l : List UInt8) : (sb l).data.toList = l := by simp [sb]
theorem sb_empty : ByteArray.empty = sb [] := rfl
@[go_sem] theorem sb_index (l : List UInt8) (i : Int) : (if h : 0 ≤ i ∧ i.toNat < (sb l).size then some (SV.val (.int .u8 ((sb l)[i.toNat]'h.2).toNat)) else none) = if 0 ≤ i ∧ i.toNat < l.length then some (.val (.int .u8 (l.getD i.toNat 0).toNat)) else none := by
  by_cases h : 0 ≤ i ∧ i.toNat < l.length
  · have h' : 0 ≤ i ∧ i.toNat < (sb l).size := by rw [sb_size]; exact h
    rw [dif_pos h', if_pos h]
    congr 3
    simp [sb, ByteArray.getElem_eq_getElem_data, h.2]
  · have h' : ¬ (0 ≤ i ∧ i.toNat < (sb l).size) := by rw [sb_size]; exact h
    rw [dif_neg h', if_neg h]
@[go_sem] theorem sstr_add (a b : List UInt8) : sstr .add (sb a) (sb b) = if a.length + b.length ≤ 9223372036854775807 then some (str (a ++ b)) else none := by
  simp only [sstr, sb_size, sb_append]
@[go_sem] theorem sstr_eql (a b : List UInt8) : sstr .eql (sb a) (sb b) = some (.val (.bool (a == b))) := by simp only [sstr, sb_toList]
@[go_sem] theorem sstr_neq (a b : List UInt8) : sstr .neq (sb a) (sb b) = some (.val (.bool (!(a == b)))) := by simp only [sstr, sb_toList]
theorem zd {H : Heap} {f : Nat} {b : ByteArray} : view H f (.val (.string b)) = some (.val (.string b)) := by unfold view; rfl
theorem wrap8_id {x : Int} (h0 : 0 ≤ x) (h1 : x ≤ 255) : IntKind.u8.wrap x = x := by
  simp [IntKind.wrap, IntKind.signed, IntKind.bits]; omega
def strs (L : List (List UInt8)) : List SV := L.map str
def rst (L : List (List UInt8)) : SV := .row L.length false (strs L)
end Go.Sh

/-
  Plain law of the edit distance: the two tables agree.
-/
namespace Go.Sh
open Go

def ed (a b : List UInt8) : Nat → Nat → Nat
  | 0, j => j
  | i + 1, 0 => i + 1
  | i + 1, j + 1 => if a.getD i 0 = b.getD j 0 then ed a b i j else 1 + min (min (ed a b i (j + 1)) (ed a b (i + 1) j)) (ed a b i j)
theorem ed_r0 (a b : List UInt8) (i : Nat) : ed a b i 0 = i := by cases i <;> simp [ed]
theorem ed_0 (a b : List UInt8) (j : Nat) : ed a b 0 j = j := by simp [ed]
theorem ed_eq {a b : List UInt8} {i j : Nat} (h : a.getD i 0 = b.getD j 0) : ed a b (i + 1) (j + 1) = ed a b i j := by rw [ed, if_pos h]
theorem ed_ne {a b : List UInt8} {i j : Nat} (h : a.getD i 0 ≠ b.getD j 0) : ed a b (i + 1) (j + 1) = 1 + min (min (ed a b i (j + 1)) (ed a b (i + 1) j)) (ed a b i j) := by rw [ed, if_neg h]
theorem ed_near (a b : List UInt8) : ∀ n i j, i + j ≤ n → ed a b (i + 1) j ≤ ed a b i j + 1 ∧ ed a b i (j + 1) ≤ ed a b i j + 1 ∧ ed a b i j ≤ ed a b (i + 1) j + 1 ∧ ed a b i j ≤ ed a b i (j + 1) + 1
  | 0, i, j, h => by
    obtain ⟨rfl, rfl⟩ : i = 0 ∧ j = 0 := by omega
    simp [ed_0, ed_r0]
  | n + 1, i, j, h => by
    have ih := ed_near a b n
    refine ⟨?_, ?_, ?_, ?_⟩
    · cases j with
      | zero => rw [ed_r0, ed_r0]; omega
      | succ j =>
        obtain ⟨i1, i2, i3, i4⟩ := ih i j (by omega)
        by_cases hc : a.getD i 0 = b.getD j 0
        · rw [ed_eq hc]; omega
        · rw [ed_ne hc]; omega
    · cases i with
      | zero => rw [ed_0, ed_0]; omega
      | succ i =>
        obtain ⟨i1, i2, i3, i4⟩ := ih i j (by omega)
        by_cases hc : a.getD i 0 = b.getD j 0
        · rw [ed_eq hc]; omega
        · rw [ed_ne hc]; omega
    · cases j with
      | zero => rw [ed_r0, ed_r0]; omega
      | succ j =>
        obtain ⟨i1, i2, i3, i4⟩ := ih i j (by omega)
        by_cases hc : a.getD i 0 = b.getD j 0
        · rw [ed_eq hc]; omega
        · rw [ed_ne hc]; omega
    · cases i with
      | zero => rw [ed_0, ed_0]; omega
      | succ i =>
        obtain ⟨i1, i2, i3, i4⟩ := ih i j (by omega)
        by_cases hc : a.getD i 0 = b.getD j 0
        · rw [ed_eq hc]; omega
        · rw [ed_ne hc]; omega
theorem ed_impl (a b : List UInt8) (i j : Nat) : ed a b (i + 1) (j + 1) = min (min (ed a b i (j + 1) + 1) (ed a b (i + 1) j + 1)) (ed a b i j + (if a.getD i 0 = b.getD j 0 then 0 else 1)) := by
  obtain ⟨i1, i2, i3, i4⟩ := ed_near a b (i + j) i j (Nat.le_refl _)
  by_cases hc : a.getD i 0 = b.getD j 0
  · rw [ed_eq hc, if_pos hc]; omega
  · rw [ed_ne hc, if_neg hc]; omega
theorem ed_le (a b : List UInt8) : ∀ i j, ed a b i j ≤ i + j
  | 0, j => by rw [ed_0]; omega
  | i + 1, 0 => by rw [ed_r0]; omega
  | i + 1, j + 1 => by
    have h1 := ed_le a b i j
    by_cases hc : a.getD i 0 = b.getD j 0
    · rw [ed_eq hc]; omega
    · rw [ed_ne hc]; omega
def dist (a b : List UInt8) : Int := if a.length ≤ 40 ∧ b.length ≤ 40 then (ed a b a.length b.length : Int) else -1
def escore (a b : List UInt8) : Int := if dist a b < 0 then 0 else if max a.length b.length = 0 then 1000 else (1000 * (((max a.length b.length : Nat) : Int) - dist a b)).tdiv ((max a.length b.length : Nat) : Int)
end Go.Sh

/-
  What the shadow asks of this program's types, each a closed fact.
-/
namespace Go.Sh
open Go Go.Proofs
attribute [go_sem_proc] Nat.reduceLT Nat.reduceLeDiff Nat.reduceEqDiff Nat.reduceAdd Nat.reduceSub Nat.reduceMul reduceIte reduceCtorEq Int.reduceToNat Int.reduceLE Int.reduceLT Int.reduceNeg Int.reduceSub Int.reduceAdd Int.reduceMul
attribute [go_sem_proc ↓] reduceIte
theorem Tryz.mixed : Tryz.prog.follows .mixedOrders = true := by kernel_rfl
@[go_sem] theorem Tryz.ty.sz3 : szOf Tryz.prog 3 = some 1 := by kernel_rfl
@[go_sem] theorem Tryz.ty.by3 : bytesIn Tryz.prog 3 = some 8 := by kernel_rfl
@[go_sem] theorem Tryz.ty.ag3 : aggOf Tryz.prog 3 = some false := by kernel_rfl
@[go_sem] theorem Tryz.ty.zr3 : zeroOf Tryz.prog 3 = some [.val (.int .i64 0)] := by kernel_rfl
@[go_sem] theorem Tryz.ty.el3 : elemOfSlice Tryz.prog 3 = none := by kernel_rfl
@[go_sem] theorem Tryz.ty.st3 : isStr Tryz.prog 3 = false := by kernel_rfl
@[go_sem] theorem Tryz.ty.ki3 : kindOf Tryz.prog 3 = some .i64 := by kernel_rfl
@[go_sem] theorem Tryz.ty.un3 : Tryz.prog.underlying 3 = some (.int .i64) := by kernel_rfl
@[go_sem] theorem Tryz.ty.sz4 : szOf Tryz.prog 4 = some 1 := by kernel_rfl
@[go_sem] theorem Tryz.ty.by4 : bytesIn Tryz.prog 4 = some 1 := by kernel_rfl
@[go_sem] theorem Tryz.ty.ag4 : aggOf Tryz.prog 4 = some false := by kernel_rfl
@[go_sem] theorem Tryz.ty.zr4 : zeroOf Tryz.prog 4 = some [.val (.bool false)] := by kernel_rfl
@[go_sem] theorem Tryz.ty.bo4 : isBool Tryz.prog 4 = true := by kernel_rfl
@[go_sem] theorem Tryz.ty.sz5 : szOf Tryz.prog 5 = some 1 := by kernel_rfl
@[go_sem] theorem Tryz.ty.by5 : bytesIn Tryz.prog 5 = some 1 := by kernel_rfl
@[go_sem] theorem Tryz.ty.ag5 : aggOf Tryz.prog 5 = some false := by kernel_rfl
@[go_sem] theorem Tryz.ty.zr5 : zeroOf Tryz.prog 5 = some [.val (.int .u8 0)] := by kernel_rfl
@[go_sem] theorem Tryz.ty.el5 : elemOfSlice Tryz.prog 5 = none := by kernel_rfl
@[go_sem] theorem Tryz.ty.st5 : isStr Tryz.prog 5 = false := by kernel_rfl
@[go_sem] theorem Tryz.ty.ki5 : kindOf Tryz.prog 5 = some .u8 := by kernel_rfl
@[go_sem] theorem Tryz.ty.un5 : Tryz.prog.underlying 5 = some (.int .u8) := by kernel_rfl
@[go_sem] theorem Tryz.ty.sz9 : szOf Tryz.prog 9 = some 1 := by kernel_rfl
@[go_sem] theorem Tryz.ty.by9 : bytesIn Tryz.prog 9 = some 16 := by kernel_rfl
@[go_sem] theorem Tryz.ty.ag9 : aggOf Tryz.prog 9 = some false := by kernel_rfl
@[go_sem] theorem Tryz.ty.zr9 : zeroOf Tryz.prog 9 = some [.val (.string ByteArray.empty)] := by kernel_rfl
@[go_sem] theorem Tryz.ty.el9 : elemOfSlice Tryz.prog 9 = none := by kernel_rfl
@[go_sem] theorem Tryz.ty.ar9 : arrayOf Tryz.prog 9 = none := by kernel_rfl
@[go_sem] theorem Tryz.ty.st9 : isStr Tryz.prog 9 = true := by kernel_rfl
@[go_sem] theorem Tryz.ty.un9 : Tryz.prog.underlying 9 = some (.string) := by kernel_rfl
@[go_sem] theorem Tryz.ty.sz26 : szOf Tryz.prog 26 = some 1 := by kernel_rfl
@[go_sem] theorem Tryz.ty.by26 : bytesIn Tryz.prog 26 = some 24 := by kernel_rfl
@[go_sem] theorem Tryz.ty.ag26 : aggOf Tryz.prog 26 = some false := by kernel_rfl
@[go_sem] theorem Tryz.ty.zr26 : zeroOf Tryz.prog 26 = some [.val (.slice none 0 0)] := by kernel_rfl
@[go_sem] theorem Tryz.ty.el26 : elemOfSlice Tryz.prog 26 = some 3 := by kernel_rfl
@[go_sem] theorem Tryz.ty.un26 : Tryz.prog.underlying 26 = some (.slice 3) := by kernel_rfl
@[go_sem] theorem Tryz.ty.ag32 : aggOf Tryz.prog 32 = some false := by kernel_rfl
@[go_sem] theorem Tryz.ty.el32 : elemOfSlice Tryz.prog 32 = some 26 := by kernel_rfl
@[go_sem] theorem Tryz.ty.el34 : elemOfSlice Tryz.prog 34 = some 59 := by kernel_rfl
@[go_sem] theorem Tryz.ty.un34 : Tryz.prog.underlying 34 = some (.slice 59) := by kernel_rfl
@[go_sem] theorem Tryz.ty.sz36 : szOf Tryz.prog 36 = some 1 := by kernel_rfl
@[go_sem] theorem Tryz.ty.ag36 : aggOf Tryz.prog 36 = some false := by kernel_rfl
@[go_sem] theorem Tryz.ty.el36 : elemOfSlice Tryz.prog 36 = some 112 := by kernel_rfl
@[go_sem] theorem Tryz.ty.sz38 : szOf Tryz.prog 38 = some 1 := by kernel_rfl
@[go_sem] theorem Tryz.ty.ag38 : aggOf Tryz.prog 38 = some true := by kernel_rfl
@[go_sem] theorem Tryz.ty.zr38 : zeroOf Tryz.prog 38 = some [.val (.slice none 0 0)] := by kernel_rfl
@[go_sem] theorem Tryz.ty.fo0_38 : fieldOf Tryz.prog 38 0 = some (36, 0) := by kernel_rfl
@[go_sem] theorem Tryz.ty.bk38 : buildOk Tryz.prog 38 = true := by kernel_rfl
@[go_sem] theorem Tryz.ty.sz40 : szOf Tryz.prog 40 = some 2 := by kernel_rfl
@[go_sem] theorem Tryz.ty.ag40 : aggOf Tryz.prog 40 = some true := by kernel_rfl
@[go_sem] theorem Tryz.ty.zr40 : zeroOf Tryz.prog 40 = some [.val (.slice none 0 0), .val (.int .i64 0)] := by kernel_rfl
@[go_sem] theorem Tryz.ty.fo0_40 : fieldOf Tryz.prog 40 0 = some (26, 0) := by kernel_rfl
@[go_sem] theorem Tryz.ty.fo1_40 : fieldOf Tryz.prog 40 1 = some (3, 1) := by kernel_rfl
@[go_sem] theorem Tryz.ty.fp1_40 : fieldPl Tryz.prog 40 1 = some (1, 1) := by kernel_rfl
@[go_sem] theorem Tryz.ty.bk40 : buildOk Tryz.prog 40 = true := by kernel_rfl
@[go_sem] theorem Tryz.ty.sz51 : szOf Tryz.prog 51 = some 1 := by kernel_rfl
@[go_sem] theorem Tryz.ty.ag51 : aggOf Tryz.prog 51 = some false := by kernel_rfl
@[go_sem] theorem Tryz.ty.el51 : elemOfSlice Tryz.prog 51 = some 5 := by kernel_rfl
@[go_sem] theorem Tryz.ty.st51 : isStr Tryz.prog 51 = false := by kernel_rfl
@[go_sem] theorem Tryz.ty.sz57 : szOf Tryz.prog 57 = some 1 := by kernel_rfl
@[go_sem] theorem Tryz.ty.ag57 : aggOf Tryz.prog 57 = some false := by kernel_rfl
@[go_sem] theorem Tryz.ty.el57 : elemOfSlice Tryz.prog 57 = some 9 := by kernel_rfl
@[go_sem] theorem Tryz.ty.un57 : Tryz.prog.underlying 57 = some (.slice 9) := by kernel_rfl
@[go_sem] theorem Tryz.ty.sz59 : szOf Tryz.prog 59 = some 4 := by kernel_rfl
@[go_sem] theorem Tryz.ty.by59 : bytesIn Tryz.prog 59 = some 48 := by kernel_rfl
@[go_sem] theorem Tryz.ty.ag59 : aggOf Tryz.prog 59 = some true := by kernel_rfl
@[go_sem] theorem Tryz.ty.zr59 : zeroOf Tryz.prog 59 = some [.val (.int .i64 0), .val (.int .i64 0), .val (.int .i64 0), .val (.slice none 0 0)] := by kernel_rfl
@[go_sem] theorem Tryz.ty.fo0_59 : fieldOf Tryz.prog 59 0 = some (3, 0) := by kernel_rfl
@[go_sem] theorem Tryz.ty.fp0_59 : fieldPl Tryz.prog 59 0 = some (0, 1) := by kernel_rfl
@[go_sem] theorem Tryz.ty.fo1_59 : fieldOf Tryz.prog 59 1 = some (3, 1) := by kernel_rfl
@[go_sem] theorem Tryz.ty.fp1_59 : fieldPl Tryz.prog 59 1 = some (1, 1) := by kernel_rfl
@[go_sem] theorem Tryz.ty.fo2_59 : fieldOf Tryz.prog 59 2 = some (3, 2) := by kernel_rfl
@[go_sem] theorem Tryz.ty.fp2_59 : fieldPl Tryz.prog 59 2 = some (2, 1) := by kernel_rfl
@[go_sem] theorem Tryz.ty.fo3_59 : fieldOf Tryz.prog 59 3 = some (57, 3) := by kernel_rfl
@[go_sem] theorem Tryz.ty.fp3_59 : fieldPl Tryz.prog 59 3 = some (3, 1) := by kernel_rfl
@[go_sem] theorem Tryz.ty.bk59 : buildOk Tryz.prog 59 = true := by kernel_rfl
@[go_sem] theorem Tryz.ty.sz101 : szOf Tryz.prog 101 = some 1 := by kernel_rfl
@[go_sem] theorem Tryz.ty.ag101 : aggOf Tryz.prog 101 = some false := by kernel_rfl
@[go_sem] theorem Tryz.ty.zr101 : zeroOf Tryz.prog 101 = some [.val .nilFunc] := by kernel_rfl
@[go_sem] theorem Tryz.ty.el102 : elemOfSlice Tryz.prog 102 = some 104 := by kernel_rfl
@[go_sem] theorem Tryz.ty.sz104 : szOf Tryz.prog 104 = some 1 := by kernel_rfl
@[go_sem] theorem Tryz.ty.by104 : bytesIn Tryz.prog 104 = some 24 := by kernel_rfl
@[go_sem] theorem Tryz.ty.ag104 : aggOf Tryz.prog 104 = some false := by kernel_rfl
@[go_sem] theorem Tryz.ty.zr104 : zeroOf Tryz.prog 104 = some [.val (.slice none 0 0)] := by kernel_rfl
@[go_sem] theorem Tryz.ty.el104 : elemOfSlice Tryz.prog 104 = some 4 := by kernel_rfl
@[go_sem] theorem Tryz.ty.sz110 : szOf Tryz.prog 110 = some 1 := by kernel_rfl
@[go_sem] theorem Tryz.ty.ag110 : aggOf Tryz.prog 110 = some false := by kernel_rfl
@[go_sem] theorem Tryz.ty.el110 : elemOfSlice Tryz.prog 110 = some 114 := by kernel_rfl
@[go_sem] theorem Tryz.ty.sz112 : szOf Tryz.prog 112 = some 1 := by kernel_rfl
@[go_sem] theorem Tryz.ty.by112 : bytesIn Tryz.prog 112 = some 24 := by kernel_rfl
@[go_sem] theorem Tryz.ty.ag112 : aggOf Tryz.prog 112 = some true := by kernel_rfl
@[go_sem] theorem Tryz.ty.zr112 : zeroOf Tryz.prog 112 = some [.val (.slice none 0 0)] := by kernel_rfl
@[go_sem] theorem Tryz.ty.fo0_112 : fieldOf Tryz.prog 112 0 = some (110, 0) := by kernel_rfl
@[go_sem] theorem Tryz.ty.bk112 : buildOk Tryz.prog 112 = true := by kernel_rfl
@[go_sem] theorem Tryz.ty.sz114 : szOf Tryz.prog 114 = some 3 := by kernel_rfl
@[go_sem] theorem Tryz.ty.by114 : bytesIn Tryz.prog 114 = some 24 := by kernel_rfl
@[go_sem] theorem Tryz.ty.ag114 : aggOf Tryz.prog 114 = some true := by kernel_rfl
@[go_sem] theorem Tryz.ty.zr114 : zeroOf Tryz.prog 114 = some [.val (.int .i64 0), .val (.int .i64 0), .val (.bool false)] := by kernel_rfl
@[go_sem] theorem Tryz.ty.fo0_114 : fieldOf Tryz.prog 114 0 = some (3, 0) := by kernel_rfl
@[go_sem] theorem Tryz.ty.fp0_114 : fieldPl Tryz.prog 114 0 = some (0, 1) := by kernel_rfl
@[go_sem] theorem Tryz.ty.fo1_114 : fieldOf Tryz.prog 114 1 = some (3, 1) := by kernel_rfl
@[go_sem] theorem Tryz.ty.fp1_114 : fieldPl Tryz.prog 114 1 = some (1, 1) := by kernel_rfl
@[go_sem] theorem Tryz.ty.fo2_114 : fieldOf Tryz.prog 114 2 = some (4, 2) := by kernel_rfl
@[go_sem] theorem Tryz.ty.fp2_114 : fieldPl Tryz.prog 114 2 = some (2, 1) := by kernel_rfl
@[go_sem] theorem Tryz.ty.bk114 : buildOk Tryz.prog 114 = true := by kernel_rfl
@[go_sem] theorem Tryz.ty.zr126 : zeroOf Tryz.prog 126 = some [.val (.slice none 0 0), .val (.int .i64 0), .val (.int .i64 0)] := by kernel_rfl
@[go_sem] theorem Tryz.ty.fo0_126 : fieldOf Tryz.prog 126 0 = some (51, 0) := by kernel_rfl
@[go_sem] theorem Tryz.ty.fp0_126 : fieldPl Tryz.prog 126 0 = some (0, 1) := by kernel_rfl
@[go_sem] theorem Tryz.ty.fo1_126 : fieldOf Tryz.prog 126 1 = some (3, 1) := by kernel_rfl
@[go_sem] theorem Tryz.ty.fo2_126 : fieldOf Tryz.prog 126 2 = some (3, 2) := by kernel_rfl
@[go_sem] theorem Tryz.ty.fp2_126 : fieldPl Tryz.prog 126 2 = some (2, 1) := by kernel_rfl
@[go_sem] theorem Tryz.ty.bk126 : buildOk Tryz.prog 126 = true := by kernel_rfl
@[go_sem] theorem Tryz.ty.if164 : isIface Tryz.prog 164 = some true := by kernel_rfl
@[go_sem] theorem Tryz.ty.el202 : elemOfSlice Tryz.prog 202 = none := by kernel_rfl
@[go_sem] theorem Tryz.ty.ar202 : arrayOf Tryz.prog 202 = some (26, 3) := by kernel_rfl
end Go.Sh

/-
  Contracts: lists of numbers copied and compared; ranges; partitions.
-/
namespace Go.Sh
open Go Go.Proofs

def inR (x a b : Int) : Bool := decide (a ≤ x) && decide (x ≤ b)

theorem inR_tt {x a b : Int} (h1 : a ≤ x) (h2 : x ≤ b) : inR x a b = true := by simp [inR, h1, h2]
theorem inR_f1 {x a b : Int} (h1 : ¬ a ≤ x) : inR x a b = false := by simp [inR, h1]
theorem inR_f2 {x a b : Int} (h1 : ¬ x ≤ b) : inR x a b = false := by simp [inR, h1]

theorem Tryz.l1In_ok (x a b : Int) : PCall Tryz.prog 39 [.val (.int .i64 x), .val (.int .i64 a), .val (.int .i64 b)] (.val (.bool (inR x a b))) := by
  refine FCall.pcall (R := fun r _ => r = .val (.bool (inR x a b))) ?_ 0 (by rintro r H rfl; simp [view, viewV])
  refine FCall.of_body Tryz.func39 rfl (by kernel_rfl) (by simp [Tryz.ntmps39]) ?_
  refine SW_of_vc Tryz.mixed _ _ _ (by kernel_rfl) ?_
  by_cases h1 : a ≤ x
  · by_cases h2 : x ≤ b
    · simp (disch := omega) only [go_sem]
      exact Fin.val (by rw [inR_tt h1 h2])
    · simp (disch := omega) only [go_sem]
      exact Fin.val (by rw [inR_f2 h2])
  · simp (disch := omega) only [go_sem]
    exact Fin.val (by rw [inR_f1 h1])

theorem Tryz.within_ok (x a b : Int) : PCall Tryz.prog 46 [.val (.int .i64 x), .val (.int .i64 a), .val (.int .i64 b)] (.val (.bool (inR x a b))) := by
  refine FCall.pcall (R := fun r _ => r = .val (.bool (inR x a b))) ?_ 0 (by rintro r H rfl; simp [view, viewV])
  refine FCall.of_body Tryz.func46 rfl (by kernel_rfl) (by simp [Tryz.ntmps46]) ?_
  refine SW_of_vc Tryz.mixed _ _ _ (by kernel_rfl) ?_
  by_cases h1 : a ≤ x
  · by_cases h2 : x ≤ b
    · simp (disch := omega) only [go_sem]
      exact Fin.val (by rw [inR_tt h1 h2])
    · simp (disch := omega) only [go_sem]
      exact Fin.val (by rw [inR_f2 h2])
  · simp (disch := omega) only [go_sem]
    exact Fin.val (by rw [inR_f1 h1])

end Go.Sh

/-
  Contracts: is a list of numbers a partition? Of the reference and of the program.
-/
namespace Go.Sh
open Go Go.Proofs

def okP : Int → List Int → Bool
  | _, [] => true
  | nx, x :: l => inR x 0 nx && okP (max nx (x + 1)) l
def isPart (L : List Int) : Bool := okP 0 L && inR L.length 1 8

theorem inR_of {x a b : Int} (h : inR x a b = true) : a ≤ x ∧ x ≤ b := by simpa [inR] using h

end Go.Sh

/-
  Contracts: orders of the items.
-/
namespace Go.Sh
open Go Go.Proofs

def idx (x : Int) (L : List Int) : Int := if x ∈ L then (L.idxOf x : Int) else -1
end Go.Sh

/-
  Contracts: lists marked in place, and read back.
-/
namespace Go.Sh
open Go Go.Proofs

def marks (n : Nat) (k : Int) : List Int := (List.range n).map fun x : Nat => k + (x : Int)
def held (L : List Int) (k : Int) : Int := if L = marks L.length k then k + L.length else -1
end Go.Sh

/-
  Contracts: labels by first occurrence. Of the program.
-/
namespace Go.Sh
open Go Go.Proofs

def cstep (s : List Int × List Int) (x : Int) : List Int × List Int :=
  if x ∈ s.1 then (s.1, s.2 ++ [idx x s.1]) else (s.1 ++ [x], s.2 ++ [(s.1.length : Int)])
def cst (L : List Int) : List Int × List Int := L.foldl cstep ([], [])
def canon (L : List Int) : List Int := (cst L).2
theorem flat_view {L : List Int} {n : Nat} {r : SV} {H : Heap} (h : FlatRes n 1 (ints L) r H) : view H 2 r = some (ri L) := by
  obtain ⟨b, off, cap, ex, blk, rfl, h1, h2, h3, h4⟩ := h
  have hn : L.length = n := by
    have := congrArg List.length h2
    simp [ints] at this
    omega
  rw [Nat.mul_one] at h2 h3
  simp only [view, h1, Nat.mul_one, h3, if_true, h2, viewL_ints, ri, hn]
end Go.Sh

/-
  Contracts: labels by first occurrence. Of the reference.
-/
namespace Go.Sh
open Go Go.Proofs

end Go.Sh

/-
  Contracts: pairs of partitions and their meet. Of the reference and of the program.
-/
namespace Go.Sh
open Go Go.Proofs

def pairB (A B : List Int) : Bool := isPart A && (isPart B && decide (A.length = B.length))
def both (A B : List Int) : List Int := List.zipWith (fun x y => x * 8 + y) A B
def meet (A B : List Int) : List Int := canon (if pairB A B = true then both A B else [])

end Go.Sh

/-
  From the values that came in to the shadow's: slices of numbers.
-/
namespace Go.Sh
open Go Go.RowKit

def IsRow (k : IntKind) (w : World) (a : Option Addr) (len cap : Nat) (zs : List Int) : Prop :=
  (a = none ∧ len = 0 ∧ cap = 0 ∧ zs = []) ∨
  ∃ x, a = some x ∧ len ≤ cap ∧ cap ≤ maxLen ∧ zs.length = cap ∧ (∀ i, i < zs.length → w.cell? (x.add i) = some (.int k (zs.getD i 0))) ∧ ∀ n ∈ zs, (Lit.int k n).wf = true

section
variable {Hh : Type} {enc : TypeId × Value → Hh} {P : Program} {w : World} {held : Bool}
open Go.ChangeShapes Go.WideShapes

def rows (M : List (List Int)) : List SV := M.map ri
def rr (M : List (List Int)) : SV := .row M.length false (rows M)

abbrev Con := Int × Int × Bool
def con3 (c : Con) : List SV := [.val (.int .i64 c.1), .val (.int .i64 c.2.1), .val (.bool c.2.2)]
def cons (C : List Con) : List SV := C.flatMap con3
def rc (C : List Con) : SV := .row C.length false (cons C)
structure Clu where
  labels : List Int
  cost : Int
  exact : Bool
  gap : Int
end

theorem PCall.law {P : Program} {f : FuncId} {args : List SV} {vs : List Value} {w : World} (h : PCall P f args (.val (.bool true))) (hl : LRel (fun _ => False) w noj args vs) (ht : TabOk (fun _ => False) w) :
    Calls P f vs.toArray w fun e w' => e = .returned (.bool true) ∧ Below w.heap.size w w' := by
  refine (h.2 w vs hl ht).mono ?_
  rintro e w' ⟨v, rfl, h2, h3⟩
  simp only [VRel] at h3
  subst h3
  exact ⟨rfl, h2⟩
end Go.Sh

/-
  Contracts: clusterings, copied and compared; lists compared.
-/
namespace Go.Sh
open Go Go.Proofs

end Go.Sh

/-
  Contracts: numbers by rows, copied, measured, compared.
-/
namespace Go.Sh
open Go Go.Proofs

def mrow (M : List (List Int)) (i : Nat) : List Int := M.getD i []
def mat (M : List (List Int)) (i k : Nat) : Int := (mrow M i).getD k 0
theorem rows_get {M : List (List Int)} {k : Nat} (h : k < M.length) : (rows M)[k]? = some (.row (mrow M k).length false (ints (mrow M k))) := by
  simp [rows, mrow, h, ri]
theorem rr_eq (M : List (List Int)) : rr M = .row M.length false (rows M) := rfl

def outer (M : List (List Int)) (k : Nat) : List SV := (List.range M.length).map fun i => if i < k then .own (i + 1) 0 (mrow M i).length (mrow M i).length 1 false else .val (.slice none 0 0)
theorem viewL_fn {H : Heap} {f : Nat} {α : Type} {g h : α → SV} : ∀ (l : List α), (∀ a ∈ l, view H f (g a) = some (h a)) → viewL H f (l.map g) = some (l.map h)
  | [], _ => z7
  | a :: l, hv => z6 (hv a (by simp)) (viewL_fn l (fun b hb => hv b (by simp [hb])))
end Go.Sh

/-
  Matrices in memory of their own: a block of rows, each row a block of scalars.
-/
namespace Go.Sh
open Go Go.Proofs

inductive Ent where
  | blk (k : Nat) (v : Blk)
  | mat (b : Nat) (R : List (List SV))
  | rows (fl : Bool) (nr : List (Nat × List SV))
  | cut (b : Nat)

def rowAt (R : List (List SV)) (i : Nat) : List SV := R.getD i []
def outerB (b : Nat) (R : List (List SV)) : List SV := (List.range R.length).map fun i => .own (b + 1 + i) 0 (rowAt R i).length (rowAt R i).length 1 false
def outerN (fl : Bool) (nr : List (Nat × List SV)) : List SV := nr.map fun p => .own p.1 0 p.2.length p.2.length 1 fl
def matMap (b : Nat) (R : List (List SV)) (x : Nat) : Option Blk := if x = b then some ⟨outerB b R, false⟩ else some ⟨rowAt R (x - b - 1), false⟩
def nrFind : List (Nat × List SV) → Nat → Option (List SV)
  | [], _ => none
  | p :: l, x => if x = p.1 then some p.2 else nrFind l x
def xmap : List Ent → Nat → Option Blk
  | [], _ => none
  | .blk k v :: l, x => if x = k then some v else xmap l x
  | .mat b R :: l, x => if b ≤ x ∧ x ≤ b + R.length then matMap b R x else xmap l x
  | .rows fl nr :: l, x => match nrFind nr x with
    | some r => some ⟨r, fl⟩
    | none => xmap l x
  | .cut b :: l, x => if x = b then none else xmap l x
def hx (l : List Ent) (n : Nat) : Heap := ⟨xmap l, n⟩
def toE (l : List (Nat × Blk)) : List Ent := l.map fun p => .blk p.1 p.2
theorem toE_nil : toE [] = [] := rfl
theorem toE_cons (k : Nat) (v : Blk) (l : List (Nat × Blk)) : toE ((k, v) :: l) = .blk k v :: toE l := rfl
theorem hp_hx (l : List (Nat × Blk)) (n : Nat) : hp l n = hx (toE l) n := by
  refine Heap.ext' (fun x => ?_) rfl
  show hmap l x = xmap (toE l) x
  induction l with
  | nil => rfl
  | cons p l ih =>
    obtain ⟨k, v⟩ := p
    simp only [toE_cons, hmap, xmap, ih]
theorem hx_nb (l : List Ent) (n : Nat) : (hx l n).nb = n := rfl
theorem hx_map (l : List Ent) (n x : Nat) : (hx l n).map x = xmap l x := rfl
theorem hx_push (l : List Ent) (n : Nat) (k : Blk) : (hx l n).push k = hx (.blk n k :: l) (n + 1) := rfl
theorem zl (k : Nat) (v : Blk) (l : List Ent) (x : Nat) : xmap (.blk k v :: l) x = if x = k then some v else xmap l x := rfl
theorem xmap_nil (x : Nat) : xmap [] x = none := rfl

def Heap.pushM (H : Heap) (R : List (List SV)) : Heap := ⟨fun x => if H.nb ≤ x ∧ x ≤ H.nb + R.length then matMap H.nb R x else H.map x, H.nb + R.length + 1⟩
theorem hx_pushM (l : List Ent) (n : Nat) (R : List (List SV)) : (hx l n).pushM R = hx (.mat n R :: l) (n + R.length + 1) := rfl
theorem hp_pushM (l : List (Nat × Blk)) (n : Nat) (R : List (List SV)) : (hp l n).pushM R = hx (.mat n R :: toE l) (n + R.length + 1) := by rw [hp_hx, hx_pushM]

def xset : List Ent → Nat → Blk → List Ent
  | [], b, x => [.blk b x]
  | .blk k v :: l, b, x => if k = b then .blk k x :: l else .blk k v :: xset l b x
  | .mat c R :: l, b, x => if c < b ∧ b ≤ c + R.length ∧ x.cells.length = (rowAt R (b - c - 1)).length ∧ x.ex = false then .mat c (R.set (b - c - 1) x.cells) :: l else if b < c ∨ c + R.length < b then .mat c R :: xset l b x else .blk b x :: .mat c R :: l
  | .rows fl nr :: l, b, x => .blk b x :: .rows fl nr :: l
  | .cut c :: l, b, x => .blk b x :: .cut c :: l
theorem rowAt_length {R : List (List SV)} {i : Nat} (h : i < R.length) : rowAt R i = R[i] := by simp [rowAt, h]
theorem outerB_set {b : Nat} {R : List (List SV)} {i : Nat} {r : List SV} (h : r.length = (rowAt R i).length) : outerB b (R.set i r) = outerB b R := by
  unfold outerB
  rw [List.length_set]
  refine List.map_congr_left (fun k hk => ?_)
  have hk : k < R.length := by simpa using hk
  have e : (rowAt (R.set i r) k).length = (rowAt R k).length := by
    rw [rowAt_length (by simpa using hk), rowAt_length hk, List.getElem_set]
    split
    · rename_i e; subst e
      rw [h, rowAt_length hk]
    · rfl
  rw [e]
theorem xmap_set : ∀ (l : List Ent) (b : Nat) (k : Blk) (x : Nat), (if x = b then some k else xmap l x) = xmap (xset l b k) x
  | [], b, k, x => by simp only [xset, xmap]
  | .blk c v :: l, b, k, x => by
    have ih := xmap_set l b k x
    simp only [xset]
    by_cases e : c = b
    · rw [if_pos e]
      subst e
      simp only [xmap]
      by_cases hx : x = c <;> simp [hx]
    · rw [if_neg e]
      simp only [xmap, ← ih]
      by_cases hx : x = b
      · subst hx
        rw [if_pos rfl, if_neg (by omega), if_pos rfl]
      · rw [if_neg hx, if_neg hx]
  | .mat c R :: l, b, k, x => by
    have ih := xmap_set l b k x
    simp only [xset]
    by_cases h : c < b ∧ b ≤ c + R.length ∧ k.cells.length = (rowAt R (b - c - 1)).length ∧ k.ex = false
    · rw [if_pos h]
      obtain ⟨h1, h2, h3, h4⟩ := h
      obtain ⟨kc, kx⟩ := k
      simp only at h3 h4
      subst h4
      simp only [xmap, List.length_set]
      by_cases hx : x = b
      · subst hx
        rw [if_pos rfl, if_pos (by omega), matMap, if_neg (by omega), rowAt_length (by simp; omega)]
        simp
      · rw [if_neg hx]
        by_cases hr : c ≤ x ∧ x ≤ c + R.length
        · rw [if_pos hr, if_pos hr, matMap, matMap, outerB_set h3]
          by_cases hc : x = c
          · rw [if_pos hc, if_pos hc]
          · rw [if_neg hc, if_neg hc]
            rw [rowAt_length (by omega), rowAt_length (by simp; omega), List.getElem_set_ne (by omega)]
        · rw [if_neg hr, if_neg hr]
    · rw [if_neg h]
      by_cases h2 : b < c ∨ c + R.length < b
      · rw [if_pos h2]
        simp only [xmap, ← ih]
        by_cases hx : x = b
        · subst hx
          rw [if_pos rfl, if_pos rfl, if_neg (by omega)]
        · rw [if_neg hx, if_neg hx]
      · rw [if_neg h2]
        rfl
  | .rows fl nr :: l, b, k, x => rfl
  | .cut c :: l, b, k, x => rfl
theorem hx_set (l : List Ent) (n b : Nat) (k : Blk) : (hx l n).set b (some k) = hx (xset l b k) n :=
  Heap.ext' (fun x => xmap_set l b k x) rfl
def xdel : List Ent → Nat → List Ent
  | [], _ => []
  | .blk k v :: l, b => if k = b then xdel l b else .blk k v :: xdel l b
  | .mat c R :: l, b => if b < c ∨ c + R.length < b then .mat c R :: xdel l b else .cut b :: .mat c R :: l
  | .rows fl nr :: l, b => .cut b :: .rows fl nr :: l
  | .cut c :: l, b => .cut b :: .cut c :: l
theorem xmap_del : ∀ (l : List Ent) (b : Nat) (x : Nat), (if x = b then none else xmap l x) = xmap (xdel l b) x
  | [], b, x => by simp only [xdel, xmap]; split <;> rfl
  | .blk c v :: l, b, x => by
    have ih := xmap_del l b x
    simp only [xdel]
    by_cases e : c = b
    · rw [if_pos e, ← ih]
      subst e
      simp only [xmap]
      by_cases hx : x = c <;> simp [hx]
    · rw [if_neg e]
      simp only [xmap, ← ih]
      by_cases hx : x = b
      · subst hx
        rw [if_pos rfl, if_neg (by omega), if_pos rfl]
      · rw [if_neg hx, if_neg hx]
  | .mat c R :: l, b, x => by
    have ih := xmap_del l b x
    simp only [xdel]
    by_cases h2 : b < c ∨ c + R.length < b
    · rw [if_pos h2]
      simp only [xmap, ← ih]
      by_cases hx : x = b
      · subst hx
        rw [if_pos rfl, if_pos rfl, if_neg (by omega)]
      · rw [if_neg hx, if_neg hx]
    · rw [if_neg h2]; rfl
  | .rows fl nr :: l, b, x => rfl
  | .cut c :: l, b, x => rfl
theorem hx_del (l : List Ent) (n b : Nat) : (hx l n).set b none = hx (xdel l b) n :=
  Heap.ext' (fun x => xmap_del l b x) rfl
theorem xdel_blk (k : Nat) (v : Blk) (l : List Ent) (b : Nat) : xdel (.blk k v :: l) b = if k = b then xdel l b else .blk k v :: xdel l b := rfl
theorem xdel_rows (fl : Bool) (nr : List (Nat × List SV)) (l : List Ent) (b : Nat) : xdel (.rows fl nr :: l) b = .cut b :: .rows fl nr :: l := rfl
theorem xdel_nil (b : Nat) : xdel [] b = [] := rfl
theorem xset_blk (k : Nat) (v : Blk) (l : List Ent) (b : Nat) (x : Blk) : xset (.blk k v :: l) b x = if k = b then .blk k x :: l else .blk k v :: xset l b x := rfl
theorem xset_nil (b : Nat) (x : Blk) : xset [] b x = [.blk b x] := rfl

def mset (M : List (List Int)) (i c : Nat) (x : Int) : List (List Int) := M.set i ((mrow M i).set c x)
def mi (M : List (List Int)) : List (List SV) := M.map ints
theorem zo (M : List (List Int)) : (mi M).length = M.length := by simp [mi]
theorem mi_row {M : List (List Int)} {i : Nat} (h : i < M.length) : rowAt (mi M) i = ints (mrow M i) := by simp [rowAt, mi, mrow, h]
theorem mset_length (M : List (List Int)) (i c : Nat) (x : Int) : (mset M i c x).length = M.length := by simp [mset]
theorem mset_row_length (M : List (List Int)) (i c k : Nat) (x : Int) : (mrow (mset M i c x) k).length = (mrow M k).length := by
  simp only [mrow, mset, List.getD_eq_getElem?_getD, List.getElem?_set]
  by_cases h : i = k
  · subst h
    by_cases h2 : i < M.length
    · simp [h2]
    · simp [h2]
  · simp [h]
def bools (L : List Bool) : List SV := L.map fun x => .val (.bool x)
theorem bools_length (L : List Bool) : (bools L).length = L.length := by simp [bools]
theorem bools_get {L : List Bool} {k : Nat} (h : k < L.length) : (bools L)[k]? = some (.val (.bool (L.getD k false))) := by simp [bools, h]
theorem bools_set (L : List Bool) (k : Nat) (x : Bool) : (bools L).set k (.val (.bool x)) = bools (L.set k x) := by simp [bools, List.map_set]
theorem bools_replicate (n : Nat) (x : Bool) : List.replicate n (SV.val (.bool x)) = bools (List.replicate n x) := by simp [bools]
theorem viewL_bools (H : Heap) (f : Nat) : ∀ L : List Bool, viewL H f (bools L) = some (bools L)
  | [] => z7
  | x :: L => z6 zg (viewL_bools H f L)
theorem bools_vals (L : List Bool) : (bools L).all isVal = true := by simp [bools, isVal]
def brow (M : List (List Bool)) (i : Nat) : List Bool := M.getD i []
def bmat (M : List (List Bool)) (i k : Nat) : Bool := (brow M i).getD k false
def bset (M : List (List Bool)) (i c : Nat) (x : Bool) : List (List Bool) := M.set i ((brow M i).set c x)
def mb (M : List (List Bool)) : List (List SV) := M.map bools
theorem mb_length (M : List (List Bool)) : (mb M).length = M.length := by simp [mb]
theorem mb_row {M : List (List Bool)} {i : Nat} (h : i < M.length) : rowAt (mb M) i = bools (brow M i) := by simp [rowAt, mb, brow, h]
theorem bset_length (M : List (List Bool)) (i c : Nat) (x : Bool) : (bset M i c x).length = M.length := by simp [bset]
theorem bset_row_length (M : List (List Bool)) (i c k : Nat) (x : Bool) : (brow (bset M i c x) k).length = (brow M k).length := by
  simp only [brow, bset, List.getD_eq_getElem?_getD, List.getElem?_set]
  by_cases h : i = k
  · subst h
    by_cases h2 : i < M.length
    · simp [h2]
    · simp [h2]
  · simp [h]
def rowsB (M : List (List Bool)) : List SV := M.map fun r => .row r.length false (bools r)
def rb (M : List (List Bool)) : SV := .row M.length false (rowsB M)
theorem rb_eq (M : List (List Bool)) : rb M = .row M.length false (rowsB M) := rfl
theorem rowsB_length (M : List (List Bool)) : (rowsB M).length = M.length := by simp [rowsB]
theorem rowsB_get {M : List (List Bool)} {k : Nat} (h : k < M.length) : (rowsB M)[k]? = some (.row (brow M k).length false (bools (brow M k))) := by
  simp [rowsB, brow, h]

theorem mset_at (M : List (List Int)) (i c : Nat) (x : Int) {k d : Nat} (hi : i < M.length) (hc : c < (mrow M i).length) : mat (mset M i c x) k d = if k = i ∧ d = c then x else mat M k d := by
  simp only [mat, mrow, mset, List.getD_eq_getElem?_getD, List.getElem?_set]
  by_cases h : i = k
  · subst h
    simp only [hi, if_true, true_and, Option.getD_some, List.getElem?_set]
    by_cases h2 : c = d
    · subst h2
      simp only [mrow, List.getD_eq_getElem?_getD] at hc
      simp [hc]
    · have : ¬ d = c := fun e => h2 e.symm
      simp [h2, this]
  · have : ¬ k = i := fun e => h e.symm
    simp [h, this]
theorem bset_at (M : List (List Bool)) (i c : Nat) (x : Bool) {k d : Nat} (hi : i < M.length) (hc : c < (brow M i).length) : bmat (bset M i c x) k d = if k = i ∧ d = c then x else bmat M k d := by
  simp only [bmat, brow, bset, List.getD_eq_getElem?_getD, List.getElem?_set]
  by_cases h : i = k
  · subst h
    simp only [hi, if_true, true_and, Option.getD_some, List.getElem?_set]
    by_cases h2 : c = d
    · subst h2
      simp only [brow, List.getD_eq_getElem?_getD] at hc
      simp [hc]
    · have : ¬ d = c := fun e => h2 e.symm
      simp [h2, this]
  · have : ¬ k = i := fun e => h e.symm
    simp [h, this]

theorem outerB_length (b : Nat) (R : List (List SV)) : (outerB b R).length = R.length := by simp [outerB]
theorem xmap_mat (b : Nat) (R : List (List SV)) (l : List Ent) : xmap (.mat b R :: l) b = some ⟨outerB b R, false⟩ := by
  simp [xmap, matMap]
theorem xmap_rowI {b i : Nat} {M : List (List Int)} {l : List Ent} (h : i < M.length) : xmap (.mat b (mi M) :: l) (b + 1 + i) = some ⟨ints (mrow M i), false⟩ := by
  rw [xmap, if_pos (by rw [zo]; omega), matMap, if_neg (by omega), ← mi_row h]
  congr 3; omega
theorem xmap_rowB {b i : Nat} {M : List (List Bool)} {l : List Ent} (h : i < M.length) : xmap (.mat b (mb M) :: l) (b + 1 + i) = some ⟨bools (brow M i), false⟩ := by
  rw [xmap, if_pos (by rw [mb_length]; omega), matMap, if_neg (by omega), ← mb_row h]
  congr 3; omega
theorem zk {b x : Nat} {M : List (List Int)} {l : List Ent} (h : x < b ∨ b + M.length < x) : xmap (.mat b (mi M) :: l) x = xmap l x := by
  rw [xmap, if_neg (by rw [zo]; omega)]
theorem outerB_getI {b k : Nat} {M : List (List Int)} (h : k < M.length) : (outerB b (mi M))[k]? = some (.own (b + 1 + k) 0 (mrow M k).length (mrow M k).length 1 false) := by
  simp only [outerB, List.getElem?_map, zo]
  rw [List.getElem?_range h]
  simp only [Option.map_some, mi_row h, zh]
theorem outerB_getB {b k : Nat} {M : List (List Bool)} (h : k < M.length) : (outerB b (mb M))[k]? = some (.own (b + 1 + k) 0 (brow M k).length (brow M k).length 1 false) := by
  simp only [outerB, List.getElem?_map, mb_length]
  rw [List.getElem?_range h]
  simp only [Option.map_some, mb_row h, bools_length]
theorem xset_rowI {b i c : Nat} {x : Int} {M : List (List Int)} {l : List Ent} (h : i < M.length) : xset (.mat b (mi M) :: l) (b + 1 + i) ⟨ints ((mrow M i).set c x), false⟩ = .mat b (mi (mset M i c x)) :: l := by
  have e : b + 1 + i - b - 1 = i := by omega
  rw [xset, e, if_pos ⟨by omega, by rw [zo]; omega, by rw [mi_row h, zh, zh, List.length_set], rfl⟩]
  simp [mset, mi, List.map_set]
theorem xset_rowB {b i c : Nat} {x : Bool} {M : List (List Bool)} {l : List Ent} (h : i < M.length) : xset (.mat b (mb M) :: l) (b + 1 + i) ⟨bools ((brow M i).set c x), false⟩ = .mat b (mb (bset M i c x)) :: l := by
  have e : b + 1 + i - b - 1 = i := by omega
  rw [xset, e, if_pos ⟨by omega, by rw [mb_length]; omega, by rw [mb_row h, bools_length, bools_length, List.length_set], rfl⟩]
  simp [bset, mb, List.map_set]
theorem xset_skipI {b x : Nat} {M : List (List Int)} {l : List Ent} {k : Blk} (h : x < b ∨ b + M.length < x) : xset (.mat b (mi M) :: l) x k = .mat b (mi M) :: xset l x k := by
  rw [xset, if_neg (by rw [zo]; omega), if_pos (by rw [zo]; exact h)]
def EntIn (H : Heap) : Ent → Prop
  | .blk k v => H.map k = some v
  | .mat b R => ∀ x, b ≤ x → x ≤ b + R.length → H.map x = matMap b R x
  | .rows fl nr => ∀ p ∈ nr, H.map p.1 = some ⟨p.2, fl⟩
  | .cut b => H.map b = none
theorem nrFind_mem : ∀ {nr : List (Nat × List SV)} {x : Nat} {r : List SV}, nrFind nr x = some r → (x, r) ∈ nr
  | [], x, r, h => by simp [nrFind] at h
  | p :: l, x, r, h => by
    rw [nrFind] at h
    split at h
    · rename_i e; subst e
      simp at h; subst h; simp
    · exact List.mem_cons_of_mem _ (nrFind_mem h)
theorem Wk.ofX {s : St} {l : List (Nat × SV)} {lb : List Ent} {n : Nat} (h : ∀ p ∈ l, s.σ p.1 = p.2) (hm : ∀ e ∈ lb, EntIn s.H e) (hn : s.H.nb ≤ n) : Wk s ⟨ofL l, hx lb n⟩ := by
  refine ⟨ofL_wk h, hn, fun b => ?_⟩
  show xmap lb b = none ∨ xmap lb b = s.H.map b
  clear h hn
  induction lb with
  | nil => exact .inl rfl
  | cons q lb ih =>
    have ih := ih (fun e he => hm e (by simp [he]))
    have hq := hm q (by simp)
    cases q with
    | blk k v =>
      rw [xmap]
      split
      · rename_i e; subst e; exact .inr hq.symm
      · exact ih
    | mat c R =>
      rw [xmap]
      split
      · rename_i e; exact .inr (hq b e.1 e.2).symm
      · exact ih
    | rows fl nr =>
      rw [xmap]
      split
      · rename_i r hr
        exact .inr (hq _ (nrFind_mem hr)).symm
      · exact ih
    | cut c =>
      rw [xmap]
      split
      · exact .inl rfl
      · exact ih
theorem EntIn.self {b : Nat} {R : List (List SV)} {l : List Ent} {n : Nat} : EntIn (hx (.mat b R :: l) n) (.mat b R) := by
  intro x h1 h2
  rw [hx_map, xmap, if_pos ⟨h1, h2⟩]
theorem EntIn.skipM {b k n : Nat} {v : Blk} {R : List (List SV)} {l : List Ent} (h : EntIn (hx l n) (.mat b R)) (hk : k < b ∨ b + R.length < k) : EntIn (hx (.blk k v :: l) n) (.mat b R) := by
  intro x h1 h2
  rw [hx_map, xmap, if_neg (by omega)]
  exact h x h1 h2
theorem EntIn.skipR {k n : Nat} {v : Blk} {fl : Bool} {nr : List (Nat × List SV)} {l : List Ent} (h : EntIn (hx l n) (.rows fl nr)) (hk2 : ∀ p ∈ nr, p.1 ≠ k) : EntIn (hx (.blk k v :: l) n) (.rows fl nr) := by
  intro p hp
  rw [hx_map, xmap, if_neg (hk2 p hp)]; exact h p hp
theorem EntIn.skipC {k n : Nat} {fl : Bool} {nr : List (Nat × List SV)} {l : List Ent} (h : EntIn (hx l n) (.rows fl nr)) (hk2 : ∀ p ∈ nr, p.1 ≠ k) : EntIn (hx (.cut k :: l) n) (.rows fl nr) := by
  intro p hp
  rw [hx_map, xmap, if_neg (hk2 p hp)]; exact h p hp
theorem EntIn.snoc {H : Heap} {b : Nat} {r : List SV} {fl : Bool} {nr : List (Nat × List SV)} (h : EntIn H (.rows fl nr)) (h2 : H.map b = some ⟨r, fl⟩) : EntIn H (.rows fl (nr ++ [(b, r)])) := by
  intro p hp
  rcases List.mem_append.1 hp with hp | hp
  · exact h p hp
  · simp at hp; subst hp; exact h2
theorem outerN_snoc (fl : Bool) (nr : List (Nat × List SV)) (b : Nat) (r : List SV) : outerN fl (nr ++ [(b, r)]) = outerN fl nr ++ [.own b 0 r.length r.length 1 fl] := by simp [outerN]
theorem outerN_length (fl : Bool) (nr : List (Nat × List SV)) : (outerN fl nr).length = nr.length := by simp [outerN]
def NrOk (b nb : Nat) (nr : List (Nat × List SV)) : Prop := b < nb ∧ (∀ p ∈ nr, p.1 < nb ∧ p.1 ≠ b) ∧ (nr.map (·.1)).Nodup
theorem nrFind_get : ∀ {nr : List (Nat × List SV)} {p : Nat × List SV}, (nr.map (·.1)).Nodup → p ∈ nr → nrFind nr p.1 = some p.2
  | [], p, _, h => by simp at h
  | q :: l, p, hn, h => by
    simp only [List.map_cons, List.nodup_cons] at hn
    rw [nrFind]
    rcases List.mem_cons.1 h with rfl | h
    · rw [if_pos rfl]
    · rw [if_neg (fun e => hn.1 (by rw [← e]; exact List.mem_map_of_mem h))]
      exact nrFind_get hn.2 h
theorem EntIn.selfR {n : Nat} {fl : Bool} {nr : List (Nat × List SV)} {l : List Ent} (h : (nr.map (·.1)).Nodup) : EntIn (hx (.rows fl nr :: l) n) (.rows fl nr) := by
  intro p hp
  rw [hx_map, xmap, nrFind_get h hp]
theorem NrOk.nil {b nb : Nat} (h : b < nb) : NrOk b nb [] := ⟨h, by simp, by simp⟩
theorem NrOk.snoc {b nb b' nb' x : Nat} {r : List SV} {nr : List (Nat × List SV)} (h : NrOk b nb nr) (h1 : nb ≤ x) (h2 : nb ≤ b') (h3 : x ≠ b') (h4 : x < nb') (h5 : b' < nb') : NrOk b' nb' (nr ++ [(x, r)]) := by
  refine ⟨h5, fun p hp => ?_, ?_⟩
  · rcases List.mem_append.1 hp with hp | hp
    · have := (h.2.1 p hp).1; omega
    · simp at hp; subst hp; exact ⟨h4, h3⟩
  · rw [List.map_append, List.nodup_append]
    refine ⟨h.2.2, by simp, ?_⟩
    intro a ha c hc
    obtain ⟨p, hp, rfl⟩ := List.mem_map.1 ha
    simp at hc; subst hc
    have := (h.2.1 p hp).1; omega

def MatRes (R : List (List SV)) (r : SV) (H : Heap) : Prop :=
  ∃ (b off cap : Nat) (ex : Bool) (blk : Blk), r = .own b off R.length cap 1 ex ∧ H.map b = some blk ∧ off + R.length ≤ blk.cells.length ∧ (∀ row ∈ R, row.all isVal = true) ∧
    ∃ nm oi : Nat → Nat, (∀ i i', i < R.length → i' < R.length → nm i = nm i' → i = i') ∧ (∀ i, i < R.length → nm i ≠ b) ∧
      ∀ i, i < R.length → ∃ capi exi blki, blk.cells[off + i]? = some (.own (nm i) (oi i) (rowAt R i).length capi 1 exi) ∧ H.map (nm i) = some blki ∧ (blki.cells.drop (oi i)).take (rowAt R i).length = rowAt R i ∧ oi i + (rowAt R i).length ≤ blki.cells.length
def MatOne (R : List (List SV)) (r : SV) (H : Heap) : Prop := r = .own 0 0 R.length R.length 1 false ∧ H = hx [.mat 0 R] (R.length + 1)

theorem outerB_get {b k : Nat} {R : List (List SV)} (h : k < R.length) : (outerB b R)[k]? = some (.own (b + 1 + k) 0 (rowAt R k).length (rowAt R k).length 1 false) := by
  simp only [outerB, List.getElem?_map]
  rw [List.getElem?_range h]
  rfl
theorem rowAt_mem {R : List (List SV)} {i : Nat} (h : i < R.length) : rowAt R i ∈ R := by rw [rowAt_length h]; exact List.getElem_mem h
theorem own_zero {O : Nat → Prop} {w : World} {j : JMap} {v : Value} {b off n cap sz : Nat} {ex : Bool} {rb base : Nat} (h : VRel O w j (.own b off n cap sz ex) v) (hj : j b = some (rb, base)) {j' : JMap} {b' : Nat} {O' : Nat → Prop} (hj' : j' b' = some (rb, base + off)) :
    VRel O' w j' (.own b' 0 n n sz false) v := by
  simp only [VRel] at h ⊢
  obtain ⟨rb', base', a, cap', c, e, fr, g1, g2, g3, g4, g5, g6, g7, g8⟩ := h
  rw [hj] at g1
  obtain ⟨rfl, rfl⟩ := (by simpa using g1 : rb = rb' ∧ base = base')
  exact ⟨rb, base + off, a, cap', c, e, fr, hj', g2, Nat.le_refl _, by omega, by simp, by simpa using g6, g7, by simpa using g8⟩

theorem mat_rel {R : List (List SV)} {j : JMap} {H : Heap} {w : World} {r : SV} {v : Value} (h : MatRes R r H) (hr : Rel j H w) (hv : VRel (OwnR j H) w j r v) :
    ∃ j', Rel j' (hx [.mat 0 R] (R.length + 1)) w ∧ VRel (OwnR j' (hx [.mat 0 R] (R.length + 1))) w j' (.own 0 0 R.length R.length 1 false) v ∧ ∀ k, OwnR j' (hx [.mat 0 R] (R.length + 1)) k → OwnR j H k := by
  obtain ⟨b, off, cap, ex, blk, rfl, hb, hlen, hval, nm, oi, hinj, hne, hrow⟩ := h
  obtain ⟨rb, base, k1, hat⟩ := hr.live b blk hb
  let j' : JMap := fun x => if x = 0 then some (rb, base + off) else if x ≤ R.length then (j (nm (x - 1))).map (fun p => (p.1, p.2 + oi (x - 1))) else none
  have j0 : j' 0 = some (rb, base + off) := rfl
  have jr : ∀ i, i < R.length → ∃ rbi basei, j (nm i) = some (rbi, basei) ∧ j' (0 + 1 + i) = some (rbi, basei + oi i) := by
    intro i hi
    obtain ⟨capi, exi, blki, q1, q2, q3, q4⟩ := hrow i hi
    obtain ⟨rbi, basei, p1, _⟩ := hr.live _ blki q2
    refine ⟨rbi, basei, p1, ?_⟩
    show (if 0 + 1 + i = 0 then _ else if 0 + 1 + i ≤ R.length then (j (nm (0 + 1 + i - 1))).map _ else none) = _
    have e : 0 + 1 + i - 1 = i := by omega
    rw [if_neg (by omega), if_pos (by omega), e, p1]
    rfl
  have hm0 : (hx [.mat 0 R] (R.length + 1)).map 0 = some ⟨outerB 0 R, false⟩ := by rw [hx_map, xmap_mat]
  have hmr : ∀ i, i < R.length → (hx [.mat 0 R] (R.length + 1)).map (0 + 1 + i) = some ⟨rowAt R i, false⟩ := by
    intro i hi
    rw [hx_map, xmap, if_pos (by omega), matMap, if_neg (by omega)]
    congr 3; omega
  have hms : ∀ x bl, (hx [.mat 0 R] (R.length + 1)).map x = some bl → (x = 0 ∧ bl = ⟨outerB 0 R, false⟩) ∨ ∃ i, i < R.length ∧ x = 0 + 1 + i ∧ bl = ⟨rowAt R i, false⟩ := by
    intro x bl hx
    rw [hx_map, xmap] at hx
    split at hx
    · rename_i hr
      rw [matMap] at hx
      split at hx
      · rename_i h0
        simp at hx
        exact .inl ⟨h0, hx.symm⟩
      · rename_i h0
        simp at hx
        exact .inr ⟨x - 1, by omega, by omega, hx.symm⟩
    · simp [xmap] at hx
  have hback : ∀ k, OwnR j' (hx [.mat 0 R] (R.length + 1)) k → OwnR j H k := by
    rintro k ⟨x, bl, bs, h1, h2⟩
    rcases hms x bl h1 with ⟨rfl, rfl⟩ | ⟨i, hi, rfl, rfl⟩
    · rw [j0] at h2
      simp at h2
      obtain ⟨rfl, _⟩ := h2
      exact ⟨b, blk, base, hb, k1⟩
    · obtain ⟨rbi, basei, p1, p2⟩ := jr i hi
      rw [p2] at h2
      simp at h2
      obtain ⟨rfl, _⟩ := h2
      obtain ⟨capi, exi, blki, q1, q2, q3, q4⟩ := hrow i hi
      exact ⟨nm i, blki, basei, q2, p1⟩
  refine ⟨j', ⟨hr.tab.tr (Tr.weaken w hback), ?_, ?_, ?_⟩, own_zero hv k1 j0, hback⟩
  · intro x p hp
    show x < R.length + 1
    by_cases h0 : x = 0
    · omega
    · have : (if x = 0 then some (rb, base + off) else if x ≤ R.length then (j (nm (x - 1))).map (fun p => (p.1, p.2 + oi (x - 1))) else none) = some p := hp
      rw [if_neg h0] at this
      split at this
      · omega
      · simp at this
  · intro x bl hx
    obtain ⟨c, e, lo, hi', q2, q3, q4, q5, q6⟩ := hat
    rcases hms x bl hx with ⟨rfl, rfl⟩ | ⟨i, hi, rfl, rfl⟩
    · refine ⟨rb, base + off, j0, c, e, lo, hi', q2, q3, ?_, by simp, ?_⟩
      · show base + off + (outerB 0 R).length ≤ c.size
        rw [outerB_length]; omega
      · intro i s hs
        have hs' : (outerB 0 R)[i]? = some s := hs
        have hi : i < R.length := by
          have := (List.getElem?_eq_some_iff.1 hs').1
          rwa [outerB_length] at this
        rw [outerB_get hi] at hs'
        simp at hs'
        subst hs'
        obtain ⟨capi, exi, blki, p1, p2, p3, p4⟩ := hrow i hi
        obtain ⟨u, g1, g2⟩ := q6 (off + i) _ p1
        obtain ⟨rbi, basei, t1, t2⟩ := jr i hi
        exact ⟨u, by simpa [Nat.add_assoc] using g1, by simpa only [Nat.zero_add] using own_zero g2 t1 t2⟩
    · obtain ⟨capi, exi, blki, p1, p2, p3, p4⟩ := hrow i hi
      obtain ⟨rbi, basei, t1, t2⟩ := jr i hi
      obtain ⟨rbi', basei', s1, c', e', lo', hi2, s2, s3, s4, s5, s6⟩ := hr.live _ blki p2
      rw [t1] at s1
      obtain ⟨rfl, rfl⟩ := (by simpa using s1 : rbi = rbi' ∧ basei = basei')
      refine ⟨rbi, basei + oi i, t2, c', e', lo', hi2, s2, s3, ?_, by simp, ?_⟩
      · show basei + oi i + (rowAt R i).length ≤ c'.size
        omega
      · intro k s hs
        have hs' : (rowAt R i)[k]? = some s := hs
        have hk : k < (rowAt R i).length := (List.getElem?_eq_some_iff.1 hs').1
        rw [← p3, List.getElem?_take, if_pos hk, List.getElem?_drop] at hs'
        obtain ⟨u, g1, g2⟩ := s6 (oi i + k) s hs'
        refine ⟨u, by simpa [Nat.add_assoc] using g1, ?_⟩
        have hsv : isVal s = true := (List.all_eq_true.1 (hval _ (rowAt_mem hi))) s (List.mem_of_getElem? hs)
        obtain ⟨z, rfl⟩ := isVal_of hsv
        simpa only [VRel] using g2
  · intro x x' bl bl' rb1 ba ba' h1 h2 h3 h4
    rcases hms x bl h1 with ⟨rfl, rfl⟩ | ⟨i, hi, rfl, rfl⟩ <;> rcases hms x' bl' h2 with ⟨rfl, rfl⟩ | ⟨i', hi', rfl, rfl⟩
    · rfl
    · obtain ⟨rbi, basei, t1, t2⟩ := jr i' hi'
      obtain ⟨capi, exi, blki, p1, p2, p3, p4⟩ := hrow i' hi'
      rw [j0] at h3
      rw [t2] at h4
      simp at h3 h4
      obtain ⟨rfl, _⟩ := h3
      obtain ⟨rfl, _⟩ := h4
      exact absurd (hr.inj _ _ _ _ _ _ _ p2 hb t1 k1) (hne i' hi')
    · obtain ⟨rbi, basei, t1, t2⟩ := jr i hi
      obtain ⟨capi, exi, blki, p1, p2, p3, p4⟩ := hrow i hi
      rw [j0] at h4
      rw [t2] at h3
      simp at h3 h4
      obtain ⟨rfl, _⟩ := h3
      obtain ⟨rfl, _⟩ := h4
      exact absurd (hr.inj _ _ _ _ _ _ _ p2 hb t1 k1) (hne i hi)
    · obtain ⟨rbi, basei, t1, t2⟩ := jr i hi
      obtain ⟨capi, exi, blki, p1, p2, p3, p4⟩ := hrow i hi
      obtain ⟨rbi', basei', t1', t2'⟩ := jr i' hi'
      obtain ⟨capi', exi', blki', p1', p2', p3', p4'⟩ := hrow i' hi'
      rw [t2] at h3
      rw [t2'] at h4
      simp at h3 h4
      obtain ⟨rfl, _⟩ := h3
      obtain ⟨rfl, _⟩ := h4
      rw [hinj i i' hi hi' (hr.inj _ _ _ _ _ _ _ p2 p2' t1 t1')]

theorem outerB_nr (b : Nat) (R : List (List SV)) : noRowL (outerB b R) = true := by
  unfold outerB
  generalize List.range R.length = l
  induction l with
  | nil => rfl
  | cons a l ih => simp only [List.map_cons, noRowL, ih, Bool.and_true, noRow]
theorem mat_nr {b n : Nat} {R : List (List SV)} (h : ∀ row ∈ R, row.all isVal = true) : nrHeap (hx [.mat b R] n) := by
  intro x blk hb
  rw [hx_map, xmap] at hb
  split at hb
  · rename_i hr
    rw [matMap] at hb
    split at hb
    · simp at hb; subst hb; exact outerB_nr b R
    · rename_i h0
      simp at hb; subst hb
      exact isVal_noRow (h _ (rowAt_mem (by omega)))
  · simp [xmap] at hb
theorem MatRes.vals {R : List (List SV)} {r : SV} {H : Heap} (h : MatRes R r H) : ∀ row ∈ R, row.all isVal = true := by
  obtain ⟨b, off, cap, ex, blk, _, _, _, h5, _⟩ := h
  exact h5
variable {P : Program}
theorem FCall.mat {f : FuncId} {args : List SV} {R : List (List SV)} (h : FCall P f args (MatRes R)) : FCall P f args (MatOne R) := by
  refine ⟨h.1, fun w vs hl ht => (h.2 w vs hl ht).mono ?_⟩
  rintro e w' ⟨v, r, j, H, h1, h2, h3, h4, h5, h6, h7, h8⟩
  obtain ⟨j', r', v', o'⟩ := mat_rel h8 h3 h4
  exact ⟨v, _, j', _, h1, h2, r', v', fun k hk => h5 k (o' k hk), rfl, mat_nr h8.vals, rfl, rfl⟩
theorem merge_mat {j : JMap} {H : Heap} {w : World} (r : Rel j H w) {R : List (List SV)} (h : ∀ row ∈ R, row.all isVal = true) : H.merge (hx [.mat 0 R] (R.length + 1)) = H.pushM R := by
  refine Heap.ext' (fun x => ?_) (by simp only [Heap.merge, Heap.pushM, hx]; omega)
  simp only [Heap.merge, Heap.pushM, hx_map, xmap]
  by_cases h1 : x < H.nb
  · rw [if_pos h1, if_neg (by omega)]
  · rw [if_neg h1]
    by_cases h2 : x ≤ H.nb + R.length
    · rw [if_pos (by omega), if_pos (by omega), matMap, matMap]
      by_cases h3 : x = H.nb
      · subst h3
        rw [if_pos (by omega), if_pos rfl]
        simp only [Option.map_some]
        congr 2
        unfold outerB
        generalize List.range R.length = l
        induction l with
        | nil => rfl
        | cons a l ih =>
          simp only [List.map_cons, shiftL, ih, shift]
          congr 2; omega
      · rw [if_neg (by omega), if_neg h3]
        simp only [Option.map_some]
        have e : x - H.nb - 0 - 1 = x - H.nb - 1 := by omega
        rw [e, isVal_shift (h _ (rowAt_mem (by omega)))]
    · rw [if_neg (by omega), if_neg (by omega), r.fresh (by omega)]
      rfl
theorem FCall.callMat {f : FuncId} {args args' : List SV} {R : List (List SV)} {H : Heap} {K : SV → Heap → Prop} (h : FCall P f args' (MatOne R)) (hc : ∀ row ∈ R, row.all isVal = true) (fu : Nat) (hv : viewL H fu args = some args')
    (k : K (.own H.nb 0 R.length R.length 1 false) (H.pushM R)) : @CallX P f args H ⟨K⟩ := by
  refine ⟨h.1, fun j w vs r hl => ((h.callS fu hv).2 j w vs r hl).mono ?_⟩
  rintro e w' ⟨r1, v, j', H', h1, h2, h3, h4, r0, H0, ⟨rfl, rfl⟩, rfl, rfl⟩
  refine ⟨_, v, j', _, h1, h2, h3, h4, ?_⟩
  rw [merge_mat r hc]
  simpa only [shift, Nat.zero_add] using k
theorem mi_vals (M : List (List Int)) : ∀ row ∈ mi M, row.all isVal = true := by
  intro row h
  obtain ⟨l, _, rfl⟩ := List.mem_map.1 h
  exact ints_vals l
theorem mb_vals (M : List (List Bool)) : ∀ row ∈ mb M, row.all isVal = true := by
  intro row h
  obtain ⟨l, _, rfl⟩ := List.mem_map.1 h
  exact bools_vals l

theorem view_mat {H : Heap} {b n f cap : Nat} {ex : Bool} {R : List (List SV)} (h : EntIn H (.mat b R)) (hn : n = R.length) (hv : ∀ i, i < R.length → viewL H f (rowAt R i) = some (rowAt R i)) :
    view H (f + 2) (.own b 0 n cap 1 ex) = some (.row n false (R.map fun r => .row r.length false r)) := by
  subst hn
  have h0 : H.map b = some ⟨outerB b R, false⟩ := by rw [h b (by omega) (by omega), matMap, if_pos rfl]
  simp only [view, h0, Nat.mul_one, List.drop_zero, outerB_length, Nat.zero_add, Nat.le_refl, if_true]
  have e : (outerB b R).take R.length = outerB b R := List.take_of_length_le (by rw [outerB_length]; exact Nat.le_refl _)
  rw [e, outerB, viewL_fn (h := fun i => .row (rowAt R i).length false (rowAt R i)) _ (fun i hi => ?_)]
  · have : (List.range R.length).map (fun i => SV.row (rowAt R i).length false (rowAt R i)) = R.map fun r => .row r.length false r := by
      apply List.ext_getElem?
      intro i
      simp only [List.getElem?_map]
      by_cases hi : i < R.length
      · rw [List.getElem?_range hi, List.getElem?_eq_getElem hi, ← rowAt_length hi]; rfl
      · have : (List.range R.length)[i]? = none := by simp; omega
        rw [this, List.getElem?_eq_none (by omega : R.length ≤ i)]; rfl
    rw [this]
  · have hi' : i < R.length := by simpa using hi
    have hm : H.map (b + 1 + i) = some ⟨rowAt R i, false⟩ := by
      rw [h (b + 1 + i) (by omega) (by omega), matMap, if_neg (by omega)]
      congr 3; omega
    simp only [view, hm, Nat.mul_one, List.drop_zero, Nat.zero_add, Nat.le_refl, if_true, List.take_length, hv i hi']
theorem view_mi {H : Heap} {b n f cap : Nat} {ex : Bool} {M : List (List Int)} (h : EntIn H (.mat b (mi M))) (hn : n = M.length) : view H (f + 2) (.own b 0 n cap 1 ex) = some (rr M) := by
  rw [view_mat h (by rw [hn, zo]) (fun i hi => by rw [mi_row (by rwa [zo] at hi)]; exact viewL_ints _ _ _)]
  subst hn
  simp only [rr, rows, mi, List.map_map]
  congr 2
  exact List.map_congr_left (fun r _ => by simp [ri, zh])
theorem view_mb {H : Heap} {b n f cap : Nat} {ex : Bool} {M : List (List Bool)} (h : EntIn H (.mat b (mb M))) (hn : n = M.length) : view H (f + 2) (.own b 0 n cap 1 ex) = some (rb M) := by
  rw [view_mat h (by rw [hn, mb_length]) (fun i hi => by rw [mb_row (by rwa [mb_length] at hi)]; exact viewL_bools _ _ _)]
  subst hn
  simp only [rb, rowsB, mb, List.map_map]
  congr 2
  exact List.map_congr_left (fun r _ => by simp [bools_length])
theorem MatOne.viewI {M : List (List Int)} {r : SV} {H : Heap} (h : MatOne (mi M) r H) : view H 2 r = some (rr M) := by
  obtain ⟨rfl, rfl⟩ := h
  exact view_mi EntIn.self (zo M)
theorem rows_res {b nb : Nat} {fl : Bool} {nr : List (Nat × List SV)} {H : Heap} (h : NrOk b nb nr) (hv : ∀ p ∈ nr, p.2.all isVal = true) (h1 : H.map b = some ⟨outerN fl nr, false⟩) (h2 : EntIn H (.rows fl nr)) : MatRes (nr.map (·.2)) (.own b 0 nr.length nr.length 1 false) H := by
  have hl : (nr.map (·.2)).length = nr.length := by simp
  refine ⟨b, 0, nr.length, false, _, by rw [hl], h1, by rw [hl, outerN_length]; omega, ?_, fun i => (nr.getD i (0, [])).1, fun _ => 0, ?_, ?_, ?_⟩
  · intro row hr
    obtain ⟨p, hp, rfl⟩ := List.mem_map.1 hr
    exact hv p hp
  · intro i i' hi hi' he
    rw [hl] at hi hi'
    have hn := h.2.2
    have hi2 : i < (nr.map (·.1)).length := by simpa using hi
    have hi2' : i' < (nr.map (·.1)).length := by simpa using hi'
    have e1 : (nr.getD i (0, [])).1 = (nr.map (·.1))[i] := by simp [hi]
    have e2 : (nr.getD i' (0, [])).1 = (nr.map (·.1))[i'] := by simp [hi']
    simp only [] at he
    rw [e1, e2] at he
    have hpw := List.pairwise_iff_getElem.1 hn
    rcases Nat.lt_trichotomy i i' with g | g | g
    · exact absurd he (hpw i i' hi2 hi2' g)
    · exact g
    · exact absurd he.symm (hpw i' i hi2' hi2 g)
  · intro i hi
    rw [hl] at hi
    have : nr.getD i (0, []) ∈ nr := by simp [hi]
    exact (h.2.1 _ this).2
  · intro i hi
    rw [hl] at hi
    have hm : nr.getD i (0, []) ∈ nr := by simp [hi]
    have hr : rowAt (nr.map (·.2)) i = (nr.getD i (0, [])).2 := by simp [rowAt, hi]
    refine ⟨(rowAt (nr.map (·.2)) i).length, fl, ⟨(nr.getD i (0, [])).2, fl⟩, ?_, h2 _ hm, ?_, ?_⟩
    · rw [hr]; simp [outerN, hi]
    · rw [hr]; simp
    · rw [hr]; simp
theorem fin_rows {b nb : Nat} {fl : Bool} {nr : List (Nat × List SV)} {H : Heap} {R : List (List SV)} (h : NrOk b nb nr) (hv : ∀ p ∈ nr, p.2.all isVal = true) (h1 : H.map b = some ⟨outerN fl nr, false⟩) (h2 : EntIn H (.rows fl nr)) (hR : R = nr.map (·.2)) :
    Fin (MatRes R) (.own b 0 nr.length nr.length 1 false) H := by
  subst hR
  have hne : ∀ p ∈ nr, p.1 ≠ b := fun p hp => (h.2.1 p hp).2
  refine ⟨hx [.blk b ⟨outerN fl nr, false⟩, .rows fl nr] H.nb, ⟨rfl, fun x => ?_⟩, rfl, ?_, rows_res h hv (by rw [hx_map, xmap, if_pos rfl]) ((EntIn.selfR h.2.2).skipR hne)⟩
  · rw [hx_map, xmap]
    by_cases hx : x = b
    · subst hx; rw [if_pos rfl]; exact .inr h1.symm
    · rw [if_neg hx, xmap]
      split
      · rename_i r hr
        exact .inr (h2 _ (nrFind_mem hr)).symm
      · exact .inl rfl
  · intro x blk hb
    rw [hx_map, xmap] at hb
    split at hb
    · simp at hb; subst hb
      show noRowL (outerN fl nr) = true
      unfold outerN
      clear h hv h1 h2 hne
      induction nr with
      | nil => rfl
      | cons a l ih => simp only [List.map_cons, noRowL, ih, Bool.and_true, noRow]
    · rw [xmap] at hb
      split at hb
      · rename_i r hr
        simp at hb; subst hb
        exact isVal_noRow (hv _ (nrFind_mem hr))
      · simp [xmap] at hb
attribute [go_sem] hx_del xdel_blk xdel_rows xdel_nil hx_nb hx_map hx_push hx_set hx_pushM hp_pushM toE_nil toE_cons zl xmap_nil xmap_mat xset_blk xset_nil zo mb_length outerB_length bools_length
end Go.Sh

/-
  Contracts: matrices copied into memory of their own, marked, read back.
-/
namespace Go.Sh
open Go Go.Proofs
variable {P : Program}

def Heap.cutR (H : Heap) (a c : Nat) : Heap := ⟨fun x => if a ≤ x ∧ x ≤ c then none else H.map x, H.nb⟩
def consE (e : Ent) (H : Heap) : Heap := match e with
  | .blk k v => ⟨fun x => if x = k then some v else H.map x, H.nb⟩
  | .mat b R => ⟨fun x => if b ≤ x ∧ x ≤ b + R.length then matMap b R x else H.map x, H.nb⟩
  | .rows fl nr => ⟨fun x => match nrFind nr x with | some r => some ⟨r, fl⟩ | none => H.map x, H.nb⟩
  | .cut b => ⟨fun x => if x = b then none else H.map x, H.nb⟩
theorem consE_hx (e : Ent) (l : List Ent) (n : Nat) : consE e (hx l n) = hx (e :: l) n := by cases e <;> rfl
theorem cutR_nil (n a c : Nat) : (hx [] n).cutR a c = hx [] n := by
  refine Heap.ext' (fun x => ?_) rfl
  simp only [Heap.cutR, hx, xmap]
  split <;> rfl
theorem fin_mat {b n cap : Nat} {ex : Bool} {R : List (List SV)} {H : Heap} (h : EntIn H (.mat b R)) (hv : ∀ row ∈ R, row.all isVal = true) (hn : n = R.length) : Fin (MatRes R) (.own b 0 n cap 1 ex) H := by
  subst hn
  refine ⟨hx [.mat b R] H.nb, ⟨rfl, fun x => ?_⟩, rfl, mat_nr hv, b, 0, cap, ex, _, rfl, by rw [hx_map, xmap_mat], by rw [outerB_length]; omega, hv, fun i => b + 1 + i, fun _ => 0, fun i i' _ _ e => by have e : b + 1 + i = b + 1 + i' := e; omega, fun i _ => by show b + 1 + i ≠ b; omega, fun i hi => ?_⟩
  · rw [hx_map, xmap]
    by_cases hr : b ≤ x ∧ x ≤ b + R.length
    · rw [if_pos hr]; exact .inr (h x hr.1 hr.2).symm
    · rw [if_neg hr]; exact .inl rfl
  · refine ⟨(rowAt R i).length, false, ⟨rowAt R i, false⟩, ?_, ?_, ?_, ?_⟩
    · rw [Nat.zero_add, outerB_get hi]
    · show (hx [.mat b R] H.nb).map (b + 1 + i) = _
      rw [hx_map, xmap, if_pos (by omega), matMap, if_neg (by omega)]
      congr 3; omega
    · simp
    · simp
attribute [go_sem] consE_hx cutR_nil
end Go.Sh

/-
  Contracts: matrices marked, and what they hold then.
-/
namespace Go.Sh
open Go Go.Proofs
variable {P : Program}

theorem view_nilM {H : Heap} {f : Nat} : view H f (.val (.slice none 0 0)) = some (rr []) := view_nil
end Go.Sh

/-
  Blocks of a partition: plain. Rows under names of their own, changed one by one.
-/
namespace Go.Sh
open Go Go.Proofs

end Go.Sh

/-
  Partitions as text: plain.
-/
namespace Go.Sh
open Go Go.Proofs

def cutL (c : UInt8) : List UInt8 → List (List UInt8)
  | [] => [[]]
  | x :: s => if x = c then [] :: cutL c s else match cutL c s with
    | [] => [[x]]
    | p :: ps => (x :: p) :: ps
theorem cutL_ne (c : UInt8) : ∀ s, ∃ p ps, cutL c s = p :: ps
  | [] => ⟨_, _, rfl⟩
  | x :: s => by
    rw [cutL]
    split
    · exact ⟨_, _, rfl⟩
    · obtain ⟨p, ps, h⟩ := cutL_ne c s
      rw [h]; exact ⟨_, _, rfl⟩
theorem cutL_none {c : UInt8} : ∀ {s : List UInt8}, c ∉ s → cutL c s = [s]
  | [], _ => rfl
  | x :: s, h => by
    have hx : x ≠ c := fun e => h (by simp [e])
    rw [cutL, if_neg hx, cutL_none (fun hm => h (by simp [hm]))]
theorem cutL_app {c : UInt8} : ∀ {p s : List UInt8}, c ∉ p → cutL c (p ++ c :: s) = p :: cutL c s
  | [], s, _ => by rw [List.nil_append, cutL, if_pos rfl]
  | x :: p, s, h => by
    have hx : x ≠ c := fun e => h (by simp [e])
    rw [List.cons_append, cutL, if_neg hx, cutL_app (p := p) (fun hm => h (by simp [hm]))]
theorem cutL_first {c : UInt8} {s : List UInt8} {m : Nat} (hm : m < s.length) (h : s.getD m 0 = c) (hn : ∀ k, k < m → s.getD k 0 ≠ c) : cutL c s = s.take m :: cutL c (s.drop (m + 1)) := by
  have e : s = s.take m ++ c :: s.drop (m + 1) := by
    have h1 : s.drop m = c :: s.drop (m + 1) := by
      rw [List.drop_eq_getElem_cons hm]; congr 1; simpa [hm] using h
    rw [← h1, List.take_append_drop]
  have hnot : c ∉ s.take m := by
    intro hmem
    obtain ⟨k, hk, e⟩ := List.getElem_of_mem hmem
    have hk' : k < m := by rw [List.length_take] at hk; omega
    refine hn k hk' ?_
    rw [List.getElem_take] at e
    simp [show k < s.length by omega, e]
  conv => lhs; rw [e]
  rw [cutL_app hnot]
theorem cutL_last {c : UInt8} {s : List UInt8} (hn : ∀ k, k < s.length → s.getD k 0 ≠ c) : cutL c s = [s] := by
  refine cutL_none fun hmem => ?_
  obtain ⟨k, hk, e⟩ := List.getElem_of_mem hmem
  exact hn k hk (by simp [hk, e])
theorem cutL_len (c : UInt8) : ∀ s : List UInt8, (cutL c s).length = s.count c + 1
  | [] => rfl
  | x :: s => by
    have ih := cutL_len c s
    rw [cutL]
    split
    · rename_i h; subst h; simp [ih]
    · rename_i h
      obtain ⟨p, ps, e⟩ := cutL_ne c s
      rw [e] at ih ⊢
      rw [List.count_cons_of_ne h]
      simpa using ih
theorem cutL_join {c : UInt8} : ∀ {p : List UInt8} {ps : List (List UInt8)}, (∀ q ∈ p :: ps, c ∉ q) → cutL c (Lib.join (p :: ps) [c]) = p :: ps
  | p, [], h => by rw [Lib.join_one, cutL_none (h p (by simp))]
  | p, q :: ps, h => by
    have e : Lib.join (p :: q :: ps) [c] = p ++ c :: Lib.join (q :: ps) [c] := by
      rw [Lib.join_cons, Lib.join_cons]; simp [Lib.joinTail]
    rw [e, cutL_app (h p (by simp)), cutL_join (fun r hr => h r (List.mem_cons_of_mem _ hr))]

end Go.Sh

/-
  Plain law of texts: normal forms, words.
-/
namespace Go.Sh
open Go Go.Proofs

def isTx (l : List UInt8) : Bool := l.all (fun c => decide (32 ≤ c.toNat) && decide (c.toNat ≤ 126)) && decide (l.length ≤ 40)
def isFd (l : List UInt8) : Bool := isTx l && l.all (fun c => c != 124 && c != 59)
def isSm (c : UInt8) : Bool := decide (97 ≤ c.toNat) && decide (c.toNat ≤ 122)
def isDg (c : UInt8) : Bool := decide (48 ≤ c.toNat) && decide (c.toNat ≤ 57)
def isCp (c : UInt8) : Bool := decide (65 ≤ c.toNat) && decide (c.toNat ≤ 90)
def isWd (c : UInt8) : Bool := isSm c || isCp c || isDg c
def fc (c : UInt8) : UInt8 := if isCp c = true then UInt8.ofNat (c.toNat + 32) else c
def fw (c : UInt8) : UInt8 := if isWd c = true then c else 32
def stp (l : List UInt8) : List UInt8 := (l.filter fun c => c != 39).map fw
def csp (p : List UInt8 × Bool) (c : UInt8) : List UInt8 × Bool := if c = 32 then (p.1, true) else (if p.1 ≠ [] ∧ p.2 = true then p.1 ++ [32, c] else p.1 ++ [c], false)
def clp2 (l : List UInt8) : List UInt8 × Bool := l.foldl csp ([], false)
def clp (l : List UInt8) : List UInt8 := (clp2 l).1
def nrm (l : List UInt8) : List UInt8 := clp (stp (l.map fc))
theorem stp_length (l : List UInt8) : (stp l).length ≤ l.length := by
  rw [stp, List.length_map]; exact List.length_filter_le _ _
theorem take_at {α : Type} {l : List α} {k : Nat} (d : α) (h : k < l.length) : l.take (k + 1) = l.take k ++ [l.getD k d] := by
  rw [List.take_add_one, List.getElem?_eq_getElem h]; simp [List.getD, h]
theorem clp2_at {l : List UInt8} {k : Nat} (h : k < l.length) : clp2 (l.take (k + 1)) = csp (clp2 (l.take k)) (l.getD k 0) := by
  rw [take_at 0 h, clp2, List.foldl_append]; rfl
theorem csp_b (p : List UInt8 × Bool) (c : UInt8) : (csp p c).2 = (c == 32) := by
  by_cases h : c = 32
  · rw [csp, if_pos h, h]; rfl
  · rw [csp, if_neg h]; simp [h]
theorem clp2_sp {l : List UInt8} {k : Nat} (h : k < l.length) : (clp2 (l.take (k + 1))).2 = (l.getD k 0 == 32) := by rw [clp2_at h, csp_b]
theorem clp2_inv {l : List UInt8} : ∀ k, k ≤ l.length → (∀ c, (clp2 (l.take k)).1.getLast? = some c → c ≠ 32) ∧ (∀ c ∈ (clp2 (l.take k)).1, c ∈ l ∨ c = 32) ∧ (clp2 (l.take k)).1.length + (if (clp2 (l.take k)).2 = true then 1 else 0) ≤ k
  | 0, _ => by simp [clp2]
  | k + 1, h => by
    obtain ⟨h1, h2, h3⟩ := clp2_inv (l := l) k (by omega)
    have hm : l.getD k 0 ∈ l := by simp [List.getD, (by omega : k < l.length)]
    rw [clp2_at (by omega)]
    generalize clp2 (l.take k) = p at *
    by_cases hc : l.getD k 0 = 32
    · rw [csp, if_pos hc]
      refine ⟨h1, h2, ?_⟩
      simp only [↓reduceIte]
      split at h3 <;> omega
    · rw [csp, if_neg hc]
      by_cases hb : p.1 ≠ [] ∧ p.2 = true
      · simp only [if_pos hb]
        refine ⟨fun c hl => ?_, fun c hcm => ?_, ?_⟩
        · simp at hl; subst hl; exact hc
        · simp only [List.mem_append, List.mem_cons, List.not_mem_nil, or_false] at hcm
          rcases hcm with hcm | rfl | rfl
          · exact h2 c hcm
          · exact .inr rfl
          · exact .inl hm
        · simp only [hb.2, ↓reduceIte] at h3
          simp; omega
      · simp only [if_neg hb]
        refine ⟨fun c hl => ?_, fun c hcm => ?_, ?_⟩
        · simp at hl; subst hl; exact hc
        · simp only [List.mem_append, List.mem_cons, List.not_mem_nil, or_false] at hcm
          rcases hcm with hcm | rfl
          · exact h2 c hcm
          · exact .inl hm
        · simp; split at h3 <;> omega
theorem clp_eq (l : List UInt8) : clp l = (clp2 (l.take l.length)).1 := by rw [List.take_length]; rfl
theorem clp_mem {l : List UInt8} {c : UInt8} (h : c ∈ clp l) : c ∈ l ∨ c = 32 := by rw [clp_eq] at h; exact (clp2_inv l.length (Nat.le_refl _)).2.1 c h
theorem clp_length (l : List UInt8) : (clp l).length ≤ l.length := by rw [clp_eq]; have := (clp2_inv (l := l) l.length (Nat.le_refl _)).2.2; omega
theorem nrm_length (l : List UInt8) : (nrm l).length ≤ l.length := by
  have h1 := clp_length (stp (l.map fc)); have h2 := stp_length (l.map fc); rw [List.length_map] at h2; rw [nrm]; omega
def clo (p : List UInt8 × Bool) : List UInt8 := if p.1 ≠ [] ∧ p.2 = true then p.1 ++ [32] else p.1
theorem clo_csp {p : List UInt8 × Bool} {c : UInt8} (h : ∀ c, p.1.getLast? = some c → c ≠ 32) : (if c ≠ 32 ∨ (clo p ≠ [] ∧ (clo p).getLast? ≠ some 32) then clo p ++ [c] else clo p) = clo (csp p c) := by
  by_cases hc : c = 32
  · subst hc
    rw [csp, if_pos rfl]
    by_cases hb : p.1 ≠ [] ∧ p.2 = true
    · have e : clo p = p.1 ++ [32] := if_pos hb
      rw [e, if_neg (by simp)]
      rw [clo, if_pos ⟨hb.1, rfl⟩]
    · have e : clo p = p.1 := if_neg hb
      rw [e]
      by_cases h0 : p.1 = []
      · rw [if_neg (by simp [h0]), clo, if_neg (by simp [h0])]
      · rw [if_pos (.inr ⟨h0, fun hl => h 32 hl rfl⟩), clo, if_pos ⟨h0, rfl⟩]
  · rw [if_pos (.inl hc), csp, if_neg hc]
    by_cases hb : p.1 ≠ [] ∧ p.2 = true
    · rw [clo, if_pos hb, if_pos hb, clo, if_neg (by simp)]; simp
    · rw [clo, if_neg hb, if_neg hb, clo, if_neg (by simp)]
theorem clo_trim {p : List UInt8 × Bool} (h : ∀ c, p.1.getLast? = some c → c ≠ 32) : Lib.trimSuffix (clo p) [32] = p.1 := by
  rw [Lib.trimSuffix]
  by_cases hb : p.1 ≠ [] ∧ p.2 = true
  · rw [clo, if_pos hb, if_pos (by simp [Lib.hasSuffix])]; simp
  · rw [clo, if_neg hb, if_neg]
    intro hs
    simp only [Lib.hasSuffix, List.isSuffixOf_iff_suffix] at hs
    obtain ⟨t, ht⟩ := hs
    exact h 32 (by rw [← ht]; simp) rfl

theorem fc_nc (c : UInt8) : isCp (fc c) = false := by
  unfold fc
  split
  · rename_i h
    simp only [isCp, Bool.and_eq_true, decide_eq_true_eq] at h ⊢
    simp only [Bool.and_eq_false_iff, decide_eq_false_iff_not]
    rw [UInt8.toNat_ofNat']; omega
  · rename_i h; simpa using h
theorem nrm_mem {l : List UInt8} {c : UInt8} (h : c ∈ nrm l) : (isSm c || isDg c) = true ∨ c = 32 := by
  rcases clp_mem h with h | h
  · simp only [stp, List.mem_map, List.mem_filter] at h
    obtain ⟨x, ⟨⟨y, _, rfl⟩, _⟩, rfl⟩ := h
    unfold fw
    split
    · rename_i hw
      have := fc_nc y
      simp only [isWd, this, Bool.or_false] at hw
      exact .inl hw
    · exact .inr rfl
  · exact .inr h
def wds (t : List UInt8) : List (List UInt8) := (cutL 32 t).filter fun w => w != []
theorem cutL_mem {c : UInt8} : ∀ {t w : List UInt8}, w ∈ cutL c t → ∀ x ∈ w, x ∈ t ∧ x ≠ c
  | [], w, h, x, hx => by
    simp [cutL] at h; subst h; simp at hx
  | a :: t, w, h, x, hx => by
    obtain ⟨p, ps, e⟩ := cutL_ne c t
    by_cases ha : a = c
    · subst ha
      have e2 : cutL a (a :: t) = [] :: cutL a t := cutL_app (p := []) (s := t) (by simp)
      rw [e2] at h
      rcases List.mem_cons.1 h with rfl | h
      · simp at hx
      · obtain ⟨h1, h2⟩ := cutL_mem h x hx
        exact ⟨List.mem_cons_of_mem _ h1, h2⟩
    · have e2 : cutL c (a :: t) = (a :: p) :: ps := by
        simp only [cutL, e]
        simp [ha]
      rw [e2] at h
      rcases List.mem_cons.1 h with rfl | h
      · rcases List.mem_cons.1 hx with rfl | hx
        · exact ⟨by simp, ha⟩
        · obtain ⟨h1, h2⟩ := cutL_mem (w := p) (by rw [e]; simp) x hx
          exact ⟨List.mem_cons_of_mem _ h1, h2⟩
      · obtain ⟨h1, h2⟩ := cutL_mem (w := w) (by rw [e]; simp [h]) x hx
        exact ⟨List.mem_cons_of_mem _ h1, h2⟩
def isTk (w : List UInt8) : Bool := w != [] && w.all fun c => isSm c || isDg c
theorem wds_nrm {l w : List UInt8} (h : w ∈ wds (nrm l)) : isTk w = true := by
  simp only [wds, List.mem_filter] at h
  simp only [isTk, Bool.and_eq_true, List.all_eq_true]
  refine ⟨h.2, fun c hc => ?_⟩
  obtain ⟨h1, h2⟩ := cutL_mem h.1 c hc
  rcases nrm_mem h1 with h3 | h3
  · exact h3
  · exact absurd h3 h2
theorem wds_nil : wds [] = [] := by simp [wds, cutL]
theorem wds_sp (t : List UInt8) : wds (32 :: t) = wds t := by
  have e2 : cutL 32 (32 :: t) = [] :: cutL 32 t := cutL_app (p := []) (s := t) (by simp)
  rw [wds, e2]; simp [wds]
theorem wds_app {p t : List UInt8} (h : (32 : UInt8) ∉ p) (h0 : p ≠ []) : wds (p ++ 32 :: t) = p :: wds t := by
  rw [wds, cutL_app h]; simp [h0, wds]
theorem wds_one {p : List UInt8} (h : (32 : UInt8) ∉ p) (h0 : p ≠ []) : wds p = [p] := by
  rw [wds, cutL_none h]; simp [h0]
theorem spans_on {pr : Nat → Bool} {s : ByteArray} {f pos x : Nat} {st : Option Nat} {acc : List (Nat × Nat)} (h : pos < s.size) (hd : Utf8.decode s pos = (x, 1)) :
    Lib.spansFromP pr s (f + 1) pos st acc = if pr x = true then Lib.spansFromP pr s f (pos + 1) none (match st with | some a => acc ++ [(a, pos)] | none => acc) else Lib.spansFromP pr s f (pos + 1) (some (st.getD pos)) acc := by
  conv => lhs; unfold Lib.spansFromP
  rw [if_pos h, hd]
  cases st <;> rfl
theorem spans_eq {t : List UInt8} (ha : ∀ c ∈ t, c.toNat < 128) (pr : Nat → Bool) (hp : ∀ x, pr x = decide (x = 32)) : ∀ f pos st acc, t.length ≤ pos + f → pos ≤ t.length →
    (∀ a, st = some a → a < pos ∧ (32 : UInt8) ∉ (t.drop a).take (pos - a)) →
    (Lib.closeSpans (sb t) (Lib.spansFromP pr (sb t) f pos st acc)).map (fun x => (sb t).extract x.1 x.2) = acc.map (fun x => (sb t).extract x.1 x.2) ++ (wds (t.drop (st.getD pos))).map sb
  | f, pos, st, acc, h1, h2, h3 => by
    by_cases hlt : pos < t.length
    · cases f with
      | zero => omega
      | succ f =>
        have hsz : pos < (sb t).size := by rw [sb_size]; exact hlt
        have hd : Utf8.decode (sb t) pos = ((t.getD pos 0).toNat, 1) := by
          have e : (sb t)[pos]'hsz = t.getD pos 0 := by simp [sb, ByteArray.getElem_eq_getElem_data, List.getD, hlt]
          have hb : (t.getD pos 0).toNat < 128 := ha _ (by simp [List.getD, hlt])
          rw [decode_ascii _ _ hsz (by rw [e]; exact hb), e]
        have hdr : t.drop pos = t.getD pos 0 :: t.drop (pos + 1) := by
          rw [List.drop_eq_getElem_cons hlt]; simp [List.getD, hlt]
        have hdec : pr (t.getD pos 0).toNat = decide (t.getD pos 0 = 32) := by
          rw [hp]; congr 1; rw [← UInt8.toNat_inj]; rfl
        rw [spans_on hsz hd, hdec]
        by_cases hc : t.getD pos 0 = 32
        · rw [if_pos (by simpa using hc)]
          cases st with
          | some a =>
            obtain ⟨g1, g2⟩ := h3 a rfl
            rw [spans_eq ha pr hp f (pos + 1) none _ (by omega) (by omega) (fun a h => by cases h)]
            have e : t.drop a = (t.drop a).take (pos - a) ++ 32 :: t.drop (pos + 1) := by
              conv => lhs; rw [← List.take_append_drop (pos - a) (t.drop a)]
              rw [List.drop_drop, show a + (pos - a) = pos by omega, hdr, hc]
            simp only [Option.getD_some, Option.getD_none, List.map_append, List.append_assoc]
            congr 1
            rw [e, wds_app g2 (by intro h0; have := congrArg List.length h0; simp at this; omega)]
            simp [sb_extract]
          | none =>
            rw [spans_eq ha pr hp f (pos + 1) none _ (by omega) (by omega) (fun a h => by cases h)]
            simp only [Option.getD_none]
            rw [hdr, hc, wds_sp]
        · rw [if_neg (by simpa using hc)]
          cases st with
          | some a =>
            obtain ⟨g1, g2⟩ := h3 a rfl
            simp only [Option.getD_some]
            rw [spans_eq ha pr hp f (pos + 1) (some a) _ (by omega) (by omega) (fun a' h => by
              cases h
              refine ⟨by omega, ?_⟩
              rw [show pos + 1 - a = (pos - a) + 1 by omega, take_at 0 (by rw [List.length_drop]; omega)]
              simp only [List.mem_append, List.mem_singleton, not_or]
              refine ⟨g2, fun h => hc ?_⟩
              rw [h]; simp [List.getD, List.getElem?_drop, show a + (pos - a) = pos by omega])]
            rfl
          | none =>
            simp only [Option.getD_none]
            rw [spans_eq ha pr hp f (pos + 1) (some pos) _ (by omega) (by omega) (fun a' h => by
              cases h
              refine ⟨by omega, ?_⟩
              rw [show pos + 1 - pos = 0 + 1 by omega, hdr]
              simp only [List.take_succ_cons, List.take_zero, List.mem_singleton]
              exact fun h => hc h.symm)]
            rfl
    · have e : pos = t.length := by omega
      have hsz : ¬ pos < (sb t).size := by rw [sb_size]; omega
      rw [Lib.spansFromP_end _ _ _ _ _ _ hsz]
      cases st with
      | some a =>
        obtain ⟨g1, g2⟩ := h3 a rfl
        have e2 : (t.drop a).take (pos - a) = t.drop a := List.take_of_length_le (by rw [List.length_drop]; omega)
        rw [e2] at g2
        simp only [Lib.closeSpans, List.map_append, List.map_cons, List.map_nil, Option.getD_some]
        rw [wds_one g2 (by intro h0; have := congrArg List.length h0; simp at this; omega)]
        simp only [sb_size, sb_extract, List.map_cons, List.map_nil]
        rw [List.take_of_length_le (by rw [List.length_drop]; omega)]
      | none =>
        simp only [Lib.closeSpans, Option.getD_none]
        rw [List.drop_of_length_le (by omega), wds_nil]; simp
theorem fields_eq {t : List UInt8} (ha : ∀ c ∈ t, c.toNat < 128) (pr : Nat → Bool) (hp : ∀ x, pr x = decide (x = 32)) : Lib.goFieldsP pr (sb t) = (wds t).map sb := by
  rw [Lib.goFieldsP, Lib.spansOfP, sb_size, spans_eq ha pr hp t.length 0 none [] (by omega) (by omega) (fun a h => by cases h)]
  simp
end Go.Sh

/-
  Plain law of sets of words: put into place one by one, or sorted and each kept once.
-/
namespace Go.Sh
open Go Go.Proofs

abbrev Wd := List UInt8
def tput : List Wd → Wd → List Wd
  | [], s => [s]
  | x :: L, s => if x < s then x :: tput L s else if x = s then x :: L else s :: x :: L
def sset (L : List Wd) : List Wd := L.foldl tput []
abbrev Asc (L : List Wd) : Prop := L.Pairwise (· < ·)
theorem wlt_tri {x s : Wd} (h1 : ¬ x < s) (h2 : x ≠ s) : s < x := by
  rcases Classical.em (s < x) with h | h
  · exact h
  · exact absurd (List.le_antisymm (List.not_lt.1 h) (List.not_lt.1 h1)) h2
theorem wlt_ne {x y : Wd} (h : x < y) : x ≠ y := fun e => by subst e; exact List.lt_irrefl x h
theorem wlt_not {x y : Wd} (h : x < y) : ¬ y < x := fun e => List.lt_irrefl x (List.lt_trans h e)
theorem tput_mem {s y : Wd} : ∀ {L : List Wd}, y ∈ tput L s ↔ y ∈ L ∨ y = s
  | [] => by simp [tput]
  | x :: L => by
    unfold tput
    split
    · rw [List.mem_cons, tput_mem, List.mem_cons, or_assoc]
    · split
      · rename_i h; subst h
        constructor
        · exact .inl
        · rintro (h | rfl)
          · exact h
          · simp
      · simp only [List.mem_cons]
        constructor
        · rintro (h | h | h)
          · exact .inr h
          · exact .inl (.inl h)
          · exact .inl (.inr h)
        · rintro ((h | h) | h)
          · exact .inr (.inl h)
          · exact .inr (.inr h)
          · exact .inl h
theorem tput_asc {s : Wd} : ∀ {L : List Wd}, Asc L → Asc (tput L s)
  | [], _ => by simp [tput, Asc]
  | x :: L, h => by
    obtain ⟨h1, h2⟩ := List.pairwise_cons.1 h
    unfold tput
    split
    · rename_i hx
      refine List.pairwise_cons.2 ⟨fun y hy => ?_, tput_asc h2⟩
      rcases tput_mem.1 hy with hy | rfl
      · exact h1 y hy
      · exact hx
    · split
      · exact h
      · rename_i hx hn
        have hs := wlt_tri hx hn
        refine List.pairwise_cons.2 ⟨fun y hy => ?_, h⟩
        rcases List.mem_cons.1 hy with rfl | hy
        · exact hs
        · exact List.lt_trans hs (h1 y hy)
theorem tput_len {s : Wd} : ∀ {L : List Wd}, Asc L → (tput L s).length = L.length + (if s ∈ L then 0 else 1)
  | [], _ => by simp [tput]
  | x :: L, h => by
    obtain ⟨h1, h2⟩ := List.pairwise_cons.1 h
    unfold tput
    split
    · rename_i hx
      have e : (s ∈ x :: L) ↔ s ∈ L := by
        rw [List.mem_cons]
        exact ⟨fun h => h.resolve_left fun e => wlt_ne hx e.symm, .inr⟩
      simp only [List.length_cons, tput_len h2, e]
      omega
    · split
      · rename_i hx; subst hx; simp
      · rename_i hx hn
        have hs := wlt_tri hx hn
        rw [if_neg]
        · simp
        · intro hm
          rcases List.mem_cons.1 hm with rfl | hm
          · exact hn rfl
          · exact wlt_not (h1 s hm) hs
theorem foldput_mem {y : Wd} : ∀ {B A : List Wd}, y ∈ B.foldl tput A ↔ y ∈ A ∨ y ∈ B
  | [], A => by simp
  | b :: B, A => by rw [List.foldl_cons, foldput_mem, tput_mem, List.mem_cons, or_assoc]
theorem foldput_asc : ∀ {B A : List Wd}, Asc A → Asc (B.foldl tput A)
  | [], _, h => h
  | b :: B, A, h => by rw [List.foldl_cons]; exact foldput_asc (tput_asc h)
theorem foldput_len : ∀ {B A : List Wd}, Asc A → Asc B → (B.foldl tput A).length = A.length + (B.filter fun x => !A.contains x).length
  | [], _, _, _ => by simp
  | b :: B, A, hA, hB => by
    obtain ⟨h1, h2⟩ := List.pairwise_cons.1 hB
    rw [List.foldl_cons, foldput_len (tput_asc hA) h2, tput_len hA]
    have e : (B.filter fun x => !(tput A b).contains x) = B.filter fun x => !A.contains x := by
      refine List.filter_congr fun x hx => ?_
      have hne : x ≠ b := fun e => by subst e; exact wlt_ne (h1 x hx) rfl
      congr 1
      rw [Bool.eq_iff_iff, List.contains_iff_mem, List.contains_iff_mem, tput_mem]
      exact ⟨fun h => h.resolve_right hne, .inl⟩
    rw [e, List.filter_cons]
    by_cases hb : b ∈ A
    · rw [if_pos hb, if_neg (by simp [hb]), Nat.add_zero]
    · rw [if_neg hb, if_pos (by simp [hb])]; simp only [List.length_cons]; omega
theorem sset_mem {L : List Wd} {y : Wd} : y ∈ sset L ↔ y ∈ L := by rw [sset, foldput_mem]; simp
theorem sset_asc (L : List Wd) : Asc (sset L) := foldput_asc List.Pairwise.nil
theorem asc_eq : ∀ {A B : List Wd}, Asc A → Asc B → (∀ y, y ∈ A ↔ y ∈ B) → A = B
  | [], [], _, _, _ => rfl
  | [], b :: B, _, _, h => absurd ((h b).2 (by simp)) (by simp)
  | a :: A, [], _, _, h => absurd ((h a).1 (by simp)) (by simp)
  | a :: A, b :: B, hA, hB, h => by
    obtain ⟨a1, a2⟩ := List.pairwise_cons.1 hA
    obtain ⟨b1, b2⟩ := List.pairwise_cons.1 hB
    have e : a = b := by
      rcases List.mem_cons.1 ((h a).1 (by simp)) with e | ha
      · exact e
      · rcases List.mem_cons.1 ((h b).2 (by simp)) with e | hb
        · exact e.symm
        · exact absurd (a1 b hb) (wlt_not (b1 a ha))
    subst e
    rw [asc_eq a2 b2 fun y => ?_]
    constructor
    · intro hy
      exact (List.mem_cons.1 ((h y).1 (List.mem_cons_of_mem _ hy))).resolve_left fun e => by subst e; exact wlt_ne (a1 y hy) rfl
    · intro hy
      exact (List.mem_cons.1 ((h y).2 (List.mem_cons_of_mem _ hy))).resolve_left fun e => by subst e; exact wlt_ne (b1 y hy) rfl
theorem sset_self {L : List Wd} (h : Asc L) : sset L = L := asc_eq (sset_asc L) h fun _ => sset_mem
def com (A B : List Wd) : Nat := (A.filter fun x => B.contains x).length
theorem com_symm {A B : List Wd} (hA : Asc A) (hB : Asc B) : com A B = com B A := by
  have : (A.filter fun x => B.contains x) = B.filter fun x => A.contains x := asc_eq (hA.filter _) (hB.filter _) fun y => by
    simp only [List.mem_filter, List.contains_iff_mem]; exact and_comm
  rw [com, this]; rfl
theorem com_le (A B : List Wd) : com A B ≤ A.length := List.length_filter_le _ _
theorem common_len {A B : List Wd} (hA : Asc A) : (sset (A.filter fun x => B.contains x)).length = com A B := by rw [sset_self (hA.filter _)]; rfl
theorem unite_len {A B : List Wd} (hA : Asc A) (hB : Asc B) : (B.foldl tput (A.foldl tput [])).length + com A B = A.length + B.length := by
  have e : A.foldl tput [] = A := sset_self hA
  rw [e, foldput_len hA hB, com_symm hA hB, com]
  have : ∀ (l : List Wd), (l.filter fun x => !A.contains x).length + (l.filter fun x => A.contains x).length = l.length := fun l => by
    induction l with
    | nil => rfl
    | cons x l ih =>
      simp only [List.filter_cons, List.length_cons]
      cases A.contains x
      · simp only [Bool.not_false, ↓reduceIte, List.length_cons, Bool.false_eq_true]; omega
      · simp only [Bool.not_true, ↓reduceIte, List.length_cons, Bool.false_eq_true]; omega
  have := this B
  omega
theorem com_lt {a b : Wd} {A B : List Wd} (hB : Asc (b :: B)) (h : a < b) : com (a :: A) (b :: B) = com A (b :: B) := by
  rw [com, List.filter_cons, if_neg]
  · rfl
  · simp only [List.contains_iff_mem]
    intro hm
    rcases List.mem_cons.1 hm with rfl | hm
    · exact wlt_ne h rfl
    · exact wlt_not h ((List.pairwise_cons.1 hB).1 a hm)
theorem com_gt {a b : Wd} {A B : List Wd} (hA : Asc (a :: A)) (h : b < a) : com (a :: A) (b :: B) = com (a :: A) B := by
  rw [com, com]
  congr 1
  refine List.filter_congr fun x hx => ?_
  have hne : x ≠ b := by
    rcases List.mem_cons.1 hx with rfl | hx
    · exact fun e => wlt_ne h e.symm
    · exact fun e => by subst e; exact wlt_not h ((List.pairwise_cons.1 hA).1 x hx)
  rw [Bool.eq_iff_iff, List.contains_iff_mem, List.contains_iff_mem, List.mem_cons]
  exact ⟨fun h => h.resolve_left hne, .inr⟩
theorem com_eq {a : Wd} {A B : List Wd} (hA : Asc (a :: A)) : com (a :: A) (a :: B) = com A B + 1 := by
  rw [com, List.filter_cons, if_pos (by simp), List.length_cons, com]
  congr 2
  refine List.filter_congr fun x hx => ?_
  have hne : x ≠ a := fun e => by subst e; exact wlt_ne ((List.pairwise_cons.1 hA).1 x hx) rfl
  rw [Bool.eq_iff_iff, List.contains_iff_mem, List.contains_iff_mem, List.mem_cons]
  exact ⟨fun h => h.resolve_left hne, .inr⟩
def msort (L : List Wd) : List Wd := L.mergeSort fun x y => decide (x ≤ y)
theorem msort_pw (L : List Wd) : (msort L).Pairwise (· ≤ ·) := by
  have := List.pairwise_mergeSort (le := fun x y : Wd => decide (x ≤ y)) (fun a b c h1 h2 => by simp only [decide_eq_true_eq] at *; exact List.le_trans h1 h2) (fun a b => by
    rcases List.le_total a b with h | h
    · simp [h]
    · simp [h]) L
  exact this.imp (by simp)
theorem msort_mem {L : List Wd} {y : Wd} : y ∈ msort L ↔ y ∈ L := List.mem_mergeSort
theorem msort_length (L : List Wd) : (msort L).length = L.length := List.length_mergeSort _
theorem msort_self {L : List Wd} (h : Asc L) : msort L = L := by
  refine List.mergeSort_of_pairwise (h.imp fun h => ?_)
  simp only [decide_eq_true_eq]; exact List.not_lt.1 (wlt_not h)
theorem compact_sset (L : List Wd) : Lib.compactUpTo (msort L).toArray L.length = sset L := by
  have hS := msort_pw L
  have hl := msort_length L
  generalize hs : msort L = S at *
  have hg : ∀ i, i < S.length → S.toArray[i]! = S.getD i [] := fun i hi => by simp [hi]
  have hle : ∀ i j, i ≤ j → j < S.length → S.getD i [] ≤ S.getD j [] := fun i j hij hj => by
    rcases Nat.lt_or_ge i j with h | h
    · have := List.pairwise_iff_getElem.1 hS i j (by omega) hj h
      simpa [List.getD, hj, (by omega : i < S.length)] using this
    · rw [show i = j by omega]; exact List.le_refl _
  refine asc_eq ?_ (sset_asc L) fun y => ?_
  · unfold Lib.compactUpTo
    rw [Asc, List.pairwise_map]
    refine List.Pairwise.imp_of_mem ?_ (List.Pairwise.filter _ List.pairwise_lt_range)
    intro i j hi hj hij
    simp only [List.mem_filter, List.mem_range] at hi hj
    have hjl : j < S.length := by omega
    rw [hg i (by omega), hg j hjl]
    have hk := hj.2
    simp only [Lib.keeps, decide_eq_true_eq] at hk
    have hne : S.getD (j - 1) [] ≠ S.getD j [] := by
      rcases hk with hk | hk
      · omega
      · rw [hg j hjl, hg (j - 1) (by omega)] at hk; exact fun e => hk e.symm
    have h1 := hle i (j - 1) (by omega) (by omega)
    have h2 := hle (j - 1) j (by omega) hjl
    have h3 : S.getD (j - 1) [] < S.getD j [] := by
      rcases Classical.em (S.getD (j - 1) [] < S.getD j []) with h | h
      · exact h
      · exact absurd (List.le_antisymm h2 (List.not_lt.1 h)) hne
    exact List.lt_of_le_of_lt h1 h3
  · rw [sset_mem, ← msort_mem (L := L), hs]
    unfold Lib.compactUpTo
    simp only [List.mem_map, List.mem_filter, List.mem_range]
    constructor
    · rintro ⟨i, ⟨hi, _⟩, rfl⟩
      rw [hg i (by omega)]
      simp [List.getD, (by omega : i < S.length)]
    · intro hy
      have key : ∀ n i, i ≤ n → i < S.length → ∃ k, (k < L.length ∧ Lib.keeps S.toArray k = true) ∧ S.toArray[k]! = S.getD i [] := by
        intro n
        induction n with
        | zero =>
          intro i hi hil
          obtain rfl : i = 0 := by omega
          exact ⟨0, ⟨by omega, by simp [Lib.keeps]⟩, hg 0 hil⟩
        | succ n ih =>
          intro i hi hil
          cases hk : Lib.keeps S.toArray i with
          | true => exact ⟨i, ⟨by omega, hk⟩, hg i hil⟩
          | false =>
            simp only [Lib.keeps, decide_eq_false_iff_not, not_or, Decidable.not_not] at hk
            obtain ⟨k, h1, h2⟩ := ih (i - 1) (by omega) (by omega)
            refine ⟨k, h1, h2.trans ?_⟩
            have := hk.2
            rw [hg i hil, hg (i - 1) (by omega)] at this
            exact this.symm
      obtain ⟨i, hi, rfl⟩ := List.getElem_of_mem hy
      obtain ⟨k, h1, h2⟩ := key i i (Nat.le_refl _) hi
      exact ⟨k, h1, by rw [h2]; simp [List.getD, hi]⟩
end Go.Sh

/-
  Contracts: constraints, copied and compared.
-/
namespace Go.Sh
open Go Go.Proofs

def dc : Con := (0, 0, false)
def cg (C : List Con) (k : Nat) : Con := C.getD k dc
theorem cons_length (C : List Con) : (cons C).length = C.length * 3 := by
  induction C with
  | nil => rfl
  | cons c C ih =>
    have e : cons (c :: C) = con3 c ++ cons C := rfl
    rw [e, List.length_append, ih]
    simp [con3]; omega
theorem cons_drop : ∀ (C : List Con) (k : Nat), (cons C).drop (k * 3) = cons (C.drop k)
  | C, 0 => by simp
  | [], k + 1 => by simp [cons]
  | c :: C, k + 1 => by
    have e : cons (c :: C) = con3 c ++ cons C := rfl
    have e2 : (k + 1) * 3 = k * 3 + 1 + 1 + 1 := by omega
    rw [e, e2]
    show (cons C).drop (k * 3) = cons (C.drop k)
    exact cons_drop C k
theorem cons_load {C : List Con} {k : Nat} (h : k < C.length) : ((cons C).drop (k * 3)).take 3 = [.val (.int .i64 (cg C k).1), .val (.int .i64 (cg C k).2.1), .val (.bool (cg C k).2.2)] := by
  rw [cons_drop, List.drop_eq_getElem_cons h]
  have e : cg C k = C[k] := by simp [cg, h]
  rw [e]
  rfl
theorem cons_at {C : List Con} {k i : Nat} (h : k < C.length) (hi : i < 3) : (cons C)[k * 3 + i]? = (con3 (cg C k))[i]? := by
  have := cons_load h
  have h2 : (((cons C).drop (k * 3)).take 3)[i]? = (con3 (cg C k))[i]? := by rw [this]; rfl
  rw [List.getElem?_take, if_pos hi, List.getElem?_drop] at h2
  exact h2
theorem cons_at0 {C : List Con} {k : Nat} (h : k < C.length) : (cons C)[k * 3]? = some (.val (.int .i64 (cg C k).1)) := cons_at (i := 0) h (by omega)
theorem cons_at1 {C : List Con} {k : Nat} (h : k < C.length) : (cons C)[k * 3 + 1]? = some (.val (.int .i64 (cg C k).2.1)) := cons_at h (by omega)
theorem cons_at2 {C : List Con} {k : Nat} (h : k < C.length) : (cons C)[k * 3 + 2]? = some (.val (.bool (cg C k).2.2)) := cons_at h (by omega)
theorem con_ex (C : List Con) (k : Nat) : ∃ a b s, cg C k = (a, b, s) := ⟨_, _, _, rfl⟩
theorem cons_of {C : List Con} {k : Nat} {a b : Int} {s : Bool} (h : k < C.length) (e : cg C k = (a, b, s)) : (cons C)[k * 3]? = some (.val (.int .i64 a)) ∧ (cons C)[k * 3 + 1]? = some (.val (.int .i64 b)) ∧ (cons C)[k * 3 + 2]? = some (.val (.bool s)) ∧
    ((cons C).drop (k * 3)).take 3 = [.val (.int .i64 a), .val (.int .i64 b), .val (.bool s)] := by
  have h0 := cons_at0 h
  have h1 := cons_at1 h
  have h2 := cons_at2 h
  have h3 := cons_load h
  rw [e] at h0 h1 h2 h3
  exact ⟨h0, h1, h2, h3⟩
theorem cons_vals (C : List Con) : (cons C).all isVal = true := by
  induction C with
  | nil => rfl
  | cons c C ih =>
    have e : cons (c :: C) = con3 c ++ cons C := rfl
    rw [e, List.all_append, ih]; rfl
theorem view_con {H : Heap} {f : Nat} {k1 k2 : IntKind} {a b : Int} {s : Bool} : view H (f + 1) (.agg [.val (.int k1 a), .val (.int k2 b), .val (.bool s)]) = some (.agg [.val (.int k1 a), .val (.int k2 b), .val (.bool s)]) :=
  view_agg (z6 z8 (z6 z8 (z6 zg z7)))

end Go.Sh

/-
  Heaps changed: plain.
-/
namespace Go.Sh
open Go

theorem ze (H : Heap) (b x : Nat) (k : Option Blk) : (H.set b k).map x = if x = b then k else H.map x := rfl
theorem zc (H : Heap) (b : Nat) (k : Option Blk) : (H.set b k).nb = H.nb := rfl
theorem zb (H : Heap) (x : Nat) (k : Blk) : (H.push k).map x = if x = H.nb then some k else H.map x := rfl
theorem za (H : Heap) (k : Blk) : (H.push k).nb = H.nb + 1 := rfl
end Go.Sh

/-
  Contracts: tests, rules, sets of rules and scorings, measured, copied and compared.
-/
namespace Go.Sh
open Go Go.Proofs

def rules (R : List (List Con)) : List SV := R.map rc
def rR (R : List (List Con)) : SV := .row R.length false (rules R)
def rg (R : List (List Con)) (k : Nat) : List Con := R.getD k []
theorem rules_length (R : List (List Con)) : (rules R).length = R.length := by simp [rules]
theorem rules_get {R : List (List Con)} {k : Nat} (h : k < R.length) : (rules R)[k]? = some (.row (rg R k).length false (cons (rg R k))) := by simp [rules, rg, h, rc]
theorem rules_load {R : List (List Con)} {k : Nat} (h : k < R.length) : ((rules R).drop k).take 1 = [.row (rg R k).length false (cons (rg R k))] := by
  rw [List.drop_eq_getElem_cons (by rw [rules_length]; exact h)]
  simp [rules, rg, h, rc]
theorem zi {H : Heap} {f n : Nat} {ex : Bool} {cs : List SV} : view H (f + 1) (.agg [.row n ex cs]) = some (.agg [.row n false cs]) := view_agg (z6 zf z7)

theorem viewL_append {H : Heap} {f : Nat} : ∀ {a b a' b' : List SV}, viewL H f a = some a' → viewL H f b = some b' → viewL H f (a ++ b) = some (a' ++ b')
  | [], b, a', b', h, g => by
    have : a' = [] := by cases f <;> simpa [viewL] using h.symm
    subst this; exact g
  | s :: a, b, a', b', h, g => by
    have key : ∃ t ts, view H f s = some t ∧ viewL H f a = some ts ∧ a' = t :: ts := by
      cases f
      all_goals
        simp only [viewL] at h
        split at h
        · rename_i t ts ht hts
          exact ⟨t, ts, ht, hts, by simpa using h.symm⟩
        · simp at h
    obtain ⟨t, ts, ht, hts, rfl⟩ := key
    exact z6 ht (viewL_append hts g)
theorem noRowL_append {a b : List SV} (h : noRowL a = true) (g : noRowL b = true) : noRowL (a ++ b) = true := by
  induction a with
  | nil => exact g
  | cons s a ih =>
    simp only [noRowL, Bool.and_eq_true] at h
    simp only [List.cons_append, noRowL, h.1, ih h.2, Bool.and_self]
structure RuB (R : List (List Con)) (k : Nat) (rs : List SV) (H : Heap) : Prop where
  ln : rs.length = k
  o : H.map 0 = some ⟨rs ++ List.replicate (R.length - k) (.val (.slice none 0 0)), true⟩
  nr : noRowL rs = true
  vw : ∀ H' : Heap, (∀ b, 1 ≤ b → b < H.nb → H'.map b = H.map b) → viewL H' 2 rs = some ((R.take k).map rc)
  hn : ∀ b blk, 1 ≤ b → b < H.nb → H.map b = some blk → noRowL blk.cells = true
  nb : 1 ≤ H.nb
abbrev sS (W : List Int) (b : Int) : SV := .agg [ri W, .val (.int .i64 b)]
theorem view_sS {H : Heap} {f n : Nat} {ex : Bool} {cs : List SV} {k : IntKind} {b : Int} : view H (f + 1) (.agg [.row n ex cs, .val (.int k b)]) = some (.agg [.row n false cs, .val (.int k b)]) := view_agg (z6 zf (z6 z8 z7))
end Go.Sh

/-
  Contracts: are these constraints? Of the reference and of the program.
-/
namespace Go.Sh
open Go Go.Proofs

theorem cap_rptr (cs : List SV) (off : Nat) : ∀ H fu, viewL H fu [.rptr cs off] = some [.rptr cs off] := fun _ _ => z6 view_rptr z7

end Go.Sh

/-
  Contracts: vectors of features, scorings, the score of a pair.
-/
namespace Go.Sh
open Go Go.Proofs

def fx {α : Type} (pr : α → Bool) (L : List α) : Int := match L.findIdx? pr with | some i => (i : Int) | none => -1
theorem fx_none {α : Type} {pr : α → Bool} {L : List α} (d : α) (h : ∀ i, i < L.length → pr (L.getD i d) = false) : fx pr L = -1 := by
  have : L.findIdx? pr = none := by
    rw [List.findIdx?_eq_none_iff]
    intro x hx
    obtain ⟨i, hi, e⟩ := List.getElem_of_mem hx
    have := h i hi
    simpa [hi, e] using this
  rw [fx, this]
theorem fx_some {α : Type} {pr : α → Bool} {L : List α} (d : α) {k : Nat} (hk : k < L.length) (h : ∀ i, i < k → pr (L.getD i d) = false) (e : pr (L.getD k d) = true) : fx pr L = k := by
  have : L.findIdx? pr = some k := by
    rw [List.findIdx?_eq_some_iff_getElem]
    refine ⟨hk, by simpa [hk] using e, fun j hj => ?_⟩
    have hj' : j < L.length := by omega
    have := h j hj
    simp [hj'] at this
    simp [this]
  rw [fx, this]
theorem fx_ge {α : Type} (pr : α → Bool) (L : List α) : (0 ≤ fx pr L) ↔ L.any pr = true := by
  rw [fx]
  cases h : L.findIdx? pr with
  | none =>
    rw [List.findIdx?_eq_none_iff] at h
    constructor
    · intro e; simp at e
    · intro e
      obtain ⟨x, hx, h1⟩ := List.any_eq_true.1 e
      rw [h x hx] at h1; cases h1
  | some i =>
    rw [List.findIdx?_eq_some_iff_getElem] at h
    obtain ⟨hi, h1, _⟩ := h
    simp only [Int.natCast_nonneg, true_iff, List.any_eq_true]
    exact ⟨L[i], List.getElem_mem hi, h1⟩
theorem any_not {α : Type} {L : List α} {p : α → Bool} : (!L.any fun c => !p c) = L.all p := by
  induction L with
  | nil => rfl
  | cons c C ih => simp only [List.any_cons, List.all_cons, ← ih]; cases p c <;> simp
theorem all_getD {α : Type} {L : List α} {p : α → Bool} (d : α) : L.all p = true ↔ ∀ i, i < L.length → p (L.getD i d) = true := by
  rw [List.all_eq_true]
  constructor
  · intro h i hi
    have := h L[i] (List.getElem_mem hi)
    simpa [hi] using this
  · intro h x hx
    obtain ⟨i, hi, e⟩ := List.getElem_of_mem hx
    have := h i hi
    simpa [hi, e] using this
theorem all_not {α : Type} {L : List α} {p : α → Bool} (d : α) {i : Nat} (hi : i < L.length) (h : p (L.getD i d) = false) : L.all p = false := by
  cases hc : L.all p with
  | false => rfl
  | true => rw [(all_getD d).1 hc i hi] at h; cases h

set_option maxHeartbeats 1000000 in
theorem Tryz.indexFuncI_ok (f : FuncId) (cap : List SV) (L : List Int) (pr : Int → Bool) (hL : L.length ≤ 1048576) (hcap : ∀ H fu, viewL H fu cap = some cap)
    (hf : ∀ x, PCall Tryz.prog f (.val (.int .i64 x) :: cap) (.val (.bool (pr x)))) :
    PCall Tryz.prog 178 [ri L, .clos (.func f) [] cap] (.val (.int .i64 (fx pr L))) := by
  refine FCall.pcall (R := fun r _ => r = .val (.int .i64 (fx pr L))) ?_ 0 (by rintro r H rfl; exact z8)
  refine FCall.of_body Tryz.func178 rfl (by kernel_rfl) (by simp [Tryz.ntmps178]) ?_
  refine SW_of_vc Tryz.mixed _ _ _ (by kernel_rfl) ?_
  have lC := zh L
  simp (disch := omega) only [go_sem]
  refine LoopW.loop (fun k : Nat => ⟨ofL [(0, ri L), (1, .clos (.func f) [] cap), (7, .val (.int .i64 L.length)), (8, .val (.int .i64 k))], hp [] 0⟩) (fun k => k ≤ L.length ∧ ∀ i, i < k → pr (L.getD i 0) = false) (fun k => L.length - k) 0 ⟨by omega, by simp⟩ (Wk.of (by simp only [go_sem, ↓List.forall_mem_cons, List.not_mem_nil, false_implies, implies_true, and_true, true_and, and_self, ri_eq, Int.natCast_add, Int.cast_ofNat_Int]; try simp) rfl) ?_
  rintro k ⟨hk, hkk⟩
  refine SW_of_vc Tryz.mixed _ _ _ (by kernel_rfl) ?_
  by_cases hlt : k < L.length
  · have gk : (ints L)[k]? = some (.val (.int .i64 (L.getD k 0))) := ints_get hlt
    simp (disch := omega) only [go_sem, gk, lC]
    refine (hf _).callV 1 (z6 z8 (hcap _ _)) ?_
    cases he : pr (L.getD k 0) with
    | true =>
      simp (disch := omega) only [go_sem]
      exact Fin.val (by rw [fx_some 0 hlt hkk he])
    | false =>
      simp (disch := omega) only [go_sem]
      refine ⟨k + 1, ⟨by omega, fun i hi => ?_⟩, by omega, Wk.of (by simp only [go_sem, ↓List.forall_mem_cons, List.not_mem_nil, false_implies, implies_true, and_true, true_and, and_self, ri_eq, Int.natCast_add, Int.cast_ofNat_Int]; try simp) rfl⟩
      rcases Nat.lt_succ_iff_lt_or_eq.mp hi with h | rfl
      · exact hkk i h
      · exact he
  · simp (disch := omega) only [go_sem]
    exact Fin.val (by rw [fx_none 0 (fun i hi => hkk i (by omega))])
theorem Tryz.containsFuncI_ok (f : FuncId) (cap : List SV) (L : List Int) (pr : Int → Bool) (hL : L.length ≤ 1048576) (hcap : ∀ H fu, viewL H fu cap = some cap)
    (hf : ∀ x, PCall Tryz.prog f (.val (.int .i64 x) :: cap) (.val (.bool (pr x)))) :
    PCall Tryz.prog 135 [ri L, .clos (.func f) [] cap] (.val (.bool (L.any pr))) := by
  refine FCall.pcall (R := fun r _ => r = .val (.bool (L.any pr))) ?_ 0 (by rintro r H rfl; exact zg)
  refine FCall.of_body Tryz.func135 rfl (by kernel_rfl) (by simp [Tryz.ntmps135]) ?_
  have w := Tryz.indexFuncI_ok f cap L pr hL hcap hf
  have hg := fx_ge pr L
  generalize fx pr L = q at *
  refine SW_of_vc Tryz.mixed _ _ _ (by kernel_rfl) ?_
  cases h : L.any pr with
  | true =>
    have := hg.mpr h
    simp (disch := omega) only [go_sem]
    refine w.callV 1 (z6 zf (z6 (view_clos (hcap _ _)) z7)) ?_
    simp (disch := omega) only [go_sem]
    exact Fin.val rfl
  | false =>
    have : ¬ 0 ≤ q := fun e => by rw [hg.mp e] at h; cases h
    simp (disch := omega) only [go_sem]
    refine w.callV 1 (z6 zf (z6 (view_clos (hcap _ _)) z7)) ?_
    simp (disch := omega) only [go_sem]
    exact Fin.val rfl

def isFV (f : List Int) : Bool := decide (f.length = 6) && f.all fun x => inR x 0 1000
theorem isFV_t {f : List Int} (h : isFV f = true) : f.length = 6 ∧ ∀ i, i < 6 → 0 ≤ f.getD i 0 ∧ f.getD i 0 ≤ 1000 := by
  rw [isFV, Bool.and_eq_true] at h
  have hl := of_decide_eq_true h.1
  exact ⟨hl, fun i hi => inR_of ((all_getD 0).1 h.2 i (by omega))⟩
theorem Tryz.implFV1_ok (x : Int) : PCall Tryz.prog 136 [.val (.int .i64 x)] (.val (.bool (!inR x 0 1000))) := by
  refine FCall.pcall (R := fun r _ => r = .val (.bool (!inR x 0 1000))) ?_ 0 (by rintro r H rfl; exact zg)
  refine FCall.of_body Tryz.func136 rfl (by kernel_rfl) (by simp [Tryz.ntmps136]) ?_
  have w := Tryz.within_ok x 0 1000
  refine SW_of_vc Tryz.mixed _ _ _ (by kernel_rfl) ?_
  simp (disch := omega) only [go_sem]
  refine w.callV 0 (z6 (z8) (z6 (z8) (z6 (z8) z7))) ?_
  simp (disch := omega) only [go_sem]
  exact Fin.val rfl
theorem Tryz.implFV_ok (f : List Int) (hf : f.length ≤ 1048576) : PCall Tryz.prog 91 [ri f] (.val (.bool (isFV f))) := by
  refine FCall.pcall (R := fun r _ => r = .val (.bool (isFV f))) ?_ 0 (by rintro r H rfl; exact zg)
  refine FCall.of_body Tryz.func91 rfl (by kernel_rfl) (by simp [Tryz.ntmps91]) ?_
  have w := Tryz.containsFuncI_ok 136 [] f (fun x => !inR x 0 1000) hf (fun _ _ => z7) (fun x => Tryz.implFV1_ok x)
  have e := any_not (L := f) (p := fun x => inR x 0 1000)
  refine SW_of_vc Tryz.mixed _ _ _ (by kernel_rfl) ?_
  by_cases h6 : f.length = 6
  · simp (disch := omega) only [go_sem, h6]
    refine w.callV 1 (z6 (view_rowL h6.symm) (z6 (view_clos z7) z7)) ?_
    simp (disch := omega) only [go_sem]
    exact Fin.val (by rw [e, isFV, decide_eq_true h6, Bool.true_and])
  · simp (disch := omega) only [go_sem]
    exact Fin.val (by rw [isFV, decide_eq_false h6, Bool.false_and])
set_option maxHeartbeats 1000000 in
theorem Tryz.specFV_ok (f : List Int) (hf : f.length ≤ 1048576) : PCall Tryz.prog 82 [ri f] (.val (.bool (isFV f))) := by
  refine FCall.pcall (R := fun r _ => r = .val (.bool (isFV f))) ?_ 0 (by rintro r H rfl; exact zg)
  refine FCall.of_body Tryz.func82 rfl (by kernel_rfl) (by simp [Tryz.ntmps82]) ?_
  have lC := zh f
  refine SW_of_vc Tryz.mixed _ _ _ (by kernel_rfl) ?_
  simp (disch := omega) only [go_sem]
  refine LoopW.loop (fun k : Nat => ⟨ofL [(0, ri f), (3, .val (.int .i64 k))], hp [] 0⟩) (fun k => k ≤ f.length ∧ ∀ i, i < k → inR (f.getD i 0) 0 1000 = true) (fun k => f.length - k) 0 ⟨by omega, by simp⟩ (Wk.of (by simp only [go_sem, ↓List.forall_mem_cons, List.not_mem_nil, false_implies, implies_true, and_true, true_and, and_self, ri_eq, Int.natCast_add, Int.cast_ofNat_Int]; try simp) rfl) ?_
  rintro k ⟨hk, hkk⟩
  refine SW_of_vc Tryz.mixed _ _ _ (by kernel_rfl) ?_
  by_cases hlt : k < f.length
  · have gk : (ints f)[k]? = some (.val (.int .i64 (f.getD k 0))) := ints_get hlt
    have w := Tryz.l1In_ok (f.getD k 0) 0 1000
    cases he : inR (f.getD k 0) 0 1000 with
    | true =>
      rw [he] at w
      simp (disch := omega) only [go_sem, gk, lC]
      refine w.callV 0 (z6 (z8) (z6 (z8) (z6 (z8) z7))) ?_
      simp (disch := omega) only [go_sem, gk, lC]
      refine ⟨k + 1, ⟨by omega, fun i hi => ?_⟩, by omega, Wk.of (by simp only [go_sem, ↓List.forall_mem_cons, List.not_mem_nil, false_implies, implies_true, and_true, true_and, and_self, ri_eq, Int.natCast_add, Int.cast_ofNat_Int]; try simp) rfl⟩
      rcases Nat.lt_succ_iff_lt_or_eq.mp hi with h | rfl
      · exact hkk i h
      · exact he
    | false =>
      rw [he] at w
      simp (disch := omega) only [go_sem, gk, lC]
      refine w.callV 0 (z6 (z8) (z6 (z8) (z6 (z8) z7))) ?_
      simp (disch := omega) only [go_sem, gk, lC]
      exact Fin.val (by rw [isFV, all_not 0 hlt he, Bool.and_false])
  · have hall : (f.all fun x => inR x 0 1000) = true := (all_getD 0).2 fun i hi => hkk i (by omega)
    by_cases h6 : f.length = 6
    · simp (disch := omega) only [go_sem, h6]
      exact Fin.val (by rw [isFV, decide_eq_true h6, hall]; rfl)
    · simp (disch := omega) only [go_sem]
      exact Fin.val (by rw [isFV, decide_eq_false h6, Bool.false_and])

def wsum (W : List Int) (k : Nat) : Int := (W.take k).sum
theorem wsum_succ {W : List Int} {k : Nat} (h : k < W.length) : wsum W (k + 1) = wsum W k + W.getD k 0 := by
  rw [wsum, List.take_succ_eq_append_getElem h, List.sum_append, wsum]; simp [h]
def isSc (W : List Int) (b : Int) : Bool := (W.all fun x => inR x 0 9) && (decide (W.length = 6) && (decide (0 < wsum W W.length) && inR b 0 1000))
theorem wsum_b {W : List Int} (h : ∀ i, i < W.length → 0 ≤ W.getD i 0 ∧ W.getD i 0 ≤ 9) : ∀ k, k ≤ W.length → 0 ≤ wsum W k ∧ wsum W k ≤ 9 * k
  | 0, _ => by simp [wsum]
  | k + 1, hk => by
    have ih := wsum_b h k (by omega)
    have := h k (by omega)
    rw [wsum_succ (by omega)]
    omega

set_option maxHeartbeats 2000000 in
theorem Tryz.specSc_ok (W : List Int) (b : Int) (hW : W.length ≤ 1048576) : PCall Tryz.prog 41 [sS W b] (.val (.bool (isSc W b))) := by
  refine FCall.pcall (R := fun r _ => r = .val (.bool (isSc W b))) ?_ 0 (by rintro r H rfl; exact zg)
  refine FCall.of_body Tryz.func41 rfl (by kernel_rfl) (by simp [Tryz.ntmps41]) ?_
  have lC := zh W
  have ws0 : wsum W 0 = 0 := by simp [wsum]
  refine SW_of_vc Tryz.mixed _ _ _ (by kernel_rfl) ?_
  simp (disch := omega) only [go_sem]
  refine LoopW.loop (fun k : Nat => ⟨ofL [(1, .optr 0 0), (3, .val (.int .i64 (wsum W k))), (4, .val (.int .i64 k))], hp [(0, ⟨[ri W, .val (.int .i64 b)], true⟩)] 1⟩) (fun k => k ≤ W.length ∧ ∀ i, i < k → inR (W.getD i 0) 0 9 = true) (fun k => W.length - k) 0 ⟨by omega, by simp⟩ (Wk.of (by simp only [go_sem, ↓List.forall_mem_cons, List.not_mem_nil, false_implies, implies_true, and_true, true_and, and_self, ri_eq, Int.natCast_add, Int.cast_ofNat_Int, ws0]; try simp) (by first | rfl | (simp only [ri]; done))) ?_
  rintro k ⟨hk, hkk⟩
  have hws : 0 ≤ wsum W k ∧ wsum W k ≤ 9 * k := by
    have h1 : ∀ k, (∀ i, i < k → inR (W.getD i 0) 0 9 = true) → k ≤ W.length → 0 ≤ wsum W k ∧ wsum W k ≤ 9 * k := by
      intro k
      induction k with
      | zero => intro _ _; simp [wsum]
      | succ k ih =>
        intro h1 h2
        have := ih (fun i hi => h1 i (by omega)) (by omega)
        have h3 := inR_of (h1 k (by omega))
        rw [wsum_succ (by omega)]; omega
    exact h1 k hkk hk
  refine SW_of_vc Tryz.mixed _ _ _ (by kernel_rfl) ?_
  by_cases hlt : k < W.length
  · have gk : (ints W)[k]? = some (.val (.int .i64 (W.getD k 0))) := ints_get hlt
    have w := Tryz.l1In_ok (W.getD k 0) 0 9
    have hsu := wsum_succ hlt
    cases he : inR (W.getD k 0) 0 9 with
    | true =>
      have hr := inR_of he
      have hnx : ∀ i, i < k + 1 → inR (W.getD i 0) 0 9 = true := fun i hi => by
        rcases Nat.lt_succ_iff_lt_or_eq.mp hi with h | rfl
        · exact hkk i h
        · exact he
      rw [he] at w
      generalize W.getD k 0 = x at *
      simp (disch := omega) only [go_sem, gk, lC]
      refine w.callV 0 (z6 (z8) (z6 (z8) (z6 (z8) z7))) ?_
      simp (disch := omega) only [go_sem, gk, lC]
      exact ⟨k + 1, ⟨by omega, hnx⟩, by omega, Wk.of (by simp only [go_sem, ↓List.forall_mem_cons, List.not_mem_nil, false_implies, implies_true, and_true, true_and, and_self, ri_eq, Int.natCast_add, Int.cast_ofNat_Int, hsu]; try simp) (by first | rfl | (simp only [ri]; done))⟩
    | false =>
      rw [he] at w
      simp (disch := omega) only [go_sem, gk, lC]
      refine w.callV 0 (z6 (z8) (z6 (z8) (z6 (z8) z7))) ?_
      simp (disch := omega) only [go_sem, gk, lC]
      exact Fin.val (by rw [isSc, all_not 0 hlt he, Bool.false_and])
  · obtain rfl : k = W.length := by omega
    have hall : (W.all fun x => inR x 0 9) = true := (all_getD 0).2 fun i hi => hkk i (by omega)
    by_cases h6 : W.length = 6
    · by_cases hs : 0 < wsum W W.length
      · have w := Tryz.l1In_ok b 0 1000
        have ef : isSc W b = inR b 0 1000 := by rw [isSc, hall, decide_eq_true h6, decide_eq_true hs]; rfl
        rw [ef]
        clear ef hall hkk
        generalize wsum W W.length = z at *
        simp (disch := omega) only [go_sem]
        refine w.callV 0 (z6 (z8) (z6 (z8) (z6 (z8) z7))) ?_
        simp (disch := omega) only [go_sem]
        exact Fin.val rfl
      · have ef : isSc W b = false := by rw [isSc, decide_eq_false hs]; simp
        rw [ef]
        clear ef hall hkk
        generalize wsum W W.length = z at *
        simp (disch := omega) only [go_sem]
        exact Fin.val rfl
    · have ef : isSc W b = false := by rw [isSc, decide_eq_false h6]; simp
      rw [ef]
      clear ef
      simp (disch := omega) only [go_sem]
      exact Fin.val rfl

set_option maxHeartbeats 2000000 in
theorem Tryz.implSc_ok (W : List Int) (b : Int) (hW : W.length ≤ 1048576) : PCall Tryz.prog 49 [sS W b] (.val (.bool (isSc W b))) := by
  refine FCall.pcall (R := fun r _ => r = .val (.bool (isSc W b))) ?_ 0 (by rintro r H rfl; exact zg)
  refine FCall.of_body Tryz.func49 rfl (by kernel_rfl) (by simp [Tryz.ntmps49]) ?_
  have lC := zh W
  have ws0 : wsum W 0 = 0 := by simp [wsum]
  refine SW_of_vc Tryz.mixed _ _ _ (by kernel_rfl) ?_
  simp (disch := omega) only [go_sem]
  refine LoopW.loop (fun k : Nat => ⟨ofL [(1, .optr 0 0), (3, .val (.int .i64 (wsum W k))), (7, ri W), (8, .val (.int .i64 W.length)), (9, .val (.int .i64 k))], hp [(0, ⟨[ri W, .val (.int .i64 b)], true⟩)] 1⟩) (fun k => k ≤ W.length ∧ ∀ i, i < k → inR (W.getD i 0) 0 9 = true) (fun k => W.length - k) 0 ⟨by omega, by simp⟩ (Wk.of (by simp only [go_sem, ↓List.forall_mem_cons, List.not_mem_nil, false_implies, implies_true, and_true, true_and, and_self, ri_eq, Int.natCast_add, Int.cast_ofNat_Int, ws0]; try simp) (by first | rfl | (simp only [ri]; done))) ?_
  rintro k ⟨hk, hkk⟩
  have hws : 0 ≤ wsum W k ∧ wsum W k ≤ 9 * k := by
    have h1 : ∀ k, (∀ i, i < k → inR (W.getD i 0) 0 9 = true) → k ≤ W.length → 0 ≤ wsum W k ∧ wsum W k ≤ 9 * k := by
      intro k
      induction k with
      | zero => intro _ _; simp [wsum]
      | succ k ih =>
        intro h1 h2
        have := ih (fun i hi => h1 i (by omega)) (by omega)
        have h3 := inR_of (h1 k (by omega))
        rw [wsum_succ (by omega)]; omega
    exact h1 k hkk hk
  refine SW_of_vc Tryz.mixed _ _ _ (by kernel_rfl) ?_
  by_cases hlt : k < W.length
  · have gk : (ints W)[k]? = some (.val (.int .i64 (W.getD k 0))) := ints_get hlt
    have w := Tryz.within_ok (W.getD k 0) 0 9
    have hsu := wsum_succ hlt
    cases he : inR (W.getD k 0) 0 9 with
    | true =>
      have hr := inR_of he
      have hnx : ∀ i, i < k + 1 → inR (W.getD i 0) 0 9 = true := fun i hi => by
        rcases Nat.lt_succ_iff_lt_or_eq.mp hi with h | rfl
        · exact hkk i h
        · exact he
      rw [he] at w
      generalize W.getD k 0 = x at *
      simp (disch := omega) only [go_sem, gk, lC]
      refine w.callV 0 (z6 (z8) (z6 (z8) (z6 (z8) z7))) ?_
      simp (disch := omega) only [go_sem, gk, lC]
      exact ⟨k + 1, ⟨by omega, hnx⟩, by omega, Wk.of (by simp only [go_sem, ↓List.forall_mem_cons, List.not_mem_nil, false_implies, implies_true, and_true, true_and, and_self, ri_eq, Int.natCast_add, Int.cast_ofNat_Int, hsu]; try simp) (by first | rfl | (simp only [ri]; done))⟩
    | false =>
      rw [he] at w
      simp (disch := omega) only [go_sem, gk, lC]
      refine w.callV 0 (z6 (z8) (z6 (z8) (z6 (z8) z7))) ?_
      simp (disch := omega) only [go_sem, gk, lC]
      exact Fin.val (by rw [isSc, all_not 0 hlt he, Bool.false_and])
  · obtain rfl : k = W.length := by omega
    have hall : (W.all fun x => inR x 0 9) = true := (all_getD 0).2 fun i hi => hkk i (by omega)
    by_cases h6 : W.length = 6
    · by_cases hs : 0 < wsum W W.length
      · have w := Tryz.within_ok b 0 1000
        have ef : isSc W b = inR b 0 1000 := by rw [isSc, hall, decide_eq_true h6, decide_eq_true hs]; rfl
        rw [ef]
        clear ef hall hkk
        generalize wsum W W.length = z at *
        simp (disch := omega) only [go_sem]
        refine w.callV 0 (z6 (z8) (z6 (z8) (z6 (z8) z7))) ?_
        simp (disch := omega) only [go_sem]
        exact Fin.val rfl
      · have ef : isSc W b = false := by rw [isSc, decide_eq_false hs]; simp
        rw [ef]
        clear ef hall hkk
        generalize wsum W W.length = z at *
        simp (disch := omega) only [go_sem]
        exact Fin.val rfl
    · have ef : isSc W b = false := by rw [isSc, decide_eq_false h6]; simp
      rw [ef]
      clear ef
      simp (disch := omega) only [go_sem]
      exact Fin.val rfl

def dot (f W : List Int) : Nat → Int
  | 0 => 0
  | k + 1 => dot f W k + f.getD k 0 * W.getD k 0
theorem mul_b {x y : Int} (h1 : 0 ≤ x ∧ x ≤ 1000) (h2 : 0 ≤ y ∧ y ≤ 9) : 0 ≤ x * y ∧ x * y ≤ 9000 := by
  constructor
  · exact Int.mul_nonneg h1.1 h2.1
  · have : x * y ≤ 1000 * 9 := Int.mul_le_mul h1.2 h2.2 h2.1 (by omega)
    omega
theorem dot_b {f W : List Int} (hf : ∀ i, i < 6 → 0 ≤ f.getD i 0 ∧ f.getD i 0 ≤ 1000) (hW : ∀ i, i < 6 → 0 ≤ W.getD i 0 ∧ W.getD i 0 ≤ 9) : ∀ k, k ≤ 6 → 0 ≤ dot f W k ∧ dot f W k ≤ 9000 * k
  | 0, _ => by simp [dot]
  | k + 1, hk => by
    have ih := dot_b hf hW k (by omega)
    have := mul_b (hf k (by omega)) (hW k (by omega))
    rw [dot]; omega
theorem isSc_t {W : List Int} {b : Int} (h : isSc W b = true) : W.length = 6 ∧ (∀ i, i < 6 → 0 ≤ W.getD i 0 ∧ W.getD i 0 ≤ 9) ∧ 0 < wsum W 6 ∧ 0 ≤ b ∧ b ≤ 1000 := by
  simp only [isSc, Bool.and_eq_true] at h
  obtain ⟨h1, h2, h3, h4⟩ := h
  have hl := of_decide_eq_true h2
  have hs := of_decide_eq_true h3
  rw [hl] at hs
  exact ⟨hl, fun i hi => inR_of ((all_getD 0).1 h1 i (by omega)), hs, inR_of h4⟩

set_option maxHeartbeats 2000000 in
theorem Tryz.specComb_ok (f W : List Int) (hf : isFV f = true) (hl : W.length = 6) (hW : ∀ i, i < 6 → 0 ≤ W.getD i 0 ∧ W.getD i 0 ≤ 9) (hs : 0 < wsum W 6) : PCall Tryz.prog 129 [ri f, ri W] (.val (.int .i64 ((dot f W 6).tdiv (wsum W 6)))) := by
  obtain ⟨fl, fr⟩ := isFV_t hf
  refine FCall.pcall (R := fun r _ => r = .val (.int .i64 ((dot f W 6).tdiv (wsum W 6)))) ?_ 0 (by rintro r H rfl; exact z8)
  refine FCall.of_body Tryz.func129 rfl (by kernel_rfl) (by simp [Tryz.ntmps129]) ?_
  have l1 : (ints f).length = 6 := by rw [zh, fl]
  have l2 : (ints W).length = 6 := by rw [zh, hl]
  have ws0 : wsum W 0 = 0 := by simp [wsum]
  have d0 : dot f W 0 = 0 := rfl
  refine SW_of_vc Tryz.mixed _ _ _ (by kernel_rfl) ?_
  simp (disch := omega) only [go_sem, fl, hl, bne_self_eq_false]
  refine LoopW.loop (fun k : Nat => ⟨ofL [(0, ri f), (1, ri W), (5, .val (.int .i64 (dot f W k))), (6, .val (.int .i64 (wsum W k))), (7, .val (.int .i64 k))], hp [] 0⟩) (fun k => k ≤ 6) (fun k => 6 - k) 0 (by omega) (Wk.of (by simp only [go_sem, ↓List.forall_mem_cons, List.not_mem_nil, false_implies, implies_true, and_true, true_and, and_self, ri_eq, Int.natCast_add, Int.cast_ofNat_Int, ws0, d0, fl, hl]; try simp) rfl) ?_
  intro k hk
  have hwb := wsum_b (W := W) (fun i hi => hW i (by omega)) k (by omega)
  have hdb := dot_b fr hW k hk
  have hwb6 := wsum_b (W := W) (fun i hi => hW i (by omega)) 6 (by omega)
  have hdb6 := dot_b fr hW 6 (by omega)
  refine SW_of_vc Tryz.mixed _ _ _ (by kernel_rfl) ?_
  by_cases hlt : k < 6
  · have g1 : (ints f)[k]? = some (.val (.int .i64 (f.getD k 0))) := ints_get (by omega)
    have g2 : (ints W)[k]? = some (.val (.int .i64 (W.getD k 0))) := ints_get (by omega)
    have b1 := fr k hlt
    have b2 := hW k hlt
    have w1 := Tryz.l1In_ok (f.getD k 0) 0 1000
    have w2 := Tryz.l1In_ok (W.getD k 0) 0 1000
    rw [inR_tt (by omega) (by omega)] at w1 w2
    have hsu := wsum_succ (W := W) (k := k) (by omega)
    have hdu : dot f W (k + 1) = dot f W k + f.getD k 0 * W.getD k 0 := rfl
    have hmul : 0 ≤ f.getD k 0 * W.getD k 0 ∧ f.getD k 0 * W.getD k 0 ≤ 9000 := mul_b b1 b2
    generalize f.getD k 0 = x at *
    generalize W.getD k 0 = y at *
    simp (disch := omega) only [go_sem, g1, g2, l1, l2, fl, hl]
    refine w1.callV 0 (z6 (z8) (z6 (z8) (z6 (z8) z7))) ?_
    simp (disch := omega) only [go_sem, g1, g2, l1, l2, fl, hl]
    refine w2.callV 0 (z6 (z8) (z6 (z8) (z6 (z8) z7))) ?_
    simp (disch := omega) only [go_sem, g1, g2, l1, l2, fl, hl]
    exact ⟨k + 1, by omega, by omega, Wk.of (by simp only [go_sem, ↓List.forall_mem_cons, List.not_mem_nil, false_implies, implies_true, and_true, true_and, and_self, ri_eq, Int.natCast_add, Int.cast_ofNat_Int, hsu, hdu, fl, hl]; try simp) rfl⟩
  · obtain rfl : k = 6 := by omega
    have hq : 0 ≤ (dot f W 6).tdiv (wsum W 6) := Int.tdiv_nonneg hdb6.1 hwb6.1
    have hq2 : (dot f W 6).tdiv (wsum W 6) ≤ dot f W 6 := Int.tdiv_le_self _ hdb6.1
    have hne : ¬ wsum W 6 = 0 := by omega
    generalize wsum W 6 = s at *
    generalize dot f W 6 = d at *
    have hne2 : (s == 0) = false := by simpa using hne
    simp (disch := omega) only [go_sem, l1, l2, fl, hl, hne, hne2]
    exact Fin.val rfl

set_option maxHeartbeats 2000000 in
theorem Tryz.implComb_ok (f W : List Int) (hf : isFV f = true) (hl : W.length = 6) (hW : ∀ i, i < 6 → 0 ≤ W.getD i 0 ∧ W.getD i 0 ≤ 9) (hs : 0 < wsum W 6) : PCall Tryz.prog 137 [ri f, ri W] (.val (.int .i64 ((dot f W 6).tdiv (wsum W 6)))) := by
  obtain ⟨fl, fr⟩ := isFV_t hf
  refine FCall.pcall (R := fun r _ => r = .val (.int .i64 ((dot f W 6).tdiv (wsum W 6)))) ?_ 0 (by rintro r H rfl; exact z8)
  refine FCall.of_body Tryz.func137 rfl (by kernel_rfl) (by simp [Tryz.ntmps137]) ?_
  have l1 : (ints f).length = 6 := by rw [zh, fl]
  have l2 : (ints W).length = 6 := by rw [zh, hl]
  have ws0 : wsum W 0 = 0 := by simp [wsum]
  have d0 : dot f W 0 = 0 := rfl
  refine SW_of_vc Tryz.mixed _ _ _ (by kernel_rfl) ?_
  simp (disch := omega) only [go_sem, fl, hl, bne_self_eq_false]
  refine LoopW.loop (fun k : Nat => ⟨ofL [(0, ri f), (1, ri W), (5, .val (.int .i64 (dot f W k))), (6, .val (.int .i64 (wsum W k))), (14, ri f), (15, .val (.int .i64 6)), (16, .val (.int .i64 k))], hp [] 0⟩) (fun k => k ≤ 6) (fun k => 6 - k) 0 (by omega) (Wk.of (by simp only [go_sem, ↓List.forall_mem_cons, List.not_mem_nil, false_implies, implies_true, and_true, true_and, and_self, ri_eq, Int.natCast_add, Int.cast_ofNat_Int, ws0, d0, fl, hl]; try simp) rfl) ?_
  intro k hk
  have hwb := wsum_b (W := W) (fun i hi => hW i (by omega)) k (by omega)
  have hdb := dot_b fr hW k hk
  have hwb6 := wsum_b (W := W) (fun i hi => hW i (by omega)) 6 (by omega)
  have hdb6 := dot_b fr hW 6 (by omega)
  refine SW_of_vc Tryz.mixed _ _ _ (by kernel_rfl) ?_
  by_cases hlt : k < 6
  · have g1 : (ints f)[k]? = some (.val (.int .i64 (f.getD k 0))) := ints_get (by omega)
    have g2 : (ints W)[k]? = some (.val (.int .i64 (W.getD k 0))) := ints_get (by omega)
    have b1 := fr k hlt
    have b2 := hW k hlt
    have w1 := Tryz.within_ok (f.getD k 0) 0 1000
    have w2 := Tryz.within_ok (W.getD k 0) 0 1000
    rw [inR_tt (by omega) (by omega)] at w1 w2
    have hsu := wsum_succ (W := W) (k := k) (by omega)
    have hdu : dot f W (k + 1) = dot f W k + f.getD k 0 * W.getD k 0 := rfl
    have hmul : 0 ≤ f.getD k 0 * W.getD k 0 ∧ f.getD k 0 * W.getD k 0 ≤ 9000 := mul_b b1 b2
    generalize f.getD k 0 = x at *
    generalize W.getD k 0 = y at *
    simp (disch := omega) only [go_sem, g1, g2, l1, l2, fl, hl]
    refine w1.callV 0 (z6 (z8) (z6 (z8) (z6 (z8) z7))) ?_
    simp (disch := omega) only [go_sem, g1, g2, l1, l2, fl, hl]
    refine w2.callV 0 (z6 (z8) (z6 (z8) (z6 (z8) z7))) ?_
    simp (disch := omega) only [go_sem, g1, g2, l1, l2, fl, hl]
    exact ⟨k + 1, by omega, by omega, Wk.of (by simp only [go_sem, ↓List.forall_mem_cons, List.not_mem_nil, false_implies, implies_true, and_true, true_and, and_self, ri_eq, Int.natCast_add, Int.cast_ofNat_Int, hsu, hdu, fl, hl]; try simp) rfl⟩
  · obtain rfl : k = 6 := by omega
    have hq : 0 ≤ (dot f W 6).tdiv (wsum W 6) := Int.tdiv_nonneg hdb6.1 hwb6.1
    have hq2 : (dot f W 6).tdiv (wsum W 6) ≤ dot f W 6 := Int.tdiv_le_self _ hdb6.1
    have hne : ¬ wsum W 6 = 0 := by omega
    generalize wsum W 6 = s at *
    generalize dot f W 6 = d at *
    have hne2 : (s == 0) = false := by simpa using hne
    simp (disch := omega) only [go_sem, l1, l2, fl, hl, hne, hne2]
    exact Fin.val rfl

set_option maxHeartbeats 2000000 in
theorem Tryz.specPS_ok (W : List Int) (b : Int) (f : List Int) (hW : W.length ≤ 1048576) (hf : f.length ≤ 1048576) (h1 : isSc W b = true) (h2 : isFV f = true) : PCall Tryz.prog 83 [sS W b, ri f] (.val (.int .i64 ((dot f W 6).tdiv (wsum W 6)))) := by
  obtain ⟨g1, g2, g3, g4⟩ := isSc_t h1
  have w1 := Tryz.specSc_ok W b hW
  have w2 := Tryz.specFV_ok f hf
  rw [h1] at w1
  rw [h2] at w2
  have w3 := Tryz.specComb_ok f W h2 g1 g2 g3
  refine FCall.pcall (R := fun r _ => r = .val (.int .i64 ((dot f W 6).tdiv (wsum W 6)))) ?_ 0 (by rintro r H rfl; exact z8)
  refine FCall.of_body Tryz.func83 rfl (by kernel_rfl) (by simp [Tryz.ntmps83]) ?_
  refine SW_of_vc Tryz.mixed _ _ _ (by kernel_rfl) ?_
  simp (disch := omega) only [go_sem]
  refine w1.callV 1 (z6 view_sS z7) ?_
  simp (disch := omega) only [go_sem]
  refine w2.callV 0 (z6 (zf) z7) ?_
  simp (disch := omega) only [go_sem]
  refine w3.callV 0 (z6 (zf) (z6 (zf) z7)) ?_
  simp (disch := omega) only [go_sem]
  exact Fin.val rfl

set_option maxHeartbeats 2000000 in
theorem Tryz.implPS_ok (W : List Int) (b : Int) (f : List Int) (hW : W.length ≤ 1048576) (hf : f.length ≤ 1048576) (h1 : isSc W b = true) (h2 : isFV f = true) : PCall Tryz.prog 92 [sS W b, ri f] (.val (.int .i64 ((dot f W 6).tdiv (wsum W 6)))) := by
  obtain ⟨g1, g2, g3, g4⟩ := isSc_t h1
  have w1 := Tryz.implSc_ok W b hW
  have w2 := Tryz.implFV_ok f hf
  rw [h1] at w1
  rw [h2] at w2
  have w3 := Tryz.implComb_ok f W h2 g1 g2 g3
  refine FCall.pcall (R := fun r _ => r = .val (.int .i64 ((dot f W 6).tdiv (wsum W 6)))) ?_ 0 (by rintro r H rfl; exact z8)
  refine FCall.of_body Tryz.func92 rfl (by kernel_rfl) (by simp [Tryz.ntmps92]) ?_
  refine SW_of_vc Tryz.mixed _ _ _ (by kernel_rfl) ?_
  simp (disch := omega) only [go_sem]
  refine w1.callV 1 (z6 view_sS z7) ?_
  simp (disch := omega) only [go_sem]
  refine w2.callV 0 (z6 (zf) z7) ?_
  simp (disch := omega) only [go_sem]
  refine w3.callV 0 (z6 (zf) (z6 (zf) z7)) ?_
  simp (disch := omega) only [go_sem]
  exact Fin.val rfl
end Go.Sh

/-
  Plain law: the sound of a word.
-/
namespace Go.Sh
open Go Go.Proofs

def scTab : List Int := [0, 1, 2, 3, 0, 1, 2, -1, 0, 2, 2, 4, 5, 5, 0, 1, 2, 6, 2, 3, 0, 1, -1, 2, 0, 2]
def scode (c : UInt8) : Int := if isSm c = true then scTab.getD (c.toNat - 97) 0 else -2
theorem scTab_b : ∀ k, k < 26 → -1 ≤ scTab.getD k 0 ∧ scTab.getD k 0 ≤ 6 := by decide
theorem sm_b {c : UInt8} (h : isSm c = true) : 97 ≤ c.toNat ∧ c.toNat ≤ 122 := by simpa only [isSm, Bool.and_eq_true, decide_eq_true_eq] using h
theorem dg_b {c : UInt8} (h : isDg c = true) : 48 ≤ c.toNat ∧ c.toNat ≤ 57 := by simpa only [isDg, Bool.and_eq_true, decide_eq_true_eq] using h
theorem scode_t {c : UInt8} (h : isSm c = true) : -1 ≤ scode c ∧ scode c ≤ 6 := by
  have := sm_b h
  rw [scode, if_pos h]
  exact scTab_b _ (by omega)
theorem scode_f {c : UInt8} (h : isSm c = false) : scode c = -2 := by rw [scode, if_neg (by simp [h])]
def sdg (c : UInt8) : UInt8 := UInt8.ofNat (48 + (scode c).toNat)
def sxs (p : List UInt8 × Int) (c : UInt8) : List UInt8 × Int := (if 0 < scode c ∧ scode c ≠ p.2 then p.1 ++ [sdg c] else p.1, if 0 ≤ scode c then scode c else p.2)
def sx (w : Wd) (k : Nat) : List UInt8 × Int := ((w.take k).drop 1).foldl sxs ([w.getD 0 0], scode (w.getD 0 0))
theorem sx_1 (w : Wd) : sx w 1 = ([w.getD 0 0], scode (w.getD 0 0)) := by
  have : (w.take 1).drop 1 = [] := List.eq_nil_of_length_eq_zero (by simp)
  rw [sx, this]; rfl
theorem sx_0 (w : Wd) : sx w 0 = ([w.getD 0 0], scode (w.getD 0 0)) := rfl
theorem sx_succ {w : Wd} {k : Nat} (h1 : 1 ≤ k) (h : k < w.length) : sx w (k + 1) = sxs (sx w k) (w.getD k 0) := by
  rw [sx, take_at 0 h, List.drop_append, List.length_take, show 1 - min k w.length = 0 by omega, List.drop_zero, List.foldl_append]
  rfl
theorem sdg_nat {c : UInt8} (h : -1 ≤ scode c ∧ scode c ≤ 6) : ((sdg c).toNat : Int) = if 0 ≤ scode c then 48 + scode c else 48 := by
  rw [sdg, UInt8.toNat_ofNat']
  split <;> omega
theorem sdg_dg {c : UInt8} (h : scode c ≤ 6) : isDg (sdg c) = true := by
  have e : (sdg c).toNat = 48 + (scode c).toNat := by rw [sdg, UInt8.toNat_ofNat']; omega
  rw [isDg, Bool.and_eq_true, decide_eq_true_eq, decide_eq_true_eq, e]
  omega
theorem scode_le (c : UInt8) : scode c ≤ 6 := by
  cases h : isSm c with
  | true => exact (scode_t h).2
  | false => rw [scode_f h]; omega
theorem sx_len (w : Wd) : ∀ k, 1 ≤ (sx w k).1.length ∧ (sx w k).1.length ≤ k + 1
  | 0 => by rw [sx_0]; exact ⟨Nat.le_refl _, Nat.le_refl _⟩
  | k + 1 => by
    have ih := sx_len w k
    rcases Nat.eq_zero_or_pos k with rfl | hk
    · rw [sx_1]; simp
    · rcases Nat.lt_or_ge k w.length with h | h
      · rw [sx_succ hk h, sxs]
        simp only
        split
        · simp; omega
        · omega
      · have : w.take (k + 1) = w.take k := by rw [List.take_of_length_le (by omega), List.take_of_length_le h]
        rw [show sx w (k + 1) = sx w k by rw [sx, sx, this]]; omega
theorem sx_mem {w : Wd} (h : w.all isSm = true) (h0 : w ≠ []) : ∀ k, ∀ c ∈ (sx w k).1, (isSm c || isDg c) = true
  | 0, c, hc => by
    rw [sx_0] at hc
    simp only [List.mem_singleton] at hc
    subst hc
    have hl := List.length_pos_iff.2 h0
    have : isSm (w.getD 0 0) = true := (all_getD 0).1 h 0 hl
    rw [this]; rfl
  | k + 1, c, hc => by
    rcases Nat.eq_zero_or_pos k with rfl | hk
    · rw [sx_1, ← sx_0] at hc; exact sx_mem h h0 0 c hc
    · rcases Nat.lt_or_ge k w.length with hl | hl
      · rw [sx_succ hk hl, sxs] at hc
        simp only at hc
        split at hc
        · rcases List.mem_append.1 hc with hc | hc
          · exact sx_mem h h0 k c hc
          · simp only [List.mem_singleton] at hc
            subst hc
            rw [sdg_dg (scode_le _), Bool.or_true]
        · exact sx_mem h h0 k c hc
      · have : w.take (k + 1) = w.take k := by rw [List.take_of_length_le (by omega), List.take_of_length_le hl]
        rw [show sx w (k + 1) = sx w k by rw [sx, sx, this]] at hc
        exact sx_mem h h0 k c hc
def sdx (w : Wd) : Wd := if w.all isSm = true then ((sx w w.length).1 ++ [48, 48, 48]).take 4 else []
theorem sdx_len {w : Wd} (h : w.all isSm = true) : (sdx w).length = 4 := by
  have := (sx_len w w.length).1
  rw [sdx, if_pos h, List.length_take, List.length_append]
  simp; omega
theorem sdx_le (w : Wd) : (sdx w).length ≤ 4 := by
  cases h : w.all isSm with
  | true => rw [sdx_len h]; exact Nat.le_refl _
  | false => rw [sdx, if_neg (by simp [h])]; simp
theorem sdx_tk {w : Wd} (h0 : w ≠ []) (hn : sdx w ≠ []) : isTk (sdx w) = true := by
  have h : w.all isSm = true := by
    cases h : w.all isSm with
    | true => rfl
    | false => exact absurd (by rw [sdx, if_neg (by simp [h])]) hn
  rw [isTk, Bool.and_eq_true, bne_iff_ne, List.all_eq_true]
  refine ⟨hn, fun c hc => ?_⟩
  rw [sdx, if_pos h] at hc
  rcases List.mem_append.1 (List.mem_of_mem_take hc) with g | g
  · exact sx_mem h h0 _ c g
  · simp only [List.mem_cons, List.not_mem_nil, or_false, or_self] at g
    subst g; rfl
def skl (L : List Wd) : List Wd := (L.map sdx).filter fun k => k != []
def sks (s : List UInt8) : List Wd := sset (skl (sset (wds (nrm s))))
def tks (s : List UInt8) : List Wd := sset (wds (nrm s))
def TS (L : List Wd) : Prop := Asc L ∧ ∀ w ∈ L, isTk w = true
theorem tks_ts (s : List UInt8) : TS (tks s) := ⟨sset_asc _, fun w hw => wds_nrm (sset_mem.1 hw)⟩
theorem tk_ne {w : Wd} (h : isTk w = true) : w ≠ [] := by
  rw [isTk, Bool.and_eq_true, bne_iff_ne] at h; exact h.1
theorem sks_ts (s : List UInt8) : TS (sks s) := ⟨sset_asc _, fun w hw => by
  obtain ⟨h1, h2⟩ := List.mem_filter.1 (sset_mem.1 hw)
  obtain ⟨x, hx, rfl⟩ := List.mem_map.1 h1
  exact sdx_tk (tk_ne ((tks_ts s).2 x hx)) (bne_iff_ne.1 h2)⟩
theorem tk_c {w : Wd} (h : isTk w = true) {k : Nat} (hk : k < w.length) : (isSm (w.getD k 0) || isDg (w.getD k 0)) = true := by
  rw [isTk, Bool.and_eq_true] at h
  exact (all_getD (p := fun c => isSm c || isDg c) 0).1 h.2 k hk
theorem tkc_nc {c : UInt8} (h : (isSm c || isDg c) = true) : isCp c = false := by
  rw [isCp, Bool.and_eq_false_iff, decide_eq_false_iff_not, decide_eq_false_iff_not]
  rcases Bool.or_eq_true_iff.1 h with g | g
  · have := sm_b g; omega
  · have := dg_b g; omega
theorem tk_fold {w : Wd} (h : isTk w = true) : w.map fc = w := by
  rw [isTk, Bool.and_eq_true, List.all_eq_true] at h
  conv => rhs; rw [← List.map_id w]
  exact List.map_congr_left fun c hc => by
    rw [fc, if_neg (by rw [tkc_nc (h.2 c hc)]; simp)]; rfl
theorem tk_wd {c : UInt8} (h : (isSm c || isDg c) = true) : isWd c = true := by
  rw [isWd]
  rcases Bool.or_eq_true_iff.1 h with g | g <;> rw [g] <;> simp
def jac (A B : List Wd) : Int := if (A.length : Int) + B.length - com A B = 0 then 1000 else (1000 * (com A B : Int)).tdiv ((A.length : Int) + B.length - com A B)
def sts (A B : List Wd) : Int := if A = [] ∨ B = [] then 0 else jac A B
theorem jac_symm {A B : List Wd} (hA : Asc A) (hB : Asc B) : jac A B = jac B A := by
  rw [jac, jac, com_symm hA hB, Int.add_comm (A.length : Int) B.length]
theorem sts_symm {A B : List Wd} (hA : Asc A) (hB : Asc B) : sts A B = sts B A := by
  rw [sts, sts, jac_symm hA hB]; exact ite_congr (propext or_comm) (fun _ => rfl) (fun _ => rfl)
def tsc (a b : List UInt8) : Int := if nrm a = [] ∨ nrm b = [] then 0 else escore (nrm a) (nrm b)
end Go.Sh

/-
  DERIVED: THE SHELF's CONTRACTS AT THIS DUMP, IN PLAIN WORDS (tools/lay-plain.mjs out of 'TryzShelf.lean', which tools/lay-shelf.mjs wrote): THE SAME DECLARATIONS UNDER THE SAME NAMES: 'import', 'namespace', 'open', 'def', 'theorem' AND NOTHING ELSE: no command of the shelf's: FOR A HAND-IN. Each laying: the table of numbers ('.._ren') and one theorem, a field a fact of the dump's own or the kernel's comparison; each contract: ONE APPLICATION.
-/
namespace Go.Proofs
open Go.Shelf
def Tryz.lays156_ren : Go.Shelf.Ren := ⟨fun | 156 => 125 | 165 => 167 | 166 => 168 | 169 => 169 | 240 => 207 | 241 => 208 | 276 => 232 | 277 => 233 | n => n, fun | 31 => 57 | 9 => 9 | 3 => 3 | 4 => 4 | 0 => 0 | 20 => 20 | 72 => 162 | 76 => 165 | 70 => 160 | 37 => 51 | 75 => 164 | 127 => 185 | 164 => 204 | 5 => 5 | 80 => 167 | n => n, fun | n => n⟩
theorem Tryz.lays156 : Go.Proofs.Lays.n156 Tryz.prog Tryz.lays156_ren := {
  mixed := by kernel_rfl
  f156 := Tryz.func125.trans (congrArg some (by kernel_rfl))
  f165 := Tryz.func167.trans (congrArg some (by kernel_rfl))
  f166 := Tryz.func168.trans (congrArg some (by kernel_rfl))
  f169 := Tryz.func169.trans (congrArg some (by kernel_rfl))
  f240 := Tryz.func207.trans (congrArg some (by kernel_rfl))
  f241 := Tryz.func208.trans (congrArg some (by kernel_rfl))
  f276 := Tryz.func232.trans (congrArg some (by kernel_rfl))
  f277 := Tryz.func233.trans (congrArg some (by kernel_rfl))
  t0 := Tryz.underlying0
  a0 := Tryz.isAgg0
  z0 := Tryz.sizeOf0
  v0 := Tryz.zeroValue0
  t3 := Tryz.underlying3
  a3 := Tryz.isAgg3
  z3 := Tryz.sizeOf3
  v3 := Tryz.zeroValue3
  t4 := Tryz.underlying4
  a4 := Tryz.isAgg4
  z4 := Tryz.sizeOf4
  v4 := Tryz.zeroValue4
  t9 := Tryz.underlying9
  a9 := Tryz.isAgg9
  z9 := Tryz.sizeOf9
  v9 := Tryz.zeroValue9
  t20 := Tryz.underlying20
  a20 := Tryz.isAgg20
  z20 := Tryz.sizeOf20
  v20 := Tryz.zeroValue20
  t31 := Tryz.underlying57
  a31 := Tryz.isAgg57
  z31 := Tryz.sizeOf57
  v31 := Tryz.zeroValue57
  t37 := Tryz.underlying51
  a37 := Tryz.isAgg51
  z37 := Tryz.sizeOf51
  v37 := Tryz.zeroValue51
  t70 := Tryz.underlying160
  a70 := Tryz.isAgg160
  z70 := Tryz.sizeOf160
  v70 := Tryz.zeroValue160
  t72 := Tryz.underlying162
  a72 := Tryz.isAgg162
  z72 := Tryz.sizeOf162
  v72 := Tryz.zeroValue162
  t75 := Tryz.underlying164
  a75 := Tryz.isAgg164
  z75 := Tryz.sizeOf164
  v75 := Tryz.zeroValue164
  t76 := Tryz.underlying165
  a76 := Tryz.isAgg165
  z76 := Tryz.sizeOf165
  v76 := Tryz.zeroValue165
  t127 := Tryz.underlying185
  a127 := Tryz.isAgg185
  z127 := Tryz.sizeOf185
  v127 := Tryz.zeroValue185
  t164 := Tryz.underlying204
  a164 := Tryz.isAgg204
  z164 := Tryz.sizeOf204
  v164 := Tryz.zeroValue204 }
theorem Tryz.Builder_Extra_156 : Builder.Extra Tryz.prog Tryz.lays156_ren := {
  sizeBuilder := by kernel_rfl
  liesBuilder := by kernel_rfl
  t5 := Tryz.underlying5
  a5 := Tryz.isAgg5
  z5 := Tryz.sizeOf5
  v5 := Tryz.zeroValue5
  infoByte := by kernel_rfl
  cellsByte := by kernel_rfl
  sizeByte := by kernel_rfl
  neB5 := by decide }
open Go.RowKit in
theorem Tryz.strings_Join_none (a : Option Addr) (c : Nat) (sep : ByteArray) (w : World) :
    Calls Tryz.prog 125 #[.slice a 0 c, .string sep] w fun e w' => e = .returned (.string ⟨#[]⟩) ∧ w' = w := Any.strings_Join_none Tryz.lays156 Tryz.Builder_Extra_156 a c sep w
open Go.RowKit in
theorem Tryz.strings_Join (bk o c : Nat) (xs : List ByteArray) (sep : ByteArray) (w : World) (hcells : ∀ (j : Nat) x, xs[j]? = some x → w.cell? ⟨bk, o + j, none⟩ = some (.string x)) (hbk : bk < w.heap.size) (hN : xs.length ≤ 140737488355328) (hcap : xs.length ≤ c) (hlen : (Lib.join (xs.map (·.data.toList)) sep.data.toList).length ≤ 140737488355328) :
    Calls Tryz.prog 125 #[.slice (some ⟨bk, o, none⟩) xs.length c, .string sep] w fun e w' => e = .returned (.string ⟨(Lib.join (xs.map (·.data.toList)) sep.data.toList).toArray⟩) ∧ Below w.heap.size w w' := Any.strings_Join Tryz.lays156 Tryz.Builder_Extra_156 bk o c xs sep w hcells hbk hN hcap hlen
def Tryz.lays172_ren : Go.Shelf.Ren := ⟨fun | 172 => 170 | 244 => 209 | 245 => 210 | 247 => 234 | 279 => 235 | 280 => 236 | 281 => 237 | 282 => 238 | 287 => 268 | 316 => 269 | 171 => 166 | 205 => 270 | 321 => 285 | 322 => 286 | 243 => 206 | 246 => 231 | 283 => 264 | 284 => 265 | 285 => 266 | 286 => 267 | 129 => 263 | 317 => 281 | 318 => 282 | 319 => 283 | 320 => 284 | 337 => 288 | 338 => 289 | n => n, fun | 9 => 9 | 3 => 3 | 75 => 164 | 76 => 165 | 4 => 4 | 5 => 5 | 167 => 207 | 37 => 51 | 0 => 0 | 85 => 208 | 2 => 2 | 168 => 210 | 53 => 231 | 175 => 236 | 46 => 180 | 210 => 239 | 127 => 185 | 145 => 259 | 143 => 257 | 21 => 21 | 171 => 232 | 173 => 234 | 212 => 255 | 51 => 229 | 20 => 20 | 213 => 256 | 232 => 263 | 233 => 264 | 80 => 167 | n => n, fun | 15 => 2 | 16 => 3 | 17 => 6 | 18 => 7 | 19 => 8 | n => n⟩
def Tryz.laysM246_ren : Go.Shelf.Ren := ⟨fun | 246 => 231 | 283 => 264 | 284 => 265 | 285 => 266 | 286 => 267 | 129 => 263 | 317 => 281 | 318 => 282 | 319 => 283 | 320 => 284 | 337 => 288 | 338 => 289 | n => n, fun | 2 => 2 | 3 => 3 | 9 => 9 | 4 => 4 | 171 => 232 | 0 => 0 | 53 => 231 | 37 => 51 | 5 => 5 | 173 => 234 | 212 => 255 | 51 => 229 | 20 => 20 | 213 => 256 | 46 => 180 | 232 => 263 | 233 => 264 | n => n, fun | 17 => 6 | 18 => 7 | 19 => 8 | n => n⟩
def Tryz.laysM243_ren : Go.Shelf.Ren := ⟨fun | 243 => 206 | 246 => 231 | 283 => 264 | 284 => 265 | 285 => 266 | 286 => 267 | 129 => 263 | 317 => 281 | 318 => 282 | 319 => 283 | 320 => 284 | 337 => 288 | 338 => 289 | n => n, fun | 3 => 3 | 9 => 9 | 2 => 2 | 4 => 4 | 171 => 232 | 0 => 0 | 53 => 231 | 37 => 51 | 5 => 5 | 173 => 234 | 212 => 255 | 51 => 229 | 20 => 20 | 213 => 256 | 46 => 180 | 232 => 263 | 233 => 264 | n => n, fun | 17 => 6 | 18 => 7 | 19 => 8 | n => n⟩
def Tryz.laysM171_ren : Go.Shelf.Ren := ⟨fun | 171 => 166 | 243 => 206 | 246 => 231 | 283 => 264 | 284 => 265 | 285 => 266 | 286 => 267 | 129 => 263 | 317 => 281 | 318 => 282 | 319 => 283 | 320 => 284 | 337 => 288 | 338 => 289 | n => n, fun | 3 => 3 | 9 => 9 | 2 => 2 | 4 => 4 | 171 => 232 | 0 => 0 | 53 => 231 | 37 => 51 | 5 => 5 | 173 => 234 | 212 => 255 | 51 => 229 | 20 => 20 | 213 => 256 | 46 => 180 | 232 => 263 | 233 => 264 | n => n, fun | 17 => 6 | 18 => 7 | 19 => 8 | n => n⟩
theorem Tryz.laysM171 : Go.Proofs.LaysM.n171 Tryz.prog Tryz.laysM171_ren := {
  mixed := by kernel_rfl
  f129 := Tryz.func263.trans (congrArg some (by kernel_rfl))
  f171 := Tryz.func166.trans (congrArg some (by kernel_rfl))
  f243 := Tryz.func206.trans (congrArg some (by kernel_rfl))
  f246 := Tryz.func231.trans (congrArg some (by kernel_rfl))
  f283 := Tryz.func264.trans (congrArg some (by kernel_rfl))
  f284 := Tryz.func265.trans (congrArg some (by kernel_rfl))
  f285 := Tryz.func266.trans (congrArg some (by kernel_rfl))
  f286 := Tryz.func267.trans (congrArg some (by kernel_rfl))
  f317 := Tryz.func281.trans (congrArg some (by kernel_rfl))
  f318 := Tryz.func282.trans (congrArg some (by kernel_rfl))
  f319 := Tryz.func283.trans (congrArg some (by kernel_rfl))
  f320 := Tryz.func284.trans (congrArg some (by kernel_rfl))
  f337 := Tryz.func288.trans (congrArg some (by kernel_rfl))
  f338 := Tryz.func289.trans (congrArg some (by kernel_rfl))
  t0 := Tryz.underlying0
  a0 := Tryz.isAgg0
  z0 := Tryz.sizeOf0
  v0 := Tryz.zeroValue0
  t2 := Tryz.underlying2
  a2 := Tryz.isAgg2
  z2 := Tryz.sizeOf2
  v2 := Tryz.zeroValue2
  t3 := Tryz.underlying3
  a3 := Tryz.isAgg3
  z3 := Tryz.sizeOf3
  v3 := Tryz.zeroValue3
  t4 := Tryz.underlying4
  a4 := Tryz.isAgg4
  z4 := Tryz.sizeOf4
  v4 := Tryz.zeroValue4
  t5 := Tryz.underlying5
  a5 := Tryz.isAgg5
  z5 := Tryz.sizeOf5
  v5 := Tryz.zeroValue5
  t9 := Tryz.underlying9
  a9 := Tryz.isAgg9
  z9 := Tryz.sizeOf9
  v9 := Tryz.zeroValue9
  t20 := Tryz.underlying20
  a20 := Tryz.isAgg20
  z20 := Tryz.sizeOf20
  v20 := Tryz.zeroValue20
  t37 := Tryz.underlying51
  a37 := Tryz.isAgg51
  z37 := Tryz.sizeOf51
  v37 := Tryz.zeroValue51
  t46 := Tryz.underlying180
  a46 := Tryz.isAgg180
  z46 := Tryz.sizeOf180
  v46 := Tryz.zeroValue180
  t51 := Tryz.underlying229
  a51 := Tryz.isAgg229
  z51 := Tryz.sizeOf229
  v51 := Tryz.zeroValue229
  t53 := Tryz.underlying231
  a53 := Tryz.isAgg231
  z53 := Tryz.sizeOf231
  v53 := Tryz.zeroValue231
  t171 := Tryz.underlying232
  a171 := Tryz.isAgg232
  z171 := Tryz.sizeOf232
  v171 := Tryz.zeroValue232
  t173 := Tryz.underlying234
  a173 := Tryz.isAgg234
  z173 := Tryz.sizeOf234
  v173 := Tryz.zeroValue234
  t212 := Tryz.underlying255
  a212 := Tryz.isAgg255
  z212 := Tryz.sizeOf255
  v212 := Tryz.zeroValue255
  t213 := Tryz.underlying256
  a213 := Tryz.isAgg256
  z213 := Tryz.sizeOf256
  t232 := Tryz.underlying263
  a232 := Tryz.isAgg263
  z232 := Tryz.sizeOf263
  v232 := Tryz.zeroValue263
  t233 := Tryz.underlying264
  a233 := Tryz.isAgg264
  z233 := Tryz.sizeOf264
  v233 := Tryz.zeroValue264
  g17 := by kernel_rfl
  g18 := by kernel_rfl
  g19 := by kernel_rfl
  i0 := by kernel_rfl
  i2 := by kernel_rfl
  i3 := by kernel_rfl
  i4 := by kernel_rfl
  i5 := by kernel_rfl
  i9 := by kernel_rfl
  i20 := by kernel_rfl
  i37 := by kernel_rfl
  i46 := by kernel_rfl
  i51 := by kernel_rfl
  i53 := by kernel_rfl
  i171 := by kernel_rfl
  i173 := by kernel_rfl
  i212 := by kernel_rfl
  i232 := by kernel_rfl
  i233 := by kernel_rfl
  m17 := by kernel_rfl
  m18 := by kernel_rfl
  m19 := by kernel_rfl }
open Go.RowKit Go.Sort Go.Lib in
theorem Tryz.strconv_Itoa (n : Int) (h0 : -9223372036854775808 ≤ n) (h1 : n ≤ 9223372036854775807) (w : World) (htab : Lib.TabIs Tryz.prog w "internal/strconv.uint64pow10" .u64 Lib.pow10Tab) :
    Calls Tryz.prog 166 #[.int .i64 n] w fun e w' => e = .returned (.string ⟨(Lib.itoa n).toArray⟩) ∧ ∃ k os, w' = grow (w.drewN k) os := Any.strconv_Itoa Tryz.laysM171 n h0 h1 w htab
def Tryz.laysC172_ren : Go.Shelf.Ren := ⟨fun | 172 => 170 | 244 => 209 | 245 => 210 | 247 => 234 | 279 => 235 | 280 => 236 | 281 => 237 | 282 => 238 | 287 => 268 | 316 => 269 | 171 => 166 | 205 => 270 | 321 => 285 | 322 => 286 | 243 => 206 | 246 => 231 | 283 => 264 | 284 => 265 | 285 => 266 | 286 => 267 | 129 => 263 | 317 => 281 | 318 => 282 | 319 => 283 | 320 => 284 | 337 => 288 | 338 => 289 | n => n, fun | 9 => 9 | 3 => 3 | 75 => 164 | 76 => 165 | 4 => 4 | 5 => 5 | 167 => 207 | 37 => 51 | 0 => 0 | 85 => 208 | 2 => 2 | 168 => 210 | 53 => 231 | 175 => 236 | 46 => 180 | 210 => 239 | 127 => 185 | 145 => 259 | 143 => 257 | 21 => 21 | 171 => 232 | 173 => 234 | 212 => 255 | 51 => 229 | 20 => 20 | 213 => 256 | 232 => 263 | 233 => 264 | 80 => 167 | n => n, fun | 15 => 2 | 16 => 3 | 17 => 6 | 18 => 7 | 19 => 8 | n => n⟩
theorem Tryz.laysC172 : Go.Proofs.LaysC.n172 Tryz.prog Tryz.laysC172_ren := {
  mixed := by kernel_rfl
  f129 := Tryz.func263.trans (congrArg some (by kernel_rfl))
  f171 := Tryz.func166.trans (congrArg some (by kernel_rfl))
  f172 := Tryz.func170.trans (congrArg some (by kernel_rfl))
  f205 := Tryz.func270.trans (congrArg some (by kernel_rfl))
  f243 := Tryz.func206.trans (congrArg some (by kernel_rfl))
  f244 := Tryz.func209.trans (congrArg some (by kernel_rfl))
  f245 := Tryz.func210.trans (congrArg some (by kernel_rfl))
  f246 := Tryz.func231.trans (congrArg some (by kernel_rfl))
  f247 := Tryz.func234.trans (congrArg some (by kernel_rfl))
  f279 := Tryz.func235.trans (congrArg some (by kernel_rfl))
  f280 := Tryz.func236.trans (congrArg some (by kernel_rfl))
  f281 := Tryz.func237.trans (congrArg some (by kernel_rfl))
  f282 := Tryz.func238.trans (congrArg some (by kernel_rfl))
  f283 := Tryz.func264.trans (congrArg some (by kernel_rfl))
  f284 := Tryz.func265.trans (congrArg some (by kernel_rfl))
  f285 := Tryz.func266.trans (congrArg some (by kernel_rfl))
  f286 := Tryz.func267.trans (congrArg some (by kernel_rfl))
  f287 := Tryz.func268.trans (congrArg some (by kernel_rfl))
  f316 := Tryz.func269.trans (congrArg some (by kernel_rfl))
  f317 := Tryz.func281.trans (congrArg some (by kernel_rfl))
  f318 := Tryz.func282.trans (congrArg some (by kernel_rfl))
  f319 := Tryz.func283.trans (congrArg some (by kernel_rfl))
  f320 := Tryz.func284.trans (congrArg some (by kernel_rfl))
  f321 := Tryz.func285.trans (congrArg some (by kernel_rfl))
  f322 := Tryz.func286.trans (congrArg some (by kernel_rfl))
  f337 := Tryz.func288.trans (congrArg some (by kernel_rfl))
  f338 := Tryz.func289.trans (congrArg some (by kernel_rfl))
  t0 := Tryz.underlying0
  a0 := Tryz.isAgg0
  z0 := Tryz.sizeOf0
  v0 := Tryz.zeroValue0
  t2 := Tryz.underlying2
  a2 := Tryz.isAgg2
  z2 := Tryz.sizeOf2
  v2 := Tryz.zeroValue2
  t3 := Tryz.underlying3
  a3 := Tryz.isAgg3
  z3 := Tryz.sizeOf3
  v3 := Tryz.zeroValue3
  t4 := Tryz.underlying4
  a4 := Tryz.isAgg4
  z4 := Tryz.sizeOf4
  v4 := Tryz.zeroValue4
  t5 := Tryz.underlying5
  a5 := Tryz.isAgg5
  z5 := Tryz.sizeOf5
  v5 := Tryz.zeroValue5
  t9 := Tryz.underlying9
  a9 := Tryz.isAgg9
  z9 := Tryz.sizeOf9
  v9 := Tryz.zeroValue9
  t20 := Tryz.underlying20
  a20 := Tryz.isAgg20
  z20 := Tryz.sizeOf20
  v20 := Tryz.zeroValue20
  t21 := Tryz.underlying21
  a21 := Tryz.isAgg21
  z21 := Tryz.sizeOf21
  v21 := Tryz.zeroValue21
  t37 := Tryz.underlying51
  a37 := Tryz.isAgg51
  z37 := Tryz.sizeOf51
  v37 := Tryz.zeroValue51
  t46 := Tryz.underlying180
  a46 := Tryz.isAgg180
  z46 := Tryz.sizeOf180
  v46 := Tryz.zeroValue180
  t51 := Tryz.underlying229
  a51 := Tryz.isAgg229
  z51 := Tryz.sizeOf229
  v51 := Tryz.zeroValue229
  t53 := Tryz.underlying231
  a53 := Tryz.isAgg231
  z53 := Tryz.sizeOf231
  v53 := Tryz.zeroValue231
  t75 := Tryz.underlying164
  a75 := Tryz.isAgg164
  z75 := Tryz.sizeOf164
  v75 := Tryz.zeroValue164
  t76 := Tryz.underlying165
  a76 := Tryz.isAgg165
  z76 := Tryz.sizeOf165
  v76 := Tryz.zeroValue165
  t85 := Tryz.underlying208
  a85 := Tryz.isAgg208
  z85 := Tryz.sizeOf208
  v85 := Tryz.zeroValue208
  t127 := Tryz.underlying185
  a127 := Tryz.isAgg185
  z127 := Tryz.sizeOf185
  v127 := Tryz.zeroValue185
  t143 := Tryz.underlying257
  a143 := Tryz.isAgg257
  z143 := Tryz.sizeOf257
  v143 := Tryz.zeroValue257
  t145 := Tryz.underlying259
  a145 := Tryz.isAgg259
  z145 := Tryz.sizeOf259
  v145 := Tryz.zeroValue259
  t167 := Tryz.underlying207
  a167 := Tryz.isAgg207
  z167 := Tryz.sizeOf207
  v167 := Tryz.zeroValue207
  t168 := Tryz.underlying210
  a168 := Tryz.isAgg210
  z168 := Tryz.sizeOf210
  v168 := Tryz.zeroValue210
  t171 := Tryz.underlying232
  a171 := Tryz.isAgg232
  z171 := Tryz.sizeOf232
  v171 := Tryz.zeroValue232
  t173 := Tryz.underlying234
  a173 := Tryz.isAgg234
  z173 := Tryz.sizeOf234
  v173 := Tryz.zeroValue234
  t175 := Tryz.underlying236
  a175 := Tryz.isAgg236
  z175 := Tryz.sizeOf236
  v175 := Tryz.zeroValue236
  t210 := Tryz.underlying239
  a210 := Tryz.isAgg239
  z210 := Tryz.sizeOf239
  v210 := Tryz.zeroValue239
  t212 := Tryz.underlying255
  a212 := Tryz.isAgg255
  z212 := Tryz.sizeOf255
  v212 := Tryz.zeroValue255
  t213 := Tryz.underlying256
  a213 := Tryz.isAgg256
  z213 := Tryz.sizeOf256
  t232 := Tryz.underlying263
  a232 := Tryz.isAgg263
  z232 := Tryz.sizeOf263
  v232 := Tryz.zeroValue263
  t233 := Tryz.underlying264
  a233 := Tryz.isAgg264
  z233 := Tryz.sizeOf264
  v233 := Tryz.zeroValue264
  g15 := by kernel_rfl
  g16 := by kernel_rfl
  g17 := by kernel_rfl
  g18 := by kernel_rfl
  g19 := by kernel_rfl
  t80 := Tryz.underlying167
  a80 := Tryz.isAgg167
  z80 := Tryz.sizeOf167
  v80 := Tryz.zeroValue167
  i0 := by kernel_rfl
  i2 := by kernel_rfl
  i3 := by kernel_rfl
  i4 := by kernel_rfl
  i5 := by kernel_rfl
  i9 := by kernel_rfl
  i20 := by kernel_rfl
  i21 := by kernel_rfl
  i37 := by kernel_rfl
  i46 := by kernel_rfl
  i51 := by kernel_rfl
  i53 := by kernel_rfl
  i75 := by kernel_rfl
  i76 := by kernel_rfl
  i80 := by kernel_rfl
  i85 := by kernel_rfl
  i127 := by kernel_rfl
  i143 := by kernel_rfl
  i145 := by kernel_rfl
  i167 := by kernel_rfl
  i168 := by kernel_rfl
  i171 := by kernel_rfl
  i173 := by kernel_rfl
  i175 := by kernel_rfl
  i210 := by kernel_rfl
  i212 := by kernel_rfl
  i232 := by kernel_rfl
  i233 := by kernel_rfl
  m15 := by kernel_rfl
  m16 := by kernel_rfl
  m17 := by kernel_rfl
  m18 := by kernel_rfl
  m19 := by kernel_rfl
  c0 := by kernel_rfl
  c2 := by kernel_rfl
  c3 := by kernel_rfl
  c4 := by kernel_rfl
  c5 := by kernel_rfl
  c9 := by kernel_rfl
  c20 := by kernel_rfl
  c21 := by kernel_rfl
  c37 := by kernel_rfl
  c46 := by kernel_rfl
  c51 := by kernel_rfl
  c53 := by kernel_rfl
  c75 := by kernel_rfl
  c76 := by kernel_rfl
  c80 := by kernel_rfl
  c85 := by kernel_rfl
  c127 := by kernel_rfl
  c143 := by kernel_rfl
  c145 := by kernel_rfl
  c167 := by kernel_rfl
  c168 := by kernel_rfl
  c171 := by kernel_rfl
  c173 := by kernel_rfl
  c175 := by kernel_rfl
  c210 := by kernel_rfl
  c212 := by kernel_rfl
  c213 := by kernel_rfl
  c232 := by kernel_rfl
  c233 := by kernel_rfl }
open Go.RowKit in
theorem Tryz.strconv_Atoi_ok (s : ByteArray) (hmax : s.size ≤ 9223372036854775806) (v : Int) (h : Lib.atoiAll s.data.toList = .ok v) (w : World) :
    Calls Tryz.prog 170 #[.string s] w fun e w' => e = .returned (.tuple #[.int .i64 v, .nilIface]) ∧ (w' = w ∨ ∃ t, w' = Lib.bytesWorld w 5 t) := Any.strconv_Atoi_ok Tryz.laysC172 s hmax v h w
open Go.RowKit in
theorem Tryz.strconv_Atoi_syntax (s : ByteArray) (hlim : s.size ≤ 281474976710656) (h : Lib.atoiAll s.data.toList = .«syntax») (ev : Value) (w : World) (hv : w.cell? ⟨2, 0, none⟩ = some ev) (hev : ev = .nilIface ∨ ∃ te pe, ev = .iface te pe) :
    Calls Tryz.prog 170 #[.string s] w fun e w' => ∃ N, e = .returned (.tuple #[.int .i64 (0), .iface 210 (.pointer (some ⟨N, 0, none⟩))]) ∧ w.heap.size ≤ N ∧ w'.heap[N]? = some (.cells #[.string ⟨#[65, 116, 111, 105]⟩, .string s, ev] 239 (0, 0)) ∧ Below w.heap.size w w' := Any.strconv_Atoi_syntax Tryz.laysC172 s hlim h ev w hv hev
open Go.RowKit in
theorem Tryz.strconv_Atoi_range (s : ByteArray) (hlim : s.size ≤ 281474976710656) (h : Lib.atoiAll s.data.toList = .range) (ev : Value) (w : World) (hv : w.cell? ⟨3, 0, none⟩ = some ev) (hev : ev = .nilIface ∨ ∃ te pe, ev = .iface te pe) :
    Calls Tryz.prog 170 #[.string s] w fun e w' => ∃ N, e = .returned (.tuple #[.int .i64 (Lib.atoiSat s.data.toList), .iface 210 (.pointer (some ⟨N, 0, none⟩))]) ∧ w.heap.size ≤ N ∧ w'.heap[N]? = some (.cells #[.string ⟨#[65, 116, 111, 105]⟩, .string s, ev] 239 (0, 0)) ∧ Below w.heap.size w w' := Any.strconv_Atoi_range Tryz.laysC172 s hlim h ev w hv hev
def Tryz.lays219_ren : Go.Shelf.Ren := ⟨fun | 219 => 214 | 217 => 240 | 225 => 241 | 224 => 242 | 267 => 243 | 266 => 271 | 314 => 272 | n => n, fun | 9 => 9 | 3 => 3 | 4 => 4 | 5 => 5 | 46 => 180 | 146 => 245 | 51 => 229 | n => n, fun | 1 => 1 | n => n⟩
def Tryz.lays143_ren : Go.Shelf.Ren := ⟨fun | 143 => 173 | 219 => 214 | 217 => 240 | 225 => 241 | 224 => 242 | 267 => 243 | 266 => 271 | 314 => 272 | n => n, fun | 9 => 9 | 3 => 3 | 4 => 4 | 5 => 5 | 46 => 180 | 146 => 245 | 51 => 229 | n => n, fun | 1 => 1 | n => n⟩
theorem Tryz.lays143 : Go.Proofs.Lays.n143 Tryz.prog Tryz.lays143_ren := {
  mixed := by kernel_rfl
  f143 := Tryz.func173.trans (congrArg some (by kernel_rfl))
  f217 := Tryz.func240.trans (congrArg some (by kernel_rfl))
  f219 := Tryz.func214.trans (congrArg some (by kernel_rfl))
  f224 := Tryz.func242.trans (congrArg some (by kernel_rfl))
  f225 := Tryz.func241.trans (congrArg some (by kernel_rfl))
  f266 := Tryz.func271.trans (congrArg some (by kernel_rfl))
  f267 := Tryz.func243.trans (congrArg some (by kernel_rfl))
  f314 := Tryz.func272.trans (congrArg some (by kernel_rfl))
  t3 := Tryz.underlying3
  a3 := Tryz.isAgg3
  z3 := Tryz.sizeOf3
  v3 := Tryz.zeroValue3
  t4 := Tryz.underlying4
  a4 := Tryz.isAgg4
  z4 := Tryz.sizeOf4
  v4 := Tryz.zeroValue4
  t5 := Tryz.underlying5
  a5 := Tryz.isAgg5
  z5 := Tryz.sizeOf5
  v5 := Tryz.zeroValue5
  t9 := Tryz.underlying9
  a9 := Tryz.isAgg9
  z9 := Tryz.sizeOf9
  v9 := Tryz.zeroValue9
  t46 := Tryz.underlying180
  a46 := Tryz.isAgg180
  z46 := Tryz.sizeOf180
  v46 := Tryz.zeroValue180
  t51 := Tryz.underlying229
  a51 := Tryz.isAgg229
  z51 := Tryz.sizeOf229
  v51 := Tryz.zeroValue229
  t146 := Tryz.underlying245
  a146 := Tryz.isAgg245
  z146 := Tryz.sizeOf245
  v146 := Tryz.zeroValue245
  g1 := by kernel_rfl }
open Go.RowKit Go.Lib in
theorem Tryz.strings_Index_one (s : ByteArray) (c : UInt8) (w : World) :
    Calls Tryz.prog 173 #[.string s, .string ⟨#[c]⟩] w fun e w' => e = .returned (.int .i64 (Lib.indexByte s.data.toList c)) ∧ w' = w := Any.strings_Index_one Tryz.lays143 s c w
def Tryz.lays138_ren : Go.Shelf.Ren := ⟨fun | 138 => 172 | 195 => 211 | 218 => 213 | 143 => 173 | 219 => 214 | 217 => 240 | 225 => 241 | 224 => 242 | 267 => 243 | 266 => 271 | 314 => 272 | n => n, fun | 9 => 9 | 3 => 3 | 4 => 4 | 5 => 5 | 0 => 0 | 46 => 180 | 146 => 245 | 51 => 229 | n => n, fun | 1 => 1 | n => n⟩
theorem Tryz.lays138 : Go.Proofs.Lays.n138 Tryz.prog Tryz.lays138_ren := {
  mixed := by kernel_rfl
  f138 := Tryz.func172.trans (congrArg some (by kernel_rfl))
  f143 := Tryz.func173.trans (congrArg some (by kernel_rfl))
  f195 := Tryz.func211.trans (congrArg some (by kernel_rfl))
  f217 := Tryz.func240.trans (congrArg some (by kernel_rfl))
  f218 := Tryz.func213.trans (congrArg some (by kernel_rfl))
  f219 := Tryz.func214.trans (congrArg some (by kernel_rfl))
  f224 := Tryz.func242.trans (congrArg some (by kernel_rfl))
  f225 := Tryz.func241.trans (congrArg some (by kernel_rfl))
  f266 := Tryz.func271.trans (congrArg some (by kernel_rfl))
  f267 := Tryz.func243.trans (congrArg some (by kernel_rfl))
  f314 := Tryz.func272.trans (congrArg some (by kernel_rfl))
  t0 := Tryz.underlying0
  a0 := Tryz.isAgg0
  z0 := Tryz.sizeOf0
  v0 := Tryz.zeroValue0
  t3 := Tryz.underlying3
  a3 := Tryz.isAgg3
  z3 := Tryz.sizeOf3
  v3 := Tryz.zeroValue3
  t4 := Tryz.underlying4
  a4 := Tryz.isAgg4
  z4 := Tryz.sizeOf4
  v4 := Tryz.zeroValue4
  t5 := Tryz.underlying5
  a5 := Tryz.isAgg5
  z5 := Tryz.sizeOf5
  v5 := Tryz.zeroValue5
  t9 := Tryz.underlying9
  a9 := Tryz.isAgg9
  z9 := Tryz.sizeOf9
  v9 := Tryz.zeroValue9
  t46 := Tryz.underlying180
  a46 := Tryz.isAgg180
  z46 := Tryz.sizeOf180
  v46 := Tryz.zeroValue180
  t51 := Tryz.underlying229
  a51 := Tryz.isAgg229
  z51 := Tryz.sizeOf229
  v51 := Tryz.zeroValue229
  t146 := Tryz.underlying245
  a146 := Tryz.isAgg245
  z146 := Tryz.sizeOf245
  v146 := Tryz.zeroValue245
  g1 := by kernel_rfl }
open Go.RowKit Go.Lib in
theorem Tryz.strings_Count_one (s : ByteArray) (c : UInt8) (w : World) :
    Calls Tryz.prog 172 #[.string s, .string ⟨#[c]⟩] w fun e w' => e = .returned (.int .i64 (Lib.countByte s.data.toList c)) ∧ w' = w := Any.strings_Count_one Tryz.lays138 s c w
def Tryz.lays190_ren : Go.Shelf.Ren := ⟨fun | 190 => 190 | 125 => 229 | 258 => 228 | 128 => 262 | 129 => 263 | 302 => 253 | 303 => 254 | 304 => 255 | 305 => 256 | 306 => 257 | 307 => 258 | 308 => 259 | 309 => 260 | 310 => 261 | 333 => 275 | 329 => 276 | 330 => 277 | 334 => 278 | 335 => 279 | 336 => 280 | 344 => 287 | n => n, fun | 31 => 57 | 9 => 9 | 3 => 3 | 46 => 180 | 0 => 0 | 51 => 229 | 53 => 231 | 4 => 4 | 183 => 223 | 182 => 222 | 131 => 139 | 5 => 5 | 218 => 248 | 222 => 252 | 228 => 260 | 229 => 261 | n => n, fun | n => n⟩
theorem Tryz.lays190 : Go.Proofs.Lays.n190 Tryz.prog Tryz.lays190_ren := {
  mixed := by kernel_rfl
  f125 := Tryz.func229.trans (congrArg some (by kernel_rfl))
  f128 := Tryz.func262.trans (congrArg some (by kernel_rfl))
  f129 := Tryz.func263.trans (congrArg some (by kernel_rfl))
  f190 := Tryz.func190.trans (congrArg some (by kernel_rfl))
  f258 := Tryz.func228.trans (congrArg some (by kernel_rfl))
  f302 := Tryz.func253.trans (congrArg some (by kernel_rfl))
  f303 := Tryz.func254.trans (congrArg some (by kernel_rfl))
  f304 := Tryz.func255.trans (congrArg some (by kernel_rfl))
  f305 := Tryz.func256.trans (congrArg some (by kernel_rfl))
  f306 := Tryz.func257.trans (congrArg some (by kernel_rfl))
  f307 := Tryz.func258.trans (congrArg some (by kernel_rfl))
  f308 := Tryz.func259.trans (congrArg some (by kernel_rfl))
  f309 := Tryz.func260.trans (congrArg some (by kernel_rfl))
  f310 := Tryz.func261.trans (congrArg some (by kernel_rfl))
  f329 := Tryz.func276.trans (congrArg some (by kernel_rfl))
  f330 := Tryz.func277.trans (congrArg some (by kernel_rfl))
  f333 := Tryz.func275.trans (congrArg some (by kernel_rfl))
  f334 := Tryz.func278.trans (congrArg some (by kernel_rfl))
  f335 := Tryz.func279.trans (congrArg some (by kernel_rfl))
  f336 := Tryz.func280.trans (congrArg some (by kernel_rfl))
  f344 := Tryz.func287.trans (congrArg some (by kernel_rfl))
  t0 := Tryz.underlying0
  a0 := Tryz.isAgg0
  z0 := Tryz.sizeOf0
  v0 := Tryz.zeroValue0
  t3 := Tryz.underlying3
  a3 := Tryz.isAgg3
  z3 := Tryz.sizeOf3
  v3 := Tryz.zeroValue3
  t4 := Tryz.underlying4
  a4 := Tryz.isAgg4
  z4 := Tryz.sizeOf4
  v4 := Tryz.zeroValue4
  t5 := Tryz.underlying5
  a5 := Tryz.isAgg5
  z5 := Tryz.sizeOf5
  v5 := Tryz.zeroValue5
  t9 := Tryz.underlying9
  a9 := Tryz.isAgg9
  z9 := Tryz.sizeOf9
  v9 := Tryz.zeroValue9
  t31 := Tryz.underlying57
  a31 := Tryz.isAgg57
  z31 := Tryz.sizeOf57
  v31 := Tryz.zeroValue57
  t46 := Tryz.underlying180
  a46 := Tryz.isAgg180
  z46 := Tryz.sizeOf180
  v46 := Tryz.zeroValue180
  t51 := Tryz.underlying229
  a51 := Tryz.isAgg229
  z51 := Tryz.sizeOf229
  v51 := Tryz.zeroValue229
  t53 := Tryz.underlying231
  a53 := Tryz.isAgg231
  z53 := Tryz.sizeOf231
  v53 := Tryz.zeroValue231
  t131 := Tryz.underlying139
  a131 := Tryz.isAgg139
  z131 := Tryz.sizeOf139
  v131 := Tryz.zeroValue139
  t182 := Tryz.underlying222
  a182 := Tryz.isAgg222
  z182 := Tryz.sizeOf222
  v182 := Tryz.zeroValue222
  t183 := Tryz.underlying223
  a183 := Tryz.isAgg223
  z183 := Tryz.sizeOf223
  v183 := Tryz.zeroValue223
  t218 := Tryz.underlying248
  a218 := Tryz.isAgg248
  z218 := Tryz.sizeOf248
  v218 := Tryz.zeroValue248
  t222 := Tryz.underlying252
  a222 := Tryz.isAgg252
  z222 := Tryz.sizeOf252
  v222 := Tryz.zeroValue252
  t228 := Tryz.underlying260
  a228 := Tryz.isAgg260
  z228 := Tryz.sizeOf260
  v228 := Tryz.zeroValue260
  t229 := Tryz.underlying261
  a229 := Tryz.isAgg261
  z229 := Tryz.sizeOf261
  v229 := Tryz.zeroValue261 }
open Go.Sort Go.RowKit in
theorem Tryz.slices_Sort_string (blk off cap : Nat) (ss : List (List UInt8)) (w : World) (hH : Holds encStr w blk off ss.toArray) (hblk : blk < w.heap.size) (hsz : ss.length < 4611686018427387904) :
    Calls Tryz.prog 190 #[.slice (some ⟨blk, off, none⟩) ss.length cap] w fun e w' =>
      e = .returned (.tuple #[]) ∧ ∃ n os, w' = grow (putRow encStr (Sort.ahead w n) blk off (ss.mergeSort fun x y => decide (x ≤ y)).toArray) os := Any.slices_Sort_string Tryz.lays190 blk off cap ss w hH hblk hsz
def Tryz.lays207_ren : Go.Shelf.Ren := ⟨fun | 207 => 196 | n => n, fun | 9 => 9 | 4 => 4 | 3 => 3 | n => n, fun | n => n⟩
def Tryz.lays100_ren : Go.Shelf.Ren := ⟨fun | 100 => 148 | 207 => 196 | n => n, fun | 9 => 9 | 4 => 4 | 3 => 3 | n => n, fun | n => n⟩
theorem Tryz.lays100 : Go.Proofs.Lays.n100 Tryz.prog Tryz.lays100_ren := {
  mixed := by kernel_rfl
  f100 := Tryz.func148.trans (congrArg some (by kernel_rfl))
  f207 := Tryz.func196.trans (congrArg some (by kernel_rfl))
  t3 := Tryz.underlying3
  a3 := Tryz.isAgg3
  z3 := Tryz.sizeOf3
  v3 := Tryz.zeroValue3
  t4 := Tryz.underlying4
  a4 := Tryz.isAgg4
  z4 := Tryz.sizeOf4
  v4 := Tryz.zeroValue4
  t9 := Tryz.underlying9
  a9 := Tryz.isAgg9
  z9 := Tryz.sizeOf9
  v9 := Tryz.zeroValue9 }
open Go.RowKit Go.Lib in
theorem Tryz.strings_HasSuffix (s p : ByteArray) (w : World) (hs : s.size ≤ 9223372036854775807) :
    Calls Tryz.prog 148 #[.string s, .string p] w fun e w' => e = .returned (.bool (Lib.hasSuffix s.data.toList p.data.toList)) ∧ w' = w := Any.strings_HasSuffix Tryz.lays100 s p w hs
def Tryz.lays102_ren : Go.Shelf.Ren := ⟨fun | 102 => 219 | 209 => 249 | 207 => 196 | n => n, fun | 9 => 9 | 4 => 4 | 3 => 3 | n => n, fun | n => n⟩
theorem Tryz.lays102 : Go.Proofs.Lays.n102 Tryz.prog Tryz.lays102_ren := {
  mixed := by kernel_rfl
  f102 := Tryz.func219.trans (congrArg some (by kernel_rfl))
  f207 := Tryz.func196.trans (congrArg some (by kernel_rfl))
  f209 := Tryz.func249.trans (congrArg some (by kernel_rfl))
  t3 := Tryz.underlying3
  a3 := Tryz.isAgg3
  z3 := Tryz.sizeOf3
  v3 := Tryz.zeroValue3
  t4 := Tryz.underlying4
  a4 := Tryz.isAgg4
  z4 := Tryz.sizeOf4
  v4 := Tryz.zeroValue4
  t9 := Tryz.underlying9
  a9 := Tryz.isAgg9
  z9 := Tryz.sizeOf9
  v9 := Tryz.zeroValue9 }
open Go.RowKit Go.Lib in
theorem Tryz.strings_TrimSuffix (s p : ByteArray) (w : World) (hs : s.size ≤ 9223372036854775807) :
    Calls Tryz.prog 219 #[.string s, .string p] w fun e w' => e = .returned (.string ⟨(Lib.trimSuffix s.data.toList p.data.toList).toArray⟩) ∧ w' = w := Any.strings_TrimSuffix Tryz.lays102 s p w hs
def Tryz.lays221_ren : Go.Shelf.Ren := ⟨fun | 221 => 127 | 268 => 171 | 138 => 172 | 143 => 173 | 195 => 211 | 197 => 212 | 218 => 213 | 219 => 214 | 260 => 239 | 217 => 240 | 225 => 241 | 224 => 242 | 267 => 243 | 266 => 271 | 314 => 272 | n => n, fun | 9 => 9 | 3 => 3 | 31 => 57 | 4 => 4 | 0 => 0 | 105 => 187 | 21 => 21 | 5 => 5 | 46 => 180 | 119 => 241 | 139 => 244 | 138 => 243 | 146 => 245 | 51 => 229 | n => n, fun | 1 => 1 | 3 => 4 | 4 => 5 | n => n⟩
def Tryz.lays154_ren : Go.Shelf.Ren := ⟨fun | 154 => 250 | 138 => 172 | 165 => 167 | 143 => 173 | 166 => 168 | 197 => 212 | 169 => 169 | 195 => 211 | 218 => 213 | 240 => 207 | 241 => 208 | 219 => 214 | 260 => 239 | 276 => 232 | 277 => 233 | 217 => 240 | 225 => 241 | 224 => 242 | 267 => 243 | 266 => 271 | 314 => 272 | n => n, fun | 9 => 9 | 3 => 3 | 4 => 4 | 72 => 162 | 0 => 0 | 76 => 165 | 105 => 187 | 21 => 21 | 5 => 5 | 70 => 160 | 20 => 20 | 37 => 51 | 75 => 164 | 127 => 185 | 164 => 204 | 46 => 180 | 119 => 241 | 139 => 244 | 138 => 243 | 146 => 245 | 51 => 229 | 80 => 167 | n => n, fun | 1 => 1 | 3 => 4 | 4 => 5 | n => n⟩
def Tryz.lays155_ren : Go.Shelf.Ren := ⟨fun | 155 => 221 | 154 => 250 | 138 => 172 | 165 => 167 | 143 => 173 | 166 => 168 | 197 => 212 | 169 => 169 | 195 => 211 | 218 => 213 | 240 => 207 | 241 => 208 | 219 => 214 | 260 => 239 | 276 => 232 | 277 => 233 | 217 => 240 | 225 => 241 | 224 => 242 | 267 => 243 | 266 => 271 | 314 => 272 | n => n, fun | 9 => 9 | 3 => 3 | 4 => 4 | 72 => 162 | 0 => 0 | 76 => 165 | 105 => 187 | 21 => 21 | 5 => 5 | 70 => 160 | 20 => 20 | 37 => 51 | 75 => 164 | 127 => 185 | 164 => 204 | 46 => 180 | 119 => 241 | 139 => 244 | 138 => 243 | 146 => 245 | 51 => 229 | 80 => 167 | n => n, fun | 1 => 1 | 3 => 4 | 4 => 5 | n => n⟩
theorem Tryz.lays155 : Go.Proofs.Lays.n155 Tryz.prog Tryz.lays155_ren := {
  mixed := by kernel_rfl
  f138 := Tryz.func172.trans (congrArg some (by kernel_rfl))
  f143 := Tryz.func173.trans (congrArg some (by kernel_rfl))
  f154 := Tryz.func250.trans (congrArg some (by kernel_rfl))
  f155 := Tryz.func221.trans (congrArg some (by kernel_rfl))
  f165 := Tryz.func167.trans (congrArg some (by kernel_rfl))
  f166 := Tryz.func168.trans (congrArg some (by kernel_rfl))
  f169 := Tryz.func169.trans (congrArg some (by kernel_rfl))
  f195 := Tryz.func211.trans (congrArg some (by kernel_rfl))
  f197 := Tryz.func212.trans (congrArg some (by kernel_rfl))
  f217 := Tryz.func240.trans (congrArg some (by kernel_rfl))
  f218 := Tryz.func213.trans (congrArg some (by kernel_rfl))
  f219 := Tryz.func214.trans (congrArg some (by kernel_rfl))
  f224 := Tryz.func242.trans (congrArg some (by kernel_rfl))
  f225 := Tryz.func241.trans (congrArg some (by kernel_rfl))
  f240 := Tryz.func207.trans (congrArg some (by kernel_rfl))
  f241 := Tryz.func208.trans (congrArg some (by kernel_rfl))
  f260 := Tryz.func239.trans (congrArg some (by kernel_rfl))
  f266 := Tryz.func271.trans (congrArg some (by kernel_rfl))
  f267 := Tryz.func243.trans (congrArg some (by kernel_rfl))
  f276 := Tryz.func232.trans (congrArg some (by kernel_rfl))
  f277 := Tryz.func233.trans (congrArg some (by kernel_rfl))
  f314 := Tryz.func272.trans (congrArg some (by kernel_rfl))
  t0 := Tryz.underlying0
  a0 := Tryz.isAgg0
  z0 := Tryz.sizeOf0
  v0 := Tryz.zeroValue0
  t3 := Tryz.underlying3
  a3 := Tryz.isAgg3
  z3 := Tryz.sizeOf3
  v3 := Tryz.zeroValue3
  t4 := Tryz.underlying4
  a4 := Tryz.isAgg4
  z4 := Tryz.sizeOf4
  v4 := Tryz.zeroValue4
  t5 := Tryz.underlying5
  a5 := Tryz.isAgg5
  z5 := Tryz.sizeOf5
  v5 := Tryz.zeroValue5
  t9 := Tryz.underlying9
  a9 := Tryz.isAgg9
  z9 := Tryz.sizeOf9
  v9 := Tryz.zeroValue9
  t20 := Tryz.underlying20
  a20 := Tryz.isAgg20
  z20 := Tryz.sizeOf20
  v20 := Tryz.zeroValue20
  t21 := Tryz.underlying21
  a21 := Tryz.isAgg21
  z21 := Tryz.sizeOf21
  v21 := Tryz.zeroValue21
  t37 := Tryz.underlying51
  a37 := Tryz.isAgg51
  z37 := Tryz.sizeOf51
  v37 := Tryz.zeroValue51
  t46 := Tryz.underlying180
  a46 := Tryz.isAgg180
  z46 := Tryz.sizeOf180
  v46 := Tryz.zeroValue180
  t51 := Tryz.underlying229
  a51 := Tryz.isAgg229
  z51 := Tryz.sizeOf229
  v51 := Tryz.zeroValue229
  t70 := Tryz.underlying160
  a70 := Tryz.isAgg160
  z70 := Tryz.sizeOf160
  v70 := Tryz.zeroValue160
  t72 := Tryz.underlying162
  a72 := Tryz.isAgg162
  z72 := Tryz.sizeOf162
  v72 := Tryz.zeroValue162
  t75 := Tryz.underlying164
  a75 := Tryz.isAgg164
  z75 := Tryz.sizeOf164
  v75 := Tryz.zeroValue164
  t76 := Tryz.underlying165
  a76 := Tryz.isAgg165
  z76 := Tryz.sizeOf165
  v76 := Tryz.zeroValue165
  t105 := Tryz.underlying187
  a105 := Tryz.isAgg187
  z105 := Tryz.sizeOf187
  v105 := Tryz.zeroValue187
  t119 := Tryz.underlying241
  a119 := Tryz.isAgg241
  z119 := Tryz.sizeOf241
  t127 := Tryz.underlying185
  a127 := Tryz.isAgg185
  z127 := Tryz.sizeOf185
  v127 := Tryz.zeroValue185
  t138 := Tryz.underlying243
  a138 := Tryz.isAgg243
  z138 := Tryz.sizeOf243
  v138 := Tryz.zeroValue243
  t139 := Tryz.underlying244
  a139 := Tryz.isAgg244
  z139 := Tryz.sizeOf244
  v139 := Tryz.zeroValue244
  t146 := Tryz.underlying245
  a146 := Tryz.isAgg245
  z146 := Tryz.sizeOf245
  v146 := Tryz.zeroValue245
  t164 := Tryz.underlying204
  a164 := Tryz.isAgg204
  z164 := Tryz.sizeOf204
  v164 := Tryz.zeroValue204
  g1 := by kernel_rfl
  g3 := by kernel_rfl
  g4 := by kernel_rfl }
theorem Tryz.Builder_Extra_155 : Builder.Extra Tryz.prog Tryz.lays155_ren := {
  sizeBuilder := by kernel_rfl
  liesBuilder := by kernel_rfl
  t5 := Tryz.underlying5
  a5 := Tryz.isAgg5
  z5 := Tryz.sizeOf5
  v5 := Tryz.zeroValue5
  infoByte := by kernel_rfl
  cellsByte := by kernel_rfl
  sizeByte := by kernel_rfl
  neB5 := by decide }
open Go.RowKit Go.Lib in
theorem Tryz.strings_ReplaceAll (s old new : ByteArray) (m : Int) (w : World) (hs : s.size < 4294967281) (hm : w.cell? ⟨1, 0, none⟩ = some (.int .i64 m)) (h1 : 1 ≤ old.size) (hlen : s.size + Lib.countB s old * new.size ≤ 140737488355328) :
    Calls Tryz.prog 221 #[.string s, .string old, .string new] w fun e w' =>
      e = .returned (.string ⟨(Lib.replaceAll s.data.toList old.data.toList new.data.toList).toArray⟩) ∧ Below w.heap.size w w' := Any.strings_ReplaceAll Tryz.lays155 Tryz.Builder_Extra_155 s old new m w hs hm h1 hlen
def Tryz.lays150_ren : Go.Shelf.Ren := ⟨fun | 150 => 177 | 153 => 215 | 152 => 244 | 226 => 245 | 227 => 246 | 228 => 247 | 137 => 273 | 119 => 274 | 224 => 242 | 225 => 241 | 217 => 240 | 266 => 271 | n => n, fun | 9 => 9 | 4 => 4 | 3 => 3 | 5 => 5 | 21 => 21 | 117 => 217 | 116 => 216 | 0 => 0 | 46 => 180 | 124 => 247 | n => n, fun | n => n⟩
theorem Tryz.lays150 : Go.Proofs.Lays.n150 Tryz.prog Tryz.lays150_ren := {
  mixed := by kernel_rfl
  f119 := Tryz.func274.trans (congrArg some (by kernel_rfl))
  f137 := Tryz.func273.trans (congrArg some (by kernel_rfl))
  f150 := Tryz.func177.trans (congrArg some (by kernel_rfl))
  f152 := Tryz.func244.trans (congrArg some (by kernel_rfl))
  f153 := Tryz.func215.trans (congrArg some (by kernel_rfl))
  f217 := Tryz.func240.trans (congrArg some (by kernel_rfl))
  f224 := Tryz.func242.trans (congrArg some (by kernel_rfl))
  f225 := Tryz.func241.trans (congrArg some (by kernel_rfl))
  f226 := Tryz.func245.trans (congrArg some (by kernel_rfl))
  f227 := Tryz.func246.trans (congrArg some (by kernel_rfl))
  f228 := Tryz.func247.trans (congrArg some (by kernel_rfl))
  f266 := Tryz.func271.trans (congrArg some (by kernel_rfl))
  t0 := Tryz.underlying0
  a0 := Tryz.isAgg0
  z0 := Tryz.sizeOf0
  v0 := Tryz.zeroValue0
  t3 := Tryz.underlying3
  a3 := Tryz.isAgg3
  z3 := Tryz.sizeOf3
  v3 := Tryz.zeroValue3
  t4 := Tryz.underlying4
  a4 := Tryz.isAgg4
  z4 := Tryz.sizeOf4
  v4 := Tryz.zeroValue4
  t5 := Tryz.underlying5
  a5 := Tryz.isAgg5
  z5 := Tryz.sizeOf5
  v5 := Tryz.zeroValue5
  t9 := Tryz.underlying9
  a9 := Tryz.isAgg9
  z9 := Tryz.sizeOf9
  v9 := Tryz.zeroValue9
  t21 := Tryz.underlying21
  a21 := Tryz.isAgg21
  z21 := Tryz.sizeOf21
  v21 := Tryz.zeroValue21
  t46 := Tryz.underlying180
  a46 := Tryz.isAgg180
  z46 := Tryz.sizeOf180
  v46 := Tryz.zeroValue180
  t116 := Tryz.underlying216
  a116 := Tryz.isAgg216
  z116 := Tryz.sizeOf216
  t117 := Tryz.underlying217
  a117 := Tryz.isAgg217
  z117 := Tryz.sizeOf217
  v117 := Tryz.zeroValue217
  t124 := Tryz.underlying247
  a124 := Tryz.isAgg247
  z124 := Tryz.sizeOf247
  v124 := Tryz.zeroValue247 }
open Go.RowKit Go.Lib in
theorem Tryz.strings_ContainsAny_laid (s chars : ByteArray) (w : World) (hs : s.size < 4294967281) (hcs : chars.size < 4294967281) (has : ∀ (j : Nat) b, s.data.toList[j]? = some b → b.toNat < 128) (hac : ∀ (j : Nat) b, chars.data.toList[j]? = some b → b.toNat < 128) :
    Calls Tryz.prog 177 #[.string s, .string chars] w fun e w' => e = .returned (.bool (Lib.containsAny s.data.toList chars.data.toList)) ∧ Below w.heap.size w w' := Any.strings_ContainsAny_laid Tryz.lays150 (by kernel_rfl) s chars w hs hcs has hac
def Tryz.lays229_ren : Go.Shelf.Ren := ⟨fun | 229 => 192 | n => n, fun | 9 => 9 | 40 => 177 | 31 => 57 | 152 => 199 | 3 => 3 | 0 => 0 | 4 => 4 | 21 => 21 | 154 => 201 | n => n, fun | n => n⟩
theorem Tryz.lays229 : Go.Proofs.Lays.n229 Tryz.prog Tryz.lays229_ren := {
  mixed := by kernel_rfl
  f229 := Tryz.func192.trans (congrArg some (by kernel_rfl))
  t0 := Tryz.underlying0
  a0 := Tryz.isAgg0
  z0 := Tryz.sizeOf0
  v0 := Tryz.zeroValue0
  t3 := Tryz.underlying3
  a3 := Tryz.isAgg3
  z3 := Tryz.sizeOf3
  v3 := Tryz.zeroValue3
  t4 := Tryz.underlying4
  a4 := Tryz.isAgg4
  z4 := Tryz.sizeOf4
  v4 := Tryz.zeroValue4
  t9 := Tryz.underlying9
  a9 := Tryz.isAgg9
  z9 := Tryz.sizeOf9
  v9 := Tryz.zeroValue9
  t21 := Tryz.underlying21
  a21 := Tryz.isAgg21
  z21 := Tryz.sizeOf21
  v21 := Tryz.zeroValue21
  t31 := Tryz.underlying57
  a31 := Tryz.isAgg57
  z31 := Tryz.sizeOf57
  v31 := Tryz.zeroValue57
  t40 := Tryz.underlying177
  a40 := Tryz.isAgg177
  z40 := Tryz.sizeOf177
  v40 := Tryz.zeroValue177
  t152 := Tryz.underlying199
  a152 := Tryz.isAgg199
  z152 := Tryz.sizeOf199
  v152 := Tryz.zeroValue199
  t154 := Tryz.underlying201
  a154 := Tryz.isAgg201
  z154 := Tryz.sizeOf201
  v154 := Tryz.zeroValue201 }
open Go.RowKit Go.Lib in
theorem Tryz.strings_FieldsFunc_grows (g : Nat) (lb : Array Value) (eg : ∀ args w, (callFunc g args).run Tryz.prog w = .ok (.enter g args) w) (p : Nat → Bool) (s : ByteArray) (w : World) (hs : s.size ≤ 4294967296) (hp : PredGrows Tryz.prog g lb p w) :
    Calls Tryz.prog 192 #[.string s, .func (.func g) #[] lb] w fun e w' => ∃ A, e = .returned (.slice (some ⟨A, 0, none⟩) (Lib.goFieldsP p s).length (Lib.goFieldsP p s).length) ∧ w.heap.size ≤ A ∧
      w'.ownsRow w.heap.size 9 1 (.slice (some ⟨A, 0, none⟩) (Lib.goFieldsP p s).length (Lib.goFieldsP p s).length) (Lib.goFieldsP p s).length ((Lib.goFieldsP p s).map Value.string) ∧ Below w.heap.size w w' := Any.strings_FieldsFunc_grows Tryz.lays229 g lb eg p s w hs hp (by kernel_rfl) (by kernel_rfl)
def Tryz.laysNm216_ren : Go.Shelf.Ren := ⟨fun | 16 => 189 | n => n, fun | 24 => 57 | 9 => 9 | 4 => 4 | n => n, fun | n => n⟩
theorem Tryz.laysNm216 : Go.Proofs.Lays2.n16 Tryz.prog Tryz.laysNm216_ren := {
  mixed := by kernel_rfl
  f16 := Tryz.func189.trans (congrArg some (by kernel_rfl))
  t4 := Tryz.underlying4
  a4 := Tryz.isAgg4
  z4 := Tryz.sizeOf4
  v4 := Tryz.zeroValue4
  t9 := Tryz.underlying9
  a9 := Tryz.isAgg9
  z9 := Tryz.sizeOf9
  v9 := Tryz.zeroValue9
  t24 := Tryz.underlying57
  a24 := Tryz.isAgg57
  z24 := Tryz.sizeOf57
  v24 := Tryz.zeroValue57
  i9 := by kernel_rfl }
open Go.RowKit Go.Lib in
theorem Tryz.slices_Clone_string_nil (n c : Nat) (w : World) :
    Calls Tryz.prog 189 #[.slice none n c] w fun e w' => e = .returned (.slice none 0 0) ∧ w' = w := Any.slices_Clone_string_nil Tryz.laysNm216 n c w
open Go.RowKit Go.Lib in
theorem Tryz.slices_Clone_string_zero (a : Addr) (c : Nat) (w : World) :
    Calls Tryz.prog 189 #[.slice (some a) 0 c] w fun e w' => ∃ v', e = .returned v' ∧ w'.ownsRow w.heap.size 9 1 v' 0 [] ∧ v' ≠ .slice none 0 0 ∧ Below w.heap.size w w' := Any.slices_Clone_string_zero Tryz.laysNm216 a c w
def Tryz.lays194_ren : Go.Shelf.Ren := ⟨fun | 194 => 191 | n => n, fun | 31 => 57 | 9 => 9 | 3 => 3 | 4 => 4 | 0 => 0 | n => n, fun | n => n⟩
theorem Tryz.lays194 : Go.Proofs.Lays.n194 Tryz.prog Tryz.lays194_ren := {
  mixed := by kernel_rfl
  f194 := Tryz.func191.trans (congrArg some (by kernel_rfl))
  t0 := Tryz.underlying0
  a0 := Tryz.isAgg0
  z0 := Tryz.sizeOf0
  v0 := Tryz.zeroValue0
  t3 := Tryz.underlying3
  a3 := Tryz.isAgg3
  z3 := Tryz.sizeOf3
  v3 := Tryz.zeroValue3
  t4 := Tryz.underlying4
  a4 := Tryz.isAgg4
  z4 := Tryz.sizeOf4
  v4 := Tryz.zeroValue4
  t9 := Tryz.underlying9
  a9 := Tryz.isAgg9
  z9 := Tryz.sizeOf9
  v9 := Tryz.zeroValue9
  t31 := Tryz.underlying57
  a31 := Tryz.isAgg57
  z31 := Tryz.sizeOf57
  v31 := Tryz.zeroValue57 }
open Go.RowKit Go.Lib Go.Sort in
theorem Tryz.slices_Compact_string_arr (blk off cap : Nat) (d : Array (List UInt8)) (w : World) (hH : Holds encStr w blk off d) (hsz : d.size ≤ 9223372036854775807) (hcap : d.size ≤ cap) :
    Calls Tryz.prog 191 #[.slice (some ⟨blk, off, none⟩) d.size cap] w fun e w' => e = .returned (.slice (some ⟨blk, off, none⟩) (compactUpTo d d.size).length cap) ∧ ∃ q, w' = putRow encStr (Sort.ahead w q) blk off (compactUpTo d d.size ++ List.replicate (d.size - (compactUpTo d d.size).length) []).toArray := Any.slices_Compact_string_arr Tryz.lays194 blk off cap d w hH hsz hcap
open Go.RowKit Go.Lib Go.Sort in
theorem Tryz.slices_Compact_string_empty (a : Option Addr) (cap : Nat) (w : World) :
    Calls Tryz.prog 191 #[.slice a 0 cap] w fun e w' => e = .returned (.slice a 0 cap) ∧ w' = w := Any.slices_Compact_string_empty Tryz.lays194 a cap w
open Go.RowKit Go.Sort in
theorem Tryz.slices_Sort_string_none (p : Option Addr) (cap : Nat) (w : World) :
    Calls Tryz.prog 190 #[.slice p 0 cap] w fun e w' => e = .returned (.tuple #[]) ∧ w' = w := Any.slices_Sort_string_none Tryz.lays190 p cap w
end Go.Proofs

/-
  Numbers as text: contracts.
-/
namespace Go.Sh
open Go Go.Proofs

theorem decDigits_le (u : Nat) : (Lib.decDigits u).length ≤ u / 2 + 1 := by
  induction u using Nat.strongRecOn with
  | _ u ih =>
    by_cases h : u < 10
    · rw [Lib.decDigits, dif_pos h]; simp
    · rw [Lib.decDigits, dif_neg h]
      have := ih (u / 10) (by omega)
      simp; omega
def digz (u : Nat) : List UInt8 := if u = 0 then [] else Lib.decDigits u
theorem digz_step {u : Nat} (h : u ≠ 0) : digz u = digz (u / 10) ++ [UInt8.ofNat (48 + u % 10)] := by
  rw [digz, if_neg h]
  by_cases h1 : u < 10
  · rw [Lib.decDigits, dif_pos h1, digz, if_pos (by omega), Nat.mod_eq_of_lt h1]; rfl
  · rw [Lib.decDigits, dif_neg h1, digz, if_neg (by omega)]
theorem digz_le (u : Nat) : (digz u).length ≤ u / 2 + 1 := by
  rw [digz]; split
  · simp
  · exact decDigits_le u
theorem itoa_eq (n : Int) (h : n ≠ 0) : Lib.itoa n = if n < 0 then 45 :: digz n.natAbs else digz n.natAbs := by
  rw [Lib.itoa]
  split
  · rw [digz, if_neg (by omega)]
  · rw [digz, if_neg (by omega)]; congr 1; omega
theorem abs_quo (m : Int) : (m.tdiv 10).natAbs = m.natAbs / 10 := by
  rcases Int.le_total 0 m with h | h
  · obtain ⟨k, rfl⟩ := Int.eq_ofNat_of_zero_le h
    have e : (k : Int).tdiv 10 = ((k / 10 : Nat) : Int) := (Int.ofNat_tdiv k 10).symm
    rw [e]; simp only [Int.natAbs_natCast]
  · obtain ⟨k, hk⟩ := Int.eq_ofNat_of_zero_le (a := -m) (by omega)
    obtain rfl : m = -(k : Int) := by omega
    have e : (k : Int).tdiv 10 = ((k / 10 : Nat) : Int) := (Int.ofNat_tdiv k 10).symm
    rw [Int.neg_tdiv, e]; omega
theorem quo_sign (m : Int) : (0 ≤ m → 0 ≤ m.tdiv 10) ∧ (m ≤ 0 → m.tdiv 10 ≤ 0) := by
  constructor
  · intro h; exact Int.tdiv_nonneg h (by omega)
  · intro h
    obtain ⟨k, hk⟩ := Int.eq_ofNat_of_zero_le (a := -m) (by omega)
    obtain rfl : m = -(k : Int) := by omega
    rw [Int.neg_tdiv]
    have : (0 : Int) ≤ (k : Int).tdiv 10 := Int.tdiv_nonneg (by omega) (by omega)
    omega
theorem abs_rem (m : Int) : (if m.tmod 10 < 0 then -(m.tmod 10) else m.tmod 10) = ((m.natAbs % 10 : Nat) : Int) := by
  rcases Int.le_total 0 m with h | h
  · obtain ⟨k, rfl⟩ := Int.eq_ofNat_of_zero_le h
    have e : (k : Int).tmod 10 = ((k % 10 : Nat) : Int) := (Int.ofNat_tmod k 10).symm
    rw [e, if_neg (by omega)]; simp
  · obtain ⟨k, hk⟩ := Int.eq_ofNat_of_zero_le (a := -m) (by omega)
    obtain rfl : m = -(k : Int) := by omega
    have e : (k : Int).tmod 10 = ((k % 10 : Nat) : Int) := (Int.ofNat_tmod k 10).symm
    rw [Int.neg_tmod, e]
    split <;> omega

set_option maxHeartbeats 4000000 in
theorem Tryz.specFI_ok (n : Int) (n1 : -9223372036854775808 ≤ n) (n2 : n ≤ 9223372036854775807) : PCall Tryz.prog 165 [.val (.int .i64 n)] (str (Lib.itoa n)) := by
  refine FCall.pcall (R := fun r _ => r = str (Lib.itoa n)) ?_ 0 (by rintro r H rfl; exact zd)
  refine FCall.of_body Tryz.func165 rfl (by kernel_rfl) (by simp [Tryz.ntmps165]) ?_
  refine SW_of_vc Tryz.mixed _ _ _ (by kernel_rfl) ?_
  by_cases h0 : n = 0
  · subst h0
    simp (disch := omega) only [go_sem]
    exact Fin.val (by rw [Lib.itoa, if_neg (by omega)]; rw [Lib.decDigits, dif_pos (by decide)]; rfl)
  have hlen := digz_le n.natAbs
  simp (disch := omega) only [go_sem, beq_iff_eq]
  refine LoopW.loop (fun p : Int × List UInt8 × Nat => ⟨ofL [(0, .val (.int .i64 p.1)), (3, str p.2.1), (4, .val (.bool (decide (n < 0))))], hp [] p.2.2⟩)
    (fun p => digz p.1.natAbs ++ p.2.1 = digz n.natAbs ∧ p.1.natAbs ≤ n.natAbs ∧ (0 ≤ n → 0 ≤ p.1) ∧ (n ≤ 0 → p.1 ≤ 0)) (fun p => p.1.natAbs) (n, [], 0) ⟨by simp, Nat.le_refl _, id, id⟩ (Wk.of (by simp only [go_sem, ↓List.forall_mem_cons, List.not_mem_nil, false_implies, implies_true, and_true, true_and, and_self, ri_eq, Int.natCast_add, Int.cast_ofNat_Int]; try simp) rfl) ?_
  rintro ⟨m, l, nb⟩ ⟨hd, hm, hs1, hs2⟩
  simp only at hd hm hs1 hs2
  refine SW_of_vc Tryz.mixed _ _ _ (by kernel_rfl) ?_
  by_cases hm0 : m = 0
  · subst hm0
    have hl : l = digz n.natAbs := by simpa [digz] using hd
    have hll : l.length ≤ n.natAbs / 2 + 1 := by rw [hl]; exact hlen
    by_cases hneg : n < 0
    · simp (disch := omega) only [go_sem]
      exact Fin.val (by rw [itoa_eq n h0, if_pos hneg, hl])
    · simp (disch := omega) only [go_sem]
      exact Fin.val (by rw [itoa_eq n h0, if_neg hneg, hl])
  · have hll : l.length ≤ n.natAbs / 2 + 1 := by
      have := congrArg List.length hd
      rw [List.length_append] at this; omega
    have hd2 := digz_step (u := m.natAbs) (by omega)
    have hq1 := abs_quo m
    have hq2 := quo_sign m
    have hr := abs_rem m
    have hdig : ∀ x : Int, x = ((m.natAbs % 10 : Nat) : Int) → UInt8.ofNat (IntKind.u8.wrap (48 + x)).toNat = UInt8.ofNat (48 + m.natAbs % 10) := fun x hx => by
      subst hx
      rw [wrap8_id (by omega) (by omega)]
      congr 1
    have hd3 : digz (m.tdiv 10).natAbs ++ UInt8.ofNat (48 + m.natAbs % 10) :: l = digz n.natAbs := by rw [hq1, ← hd, hd2]; simp
    by_cases hneg : m.tmod 10 < 0
    · rw [if_pos hneg] at hr
      have hdg := hdig (0 - m.tmod 10) (by omega)
      simp (disch := omega) only [go_sem, hdg]
      exact ⟨(m.tdiv 10, UInt8.ofNat (48 + m.natAbs % 10) :: l, nb + 1), ⟨hd3, by simp only; omega, fun h => hq2.1 (hs1 h), fun h => hq2.2 (hs2 h)⟩, by simp only; omega, Wk.ofH (by simp only [go_sem, ↓List.forall_mem_cons, List.not_mem_nil, false_implies, implies_true, and_true, true_and, and_self, ri_eq, Int.natCast_add, Int.cast_ofNat_Int]; try simp) (by simp) (Nat.le_refl _)⟩
    · rw [if_neg hneg] at hr
      have hdg := hdig (m.tmod 10) hr
      simp (disch := omega) only [go_sem, hdg]
      exact ⟨(m.tdiv 10, UInt8.ofNat (48 + m.natAbs % 10) :: l, nb + 1), ⟨hd3, by simp only; omega, fun h => hq2.1 (hs1 h), fun h => hq2.2 (hs2 h)⟩, by simp only; omega, Wk.ofH (by simp only [go_sem, ↓List.forall_mem_cons, List.not_mem_nil, false_implies, implies_true, and_true, true_and, and_self, ri_eq, Int.natCast_add, Int.cast_ofNat_Int]; try simp) (by simp) (Nat.le_refl _)⟩
end Go.Sh
